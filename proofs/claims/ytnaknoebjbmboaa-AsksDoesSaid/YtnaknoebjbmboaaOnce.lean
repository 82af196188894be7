import Derived.Test.YtnaknoebjbmboaaRise
namespace Go.Proofs.Ytnaknoebjbmboaa
open Go.RowKit

theorem aDel_found {ν : Type} (k : Int) : ∀ {L : List (Int × ν)} {v : ν}, aGet k L = some v → (aDel k L).length + 1 = L.length
  | [], _, h => by simp [aGet] at h
  | (j, u) :: r, v, h => by
    unfold aGet at h
    unfold aDel
    by_cases hj : k = j
    · simp [hj]
    · rw [if_neg hj] at h
      simp [hj, aDel_found k h]

structure OInv (R : Int) (k : Nat) (S : BookD) : Prop where
  room : S.room = R
  lo : 0 ≤ S.last
  hi : S.last ≤ k
  keys : ∀ x ∈ S.L, x.1 ≤ S.last
  a0 : 0 ≤ S.asked
  n0 : 0 ≤ S.ans
  e0 : 0 ≤ S.exp
  sum : S.asked = S.ans + S.exp + S.L.length
  a1 : S.asked ≤ k
theorem OInv.next {R : Int} {k : Nat} {S : BookD} (h : OInv R k S) : OInv R (k + 1) S :=
  ⟨h.room, h.lo, by have := h.hi; omega, h.keys, h.a0, h.n0, h.e0, h.sum, by have := h.a1; omega⟩

theorem ask_bad (w : World) (b m : Nat) (S : BookD) (node kind : Int) (h : BookAt w b m S) (hI : 0 ≤ S.last ∧ S.last < 2147483647) (hb : ¬ (0 ≤ node ∧ node < 32 ∧ replyOf kind ≠ 0 ∧ (S.L.length : Int) < S.room)) :
    Calls Try.prog 10 #[.pointer (some ⟨b, 0, none⟩), .int .i64 node, .int .i64 kind] w fun e w' => ∃ c : Int, (c == 0) = false ∧ e = .returned (.tuple #[.int .i64 0, .int .i64 c]) ∧ Below w.heap.size w w' := by
  by_cases h1 : node < 0 ∨ 32 ≤ node ∨ replyOf kind = 0
  · refine (ask_arg w b m S node kind h h1).mono ?_
    rintro e w' ⟨he, rfl⟩
    exact ⟨1, rfl, he, Below.refl _ _⟩
  · refine (ask_full w b m S node kind h (by omega) (by omega) (by simp <;> omega) (.inl (by omega))).mono ?_
    rintro e w' ⟨he, hw⟩
    exact ⟨6, rfl, he, hw⟩
theorem once_ask (w : World) (b m : Nat) (S : BookD) (node kind : Int) (R : Int) (k : Nat) (hk : k ≤ 100) (h : BookAt w b m S) (hI : OInv R k S) (h1 : 0 ≤ node) (h2 : node < 32) (h3 : replyOf kind ≠ 0) (h4 : (S.L.length : Int) < S.room) :
    Calls Try.prog 10 #[.pointer (some ⟨b, 0, none⟩), .int .i64 node, .int .i64 kind] w fun e w' => e = .returned (.tuple #[.int .i64 (S.last + 1), .int .i64 0]) ∧
      ∃ S1 : BookD, S1.asked = S.asked + 1 ∧ S1.L = aPut (S.last + 1) ⟨S.last + 1, node, kind⟩ S.L ∧ OInv R (k + 1) S1 ∧ BookAt w' b m S1 ∧ Keeps (fun k => k = b ∨ k = m) w w' := by
  have h5 := hI.lo
  have h6 := hI.hi
  have h7 := hI.a1
  refine (ask_ok w b m S node kind h h1 h2 (by simpa using h3) h4 (by omega) h5 hI.a0 (by omega)).mono ?_
  rintro e w' ⟨he, hb, hk'⟩
  have hL : aPut (S.last + 1) (⟨S.last + 1, node, kind⟩ : AskD) S.L = S.L ++ [(S.last + 1, ⟨S.last + 1, node, kind⟩)] := aPut_new _ _ (fun x hx e => by have := hI.keys x hx; omega)
  have hs := hI.sum
  refine ⟨he, { S with last := S.last + 1, L := aPut (S.last + 1) ⟨S.last + 1, node, kind⟩ S.L, asked := S.asked + 1 }, rfl, rfl, ⟨hI.room, ?_, ?_, ?_, ?_, hI.n0, hI.e0, ?_, ?_⟩, hb, hk'⟩
  · show 0 ≤ S.last + 1; omega
  · show S.last + 1 ≤ ((k + 1 : Nat) : Int); omega
  · intro x hx
    simp only [hL, List.mem_append, List.mem_singleton] at hx ⊢
    rcases hx with hx | rfl
    · have := hI.keys x hx; omega
    · exact Int.le_refl _
  · have := hI.a0; show 0 ≤ S.asked + 1; omega
  · simp [hL]; omega
  · show S.asked + 1 ≤ ((k + 1 : Nat) : Int); omega
theorem once_answer (w : World) (b m : Nat) (S : BookD) (node id kind : Int) (a : AskD) (R : Int) (k : Nat) (hk : k ≤ 100) (h : BookAt w b m S) (hI : OInv R k S) (ha : aGet id S.L = some a) (h1 : a.node = node) (h2 : replyOf a.kind = kind) :
    Calls Try.prog 13 #[.pointer (some ⟨b, 0, none⟩), .int .i64 node, .int .i64 id, .int .i64 kind] w fun e w' => e = .returned (.tuple #[askV a, .int .i64 0]) ∧
      ∃ S1 : BookD, S1.asked = S.asked ∧ S1.L = aDel id S.L ∧ OInv R (k + 1) S1 ∧ BookAt w' b m S1 ∧ Keeps (fun k => k = b ∨ k = m) w w' := by
  have hs := hI.sum
  have hl := aDel_found id ha
  have h0 := hI.n0
  have h3 := hI.e0
  have h4 := hI.a1
  have h5 := hI.hi
  refine (answer_ok w b m S node id kind a h ha h1 h2 h0 (by omega)).mono ?_
  rintro e w' ⟨he, hb, hk'⟩
  refine ⟨he, { S with L := aDel id S.L, ans := S.ans + 1 }, rfl, rfl, ⟨hI.room, hI.lo, ?_, fun x hx => hI.keys x (aDel_sub id hx), hI.a0, ?_, h3, ?_, ?_⟩, hb, hk'⟩
  · show S.last ≤ ((k + 1 : Nat) : Int); omega
  · show 0 ≤ S.ans + 1; omega
  · show S.asked = S.ans + 1 + S.exp + ((aDel id S.L).length : Int); omega
  · show S.asked ≤ ((k + 1 : Nat) : Int); omega
theorem once_expire (w : World) (b m : Nat) (S : BookD) (id : Int) (a : AskD) (R : Int) (k : Nat) (hk : k ≤ 100) (h : BookAt w b m S) (hI : OInv R k S) (ha : aGet id S.L = some a) :
    Calls Try.prog 16 #[.pointer (some ⟨b, 0, none⟩), .int .i64 id] w fun e w' => e = .returned (.tuple #[askV a, .int .i64 0]) ∧
      ∃ S1 : BookD, S1.asked = S.asked ∧ S1.L = aDel id S.L ∧ OInv R (k + 1) S1 ∧ BookAt w' b m S1 ∧ Keeps (fun k => k = b ∨ k = m) w w' := by
  have hs := hI.sum
  have hl := aDel_found id ha
  have h0 := hI.n0
  have h3 := hI.e0
  have h4 := hI.a1
  have h5 := hI.hi
  refine (expire_ok w b m S id a h ha h3 (by omega)).mono ?_
  rintro e w' ⟨he, hb, hk'⟩
  refine ⟨he, { S with L := aDel id S.L, exp := S.exp + 1 }, rfl, rfl, ⟨hI.room, hI.lo, ?_, fun x hx => hI.keys x (aDel_sub id hx), hI.a0, h0, ?_, ?_, ?_⟩, hb, hk'⟩
  · show S.last ≤ ((k + 1 : Nat) : Int); omega
  · show 0 ≤ S.exp + 1; omega
  · show S.asked = S.ans + (S.exp + 1) + ((aDel id S.L).length : Int); omega
  · show S.asked ≤ ((k + 1 : Nat) : Int); omega
theorem answer_bad (w : World) (b m : Nat) (S : BookD) (node id kind : Int) (h : BookAt w b m S) (hne : ∀ a, aGet id S.L = some a → a.node ≠ node ∨ replyOf a.kind ≠ kind) :
    Calls Try.prog 13 #[.pointer (some ⟨b, 0, none⟩), .int .i64 node, .int .i64 id, .int .i64 kind] w fun e w' => e = .returned (.tuple #[askV ⟨0, 0, 0⟩, .int .i64 4]) ∧ Below w.heap.size w w' := by
  cases ha : aGet id S.L with
  | none => exact answer_none w b m S node id kind h ha
  | some a =>
    by_cases h2 : a.node = node
    · subst h2
      exact answer_kind w b m S _ id kind a h ha (by simp) (by rcases hne a ha with h3 | h3; exact absurd rfl h3; simpa using h3)
    · exact answer_node w b m S node id kind a h ha (by simpa using h2)
theorem len_same (w : World) (b m : Nat) (S : BookD) (h : BookAt w b m S) :
    Calls Try.prog 11 #[.pointer (some ⟨b, 0, none⟩)] w fun e w' => e = .returned (.int .i64 S.L.length) ∧ w' = w :=
  (len_any w b m S h).mono fun _ _ ⟨he, hw⟩ => ⟨he, hw.symm⟩
theorem ref_reply_same (k : Int) (w : World) : Calls Try.prog 12 #[.int .i64 k] w fun e w' => e = .returned (.int .i64 (replyOf k)) ∧ w' = w :=
  (ref_reply_any k w).mono fun _ _ ⟨he, hw⟩ => ⟨he, hw.symm⟩
theorem BookAt.drewN {w : World} {b m : Nat} {S : BookD} (h : BookAt w b m S) (n : Nat) : BookAt (w.drewN n) b m S :=
  h.keep (F := fun _ => False) ((Keeps.refl _ _).drewN _) (fun h => h) (fun h => h)
theorem MapI.drewN {ν : Type} {enc : ν → Value} {w : World} {m : Nat} {L : List (Int × ν)} (h : MapI w m enc L) (n : Nat) : MapI (w.drewN n) m enc L := h.of_heap rfl
theorem below_drewN {B : Nat} {a w : World} (h : Below B a w) (n : Nat) : Below B a (w.drewN n) := ⟨h.os, h.tape, h.output, h.size, h.block⟩
theorem stat_full (F : Nat → Prop) (w4 w : World) (b m m2 : Nat) (S : BookD) (o : Obj) (hk : Keeps F w4 w) (h4 : BookAt w4 b m S) (nb : ¬ F b) (nm : ¬ F m) (ho : obj w m2 = some o) :
    Calls Try.prog 15 #[.pointer (some ⟨b, 0, none⟩)] w fun e w' => e = .returned (.agg #[.int .i64 S.asked, .int .i64 S.ans, .int .i64 S.exp]) ∧ Keeps F w4 w' ∧ obj w' m2 = some o := by
  refine (stat_any w b m S (h4.keep hk nb nm)).mono ?_
  rintro e w' ⟨he, hb⟩
  exact ⟨he, hk.trans (Keeps.of_below hb), (obj_below hb (lt_of_obj ho)).trans ho⟩
theorem MapI.alloc {ν : Type} {enc : ν → Value} {w : World} {m : Nat} {L : List (Int × ν)} (h : MapI w m enc L) (o : Obj) : MapI (w.alloc o) m enc L :=
  h.of_heap (obj_alloc_past _ _ _ h.lt)

set_option maxRecDepth 100000 in
set_option maxHeartbeats 4000000 in
theorem once_a (room : Int) (a0 : 0 ≤ room) (a1 : room ≤ 255) (bb off len cap : Nat) (hlc : len ≤ cap) (hcap : cap ≤ maxLen) (hn : len ≤ 80) (w : World) (hbb : bb < w.heap.size)
    (hc : ∀ i, i < len → ∃ dd nd kd id : Int, w.cell? ⟨bb, off + i * 4, none⟩ = some (.int .i64 dd) ∧ w.cell? ⟨bb, off + i * 4 + 1, none⟩ = some (.int .i64 nd) ∧ w.cell? ⟨bb, off + i * 4 + 2, none⟩ = some (.int .i64 kd) ∧ w.cell? ⟨bb, off + i * 4 + 3, none⟩ = some (.int .i64 id)) :
    Calls Try.prog 5 #[.int .u8 room, .slice (some ⟨bb, off, none⟩) len cap] w fun e w' => e = .returned (.bool true) ∧ Below w.heap.size w w' := by
  unfold maxLen at hcap
  have hmm := @run_makeMap Try.prog
  have HC := Lib.hid hc
  clear hc
  go_enter Try.func5, Try.ntmps5
  go_wp2_with fail
  refine (new_ok w _ _ (by omega) (by omega) (by omega) (by omega)).mono ?_
  rintro e w1 ⟨rfl, g1, k1⟩
  go_wp2_with fail
  refine (begun_any w1).mono ?_
  rintro e w2 ⟨rfl, k2⟩
  have g2 := (g1.below k2).alloc (.map #[] 0)
  have b2 : Below w.heap.size w (w2.alloc (.map #[] 0)) := (k1.trans (k2.mono (by have := k1.size; omega))).alloc (by have := k1.size; have := k2.size; omega) _
  have i2 : OInv (1 + room) 0 ⟨1 + room, 0, [], 0, 0, 0⟩ := ⟨rfl, Int.le_refl _, Int.le_refl _, by simp, Int.le_refl _, Int.le_refl _, Int.le_refl _, by simp, Int.le_refl _⟩
  have m2 : MapI (w2.alloc (.map #[] 0)) w2.heap.size askV ([] : List (Int × AskD)) := ⟨#[], 0, obj_alloc_at _ _ _ rfl, trivial⟩
  have z2 : w.heap.size + 1 < w2.heap.size := (g1.below k2).lt
  clear g1 k1 k2
  go_wp2_with fail
  clear hmm
  go_loopw [8, 42] (fun v8 v42 wr => ∃ (k : Nat) (S : BookD), k ≤ len ∧ v42 = .int .i64 k ∧ v8 = .int .i64 S.asked ∧ OInv (1 + room) k S ∧ BookAt wr (w.heap.size + 1) w.heap.size S ∧ MapI wr w2.heap.size askV S.L ∧ Below w.heap.size w wr) (fun _ i _ => len - (intOf i).toNat)
  case atStart => exact ⟨0, _, Nat.zero_le _, rfl, rfl, i2, g2, m2, b2⟩
  case round =>
    clear i2 g2 m2 b2
    obtain ⟨k, S, hk, rfl, rfl, hI, hB, hM, hb⟩ := hrel
    by_cases hlt : k < len
    · obtain ⟨dd, nd, kd, id, c0, c1, c2, c3⟩ := HC.out k (by omega)
      have q0 := (hb.cell (p := ⟨bb, off + k * 4, none⟩) hbb).trans c0
      have q1 := (hb.cell (p := ⟨bb, off + k * 4 + 1, none⟩) hbb).trans c1
      have q2 := (hb.cell (p := ⟨bb, off + k * 4 + 2, none⟩) hbb).trans c2
      have q3 := (hb.cell (p := ⟨bb, off + k * 4 + 3, none⟩) hbb).trans c3
      clear c0 c1 c2 c3
      have zz : w.heap.size ≤ wr.heap.size := hb.size
      have zb := hB.lt
      have zm := hM.lt
      have HI := Lib.hid hI
      have hi1 := hI.lo
      have hi2 := hI.hi
      have hi3 := hI.a0
      have hi4 := hI.a1
      clear hI
      have zz1 : w.heap.size + 1 < wr.heap.size := zb
      have hroom : S.room = 1 + room := HI.out.room
      have JS : Hid (OInv (1 + room) (k + 1) S) := HI.out.next
      by_cases d0 : dd = 0
      · subst dd
        by_cases hok : 0 ≤ nd ∧ nd < 32 ∧ replyOf kd ≠ 0 ∧ (S.L.length : Int) < S.room
        · have HK := Lib.hid hok
          clear hok
          go_wp2_with fail
          have g1 := (hB.alloc (.cells #[.int .i64 0, .int .i64 nd, .int .i64 kd, .int .i64 id] 45)).alloc (.cells #[.int .i64 0, .int .i64 0, .int .i64 0] 32)
          have n1 := (hM.alloc (.cells #[.int .i64 0, .int .i64 nd, .int .i64 kd, .int .i64 id] 45)).alloc (.cells #[.int .i64 0, .int .i64 0, .int .i64 0] 32)
          have x1 : Below w.heap.size w ((wr.alloc (.cells #[.int .i64 0, .int .i64 nd, .int .i64 kd, .int .i64 id] 45)).alloc (.cells #[.int .i64 0, .int .i64 0, .int .i64 0] 32)) := (hb.alloc zz (.cells #[.int .i64 0, .int .i64 nd, .int .i64 kd, .int .i64 id] 45)).alloc (by simp <;> omega) (.cells #[.int .i64 0, .int .i64 0, .int .i64 0] 32)
          have o1 : obj ((wr.alloc (.cells #[.int .i64 0, .int .i64 nd, .int .i64 kd, .int .i64 id] 45)).alloc (.cells #[.int .i64 0, .int .i64 0, .int .i64 0] 32)) wr.heap.size = some (.cells #[.int .i64 0, .int .i64 nd, .int .i64 kd, .int .i64 id] 45) := by rw [obj_alloc_past _ _ _ (by simp)]; exact obj_alloc_at _ _ _ rfl
          have o2 : obj ((wr.alloc (.cells #[.int .i64 0, .int .i64 nd, .int .i64 kd, .int .i64 id] 45)).alloc (.cells #[.int .i64 0, .int .i64 0, .int .i64 0] 32)) (wr.heap.size + 1) = some (.cells #[.int .i64 0, .int .i64 0, .int .i64 0] 32) := obj_alloc_at _ _ _ (by simp)
          refine (once_ask _ _ _ S nd kd (1 + room) k (by omega) g1 HI.out HK.out.1 HK.out.2.1 HK.out.2.2.1 HK.out.2.2.2).mono ?_
          rintro e w4 ⟨rfl, S4, qa, qL, I4, g4, k4⟩
          have J4 := Lib.hid I4
          have QL := Lib.hid qL
          have QA := Lib.hid qa
          have hne1 : (S4.asked != S.asked + 1) = false := by simpa using qa
          clear I4 qL qa
          have n4 : MapI w4 w2.heap.size askV S.L := n1.keep k4 (by simp <;> omega)
          have x4 : Below w.heap.size w w4 := x1.trans (k4.below (by simp <;> omega) x1.size)
          have o4 := (k4.block _ (lt_of_obj o1) (by simp <;> omega)).trans o1
          have o5 := (k4.block _ (lt_of_obj o2) (by simp <;> omega)).trans o2
          obtain ⟨es, clk, hm4, hr⟩ := n4
          have zm4 := lt_of_obj hm4
          have zo := lt_of_obj o5
          have zo' := lt_of_obj o4
          have y1 : w4.cell? ⟨wr.heap.size, 1, none⟩ = some (.int .i64 nd) := cell_at o4 1
          have y2 : w4.cell? ⟨wr.heap.size, 2, none⟩ = some (.int .i64 kd) := cell_at o4 2
          have y3 : w4.cell? ⟨wr.heap.size, 3, none⟩ = some (.int .i64 id) := cell_at o4 3
          have y4 : w4.cell? ⟨wr.heap.size + 1, 0, none⟩ = some (.int .i64 0) := cell_at o5 0
          have y5 : w4.cell? ⟨wr.heap.size + 1, 1, none⟩ = some (.int .i64 0) := cell_at o5 1
          have y6 : w4.cell? ⟨wr.heap.size + 1, 2, none⟩ = some (.int .i64 0) := cell_at o5 2
          have yf : ∀ i, w4.frozen? ⟨wr.heap.size + 1, i, none⟩ = false := frozen_at o5
          have hneq : ¬ w2.heap.size = wr.heap.size + 1 := by omega
          have hneq' : ¬ wr.heap.size + 1 = w2.heap.size := by omega
          have hneq2 : ¬ wr.heap.size = w2.heap.size := by omega
          obtain ⟨es4, clk4, hu, hr4⟩ := run_mapUpdate_int (enc := askV) (clk := clk) Try.underlying43 Try.underlying2 hr w2.heap.size (S.last + 1) ⟨S.last + 1, nd, kd⟩
          rw [← QL.out] at hr4
          simp only [askV] at hu
          go_wp2_with fail
          refine (stat_full (fun i => i = w2.heap.size ∨ i = wr.heap.size + 1) w4 _ _ _ w2.heap.size S4 (.map es4 clk4) ?hk g4 (by simp <;> omega) (by simp <;> omega) ?ho).mono ?_
          case hk => (repeat (first | with_reducible exact Keeps.refl _ _ | with_reducible refine Keeps.drew ?_ | with_reducible refine Keeps.drewN ?_ _ | with_reducible refine Keeps.setCell ?_ (by simp) _ | with_reducible refine Keeps.putObj ?_ (by simp) _ | with_reducible refine Keeps.alloc ?_ _))
          case ho => simp [obj_setCell, obj_putObj, obj_drew, obj_drewN, obj_alloc_past, zm4, zo, hm4, hneq]
          rintro e w5 ⟨rfl, k5, hm5⟩
          have g5 := g4.keep k5 (by simp <;> omega) (by simp <;> omega)
          have x5 : Below w.heap.size w w5 := x4.trans (k5.below (by simp <;> omega) (by have := x4.size; omega))
          have zm5 := lt_of_obj hm5
          have hl5 : ∀ W : World, obj W w2.heap.size = some (.map es4 clk4) → (Builtin.len_ #[43] 3 #[.map (some w2.heap.size)]).run Try.prog W = .ok (.int .i64 S4.L.length) W := fun W hW => run_len_int Try.underlying43 3 ⟨es4, clk4, hW, hr4⟩
          have hsm := J4.out.sum
          have hs1 := J4.out.n0
          have hs2 := J4.out.e0
          have hs6 := J4.out.a1
          have hs3 : S4.ans ≤ 100 := by omega
          have hs4 : S4.exp ≤ 100 := by omega
          have hs5 : S4.L.length ≤ 100 := by omega
          clear hsm hs6
          have hsum : (S4.asked != S4.ans + S4.exp + (S4.L.length : Int)) = false := by simpa using J4.out.sum
          go_wp2_with fail
          go_quiet ((go_at_call 11; exact Calls.quiet_of_same (len_same _ _ _ _ ((g5.alloc _).drewN _))))
          go_wp2_with fail
          exact ⟨⟨k + 1, S4, by omega, by go_num, by rw [QA.out], J4.out, (g5.alloc _).drewN _, (MapI.alloc ⟨es4, clk4, hm5, hr4⟩ _).drewN _, below_drewN (x5.alloc (by have := x5.size; omega) _) _⟩, by simp [intOf]; omega⟩

        · have HK := Lib.hid hok
          clear hok
          go_wp2_with fail
          have g1 := (hB.alloc (.cells #[.int .i64 0, .int .i64 nd, .int .i64 kd, .int .i64 id] 45)).alloc (.cells #[.int .i64 0, .int .i64 0, .int .i64 0] 32)
          have n1 := (hM.alloc (.cells #[.int .i64 0, .int .i64 nd, .int .i64 kd, .int .i64 id] 45)).alloc (.cells #[.int .i64 0, .int .i64 0, .int .i64 0] 32)
          have x1 : Below w.heap.size w ((wr.alloc (.cells #[.int .i64 0, .int .i64 nd, .int .i64 kd, .int .i64 id] 45)).alloc (.cells #[.int .i64 0, .int .i64 0, .int .i64 0] 32)) := (hb.alloc zz (.cells #[.int .i64 0, .int .i64 nd, .int .i64 kd, .int .i64 id] 45)).alloc (by simp <;> omega) (.cells #[.int .i64 0, .int .i64 0, .int .i64 0] 32)
          have o1 : obj ((wr.alloc (.cells #[.int .i64 0, .int .i64 nd, .int .i64 kd, .int .i64 id] 45)).alloc (.cells #[.int .i64 0, .int .i64 0, .int .i64 0] 32)) wr.heap.size = some (.cells #[.int .i64 0, .int .i64 nd, .int .i64 kd, .int .i64 id] 45) := by rw [obj_alloc_past _ _ _ (by simp)]; exact obj_alloc_at _ _ _ rfl
          have o2 : obj ((wr.alloc (.cells #[.int .i64 0, .int .i64 nd, .int .i64 kd, .int .i64 id] 45)).alloc (.cells #[.int .i64 0, .int .i64 0, .int .i64 0] 32)) (wr.heap.size + 1) = some (.cells #[.int .i64 0, .int .i64 0, .int .i64 0] 32) := obj_alloc_at _ _ _ (by simp)
          refine (ask_bad _ _ _ S nd kd g1 ⟨hi1, by omega⟩ HK.out).mono ?_
          rintro e w4 ⟨c, hc, rfl, k4⟩
          have g4 := g1.below k4
          have n4 : MapI w4 w2.heap.size askV S.L := n1.of_heap (obj_below k4 n1.lt)
          have x4 := x1.trans (k4.mono x1.size)
          have o4 := (obj_below k4 (lt_of_obj o1)).trans o1
          have o5 := (obj_below k4 (lt_of_obj o2)).trans o2
          obtain ⟨es, clk, hm4, hr⟩ := n4
          have zm4 := lt_of_obj hm4
          have zo := lt_of_obj o5
          have zo' := lt_of_obj o4
          have y1 : w4.cell? ⟨wr.heap.size, 1, none⟩ = some (.int .i64 nd) := cell_at o4 1
          have y2 : w4.cell? ⟨wr.heap.size, 2, none⟩ = some (.int .i64 kd) := cell_at o4 2
          have y3 : w4.cell? ⟨wr.heap.size, 3, none⟩ = some (.int .i64 id) := cell_at o4 3
          have y4 : w4.cell? ⟨wr.heap.size + 1, 0, none⟩ = some (.int .i64 0) := cell_at o5 0
          have y5 : w4.cell? ⟨wr.heap.size + 1, 1, none⟩ = some (.int .i64 0) := cell_at o5 1
          have y6 : w4.cell? ⟨wr.heap.size + 1, 2, none⟩ = some (.int .i64 0) := cell_at o5 2
          have yf : ∀ i, w4.frozen? ⟨wr.heap.size + 1, i, none⟩ = false := frozen_at o5
          have hneq : ¬ w2.heap.size = wr.heap.size + 1 := by omega
          have hneq' : ¬ wr.heap.size + 1 = w2.heap.size := by omega
          have hneq2 : ¬ wr.heap.size = w2.heap.size := by omega
          go_wp2_with fail
          refine (stat_full (fun i => i = w2.heap.size ∨ i = wr.heap.size + 1) w4 _ _ _ w2.heap.size S (.map es clk) ?hk g4 (by simp <;> omega) (by simp <;> omega) ?ho).mono ?_
          case hk => (repeat (first | with_reducible exact Keeps.refl _ _ | with_reducible refine Keeps.drew ?_ | with_reducible refine Keeps.drewN ?_ _ | with_reducible refine Keeps.setCell ?_ (by simp) _ | with_reducible refine Keeps.putObj ?_ (by simp) _ | with_reducible refine Keeps.alloc ?_ _))
          case ho => simp [obj_setCell, obj_putObj, obj_drew, obj_drewN, obj_alloc_past, zm4, zo, hm4, hneq]
          rintro e w5 ⟨rfl, k5, hm5⟩
          have g5 := g4.keep k5 (by simp <;> omega) (by simp <;> omega)
          have x5 : Below w.heap.size w w5 := x4.trans (k5.below (by simp <;> omega) (by have := x4.size; omega))
          have zm5 := lt_of_obj hm5
          have hl5 : ∀ W : World, obj W w2.heap.size = some (.map es clk) → (Builtin.len_ #[43] 3 #[.map (some w2.heap.size)]).run Try.prog W = .ok (.int .i64 S.L.length) W := fun W hW => run_len_int Try.underlying43 3 ⟨es, clk, hW, hr⟩
          have hsm := JS.out.sum
          have hs1 := JS.out.n0
          have hs2 := JS.out.e0
          have hs6 := JS.out.a1
          have hs3 : S.ans ≤ 100 := by omega
          have hs4 : S.exp ≤ 100 := by omega
          have hs5 : S.L.length ≤ 100 := by omega
          clear hsm hs6
          have hsum : (S.asked != S.ans + S.exp + (S.L.length : Int)) = false := by simpa using JS.out.sum
          go_wp2_with fail
          go_quiet ((go_at_call 11; exact Calls.quiet_of_same (len_same _ _ _ _ ((g5.alloc _).drewN _))))
          go_wp2_with fail
          exact ⟨⟨k + 1, S, by omega, by go_num, by rfl, JS.out, (g5.alloc _).drewN _, (MapI.alloc ⟨es, clk, hm5, hr⟩ _).drewN _, below_drewN (x5.alloc (by have := x5.size; omega) _) _⟩, by simp [intOf]; omega⟩

      · by_cases d1 : dd = 1
        · subst dd
          by_cases hok : ∃ a, aGet id S.L = some a ∧ a.node = nd ∧ replyOf a.kind = kd
          · obtain ⟨a, ha, h1, h2⟩ := hok
            have HA := Lib.hid ha
            have H1 := Lib.hid h1
            have H2 := Lib.hid h2
            have hnd : (a.node != nd) = false := by simpa using h1
            have hkd : (replyOf a.kind != kd) = false := by simpa using h2
            clear ha h1 h2
            go_wp2_with fail
            have g1 := (hB.alloc (.cells #[.int .i64 1, .int .i64 nd, .int .i64 kd, .int .i64 id] 45)).alloc (.cells #[.int .i64 0, .int .i64 0, .int .i64 0] 32)
            have n1 := (hM.alloc (.cells #[.int .i64 1, .int .i64 nd, .int .i64 kd, .int .i64 id] 45)).alloc (.cells #[.int .i64 0, .int .i64 0, .int .i64 0] 32)
            have x1 : Below w.heap.size w ((wr.alloc (.cells #[.int .i64 1, .int .i64 nd, .int .i64 kd, .int .i64 id] 45)).alloc (.cells #[.int .i64 0, .int .i64 0, .int .i64 0] 32)) := (hb.alloc zz (.cells #[.int .i64 1, .int .i64 nd, .int .i64 kd, .int .i64 id] 45)).alloc (by simp <;> omega) (.cells #[.int .i64 0, .int .i64 0, .int .i64 0] 32)
            have o1 : obj ((wr.alloc (.cells #[.int .i64 1, .int .i64 nd, .int .i64 kd, .int .i64 id] 45)).alloc (.cells #[.int .i64 0, .int .i64 0, .int .i64 0] 32)) wr.heap.size = some (.cells #[.int .i64 1, .int .i64 nd, .int .i64 kd, .int .i64 id] 45) := by rw [obj_alloc_past _ _ _ (by simp)]; exact obj_alloc_at _ _ _ rfl
            have o2 : obj ((wr.alloc (.cells #[.int .i64 1, .int .i64 nd, .int .i64 kd, .int .i64 id] 45)).alloc (.cells #[.int .i64 0, .int .i64 0, .int .i64 0] 32)) (wr.heap.size + 1) = some (.cells #[.int .i64 0, .int .i64 0, .int .i64 0] 32) := obj_alloc_at _ _ _ (by simp)
            refine (once_answer _ _ _ S nd id kd a (1 + room) k (by omega) g1 HI.out HA.out H1.out H2.out).mono ?_
            rintro e w4 ⟨rfl, S4, qa, qL, I4, g4, k4⟩
            have J4 := Lib.hid I4
            have QL := Lib.hid qL
            have QA := Lib.hid qa
            have hne1 : (S4.asked != S.asked) = false := by simpa using qa
            clear I4 qL qa
            have n4 : MapI w4 w2.heap.size askV S.L := n1.keep k4 (by simp <;> omega)
            have x4 : Below w.heap.size w w4 := x1.trans (k4.below (by simp <;> omega) x1.size)
            have o4 := (k4.block _ (lt_of_obj o1) (by simp <;> omega)).trans o1
            have o5 := (k4.block _ (lt_of_obj o2) (by simp <;> omega)).trans o2
            obtain ⟨es, clk, hm4, hr⟩ := n4
            have zm4 := lt_of_obj hm4
            have zo := lt_of_obj o5
            have zo' := lt_of_obj o4
            have y1 : w4.cell? ⟨wr.heap.size, 1, none⟩ = some (.int .i64 nd) := cell_at o4 1
            have y2 : w4.cell? ⟨wr.heap.size, 2, none⟩ = some (.int .i64 kd) := cell_at o4 2
            have y3 : w4.cell? ⟨wr.heap.size, 3, none⟩ = some (.int .i64 id) := cell_at o4 3
            have y4 : w4.cell? ⟨wr.heap.size + 1, 0, none⟩ = some (.int .i64 0) := cell_at o5 0
            have y5 : w4.cell? ⟨wr.heap.size + 1, 1, none⟩ = some (.int .i64 0) := cell_at o5 1
            have y6 : w4.cell? ⟨wr.heap.size + 1, 2, none⟩ = some (.int .i64 0) := cell_at o5 2
            have yf : ∀ i, w4.frozen? ⟨wr.heap.size + 1, i, none⟩ = false := frozen_at o5
            have hneq : ¬ w2.heap.size = wr.heap.size + 1 := by omega
            have hneq' : ¬ wr.heap.size + 1 = w2.heap.size := by omega
            have hneq2 : ¬ wr.heap.size = w2.heap.size := by omega
            have hlk : ∀ W : World, obj W w2.heap.size = some (.map es clk) → (Instr.lookup 43 (.map (some w2.heap.size)) (.int .i64 id) true).run Try.prog W = .ok (.tuple #[.agg #[.int .i64 a.id, .int .i64 a.node, .int .i64 a.kind], .bool true]) W := by
              intro W hW
              have := run_lookup_int (w := W) Try.underlying43 Try.underlying2 zero32 ⟨es, clk, hW, hr⟩ id
              rw [HA.out] at this
              exact this
            obtain ⟨es4, hu, hr4⟩ := run_delete_int (enc := askV) (clk := clk) Try.underlying43 Try.underlying2 0 2 hr w2.heap.size id
            rw [← QL.out] at hr4
            unfold askV
            go_wp2_with fail
            go_quiet ((go_at_call 12; exact Calls.quiet_of_same (ref_reply_same _ _)))
            go_wp2_with fail
            refine (stat_full (fun i => i = w2.heap.size ∨ i = wr.heap.size + 1) w4 _ _ _ w2.heap.size S4 (.map es4 clk) ?hk g4 (by simp <;> omega) (by simp <;> omega) ?ho).mono ?_
            case hk => (repeat (first | with_reducible exact Keeps.refl _ _ | with_reducible refine Keeps.drew ?_ | with_reducible refine Keeps.drewN ?_ _ | with_reducible refine Keeps.setCell ?_ (by simp) _ | with_reducible refine Keeps.putObj ?_ (by simp) _ | with_reducible refine Keeps.alloc ?_ _))
            case ho => simp [obj_setCell, obj_putObj, obj_drew, obj_drewN, obj_alloc_past, zm4, zo, hm4, hneq]
            rintro e w5 ⟨rfl, k5, hm5⟩
            have g5 := g4.keep k5 (by simp <;> omega) (by simp <;> omega)
            have x5 : Below w.heap.size w w5 := x4.trans (k5.below (by simp <;> omega) (by have := x4.size; omega))
            have zm5 := lt_of_obj hm5
            have hl5 : ∀ W : World, obj W w2.heap.size = some (.map es4 clk) → (Builtin.len_ #[43] 3 #[.map (some w2.heap.size)]).run Try.prog W = .ok (.int .i64 S4.L.length) W := fun W hW => run_len_int Try.underlying43 3 ⟨es4, clk, hW, hr4⟩
            have hsm := J4.out.sum
            have hs1 := J4.out.n0
            have hs2 := J4.out.e0
            have hs6 := J4.out.a1
            have hs3 : S4.ans ≤ 100 := by omega
            have hs4 : S4.exp ≤ 100 := by omega
            have hs5 : S4.L.length ≤ 100 := by omega
            clear hsm hs6
            have hsum : (S4.asked != S4.ans + S4.exp + (S4.L.length : Int)) = false := by simpa using J4.out.sum
            go_wp2_with fail
            go_quiet ((go_at_call 11; exact Calls.quiet_of_same (len_same _ _ _ _ ((g5.alloc _).drewN _))))
            go_wp2_with fail
            exact ⟨⟨k + 1, S4, by omega, by go_num, by rw [QA.out], J4.out, (g5.alloc _).drewN _, (MapI.alloc ⟨es4, clk, hm5, hr4⟩ _).drewN _, below_drewN (x5.alloc (by have := x5.size; omega) _) _⟩, by simp [intOf]; omega⟩

          · have HK := Lib.hid hok
            clear hok
            go_wp2_with fail
            have g1 := (hB.alloc (.cells #[.int .i64 1, .int .i64 nd, .int .i64 kd, .int .i64 id] 45)).alloc (.cells #[.int .i64 0, .int .i64 0, .int .i64 0] 32)
            have n1 := (hM.alloc (.cells #[.int .i64 1, .int .i64 nd, .int .i64 kd, .int .i64 id] 45)).alloc (.cells #[.int .i64 0, .int .i64 0, .int .i64 0] 32)
            have x1 : Below w.heap.size w ((wr.alloc (.cells #[.int .i64 1, .int .i64 nd, .int .i64 kd, .int .i64 id] 45)).alloc (.cells #[.int .i64 0, .int .i64 0, .int .i64 0] 32)) := (hb.alloc zz (.cells #[.int .i64 1, .int .i64 nd, .int .i64 kd, .int .i64 id] 45)).alloc (by simp <;> omega) (.cells #[.int .i64 0, .int .i64 0, .int .i64 0] 32)
            have o1 : obj ((wr.alloc (.cells #[.int .i64 1, .int .i64 nd, .int .i64 kd, .int .i64 id] 45)).alloc (.cells #[.int .i64 0, .int .i64 0, .int .i64 0] 32)) wr.heap.size = some (.cells #[.int .i64 1, .int .i64 nd, .int .i64 kd, .int .i64 id] 45) := by rw [obj_alloc_past _ _ _ (by simp)]; exact obj_alloc_at _ _ _ rfl
            have o2 : obj ((wr.alloc (.cells #[.int .i64 1, .int .i64 nd, .int .i64 kd, .int .i64 id] 45)).alloc (.cells #[.int .i64 0, .int .i64 0, .int .i64 0] 32)) (wr.heap.size + 1) = some (.cells #[.int .i64 0, .int .i64 0, .int .i64 0] 32) := obj_alloc_at _ _ _ (by simp)
            refine (answer_bad _ _ _ S nd id kd g1 (fun a ha => by by_cases h1 : a.node = nd; exact .inr fun h2 => HK.out ⟨a, ha, h1, h2⟩; exact .inl h1)).mono ?_
            rintro e w4 ⟨rfl, k4⟩
            have g4 := g1.below k4
            have n4 : MapI w4 w2.heap.size askV S.L := n1.of_heap (obj_below k4 n1.lt)
            have x4 := x1.trans (k4.mono x1.size)
            have o4 := (obj_below k4 (lt_of_obj o1)).trans o1
            have o5 := (obj_below k4 (lt_of_obj o2)).trans o2
            obtain ⟨es, clk, hm4, hr⟩ := n4
            have zm4 := lt_of_obj hm4
            have zo := lt_of_obj o5
            have zo' := lt_of_obj o4
            have y1 : w4.cell? ⟨wr.heap.size, 1, none⟩ = some (.int .i64 nd) := cell_at o4 1
            have y2 : w4.cell? ⟨wr.heap.size, 2, none⟩ = some (.int .i64 kd) := cell_at o4 2
            have y3 : w4.cell? ⟨wr.heap.size, 3, none⟩ = some (.int .i64 id) := cell_at o4 3
            have y4 : w4.cell? ⟨wr.heap.size + 1, 0, none⟩ = some (.int .i64 0) := cell_at o5 0
            have y5 : w4.cell? ⟨wr.heap.size + 1, 1, none⟩ = some (.int .i64 0) := cell_at o5 1
            have y6 : w4.cell? ⟨wr.heap.size + 1, 2, none⟩ = some (.int .i64 0) := cell_at o5 2
            have yf : ∀ i, w4.frozen? ⟨wr.heap.size + 1, i, none⟩ = false := frozen_at o5
            have hneq : ¬ w2.heap.size = wr.heap.size + 1 := by omega
            have hneq' : ¬ wr.heap.size + 1 = w2.heap.size := by omega
            have hneq2 : ¬ wr.heap.size = w2.heap.size := by omega
            unfold askV
            go_wp2_with fail
            go_quiet ((go_at_call 12; exact Calls.quiet_of_same (ref_reply_same _ _)))
            go_wp2_with fail
            refine (stat_full (fun i => i = w2.heap.size ∨ i = wr.heap.size + 1) w4 _ _ _ w2.heap.size S (.map es clk) ?hk g4 (by simp <;> omega) (by simp <;> omega) ?ho).mono ?_
            case hk => (repeat (first | with_reducible exact Keeps.refl _ _ | with_reducible refine Keeps.drew ?_ | with_reducible refine Keeps.drewN ?_ _ | with_reducible refine Keeps.setCell ?_ (by simp) _ | with_reducible refine Keeps.putObj ?_ (by simp) _ | with_reducible refine Keeps.alloc ?_ _))
            case ho => simp [obj_setCell, obj_putObj, obj_drew, obj_drewN, obj_alloc_past, zm4, zo, hm4, hneq]
            rintro e w5 ⟨rfl, k5, hm5⟩
            have g5 := g4.keep k5 (by simp <;> omega) (by simp <;> omega)
            have x5 : Below w.heap.size w w5 := x4.trans (k5.below (by simp <;> omega) (by have := x4.size; omega))
            have zm5 := lt_of_obj hm5
            have hl5 : ∀ W : World, obj W w2.heap.size = some (.map es clk) → (Builtin.len_ #[43] 3 #[.map (some w2.heap.size)]).run Try.prog W = .ok (.int .i64 S.L.length) W := fun W hW => run_len_int Try.underlying43 3 ⟨es, clk, hW, hr⟩
            have hsm := JS.out.sum
            have hs1 := JS.out.n0
            have hs2 := JS.out.e0
            have hs6 := JS.out.a1
            have hs3 : S.ans ≤ 100 := by omega
            have hs4 : S.exp ≤ 100 := by omega
            have hs5 : S.L.length ≤ 100 := by omega
            clear hsm hs6
            have hsum : (S.asked != S.ans + S.exp + (S.L.length : Int)) = false := by simpa using JS.out.sum
            go_wp2_with fail
            go_quiet ((go_at_call 11; exact Calls.quiet_of_same (len_same _ _ _ _ ((g5.alloc _).drewN _))))
            go_wp2_with fail
            exact ⟨⟨k + 1, S, by omega, by go_num, by rfl, JS.out, (g5.alloc _).drewN _, (MapI.alloc ⟨es, clk, hm5, hr⟩ _).drewN _, below_drewN (x5.alloc (by have := x5.size; omega) _) _⟩, by simp [intOf]; omega⟩

        · by_cases d2 : dd = 2
          · subst dd
            cases hg : aGet id S.L with
            | none =>
              have HG := Lib.hid hg
              clear hg
              go_wp2_with fail
              have g1 := (hB.alloc (.cells #[.int .i64 2, .int .i64 nd, .int .i64 kd, .int .i64 id] 45)).alloc (.cells #[.int .i64 0, .int .i64 0, .int .i64 0] 32)
              have n1 := (hM.alloc (.cells #[.int .i64 2, .int .i64 nd, .int .i64 kd, .int .i64 id] 45)).alloc (.cells #[.int .i64 0, .int .i64 0, .int .i64 0] 32)
              have x1 : Below w.heap.size w ((wr.alloc (.cells #[.int .i64 2, .int .i64 nd, .int .i64 kd, .int .i64 id] 45)).alloc (.cells #[.int .i64 0, .int .i64 0, .int .i64 0] 32)) := (hb.alloc zz (.cells #[.int .i64 2, .int .i64 nd, .int .i64 kd, .int .i64 id] 45)).alloc (by simp <;> omega) (.cells #[.int .i64 0, .int .i64 0, .int .i64 0] 32)
              have o1 : obj ((wr.alloc (.cells #[.int .i64 2, .int .i64 nd, .int .i64 kd, .int .i64 id] 45)).alloc (.cells #[.int .i64 0, .int .i64 0, .int .i64 0] 32)) wr.heap.size = some (.cells #[.int .i64 2, .int .i64 nd, .int .i64 kd, .int .i64 id] 45) := by rw [obj_alloc_past _ _ _ (by simp)]; exact obj_alloc_at _ _ _ rfl
              have o2 : obj ((wr.alloc (.cells #[.int .i64 2, .int .i64 nd, .int .i64 kd, .int .i64 id] 45)).alloc (.cells #[.int .i64 0, .int .i64 0, .int .i64 0] 32)) (wr.heap.size + 1) = some (.cells #[.int .i64 0, .int .i64 0, .int .i64 0] 32) := obj_alloc_at _ _ _ (by simp)
              refine (expire_none _ _ _ S id g1 HG.out).mono ?_
              rintro e w4 ⟨rfl, k4⟩
              have g4 := g1.below k4
              have n4 : MapI w4 w2.heap.size askV S.L := n1.of_heap (obj_below k4 n1.lt)
              have x4 := x1.trans (k4.mono x1.size)
              have o4 := (obj_below k4 (lt_of_obj o1)).trans o1
              have o5 := (obj_below k4 (lt_of_obj o2)).trans o2
              obtain ⟨es, clk, hm4, hr⟩ := n4
              have zm4 := lt_of_obj hm4
              have zo := lt_of_obj o5
              have zo' := lt_of_obj o4
              have y1 : w4.cell? ⟨wr.heap.size, 1, none⟩ = some (.int .i64 nd) := cell_at o4 1
              have y2 : w4.cell? ⟨wr.heap.size, 2, none⟩ = some (.int .i64 kd) := cell_at o4 2
              have y3 : w4.cell? ⟨wr.heap.size, 3, none⟩ = some (.int .i64 id) := cell_at o4 3
              have y4 : w4.cell? ⟨wr.heap.size + 1, 0, none⟩ = some (.int .i64 0) := cell_at o5 0
              have y5 : w4.cell? ⟨wr.heap.size + 1, 1, none⟩ = some (.int .i64 0) := cell_at o5 1
              have y6 : w4.cell? ⟨wr.heap.size + 1, 2, none⟩ = some (.int .i64 0) := cell_at o5 2
              have yf : ∀ i, w4.frozen? ⟨wr.heap.size + 1, i, none⟩ = false := frozen_at o5
              have hneq : ¬ w2.heap.size = wr.heap.size + 1 := by omega
              have hneq' : ¬ wr.heap.size + 1 = w2.heap.size := by omega
              have hneq2 : ¬ wr.heap.size = w2.heap.size := by omega
              unfold askV
              go_wp2_with fail
              refine (stat_full (fun i => i = w2.heap.size ∨ i = wr.heap.size + 1) w4 _ _ _ w2.heap.size S (.map es clk) ?hk g4 (by simp <;> omega) (by simp <;> omega) ?ho).mono ?_
              case hk => (repeat (first | with_reducible exact Keeps.refl _ _ | with_reducible refine Keeps.drew ?_ | with_reducible refine Keeps.drewN ?_ _ | with_reducible refine Keeps.setCell ?_ (by simp) _ | with_reducible refine Keeps.putObj ?_ (by simp) _ | with_reducible refine Keeps.alloc ?_ _))
              case ho => simp [obj_setCell, obj_putObj, obj_drew, obj_drewN, obj_alloc_past, zm4, zo, hm4, hneq]
              rintro e w5 ⟨rfl, k5, hm5⟩
              have g5 := g4.keep k5 (by simp <;> omega) (by simp <;> omega)
              have x5 : Below w.heap.size w w5 := x4.trans (k5.below (by simp <;> omega) (by have := x4.size; omega))
              have zm5 := lt_of_obj hm5
              have hl5 : ∀ W : World, obj W w2.heap.size = some (.map es clk) → (Builtin.len_ #[43] 3 #[.map (some w2.heap.size)]).run Try.prog W = .ok (.int .i64 S.L.length) W := fun W hW => run_len_int Try.underlying43 3 ⟨es, clk, hW, hr⟩
              have hsm := JS.out.sum
              have hs1 := JS.out.n0
              have hs2 := JS.out.e0
              have hs6 := JS.out.a1
              have hs3 : S.ans ≤ 100 := by omega
              have hs4 : S.exp ≤ 100 := by omega
              have hs5 : S.L.length ≤ 100 := by omega
              clear hsm hs6
              have hsum : (S.asked != S.ans + S.exp + (S.L.length : Int)) = false := by simpa using JS.out.sum
              go_wp2_with fail
              go_quiet ((go_at_call 11; exact Calls.quiet_of_same (len_same _ _ _ _ ((g5.alloc _).drewN _))))
              go_wp2_with fail
              exact ⟨⟨k + 1, S, by omega, by go_num, by rfl, JS.out, (g5.alloc _).drewN _, (MapI.alloc ⟨es, clk, hm5, hr⟩ _).drewN _, below_drewN (x5.alloc (by have := x5.size; omega) _) _⟩, by simp [intOf]; omega⟩

            | some a =>
              have HA := Lib.hid hg
              clear hg
              go_wp2_with fail
              have g1 := (hB.alloc (.cells #[.int .i64 2, .int .i64 nd, .int .i64 kd, .int .i64 id] 45)).alloc (.cells #[.int .i64 0, .int .i64 0, .int .i64 0] 32)
              have n1 := (hM.alloc (.cells #[.int .i64 2, .int .i64 nd, .int .i64 kd, .int .i64 id] 45)).alloc (.cells #[.int .i64 0, .int .i64 0, .int .i64 0] 32)
              have x1 : Below w.heap.size w ((wr.alloc (.cells #[.int .i64 2, .int .i64 nd, .int .i64 kd, .int .i64 id] 45)).alloc (.cells #[.int .i64 0, .int .i64 0, .int .i64 0] 32)) := (hb.alloc zz (.cells #[.int .i64 2, .int .i64 nd, .int .i64 kd, .int .i64 id] 45)).alloc (by simp <;> omega) (.cells #[.int .i64 0, .int .i64 0, .int .i64 0] 32)
              have o1 : obj ((wr.alloc (.cells #[.int .i64 2, .int .i64 nd, .int .i64 kd, .int .i64 id] 45)).alloc (.cells #[.int .i64 0, .int .i64 0, .int .i64 0] 32)) wr.heap.size = some (.cells #[.int .i64 2, .int .i64 nd, .int .i64 kd, .int .i64 id] 45) := by rw [obj_alloc_past _ _ _ (by simp)]; exact obj_alloc_at _ _ _ rfl
              have o2 : obj ((wr.alloc (.cells #[.int .i64 2, .int .i64 nd, .int .i64 kd, .int .i64 id] 45)).alloc (.cells #[.int .i64 0, .int .i64 0, .int .i64 0] 32)) (wr.heap.size + 1) = some (.cells #[.int .i64 0, .int .i64 0, .int .i64 0] 32) := obj_alloc_at _ _ _ (by simp)
              refine (once_expire _ _ _ S id a (1 + room) k (by omega) g1 HI.out HA.out).mono ?_
              rintro e w4 ⟨rfl, S4, qa, qL, I4, g4, k4⟩
              have J4 := Lib.hid I4
              have QL := Lib.hid qL
              have QA := Lib.hid qa
              have hne1 : (S4.asked != S.asked) = false := by simpa using qa
              clear I4 qL qa
              have n4 : MapI w4 w2.heap.size askV S.L := n1.keep k4 (by simp <;> omega)
              have x4 : Below w.heap.size w w4 := x1.trans (k4.below (by simp <;> omega) x1.size)
              have o4 := (k4.block _ (lt_of_obj o1) (by simp <;> omega)).trans o1
              have o5 := (k4.block _ (lt_of_obj o2) (by simp <;> omega)).trans o2
              obtain ⟨es, clk, hm4, hr⟩ := n4
              have zm4 := lt_of_obj hm4
              have zo := lt_of_obj o5
              have zo' := lt_of_obj o4
              have y1 : w4.cell? ⟨wr.heap.size, 1, none⟩ = some (.int .i64 nd) := cell_at o4 1
              have y2 : w4.cell? ⟨wr.heap.size, 2, none⟩ = some (.int .i64 kd) := cell_at o4 2
              have y3 : w4.cell? ⟨wr.heap.size, 3, none⟩ = some (.int .i64 id) := cell_at o4 3
              have y4 : w4.cell? ⟨wr.heap.size + 1, 0, none⟩ = some (.int .i64 0) := cell_at o5 0
              have y5 : w4.cell? ⟨wr.heap.size + 1, 1, none⟩ = some (.int .i64 0) := cell_at o5 1
              have y6 : w4.cell? ⟨wr.heap.size + 1, 2, none⟩ = some (.int .i64 0) := cell_at o5 2
              have yf : ∀ i, w4.frozen? ⟨wr.heap.size + 1, i, none⟩ = false := frozen_at o5
              have hneq : ¬ w2.heap.size = wr.heap.size + 1 := by omega
              have hneq' : ¬ wr.heap.size + 1 = w2.heap.size := by omega
              have hneq2 : ¬ wr.heap.size = w2.heap.size := by omega
              have hlk : ∀ W : World, obj W w2.heap.size = some (.map es clk) → (Instr.lookup 43 (.map (some w2.heap.size)) (.int .i64 id) true).run Try.prog W = .ok (.tuple #[.agg #[.int .i64 a.id, .int .i64 a.node, .int .i64 a.kind], .bool true]) W := by
                intro W hW
                have := run_lookup_int (w := W) Try.underlying43 Try.underlying2 zero32 ⟨es, clk, hW, hr⟩ id
                rw [HA.out] at this
                exact this
              obtain ⟨es4, hu, hr4⟩ := run_delete_int (enc := askV) (clk := clk) Try.underlying43 Try.underlying2 0 2 hr w2.heap.size id
              rw [← QL.out] at hr4
              unfold askV
              go_wp2_with fail
              refine (stat_full (fun i => i = w2.heap.size ∨ i = wr.heap.size + 1) w4 _ _ _ w2.heap.size S4 (.map es4 clk) ?hk g4 (by simp <;> omega) (by simp <;> omega) ?ho).mono ?_
              case hk => (repeat (first | with_reducible exact Keeps.refl _ _ | with_reducible refine Keeps.drew ?_ | with_reducible refine Keeps.drewN ?_ _ | with_reducible refine Keeps.setCell ?_ (by simp) _ | with_reducible refine Keeps.putObj ?_ (by simp) _ | with_reducible refine Keeps.alloc ?_ _))
              case ho => simp [obj_setCell, obj_putObj, obj_drew, obj_drewN, obj_alloc_past, zm4, zo, hm4, hneq]
              rintro e w5 ⟨rfl, k5, hm5⟩
              have g5 := g4.keep k5 (by simp <;> omega) (by simp <;> omega)
              have x5 : Below w.heap.size w w5 := x4.trans (k5.below (by simp <;> omega) (by have := x4.size; omega))
              have zm5 := lt_of_obj hm5
              have hl5 : ∀ W : World, obj W w2.heap.size = some (.map es4 clk) → (Builtin.len_ #[43] 3 #[.map (some w2.heap.size)]).run Try.prog W = .ok (.int .i64 S4.L.length) W := fun W hW => run_len_int Try.underlying43 3 ⟨es4, clk, hW, hr4⟩
              have hsm := J4.out.sum
              have hs1 := J4.out.n0
              have hs2 := J4.out.e0
              have hs6 := J4.out.a1
              have hs3 : S4.ans ≤ 100 := by omega
              have hs4 : S4.exp ≤ 100 := by omega
              have hs5 : S4.L.length ≤ 100 := by omega
              clear hsm hs6
              have hsum : (S4.asked != S4.ans + S4.exp + (S4.L.length : Int)) = false := by simpa using J4.out.sum
              go_wp2_with fail
              go_quiet ((go_at_call 11; exact Calls.quiet_of_same (len_same _ _ _ _ ((g5.alloc _).drewN _))))
              go_wp2_with fail
              exact ⟨⟨k + 1, S4, by omega, by go_num, by rw [QA.out], J4.out, (g5.alloc _).drewN _, (MapI.alloc ⟨es4, clk, hm5, hr4⟩ _).drewN _, below_drewN (x5.alloc (by have := x5.size; omega) _) _⟩, by simp [intOf]; omega⟩

          · have e0 : (dd == 0) = false := by simpa using d0
            have e1 : (dd == 1) = false := by simpa using d1
            have e2 : (dd == 2) = false := by simpa using d2
            clear d0 d1 d2
            go_wp2_with fail
            have g1 := (hB.alloc (.cells #[.int .i64 dd, .int .i64 nd, .int .i64 kd, .int .i64 id] 45)).alloc (.cells #[.int .i64 0, .int .i64 0, .int .i64 0] 32)
            have n1 := (hM.alloc (.cells #[.int .i64 dd, .int .i64 nd, .int .i64 kd, .int .i64 id] 45)).alloc (.cells #[.int .i64 0, .int .i64 0, .int .i64 0] 32)
            have x1 : Below w.heap.size w ((wr.alloc (.cells #[.int .i64 dd, .int .i64 nd, .int .i64 kd, .int .i64 id] 45)).alloc (.cells #[.int .i64 0, .int .i64 0, .int .i64 0] 32)) := (hb.alloc zz (.cells #[.int .i64 dd, .int .i64 nd, .int .i64 kd, .int .i64 id] 45)).alloc (by simp <;> omega) (.cells #[.int .i64 0, .int .i64 0, .int .i64 0] 32)
            have o1 : obj ((wr.alloc (.cells #[.int .i64 dd, .int .i64 nd, .int .i64 kd, .int .i64 id] 45)).alloc (.cells #[.int .i64 0, .int .i64 0, .int .i64 0] 32)) wr.heap.size = some (.cells #[.int .i64 dd, .int .i64 nd, .int .i64 kd, .int .i64 id] 45) := by rw [obj_alloc_past _ _ _ (by simp)]; exact obj_alloc_at _ _ _ rfl
            have o2 : obj ((wr.alloc (.cells #[.int .i64 dd, .int .i64 nd, .int .i64 kd, .int .i64 id] 45)).alloc (.cells #[.int .i64 0, .int .i64 0, .int .i64 0] 32)) (wr.heap.size + 1) = some (.cells #[.int .i64 0, .int .i64 0, .int .i64 0] 32) := obj_alloc_at _ _ _ (by simp)
            obtain ⟨w4, hw4⟩ : ∃ w4, w4 = (wr.alloc (.cells #[.int .i64 dd, .int .i64 nd, .int .i64 kd, .int .i64 id] 45)).alloc (.cells #[.int .i64 0, .int .i64 0, .int .i64 0] 32) := ⟨_, rfl⟩
            rw [← hw4] at g1 n1 x1 o1 o2 ⊢
            clear hw4
            have g4 := g1
            have n4 := n1
            have x4 := x1
            have o4 := o1
            have o5 := o2
            obtain ⟨es, clk, hm4, hr⟩ := n4
            have zm4 := lt_of_obj hm4
            have zo := lt_of_obj o5
            have zo' := lt_of_obj o4
            have y1 : w4.cell? ⟨wr.heap.size, 1, none⟩ = some (.int .i64 nd) := cell_at o4 1
            have y2 : w4.cell? ⟨wr.heap.size, 2, none⟩ = some (.int .i64 kd) := cell_at o4 2
            have y3 : w4.cell? ⟨wr.heap.size, 3, none⟩ = some (.int .i64 id) := cell_at o4 3
            have y4 : w4.cell? ⟨wr.heap.size + 1, 0, none⟩ = some (.int .i64 0) := cell_at o5 0
            have y5 : w4.cell? ⟨wr.heap.size + 1, 1, none⟩ = some (.int .i64 0) := cell_at o5 1
            have y6 : w4.cell? ⟨wr.heap.size + 1, 2, none⟩ = some (.int .i64 0) := cell_at o5 2
            have yf : ∀ i, w4.frozen? ⟨wr.heap.size + 1, i, none⟩ = false := frozen_at o5
            have hneq : ¬ w2.heap.size = wr.heap.size + 1 := by omega
            have hneq' : ¬ wr.heap.size + 1 = w2.heap.size := by omega
            have hneq2 : ¬ wr.heap.size = w2.heap.size := by omega
            refine (stat_full (fun i => i = w2.heap.size ∨ i = wr.heap.size + 1) w4 _ _ _ w2.heap.size S (.map es clk) ?hk g4 (by simp <;> omega) (by simp <;> omega) ?ho).mono ?_
            case hk => (repeat (first | with_reducible exact Keeps.refl _ _ | with_reducible refine Keeps.drew ?_ | with_reducible refine Keeps.drewN ?_ _ | with_reducible refine Keeps.setCell ?_ (by simp) _ | with_reducible refine Keeps.putObj ?_ (by simp) _ | with_reducible refine Keeps.alloc ?_ _))
            case ho => simp [obj_setCell, obj_putObj, obj_drew, obj_drewN, obj_alloc_past, zm4, zo, hm4, hneq]
            rintro e w5 ⟨rfl, k5, hm5⟩
            have g5 := g4.keep k5 (by simp <;> omega) (by simp <;> omega)
            have x5 : Below w.heap.size w w5 := x4.trans (k5.below (by simp <;> omega) (by have := x4.size; omega))
            have zm5 := lt_of_obj hm5
            have hl5 : ∀ W : World, obj W w2.heap.size = some (.map es clk) → (Builtin.len_ #[43] 3 #[.map (some w2.heap.size)]).run Try.prog W = .ok (.int .i64 S.L.length) W := fun W hW => run_len_int Try.underlying43 3 ⟨es, clk, hW, hr⟩
            have hsm := JS.out.sum
            have hs1 := JS.out.n0
            have hs2 := JS.out.e0
            have hs6 := JS.out.a1
            have hs3 : S.ans ≤ 100 := by omega
            have hs4 : S.exp ≤ 100 := by omega
            have hs5 : S.L.length ≤ 100 := by omega
            clear hsm hs6
            have hsum : (S.asked != S.ans + S.exp + (S.L.length : Int)) = false := by simpa using JS.out.sum
            go_wp2_with fail
            go_quiet ((go_at_call 11; exact Calls.quiet_of_same (len_same _ _ _ _ ((g5.alloc _).drewN _))))
            go_wp2_with fail
            exact ⟨⟨k + 1, S, by omega, by go_num, by rfl, JS.out, (g5.alloc _).drewN _, (MapI.alloc ⟨es, clk, hm5, hr⟩ _).drewN _, below_drewN (x5.alloc (by have := x5.size; omega) _) _⟩, by simp [intOf]; omega⟩

    · go_wp2_with fail
      go_ret
      exact ⟨rfl, hb⟩

set_option maxRecDepth 100000 in
set_option maxHeartbeats 4000000 in
theorem once_b (room : Int) (a0 : 0 ≤ room) (a1 : room ≤ 255) (bb off len cap : Nat) (hlc : len ≤ cap) (hcap : cap ≤ maxLen) (hn : 80 < len) (w : World) (hbb : bb < w.heap.size)
    (hc : ∀ i, i < len → ∃ dd nd kd id : Int, w.cell? ⟨bb, off + i * 4, none⟩ = some (.int .i64 dd) ∧ w.cell? ⟨bb, off + i * 4 + 1, none⟩ = some (.int .i64 nd) ∧ w.cell? ⟨bb, off + i * 4 + 2, none⟩ = some (.int .i64 kd) ∧ w.cell? ⟨bb, off + i * 4 + 3, none⟩ = some (.int .i64 id)) :
    Calls Try.prog 5 #[.int .u8 room, .slice (some ⟨bb, off, none⟩) len cap] w fun e w' => e = .returned (.bool true) ∧ Below w.heap.size w w' := by
  unfold maxLen at hcap
  have hmm := @run_makeMap Try.prog
  have HC := Lib.hid hc
  clear hc
  go_enter Try.func5, Try.ntmps5
  go_wp2_with fail
  refine (new_ok w _ _ (by omega) (by omega) (by omega) (by omega)).mono ?_
  rintro e w1 ⟨rfl, g1, k1⟩
  go_wp2_with fail
  refine (begun_any w1).mono ?_
  rintro e w2 ⟨rfl, k2⟩
  have g2 := (g1.below k2).alloc (.map #[] 0)
  have b2 : Below w.heap.size w (w2.alloc (.map #[] 0)) := (k1.trans (k2.mono (by have := k1.size; omega))).alloc (by have := k1.size; have := k2.size; omega) _
  have i2 : OInv (1 + room) 0 ⟨1 + room, 0, [], 0, 0, 0⟩ := ⟨rfl, Int.le_refl _, Int.le_refl _, by simp, Int.le_refl _, Int.le_refl _, Int.le_refl _, by simp, Int.le_refl _⟩
  have m2 : MapI (w2.alloc (.map #[] 0)) w2.heap.size askV ([] : List (Int × AskD)) := ⟨#[], 0, obj_alloc_at _ _ _ rfl, trivial⟩
  have z2 : w.heap.size + 1 < w2.heap.size := (g1.below k2).lt
  clear g1 k1 k2
  go_wp2_with fail
  clear hmm
  go_loopw [8, 42] (fun v8 v42 wr => ∃ (k : Nat) (S : BookD), k ≤ 80 ∧ v42 = .int .i64 k ∧ v8 = .int .i64 S.asked ∧ OInv (1 + room) k S ∧ BookAt wr (w.heap.size + 1) w.heap.size S ∧ MapI wr w2.heap.size askV S.L ∧ Below w.heap.size w wr) (fun _ i _ => 80 - (intOf i).toNat)
  case atStart => exact ⟨0, _, Nat.zero_le _, rfl, rfl, i2, g2, m2, b2⟩
  case round =>
    clear i2 g2 m2 b2
    obtain ⟨k, S, hk, rfl, rfl, hI, hB, hM, hb⟩ := hrel
    by_cases hlt : k < 80
    · obtain ⟨dd, nd, kd, id, c0, c1, c2, c3⟩ := HC.out k (by omega)
      have q0 := (hb.cell (p := ⟨bb, off + k * 4, none⟩) hbb).trans c0
      have q1 := (hb.cell (p := ⟨bb, off + k * 4 + 1, none⟩) hbb).trans c1
      have q2 := (hb.cell (p := ⟨bb, off + k * 4 + 2, none⟩) hbb).trans c2
      have q3 := (hb.cell (p := ⟨bb, off + k * 4 + 3, none⟩) hbb).trans c3
      clear c0 c1 c2 c3
      have zz : w.heap.size ≤ wr.heap.size := hb.size
      have zb := hB.lt
      have zm := hM.lt
      have HI := Lib.hid hI
      have hi1 := hI.lo
      have hi2 := hI.hi
      have hi3 := hI.a0
      have hi4 := hI.a1
      clear hI
      have zz1 : w.heap.size + 1 < wr.heap.size := zb
      have hroom : S.room = 1 + room := HI.out.room
      have JS : Hid (OInv (1 + room) (k + 1) S) := HI.out.next
      by_cases d0 : dd = 0
      · subst dd
        by_cases hok : 0 ≤ nd ∧ nd < 32 ∧ replyOf kd ≠ 0 ∧ (S.L.length : Int) < S.room
        · have HK := Lib.hid hok
          clear hok
          go_wp2_with fail
          have g1 := (hB.alloc (.cells #[.int .i64 0, .int .i64 nd, .int .i64 kd, .int .i64 id] 45)).alloc (.cells #[.int .i64 0, .int .i64 0, .int .i64 0] 32)
          have n1 := (hM.alloc (.cells #[.int .i64 0, .int .i64 nd, .int .i64 kd, .int .i64 id] 45)).alloc (.cells #[.int .i64 0, .int .i64 0, .int .i64 0] 32)
          have x1 : Below w.heap.size w ((wr.alloc (.cells #[.int .i64 0, .int .i64 nd, .int .i64 kd, .int .i64 id] 45)).alloc (.cells #[.int .i64 0, .int .i64 0, .int .i64 0] 32)) := (hb.alloc zz (.cells #[.int .i64 0, .int .i64 nd, .int .i64 kd, .int .i64 id] 45)).alloc (by simp <;> omega) (.cells #[.int .i64 0, .int .i64 0, .int .i64 0] 32)
          have o1 : obj ((wr.alloc (.cells #[.int .i64 0, .int .i64 nd, .int .i64 kd, .int .i64 id] 45)).alloc (.cells #[.int .i64 0, .int .i64 0, .int .i64 0] 32)) wr.heap.size = some (.cells #[.int .i64 0, .int .i64 nd, .int .i64 kd, .int .i64 id] 45) := by rw [obj_alloc_past _ _ _ (by simp)]; exact obj_alloc_at _ _ _ rfl
          have o2 : obj ((wr.alloc (.cells #[.int .i64 0, .int .i64 nd, .int .i64 kd, .int .i64 id] 45)).alloc (.cells #[.int .i64 0, .int .i64 0, .int .i64 0] 32)) (wr.heap.size + 1) = some (.cells #[.int .i64 0, .int .i64 0, .int .i64 0] 32) := obj_alloc_at _ _ _ (by simp)
          refine (once_ask _ _ _ S nd kd (1 + room) k (by omega) g1 HI.out HK.out.1 HK.out.2.1 HK.out.2.2.1 HK.out.2.2.2).mono ?_
          rintro e w4 ⟨rfl, S4, qa, qL, I4, g4, k4⟩
          have J4 := Lib.hid I4
          have QL := Lib.hid qL
          have QA := Lib.hid qa
          have hne1 : (S4.asked != S.asked + 1) = false := by simpa using qa
          clear I4 qL qa
          have n4 : MapI w4 w2.heap.size askV S.L := n1.keep k4 (by simp <;> omega)
          have x4 : Below w.heap.size w w4 := x1.trans (k4.below (by simp <;> omega) x1.size)
          have o4 := (k4.block _ (lt_of_obj o1) (by simp <;> omega)).trans o1
          have o5 := (k4.block _ (lt_of_obj o2) (by simp <;> omega)).trans o2
          obtain ⟨es, clk, hm4, hr⟩ := n4
          have zm4 := lt_of_obj hm4
          have zo := lt_of_obj o5
          have zo' := lt_of_obj o4
          have y1 : w4.cell? ⟨wr.heap.size, 1, none⟩ = some (.int .i64 nd) := cell_at o4 1
          have y2 : w4.cell? ⟨wr.heap.size, 2, none⟩ = some (.int .i64 kd) := cell_at o4 2
          have y3 : w4.cell? ⟨wr.heap.size, 3, none⟩ = some (.int .i64 id) := cell_at o4 3
          have y4 : w4.cell? ⟨wr.heap.size + 1, 0, none⟩ = some (.int .i64 0) := cell_at o5 0
          have y5 : w4.cell? ⟨wr.heap.size + 1, 1, none⟩ = some (.int .i64 0) := cell_at o5 1
          have y6 : w4.cell? ⟨wr.heap.size + 1, 2, none⟩ = some (.int .i64 0) := cell_at o5 2
          have yf : ∀ i, w4.frozen? ⟨wr.heap.size + 1, i, none⟩ = false := frozen_at o5
          have hneq : ¬ w2.heap.size = wr.heap.size + 1 := by omega
          have hneq' : ¬ wr.heap.size + 1 = w2.heap.size := by omega
          have hneq2 : ¬ wr.heap.size = w2.heap.size := by omega
          obtain ⟨es4, clk4, hu, hr4⟩ := run_mapUpdate_int (enc := askV) (clk := clk) Try.underlying43 Try.underlying2 hr w2.heap.size (S.last + 1) ⟨S.last + 1, nd, kd⟩
          rw [← QL.out] at hr4
          simp only [askV] at hu
          go_wp2_with fail
          refine (stat_full (fun i => i = w2.heap.size ∨ i = wr.heap.size + 1) w4 _ _ _ w2.heap.size S4 (.map es4 clk4) ?hk g4 (by simp <;> omega) (by simp <;> omega) ?ho).mono ?_
          case hk => (repeat (first | with_reducible exact Keeps.refl _ _ | with_reducible refine Keeps.drew ?_ | with_reducible refine Keeps.drewN ?_ _ | with_reducible refine Keeps.setCell ?_ (by simp) _ | with_reducible refine Keeps.putObj ?_ (by simp) _ | with_reducible refine Keeps.alloc ?_ _))
          case ho => simp [obj_setCell, obj_putObj, obj_drew, obj_drewN, obj_alloc_past, zm4, zo, hm4, hneq]
          rintro e w5 ⟨rfl, k5, hm5⟩
          have g5 := g4.keep k5 (by simp <;> omega) (by simp <;> omega)
          have x5 : Below w.heap.size w w5 := x4.trans (k5.below (by simp <;> omega) (by have := x4.size; omega))
          have zm5 := lt_of_obj hm5
          have hl5 : ∀ W : World, obj W w2.heap.size = some (.map es4 clk4) → (Builtin.len_ #[43] 3 #[.map (some w2.heap.size)]).run Try.prog W = .ok (.int .i64 S4.L.length) W := fun W hW => run_len_int Try.underlying43 3 ⟨es4, clk4, hW, hr4⟩
          have hsm := J4.out.sum
          have hs1 := J4.out.n0
          have hs2 := J4.out.e0
          have hs6 := J4.out.a1
          have hs3 : S4.ans ≤ 100 := by omega
          have hs4 : S4.exp ≤ 100 := by omega
          have hs5 : S4.L.length ≤ 100 := by omega
          clear hsm hs6
          have hsum : (S4.asked != S4.ans + S4.exp + (S4.L.length : Int)) = false := by simpa using J4.out.sum
          go_wp2_with fail
          go_quiet ((go_at_call 11; exact Calls.quiet_of_same (len_same _ _ _ _ ((g5.alloc _).drewN _))))
          go_wp2_with fail
          exact ⟨⟨k + 1, S4, by omega, by go_num, by rw [QA.out], J4.out, (g5.alloc _).drewN _, (MapI.alloc ⟨es4, clk4, hm5, hr4⟩ _).drewN _, below_drewN (x5.alloc (by have := x5.size; omega) _) _⟩, by simp [intOf]; omega⟩

        · have HK := Lib.hid hok
          clear hok
          go_wp2_with fail
          have g1 := (hB.alloc (.cells #[.int .i64 0, .int .i64 nd, .int .i64 kd, .int .i64 id] 45)).alloc (.cells #[.int .i64 0, .int .i64 0, .int .i64 0] 32)
          have n1 := (hM.alloc (.cells #[.int .i64 0, .int .i64 nd, .int .i64 kd, .int .i64 id] 45)).alloc (.cells #[.int .i64 0, .int .i64 0, .int .i64 0] 32)
          have x1 : Below w.heap.size w ((wr.alloc (.cells #[.int .i64 0, .int .i64 nd, .int .i64 kd, .int .i64 id] 45)).alloc (.cells #[.int .i64 0, .int .i64 0, .int .i64 0] 32)) := (hb.alloc zz (.cells #[.int .i64 0, .int .i64 nd, .int .i64 kd, .int .i64 id] 45)).alloc (by simp <;> omega) (.cells #[.int .i64 0, .int .i64 0, .int .i64 0] 32)
          have o1 : obj ((wr.alloc (.cells #[.int .i64 0, .int .i64 nd, .int .i64 kd, .int .i64 id] 45)).alloc (.cells #[.int .i64 0, .int .i64 0, .int .i64 0] 32)) wr.heap.size = some (.cells #[.int .i64 0, .int .i64 nd, .int .i64 kd, .int .i64 id] 45) := by rw [obj_alloc_past _ _ _ (by simp)]; exact obj_alloc_at _ _ _ rfl
          have o2 : obj ((wr.alloc (.cells #[.int .i64 0, .int .i64 nd, .int .i64 kd, .int .i64 id] 45)).alloc (.cells #[.int .i64 0, .int .i64 0, .int .i64 0] 32)) (wr.heap.size + 1) = some (.cells #[.int .i64 0, .int .i64 0, .int .i64 0] 32) := obj_alloc_at _ _ _ (by simp)
          refine (ask_bad _ _ _ S nd kd g1 ⟨hi1, by omega⟩ HK.out).mono ?_
          rintro e w4 ⟨c, hc, rfl, k4⟩
          have g4 := g1.below k4
          have n4 : MapI w4 w2.heap.size askV S.L := n1.of_heap (obj_below k4 n1.lt)
          have x4 := x1.trans (k4.mono x1.size)
          have o4 := (obj_below k4 (lt_of_obj o1)).trans o1
          have o5 := (obj_below k4 (lt_of_obj o2)).trans o2
          obtain ⟨es, clk, hm4, hr⟩ := n4
          have zm4 := lt_of_obj hm4
          have zo := lt_of_obj o5
          have zo' := lt_of_obj o4
          have y1 : w4.cell? ⟨wr.heap.size, 1, none⟩ = some (.int .i64 nd) := cell_at o4 1
          have y2 : w4.cell? ⟨wr.heap.size, 2, none⟩ = some (.int .i64 kd) := cell_at o4 2
          have y3 : w4.cell? ⟨wr.heap.size, 3, none⟩ = some (.int .i64 id) := cell_at o4 3
          have y4 : w4.cell? ⟨wr.heap.size + 1, 0, none⟩ = some (.int .i64 0) := cell_at o5 0
          have y5 : w4.cell? ⟨wr.heap.size + 1, 1, none⟩ = some (.int .i64 0) := cell_at o5 1
          have y6 : w4.cell? ⟨wr.heap.size + 1, 2, none⟩ = some (.int .i64 0) := cell_at o5 2
          have yf : ∀ i, w4.frozen? ⟨wr.heap.size + 1, i, none⟩ = false := frozen_at o5
          have hneq : ¬ w2.heap.size = wr.heap.size + 1 := by omega
          have hneq' : ¬ wr.heap.size + 1 = w2.heap.size := by omega
          have hneq2 : ¬ wr.heap.size = w2.heap.size := by omega
          go_wp2_with fail
          refine (stat_full (fun i => i = w2.heap.size ∨ i = wr.heap.size + 1) w4 _ _ _ w2.heap.size S (.map es clk) ?hk g4 (by simp <;> omega) (by simp <;> omega) ?ho).mono ?_
          case hk => (repeat (first | with_reducible exact Keeps.refl _ _ | with_reducible refine Keeps.drew ?_ | with_reducible refine Keeps.drewN ?_ _ | with_reducible refine Keeps.setCell ?_ (by simp) _ | with_reducible refine Keeps.putObj ?_ (by simp) _ | with_reducible refine Keeps.alloc ?_ _))
          case ho => simp [obj_setCell, obj_putObj, obj_drew, obj_drewN, obj_alloc_past, zm4, zo, hm4, hneq]
          rintro e w5 ⟨rfl, k5, hm5⟩
          have g5 := g4.keep k5 (by simp <;> omega) (by simp <;> omega)
          have x5 : Below w.heap.size w w5 := x4.trans (k5.below (by simp <;> omega) (by have := x4.size; omega))
          have zm5 := lt_of_obj hm5
          have hl5 : ∀ W : World, obj W w2.heap.size = some (.map es clk) → (Builtin.len_ #[43] 3 #[.map (some w2.heap.size)]).run Try.prog W = .ok (.int .i64 S.L.length) W := fun W hW => run_len_int Try.underlying43 3 ⟨es, clk, hW, hr⟩
          have hsm := JS.out.sum
          have hs1 := JS.out.n0
          have hs2 := JS.out.e0
          have hs6 := JS.out.a1
          have hs3 : S.ans ≤ 100 := by omega
          have hs4 : S.exp ≤ 100 := by omega
          have hs5 : S.L.length ≤ 100 := by omega
          clear hsm hs6
          have hsum : (S.asked != S.ans + S.exp + (S.L.length : Int)) = false := by simpa using JS.out.sum
          go_wp2_with fail
          go_quiet ((go_at_call 11; exact Calls.quiet_of_same (len_same _ _ _ _ ((g5.alloc _).drewN _))))
          go_wp2_with fail
          exact ⟨⟨k + 1, S, by omega, by go_num, by rfl, JS.out, (g5.alloc _).drewN _, (MapI.alloc ⟨es, clk, hm5, hr⟩ _).drewN _, below_drewN (x5.alloc (by have := x5.size; omega) _) _⟩, by simp [intOf]; omega⟩

      · by_cases d1 : dd = 1
        · subst dd
          by_cases hok : ∃ a, aGet id S.L = some a ∧ a.node = nd ∧ replyOf a.kind = kd
          · obtain ⟨a, ha, h1, h2⟩ := hok
            have HA := Lib.hid ha
            have H1 := Lib.hid h1
            have H2 := Lib.hid h2
            have hnd : (a.node != nd) = false := by simpa using h1
            have hkd : (replyOf a.kind != kd) = false := by simpa using h2
            clear ha h1 h2
            go_wp2_with fail
            have g1 := (hB.alloc (.cells #[.int .i64 1, .int .i64 nd, .int .i64 kd, .int .i64 id] 45)).alloc (.cells #[.int .i64 0, .int .i64 0, .int .i64 0] 32)
            have n1 := (hM.alloc (.cells #[.int .i64 1, .int .i64 nd, .int .i64 kd, .int .i64 id] 45)).alloc (.cells #[.int .i64 0, .int .i64 0, .int .i64 0] 32)
            have x1 : Below w.heap.size w ((wr.alloc (.cells #[.int .i64 1, .int .i64 nd, .int .i64 kd, .int .i64 id] 45)).alloc (.cells #[.int .i64 0, .int .i64 0, .int .i64 0] 32)) := (hb.alloc zz (.cells #[.int .i64 1, .int .i64 nd, .int .i64 kd, .int .i64 id] 45)).alloc (by simp <;> omega) (.cells #[.int .i64 0, .int .i64 0, .int .i64 0] 32)
            have o1 : obj ((wr.alloc (.cells #[.int .i64 1, .int .i64 nd, .int .i64 kd, .int .i64 id] 45)).alloc (.cells #[.int .i64 0, .int .i64 0, .int .i64 0] 32)) wr.heap.size = some (.cells #[.int .i64 1, .int .i64 nd, .int .i64 kd, .int .i64 id] 45) := by rw [obj_alloc_past _ _ _ (by simp)]; exact obj_alloc_at _ _ _ rfl
            have o2 : obj ((wr.alloc (.cells #[.int .i64 1, .int .i64 nd, .int .i64 kd, .int .i64 id] 45)).alloc (.cells #[.int .i64 0, .int .i64 0, .int .i64 0] 32)) (wr.heap.size + 1) = some (.cells #[.int .i64 0, .int .i64 0, .int .i64 0] 32) := obj_alloc_at _ _ _ (by simp)
            refine (once_answer _ _ _ S nd id kd a (1 + room) k (by omega) g1 HI.out HA.out H1.out H2.out).mono ?_
            rintro e w4 ⟨rfl, S4, qa, qL, I4, g4, k4⟩
            have J4 := Lib.hid I4
            have QL := Lib.hid qL
            have QA := Lib.hid qa
            have hne1 : (S4.asked != S.asked) = false := by simpa using qa
            clear I4 qL qa
            have n4 : MapI w4 w2.heap.size askV S.L := n1.keep k4 (by simp <;> omega)
            have x4 : Below w.heap.size w w4 := x1.trans (k4.below (by simp <;> omega) x1.size)
            have o4 := (k4.block _ (lt_of_obj o1) (by simp <;> omega)).trans o1
            have o5 := (k4.block _ (lt_of_obj o2) (by simp <;> omega)).trans o2
            obtain ⟨es, clk, hm4, hr⟩ := n4
            have zm4 := lt_of_obj hm4
            have zo := lt_of_obj o5
            have zo' := lt_of_obj o4
            have y1 : w4.cell? ⟨wr.heap.size, 1, none⟩ = some (.int .i64 nd) := cell_at o4 1
            have y2 : w4.cell? ⟨wr.heap.size, 2, none⟩ = some (.int .i64 kd) := cell_at o4 2
            have y3 : w4.cell? ⟨wr.heap.size, 3, none⟩ = some (.int .i64 id) := cell_at o4 3
            have y4 : w4.cell? ⟨wr.heap.size + 1, 0, none⟩ = some (.int .i64 0) := cell_at o5 0
            have y5 : w4.cell? ⟨wr.heap.size + 1, 1, none⟩ = some (.int .i64 0) := cell_at o5 1
            have y6 : w4.cell? ⟨wr.heap.size + 1, 2, none⟩ = some (.int .i64 0) := cell_at o5 2
            have yf : ∀ i, w4.frozen? ⟨wr.heap.size + 1, i, none⟩ = false := frozen_at o5
            have hneq : ¬ w2.heap.size = wr.heap.size + 1 := by omega
            have hneq' : ¬ wr.heap.size + 1 = w2.heap.size := by omega
            have hneq2 : ¬ wr.heap.size = w2.heap.size := by omega
            have hlk : ∀ W : World, obj W w2.heap.size = some (.map es clk) → (Instr.lookup 43 (.map (some w2.heap.size)) (.int .i64 id) true).run Try.prog W = .ok (.tuple #[.agg #[.int .i64 a.id, .int .i64 a.node, .int .i64 a.kind], .bool true]) W := by
              intro W hW
              have := run_lookup_int (w := W) Try.underlying43 Try.underlying2 zero32 ⟨es, clk, hW, hr⟩ id
              rw [HA.out] at this
              exact this
            obtain ⟨es4, hu, hr4⟩ := run_delete_int (enc := askV) (clk := clk) Try.underlying43 Try.underlying2 0 2 hr w2.heap.size id
            rw [← QL.out] at hr4
            unfold askV
            go_wp2_with fail
            go_quiet ((go_at_call 12; exact Calls.quiet_of_same (ref_reply_same _ _)))
            go_wp2_with fail
            refine (stat_full (fun i => i = w2.heap.size ∨ i = wr.heap.size + 1) w4 _ _ _ w2.heap.size S4 (.map es4 clk) ?hk g4 (by simp <;> omega) (by simp <;> omega) ?ho).mono ?_
            case hk => (repeat (first | with_reducible exact Keeps.refl _ _ | with_reducible refine Keeps.drew ?_ | with_reducible refine Keeps.drewN ?_ _ | with_reducible refine Keeps.setCell ?_ (by simp) _ | with_reducible refine Keeps.putObj ?_ (by simp) _ | with_reducible refine Keeps.alloc ?_ _))
            case ho => simp [obj_setCell, obj_putObj, obj_drew, obj_drewN, obj_alloc_past, zm4, zo, hm4, hneq]
            rintro e w5 ⟨rfl, k5, hm5⟩
            have g5 := g4.keep k5 (by simp <;> omega) (by simp <;> omega)
            have x5 : Below w.heap.size w w5 := x4.trans (k5.below (by simp <;> omega) (by have := x4.size; omega))
            have zm5 := lt_of_obj hm5
            have hl5 : ∀ W : World, obj W w2.heap.size = some (.map es4 clk) → (Builtin.len_ #[43] 3 #[.map (some w2.heap.size)]).run Try.prog W = .ok (.int .i64 S4.L.length) W := fun W hW => run_len_int Try.underlying43 3 ⟨es4, clk, hW, hr4⟩
            have hsm := J4.out.sum
            have hs1 := J4.out.n0
            have hs2 := J4.out.e0
            have hs6 := J4.out.a1
            have hs3 : S4.ans ≤ 100 := by omega
            have hs4 : S4.exp ≤ 100 := by omega
            have hs5 : S4.L.length ≤ 100 := by omega
            clear hsm hs6
            have hsum : (S4.asked != S4.ans + S4.exp + (S4.L.length : Int)) = false := by simpa using J4.out.sum
            go_wp2_with fail
            go_quiet ((go_at_call 11; exact Calls.quiet_of_same (len_same _ _ _ _ ((g5.alloc _).drewN _))))
            go_wp2_with fail
            exact ⟨⟨k + 1, S4, by omega, by go_num, by rw [QA.out], J4.out, (g5.alloc _).drewN _, (MapI.alloc ⟨es4, clk, hm5, hr4⟩ _).drewN _, below_drewN (x5.alloc (by have := x5.size; omega) _) _⟩, by simp [intOf]; omega⟩

          · have HK := Lib.hid hok
            clear hok
            go_wp2_with fail
            have g1 := (hB.alloc (.cells #[.int .i64 1, .int .i64 nd, .int .i64 kd, .int .i64 id] 45)).alloc (.cells #[.int .i64 0, .int .i64 0, .int .i64 0] 32)
            have n1 := (hM.alloc (.cells #[.int .i64 1, .int .i64 nd, .int .i64 kd, .int .i64 id] 45)).alloc (.cells #[.int .i64 0, .int .i64 0, .int .i64 0] 32)
            have x1 : Below w.heap.size w ((wr.alloc (.cells #[.int .i64 1, .int .i64 nd, .int .i64 kd, .int .i64 id] 45)).alloc (.cells #[.int .i64 0, .int .i64 0, .int .i64 0] 32)) := (hb.alloc zz (.cells #[.int .i64 1, .int .i64 nd, .int .i64 kd, .int .i64 id] 45)).alloc (by simp <;> omega) (.cells #[.int .i64 0, .int .i64 0, .int .i64 0] 32)
            have o1 : obj ((wr.alloc (.cells #[.int .i64 1, .int .i64 nd, .int .i64 kd, .int .i64 id] 45)).alloc (.cells #[.int .i64 0, .int .i64 0, .int .i64 0] 32)) wr.heap.size = some (.cells #[.int .i64 1, .int .i64 nd, .int .i64 kd, .int .i64 id] 45) := by rw [obj_alloc_past _ _ _ (by simp)]; exact obj_alloc_at _ _ _ rfl
            have o2 : obj ((wr.alloc (.cells #[.int .i64 1, .int .i64 nd, .int .i64 kd, .int .i64 id] 45)).alloc (.cells #[.int .i64 0, .int .i64 0, .int .i64 0] 32)) (wr.heap.size + 1) = some (.cells #[.int .i64 0, .int .i64 0, .int .i64 0] 32) := obj_alloc_at _ _ _ (by simp)
            refine (answer_bad _ _ _ S nd id kd g1 (fun a ha => by by_cases h1 : a.node = nd; exact .inr fun h2 => HK.out ⟨a, ha, h1, h2⟩; exact .inl h1)).mono ?_
            rintro e w4 ⟨rfl, k4⟩
            have g4 := g1.below k4
            have n4 : MapI w4 w2.heap.size askV S.L := n1.of_heap (obj_below k4 n1.lt)
            have x4 := x1.trans (k4.mono x1.size)
            have o4 := (obj_below k4 (lt_of_obj o1)).trans o1
            have o5 := (obj_below k4 (lt_of_obj o2)).trans o2
            obtain ⟨es, clk, hm4, hr⟩ := n4
            have zm4 := lt_of_obj hm4
            have zo := lt_of_obj o5
            have zo' := lt_of_obj o4
            have y1 : w4.cell? ⟨wr.heap.size, 1, none⟩ = some (.int .i64 nd) := cell_at o4 1
            have y2 : w4.cell? ⟨wr.heap.size, 2, none⟩ = some (.int .i64 kd) := cell_at o4 2
            have y3 : w4.cell? ⟨wr.heap.size, 3, none⟩ = some (.int .i64 id) := cell_at o4 3
            have y4 : w4.cell? ⟨wr.heap.size + 1, 0, none⟩ = some (.int .i64 0) := cell_at o5 0
            have y5 : w4.cell? ⟨wr.heap.size + 1, 1, none⟩ = some (.int .i64 0) := cell_at o5 1
            have y6 : w4.cell? ⟨wr.heap.size + 1, 2, none⟩ = some (.int .i64 0) := cell_at o5 2
            have yf : ∀ i, w4.frozen? ⟨wr.heap.size + 1, i, none⟩ = false := frozen_at o5
            have hneq : ¬ w2.heap.size = wr.heap.size + 1 := by omega
            have hneq' : ¬ wr.heap.size + 1 = w2.heap.size := by omega
            have hneq2 : ¬ wr.heap.size = w2.heap.size := by omega
            unfold askV
            go_wp2_with fail
            go_quiet ((go_at_call 12; exact Calls.quiet_of_same (ref_reply_same _ _)))
            go_wp2_with fail
            refine (stat_full (fun i => i = w2.heap.size ∨ i = wr.heap.size + 1) w4 _ _ _ w2.heap.size S (.map es clk) ?hk g4 (by simp <;> omega) (by simp <;> omega) ?ho).mono ?_
            case hk => (repeat (first | with_reducible exact Keeps.refl _ _ | with_reducible refine Keeps.drew ?_ | with_reducible refine Keeps.drewN ?_ _ | with_reducible refine Keeps.setCell ?_ (by simp) _ | with_reducible refine Keeps.putObj ?_ (by simp) _ | with_reducible refine Keeps.alloc ?_ _))
            case ho => simp [obj_setCell, obj_putObj, obj_drew, obj_drewN, obj_alloc_past, zm4, zo, hm4, hneq]
            rintro e w5 ⟨rfl, k5, hm5⟩
            have g5 := g4.keep k5 (by simp <;> omega) (by simp <;> omega)
            have x5 : Below w.heap.size w w5 := x4.trans (k5.below (by simp <;> omega) (by have := x4.size; omega))
            have zm5 := lt_of_obj hm5
            have hl5 : ∀ W : World, obj W w2.heap.size = some (.map es clk) → (Builtin.len_ #[43] 3 #[.map (some w2.heap.size)]).run Try.prog W = .ok (.int .i64 S.L.length) W := fun W hW => run_len_int Try.underlying43 3 ⟨es, clk, hW, hr⟩
            have hsm := JS.out.sum
            have hs1 := JS.out.n0
            have hs2 := JS.out.e0
            have hs6 := JS.out.a1
            have hs3 : S.ans ≤ 100 := by omega
            have hs4 : S.exp ≤ 100 := by omega
            have hs5 : S.L.length ≤ 100 := by omega
            clear hsm hs6
            have hsum : (S.asked != S.ans + S.exp + (S.L.length : Int)) = false := by simpa using JS.out.sum
            go_wp2_with fail
            go_quiet ((go_at_call 11; exact Calls.quiet_of_same (len_same _ _ _ _ ((g5.alloc _).drewN _))))
            go_wp2_with fail
            exact ⟨⟨k + 1, S, by omega, by go_num, by rfl, JS.out, (g5.alloc _).drewN _, (MapI.alloc ⟨es, clk, hm5, hr⟩ _).drewN _, below_drewN (x5.alloc (by have := x5.size; omega) _) _⟩, by simp [intOf]; omega⟩

        · by_cases d2 : dd = 2
          · subst dd
            cases hg : aGet id S.L with
            | none =>
              have HG := Lib.hid hg
              clear hg
              go_wp2_with fail
              have g1 := (hB.alloc (.cells #[.int .i64 2, .int .i64 nd, .int .i64 kd, .int .i64 id] 45)).alloc (.cells #[.int .i64 0, .int .i64 0, .int .i64 0] 32)
              have n1 := (hM.alloc (.cells #[.int .i64 2, .int .i64 nd, .int .i64 kd, .int .i64 id] 45)).alloc (.cells #[.int .i64 0, .int .i64 0, .int .i64 0] 32)
              have x1 : Below w.heap.size w ((wr.alloc (.cells #[.int .i64 2, .int .i64 nd, .int .i64 kd, .int .i64 id] 45)).alloc (.cells #[.int .i64 0, .int .i64 0, .int .i64 0] 32)) := (hb.alloc zz (.cells #[.int .i64 2, .int .i64 nd, .int .i64 kd, .int .i64 id] 45)).alloc (by simp <;> omega) (.cells #[.int .i64 0, .int .i64 0, .int .i64 0] 32)
              have o1 : obj ((wr.alloc (.cells #[.int .i64 2, .int .i64 nd, .int .i64 kd, .int .i64 id] 45)).alloc (.cells #[.int .i64 0, .int .i64 0, .int .i64 0] 32)) wr.heap.size = some (.cells #[.int .i64 2, .int .i64 nd, .int .i64 kd, .int .i64 id] 45) := by rw [obj_alloc_past _ _ _ (by simp)]; exact obj_alloc_at _ _ _ rfl
              have o2 : obj ((wr.alloc (.cells #[.int .i64 2, .int .i64 nd, .int .i64 kd, .int .i64 id] 45)).alloc (.cells #[.int .i64 0, .int .i64 0, .int .i64 0] 32)) (wr.heap.size + 1) = some (.cells #[.int .i64 0, .int .i64 0, .int .i64 0] 32) := obj_alloc_at _ _ _ (by simp)
              refine (expire_none _ _ _ S id g1 HG.out).mono ?_
              rintro e w4 ⟨rfl, k4⟩
              have g4 := g1.below k4
              have n4 : MapI w4 w2.heap.size askV S.L := n1.of_heap (obj_below k4 n1.lt)
              have x4 := x1.trans (k4.mono x1.size)
              have o4 := (obj_below k4 (lt_of_obj o1)).trans o1
              have o5 := (obj_below k4 (lt_of_obj o2)).trans o2
              obtain ⟨es, clk, hm4, hr⟩ := n4
              have zm4 := lt_of_obj hm4
              have zo := lt_of_obj o5
              have zo' := lt_of_obj o4
              have y1 : w4.cell? ⟨wr.heap.size, 1, none⟩ = some (.int .i64 nd) := cell_at o4 1
              have y2 : w4.cell? ⟨wr.heap.size, 2, none⟩ = some (.int .i64 kd) := cell_at o4 2
              have y3 : w4.cell? ⟨wr.heap.size, 3, none⟩ = some (.int .i64 id) := cell_at o4 3
              have y4 : w4.cell? ⟨wr.heap.size + 1, 0, none⟩ = some (.int .i64 0) := cell_at o5 0
              have y5 : w4.cell? ⟨wr.heap.size + 1, 1, none⟩ = some (.int .i64 0) := cell_at o5 1
              have y6 : w4.cell? ⟨wr.heap.size + 1, 2, none⟩ = some (.int .i64 0) := cell_at o5 2
              have yf : ∀ i, w4.frozen? ⟨wr.heap.size + 1, i, none⟩ = false := frozen_at o5
              have hneq : ¬ w2.heap.size = wr.heap.size + 1 := by omega
              have hneq' : ¬ wr.heap.size + 1 = w2.heap.size := by omega
              have hneq2 : ¬ wr.heap.size = w2.heap.size := by omega
              unfold askV
              go_wp2_with fail
              refine (stat_full (fun i => i = w2.heap.size ∨ i = wr.heap.size + 1) w4 _ _ _ w2.heap.size S (.map es clk) ?hk g4 (by simp <;> omega) (by simp <;> omega) ?ho).mono ?_
              case hk => (repeat (first | with_reducible exact Keeps.refl _ _ | with_reducible refine Keeps.drew ?_ | with_reducible refine Keeps.drewN ?_ _ | with_reducible refine Keeps.setCell ?_ (by simp) _ | with_reducible refine Keeps.putObj ?_ (by simp) _ | with_reducible refine Keeps.alloc ?_ _))
              case ho => simp [obj_setCell, obj_putObj, obj_drew, obj_drewN, obj_alloc_past, zm4, zo, hm4, hneq]
              rintro e w5 ⟨rfl, k5, hm5⟩
              have g5 := g4.keep k5 (by simp <;> omega) (by simp <;> omega)
              have x5 : Below w.heap.size w w5 := x4.trans (k5.below (by simp <;> omega) (by have := x4.size; omega))
              have zm5 := lt_of_obj hm5
              have hl5 : ∀ W : World, obj W w2.heap.size = some (.map es clk) → (Builtin.len_ #[43] 3 #[.map (some w2.heap.size)]).run Try.prog W = .ok (.int .i64 S.L.length) W := fun W hW => run_len_int Try.underlying43 3 ⟨es, clk, hW, hr⟩
              have hsm := JS.out.sum
              have hs1 := JS.out.n0
              have hs2 := JS.out.e0
              have hs6 := JS.out.a1
              have hs3 : S.ans ≤ 100 := by omega
              have hs4 : S.exp ≤ 100 := by omega
              have hs5 : S.L.length ≤ 100 := by omega
              clear hsm hs6
              have hsum : (S.asked != S.ans + S.exp + (S.L.length : Int)) = false := by simpa using JS.out.sum
              go_wp2_with fail
              go_quiet ((go_at_call 11; exact Calls.quiet_of_same (len_same _ _ _ _ ((g5.alloc _).drewN _))))
              go_wp2_with fail
              exact ⟨⟨k + 1, S, by omega, by go_num, by rfl, JS.out, (g5.alloc _).drewN _, (MapI.alloc ⟨es, clk, hm5, hr⟩ _).drewN _, below_drewN (x5.alloc (by have := x5.size; omega) _) _⟩, by simp [intOf]; omega⟩

            | some a =>
              have HA := Lib.hid hg
              clear hg
              go_wp2_with fail
              have g1 := (hB.alloc (.cells #[.int .i64 2, .int .i64 nd, .int .i64 kd, .int .i64 id] 45)).alloc (.cells #[.int .i64 0, .int .i64 0, .int .i64 0] 32)
              have n1 := (hM.alloc (.cells #[.int .i64 2, .int .i64 nd, .int .i64 kd, .int .i64 id] 45)).alloc (.cells #[.int .i64 0, .int .i64 0, .int .i64 0] 32)
              have x1 : Below w.heap.size w ((wr.alloc (.cells #[.int .i64 2, .int .i64 nd, .int .i64 kd, .int .i64 id] 45)).alloc (.cells #[.int .i64 0, .int .i64 0, .int .i64 0] 32)) := (hb.alloc zz (.cells #[.int .i64 2, .int .i64 nd, .int .i64 kd, .int .i64 id] 45)).alloc (by simp <;> omega) (.cells #[.int .i64 0, .int .i64 0, .int .i64 0] 32)
              have o1 : obj ((wr.alloc (.cells #[.int .i64 2, .int .i64 nd, .int .i64 kd, .int .i64 id] 45)).alloc (.cells #[.int .i64 0, .int .i64 0, .int .i64 0] 32)) wr.heap.size = some (.cells #[.int .i64 2, .int .i64 nd, .int .i64 kd, .int .i64 id] 45) := by rw [obj_alloc_past _ _ _ (by simp)]; exact obj_alloc_at _ _ _ rfl
              have o2 : obj ((wr.alloc (.cells #[.int .i64 2, .int .i64 nd, .int .i64 kd, .int .i64 id] 45)).alloc (.cells #[.int .i64 0, .int .i64 0, .int .i64 0] 32)) (wr.heap.size + 1) = some (.cells #[.int .i64 0, .int .i64 0, .int .i64 0] 32) := obj_alloc_at _ _ _ (by simp)
              refine (once_expire _ _ _ S id a (1 + room) k (by omega) g1 HI.out HA.out).mono ?_
              rintro e w4 ⟨rfl, S4, qa, qL, I4, g4, k4⟩
              have J4 := Lib.hid I4
              have QL := Lib.hid qL
              have QA := Lib.hid qa
              have hne1 : (S4.asked != S.asked) = false := by simpa using qa
              clear I4 qL qa
              have n4 : MapI w4 w2.heap.size askV S.L := n1.keep k4 (by simp <;> omega)
              have x4 : Below w.heap.size w w4 := x1.trans (k4.below (by simp <;> omega) x1.size)
              have o4 := (k4.block _ (lt_of_obj o1) (by simp <;> omega)).trans o1
              have o5 := (k4.block _ (lt_of_obj o2) (by simp <;> omega)).trans o2
              obtain ⟨es, clk, hm4, hr⟩ := n4
              have zm4 := lt_of_obj hm4
              have zo := lt_of_obj o5
              have zo' := lt_of_obj o4
              have y1 : w4.cell? ⟨wr.heap.size, 1, none⟩ = some (.int .i64 nd) := cell_at o4 1
              have y2 : w4.cell? ⟨wr.heap.size, 2, none⟩ = some (.int .i64 kd) := cell_at o4 2
              have y3 : w4.cell? ⟨wr.heap.size, 3, none⟩ = some (.int .i64 id) := cell_at o4 3
              have y4 : w4.cell? ⟨wr.heap.size + 1, 0, none⟩ = some (.int .i64 0) := cell_at o5 0
              have y5 : w4.cell? ⟨wr.heap.size + 1, 1, none⟩ = some (.int .i64 0) := cell_at o5 1
              have y6 : w4.cell? ⟨wr.heap.size + 1, 2, none⟩ = some (.int .i64 0) := cell_at o5 2
              have yf : ∀ i, w4.frozen? ⟨wr.heap.size + 1, i, none⟩ = false := frozen_at o5
              have hneq : ¬ w2.heap.size = wr.heap.size + 1 := by omega
              have hneq' : ¬ wr.heap.size + 1 = w2.heap.size := by omega
              have hneq2 : ¬ wr.heap.size = w2.heap.size := by omega
              have hlk : ∀ W : World, obj W w2.heap.size = some (.map es clk) → (Instr.lookup 43 (.map (some w2.heap.size)) (.int .i64 id) true).run Try.prog W = .ok (.tuple #[.agg #[.int .i64 a.id, .int .i64 a.node, .int .i64 a.kind], .bool true]) W := by
                intro W hW
                have := run_lookup_int (w := W) Try.underlying43 Try.underlying2 zero32 ⟨es, clk, hW, hr⟩ id
                rw [HA.out] at this
                exact this
              obtain ⟨es4, hu, hr4⟩ := run_delete_int (enc := askV) (clk := clk) Try.underlying43 Try.underlying2 0 2 hr w2.heap.size id
              rw [← QL.out] at hr4
              unfold askV
              go_wp2_with fail
              refine (stat_full (fun i => i = w2.heap.size ∨ i = wr.heap.size + 1) w4 _ _ _ w2.heap.size S4 (.map es4 clk) ?hk g4 (by simp <;> omega) (by simp <;> omega) ?ho).mono ?_
              case hk => (repeat (first | with_reducible exact Keeps.refl _ _ | with_reducible refine Keeps.drew ?_ | with_reducible refine Keeps.drewN ?_ _ | with_reducible refine Keeps.setCell ?_ (by simp) _ | with_reducible refine Keeps.putObj ?_ (by simp) _ | with_reducible refine Keeps.alloc ?_ _))
              case ho => simp [obj_setCell, obj_putObj, obj_drew, obj_drewN, obj_alloc_past, zm4, zo, hm4, hneq]
              rintro e w5 ⟨rfl, k5, hm5⟩
              have g5 := g4.keep k5 (by simp <;> omega) (by simp <;> omega)
              have x5 : Below w.heap.size w w5 := x4.trans (k5.below (by simp <;> omega) (by have := x4.size; omega))
              have zm5 := lt_of_obj hm5
              have hl5 : ∀ W : World, obj W w2.heap.size = some (.map es4 clk) → (Builtin.len_ #[43] 3 #[.map (some w2.heap.size)]).run Try.prog W = .ok (.int .i64 S4.L.length) W := fun W hW => run_len_int Try.underlying43 3 ⟨es4, clk, hW, hr4⟩
              have hsm := J4.out.sum
              have hs1 := J4.out.n0
              have hs2 := J4.out.e0
              have hs6 := J4.out.a1
              have hs3 : S4.ans ≤ 100 := by omega
              have hs4 : S4.exp ≤ 100 := by omega
              have hs5 : S4.L.length ≤ 100 := by omega
              clear hsm hs6
              have hsum : (S4.asked != S4.ans + S4.exp + (S4.L.length : Int)) = false := by simpa using J4.out.sum
              go_wp2_with fail
              go_quiet ((go_at_call 11; exact Calls.quiet_of_same (len_same _ _ _ _ ((g5.alloc _).drewN _))))
              go_wp2_with fail
              exact ⟨⟨k + 1, S4, by omega, by go_num, by rw [QA.out], J4.out, (g5.alloc _).drewN _, (MapI.alloc ⟨es4, clk, hm5, hr4⟩ _).drewN _, below_drewN (x5.alloc (by have := x5.size; omega) _) _⟩, by simp [intOf]; omega⟩

          · have e0 : (dd == 0) = false := by simpa using d0
            have e1 : (dd == 1) = false := by simpa using d1
            have e2 : (dd == 2) = false := by simpa using d2
            clear d0 d1 d2
            go_wp2_with fail
            have g1 := (hB.alloc (.cells #[.int .i64 dd, .int .i64 nd, .int .i64 kd, .int .i64 id] 45)).alloc (.cells #[.int .i64 0, .int .i64 0, .int .i64 0] 32)
            have n1 := (hM.alloc (.cells #[.int .i64 dd, .int .i64 nd, .int .i64 kd, .int .i64 id] 45)).alloc (.cells #[.int .i64 0, .int .i64 0, .int .i64 0] 32)
            have x1 : Below w.heap.size w ((wr.alloc (.cells #[.int .i64 dd, .int .i64 nd, .int .i64 kd, .int .i64 id] 45)).alloc (.cells #[.int .i64 0, .int .i64 0, .int .i64 0] 32)) := (hb.alloc zz (.cells #[.int .i64 dd, .int .i64 nd, .int .i64 kd, .int .i64 id] 45)).alloc (by simp <;> omega) (.cells #[.int .i64 0, .int .i64 0, .int .i64 0] 32)
            have o1 : obj ((wr.alloc (.cells #[.int .i64 dd, .int .i64 nd, .int .i64 kd, .int .i64 id] 45)).alloc (.cells #[.int .i64 0, .int .i64 0, .int .i64 0] 32)) wr.heap.size = some (.cells #[.int .i64 dd, .int .i64 nd, .int .i64 kd, .int .i64 id] 45) := by rw [obj_alloc_past _ _ _ (by simp)]; exact obj_alloc_at _ _ _ rfl
            have o2 : obj ((wr.alloc (.cells #[.int .i64 dd, .int .i64 nd, .int .i64 kd, .int .i64 id] 45)).alloc (.cells #[.int .i64 0, .int .i64 0, .int .i64 0] 32)) (wr.heap.size + 1) = some (.cells #[.int .i64 0, .int .i64 0, .int .i64 0] 32) := obj_alloc_at _ _ _ (by simp)
            obtain ⟨w4, hw4⟩ : ∃ w4, w4 = (wr.alloc (.cells #[.int .i64 dd, .int .i64 nd, .int .i64 kd, .int .i64 id] 45)).alloc (.cells #[.int .i64 0, .int .i64 0, .int .i64 0] 32) := ⟨_, rfl⟩
            rw [← hw4] at g1 n1 x1 o1 o2 ⊢
            clear hw4
            have g4 := g1
            have n4 := n1
            have x4 := x1
            have o4 := o1
            have o5 := o2
            obtain ⟨es, clk, hm4, hr⟩ := n4
            have zm4 := lt_of_obj hm4
            have zo := lt_of_obj o5
            have zo' := lt_of_obj o4
            have y1 : w4.cell? ⟨wr.heap.size, 1, none⟩ = some (.int .i64 nd) := cell_at o4 1
            have y2 : w4.cell? ⟨wr.heap.size, 2, none⟩ = some (.int .i64 kd) := cell_at o4 2
            have y3 : w4.cell? ⟨wr.heap.size, 3, none⟩ = some (.int .i64 id) := cell_at o4 3
            have y4 : w4.cell? ⟨wr.heap.size + 1, 0, none⟩ = some (.int .i64 0) := cell_at o5 0
            have y5 : w4.cell? ⟨wr.heap.size + 1, 1, none⟩ = some (.int .i64 0) := cell_at o5 1
            have y6 : w4.cell? ⟨wr.heap.size + 1, 2, none⟩ = some (.int .i64 0) := cell_at o5 2
            have yf : ∀ i, w4.frozen? ⟨wr.heap.size + 1, i, none⟩ = false := frozen_at o5
            have hneq : ¬ w2.heap.size = wr.heap.size + 1 := by omega
            have hneq' : ¬ wr.heap.size + 1 = w2.heap.size := by omega
            have hneq2 : ¬ wr.heap.size = w2.heap.size := by omega
            refine (stat_full (fun i => i = w2.heap.size ∨ i = wr.heap.size + 1) w4 _ _ _ w2.heap.size S (.map es clk) ?hk g4 (by simp <;> omega) (by simp <;> omega) ?ho).mono ?_
            case hk => (repeat (first | with_reducible exact Keeps.refl _ _ | with_reducible refine Keeps.drew ?_ | with_reducible refine Keeps.drewN ?_ _ | with_reducible refine Keeps.setCell ?_ (by simp) _ | with_reducible refine Keeps.putObj ?_ (by simp) _ | with_reducible refine Keeps.alloc ?_ _))
            case ho => simp [obj_setCell, obj_putObj, obj_drew, obj_drewN, obj_alloc_past, zm4, zo, hm4, hneq]
            rintro e w5 ⟨rfl, k5, hm5⟩
            have g5 := g4.keep k5 (by simp <;> omega) (by simp <;> omega)
            have x5 : Below w.heap.size w w5 := x4.trans (k5.below (by simp <;> omega) (by have := x4.size; omega))
            have zm5 := lt_of_obj hm5
            have hl5 : ∀ W : World, obj W w2.heap.size = some (.map es clk) → (Builtin.len_ #[43] 3 #[.map (some w2.heap.size)]).run Try.prog W = .ok (.int .i64 S.L.length) W := fun W hW => run_len_int Try.underlying43 3 ⟨es, clk, hW, hr⟩
            have hsm := JS.out.sum
            have hs1 := JS.out.n0
            have hs2 := JS.out.e0
            have hs6 := JS.out.a1
            have hs3 : S.ans ≤ 100 := by omega
            have hs4 : S.exp ≤ 100 := by omega
            have hs5 : S.L.length ≤ 100 := by omega
            clear hsm hs6
            have hsum : (S.asked != S.ans + S.exp + (S.L.length : Int)) = false := by simpa using JS.out.sum
            go_wp2_with fail
            go_quiet ((go_at_call 11; exact Calls.quiet_of_same (len_same _ _ _ _ ((g5.alloc _).drewN _))))
            go_wp2_with fail
            exact ⟨⟨k + 1, S, by omega, by go_num, by rfl, JS.out, (g5.alloc _).drewN _, (MapI.alloc ⟨es, clk, hm5, hr⟩ _).drewN _, below_drewN (x5.alloc (by have := x5.size; omega) _) _⟩, by simp [intOf]; omega⟩

    · go_wp2_with fail
      go_ret
      exact ⟨rfl, hb⟩

set_option maxRecDepth 100000 in
set_option maxHeartbeats 1000000 in
theorem once_none (room : Int) (a0 : 0 ≤ room) (a1 : room ≤ 255) (oa : Option Addr) (cap : Nat) (hcap : cap ≤ maxLen) (w : World) :
    Calls Try.prog 5 #[.int .u8 room, .slice oa 0 cap] w fun e w' => e = .returned (.bool true) ∧ Below w.heap.size w w' := by
  unfold maxLen at hcap
  have hmm := @run_makeMap Try.prog
  go_enter Try.func5, Try.ntmps5
  go_wp2_with fail
  refine (new_ok w _ _ (by omega) (by omega) (by omega) (by omega)).mono ?_
  rintro e w1 ⟨rfl, g1, k1⟩
  go_wp2_with fail
  refine (begun_any w1).mono ?_
  rintro e w2 ⟨rfl, k2⟩
  have b2 : Below w.heap.size w (w2.alloc (.map #[] 0)) := (k1.trans (k2.mono (by have := k1.size; omega))).alloc (by have := k1.size; have := k2.size; omega) _
  clear g1 k1 k2
  go_wp2_with fail
  clear hmm
  go_loopw [8, 42] (fun _ v42 wr => v42 = .int .i64 0 ∧ Below w.heap.size w wr) (fun _ _ _ => 0)
  case atStart => exact ⟨rfl, b2⟩
  case round =>
    clear b2
    obtain ⟨rfl, hb⟩ := hrel
    go_wp2_with fail
    go_ret
    exact ⟨rfl, hb⟩
theorem once_any (room : Int) (a0 : 0 ≤ room) (a1 : room ≤ 255) (oa : Option Addr) (len cap : Nat) (hlc : len ≤ cap) (hcap : cap ≤ maxLen) (w : World)
    (h : 0 < len → ∃ b off, oa = some ⟨b, off, none⟩ ∧ b < w.heap.size ∧ ∀ i, i < len → ∃ dd nd kd id : Int, w.cell? ⟨b, off + i * 4, none⟩ = some (.int .i64 dd) ∧ w.cell? ⟨b, off + i * 4 + 1, none⟩ = some (.int .i64 nd) ∧ w.cell? ⟨b, off + i * 4 + 2, none⟩ = some (.int .i64 kd) ∧ w.cell? ⟨b, off + i * 4 + 3, none⟩ = some (.int .i64 id)) :
    Calls Try.prog 5 #[.int .u8 room, .slice oa len cap] w fun e w' => e = .returned (.bool true) ∧ Below w.heap.size w w' := by
  by_cases hl : len = 0
  · subst hl
    exact once_none room a0 a1 oa cap hcap w
  · obtain ⟨b, off, rfl, hb, hB⟩ := h (by omega)
    by_cases h100 : len ≤ 80
    · exact once_a room a0 a1 b off len cap hlc hcap h100 w hb hB
    · exact once_b room a0 a1 b off len cap hlc hcap (by omega) w hb hB
end Go.Proofs.Ytnaknoebjbmboaa
