import Derived.Test.YtkjaabajomigkaaSorted
import Derived.Test.YtkjaabajomigkaaApp
import Derived.Deep.RegionLaw
namespace Go.Proofs.Ytkjaabajomigkaa
open Go.RowKit

theorem pushAll22 {ops : Array Oper} {rest : List Oper} {o : Oper} {a : Act} {w : World} {Q : Exit → Act → World → Prop} (hgd : o.guard = none) (s x : Operand) (ho : o.op = .call { callee := .builtin .append, args := #[s, x], argTypes := #[22, 22] })
    (base : Nat) (v : Value) (xs ys : List Vt) (hs : a.eval s = v) (hown : OwnS w base 33 33 vtL v xs) (sv : Value) (hx : a.eval x = sv) (hsl : SlIn w sv 33 vtL ys)
    (hlen : xs.length + ys.length ≤ 1048577) (hbase : base ≤ w.heap.size)
    (h : ∀ v' w', OwnS w' base 33 33 vtL v' (xs ++ ys) → Below base w w' → (∀ k, k < w.heap.size → v.ownBlock ≠ some k → obj w' k = obj w k) → wpList Try.prog ops Q rest (a.put o.dst v') w') : wpList Try.prog ops Q (o :: rest) a w := by
  obtain ⟨i0, hi, hz0, hz1, hz2⟩ := info_parts info33
  exact wpList_pushAll Try.underlying22 hi hz0 hz1 hz2 (by simp [Value.cells]) (by decide) vtL_length vtL_one hgd s x ho base v xs ys hs hown sv hx hsl hlen (by decide) hbase h
theorem step22 {K : Act → World → Prop} {Z : Prop} {ops : Array Oper} {o : Oper} {a : Act} {w : World} {Q : Exit → Act → World → Prop} (hgd : o.guard = none) (s x : Operand) (ho : o.op = .call { callee := .builtin .append, args := #[s, x], argTypes := #[22, 22] })
    (base : Nat) (v : Value) (xs ys : List Vt) (hs : a.eval s = v) (hown : OwnS w base 33 33 vtL v xs) (sv : Value) (hx : a.eval x = sv) (hsl : SlIn w sv 33 vtL ys)
    (hlen : xs.length + ys.length ≤ 1048577) (hbase : base ≤ w.heap.size)
    (h : ∀ v' w', OwnS w' base 33 33 vtL v' (xs ++ ys) → Below base w w' → (∀ k, k < w.heap.size → v.ownBlock ≠ some k → obj w' k = obj w k) → K (a.put o.dst v') w') : if Region.wanted o (yielded ops a.tmps) = true then Oper.wp Try.prog o a w K Q else Z := by
  obtain ⟨i0, hi, hz0, hz1, hz2⟩ := info_parts info33
  exact step_pushAll Try.underlying22 hi hz0 hz1 hz2 (by simp [Value.cells]) (by decide) vtL_length vtL_one hgd s x ho base v xs ys hs hown sv hx hsl hlen (by decide) hbase h
/-! ### a name put in its place -/
def insT (id : ID) (n : Int) : List Vt → List Vt
  | [] => [⟨id, n⟩]
  | x :: r => if x.id = id then ⟨id, n + x.n⟩ :: r else ⟨id, n⟩ :: x :: r
theorem insV_split (id : ID) (n : Int) : ∀ (l : List Vt) (k : Nat), k ≤ l.length → (∀ x ∈ l.take k, ltI x.id id = true) → (∀ h : k < l.length, ltI l[k].id id = false) → insV id n l = l.take k ++ insT id n (l.drop k) := by
  intro l
  induction l with
  | nil =>
    intro k hk _ _
    have : k = 0 := by simpa using hk
    subst this
    rfl
  | cons x l ih =>
    intro k hk h1 h2
    cases k with
    | zero =>
      have := h2 (by simp)
      simp only [List.getElem_cons_zero] at this
      simp only [insV, List.take_zero, List.drop_zero, List.nil_append, insT]
      rw [if_neg (by rw [this]; decide)]
    | succ k =>
      have hx := h1 x (by simp)
      simp only [insV, List.take_succ_cons, List.drop_succ_cons, List.cons_append]
      rw [if_pos hx, ih k (by simpa using hk) (fun y hy => h1 y (by simp [hy])) (fun h => h2 (Nat.succ_lt_succ h))]
theorem slIn_nil {w : World} {oa : Option Addr} {c : Nat} (hc : c ≤ maxLen) : SlIn w (.slice oa 0 c) 33 vtL ([] : List Vt) :=
  ⟨oa, c, rfl, Nat.zero_le _, hc, fun h => absurd h (Nat.lt_irrefl _)⟩
theorem Below.drewQ {B : Nat} {w w' : World} (h : Below B w w') (q : Nat) : Below B w (w'.drewN q) := ⟨h.os, h.tape, h.output, h.size, h.block⟩
theorem slIn_drop22 {w : World} {b off cap : Nat} {l : List Vt} (h : SlIn w (.slice (some ⟨b, off, none⟩) l.length cap) 33 vtL l) {n : Nat} (hn : n ≤ l.length) :
    SlIn w (.slice (if cap = n then some ⟨b, off, none⟩ else some ⟨b, off + n * 33, none⟩) (l.length - n) (cap - n)) 33 vtL (l.drop n) := by
  have hd := SlIn.drop h hn
  by_cases hc : cap = n
  · rw [if_pos hc]
    obtain ⟨oa, c, e, g1, g2, _⟩ := hd
    simp only [Value.slice.injEq] at e
    obtain ⟨_, e2, e3⟩ := e
    refine ⟨_, _, by rw [e2], by rw [e3]; exact g1, by rw [e3]; exact g2, fun h0 => ?_⟩
    rw [List.length_drop] at h0
    obtain ⟨_, _, e4, k1, k2, _⟩ := h
    simp only [Value.slice.injEq] at e4
    omega
  · rw [if_neg hc]; exact hd
set_option maxRecDepth 100000 in
set_option maxHeartbeats 2000000 in
/-- flurryref07.put, where nothing is put -/
theorem put_none (w : World) (v : Value) (l : List Vt) (id : ID) (h : SlIn w v 33 vtL l) (hlen : l.length ≤ 1048576) :
    Calls Try.prog 40 #[v, .agg (idL id).toArray, .int .i64 0] w (RetOwn w 33 33 vtL l) := by
  have hb : Below w.heap.size w (w.alloc (.cells (idL id).toArray 27)) := (Below.refl _ w).alloc (Nat.le_refl _) _
  have HSL := Lib.hid (h.below hb)
  have HB := Lib.hid hb
  have hz : (w.alloc (.cells (idL id).toArray 27)).heap.size = w.heap.size + 1 := by simp
  obtain ⟨oa, cap, rfl, g1, g2, g3⟩ := h
  clear g3 hb
  go_enter Try.func40, Try.ntmps40
  go_wp2_with (at_builtin; refine pushAll22 rfl _ _ rfl w.heap.size (.slice none 0 0) [] l rfl (OwnS.nil _ _ _ _ _) _ rfl HSL.out (by simp; omega) (by rw [hz]; omega) ?_; intro v' w' q1 q2 q3; have Q1 := Lib.hid q1; have Q2 := Lib.hid (HB.out.trans q2); clear q1 q2 q3)
  go_ret
  exact ⟨_, rfl, Q1.out, Q2.out⟩
set_option maxRecDepth 100000 in
set_option maxHeartbeats 2000000 in
/-- flurryref07.put -/
theorem put_some (w : World) (v : Value) (l : List Vt) (id : ID) (n : Int) (h : SlIn w v 33 vtL l) (hlen : l.length ≤ 1048575) (hn0 : ¬ n = 0) (hn1 : 0 ≤ n) (hn2 : n ≤ 1048576) (hx : ∀ x ∈ l, 0 ≤ x.n ∧ x.n ≤ 1048576) :
    Calls Try.prog 40 #[v, .agg (idL id).toArray, .int .i64 n] w (RetOwn w 33 33 vtL (insV id n l)) := by
  have hb : Below w.heap.size w (w.alloc (.cells (idL id).toArray 27)) := (Below.refl _ w).alloc (Nat.le_refl _) _
  have HSL := Lib.hid (h.below hb)
  have HB := Lib.hid hb
  have HX := Lib.hid hx
  have hz : (w.alloc (.cells (idL id).toArray 27)).heap.size = w.heap.size + 1 := by simp
  have ob : obj (w.alloc (.cells (idL id).toArray 27)) w.heap.size = some (.cells (idL id).toArray 27 (0, 0)) := obj_alloc_at _ _ _ rfl
  have HO1 := Lib.hid ob
  obtain ⟨oa, cap, rfl, g1, g2, g3⟩ := h
  unfold maxLen at g2
  clear g3 hb hx ob
  go_enter Try.func40, Try.ntmps40
  go_wp2
  generalize w.alloc (.cells (idL id).toArray 27) = w1 at *
  generalize hB : w.heap.size = B at *
  go_loopw [8] (fun v8 wr => ∃ (k : Nat), k ≤ l.length ∧ v8 = .int .i64 k ∧ Hid (Below (B + 1) w1 wr) ∧ Hid (∀ x ∈ l.take k, ltI x.id id = true)) (fun i _ => l.length - (intOf i).toNat)
  case atStart => exact ⟨0, Nat.zero_le _, rfl, Lib.hid (Below.refl _ _), Lib.hid (by simp)⟩
  case round =>
    obtain ⟨k, hk, rfl, HBr, HT⟩ := hrel
    have hzr := HBr.out.size
    have hBl : B < wr.heap.size := by omega
    have hob := (obj_below HBr.out (Nat.lt_succ_self B)).trans HO1.out
    have p0 : subOf (obj wr B) 0 32 = some (idL id).toArray := by rw [hob, subOf_cells (by simp), subA_all (by simp)]
    by_cases hlt : k < l.length
    · have hslr := HSL.out.below (HBr.out.mono (by omega))
      obtain ⟨oa', cap', e1, g1', g2', g3'⟩ := hslr
      simp only [Value.slice.injEq] at e1
      obtain ⟨rfl, _, rfl⟩ := e1
      obtain ⟨b, off, hoa, hbb, hrow⟩ := g3' (by omega)
      subst hoa
      have hs1 := hrow k hlt
      have hmulk : off + k * 33 + 33 ≤ off + k * 33 + 33 := Nat.le_refl _
      obtain ⟨p1, p2⟩ := vt_parts hs1
      have HC := Lib.hid (fun x : Later wr => lessR_any x.w l[k].id id)
      have dl : decide ((k : Int) < l.length) = true := by simp; omega
      cases hok : ltI l[k].id id with
      | true =>
        rw [hok] at HC
        have HT2 : Hid (∀ x ∈ l.take (k + 1), ltI x.id id = true) := Lib.hid (fun x hx => by
          rw [List.take_succ_eq_append_getElem hlt, List.mem_append, List.mem_singleton] at hx
          rcases hx with hx | rfl
          · exact HT.out x hx
          · exact hok)
        clear hrow hs1 p2 g3' hok
        generalize l[k] = x at *
        go_wp2
        refine wp_region_later wr (Below.refl _ _) (by kernel_rfl) (by kernel_rfl) ?_
        repeat (go_big_quiet_step (first | (go_at_call 12; with_reducible exact Calls.later (HC.out _)) | fail))
        refine wpQuiet_nil ?_
        intro _ hx
        obtain ⟨⟨wz, hbz⟩, hx⟩ := hx
        subst hx
        rename_i wz
        have HBZ := Lib.hid (HBr.out.trans (hbz.mono (by omega)))
        clear hbz
        go_wp2
        go_roundw
        case rel => exact ⟨k + 1, by omega, by go_num, HBZ, HT2⟩
        case measure => simp [intOf]; omega
      | false =>
        rw [hok] at HC
        have hsp := Lib.hid (insV_split id n l k hk HT.out (fun _ => hok))
        have hdr : l.drop k = l[k] :: l.drop (k + 1) := List.drop_eq_getElem_cons hlt
        have HD := Lib.hid hdr
        have hxx := HX.out l[k] (by simp)
        clear hrow hs1 g3' hok hdr
        generalize l[k] = x at *
        go_wp2
        refine wp_region_later wr (Below.refl _ _) (by kernel_rfl) (by kernel_rfl) ?_
        repeat (go_big_quiet_step (first | (go_at_call 12; with_reducible exact Calls.later (HC.out _)) | fail))
        refine wpQuiet_nil ?_
        intro _ hx
        obtain ⟨⟨wz, hbz⟩, hx⟩ := hx
        subst hx
        rename_i wz
        have HBZ := Lib.hid (HBr.out.trans (hbz.mono (by omega)))
        have p1z : subOf (obj wz b) (off + k * 33) 32 = some (idL x.id).toArray := by rw [obj_below hbz hbb]; exact p1
        have p2z : wz.cell? ⟨b, off + k * 33 + 32, none⟩ = some (.int .i64 x.n) := (hbz.cell (p := ⟨b, off + k * 33 + 32, none⟩) hbb).trans p2
        have p0z : subOf (obj wz B) 0 32 = some (idL id).toArray := by rw [obj_below hbz hBl]; exact p0
        have hzz := hbz.size
        clear p0 p1 p2 hbz HC
        have HS := Lib.hid (HSL.out.below (HBZ.out.mono (by omega)))
        go_wp2_with (at_builtin; refine pushAll22 rfl _ _ rfl wz.heap.size (.slice none 0 0) [] (l.take k) rfl (OwnS.nil _ _ _ _ _) _ rfl (HS.out.take hk) (by simp; omega) (Nat.le_refl _) ?_; intro v' w' q1 q2 q3; have Q1 := Lib.hid q1; have q4 : Below wz.heap.size wz w' := ⟨q2.os, q2.tape, q2.output, q2.size, fun j hj => q3 j hj (by simp [Value.ownBlock])⟩; have Q2 := Lib.hid q4; clear q1 q2 q3 q4)
        rw [List.nil_append] at Q1
        have hz' := Q2.out.size
        have p1' : subOf (obj w' b) (off + k * 33) 32 = some (idL x.id).toArray := by rw [obj_below Q2.out (by omega)]; exact p1z
        have p2' : w'.cell? ⟨b, off + k * 33 + 32, none⟩ = some (.int .i64 x.n) := (Q2.out.cell (p := ⟨b, off + k * 33 + 32, none⟩) (by show b < _; omega)).trans p2z
        have p0' : subOf (obj w' B) 0 32 = some (idL id).toArray := by rw [obj_below Q2.out (by omega)]; exact p0z
        have HS' := Lib.hid (HS.out.below Q2.out)
        clear p1z p2z p0z
        by_cases heq : x.id = id
        · have deq : decide (x.id = id) = true := by simpa using heq
          have hwr : IntKind.i64.wrap (n + x.n) = n + x.n := by simp [IntKind.wrap, IntKind.signed, IntKind.bits]; omega
          rw [heq] at p1'
          clear hxx HX
          go_wp2
          go_quiet (fail)
          go_wp2
          have HDS := Lib.hid (slIn_drop22 HS.out (n := k + 1) (by omega))
          have hk0 : (0 : Int) ≤ ((k + 1 : Nat) : Int) := by omega
          have hk1 : ((k + 1 : Nat) : Int) ≤ (l.length : Int) := by omega
          have hlk : (l.take k).length = k := by simp; omega
          try simp only [Int.natCast_add, Int.natCast_one] at hk0 hk1
          have HQA := Lib.hid (fun q o => (Below.drewQ Q2.out q).alloc (by simpa using hz') o)
          go_region_law (first
            | (refine step22 rfl (.tmp 56) (.tmp 60) rfl wz.heap.size v' (l.take k) [⟨id, n + x.n⟩] (by simp [Act.eval, Act.put]) ((Q1.out.drewN _).alloc _) _ (by simp [Act.eval, Act.put]) (SlIn.one vtL_length ⟨id, n + x.n⟩ (obj_alloc_at _ _ _ rfl)) (by rw [hlk]; simp; omega) (by simp; omega) ?_; intro v2 w3 r1 r2 r3; have R1 := Lib.hid r1; have R2 := Lib.hid ((HQA.out _ _).trans r2); clear r1 r2 r3)
            | (refine step22 rfl (.tmp 61) (.tmp 64) rfl wz.heap.size v2 (l.take k ++ [⟨id, n + x.n⟩]) (l.drop (k + 1)) (by simp [Act.eval, Act.put]) R1.out _ (by simp [Act.eval, Act.put]) (HDS.out.below R2.out) (by rw [List.length_append, hlk, List.length_drop]; simp; omega) R2.out.size ?_; intro v4 w5 r1 r2 r3; have R3 := Lib.hid r1; have R4 := Lib.hid (R2.out.trans r2); clear r1 r2 r3))
          all_goals go_wp2
          all_goals go_ret
          all_goals (
            refine ⟨_, rfl, ?_, ?_⟩
            · rw [hB, hsp.out]
              rw [HD.out]; simp only [insT, if_pos heq]
              have := R3.out
              rw [List.append_assoc] at this
              exact OwnS.rebase this (by omega)
            · rw [hB]
              exact HB.out.trans ((HBZ.out.mono (by omega)).trans (R4.out.mono (by omega))))
        · have deq : decide (x.id = id) = false := by simpa using heq
          go_wp2
          go_quiet (fail)
          go_wp2
          have HDS := Lib.hid (slIn_drop22 HS.out (n := k) (by omega))
          have hk0 : (0 : Int) ≤ ((k : Nat) : Int) := by omega
          have hk1 : ((k : Nat) : Int) ≤ (l.length : Int) := by omega
          have hlk : (l.take k).length = k := by simp; omega
          try simp only [Int.natCast_add, Int.natCast_one] at hk0 hk1
          have HQA := Lib.hid (fun q o => (Below.drewQ Q2.out q).alloc (by simpa using hz') o)
          go_region_law (first
            | (refine step22 rfl (.tmp 56) (.tmp 60) rfl wz.heap.size v' (l.take k) [⟨id, n⟩] (by simp [Act.eval, Act.put]) ((Q1.out.drewN _).alloc _) _ (by simp [Act.eval, Act.put]) (SlIn.one vtL_length ⟨id, n⟩ (obj_alloc_at _ _ _ rfl)) (by rw [hlk]; simp; omega) (by simp; omega) ?_; intro v2 w3 r1 r2 r3; have R1 := Lib.hid r1; have R2 := Lib.hid ((HQA.out _ _).trans r2); clear r1 r2 r3)
            | (refine step22 rfl (.tmp 61) (.tmp 64) rfl wz.heap.size v2 (l.take k ++ [⟨id, n⟩]) (l.drop (k)) (by simp [Act.eval, Act.put]) R1.out _ (by simp [Act.eval, Act.put]) (HDS.out.below R2.out) (by rw [List.length_append, hlk, List.length_drop]; simp; omega) R2.out.size ?_; intro v4 w5 r1 r2 r3; have R3 := Lib.hid r1; have R4 := Lib.hid (R2.out.trans r2); clear r1 r2 r3))
          all_goals go_wp2
          all_goals go_ret
          all_goals (
            refine ⟨_, rfl, ?_, ?_⟩
            · rw [hB, hsp.out]
              rw [HD.out]; simp only [insT, if_neg heq]; rw [HD.out] at R3
              have := R3.out
              rw [List.append_assoc] at this
              exact OwnS.rebase this (by omega)
            · rw [hB]
              exact HB.out.trans ((HBZ.out.mono (by omega)).trans (R4.out.mono (by omega))))
    · have hkl : k = l.length := by omega
      subst hkl
      have hsp := Lib.hid (insV_split id n l l.length (Nat.le_refl _) HT.out (fun h => absurd h (Nat.lt_irrefl _)))
      have HD : Hid (l.drop l.length = []) := Lib.hid (List.drop_eq_nil_of_le (Nat.le_refl _))
      have HS := Lib.hid (HSL.out.below (HBr.out.mono (by omega)))
      by_cases hl0 : l = []
      · subst hl0
        have hcm : cap ≤ maxLen := by unfold maxLen; exact g2
        clear HS HT HX HD
        simp only [List.length_nil] at g1 hk HSL
        cases oa with
        | none =>
          go_wp2
          go_quiet (fail)
          go_wp2_with (at_builtin; refine pushAll22 rfl _ _ rfl wr.heap.size (.slice none 0 0) [] ([] : List Vt) rfl (OwnS.nil _ _ _ _ _) (.slice none 0 cap) rfl (slIn_nil hcm) (by simp) (Nat.le_refl _) ?_; intro v' w' q1 q2 q3; have Q1 := Lib.hid q1; have q4 : Below wr.heap.size wr w' := ⟨q2.os, q2.tape, q2.output, q2.size, fun j hj => q3 j hj (by simp [Value.ownBlock])⟩; have Q2 := Lib.hid q4; clear q1 q2 q3 q4)
          rw [List.nil_append] at Q1
          have hz' := Q2.out.size
          have p0' : subOf (obj w' B) 0 32 = some (idL id).toArray := by rw [obj_below Q2.out (by omega)]; exact p0
          clear p0
          go_wp2
          go_quiet (fail)
          go_wp2
          have HQA := Lib.hid (fun q o => (Below.drewQ Q2.out q).alloc (by simpa using hz') o)
          go_region_law (first
            | (refine step22 rfl (.tmp 56) (.tmp 60) rfl wr.heap.size v' ([] : List Vt) [⟨id, n⟩] (by simp [Act.eval, Act.put]) ((Q1.out.drewN _).alloc _) _ (by simp [Act.eval, Act.put]) (SlIn.one vtL_length ⟨id, n⟩ (obj_alloc_at _ _ _ rfl)) (by simp) (by simp; omega) ?_; intro v2 w3 r1 r2 r3; have R1 := Lib.hid r1; have R2 := Lib.hid ((HQA.out _ _).trans r2); clear r1 r2 r3)
            | (refine step22 rfl (.tmp 61) (.tmp 64) rfl wr.heap.size v2 ([] ++ [⟨id, n⟩]) ([] : List Vt) (by simp [Act.eval, Act.put]) R1.out (.slice none 0 cap) (by simp [Act.eval, Act.put]) (slIn_nil hcm) (by simp) R2.out.size ?_; intro v4 w5 r1 r2 r3; have R3 := Lib.hid r1; have R4 := Lib.hid (R2.out.trans r2); clear r1 r2 r3))
          all_goals go_wp2
          all_goals go_ret
          all_goals (
            refine ⟨_, rfl, ?_, ?_⟩
            · rw [hB, hsp.out]
              simp only [List.take_nil, List.drop_nil, insT]
              have := R3.out
              rw [List.append_nil] at this
              exact OwnS.rebase this (by omega)
            · rw [hB]
              exact HB.out.trans ((HBr.out.mono (by omega)).trans (R4.out.mono (by omega))))
        | some ad =>
          obtain ⟨b, off, pth⟩ := ad
          go_wp2
          go_quiet (fail)
          go_wp2_with (at_builtin; refine pushAll22 rfl _ _ rfl wr.heap.size (.slice none 0 0) [] ([] : List Vt) rfl (OwnS.nil _ _ _ _ _) (.slice (some ⟨b, off, pth⟩) 0 cap) rfl (slIn_nil hcm) (by simp) (Nat.le_refl _) ?_; intro v' w' q1 q2 q3; have Q1 := Lib.hid q1; have q4 : Below wr.heap.size wr w' := ⟨q2.os, q2.tape, q2.output, q2.size, fun j hj => q3 j hj (by simp [Value.ownBlock])⟩; have Q2 := Lib.hid q4; clear q1 q2 q3 q4)
          rw [List.nil_append] at Q1
          have hz' := Q2.out.size
          have p0' : subOf (obj w' B) 0 32 = some (idL id).toArray := by rw [obj_below Q2.out (by omega)]; exact p0
          clear p0
          go_wp2
          go_quiet (fail)
          go_wp2
          have HQA := Lib.hid (fun q o => (Below.drewQ Q2.out q).alloc (by simpa using hz') o)
          go_region_law (first
            | (refine step22 rfl (.tmp 56) (.tmp 60) rfl wr.heap.size v' ([] : List Vt) [⟨id, n⟩] (by simp [Act.eval, Act.put]) ((Q1.out.drewN _).alloc _) _ (by simp [Act.eval, Act.put]) (SlIn.one vtL_length ⟨id, n⟩ (obj_alloc_at _ _ _ rfl)) (by simp) (by simp; omega) ?_; intro v2 w3 r1 r2 r3; have R1 := Lib.hid r1; have R2 := Lib.hid ((HQA.out _ _).trans r2); clear r1 r2 r3)
            | (refine step22 rfl (.tmp 61) (.tmp 64) rfl wr.heap.size v2 ([] ++ [⟨id, n⟩]) ([] : List Vt) (by simp [Act.eval, Act.put]) R1.out (.slice (some ⟨b, off, pth⟩) 0 cap) (by simp [Act.eval, Act.put]) (slIn_nil hcm) (by simp) R2.out.size ?_; intro v4 w5 r1 r2 r3; have R3 := Lib.hid r1; have R4 := Lib.hid (R2.out.trans r2); clear r1 r2 r3))
          all_goals go_wp2
          all_goals go_ret
          all_goals (
            refine ⟨_, rfl, ?_, ?_⟩
            · rw [hB, hsp.out]
              simp only [List.take_nil, List.drop_nil, insT]
              have := R3.out
              rw [List.append_nil] at this
              exact OwnS.rebase this (by omega)
            · rw [hB]
              exact HB.out.trans ((HBr.out.mono (by omega)).trans (R4.out.mono (by omega))))
      · have hpos : 0 < l.length := List.length_pos_iff.2 hl0
        obtain ⟨oa', cap', e1, g1', g2', g3'⟩ := HS.out
        simp only [Value.slice.injEq] at e1
        obtain ⟨rfl, _, rfl⟩ := e1
        obtain ⟨b, off, hoa, hbb, hrow⟩ := g3' hpos
        subst hoa
        clear hrow g3' HT HX hl0
        go_wp2
        go_quiet (fail)
        go_wp2_with (at_builtin; refine pushAll22 rfl _ _ rfl wr.heap.size (.slice none 0 0) [] (l.take l.length) rfl (OwnS.nil _ _ _ _ _) _ rfl (HS.out.take (Nat.le_refl _)) (by simp; try omega) (Nat.le_refl _) ?_; intro v' w' q1 q2 q3; have Q1 := Lib.hid q1; have q4 : Below wr.heap.size wr w' := ⟨q2.os, q2.tape, q2.output, q2.size, fun j hj => q3 j hj (by simp [Value.ownBlock])⟩; have Q2 := Lib.hid q4; clear q1 q2 q3 q4)
        rw [List.nil_append] at Q1
        have hz' := Q2.out.size
        have p0' : subOf (obj w' B) 0 32 = some (idL id).toArray := by rw [obj_below Q2.out (by omega)]; exact p0
        clear p0
        go_wp2
        go_quiet (fail)
        go_wp2
        have HDS := Lib.hid (slIn_drop22 HS.out (n := l.length) (Nat.le_refl _))
        have hlk : (l.take l.length).length = l.length := by simp
        have HQA := Lib.hid (fun q o => (Below.drewQ Q2.out q).alloc (by simpa using hz') o)
        go_region_law (first
          | (refine step22 rfl (.tmp 56) (.tmp 60) rfl wr.heap.size v' (l.take l.length) [⟨id, n⟩] (by simp [Act.eval, Act.put]) ((Q1.out.drewN _).alloc _) _ (by simp [Act.eval, Act.put]) (SlIn.one vtL_length ⟨id, n⟩ (obj_alloc_at _ _ _ rfl)) (by rw [hlk]; simp; try omega) (by simp; omega) ?_; intro v2 w3 r1 r2 r3; have R1 := Lib.hid r1; have R2 := Lib.hid ((HQA.out _ _).trans r2); clear r1 r2 r3)
          | (refine step22 rfl (.tmp 61) (.tmp 64) rfl wr.heap.size v2 (l.take l.length ++ [⟨id, n⟩]) (l.drop l.length) (by simp [Act.eval, Act.put]) R1.out _ (by simp [Act.eval, Act.put]) (HDS.out.below R2.out) (by rw [List.length_append, hlk]; simp; try omega) R2.out.size ?_; intro v4 w5 r1 r2 r3; have R3 := Lib.hid r1; have R4 := Lib.hid (R2.out.trans r2); clear r1 r2 r3))
        all_goals go_wp2
        all_goals go_ret
        all_goals (
          refine ⟨_, rfl, ?_, ?_⟩
          · rw [hB, hsp.out]
            rw [HD.out]; simp only [insT]; rw [HD.out] at R3
            have := R3.out
            rw [List.append_assoc] at this
            exact OwnS.rebase this (by omega)
          · rw [hB]
            exact HB.out.trans ((HBr.out.mono (by omega)).trans (R4.out.mono (by omega))))
end Go.Proofs.Ytkjaabajomigkaa
