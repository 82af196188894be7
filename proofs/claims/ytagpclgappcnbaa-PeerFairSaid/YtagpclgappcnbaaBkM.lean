import Derived.Test.YtagpclgappcnbaaBkP
import Derived.Deep.RegionHeld3
import Derived.Maps.AppendAt
namespace Go.Proofs.Ytagpclgappcnbaa
open Go.RowKit

/-! ### New -/
theorem info54 : (Try.prog.info? 54).map (fun i => (i.zero, i.size, i.bytes)) = some (some (.agg #[.string ⟨#[]⟩, .int .i64 0]), 2, 24) := by kernel_rfl
theorem pushAllV {ops : Array Oper} {rest : List Oper} {o : Oper} {a : Act} {w : World} {Q : Exit → Act → World → Prop} (hgd : o.guard = none) (s x : Operand) (ho : o.op = .call { callee := .builtin .append, args := #[s, x], argTypes := #[28, 28] })
    (base : Nat) (v : Value) (n : Nat) (cur : List Value) (hs : a.eval s = v) (hown : w.ownsRow base 54 2 v n cur) (g off c : Nat) (ys : List Be.Vd) (hx : a.eval x = .slice (some ⟨g, off, none⟩) ys.length c)
    (hc : ∀ j u, (ys.flatMap Be.vdL)[j]? = some u → w.cell? ⟨g, off + j, none⟩ = some u)
    (hlen : n + ys.length ≤ 1048576) (hbase : base ≤ w.heap.size)
    (h : ∀ v' w', w'.ownsRow base 54 2 v' (n + ys.length) (cur ++ ys.flatMap Be.vdL) → w.grownBy w' v.ownBlock → (v' = .slice none 0 0 ↔ v = .slice none 0 0 ∧ ys.length = 0) → wpList Try.prog ops Q rest (a.put o.dst v') w') : wpList Try.prog ops Q (o :: rest) a w := by
  obtain ⟨i0, hi, hz0, hz1, hz2⟩ := info_parts info54
  refine wpList_append_own (P := Try.prog) w hgd s x 28 ho base 54 i0 _ 2 24 Try.underlying28 hi hz0 hz1 hz2 (by simp [Value.cells]) (by decide) v n cur hs hown ⟨g, off, none⟩ ys.length c (ys.flatMap Be.vdL) hx (flatMap_len Be.vdL_length _) (fun j u hj => ?_) (fun u hu => ?_) (by unfold maxLen; omega) (by omega) hbase h
  · rw [Addr.add_lit]; exact hc j u hj
  · obtain ⟨x, _, hx⟩ := List.mem_flatMap.1 hu
    have := Be.vdL_one x
    simp only [allOne, List.all_eq_true] at this
    exact this u hx
@[local go_sem ↓] theorem hide_load27 (a : Addr) : loadVar 27 a = loadAgg 27 a := rfl
@[local go_sem] theorem run_load27 (b off : Nat) (W : World) : (loadAgg 27 ⟨b, off, none⟩).run Try.prog W = loadRes Try.prog 27 ⟨b, off, none⟩ W (subOf (obj W b) off 11) := run_loadAgg Try.isAgg27 Try.sizeOf27 b off W
@[local go_sem ↓] theorem hide_build73 (ps : Array (Nat × Value)) : Instr.build 73 ps = buildAgg 73 ps := rfl
noncomputable def newE (c : CfgD) (l : List Be.Vd) (now : Int) : Int := if pchkE c ≠ 0 then pchkE c else if Be.chk l ≠ 0 then Be.chk l else if now < 0 ∨ 4611686018427387903 < now then 131 else 0
def newM (c : CfgD) (l : List Be.Vd) (now : Int) : PM := ⟨c, l, now, ⟨Me.newV c.r, now⟩, List.replicate l.length ⟨0, 0, 0⟩, [], ⟨c.room, 0, [], 0, 0, 0⟩, []⟩
structure NewOK (w : World) (M : PM) (e : Ending) (w' : World) : Prop where
  ex : ∃ b p F, e = .returned (.tuple #[.pointer (some ⟨b, 0, none⟩), .int .i64 0]) ∧ PeerAt w' F b p M ∧ (∀ n, Own F b p n → w.heap.size ≤ n) ∧ (∀ a, p.la = some a → w.heap.size ≤ a.block) ∧ ∀ a, p.sa = some a → w.heap.size ≤ a.block
def NewR (w : World) (c : CfgD) (l : List Be.Vd) (now : Int) (e : Ending) (w' : World) : Prop :=
  Below w.heap.size w w' ∧ (newE c l now ≠ 0 → e = .returned (.tuple #[.pointer none, .int .i64 (newE c l now)])) ∧ (newE c l now = 0 → NewOK w (newM c l now) e w')
theorem below_alloc {w W : World} {o : Obj} (h : Below w.heap.size w W) : Below w.heap.size w (W.alloc o) := h.alloc h.size o
theorem pchk_0 {c : CfgD} (h : pchkE c = 0) : 1 ≤ c.room ∧ c.room ≤ 1024 ∧ Me.RuleOk c.r ∧ Be.ruleE c.q = 0 := by
  unfold pchkE at h
  split at h
  · cases h
  · rename_i h1
    split at h
    · rename_i h2; exact absurd h h2
    · rename_i h2
      refine ⟨by omega, by omega, ?_, h⟩
      unfold mchk at h2
      by_cases hr : Me.RuleOk c.r
      · exact hr
      · rw [if_neg hr] at h2; simp at h2
theorem newAt {W : World} {c : CfgD} {l : List Be.Vd} {now nv : Int} {nb ib qm f0 am U lc sc : Nat} {la sa : Option Addr}
    (box : obj W nb = some (.cells #[.pointer (some ⟨ib, 0, none⟩), .int .i64 c.room, .int .i64 c.r.first, .int .i64 c.r.min, .int .i64 c.r.max, .int .i64 c.r.half, .int .i64 c.r.quart, .int .i64 c.q.f, .int .i64 c.q.lo, .int .i64 c.q.fo, .int .i64 c.q.nu, .int .i64 c.q.de, .slice la l.length lc, .int .i64 now, .int .i64 nv, .int .i64 now, .slice sa l.length sc, .map (some qm)] 73 (0, 0)))
    (inn : obj W ib = some (.cells #[.pointer (some ⟨am + 1, 0, none⟩), .pointer (some ⟨f0 + 1, 0, none⟩)] 93 (0, 0)))
    (ak : Ak.BookAt W (am + 1) am ⟨c.room, 0, [], 0, 0, 0⟩) (st : Ak.StampM W am) (hp : Al.Hp W (fun n => n = f0 ∨ n = f0 + 1) (f0 + 1) [])
    (hl : SlIn W (.slice la l.length lc) 2 Be.vdL l) (hs : SlIn W (.slice sa l.length sc) 3 Be.stL (List.replicate l.length ⟨0, 0, 0⟩)) (hq : obj W qm = some (.map #[] 0))
    (h1 : am + 1 < U) (h2 : U ≤ f0) (h3 : U ≤ ib) (h4 : U ≤ qm) (h5 : U ≤ nb) (i1 : ib ≠ f0 ∧ ib ≠ f0 + 1) (i2 : qm ≠ f0 ∧ qm ≠ f0 + 1) (i3 : nb ≠ f0 ∧ nb ≠ f0 + 1)
    (j1 : ∀ a, la = some a → am + 1 < a.block ∧ a.block < U) (j2 : ∀ a, sa = some a → am + 1 < a.block ∧ a.block < U) :
    PeerAt W (fun n => n = f0 ∨ n = f0 + 1) nb ⟨ib, am + 1, am, f0 + 1, qm, la, lc, sa, sc⟩ ⟨c, l, now, ⟨nv, now⟩, List.replicate l.length ⟨0, 0, 0⟩, [], ⟨c.room, 0, [], 0, 0, 0⟩, []⟩ := by
  refine ⟨?_, inn, ak, st, hp, hl, ?_, ⟨#[], 0, hq, trivial⟩, fun a e => ?_, fun a e => ?_, ?_, ?_, ?_, ?_, ?_, ?_, ⟨#[], 0, hq, by simp [StampOK]⟩⟩
  · unfold bkC
    simp only [List.length_replicate]
    exact box
  · simp only [List.length_replicate]; exact hs
  · have := j1 a e
    refine ⟨?_, ?_, ?_, ?_, ?_, ?_⟩ <;> (try show ¬ (_ = _ ∨ _ = _)) <;> (try dsimp only) <;> omega
  · have := j2 a e
    refine ⟨?_, ?_, ?_, ?_, ?_, ?_⟩ <;> (try show ¬ (_ = _ ∨ _ = _)) <;> (try dsimp only) <;> omega
  all_goals (try show ¬ (_ = _ ∨ _ = _)) <;> (try dsimp only) <;> omega
theorem stamp_nil {ν : Type} {enc : ν → Value} {w : World} {m : Nat} (h : MapI w m enc []) : Ak.StampM w m := by
  obtain ⟨es, clk, h1, h2⟩ := h
  refine ⟨es, clk, h1, ?_⟩
  generalize es.toList = L at *
  cases L with
  | nil => exact ⟨List.nodup_nil, fun e he => by cases he⟩
  | cons x r => cases h2
set_option maxRecDepth 100000 in
set_option maxHeartbeats 4000000 in
theorem new_any (w : World) (c : CfgD) (v : Value) (l : List Be.Vd) (now : Int) (h : SlIn w v 2 Be.vdL l) : Calls Try.prog 9 #[.agg (cfgC c), v, .int .i64 now] w (NewR w c l now) := by
  have b1 : Below w.heap.size w (w.alloc (.cells (cfgC c) 27)) := (Below.refl _ w).alloc (Nat.le_refl _) _
  have OB := Lib.hid (show obj (w.alloc (.cells (cfgC c) 27)) w.heap.size = some (.cells (cfgC c) 27 (0, 0)) from obj_alloc_at _ _ _ rfl)
  have B1 := Lib.hid b1
  have HL := Lib.hid h
  have HC := Lib.hid (fun W => pcheck_any W c)
  have HV := Lib.hid (fun W (hW : Below w.heap.size w W) => Be.checkA W v l (h.below hW))
  have HN := Lib.hid (fun W => Me.new_any c.r now W)
  have HE0 : Hid (pchkE c ≠ 0 → newE c l now = pchkE c) := Lib.hid (fun h => by unfold newE; rw [if_pos h])
  have HE1 : Hid (pchkE c = 0 → Be.chk l ≠ 0 → newE c l now = Be.chk l) := Lib.hid (fun h h1 => by unfold newE; rw [if_neg (fun hh => hh h), if_pos h1])
  have HE2 : Hid (pchkE c = 0 → Be.chk l = 0 → (now < 0 ∨ 4611686018427387903 < now) → newE c l now = 131) := Lib.hid (fun h h1 h2 => by unfold newE; rw [if_neg (fun hh => hh h), if_neg (fun hh => hh h1), if_pos h2])
  have HE3 : Hid (pchkE c = 0 → Be.chk l = 0 → ¬ (now < 0 ∨ 4611686018427387903 < now) → newE c l now = 0) := Lib.hid (fun h h1 h2 => by unfold newE; rw [if_neg (fun hh => hh h), if_neg (fun hh => hh h1), if_neg h2])
  have HP := Lib.hid (@pchk_0 c)
  have HCK := Lib.hid (@Be.chk_32 l)
  have HNM : Hid (newM c l now = ⟨c, l, now, ⟨Me.newV c.r, now⟩, List.replicate l.length ⟨0, 0, 0⟩, [], ⟨c.room, 0, [], 0, 0, 0⟩, []⟩) := Lib.hid rfl
  unfold NewR
  generalize newM c l now = NM at *
  generalize newE c l now = NE at *
  generalize hP : pchkE c = P at *
  generalize hK : Be.chk l = K at *
  obtain ⟨oa, cap, rfl, g1, g2, g3⟩ := h
  have G3 := Lib.hid g3
  clear b1 hP hK g3
  go_enter Try.func9, Try.ntmps9
  have L1 := Lib.hid (show loadRes Try.prog 27 ⟨w.heap.size, 0, none⟩ (w.alloc (.cells (cfgC c) 27)) (subOf (obj (w.alloc (.cells (cfgC c) 27)) w.heap.size) 0 11) = .ok (.agg (cfgC c)) (w.alloc (.cells (cfgC c) 27)) from by rw [OB.out]; rfl)
  go_wp2_with fail
  clear L1
  generalize w.alloc (.cells (cfgC c) 27) = w1 at *
  refine (HC.out w1).mono ?_
  rintro e w2 ⟨rfl, b2⟩
  have B2 : Hid (Below w.heap.size w w2) := Lib.hid (B1.out.trans (b2.mono B1.out.size))
  have O2 := Lib.hid ((obj_below b2 (lt_of_obj OB.out)).trans OB.out)
  clear b2 B1 OB HC
  by_cases hP : P = 0
  case neg =>
    have hN : Hid (NE = P) := Lib.hid (HE0.out hP)
    clear HE0 HE1 HE2 HE3
    go_wp2_with fail
    refine bodyPost_ret (v := .tuple #[.pointer none, .int .i64 P]) (by simp [results, Try.results9, go_sem]) rfl ⟨B2.out, fun _ => by rw [hN.out], fun h => absurd (hN.out.symm.trans h) hP⟩
  subst hP
  clear HE0
  obtain ⟨r1, r2, r3, r4⟩ := HP.out rfl
  have R := Lib.hid r3
  clear r3 r4 HP
  go_wp2_with fail
  refine (HV.out w2 B2.out).mono ?_
  rintro e w3 ⟨rfl, b3⟩
  have B3 : Hid (Below w.heap.size w w3) := Lib.hid (B2.out.trans (b3.mono B2.out.size))
  have O3 := Lib.hid ((obj_below b3 (lt_of_obj O2.out)).trans O2.out)
  clear b3 B2 O2 HV
  by_cases hK : K = 0
  case neg =>
    have hN : Hid (NE = K) := Lib.hid (HE1.out trivial hK)
    clear HE1 HE2 HE3
    go_wp2_with fail
    refine bodyPost_ret (v := .tuple #[.pointer none, .int .i64 K]) (by simp [results, Try.results9, go_sem]) rfl ⟨B3.out, fun _ => by rw [hN.out], fun h => absurd (hN.out.symm.trans h) hK⟩
  subst hK
  clear HE1
  obtain ⟨k1, k2, -, -⟩ := HCK.out rfl
  clear HCK
  have x1 := cell_at O3.out 1
  have x2 := cell_at O3.out 2
  have x3 := cell_at O3.out 3
  have x4 := cell_at O3.out 4
  have x5 := cell_at O3.out 5
  simp at x1 x2 x3 x4 x5
  by_cases hb : now < 0 ∨ 4611686018427387903 < now
  · have hN : Hid (NE = 131) := Lib.hid (HE2.out trivial rfl hb)
    have hR : Me.newR c.r now = (⟨0, 0⟩, 131) := by unfold Me.newR; rw [if_pos R.out, if_neg (by omega)]
    rw [hR] at HN
    unfold Me.ruleV Me.meanV at HN
    simp only at HN
    clear HE2 HE3 hR
    go_wp2_with fail
    refine (HN.out w3).mono ?_
    rintro e w4 ⟨rfl, b4⟩
    have B4 : Hid (Below w.heap.size w w4) := Lib.hid (B3.out.trans (b4.mono B3.out.size))
    have B5 : Hid (Below w.heap.size w (w4.alloc (.cells #[.int .i64 0, .int .i64 0] 70))) := Lib.hid (B4.out.alloc B4.out.size _)
    clear b4
    go_wp2_with fail
    refine bodyPost_ret (v := .tuple #[.pointer none, .int .i64 131]) (by simp [results, Try.results9, go_sem]) rfl ⟨B5.out, fun _ => by rw [hN.out], fun h => absurd (hN.out.symm.trans h) (by decide)⟩
  have hN : Hid (NE = 0) := Lib.hid (HE3.out trivial rfl hb)
  have hR : Me.newR c.r now = (⟨Me.newV c.r, now⟩, 0) := by unfold Me.newR; rw [if_pos R.out, if_pos (by omega)]
  rw [hR] at HN
  unfold Me.ruleV Me.meanV at HN
  simp only at HN
  clear HE2 HE3 hR
  generalize hnv : Me.newV c.r = nv at *
  clear hnv
  go_wp2_with fail
  refine (HN.out w3).mono ?_
  rintro e w4 ⟨rfl, b4⟩
  have B4 : Hid (Below w.heap.size w w4) := Lib.hid (B3.out.trans (b4.mono B3.out.size))
  have O4 := Lib.hid ((obj_below b4 (lt_of_obj O3.out)).trans O3.out)
  have b5 : Below w4.heap.size w4 (w4.alloc (.cells #[.int .i64 nv, .int .i64 now] 70)) := (Below.refl _ _).alloc (Nat.le_refl _) _
  have B5 : Hid (Below w.heap.size w (w4.alloc (.cells #[.int .i64 nv, .int .i64 now] 70))) := Lib.hid (B4.out.alloc B4.out.size _)
  have O5 := Lib.hid ((obj_below b5 (lt_of_obj O4.out)).trans O4.out)
  have M5 := Lib.hid (show obj (w4.alloc (.cells #[.int .i64 nv, .int .i64 now] 70)) w4.heap.size = some (.cells #[.int .i64 nv, .int .i64 now] 70 (0, 0)) from obj_alloc_at _ _ _ rfl)
  have x0 := cell_at O5.out 0
  simp at x0
  have HA := Lib.hid (fun W => Ak.new_ok W c.room 0 r1 r2 (by decide) (by decide))
  clear b4 b5 O3 B3 O4 B4 x1 x2 x3 x4 x5
  go_wp2_with fail
  generalize w4.alloc (.cells #[.int .i64 nv, .int .i64 now] 70) = w5 at *
  generalize w4.heap.size = mb at *
  refine (HA.out w5).mono ?_
  rintro e w6 ⟨rfl, ak6, b6⟩
  have B6 : Hid (Below w.heap.size w w6) := Lib.hid (B5.out.trans (b6.mono B5.out.size))
  have O6 := Lib.hid ((obj_below b6 (lt_of_obj O5.out)).trans O5.out)
  have M6 := Lib.hid ((obj_below b6 (lt_of_obj M5.out)).trans M5.out)
  have A6 := Lib.hid ak6
  have Z6 := Lib.hid B5.out.size
  clear b6 ak6 B5 O5 M5 x0 HA
  generalize w5.heap.size = am at *
  have HB := Lib.hid (fun W => Be.makeSeats l.length k1 k2 W)
  go_wp2_with fail
  refine (HB.out w6).mono ?_
  rintro e w7 ⟨sv, rfl, own7, b7⟩
  have B7 : Hid (Below w.heap.size w w7) := Lib.hid (B6.out.trans (b7.mono B6.out.size))
  have O7 := Lib.hid ((obj_below b7 (lt_of_obj O6.out)).trans O6.out)
  have M7 := Lib.hid ((obj_below b7 (lt_of_obj M6.out)).trans M6.out)
  have A7 := Lib.hid (A6.out.below b7)
  have S7 := Lib.hid own7
  have Z7 := Lib.hid B6.out.size
  have HZ7 : Hid (w6.heap.size ≤ w7.heap.size) := Lib.hid b7.size
  have ZA := Lib.hid A6.out.lt
  clear b7 own7 B6 O6 M6 A6 HB
  generalize w6.heap.size = sb at *
  obtain ⟨b0, off, rfl, hbb, hrow⟩ := G3.out (by omega)
  have HC : Hid (∀ j u, (l.flatMap Be.vdL)[j]? = some u → (w7.alloc (.cells #[] 54)).cell? ⟨b0, off + j, none⟩ = some u) := Lib.hid (fun j u hj => by
    rw [← Be.row_cells Be.vdL_length (by decide) hrow hj]
    exact World.cell?_of_block (w := w) (a := ⟨b0, off + j, none⟩) (obj_below (B7.out.alloc B7.out.size _) hbb))
  have h0b : (Instr.buildSlice 28 0 #[]).run Try.prog w7 = .ok (.slice (some ⟨w7.heap.size, 0, none⟩) 0 0) (w7.alloc (.cells #[] 54)) := by kernel_rfl
  have HOW : Hid ((w7.alloc (.cells #[] 54)).ownsRow w7.heap.size 54 2 (.slice (some ⟨w7.heap.size, 0, none⟩) 0 0) 0 []) := Lib.hid ⟨rfl, .inr ⟨w7.heap.size, 0, #[], rfl, Nat.le_refl _, obj_alloc_at _ _ _ rfl, Nat.le_refl _, by unfold maxLen; omega, rfl, rfl⟩⟩
  clear G3 hrow
  go_wp2_with (at_builtin; refine pushAllV rfl _ _ rfl w7.heap.size (.slice (some ⟨w7.heap.size, 0, none⟩) 0 0) 0 [] rfl HOW.out b0 off cap l rfl HC.out (by omega) (by simp) ?_; intro v' w8 q1 q2 q3)
  have own8 : OwnS w8 w7.heap.size 54 2 Be.vdL v' l := ⟨by simpa using q1, ⟨fun e => by have := (q3.1 e).2; omega, fun e => by rw [e] at k1; simp at k1⟩⟩
  have b8 : Below w7.heap.size w7 w8 := ((Below.refl _ w7).alloc (Nat.le_refl _) _).grown q2 (by simp) (fun k e => by simp [Value.ownBlock] at e; omega)
  clear q1 q2 q3 HC h0b HOW
  have B8 : Hid (Below w.heap.size w w8) := Lib.hid (B7.out.trans (b8.mono B7.out.size))
  have O8 := Lib.hid ((obj_below b8 (lt_of_obj O7.out)).trans O7.out)
  have M8 := Lib.hid ((obj_below b8 (lt_of_obj M7.out)).trans M7.out)
  have A8 := Lib.hid (A7.out.below b8)
  have S8 := Lib.hid (S7.out.below b8)
  have V8 := Lib.hid own8
  obtain ⟨oa8, cap8, e8⟩ := own8.slice
  subst e8
  obtain ⟨oas, caps, es⟩ := S7.out.slice
  subst es
  simp only [List.length_replicate] at S8
  clear b8 own8 O7 M7 A7 S7
  have l8 := lt_of_obj O8.out
  have m8 := lt_of_obj M8.out
  have HH := Lib.hid (fun W => Al.new_hp W)
  have s0 : subOf (obj w8 w.heap.size) 0 11 = some (cfgC c) ∧ w8.cell? ⟨mb, 0, none⟩ = some (.int .i64 nv) ∧ w8.cell? ⟨mb, 1, none⟩ = some (.int .i64 now) := ⟨by rw [O8.out]; rfl, cell_at M8.out 0, cell_at M8.out 1⟩
  have hmm := @run_makeMap Try.prog
  have hb73 : ∀ (q : Option Addr) (m : Option Nat) (W : World), (buildAgg 73 #[(0, .pointer q), (1, .agg (cfgC c)), (2, .slice oa8 l.length cap8), (3, .int .i64 now), (4, .agg #[.int .i64 nv, .int .i64 now]), (5, .slice oas l.length caps), (6, .map m)]).run Try.prog W = .ok (.agg #[.pointer q, .int .i64 c.room, .int .i64 c.r.first, .int .i64 c.r.min, .int .i64 c.r.max, .int .i64 c.r.half, .int .i64 c.r.quart, .int .i64 c.q.f, .int .i64 c.q.lo, .int .i64 c.q.fo, .int .i64 c.q.nu, .int .i64 c.q.de, .slice oa8 l.length cap8, .int .i64 now, .int .i64 nv, .int .i64 now, .slice oas l.length caps, .map m]) W := fun _ _ _ => by kernel_rfl
  generalize hzz : w.heap.size = z at *
  have SW : Hid (∀ W, Below w8.heap.size w8 W → (subOf (obj W z) 0 11 = some (cfgC c) ∧ W.cell? ⟨mb, 0, none⟩ = some (.int .i64 nv) ∧ W.cell? ⟨mb, 1, none⟩ = some (.int .i64 now))) := Lib.hid (fun W hW => ⟨by rw [obj_below hW l8]; exact s0.1, (hW.cell (p := ⟨mb, 0, none⟩) m8).trans s0.2.1, (hW.cell (p := ⟨mb, 1, none⟩) m8).trans s0.2.2⟩)
  have HZ := Lib.hid hzz
  clear hzz
  have HLA : Hid (∀ a, oa8 = some a → am + 1 < a.block ∧ a.block < w8.heap.size) := Lib.hid (fun a e => by have h1 := V8.out.1.lt a.block (by rw [e]; rfl); have h2 := ZA.out; have h3 := HZ7.out; omega)
  have HSA : Hid (∀ a, oas = some a → am + 1 < a.block ∧ a.block < w8.heap.size) := Lib.hid (fun a e => by have h1 := S8.out.1.lt a.block (by rw [e]; rfl); have h2 := ZA.out; omega)
  have HS2 : Hid (l.length = l.length ∧ SlIn w8 (.slice oas l.length caps) 3 Be.stL (List.replicate l.length ⟨0, 0, 0⟩)) := Lib.hid ⟨rfl, S8.out.slIn Be.stL_length⟩
  go_region_held3 (fun W => subOf (obj W z) 0 11 = some (cfgC c) ∧ W.cell? ⟨mb, 0, none⟩ = some (.int .i64 nv) ∧ W.cell? ⟨mb, 1, none⟩ = some (.int .i64 now))
    (first | exact s0 | assumption | ((try dsimp only); refine SW.out _ ?_; repeat (first | assumption | exact Below.refl _ _ | refine below_alloc ?_ | refine Below.drew ?_)))
    (first
      | (go_at_call 33; (with_reducible refine (HH.out _).mono ?_); rintro e w9 ⟨rfl, h9, b9⟩; have G9 : Below w8.heap.size w8 w9 := (by refine Below.trans ?_ (b9.mono (by simp)); repeat (first | assumption | exact Below.refl _ _ | refine below_alloc ?_ | refine Below.drew ?_)); have s9 := SW.out w9 G9; have z9 := G9.size; have l9 : z < w9.heap.size := (by omega); have m9 : mb < w9.heap.size := (by omega)))
  all_goals (have hz6 := Z6.out; have hza := ZA.out; have hau := A8.out.lt)
  · have GW : Below w8.heap.size w8 (((w9.alloc (.cells #[.pointer (some ⟨am + 1, 0, none⟩), .pointer (some ⟨w8.heap.size + 1, 0, none⟩)] 93)).alloc (.map #[] 0)).alloc (.cells #[.pointer (some ⟨w9.heap.size, 0, none⟩), .int .i64 c.room, .int .i64 c.r.first, .int .i64 c.r.min, .int .i64 c.r.max, .int .i64 c.r.half, .int .i64 c.r.quart, .int .i64 c.q.f, .int .i64 c.q.lo, .int .i64 c.q.fo, .int .i64 c.q.nu, .int .i64 c.q.de, .slice oa8 l.length cap8, .int .i64 now, .int .i64 nv, .int .i64 now, .slice oas l.length caps, .map (some (w9.heap.size + 1))] 73)) := by repeat (first | assumption | refine below_alloc ?_)
    have G9W : Below w9.heap.size w9 (((w9.alloc (.cells #[.pointer (some ⟨am + 1, 0, none⟩), .pointer (some ⟨w8.heap.size + 1, 0, none⟩)] 93)).alloc (.map #[] 0)).alloc (.cells #[.pointer (some ⟨w9.heap.size, 0, none⟩), .int .i64 c.room, .int .i64 c.r.first, .int .i64 c.r.min, .int .i64 c.r.max, .int .i64 c.r.half, .int .i64 c.r.quart, .int .i64 c.q.f, .int .i64 c.q.lo, .int .i64 c.q.fo, .int .i64 c.q.nu, .int .i64 c.q.de, .slice oa8 l.length cap8, .int .i64 now, .int .i64 nv, .int .i64 now, .slice oas l.length caps, .map (some (w9.heap.size + 1))] 73)) := by repeat (first | exact Below.refl _ _ | refine below_alloc ?_)
    have hz9 := G9.size
    have hf9 : w8.heap.size + 1 < w9.heap.size := h9.lt
    have PA : Hid (PeerAt (((w9.alloc (.cells #[.pointer (some ⟨am + 1, 0, none⟩), .pointer (some ⟨w8.heap.size + 1, 0, none⟩)] 93)).alloc (.map #[] 0)).alloc (.cells #[.pointer (some ⟨w9.heap.size, 0, none⟩), .int .i64 c.room, .int .i64 c.r.first, .int .i64 c.r.min, .int .i64 c.r.max, .int .i64 c.r.half, .int .i64 c.r.quart, .int .i64 c.q.f, .int .i64 c.q.lo, .int .i64 c.q.fo, .int .i64 c.q.nu, .int .i64 c.q.de, .slice oa8 l.length cap8, .int .i64 now, .int .i64 nv, .int .i64 now, .slice oas l.length caps, .map (some (w9.heap.size + 1))] 73)) (fun n => n = w8.heap.size ∨ n = w8.heap.size + 1) (w9.heap.size + 1 + 1) ⟨w9.heap.size, am + 1, am, w8.heap.size + 1, (w9.heap.size + 1), oa8, cap8, oas, caps⟩ NM) := Lib.hid (by
      rw [HNM.out]
      exact newAt (U := w8.heap.size) (obj_alloc_at _ _ _ (by simp)) ((obj_alloc_past _ _ _ (by simp; omega)).trans ((obj_alloc_past _ _ _ (by simp)).trans (obj_alloc_at _ _ _ rfl))) (A8.out.below GW) (stamp_nil (A8.out.below GW).map) (h9.below G9W) ((V8.out.slIn Be.vdL_length).below GW) (HS2.out.2.below GW) ((obj_alloc_past _ _ _ (by simp)).trans (obj_alloc_at _ _ _ (by simp))) (by omega) (by omega) (by omega) (by omega) (by omega) (by omega) (by omega) (by omega) (fun a e => by have := HLA.out a e; omega) (fun a e => by have := HSA.out a e; omega))
    have BF : Hid (Below z w (((w9.alloc (.cells #[.pointer (some ⟨am + 1, 0, none⟩), .pointer (some ⟨w8.heap.size + 1, 0, none⟩)] 93)).alloc (.map #[] 0)).alloc (.cells #[.pointer (some ⟨w9.heap.size, 0, none⟩), .int .i64 c.room, .int .i64 c.r.first, .int .i64 c.r.min, .int .i64 c.r.max, .int .i64 c.r.half, .int .i64 c.r.quart, .int .i64 c.q.f, .int .i64 c.q.lo, .int .i64 c.q.fo, .int .i64 c.q.nu, .int .i64 c.q.de, .slice oa8 l.length cap8, .int .i64 now, .int .i64 nv, .int .i64 now, .slice oas l.length caps, .map (some (w9.heap.size + 1))] 73))) := Lib.hid (B8.out.trans (GW.mono (by omega)))
    have HOW2 : Hid (∀ n, Own (fun n => n = w8.heap.size ∨ n = w8.heap.size + 1) (w9.heap.size + 1 + 1) ⟨w9.heap.size, am + 1, am, w8.heap.size + 1, (w9.heap.size + 1), oa8, cap8, oas, caps⟩ n → w.heap.size ≤ n) := Lib.hid (fun n hn => by
      have hz := HZ.out
      rcases hn with hn | hn | hn | hn | hn | hn <;> (try dsimp only at hn) <;> omega)
    clear GW G9W s9 SW s0 h9 b9 G9 l9 m9
    go_wp2_with fail
    refine bodyPost_ret (v := .tuple #[.pointer (some ⟨w9.heap.size + 1 + 1, 0, none⟩), .int .i64 0]) (by simp [results, Try.results9, go_sem]) rfl ⟨by rw [HZ.out]; exact BF.out, fun h => absurd hN.out h, fun _ => ⟨_, _, _, rfl, PA.out, HOW2.out, fun a e => by have h1 := HLA.out a e; have h2 := HZ.out; omega, fun a e => by have h1 := HSA.out a e; have h2 := HZ.out; omega⟩⟩
  · have GW : Below w8.heap.size w8 (((w9.alloc (.map #[] 0)).alloc (.cells #[.pointer (some ⟨am + 1, 0, none⟩), .pointer (some ⟨w8.heap.size + 1, 0, none⟩)] 93)).alloc (.cells #[.pointer (some ⟨w9.heap.size + 1, 0, none⟩), .int .i64 c.room, .int .i64 c.r.first, .int .i64 c.r.min, .int .i64 c.r.max, .int .i64 c.r.half, .int .i64 c.r.quart, .int .i64 c.q.f, .int .i64 c.q.lo, .int .i64 c.q.fo, .int .i64 c.q.nu, .int .i64 c.q.de, .slice oa8 l.length cap8, .int .i64 now, .int .i64 nv, .int .i64 now, .slice oas l.length caps, .map (some w9.heap.size)] 73)) := by repeat (first | assumption | refine below_alloc ?_)
    have G9W : Below w9.heap.size w9 (((w9.alloc (.map #[] 0)).alloc (.cells #[.pointer (some ⟨am + 1, 0, none⟩), .pointer (some ⟨w8.heap.size + 1, 0, none⟩)] 93)).alloc (.cells #[.pointer (some ⟨w9.heap.size + 1, 0, none⟩), .int .i64 c.room, .int .i64 c.r.first, .int .i64 c.r.min, .int .i64 c.r.max, .int .i64 c.r.half, .int .i64 c.r.quart, .int .i64 c.q.f, .int .i64 c.q.lo, .int .i64 c.q.fo, .int .i64 c.q.nu, .int .i64 c.q.de, .slice oa8 l.length cap8, .int .i64 now, .int .i64 nv, .int .i64 now, .slice oas l.length caps, .map (some w9.heap.size)] 73)) := by repeat (first | exact Below.refl _ _ | refine below_alloc ?_)
    have hz9 := G9.size
    have hf9 : w8.heap.size + 1 < w9.heap.size := h9.lt
    have PA : Hid (PeerAt (((w9.alloc (.map #[] 0)).alloc (.cells #[.pointer (some ⟨am + 1, 0, none⟩), .pointer (some ⟨w8.heap.size + 1, 0, none⟩)] 93)).alloc (.cells #[.pointer (some ⟨w9.heap.size + 1, 0, none⟩), .int .i64 c.room, .int .i64 c.r.first, .int .i64 c.r.min, .int .i64 c.r.max, .int .i64 c.r.half, .int .i64 c.r.quart, .int .i64 c.q.f, .int .i64 c.q.lo, .int .i64 c.q.fo, .int .i64 c.q.nu, .int .i64 c.q.de, .slice oa8 l.length cap8, .int .i64 now, .int .i64 nv, .int .i64 now, .slice oas l.length caps, .map (some w9.heap.size)] 73)) (fun n => n = w8.heap.size ∨ n = w8.heap.size + 1) (w9.heap.size + 1 + 1) ⟨w9.heap.size + 1, am + 1, am, w8.heap.size + 1, w9.heap.size, oa8, cap8, oas, caps⟩ NM) := Lib.hid (by
      rw [HNM.out]
      exact newAt (U := w8.heap.size) (obj_alloc_at _ _ _ (by simp)) ((obj_alloc_past _ _ _ (by simp)).trans (obj_alloc_at _ _ _ (by simp))) (A8.out.below GW) (stamp_nil (A8.out.below GW).map) (h9.below G9W) ((V8.out.slIn Be.vdL_length).below GW) (HS2.out.2.below GW) ((obj_alloc_past _ _ _ (by simp; omega)).trans ((obj_alloc_past _ _ _ (by simp)).trans (obj_alloc_at _ _ _ rfl))) (by omega) (by omega) (by omega) (by omega) (by omega) (by omega) (by omega) (by omega) (fun a e => by have := HLA.out a e; omega) (fun a e => by have := HSA.out a e; omega))
    have BF : Hid (Below z w (((w9.alloc (.map #[] 0)).alloc (.cells #[.pointer (some ⟨am + 1, 0, none⟩), .pointer (some ⟨w8.heap.size + 1, 0, none⟩)] 93)).alloc (.cells #[.pointer (some ⟨w9.heap.size + 1, 0, none⟩), .int .i64 c.room, .int .i64 c.r.first, .int .i64 c.r.min, .int .i64 c.r.max, .int .i64 c.r.half, .int .i64 c.r.quart, .int .i64 c.q.f, .int .i64 c.q.lo, .int .i64 c.q.fo, .int .i64 c.q.nu, .int .i64 c.q.de, .slice oa8 l.length cap8, .int .i64 now, .int .i64 nv, .int .i64 now, .slice oas l.length caps, .map (some w9.heap.size)] 73))) := Lib.hid (B8.out.trans (GW.mono (by omega)))
    have HOW2 : Hid (∀ n, Own (fun n => n = w8.heap.size ∨ n = w8.heap.size + 1) (w9.heap.size + 1 + 1) ⟨w9.heap.size + 1, am + 1, am, w8.heap.size + 1, w9.heap.size, oa8, cap8, oas, caps⟩ n → w.heap.size ≤ n) := Lib.hid (fun n hn => by
      have hz := HZ.out
      rcases hn with hn | hn | hn | hn | hn | hn <;> (try dsimp only at hn) <;> omega)
    clear GW G9W s9 SW s0 h9 b9 G9 l9 m9
    go_wp2_with fail
    refine bodyPost_ret (v := .tuple #[.pointer (some ⟨w9.heap.size + 1 + 1, 0, none⟩), .int .i64 0]) (by simp [results, Try.results9, go_sem]) rfl ⟨by rw [HZ.out]; exact BF.out, fun h => absurd hN.out h, fun _ => ⟨_, _, _, rfl, PA.out, HOW2.out, fun a e => by have h1 := HLA.out a e; have h2 := HZ.out; omega, fun a e => by have h1 := HSA.out a e; have h2 := HZ.out; omega⟩⟩
  · have GW : Below w8.heap.size w8 ((w9.alloc (.cells #[.pointer (some ⟨am + 1, 0, none⟩), .pointer (some ⟨(w8.heap.size + 1) + 1, 0, none⟩)] 93)).alloc (.cells #[.pointer (some ⟨w9.heap.size, 0, none⟩), .int .i64 c.room, .int .i64 c.r.first, .int .i64 c.r.min, .int .i64 c.r.max, .int .i64 c.r.half, .int .i64 c.r.quart, .int .i64 c.q.f, .int .i64 c.q.lo, .int .i64 c.q.fo, .int .i64 c.q.nu, .int .i64 c.q.de, .slice oa8 l.length cap8, .int .i64 now, .int .i64 nv, .int .i64 now, .slice oas l.length caps, .map (some w8.heap.size)] 73)) := by repeat (first | assumption | refine below_alloc ?_)
    have G9W : Below w9.heap.size w9 ((w9.alloc (.cells #[.pointer (some ⟨am + 1, 0, none⟩), .pointer (some ⟨(w8.heap.size + 1) + 1, 0, none⟩)] 93)).alloc (.cells #[.pointer (some ⟨w9.heap.size, 0, none⟩), .int .i64 c.room, .int .i64 c.r.first, .int .i64 c.r.min, .int .i64 c.r.max, .int .i64 c.r.half, .int .i64 c.r.quart, .int .i64 c.q.f, .int .i64 c.q.lo, .int .i64 c.q.fo, .int .i64 c.q.nu, .int .i64 c.q.de, .slice oa8 l.length cap8, .int .i64 now, .int .i64 nv, .int .i64 now, .slice oas l.length caps, .map (some w8.heap.size)] 73)) := by repeat (first | exact Below.refl _ _ | refine below_alloc ?_)
    have hz9 := G9.size
    have hf9 : w8.heap.size + 1 + 1 < w9.heap.size := by have := h9.lt; simp at this; omega
    have q9 : obj w9 w8.heap.size = some (.map #[] 0) := (obj_below b9 (by simp)).trans (obj_alloc_at _ _ _ rfl)
    rw [show (w8.alloc (.map #[] 0)).drew.heap.size = w8.heap.size + 1 by simp] at h9
    have PA : Hid (PeerAt ((w9.alloc (.cells #[.pointer (some ⟨am + 1, 0, none⟩), .pointer (some ⟨(w8.heap.size + 1) + 1, 0, none⟩)] 93)).alloc (.cells #[.pointer (some ⟨w9.heap.size, 0, none⟩), .int .i64 c.room, .int .i64 c.r.first, .int .i64 c.r.min, .int .i64 c.r.max, .int .i64 c.r.half, .int .i64 c.r.quart, .int .i64 c.q.f, .int .i64 c.q.lo, .int .i64 c.q.fo, .int .i64 c.q.nu, .int .i64 c.q.de, .slice oa8 l.length cap8, .int .i64 now, .int .i64 nv, .int .i64 now, .slice oas l.length caps, .map (some w8.heap.size)] 73)) (fun n => n = (w8.heap.size + 1) ∨ n = (w8.heap.size + 1) + 1) (w9.heap.size + 1) ⟨w9.heap.size, am + 1, am, (w8.heap.size + 1) + 1, w8.heap.size, oa8, cap8, oas, caps⟩ NM) := Lib.hid (by
      rw [HNM.out]
      exact newAt (U := w8.heap.size) (obj_alloc_at _ _ _ (by simp)) ((obj_alloc_past _ _ _ (by simp)).trans (obj_alloc_at _ _ _ rfl)) (A8.out.below GW) (stamp_nil (A8.out.below GW).map) (h9.below G9W) ((V8.out.slIn Be.vdL_length).below GW) (HS2.out.2.below GW) ((obj_below G9W (by omega)).trans q9) (by omega) (by omega) (by omega) (by omega) (by omega) (by omega) (by omega) (by omega) (fun a e => by have := HLA.out a e; omega) (fun a e => by have := HSA.out a e; omega))
    have BF : Hid (Below z w ((w9.alloc (.cells #[.pointer (some ⟨am + 1, 0, none⟩), .pointer (some ⟨(w8.heap.size + 1) + 1, 0, none⟩)] 93)).alloc (.cells #[.pointer (some ⟨w9.heap.size, 0, none⟩), .int .i64 c.room, .int .i64 c.r.first, .int .i64 c.r.min, .int .i64 c.r.max, .int .i64 c.r.half, .int .i64 c.r.quart, .int .i64 c.q.f, .int .i64 c.q.lo, .int .i64 c.q.fo, .int .i64 c.q.nu, .int .i64 c.q.de, .slice oa8 l.length cap8, .int .i64 now, .int .i64 nv, .int .i64 now, .slice oas l.length caps, .map (some w8.heap.size)] 73))) := Lib.hid (B8.out.trans (GW.mono (by omega)))
    have HOW2 : Hid (∀ n, Own (fun n => n = (w8.heap.size + 1) ∨ n = (w8.heap.size + 1) + 1) (w9.heap.size + 1) ⟨w9.heap.size, am + 1, am, (w8.heap.size + 1) + 1, w8.heap.size, oa8, cap8, oas, caps⟩ n → w.heap.size ≤ n) := Lib.hid (fun n hn => by
      have hz := HZ.out
      rcases hn with hn | hn | hn | hn | hn | hn <;> (try dsimp only at hn) <;> omega)
    clear GW G9W s9 SW s0 h9 b9 G9 l9 m9
    go_wp2_with fail
    refine bodyPost_ret (v := .tuple #[.pointer (some ⟨w9.heap.size + 1, 0, none⟩), .int .i64 0]) (by simp [results, Try.results9, go_sem]) rfl ⟨by rw [HZ.out]; exact BF.out, fun h => absurd hN.out h, fun _ => ⟨_, _, _, rfl, PA.out, HOW2.out, fun a e => by have h1 := HLA.out a e; have h2 := HZ.out; omega, fun a e => by have h1 := HSA.out a e; have h2 := HZ.out; omega⟩⟩
end Go.Proofs.Ytagpclgappcnbaa
