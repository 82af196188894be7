import Derived.Test.YtagpclgappcnbaaGreatRbG
import Derived.Test.YtagpclgappcnbaaGreatBkM
import Derived.Test.YtagpclgappcnbaaGreatBeR
namespace Go.Proofs.YtagpclgappcnbaaGreat
open Go.RowKit

/-! ### New -/
theorem rmcheck_any (r : Me.RuleD) (w : World) : Calls Tryz.prog 32 #[Me.ruleV r] w fun e w' => e = .returned (.int .i64 (mchk r)) ∧ Below w.heap.size w w' := by
  unfold mchk
  by_cases h : Me.RuleOk r
  · rw [if_pos h]; exact Me.rcheck_ok r w h
  · rw [if_neg h]; exact Me.rcheck_bad r w h
set_option maxRecDepth 100000 in
set_option maxHeartbeats 2000000 in
theorem rpcheck_any (w : World) (c : CfgD) : Calls Tryz.prog 10 #[.agg (cfgC c)] w fun e w' => e = .returned (.int .i64 (pchkE c)) ∧ Below w.heap.size w w' := by
  have b1 : Below w.heap.size w (w.alloc (.cells (cfgC c) 27)) := (Below.refl _ w).alloc (Nat.le_refl _) _
  have OB := Lib.hid (show obj (w.alloc (.cells (cfgC c) 27)) w.heap.size = some (.cells (cfgC c) 27 (0, 0)) from obj_alloc_at _ _ _ rfl)
  have HM := Lib.hid (fun W => rmcheck_any c.r W)
  have HB := Lib.hid (fun W => Be.ruleR_any c.q W)
  have HP : Hid (pchkE c = if c.room < 1 ∨ 1024 < c.room then 1 else if mchk c.r ≠ 0 then mchk c.r else Be.ruleE c.q) := Lib.hid rfl
  have B1 := Lib.hid b1
  generalize pchkE c = P at *
  generalize mchk c.r = m at *
  generalize Be.ruleE c.q = u at *
  unfold Me.ruleV at HM
  unfold Be.ruV at HB
  obtain ⟨room, ⟨r1, r2, r3, r4, r5⟩, ⟨q1, q2, q3, q4, q5⟩⟩ := c
  simp only [cfgC] at *
  have x0 := cell_at OB.out 0
  have x1 := cell_at OB.out 1
  have x2 := cell_at OB.out 2
  have x3 := cell_at OB.out 3
  have x4 := cell_at OB.out 4
  have x5 := cell_at OB.out 5
  simp at x0 x1 x2 x3 x4 x5
  clear b1
  go_enter Tryz.func10, Tryz.ntmps10
  by_cases h1 : room < 1
  · obtain rfl : P = 1 := by rw [HP.out, if_pos (.inl h1)]
    go_wp2_with fail
    go_ret
    exact ⟨rfl, B1.out⟩
  by_cases h2 : 1024 < room
  · obtain rfl : P = 1 := by rw [HP.out, if_pos (.inr h2)]
    go_wp2_with fail
    go_ret
    exact ⟨rfl, B1.out⟩
  go_wp2_with fail
  clear x0 x1 x2 x3 x4 x5
  generalize w.alloc (.cells #[.int .i64 room, .int .i64 r1, .int .i64 r2, .int .i64 r3, .int .i64 r4, .int .i64 r5, .int .i64 q1, .int .i64 q2, .int .i64 q3, .int .i64 q4, .int .i64 q5] 27) = w1 at *
  refine (HM.out w1).mono ?_
  rintro e w2 ⟨rfl, b2⟩
  have B2 : Hid (Below w.heap.size w w2) := Lib.hid (B1.out.trans (b2.mono B1.out.size))
  have O2 := (obj_below b2 (lt_of_obj OB.out)).trans OB.out
  have hb2 := lt_of_obj O2
  have x6 := cell_at O2 6
  have x7 := cell_at O2 7
  have x8 := cell_at O2 8
  have x9 := cell_at O2 9
  have x10 := cell_at O2 10
  simp at x6 x7 x8 x9 x10
  clear O2 b2
  by_cases hm : m = 0
  · obtain rfl : P = u := by rw [HP.out, if_neg (by omega), if_neg (by simpa using hm)]
    subst hm
    go_wp2_with fail
    refine (HB.out w2).mono ?_
    rintro e w3 ⟨rfl, b3⟩
    go_wp2_with fail
    go_ret
    exact ⟨rfl, B2.out.trans (b3.mono B2.out.size)⟩
  · obtain rfl : P = m := by rw [HP.out, if_neg (by omega), if_pos hm]
    go_wp2_with fail
    go_ret
    exact ⟨rfl, B2.out⟩
attribute [local go_sem ↓] hide_load27
attribute [local go_sem] run_load27
@[local go_sem ↓] theorem hide_build58 (ps : Array (Nat × Value)) : Instr.build 58 ps = buildAgg 58 ps := rfl
theorem stepV {ops : Array Oper} {o : Oper} {a : Act} {w : World} {Q : Exit → Act → World → Prop} {K : Act → World → Prop} {Z : Prop} (hgd : o.guard = none) (s x : Operand) (ho : o.op = .call { callee := .builtin .append, args := #[s, x], argTypes := #[28, 28] })
    (base : Nat) (v : Value) (xs ys : List Be.Vd) (hs : a.eval s = v) (hown : OwnS w base 38 2 Be.vdL v xs) (sv : Value) (hx : a.eval x = sv) (hsl : SlIn w sv 2 Be.vdL ys) (hlen : xs.length + ys.length ≤ 1048577) (hbase : base ≤ w.heap.size)
    (h : ∀ v' w', OwnS w' base 38 2 Be.vdL v' (xs ++ ys) → Below base w w' → (∀ k, k < w.heap.size → v.ownBlock ≠ some k → obj w' k = obj w k) → K (a.put o.dst v') w') : if Region.wanted o (yielded ops a.tmps) = true then Oper.wp Tryz.prog o a w K Q else Z := by
  obtain ⟨i0, hi, hz0, hz1, hz2⟩ := info_parts info54
  exact step_pushAll (bytes := 24) Tryz.underlying28 hi hz0 hz1 hz2 (by simp [Value.cells]) (by decide) Be.vdL_length Be.vdL_one hgd s x ho base v xs ys hs hown sv hx hsl hlen (by decide) hbase h
structure NB (B0 : Nat) (W : World) (rb rh ra : Nat) (cs : Array Value) (oa : Option Addr) (cc : Nat) (l : List Be.Vd) (room : Int) : Prop where
  x : obj W rb = some (.cells cs 58 (0, 0))
  h : obj W rh = some (.cells #[.slice none 0 0] 89 (0, 0))
  a : obj W ra = some (.cells (Ak.refC ⟨room, 0, 0, 0, 0⟩ (.slice none 0 0)) 103 (0, 0))
  l : OwnS W B0 38 2 Be.vdL (.slice oa l.length cc) l
section
variable {B0 : Nat} {W : World} {rb rh ra : Nat} {cs : Array Value} {oa : Option Addr} {cc : Nat} {l : List Be.Vd} {room : Int}
theorem NB.below (h : NB B0 W rb rh ra cs oa cc l room) {W' : World} (hb : Below W.heap.size W W') : NB B0 W' rb rh ra cs oa cc l room :=
  ⟨(obj_below hb (lt_of_obj h.x)).trans h.x, (obj_below hb (lt_of_obj h.h)).trans h.h, (obj_below hb (lt_of_obj h.a)).trans h.a, h.l.below hb⟩
theorem NB.set (h : NB B0 W rb rh ra cs oa cc l room) (i : Nat) (v : Value) : NB B0 (W.setCell ⟨rb, i, none⟩ v) rb rh ra (cs.setIfInBounds i v) oa cc l room := by
  have q : ∀ n, n ≠ rb → obj (W.setCell ⟨rb, i, none⟩ v) n = obj W n := fun n hn => obj_setCell_ne _ ⟨rb, i, none⟩ _ _ hn
  have n1 : rh ≠ rb := fun e => by have h1 := h.h; rw [e, h.x] at h1; simp at h1
  have n2 : ra ≠ rb := fun e => by have h1 := h.a; rw [e, h.x] at h1; simp at h1
  exact ⟨obj_setCell_at v (i := i) h.x, (q _ n1).trans h.h, (q _ n2).trans h.a, h.l.keeps fun g eg => q g (fun e2 => h.l.ne h.x (fun cur e' => by cases e') (by rw [eg, e2]))⟩
end
theorem NB.ref {B0 : Nat} {W : World} {rb rh ra : Nat} {oa : Option Addr} {cc : Nat} {c : CfgD} {l : List Be.Vd} {now nv : Int} {os : Option Addr} {cs : Nat} {G : Nat → Prop}
    (h : NB B0 W rb rh ra #[.int .i64 c.room, .int .i64 c.r.first, .int .i64 c.r.min, .int .i64 c.r.max, .int .i64 c.r.half, .int .i64 c.r.quart, .int .i64 c.q.f, .int .i64 c.q.lo, .int .i64 c.q.fo, .int .i64 c.q.nu, .int .i64 c.q.de, .slice oa l.length cc, .pointer (some ⟨ra, 0, none⟩), .pointer (some ⟨rh, 0, none⟩), .int .i64 nv, .int .i64 now, .slice os l.length cs, .int .i64 now, .slice none 0 0] oa cc l c.room) (hs : OwnS W B0 138 3 Be.stL (.slice os l.length cs) (List.replicate l.length ⟨0, 0, 0⟩))
    (hG : ∀ n, B0 ≤ n → G n) (g1 : B0 ≤ rb) (g2 : B0 ≤ rh) (g3 : B0 ≤ ra) : RefP W G rb ⟨ra, rh, oa, cc, os, cs, none, 0⟩ ⟨c, l, now, ⟨nv, now⟩, List.replicate l.length ⟨0, 0, 0⟩, [], ⟨c.room, 0, [], 0, 0, 0⟩, []⟩ [] :=
  ⟨by unfold rbC; simp only [List.length_replicate]; exact h.x, ⟨.slice none 0 0, h.a, OwnS.nil _ _ _ _ _, fun n e => by cases e⟩, ⟨.slice none 0 0, h.h, OwnS.nil _ _ _ _ _, fun n e => by cases e⟩,
    ⟨h.l.1.mono (Nat.zero_le _), h.l.2⟩, by simp only [List.length_replicate]; exact ⟨hs.1.mono (Nat.zero_le _), hs.2⟩, OwnS.nil _ _ _ _ _, hG _ g1, hG _ g3, hG _ g2,
    fun a e => hG _ (h.l.1.lt a.block (by have e' : oa = some a := e; rw [e']; rfl)).1, fun a e => hG _ (hs.1.lt a.block (by have e' : os = some a := e; rw [e']; rfl)).1, fun a e => by cases e⟩
def RNewR (w : World) (c : CfgD) (l : List Be.Vd) (now : Int) (e : Ending) (w' : World) : Prop :=
  Below w.heap.size w w' ∧ (newE c l now ≠ 0 → e = .returned (.tuple #[.pointer none, .int .i64 (newE c l now)])) ∧ (newE c l now = 0 → ∃ rb p, e = .returned (.tuple #[.pointer (some ⟨rb, 0, none⟩), .int .i64 0]) ∧ RefP w' (fun n => w.heap.size ≤ n) rb p (newM c l now) [])
set_option maxRecDepth 100000 in
set_option maxHeartbeats 4000000 in
theorem rnew_book (w : World) (c : CfgD) (v : Value) (l : List Be.Vd) (now : Int) (h : SlIn w v 2 Be.vdL l) (hN : ∀ x ∈ l, x.name.size ≤ 300) : Calls Tryz.prog 8 #[.agg (cfgC c), v, .int .i64 now] w (RNewR w c l now) := by
  have b1 : Below w.heap.size w (w.alloc (.cells (cfgC c) 27)) := (Below.refl _ w).alloc (Nat.le_refl _) _
  have OB := Lib.hid (show obj (w.alloc (.cells (cfgC c) 27)) w.heap.size = some (.cells (cfgC c) 27 (0, 0)) from obj_alloc_at _ _ _ rfl)
  have B1 := Lib.hid b1
  have HL := Lib.hid h
  have HC := Lib.hid (fun W => rpcheck_any W c)
  have HV := Lib.hid (fun W (hW : Below w.heap.size w W) => Be.checkB W v l (h.below hW) hN)
  have HE0 : Hid (pchkE c ≠ 0 → newE c l now = pchkE c) := Lib.hid (fun h => by unfold newE; rw [if_pos h])
  have HE1 : Hid (pchkE c = 0 → Be.chk l ≠ 0 → newE c l now = Be.chk l) := Lib.hid (fun h h1 => by unfold newE; rw [if_neg (fun hh => hh h), if_pos h1])
  have HE2 : Hid (pchkE c = 0 → Be.chk l = 0 → (now < 0 ∨ 4611686018427387903 < now) → newE c l now = 131) := Lib.hid (fun h h1 h2 => by unfold newE; rw [if_neg (fun hh => hh h), if_neg (fun hh => hh h1), if_pos h2])
  have HE3 : Hid (pchkE c = 0 → Be.chk l = 0 → ¬ (now < 0 ∨ 4611686018427387903 < now) → newE c l now = 0) := Lib.hid (fun h h1 h2 => by unfold newE; rw [if_neg (fun hh => hh h), if_neg (fun hh => hh h1), if_neg h2])
  have HP := Lib.hid (@pchk_0 c)
  have HCK := Lib.hid (@Be.chk_32 l)
  have HNM : Hid (newM c l now = ⟨c, l, now, ⟨Me.newV c.r, now⟩, List.replicate l.length ⟨0, 0, 0⟩, [], ⟨c.room, 0, [], 0, 0, 0⟩, []⟩) := Lib.hid rfl
  have HN := Lib.hid (fun W => Me.rnew_any c.r now W)
  unfold RNewR
  generalize newM c l now = NM at *
  generalize newE c l now = NE at *
  generalize hP : pchkE c = P at *
  generalize hK : Be.chk l = K at *
  clear b1 hP hK hN
  obtain ⟨oa, cap, rfl, g1, g2, g3⟩ := h
  clear g3
  go_enter Tryz.func8, Tryz.ntmps8
  have L1 := Lib.hid (show loadRes Tryz.prog 27 ⟨w.heap.size, 0, none⟩ (w.alloc (.cells (cfgC c) 27)) (subOf (obj (w.alloc (.cells (cfgC c) 27)) w.heap.size) 0 11) = .ok (.agg (cfgC c)) (w.alloc (.cells (cfgC c) 27)) from by rw [OB.out]; rfl)
  have L1' := L1.out
  go_wp2_with fail
  clear L1 L1'
  generalize w.alloc (.cells (cfgC c) 27) = w1 at *
  refine (HC.out w1).mono ?_
  rintro e w2 ⟨rfl, b2⟩
  have B2 : Hid (Below w.heap.size w w2) := Lib.hid (B1.out.trans (b2.mono B1.out.size))
  have O2 := Lib.hid ((obj_below b2 (lt_of_obj OB.out)).trans OB.out)
  clear b2 B1 OB HC
  by_cases hP : P = 0
  case neg =>
    have hN : Hid (NE = P) := Lib.hid (HE0.out hP)
    clear HE0 HE1 HE2 HE3
    go_wp2_with fail
    refine bodyPost_ret (v := .tuple #[.pointer none, .int .i64 P]) (by simp [results, Tryz.results8, go_sem]) rfl ⟨B2.out, fun _ => by rw [hN.out], fun h => absurd (hN.out.symm.trans h) hP⟩
  subst hP
  clear HE0
  obtain ⟨r1, r2, r3, r4⟩ := HP.out rfl
  have R := Lib.hid r3
  clear r3 r4 HP
  go_wp2_with fail
  refine (HV.out w2 B2.out).mono ?_
  rintro e w3 ⟨rfl, b3⟩
  have B3 : Hid (Below w.heap.size w w3) := Lib.hid (B2.out.trans (b3.mono B2.out.size))
  have O3 := Lib.hid ((obj_below b3 (lt_of_obj O2.out)).trans O2.out)
  clear b3 B2 O2 HV
  by_cases hK : K = 0
  case neg =>
    have hN : Hid (NE = K) := Lib.hid (HE1.out trivial hK)
    clear HE1 HE2 HE3
    go_wp2_with fail
    refine bodyPost_ret (v := .tuple #[.pointer none, .int .i64 K]) (by simp [results, Tryz.results8, go_sem]) rfl ⟨B3.out, fun _ => by rw [hN.out], fun h => absurd (hN.out.symm.trans h) hK⟩
  subst hK
  clear HE1
  obtain ⟨k1, k2, -, -⟩ := HCK.out rfl
  clear HCK
  by_cases hb : now < 0 ∨ 4611686018427387903 < now
  · have hN : Hid (NE = 131) := Lib.hid (HE2.out trivial rfl hb)
    clear HE2 HE3
    by_cases hb0 : now < 0
    · clear hb
      go_wp2_with fail
      refine bodyPost_ret (v := .tuple #[.pointer none, .int .i64 131]) (by simp [results, Tryz.results8, go_sem]) rfl ⟨B3.out, fun _ => by rw [hN.out], fun h => absurd (hN.out.symm.trans h) (by decide)⟩
    · have hb1 : 4611686018427387903 < now := by omega
      clear hb
      go_wp2_with fail
      refine bodyPost_ret (v := .tuple #[.pointer none, .int .i64 131]) (by simp [results, Tryz.results8, go_sem]) rfl ⟨B3.out, fun _ => by rw [hN.out], fun h => absurd (hN.out.symm.trans h) (by decide)⟩
  have hN : Hid (NE = 0) := Lib.hid (HE3.out trivial rfl hb)
  have hR : Me.newR c.r now = (⟨Me.newV c.r, now⟩, 0) := by unfold Me.newR; rw [if_pos R.out, if_pos (by omega)]
  rw [hR] at HN
  unfold Me.ruleV Me.meanV at HN
  simp only at HN
  have hb0 : ¬ now < 0 := by omega
  have hb1 : ¬ 4611686018427387903 < now := by omega
  clear HE2 HE3 hR hb
  generalize hnv : Me.newV c.r = nv at *
  clear hnv
  have HBW : Hid (∀ W, Below w3.heap.size w3 W → SlIn W (.slice oa l.length cap) 2 Be.vdL l) := Lib.hid (fun W hW => (HL.out.below B3.out).below hW)
  have hb58 : ∀ (a : Option Addr) (n m : Nat) (q : Option Addr) (W : World), (buildAgg 58 #[(0, .agg (cfgC c)), (1, .slice a n m), (3, .pointer q), (6, .int .i64 now)]).run Tryz.prog W = .ok (.agg #[.int .i64 c.room, .int .i64 c.r.first, .int .i64 c.r.min, .int .i64 c.r.max, .int .i64 c.r.half, .int .i64 c.r.quart, .int .i64 c.q.f, .int .i64 c.q.lo, .int .i64 c.q.fo, .int .i64 c.q.nu, .int .i64 c.q.de, .slice a n m, .pointer none, .pointer q, .int .i64 0, .int .i64 0, .slice none 0 0, .int .i64 now, .slice none 0 0]) W := fun a n m q W => by kernel_rfl
  have o3 := O3.out
  have lo3 := lt_of_obj o3
  go_wp2_with fail
  go_region_law (first
    | (refine stepV rfl (.const (.slice none 0 0)) (.tmp 28) rfl w3.heap.size (.slice none 0 0) [] l (by simp [Act.eval, Act.put]) (OwnS.nil _ _ _ _ _) _ (by simp [Act.eval, Act.put]) (HBW.out _ (by repeat (first | exact Below.refl _ _ | refine below_alloc' ?_ | refine Below.drew ?_))) (by simp; omega) (by simp) ?_; intro v8 w8 r1' r2' r3'; rw [List.nil_append] at r1'; have OW8 := Lib.hid r1'; obtain ⟨oa8, cc8, rfl, hcc8⟩ := OW8.out.slice_eq; have r4' : Below w3.heap.size w3 w8 := (by refine Below.trans ?_ r2'; repeat (first | exact Below.refl _ _ | refine below_alloc' ?_ | refine Below.drew ?_)); have B8 := Lib.hid r4'; have o8 := (obj_below r4' lo3).trans o3; have lo8 := lt_of_obj o8; (try have oh8 : obj w8 w3.heap.size = some (.cells #[.slice none 0 0] 89 (0, 0)) := (r3' w3.heap.size (by simp) (fun e => by cases e)).trans (obj_alloc_at _ _ _ (by first | rfl | simp))); clear r1' r2' r3' r4'))
  all_goals (
    first
      | (have lh8 := lt_of_obj oh8
         have b9 : Below w8.heap.size w8 (w8.alloc (.cells #[.int .i64 c.room, .int .i64 c.r.first, .int .i64 c.r.min, .int .i64 c.r.max, .int .i64 c.r.half, .int .i64 c.r.quart, .int .i64 c.q.f, .int .i64 c.q.lo, .int .i64 c.q.fo, .int .i64 c.q.nu, .int .i64 c.q.de, .slice oa8 l.length cc8, .pointer none, .pointer (some ⟨w3.heap.size, 0, none⟩), .int .i64 0, .int .i64 0, .slice none 0 0, .int .i64 now, .slice none 0 0] 58)) := (Below.refl _ w8).alloc (Nat.le_refl _) _
         have B9 := Lib.hid (B8.out.trans (b9.mono B8.out.size))
         have OX := Lib.hid (show obj (w8.alloc (.cells #[.int .i64 c.room, .int .i64 c.r.first, .int .i64 c.r.min, .int .i64 c.r.max, .int .i64 c.r.half, .int .i64 c.r.quart, .int .i64 c.q.f, .int .i64 c.q.lo, .int .i64 c.q.fo, .int .i64 c.q.nu, .int .i64 c.q.de, .slice oa8 l.length cc8, .pointer none, .pointer (some ⟨w3.heap.size, 0, none⟩), .int .i64 0, .int .i64 0, .slice none 0 0, .int .i64 now, .slice none 0 0] 58)) w8.heap.size = some (.cells #[.int .i64 c.room, .int .i64 c.r.first, .int .i64 c.r.min, .int .i64 c.r.max, .int .i64 c.r.half, .int .i64 c.r.quart, .int .i64 c.q.f, .int .i64 c.q.lo, .int .i64 c.q.fo, .int .i64 c.q.nu, .int .i64 c.q.de, .slice oa8 l.length cc8, .pointer none, .pointer (some ⟨w3.heap.size, 0, none⟩), .int .i64 0, .int .i64 0, .slice none 0 0, .int .i64 now, .slice none 0 0] 58 (0, 0)) from obj_alloc_at _ _ _ rfl)
         have OH := Lib.hid ((obj_below b9 lh8).trans oh8)
         have OL := Lib.hid (OW8.out.below b9)
         have ZB : Hid (w3.heap.size ≤ w8.heap.size ∧ w3.heap.size ≤ w3.heap.size) := Lib.hid ⟨B8.out.size, Nat.le_refl _⟩
         have o9 := (obj_below b9 lo8).trans o8
         clear b9 oh8 lh8 hb58
         generalize (w8.alloc (.cells #[.int .i64 c.room, .int .i64 c.r.first, .int .i64 c.r.min, .int .i64 c.r.max, .int .i64 c.r.half, .int .i64 c.r.quart, .int .i64 c.q.f, .int .i64 c.q.lo, .int .i64 c.q.fo, .int .i64 c.q.nu, .int .i64 c.q.de, .slice oa8 l.length cc8, .pointer none, .pointer (some ⟨w3.heap.size, 0, none⟩), .int .i64 0, .int .i64 0, .slice none 0 0, .int .i64 now, .slice none 0 0] 58)) = W9 at *
         generalize hrb : w8.heap.size = rb at *
         obtain ⟨rh, hrh⟩ : ∃ x, x = w3.heap.size := ⟨_, rfl⟩)
      | (have b9 : Below w8.heap.size w8 ((w8.alloc (.cells #[.slice none 0 0] 89)).alloc (.cells #[.int .i64 c.room, .int .i64 c.r.first, .int .i64 c.r.min, .int .i64 c.r.max, .int .i64 c.r.half, .int .i64 c.r.quart, .int .i64 c.q.f, .int .i64 c.q.lo, .int .i64 c.q.fo, .int .i64 c.q.nu, .int .i64 c.q.de, .slice oa8 l.length cc8, .pointer none, .pointer (some ⟨w8.heap.size, 0, none⟩), .int .i64 0, .int .i64 0, .slice none 0 0, .int .i64 now, .slice none 0 0] 58)) := ((Below.refl _ w8).alloc (Nat.le_refl _) _).alloc (by simp) _
         have B9 := Lib.hid (B8.out.trans (b9.mono B8.out.size))
         have OX := Lib.hid (show obj ((w8.alloc (.cells #[.slice none 0 0] 89)).alloc (.cells #[.int .i64 c.room, .int .i64 c.r.first, .int .i64 c.r.min, .int .i64 c.r.max, .int .i64 c.r.half, .int .i64 c.r.quart, .int .i64 c.q.f, .int .i64 c.q.lo, .int .i64 c.q.fo, .int .i64 c.q.nu, .int .i64 c.q.de, .slice oa8 l.length cc8, .pointer none, .pointer (some ⟨w8.heap.size, 0, none⟩), .int .i64 0, .int .i64 0, .slice none 0 0, .int .i64 now, .slice none 0 0] 58)) (w8.heap.size + 1) = some (.cells #[.int .i64 c.room, .int .i64 c.r.first, .int .i64 c.r.min, .int .i64 c.r.max, .int .i64 c.r.half, .int .i64 c.r.quart, .int .i64 c.q.f, .int .i64 c.q.lo, .int .i64 c.q.fo, .int .i64 c.q.nu, .int .i64 c.q.de, .slice oa8 l.length cc8, .pointer none, .pointer (some ⟨w8.heap.size, 0, none⟩), .int .i64 0, .int .i64 0, .slice none 0 0, .int .i64 now, .slice none 0 0] 58 (0, 0)) from obj_alloc_at _ _ _ (by simp))
         have OH := Lib.hid (show obj ((w8.alloc (.cells #[.slice none 0 0] 89)).alloc (.cells #[.int .i64 c.room, .int .i64 c.r.first, .int .i64 c.r.min, .int .i64 c.r.max, .int .i64 c.r.half, .int .i64 c.r.quart, .int .i64 c.q.f, .int .i64 c.q.lo, .int .i64 c.q.fo, .int .i64 c.q.nu, .int .i64 c.q.de, .slice oa8 l.length cc8, .pointer none, .pointer (some ⟨w8.heap.size, 0, none⟩), .int .i64 0, .int .i64 0, .slice none 0 0, .int .i64 now, .slice none 0 0] 58)) w8.heap.size = some (.cells #[.slice none 0 0] 89 (0, 0)) from (obj_alloc_past _ _ _ (by simp)).trans (obj_alloc_at _ _ _ rfl))
         have OL := Lib.hid (OW8.out.below b9)
         have ZB : Hid (w3.heap.size ≤ w8.heap.size + 1 ∧ w3.heap.size ≤ w8.heap.size) := Lib.hid ⟨Nat.le_succ_of_le B8.out.size, B8.out.size⟩
         have o9 := (obj_below b9 lo8).trans o8
         clear b9 hb58
         generalize ((w8.alloc (.cells #[.slice none 0 0] 89)).alloc (.cells #[.int .i64 c.room, .int .i64 c.r.first, .int .i64 c.r.min, .int .i64 c.r.max, .int .i64 c.r.half, .int .i64 c.r.quart, .int .i64 c.q.f, .int .i64 c.q.lo, .int .i64 c.q.fo, .int .i64 c.q.nu, .int .i64 c.q.de, .slice oa8 l.length cc8, .pointer none, .pointer (some ⟨w8.heap.size, 0, none⟩), .int .i64 0, .int .i64 0, .slice none 0 0, .int .i64 now, .slice none 0 0] 58)) = W9 at *
         generalize hrb : w8.heap.size + 1 = rb at *
         obtain ⟨rh, hrh⟩ : ∃ x, x = w8.heap.size := ⟨_, rfl⟩))
  all_goals (
    rw [← hrh] at OX OH ZB ⊢
    have HA := Lib.hid (Ak.ref_new W9 c.room 0 ⟨r1, r2, by decide, by decide⟩)
    have hz9 : w3.heap.size ≤ W9.heap.size := B9.out.size
    have x0 : W9.cell? ⟨w.heap.size, 0, none⟩ = some (.int .i64 c.room) := cell_at o9 0
    go_wp2_with fail
    refine HA.out.mono ?_
    rintro e W10 ⟨rfl, rfl⟩
    have b10 : Below W9.heap.size W9 (W9.alloc (.cells (Ak.refC ⟨c.room, 0, 0, 0, 0⟩ (.slice none 0 0)) 103)) := (Below.refl _ _).alloc (Nat.le_refl _) _
    have N10 : Hid (NB w3.heap.size (W9.alloc (.cells (Ak.refC ⟨c.room, 0, 0, 0, 0⟩ (.slice none 0 0)) 103)) rb rh W9.heap.size #[.int .i64 c.room, .int .i64 c.r.first, .int .i64 c.r.min, .int .i64 c.r.max, .int .i64 c.r.half, .int .i64 c.r.quart, .int .i64 c.q.f, .int .i64 c.q.lo, .int .i64 c.q.fo, .int .i64 c.q.nu, .int .i64 c.q.de, .slice oa8 l.length cc8, .pointer none, .pointer (some ⟨rh, 0, none⟩), .int .i64 0, .int .i64 0, .slice none 0 0, .int .i64 now, .slice none 0 0] oa8 cc8 l c.room) := Lib.hid ⟨(obj_below b10 (lt_of_obj OX.out)).trans OX.out, (obj_below b10 (lt_of_obj OH.out)).trans OH.out, obj_alloc_at _ _ _ rfl, OL.out.below b10⟩
    have B10 := Lib.hid (B9.out.trans (b10.mono B9.out.size))
    have o10 := (obj_below b10 (lt_of_obj o9)).trans o9
    clear b10 OX OH OL B9 o9 x0 HA
    generalize W9.alloc (.cells (Ak.refC ⟨c.room, 0, 0, 0, 0⟩ (.slice none 0 0)) 103) = W10 at *
    generalize hra : W9.heap.size = ra at *
    have d12 : W10.cell? ⟨rb, 12, none⟩ = some (.pointer none) := cell_at N10.out.x 12
    have yf10 := frozen_at N10.out.x
    have lb10 := lt_of_obj N10.out.x
    have lo10 := lt_of_obj o10
    have hne : w.heap.size ≠ rb := by have h1 := ZB.out.1; have h2 := lo3; omega
    have hne' : rb ≠ w.heap.size := hne.symm
    have x1 : W10.cell? ⟨w.heap.size, 1, none⟩ = some (.int .i64 c.r.first) := cell_at o10 1
    have x2 : W10.cell? ⟨w.heap.size, 2, none⟩ = some (.int .i64 c.r.min) := cell_at o10 2
    have x3 : W10.cell? ⟨w.heap.size, 3, none⟩ = some (.int .i64 c.r.max) := cell_at o10 3
    have x4 : W10.cell? ⟨w.heap.size, 4, none⟩ = some (.int .i64 c.r.half) := cell_at o10 4
    have x5 : W10.cell? ⟨w.heap.size, 5, none⟩ = some (.int .i64 c.r.quart) := cell_at o10 5
    have HSE := Lib.hid (fun W => Be.makeSeatsR l.length k1 k2 W)
    go_wp2_with fail
    have zb1 : w3.heap.size ≤ rb := by have h1 := ZB.out.1; omega
    have zb2 : w3.heap.size ≤ rh := by have h1 := ZB.out.2; omega
    have N11 := Lib.hid (N10.out.set 12 (.pointer (some ⟨ra, 0, none⟩)))
    have B11 : Hid (Below w3.heap.size w3 (W10.setCell ⟨rb, 12, none⟩ (.pointer (some ⟨ra, 0, none⟩)))) := Lib.hid (B10.out.setCell zb1 _)
    have zra : w3.heap.size ≤ ra := by omega
    clear N10 B10 o10 d12 yf10 lb10 lo10 x1 x2 x3 x4 x5
    generalize W10.setCell ⟨rb, 12, none⟩ (.pointer (some ⟨ra, 0, none⟩)) = W11 at *
    refine (HN.out W11).mono ?_
    rintro e W12 ⟨rfl, b12⟩
    have N12 := Lib.hid (N11.out.below b12)
    have B12 := Lib.hid (B11.out.trans (b12.mono B11.out.size))
    clear N11 B11 b12 HN
    have d14 : W12.cell? ⟨rb, 14, none⟩ = some (.int .i64 0) := cell_at N12.out.x 14
    have d15 : W12.cell? ⟨rb, 15, none⟩ = some (.int .i64 0) := cell_at N12.out.x 15
    have yf12 := frozen_at N12.out.x
    have lb12 := lt_of_obj N12.out.x
    go_wp2_with fail
    have N13 := Lib.hid ((N12.out.set 14 (.int .i64 nv)).set 15 (.int .i64 now))
    have B13 : Hid (Below w3.heap.size w3 ((W12.setCell ⟨rb, 14, none⟩ (.int .i64 nv)).setCell ⟨rb, 15, none⟩ (.int .i64 now))) := Lib.hid ((B12.out.setCell zb1 _).setCell zb1 _)
    clear N12 B12 d14 d15 yf12 lb12
    generalize (W12.setCell ⟨rb, 14, none⟩ (.int .i64 nv)).setCell ⟨rb, 15, none⟩ (.int .i64 now) = W13 at *
    refine (HSE.out W13).mono ?_
    rintro e W14 ⟨sv, rfl, own14, b14⟩
    obtain ⟨oas, caps, e14⟩ := own14.slice
    rw [List.length_replicate] at e14
    subst e14
    have N14 := Lib.hid (N13.out.below b14)
    have B14 := Lib.hid (B13.out.trans (b14.mono B13.out.size))
    have S14 : Hid (OwnS W14 w3.heap.size 138 3 Be.stL (.slice oas l.length caps) (List.replicate l.length ⟨0, 0, 0⟩)) := Lib.hid ⟨own14.1.mono B13.out.size, own14.2⟩
    clear N13 B13 own14 b14 HSE
    have d16 : W14.cell? ⟨rb, 16, none⟩ = some (.slice none 0 0) := cell_at N14.out.x 16
    have yf14 := frozen_at N14.out.x
    have lb14 := lt_of_obj N14.out.x
    have N15 := Lib.hid (N14.out.set 16 (.slice oas l.length caps))
    have B14' : Below w3.heap.size w3 (W14.setCell ⟨rb, 16, none⟩ (.slice oas l.length caps)) := B14.out.setCell zb1 _
    have B15 := Lib.hid (B3.out.trans (B14'.mono B3.out.size))
    clear B14'
    have S15 : Hid (OwnS (W14.setCell ⟨rb, 16, none⟩ (.slice oas l.length caps)) w3.heap.size 138 3 Be.stL (.slice oas l.length caps) (List.replicate l.length ⟨0, 0, 0⟩)) := Lib.hid (S14.out.keeps fun g eg => obj_setCell_ne _ ⟨rb, 16, none⟩ _ _ (fun e2 => S14.out.ne N14.out.x (fun cur e' => by cases e') (by rw [eg]; exact congrArg some e2)))
    have z3 : w.heap.size ≤ w3.heap.size := B3.out.size
    have FIN := Lib.hid (N15.out.ref S15.out (G := fun n => w.heap.size ≤ n) (fun n hn => Nat.le_trans z3 hn) zb1 zb2 zra)
    clear N14 B14 S14 N15 S15
    go_wp2_with fail
    refine bodyPost_ret (v := .tuple #[.pointer (some ⟨rb, 0, none⟩), .int .i64 0]) (by simp [results, Tryz.results8, go_sem]) rfl ⟨B15.out, fun hh => absurd hN.out hh, fun _ => ⟨rb, _, rfl, by rw [HNM.out]; exact FIN.out⟩⟩)
end Go.Proofs.YtagpclgappcnbaaGreat
