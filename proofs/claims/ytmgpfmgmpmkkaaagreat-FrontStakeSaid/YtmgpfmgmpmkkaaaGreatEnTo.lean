import Derived.Test.YtmgpfmgmpmkkaaaGreatFrJ
import Derived.Test.YtmgpfmgmpmkkaaaGreatStk
import Derived.Test.YtmgpfmgmpmkkaaaGreatActs
import Derived.Test.YtmgpfmgmpmkkaaaGreatStke
import Derived.Test.YtmgpfmgmpmkkaaaGreatRefV
import Derived.Test.YtmgpfmgmpmkkaaaGreatCls
namespace Go.Proofs.YtmgpfmgmpmkkaaaGreat

/-! ### what has enough, in plain words -/
def enoughL (l : List Vd) (m : FrM) (alpha : Int) : List ID :=
  if m.phase = 3 ∧ 1 ≤ alpha then m.tips.filter fun id => decide (alpha ≤ stake l m id) else []
def whoL (m : FrM) (id : ID) : List Int := (m.said.filter fun s => decide (id ∈ s.ids)).map (·.node)
theorem mem_enough {l : List Vd} {m : FrM} {alpha : Int} {id : ID} (h : id ∈ enoughL l m alpha) : m.phase = 3 ∧ 1 ≤ alpha ∧ id ∈ m.tips ∧ alpha ≤ stake l m id := by
  unfold enoughL at h
  split at h
  · rename_i hp
    rw [List.mem_filter] at h
    exact ⟨hp.1, hp.2, h.1, by simpa using h.2⟩
  · cases h
/-- how much stake the answers tell for a name, among the first so many -/
def ansW (l : List Vd) (av : List AnsM) (id : ID) : Nat → Int
  | 0 => 0
  | i + 1 => ansW l av id i + if (ansAt av i).fails = false ∧ id ∈ (ansAt av i).ids then wtAt l i else 0
/-- whether one of the first so many told a name as its tip, and was asked for it -/
def ansTip (zs : List Int) (av : List AnsM) (id : ID) : Nat → Bool
  | 0 => false
  | i + 1 => ansTip zs av id i || decide ((ansAt av i).fails = false ∧ (ansAt av i).tip = id ∧ (i : Int) ∈ zs)
theorem ansTip_iff {zs : List Int} {av : List AnsM} {id : ID} : ∀ {i : Nat}, ansTip zs av id i = true ↔ ∃ j : Nat, j < i ∧ (ansAt av j).fails = false ∧ (ansAt av j).tip = id ∧ (j : Int) ∈ zs
  | 0 => by simp [ansTip]
  | i + 1 => by
    unfold ansTip
    rw [Bool.or_eq_true, ansTip_iff, decide_eq_true_iff]
    constructor
    · rintro (⟨j, hj, h⟩ | h)
      · exact ⟨j, by omega, h⟩
      · exact ⟨i, by omega, h⟩
    · rintro ⟨j, hj, h⟩
      by_cases e : j = i
      · subst e; exact .inr h
      · exact .inl ⟨j, by omega, h⟩
theorem ansAt_far {av : List AnsM} {i : Nat} (h : av.length ≤ i) : (ansAt av i).fails = true := by
  unfold ansAt
  rw [if_neg (by omega), List.getElem?_eq_none (by omega)]
  rfl
theorem ansW_succ (l : List Vd) (av : List AnsM) (id : ID) (i : Nat) : ansW l av id (i + 1) = ansW l av id i + if (ansAt av i).fails = false ∧ id ∈ (ansAt av i).ids then wtAt l i else 0 := rfl
theorem ansW_far (l : List Vd) (av : List AnsM) (id : ID) : ∀ {i j : Nat}, i ≤ j → av.length ≤ i → ansW l av id j = ansW l av id i
  | i, 0, h, _ => by
    have e : i = 0 := by omega
    subst e
    rfl
  | i, j + 1, h, h2 => by
    by_cases e : i = j + 1
    · subst e; rfl
    · rw [ansW_succ, if_neg (by rw [ansAt_far (by omega)]; simp), ansW_far l av id (i := i) (j := j) (by omega) h2]
      omega
theorem ansW_nonneg {l : List Vd} (h : PosW l) (av : List AnsM) (id : ID) : ∀ i, 0 ≤ ansW l av id i
  | 0 => by simp [ansW]
  | i + 1 => by
    have := ansW_nonneg h av id i
    have := wtAt_nonneg h i
    unfold ansW
    split <;> omega
theorem ansW_le {l : List Vd} (h : PosW l) (av : List AnsM) (id : ID) : ∀ i, i ≤ l.length → ansW l av id i + sumW (l.drop i) ≤ sumW l
  | 0, _ => by simp [ansW]
  | i + 1, hi => by
    have := ansW_le h av id i (by omega)
    have hd := wtAt_drop (l := l) (i := i) (by omega)
    have := wtAt_nonneg h i
    unfold ansW
    split <;> omega
theorem ansW_max {l : List Vd} (h : chk l = 0) (av : List AnsM) (id : ID) {i : Nat} (hi : i ≤ l.length) : 0 ≤ ansW l av id i ∧ ansW l av id i ≤ 4611686018427387903 := by
  obtain ⟨hp, hs⟩ := sumW_max h
  have h1 := ansW_le hp av id i hi
  have h2 := sumW_nonneg (l := l.drop i) fun x hx => hp x (List.mem_of_mem_drop hx)
  exact ⟨ansW_nonneg hp av id i, by omega⟩
/-- what was said, all told in order -/
def saidN (av : List AnsM) (T : List ID) : Nat → List SaidM
  | 0 => []
  | i + 1 => saidN av T i ++ if (ansAt av i).fails = true then [] else [⟨i, T.filter fun id => decide (id ∈ (ansAt av i).ids)⟩]
theorem mem_saidN {av : List AnsM} {T : List ID} {s : SaidM} : ∀ {n : Nat}, s ∈ saidN av T n ↔ s.node ∈ rangeI n ∧ (ansAt av s.node).fails = false ∧ s.ids = T.filter fun id => decide (id ∈ (ansAt av s.node).ids)
  | 0 => by simp [saidN, rangeI]
  | n + 1 => by
    unfold saidN
    rw [List.mem_append, mem_saidN, mem_rangeI, mem_rangeI]
    constructor
    · rintro (⟨h1, h2⟩ | h)
      · exact ⟨by omega, h2⟩
      · cases hf : (ansAt av n).fails with
        | true => rw [hf] at h; simp at h
        | false =>
          rw [hf] at h
          simp only [Bool.false_eq_true, if_false, List.mem_singleton] at h
          subst h
          exact ⟨by simp only; omega, hf, rfl⟩
    · rintro ⟨h1, h2, h3⟩
      by_cases e : s.node = n
      · refine .inr ?_
        rw [e] at h2 h3
        rw [h2]
        simp only [Bool.false_eq_true, if_false, List.mem_singleton]
        obtain ⟨sn, si⟩ := s
        simp only at e h3
        subst e h3
        rfl
      · exact .inl ⟨by omega, h2, h3⟩
theorem asc_saidN (av : List AnsM) (T : List ID) : ∀ n, AscS (saidN av T n)
  | 0 => List.Pairwise.nil
  | n + 1 => by
    unfold AscS saidN
    rw [List.pairwise_append]
    refine ⟨asc_saidN av T n, ?_, fun a ha b hb => ?_⟩
    · split <;> simp
    · have h1 := (mem_rangeI.1 (mem_saidN.1 ha).1).2
      split at hb
      · cases hb
      · simp only [List.mem_singleton] at hb
        subst hb
        simp only
        omega
theorem saidN_of (av : List AnsM) (T : List ID) (n : Nat) : SaidOf av T (rangeI n) (saidN av T n) := ⟨asc_saidN av T n, fun _ => mem_saidN⟩
theorem stk_saidN (l : List Vd) (av : List AnsM) {T : List ID} {id : ID} (h : id ∈ T) : ∀ n, stk l id (saidN av T n) = ansW l av id n
  | 0 => rfl
  | n + 1 => by
    unfold saidN ansW
    rw [stk_app, stk_saidN l av h n]
    cases hf : (ansAt av n).fails with
    | true => simp [stk]
    | false =>
      simp only [Bool.false_eq_true, if_false, stk, List.mem_filter, decide_eq_true_eq, h, true_and]
      omega
/-- of two names at most one has more than half, or one said both -/
theorem stk_two {l : List Vd} (h : PosW l) (a b : ID) : ∀ (r : List SaidM) (j : Nat), AscS r → (∀ s ∈ r, (j : Int) ≤ s.node ∧ s.node < l.length) → (∀ s ∈ r, ¬ (a ∈ s.ids ∧ b ∈ s.ids)) → stk l a r + stk l b r ≤ sumW (l.drop j)
  | [], j, _, _, _ => by
    have := sumW_nonneg (l := l.drop j) fun x hx => h x (List.mem_of_mem_drop hx)
    simpa [stk] using this
  | s :: r, j, ha, hb, hab => by
    unfold AscS at ha
    rw [List.pairwise_cons] at ha
    obtain ⟨h1, h2⟩ := hb s (by simp)
    obtain ⟨i, hi⟩ : ∃ i : Nat, s.node = i := ⟨s.node.toNat, by omega⟩
    have ih := stk_two h a b r (i + 1) ha.2 (fun t ht => by
      have := ha.1 t ht
      have := hb t (by simp [ht])
      omega) (fun t ht => hab t (by simp [ht]))
    have hd := wtAt_drop (l := l) (i := i) (by omega)
    have hdj := sumW_drop h (i := j) (j := i) (by omega)
    have h0 := wtAt_nonneg h s.node
    have hn := hab s (by simp)
    unfold stk
    rw [hi] at h0 ⊢
    by_cases ea : a ∈ s.ids
    · have eb : b ∉ s.ids := fun eb => hn ⟨ea, eb⟩
      rw [if_pos ea, if_neg eb]
      omega
    · rw [if_neg ea]
      split <;> omega
/-- what is enough was told as a tip, and is what so much stake has accepted -/
theorem enough_told {l : List Vd} {base zs : List Int} {av : List AnsM} {i : Nat} {m : FrM} (hm : mayB l m = true) (hb : placesB l.length base = true) (hz : ∀ x ∈ base, x ∈ zs) (h : J l.length base av i m) {alpha : Int} {id : ID} (hid : id ∈ enoughL l m alpha) :
    ansTip zs av id (min av.length l.length) = true ∧ ansW l av id (min av.length l.length) = stake l m id ∧ alpha ≤ stake l m id := by
  obtain ⟨h3, -, ht, hs⟩ := mem_enough hid
  refine ⟨?_, ?_, hs⟩
  · have hT : id ∈ allT av base := by
      cases h with
      | done hi hT => exact ht
      | none hi hT => cases ht
      | tips => cases h3
      | said => cases h3
    obtain ⟨d, hd, hf, he⟩ := ((allT_of av base).mem id).1 hT
    obtain ⟨h0, hn⟩ := (placesB_iff.1 hb).1 d hd
    obtain ⟨j, rfl⟩ : ∃ j : Nat, d = j := ⟨d.toNat, by omega⟩
    have hj : j < av.length := by
      by_cases hj : j < av.length
      · exact hj
      · rw [ansAt_far (by omega)] at hf; cases hf
    exact ansTip_iff.2 ⟨j, by omega, hf, he, hz _ hd⟩
  · unfold stake
    rw [if_pos hm]
    cases h with
    | none hi hT => cases ht
    | tips => cases h3
    | said => cases h3
    | done hi hT =>
      have e : allS av (allT av base) (rangeI l.length) = saidN av (allT av base) l.length :=
        (allS_of av _ _ ((asc_rangeI _).imp fun h => by omega)).uniq (saidN_of av _ _) fun _ => Iff.rfl
      simp only
      rw [e, stk_saidN l av ht]
      by_cases hl : av.length ≤ l.length
      · rw [Nat.min_eq_left hl, ansW_far l av id hl (Nat.le_refl _)]
      · rw [Nat.min_eq_right (by omega)]
theorem mem_whoL {m : FrM} {id : ID} {n : Int} : n ∈ whoL m id ↔ ∃ s ∈ m.said, id ∈ s.ids ∧ s.node = n := by
  unfold whoL
  simp only [List.mem_map, List.mem_filter, decide_eq_true_eq, and_assoc]
/-- of two tips that have more than half one node has accepted both -/
theorem enough_both {l : List Vd} {m : FrM} (hm : mayB l m = true) {a b : ID} (ha : a ∈ enoughL l m (sumW l / 2 + 1)) (hb : b ∈ enoughL l m (sumW l / 2 + 1)) : ∃ n, n ∈ whoL m a ∧ n ∈ whoL m b := by
  obtain ⟨-, -, -, h1⟩ := mem_enough ha
  obtain ⟨-, -, -, h2⟩ := mem_enough hb
  obtain ⟨hc, hasc, hr, -⟩ := mayB_said hm
  unfold stake at h1 h2
  rw [if_pos hm] at h1 h2
  refine Classical.byContradiction fun hn => ?_
  have := stk_two (sumW_max hc).1 a b m.said 0 hasc (fun s hs => by have := hr s hs; omega) (fun s hs hab => hn ⟨s.node, mem_whoL.2 ⟨s, hs, hab.1, rfl⟩, mem_whoL.2 ⟨s, hs, hab.2, rfl⟩⟩)
  rw [List.drop_zero] at this
  omega
end Go.Proofs.YtmgpfmgmpmkkaaaGreat
namespace Go.Proofs.YtmgpfmgmpmkkaaaGreat
open Go.RowKit Go.Shelf Go.Sort

/-! ### Enough -/
def enP (L : List (ID × Int)) (alpha : Int) (l : List ID) : List ID := l.filter fun id => decide (alpha ≤ getN L id)
theorem enP_yes {L : List (ID × Int)} {alpha : Int} {l : List ID} {x : ID} (h : alpha ≤ getN L x) : enP L alpha (l ++ [x]) = enP L alpha l ++ [x] := by
  unfold enP; rw [List.filter_append]; congr 1; simp [h]
theorem enP_no {L : List (ID × Int)} {alpha : Int} {l : List ID} {x : ID} (h : ¬ alpha ≤ getN L x) : enP L alpha (l ++ [x]) = enP L alpha l := by
  unfold enP; rw [List.filter_append]; simp [h]
theorem enP_len (L : List (ID × Int)) (alpha : Int) (l : List ID) : (enP L alpha l).length ≤ l.length := List.length_filter_le _ _
theorem enough_enP {l : List Vd} {m : FrM} {alpha : Int} (h3 : m.phase = 3) (ha : 1 ≤ alpha) : enP (stkL l m) alpha m.tips = enoughL l m alpha := by
  unfold enP enoughL
  rw [if_pos ⟨h3, ha⟩]
  congr 1
  funext id
  rw [getN_stkL]
theorem enough_nil {l : List Vd} {m : FrM} {alpha : Int} (h : m.phase ≠ 3 ∨ alpha < 1) : enoughL l m alpha = [] := by
  unfold enoughL
  rw [if_neg]
  rintro ⟨h1, h2⟩
  rcases h with h | h
  · exact h h1
  · omega
def RetIds (w : World) (xs : List ID) (e : Ending) (w' : World) : Prop := ∃ v, e = .returned v ∧ SlIn w' v 32 idL xs ∧ Below w.heap.size w w'
set_option maxRecDepth 100000 in
set_option maxHeartbeats 4000000 in
/-- Enough -/
theorem enough_any (w : World) (v : Value) (l : List Vd) (d : FrD) (m : FrM) (alpha : Int) (hl : SlIn w v 2 vdL l) (h : FrAt w d m) (hs : FrSm m) :
    Calls Tryz.prog 23 #[v, frV d, .int .i64 alpha] w (RetIds w (enoughL l m alpha)) := by
  have hb1 : Below w.heap.size w (w.alloc (.cells (frC d) 27)) := (Below.refl _ w).alloc (Nat.le_refl _) _
  have OB1 := Lib.hid (fr_box w d)
  have HF1 := Lib.hid (h.below hb1)
  have HST := Lib.hid (stakes_any (w.alloc (.cells (frC d) 27)) v l d m (hl.below hb1) HF1.out hs)
  have HS := Lib.hid hs
  have B1 := Lib.hid hb1
  have HPH : Hid (d.phase = m.phase) := Lib.hid h.phase
  have HTP := Lib.hid h.tips
  have HE3 : Hid (m.phase = 3 → 1 ≤ alpha → enP (stkL l m) alpha m.tips = enoughL l m alpha) := Lib.hid enough_enP
  have HEN : Hid (m.phase ≠ 3 ∨ alpha < 1 → enoughL l m alpha = []) := Lib.hid enough_nil
  generalize enoughL l m alpha = R at *
  generalize stkL l m = L at *
  have hz1 : (w.alloc (.cells (frC d) 27)).heap.size = w.heap.size + 1 := by simp
  clear h hl hs hb1
  obtain ⟨dp, doa, don, doc, dta, dtn, dtc, dsa, dsn, dsc⟩ := d
  simp only at HPH HTP
  obtain ⟨x0, x1, x2, x3⟩ := fr_cells OB1.out
  simp only at x0 x1 x2 x3
  go_enter Tryz.func23, Tryz.ntmps23
  by_cases h3 : dp = 3
  case neg =>
    obtain rfl : R = [] := HEN.out (.inl (by have := HPH.out; omega))
    go_wp2_with fail
    go_ret
    exact ⟨_, rfl, (show OwnC _ w.heap.size 32 32 idL (.slice none 0 0) [] from World.ownsRow_nil _ _ _ _).slIn idL_length, B1.out⟩
  by_cases ha : alpha < 1
  case pos =>
    obtain rfl : R = [] := HEN.out (.inr ha)
    subst h3
    go_wp2_with fail
    go_ret
    exact ⟨_, rfl, (show OwnC _ w.heap.size 32 32 idL (.slice none 0 0) [] from World.ownsRow_nil _ _ _ _).slIn idL_length, B1.out⟩
  have HR := Lib.hid (HE3.out (by have := HPH.out; omega) (by omega))
  subst h3
  go_wp2_with fail
  generalize w.alloc (.cells (frC ⟨3, doa, don, doc, dta, dtn, dtc, dsa, dsn, dsc⟩) 27) = w1 at *
  clear x0 x1 x2 x3
  refine HST.out.mono ?_
  rintro e w2 ⟨mp, rfl, hm, b2⟩
  have OB2 := Lib.hid ((obj_below b2 (lt_of_obj OB1.out)).trans OB1.out)
  have B2 : Hid (Below w.heap.size w w2) := Lib.hid (B1.out.trans (b2.mono B1.out.size))
  have HM2 := Lib.hid hm
  have hz2 : w.heap.size + 1 ≤ w2.heap.size := by have := b2.size; omega
  clear hm b2 OB1 B1 HST
  have HTN : Hid (dtn = m.tips.length) := Lib.hid HTP.out.n
  have hdt : dtn ≤ 4096 := by have := HTN.out; have := HS.out.tips; omega
  obtain ⟨x0, x1, x2, x3⟩ := fr_cells OB2.out
  simp only at x0 x1 x2 x3
  have hbl2 := lt_of_obj OB2.out
  go_wp2_with fail
  clear x0 x1 x2 x3
  have HL0 : Hid (OwnC w2 w.heap.size 32 32 idL (.slice none 0 0) (enP L alpha (m.tips.take 0))) := Lib.hid (World.ownsRow_nil _ _ _ _)
  go_loopw [8, 10, 24] (fun v8 _ v24 wr => ∃ (k : Nat) (a : Option Addr) (n c : Nat), k ≤ dtn ∧ v24 = .int .i64 k ∧ v8 = .slice a n c ∧ Hid (OwnC wr w.heap.size 32 32 idL (.slice a n c) (enP L alpha (m.tips.take k))) ∧ Hid (MapB wr mp idV nV L) ∧ Hid (Below w.heap.size w wr) ∧ Hid (w.heap.size + 1 ≤ wr.heap.size)) (fun _ _ i _ => dtn - (intOf i).toNat)
  case atStart => exact ⟨0, none, 0, 0, Nat.zero_le _, rfl, rfl, HL0, HM2, B2, Lib.hid hz2⟩
  case round =>
    clear HL0 HM2 B2
    obtain ⟨k, a, n, c, hk, rfl, rfl, HO, HM, HB, HSZ⟩ := hrel
    have hzr := HSZ.out
    by_cases hlt : k < dtn
    case neg =>
      have HO2 : Hid (OwnC wr w.heap.size 32 32 idL (.slice a n c) R) := Lib.hid (by have := HO.out; rw [List.take_of_length_le (by have := HTN.out; omega), HR.out] at this; exact this)
      go_wp2_with fail
      go_ret
      exact ⟨_, rfl, HO2.out.slIn idL_length, HB.out⟩
    have hkt : k < m.tips.length := by have := HTN.out; omega
    obtain ⟨oa', cp', e0, _, hcm, h3⟩ := HTP.out
    injection e0 with e1 e2 e3
    obtain ⟨b, off, e4, hbb, hrow⟩ := h3 (by omega)
    subst e1 e4
    have hs1 := hrow k hkt
    rw [← obj_below HB.out hbb] at hs1
    have hbl : b < wr.heap.size := by omega
    have HTK : Hid (m.tips.take (k + 1) = m.tips.take k ++ [m.tips[k]]) := Lib.hid (List.take_succ_eq_append_getElem hkt)
    have hpl := enP_len L alpha (m.tips.take k)
    have hpl2 : (enP L alpha (m.tips.take k)).length ≤ 4096 := by have := HS.out.tips; rw [List.length_take] at hpl; omega
    generalize m.tips[k] = x at *
    have HYE : Hid (alpha ≤ getN L x → enP L alpha (m.tips.take (k + 1)) = enP L alpha (m.tips.take k) ++ [x]) := Lib.hid (fun hm => by rw [HTK.out]; exact enP_yes hm)
    have HNO : Hid (¬ alpha ≤ getN L x → enP L alpha (m.tips.take (k + 1)) = enP L alpha (m.tips.take k)) := Lib.hid (fun hm => by rw [HTK.out]; exact enP_no hm)
    generalize enP L alpha (m.tips.take k) = P0 at *
    clear hrow h3 e2 e3 hpl HTK hcm
    have hki : (k : Int) < dtn := by omega
    have BX : Hid (Below wr.heap.size wr (wr.alloc (.cells (idL x).toArray 32))) := Lib.hid ((Below.refl _ _).alloc (Nat.le_refl _) _)
    have o9 : Hid (obj (wr.alloc (.cells (idL x).toArray 32)) wr.heap.size = some (.cells (idL x).toArray 32 (0, 0))) := Lib.hid (obj_alloc_at _ _ _ rfl)
    have p9 : subOf (obj (wr.alloc (.cells (idL x).toArray 32)) wr.heap.size) 0 32 = some (idL x).toArray := by rw [o9.out, subOf_cells (by simp), subA_all (by simp)]
    have HMX := Lib.hid (HM.out.of_obj (obj_below BX.out HM.out.lt))
    have HOX := Lib.hid (HO.out.below BX.out)
    have HBX : Hid (Below w.heap.size w (wr.alloc (.cells (idL x).toArray 32))) := Lib.hid (HB.out.trans (BX.out.mono HB.out.size))
    have hzx : (wr.alloc (.cells (idL x).toArray 32)).heap.size = wr.heap.size + 1 := by simp
    have hLk := run_lookup76 (wr.alloc (.cells (idL x).toArray 32)) mp L x HMX.out
    by_cases hin : alpha ≤ getN L x
    case neg =>
      have HO2 : Hid (OwnC (wr.alloc (.cells (idL x).toArray 32)) w.heap.size 32 32 idL (.slice a n c) (enP L alpha (m.tips.take (k + 1)))) := Lib.hid (by rw [HNO.out hin]; exact HOX.out)
      generalize getN L x = G at *
      go_wp2_with fail
      go_roundw
      case rel => exact ⟨k + 1, a, n, c, by omega, by go_num, rfl, HO2, HMX, HBX, Lib.hid (by omega)⟩
      case measure => exact meas_step' hlt
    have HP1 := Lib.hid (HYE.out hin)
    generalize getN L x = G at *
    have hn : n = P0.length := (HOX.out.slIn idL_length).n
    have HLQ : Hid (∀ (v6 : Value) (a : Option Addr) (c' : Nat), v6 = .slice a (P0 ++ [x]).length c' → v6 = .slice a (n + 1) c') := Lib.hid (fun v6 a c' e => by rw [e, List.length_append, ← hn]; rfl)
    clear hn
    have BY : Hid (Below wr.heap.size wr ((wr.alloc (.cells (idL x).toArray 32)).alloc (.cells (idL x).toArray 32))) := Lib.hid (BX.out.alloc (by simp) _)
    have OY : Hid (obj ((wr.alloc (.cells (idL x).toArray 32)).alloc (.cells (idL x).toArray 32)) (wr.heap.size + 1) = some (.cells (idL x).toArray 32 (0, 0))) := Lib.hid (obj_alloc_at _ _ _ (by simp))
    have HMY := Lib.hid (HM.out.of_obj (obj_below BY.out HM.out.lt))
    have HOY := Lib.hid (HO.out.below BY.out)
    have HBY : Hid (Below w.heap.size w ((wr.alloc (.cells (idL x).toArray 32)).alloc (.cells (idL x).toArray 32))) := Lib.hid (HB.out.trans (BY.out.mono HB.out.size))
    have hzy : ((wr.alloc (.cells (idL x).toArray 32)).alloc (.cells (idL x).toArray 32)).heap.size = wr.heap.size + 2 := by simp
    have HMM : Hid (∀ w6 : World, (∀ j, j < wr.heap.size + 2 → (Value.slice a n c).ownBlock ≠ some j → obj w6 j = obj ((wr.alloc (.cells (idL x).toArray 32)).alloc (.cells (idL x).toArray 32)) j) → MapB w6 mp idV nV L) := Lib.hid (fun w6 g6 => by obtain ⟨es, clk, ho, _⟩ := HMY.out; exact HMY.out.of_obj (g6 _ (by have := HM.out.lt; omega) (HOY.out.ne ho (fun cur h => by cases h))))
    go_wp2_with (at_builtin; refine pushN rfl _ _ rfl w.heap.size (.slice a n c) P0 x rfl HOY.out (wr.heap.size + 1) rfl OY.out (by omega) (by rw [hzy]; omega) ?_; intro v6 w6 r6 b6 g6; obtain ⟨a6, c6, e6⟩ := r6.slice; have e7 := HLQ.out v6 a6 c6 e6; subst e7; have HO6 : Hid (OwnC w6 w.heap.size 32 32 idL (.slice a6 (n + 1) c6) (enP L alpha (m.tips.take (k + 1)))) := Lib.hid (by rw [HP1.out]; exact r6); have HM6 : Hid (MapB w6 mp idV nV L) := Lib.hid (HMM.out w6 (by rw [hzy] at g6; exact g6)); have HB6 : Hid (Below w.heap.size w w6) := Lib.hid (HBY.out.trans (b6.mono (by omega))); have hz6 : w.heap.size + 1 ≤ w6.heap.size := (by have := b6.size; omega); clear r6 b6 g6 e6)
    go_roundw
    case rel => exact ⟨k + 1, a6, n + 1, c6, by omega, by go_num, rfl, HO6, HM6, HB6, Lib.hid hz6⟩
    case measure => exact meas_step' hlt
end Go.Proofs.YtmgpfmgmpmkkaaaGreat
namespace Go.Proofs.YtmgpfmgmpmkkaaaGreat
open Go.RowKit Go.Shelf Go.Sort

theorem sumW_take {l : List Vd} {k : Nat} (hk : k < l.length) : sumW (l.take (k + 1)) = sumW (l.take k) + l[k].wt := by
  rw [List.take_succ_eq_append_getElem hk, sumW_app]
  simp [sumW]
theorem sumW_take_le {l : List Vd} (h : PosW l) (k : Nat) : 0 ≤ sumW (l.take k) ∧ sumW (l.take k) ≤ sumW l := by
  have h1 := sumW_nonneg (l := l.take k) fun x hx => h x (List.mem_of_mem_take hx)
  have h2 := sumW_nonneg (l := l.drop k) fun x hx => h x (List.mem_of_mem_drop hx)
  have h3 := sumW_app (l.take k) (l.drop k)
  rw [List.take_append_drop] at h3
  omega
set_option maxRecDepth 100000 in
set_option maxHeartbeats 4000000 in
/-- the document's Total -/
theorem total_any (w : World) (v : Value) (l : List Vd) (hl : SlIn w v 2 vdL l) (hN : ∀ x ∈ l, x.name.size ≤ 300) (hc : chk l = 0) :
    Calls Tryz.prog 27 #[v] w fun e w' => e = .returned (.int .i64 (sumW l)) ∧ Below w.heap.size w w' := by
  have HCK := Lib.hid (fun W (hW : Below w.heap.size w W) => checkB W v l (hl.below hW) hN)
  have HC := Lib.hid hc
  have hll := (chk_32 hc).2.1
  obtain ⟨la, lc, rfl, -, hlm, hl3⟩ := hl
  have HL3 := Lib.hid hl3
  have HP := Lib.hid (sumW_max hc)
  unfold maxLen at hlm
  clear hl3 hN hc
  go_enter Tryz.func27, Tryz.ntmps27
  go_wp2_with fail
  go_loopw [3, 4] (fun v3 v4 wr => ∃ k : Nat, k ≤ l.length ∧ v3 = .int .i64 (sumW (l.take k)) ∧ v4 = .int .i64 k ∧ Hid (Below w.heap.size w wr)) (fun _ i _ => l.length - (intOf i).toNat)
  case atStart => exact ⟨0, Nat.zero_le _, rfl, rfl, Lib.hid (Below.refl _ _)⟩
  case round =>
    obtain ⟨k, hk, rfl, rfl, HB⟩ := hrel
    by_cases hlt : k < l.length
    case neg =>
      obtain hk' : k = l.length := by omega
      have e1 : sumW (l.take k) = sumW l := by rw [List.take_of_length_le (by omega)]
      rw [e1]
      clear e1
      have hki : ¬ (k : Int) < l.length := by omega
      go_wp2_with fail
      go_ret
      exact ⟨rfl, HB.out⟩
    have hki : (k : Int) < l.length := by omega
    have HC1 := HCK.out wr HB.out
    rw [HC.out] at HC1
    obtain ⟨b, off, rfl, hbb, hrow⟩ := HL3.out (by omega)
    have hs := hrow k hlt
    have HWC : Hid (w.cell? ⟨b, off + k * 2 + 1, none⟩ = some (.int .i64 l[k].wt)) := Lib.hid (by have := subOf_cell hs (j := 1) (by decide); simpa [vdL] using this)
    have HTK := Lib.hid (sumW_take hlt)
    have HT0 := Lib.hid (sumW_take_le HP.out.1 k)
    have HT1 := Lib.hid (sumW_take_le HP.out.1 (k + 1))
    have hmx := HP.out.2
    have HX := Lib.hid HC1
    generalize l[k].wt = wt at *
    obtain ⟨S1, hS1⟩ : ∃ x, x = sumW (l.take (k + 1)) := ⟨_, rfl⟩
    rw [← hS1] at HTK HT1
    have HS1 := Lib.hid hS1
    clear hS1
    generalize sumW (l.take k) = S0 at *
    clear hrow hs HC1
    go_wp2_with fail
    refine HX.out.mono ?_
    rintro e w2 ⟨rfl, b2⟩
    have HB2 : Hid (Below w.heap.size w w2) := Lib.hid (HB.out.trans (b2.mono HB.out.size))
    have cx : w2.cell? ⟨b, off + k * 2 + 1, none⟩ = some (.int .i64 wt) := (HB2.out.cell (p := ⟨b, off + k * 2 + 1, none⟩) hbb).trans HWC.out
    have hbl : b < w2.heap.size := Nat.lt_of_lt_of_le hbb HB2.out.size
    have hwr : IntKind.i64.wrap (S0 + wt) = S1 := by have := HTK.out; have := HT0.out; have := HT1.out; simp [IntKind.wrap, IntKind.signed, IntKind.bits]; omega
    clear b2 HX hmx
    go_wp2_with fail
    go_roundw
    case rel => exact ⟨k + 1, by omega, by rw [HS1.out], by go_num, HB2⟩
    case measure => exact meas_step' hlt
end Go.Proofs.YtmgpfmgmpmkkaaaGreat
