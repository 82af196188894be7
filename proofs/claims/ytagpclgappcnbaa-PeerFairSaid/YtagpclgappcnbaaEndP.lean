import Derived.Test.YtagpclgappcnbaaBkY
namespace Go.Proofs.Ytagpclgappcnbaa
open Go.RowKit

/-! ### what is waited for, as PeerEnds keeps it -/
theorem want_ask {M : PM} (h : PInv M) {V : List (Int × Int)} (hw : Al.Want M.W V) {v kind now : Int} (hc : comesE M now = 0) (he : (askP M v kind now).2.2.2 = 0) (hb : (askP M v kind now).2.2.1 = false) :
    Al.Want (askP M v kind now).1.W (aPut (askP M v kind now).2.1 (askAt M now) V) := by
  obtain ⟨h1, h2, -, -⟩ := ask_due h hc he hb
  have hn := PInvW.wk (h.askP v kind now)
  rw [h2] at hn ⊢
  exact (hw.push hn h1).2
theorem want_askno {M : PM} (h : PInv M) {V : List (Int × Int)} (hw : Al.Want M.W V) {v kind now : Int} (hh : (askP M v kind now).2.2.2 ≠ 0 ∨ (askP M v kind now).2.2.1 = true) : Al.Want (askP M v kind now).1.W V := by
  rw [ask_no h hh]; exact hw
theorem got_yes {M : PM} (h : PInv M) {v id kind now : Int} (hc : comesE M now = 0) (he : (gotP M v id kind now).2.2 = 0) :
    (gotP M v id kind now).2.1.id = id ∧ (gotP M v id kind now).2.1.node = v ∧ Al.hasK M.W id = true ∧ (gotP M v id kind now).1.W = Al.dropW M.W id ∧ (gotP M v id kind now).1.seats = repS M.seats v ∧ 0 ≤ v ∧ v < M.l.length := by
  have hn := PInvW.now h hc
  unfold gotP at he ⊢
  rw [if_neg (fun hh => hh hc)] at he ⊢
  split
  · rename_i hE; rw [if_pos hE] at he; exact absurd he hE
  rename_i hE
  obtain ⟨a, ha, h1, h2, h3, h4, -⟩ := hn.got (v := v) (id := id) (kind := kind) (by show Ak.ansE M.A v id kind = 0; omega)
  have hA : Ak.ansA M.A v id kind = a := by
    unfold Ak.ansA
    rw [if_pos (by omega)]
    have ha' : aGet id M.A.L = some a := ha
    rw [ha']; rfl
  refine ⟨by show (Ak.ansA M.A v id kind).id = id; rw [hA, h1], by show (Ak.ansA M.A v id kind).node = v; rw [hA, h2], ?_, rfl, rfl, h3, h4⟩
  have := PInvW.keys h id
  rw [← this, show aGet id M.A.L = some a from ha]; rfl
theorem got_no {M : PM} {v id kind now : Int} (he : (gotP M v id kind now).2.2 ≠ 0) : (gotP M v id kind now).1.W = M.W ∧ (gotP M v id kind now).1.seats = M.seats := by
  unfold gotP at he ⊢
  split
  · exact ⟨rfl, rfl⟩
  rename_i hc
  rw [if_neg hc] at he
  split
  · exact ⟨rfl, rfl⟩
  rename_i hE
  rw [if_neg hE] at he
  exact absurd rfl he
theorem want_got {M : PM} (h : PInv M) {V : List (Int × Int)} (hw : Al.Want M.W V) {v id kind now : Int} (hc : comesE M now = 0) (he : (gotP M v id kind now).2.2 = 0) : (aGet id V).isSome = true ∧ Al.Want (gotP M v id kind now).1.W (aDel id V) := by
  obtain ⟨-, -, h3, h4, -⟩ := got_yes h hc he
  rw [h4]
  exact ⟨by rw [hw.has, h3], hw.drop (PInvW.wk h) id⟩
theorem want_gotno {M : PM} {V : List (Int × Int)} (hw : Al.Want M.W V) {v id kind now : Int} (he : (gotP M v id kind now).2.2 ≠ 0) : Al.Want (gotP M v id kind now).1.W V := by
  rw [(got_no he).1]; exact hw
/-- what a Tick tells -/
structure TickT (M : PM) (T : Int) (M' : PM) (fl : List Ak.AskD) : Prop where
  ex : ∃ D : List Al.Al, D ++ M'.W = M.W ∧ fl.map (·.id) = D.map (·.2) ∧ (∀ x ∈ D, x.1 ≤ T) ∧ (0 < M'.W.length → T < (Al.at' M'.W 0).1) ∧ (Al.keysL (D ++ M'.W)).Nodup
  node : ∀ a ∈ fl, 0 ≤ a.node ∧ a.node < M.l.length
  max : T = 4611686018427387903 → M'.W = []
theorem tick_t {M : PM} (h : PInv M) {T : Int} (hc : comesE M T = 0) : (tickP M T).2.2 = 0 ∧ TickT M T (tickP M T).1 (tickP M T).2.1 := by
  obtain ⟨-, h2, h3, h4⟩ := PInvW.tickF (h.tick0 hc)
  have e : tickP M T = (tickF { M with now := T, W := Al.leftL T M.W } (Al.dueL T M.W), outF { M with now := T, W := Al.leftL T M.W } (Al.dueL T M.W), 0) := by unfold tickP; rw [if_neg (fun hh => hh hc)]
  have eW : (tickF { M with now := T, W := Al.leftL T M.W } (Al.dueL T M.W)).W = Al.leftL T M.W := (tickF_eqs _ _).1
  rw [e]
  refine ⟨rfl, ⟨⟨Al.dueL T M.W, ?_, h3, due_le T M.W, fun hh => ?_, ?_⟩, h4, fun hT => ?_⟩⟩
  · show Al.dueL T M.W ++ (tickF _ _).W = M.W
    rw [eW, Al.due_left]
  · show T < (Al.at' (tickF _ _).W 0).1
    have hh : 0 < (tickF { M with now := T, W := Al.leftL T M.W } (Al.dueL T M.W)).W.length := hh
    rw [eW] at hh ⊢
    exact left_head T M.W hh
  · show (Al.keysL (Al.dueL T M.W ++ (tickF _ _).W)).Nodup
    rw [eW, Al.due_left]
    exact PInvW.wk h
  · show (tickF _ _).W = []
    rw [eW, hT]
    exact left_all (PInvW.times h)
theorem want_len {M : PM} (h : PInv M) {V : List (Int × Int)} (hw : Al.Want M.W V) : (V.length : Int) = M.A.L.length := by
  rw [hw.len (PInvW.wk h), PInvW.wlen h]
/-- at the end of time nothing waits -/
theorem ends_all {M : PM} (h : PInv M) {M' : PM} (hM : PInv M') (hW : M'.W = []) : M'.A.L.length = 0 ∧ M'.A.asked = M'.A.ans + M'.A.exp ∧ 0 ≤ M'.A.ans ∧ 0 ≤ M'.A.exp ∧ M'.A.asked ≤ 2147483647 := by
  have h1 := PInvW.wlen hM
  rw [hW] at h1
  have h2 := PInvW.stat hM
  have h3 := PInvW.pos hM
  have h4 := PInvW.askl hM
  have h5 := PInvW.last hM
  simp at h1
  rw [← h1] at h2
  exact ⟨h1.symm, by omega, h3.1, h3.2, by omega⟩
/-- one that failed, of those that do -/
theorem want_pop {D U : List Al.Al} {V : List (Int × Int)} {j : Nat} (hj : j < D.length) (hn : (Al.keysL (D ++ U)).Nodup) (hw : Al.Want (D.drop j ++ U) V) : aGet D[j].2 V = some D[j].1 ∧ Al.Want (D.drop (j + 1) ++ U) (aDel D[j].2 V) := by
  rw [List.drop_eq_getElem_cons hj, List.cons_append] at hw
  refine hw.pop ?_
  rw [← List.cons_append, ← List.drop_eq_getElem_cons hj]
  refine hn.sublist ?_
  unfold Al.keysL
  exact ((List.drop_sublist j D).append_right U).map _
end Go.Proofs.Ytagpclgappcnbaa
