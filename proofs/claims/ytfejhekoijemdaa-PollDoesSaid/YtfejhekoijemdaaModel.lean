import Derived.Test.YtfejhekoijemdaaLib
import Derived.Test.YtfejhekoijemdaaPlainA
namespace Go.Proofs.Ytfejhekoijemdaa
open Go.RowKit

def intL (n : Int) : List Value := [.int .i64 n]
theorem intL_length (n : Int) : (intL n).length = 1 := rfl
/-! ### polls, as plain data -/
structure OneM where
  id : Int
  slots : Int
  W : List (Int × Int)
  left : Int
  votes : List Vt
structure SetM where
  pref : Int
  conf : Int
  last : Int
  l : List OneM
def sumW : List (Int × Int) → Int
  | [] => 0
  | x :: r => x.2 + sumW r
def waitsOf (o : OneM) (v : Int) : Int := (aGet v o.W).getD 0
def mostN (l : List Vt) : Int := (modeV l).n
def isDone (S : SetM) (o : OneM) : Bool := decide (o.left = 0 ∨ totV o.votes + o.left < S.pref ∨ S.conf ≤ mostN o.votes ∨ (S.pref ≤ mostN o.votes ∧ mostN o.votes + o.left < S.conf))
structure OneOK (o : OneM) : Prop where
  lo : 1 ≤ o.slots
  hi : o.slots ≤ 64
  pos : ∀ x ∈ o.W, 1 ≤ x.2
  keys : (o.W.map (·.1)).Nodup
  sum : o.left = sumW o.W
  asc : Asc o.votes
  vpos : Pos o.votes
  tot : sumN o.votes + o.left ≤ o.slots
theorem sumW_nn {L : List (Int × Int)} (h : ∀ x ∈ L, 1 ≤ x.2) : 0 ≤ sumW L := by
  induction L with
  | nil => exact Int.le_refl _
  | cons x r ih =>
    have h1 := h x (by simp)
    have h2 := ih fun y hy => h y (by simp [hy])
    simp only [sumW]; omega
theorem OneOK.left0 {o : OneM} (h : OneOK o) : 0 ≤ o.left := by rw [h.sum]; exact sumW_nn h.pos
theorem OneOK.sum0 {o : OneM} (h : OneOK o) : 0 ≤ sumN o.votes := sumN_pos h.vpos
theorem OneOK.bag {o : OneM} (h : OneOK o) : bagE o.votes = 0 := bagE_of h.asc h.vpos (by have := h.left0; have := h.tot; have := h.hi; omega)
theorem OneOK.totV {o : OneM} (h : OneOK o) : totV o.votes = sumN o.votes := by unfold Ytfejhekoijemdaa.totV; rw [goodV_of h.bag]
theorem OneOK.len {o : OneM} (h : OneOK o) : (o.votes.length : Int) ≤ 64 := by
  have := len_sum h.vpos; have := h.left0; have := h.tot; have := h.hi; omega
theorem OneOK.most {o : OneM} (h : OneOK o) : 0 ≤ mostN o.votes ∧ mostN o.votes ≤ sumN o.votes := by
  unfold mostN modeV
  rw [goodV_of h.bag]
  obtain ⟨h1, _, h3⟩ := modeF_max o.votes ⟨ID.zero, 0⟩
  refine ⟨h1, ?_⟩
  rcases h3 with h3 | h3
  · rw [h3]; exact h.sum0
  · have := cnt_at h.asc h3
    rw [← this]
    exact cnt_le' h.vpos _
where
  cnt_le' {l : List Vt} (hp : Pos l) (id : ID) : cnt id l ≤ sumN l := by
    induction l with
    | nil => exact Int.le_refl _
    | cons x l ih =>
      have := ih (fun y hy => hp y (by simp [hy]))
      have h1 := hp x (by simp)
      simp only [cnt, sumN]
      split <;> omega
theorem sumW_del (v : Int) : ∀ (L : List (Int × Int)), sumW (aDel v L) = sumW L - (aGet v L).getD 0
  | [] => by simp [aDel, aGet, sumW]
  | (j, u) :: r => by
    unfold aDel aGet
    split
    · simp only [sumW, Option.getD_some]; omega
    · have := sumW_del v r
      simp only [sumW]; omega
theorem mem_del {v : Int} {x : Int × Int} : ∀ {L : List (Int × Int)}, x ∈ aDel v L → x ∈ L
  | [], h => by simp [aDel] at h
  | (j, u) :: r, h => by
    unfold aDel at h
    split at h
    · exact List.mem_cons_of_mem _ h
    · rcases List.mem_cons.1 h with h | h
      · exact h ▸ List.mem_cons_self
      · exact List.mem_cons_of_mem _ (mem_del h)
theorem nodup_del (v : Int) : ∀ {L : List (Int × Int)}, (L.map (·.1)).Nodup → ((aDel v L).map (·.1)).Nodup
  | [], h => by simp [aDel]
  | (j, u) :: r, h => by
    unfold aDel
    simp only [List.map_cons, List.nodup_cons] at h
    split
    · exact h.2
    · simp only [List.map_cons, List.nodup_cons]
      refine ⟨fun hm => h.1 ?_, nodup_del v h.2⟩
      obtain ⟨y, hy, he⟩ := List.mem_map.1 hm
      exact List.mem_map.2 ⟨y, mem_del hy, he⟩
theorem get_mem {v u : Int} : ∀ {L : List (Int × Int)}, aGet v L = some u → (v, u) ∈ L
  | [], h => by simp [aGet] at h
  | (j, x) :: r, h => by
    unfold aGet at h
    split at h
    · cases h; rename_i e; subst e; exact List.mem_cons_self
    · exact List.mem_cons_of_mem _ (get_mem h)
theorem OneOK.waits {o : OneM} (h : OneOK o) (v : Int) : 0 ≤ waitsOf o v ∧ waitsOf o v ≤ o.left := by
  have h1 := sumW_del v o.W
  have h2 := sumW_nn (L := aDel v o.W) fun x hx => h.pos x (mem_del hx)
  unfold waitsOf
  rw [h.sum]
  refine ⟨?_, by omega⟩
  cases hg : aGet v o.W with
  | none => simp
  | some u => have := h.pos _ (get_mem hg); simp at this ⊢; omega
def takeO (v : Int) (o : OneM) : OneM := { o with W := aDel v o.W, left := o.left - waitsOf o v }
def voteO (v : Int) (id : ID) (o : OneM) : OneM := { takeO v o with votes := putV o.votes id (waitsOf o v) }
theorem OneOK.take {o : OneM} (h : OneOK o) (v : Int) : OneOK (takeO v o) where
  lo := h.lo
  hi := h.hi
  pos := fun x hx => h.pos x (mem_del hx)
  keys := nodup_del v h.keys
  sum := by unfold takeO waitsOf; simp only; rw [sumW_del, h.sum]
  asc := h.asc
  vpos := h.vpos
  tot := by have := h.tot; have := h.waits v; unfold takeO; simp only; omega
theorem OneOK.vote {o : OneM} (h : OneOK o) (v : Int) (id : ID) : OneOK (voteO v id o) :=
  { h.take v with
    asc := putV_asc h.asc _ _
    vpos := putV_pos h.vpos _ (h.waits v).1
    tot := by have := h.tot; unfold voteO takeO; simp only; rw [putV_sum]; omega }
structure SetOK (S : SetM) : Prop where
  p0 : 1 ≤ S.pref
  pc : S.pref ≤ S.conf
  c1 : S.conf ≤ 64
  last : 0 ≤ S.last
  one : ∀ o ∈ S.l, OneOK o
def findI (n : Int) : List OneM → Option Nat
  | [] => none
  | o :: r => if o.id = n then some 0 else (findI n r).map (· + 1)
theorem findI_lt {n : Int} : ∀ {l : List OneM} {i : Nat}, findI n l = some i → ∃ h : i < l.length, l[i].id = n
  | [], i, h => by simp [findI] at h
  | o :: r, i, h => by
    unfold findI at h
    split at h
    · cases h; exact ⟨by simp, by simpa⟩
    · cases hf : findI n r with
      | none => rw [hf] at h; cases h
      | some j =>
        rw [hf] at h
        cases h
        obtain ⟨g, e⟩ := findI_lt hf
        exact ⟨by simpa using g, by simpa using e⟩
def modS (S : SetM) (i : Nat) (f : OneM → OneM) : SetM := { S with l := S.l.modify i f }
theorem SetOK.mod {S : SetM} (h : SetOK S) (i : Nat) (f : OneM → OneM) (hf : ∀ o, OneOK o → OneOK (f o)) : SetOK (modS S i f) := by
  refine ⟨h.p0, h.pc, h.c1, h.last, fun o ho => ?_⟩
  obtain ⟨j, hj, rfl⟩ := List.mem_iff_getElem.1 ho
  unfold modS at hj ⊢
  simp only at hj ⊢
  rw [List.getElem_modify]
  split
  · exact hf _ (h.one _ (List.getElem_mem _))
  · exact h.one _ (List.getElem_mem _)
/-- the waits of slots -/
def countW (L : List (Int × Int)) : List Int → List (Int × Int)
  | [] => L
  | v :: r => countW (aPut v ((aGet v L).getD 0 + 1) L) r
def newO (S : SetM) (slots : List Int) : OneM := ⟨S.last + 1, slots.length, countW [] slots, slots.length, []⟩
def openE (S : SetM) (slots : List Int) : Int :=
  if slots.length < 1 ∨ 64 < slots.length ∨ (∃ v ∈ slots, v < 0 ∨ 32 ≤ v) then 1 else if maxPolls ≤ S.l.length then 6 else 0
where maxPolls : Nat := 256
theorem sumW_put (v u : Int) : ∀ (L : List (Int × Int)), sumW (aPut v u L) = sumW L - (aGet v L).getD 0 + u
  | [] => by simp [aPut, aGet, sumW]
  | (j, x) :: r => by
    unfold aPut aGet
    split
    · simp only [sumW, Option.getD_some]; omega
    · have := sumW_put v u r
      simp only [sumW]; omega
theorem keys_aput (v u : Int) : ∀ (L : List (Int × Int)) (k : Int), k ∈ (aPut v u L).map (·.1) ↔ k = v ∨ k ∈ L.map (·.1)
  | [], k => by simp [aPut]
  | (j, x) :: r, k => by
    unfold aPut
    split
    · rename_i e; subst e; simp
    · have := keys_aput v u r k
      simp only [List.map_cons, List.mem_cons, this]
      constructor
      · rintro (h | h | h) <;> simp [h]
      · rintro (h | h | h) <;> simp [h]
theorem nodup_aput (v u : Int) : ∀ {L : List (Int × Int)}, (L.map (·.1)).Nodup → ((aPut v u L).map (·.1)).Nodup
  | [], _ => by simp [aPut]
  | (j, x) :: r, h => by
    simp only [List.map_cons, List.nodup_cons] at h
    unfold aPut
    split
    · simp only [List.map_cons, List.nodup_cons]; exact h
    · rename_i e
      simp only [List.map_cons, List.nodup_cons]
      refine ⟨fun hm => ?_, nodup_aput v u h.2⟩
      rcases (keys_aput v u r j).1 hm with h' | h'
      · exact e h'.symm
      · exact h.1 h'
theorem pos_aput {v u : Int} (hu : 1 ≤ u) : ∀ {L : List (Int × Int)}, (∀ x ∈ L, 1 ≤ x.2) → ∀ x ∈ aPut v u L, 1 ≤ x.2
  | [], _, x, hx => by simp [aPut] at hx; subst hx; exact hu
  | (j, y) :: r, h, x, hx => by
    unfold aPut at hx
    split at hx
    · rcases List.mem_cons.1 hx with h' | h'
      · subst h'; exact hu
      · exact h x (by simp [h'])
    · rcases List.mem_cons.1 hx with h' | h'
      · exact h x (by simp [h'])
      · exact pos_aput hu (fun z hz => h z (by simp [hz])) x h'
theorem get0 {L : List (Int × Int)} (h : ∀ x ∈ L, 1 ≤ x.2) (v : Int) : 0 ≤ (aGet v L).getD 0 := by
  cases hg : aGet v L with
  | none => simp
  | some u => have := h _ (get_mem hg); simp at this ⊢; omega
theorem countW_ok : ∀ (s : List Int) (L : List (Int × Int)), (∀ x ∈ L, 1 ≤ x.2) → (L.map (·.1)).Nodup → (∀ x ∈ countW L s, 1 ≤ x.2) ∧ ((countW L s).map (·.1)).Nodup ∧ sumW (countW L s) = sumW L + s.length
  | [], L, h1, h2 => ⟨h1, h2, by simp [countW]⟩
  | v :: r, L, h1, h2 => by
    have h0 := get0 h1 v
    obtain ⟨a, b, c⟩ := countW_ok r (aPut v ((aGet v L).getD 0 + 1) L) (pos_aput (by omega) h1) (nodup_aput _ _ h2)
    refine ⟨a, b, ?_⟩
    unfold countW
    rw [c, sumW_put]
    simp only [List.length_cons]
    omega
theorem newO_ok (S : SetM) {slots : List Int} (h1 : 1 ≤ slots.length) (h2 : slots.length ≤ 64) : OneOK (newO S slots) := by
  obtain ⟨a, b, c⟩ := countW_ok slots [] (by simp) (by simp)
  have hs : (newO S slots).left = sumW (newO S slots).W := by
    show (slots.length : Int) = sumW (countW [] slots)
    rw [c]; simp [sumW]
  exact ⟨by show (1 : Int) ≤ slots.length; omega, by show (slots.length : Int) ≤ 64; omega, a, b, hs, List.Pairwise.nil, (fun x hx => (by cases hx)), by show sumN [] + (slots.length : Int) ≤ slots.length; simp [sumN]⟩
/-- the polls that are done, as long as the first one is -/
def doneN (S : SetM) : Nat := (S.l.takeWhile (isDone S)).length
end Go.Proofs.Ytfejhekoijemdaa
