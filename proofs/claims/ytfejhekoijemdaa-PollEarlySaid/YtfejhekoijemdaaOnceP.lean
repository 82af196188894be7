import Derived.Test.YtfejhekoijemdaaModel
import Derived.Test.YtfejhekoijemdaaBegunW
import Derived.Test.YtfejhekoijemdaaReads
namespace Go.Proofs.Ytfejhekoijemdaa
open Go.RowKit

/-! ### one poll, as plain data: what PollOnce tells -/
def cntI (v : Int) : List Int → Int
  | [] => 0
  | x :: r => (if x = v then 1 else 0) + cntI v r
theorem cntI_nn (v : Int) : ∀ l : List Int, 0 ≤ cntI v l
  | [] => Int.le_refl _
  | x :: r => by have := cntI_nn v r; unfold cntI; split <;> omega
theorem cntI_le (v : Int) : ∀ l : List Int, cntI v l ≤ l.length
  | [] => Int.le_refl _
  | x :: r => by have := cntI_le v r; unfold cntI; simp only [List.length_cons]; split <;> omega
theorem cntI_app (v : Int) : ∀ (a b : List Int), cntI v (a ++ b) = cntI v a + cntI v b
  | [], b => by simp [cntI]
  | x :: r, b => by have := cntI_app v r b; simp only [List.cons_append, cntI, this]; omega
theorem cntI_take {v : Int} {l : List Int} {k : Nat} (h : k < l.length) : cntI v (l.take (k + 1)) = cntI v (l.take k) + (if l[k] = v then 1 else 0) := by
  rw [List.take_succ_eq_append_getElem h, cntI_app]
  simp [cntI]
theorem get_put {ν : Type} (k j : Int) (v : ν) : ∀ L : List (Int × ν), aGet j (aPut k v L) = if j = k then some v else aGet j L
  | [] => by simp [aPut, aGet]
  | (i, u) :: r => by
    unfold aPut
    by_cases e : k = i
    · subst e
      rw [if_pos rfl]
      unfold aGet
      split <;> rfl
    · rw [if_neg e]
      unfold aGet
      rw [get_put k j v r]
      by_cases e1 : j = i
      · subst e1
        rw [if_pos rfl, if_pos rfl, if_neg (fun h => e h.symm)]
      · rw [if_neg e1, if_neg e1]
theorem get_count (v : Int) : ∀ (s : List Int) (L : List (Int × Int)), (aGet v (countW L s)).getD 0 = (aGet v L).getD 0 + cntI v s
  | [], L => by simp [countW, cntI]
  | x :: r, L => by
    unfold countW
    rw [get_count v r, get_put]
    show _ = _ + ((if x = v then 1 else 0) + cntI v r)
    by_cases e : v = x
    · subst e; simp; omega
    · rw [if_neg e, if_neg (fun h => e h.symm)]; omega
theorem get_notin {ν : Type} {k : Int} : ∀ {L : List (Int × ν)}, k ∉ L.map (·.1) → aGet k L = none
  | [], _ => rfl
  | (i, u) :: r, h => by
    simp at h
    unfold aGet
    rw [if_neg h.1]
    exact get_notin (by simpa using h.2)
theorem get_del {ν : Type} (k j : Int) : ∀ {L : List (Int × ν)}, (L.map (·.1)).Nodup → aGet j (aDel k L) = if j = k then none else aGet j L
  | [], _ => by simp [aDel, aGet]
  | (i, u) :: r, h => by
    simp only [List.map_cons, List.nodup_cons] at h
    unfold aDel
    by_cases e : k = i
    · subst e
      rw [if_pos rfl]
      by_cases e1 : j = k
      · subst e1
        rw [if_pos rfl]
        exact get_notin h.1
      · rw [if_neg e1]
        conv => rhs; unfold aGet
        rw [if_neg e1]
    · rw [if_neg e]
      unfold aGet
      rw [get_del k j h.2]
      by_cases e1 : j = i
      · subst e1
        rw [if_pos rfl, if_pos rfl, if_neg (fun h => e h.symm)]
      · rw [if_neg e1, if_neg e1]
theorem waits_take {o : OneM} (h : OneOK o) (v u : Int) : waitsOf (takeO v o) u = if u = v then 0 else waitsOf o u := by
  unfold waitsOf takeO
  simp only
  rw [get_del _ _ h.keys]
  split <;> rfl
theorem waits_vote {o : OneM} (h : OneOK o) (v u : Int) (id : ID) : waitsOf (voteO v id o) u = if u = v then 0 else waitsOf o u := waits_take h v u
theorem waits_new (S : SetM) (slots : List Int) (v : Int) : waitsOf (newO S slots) v = cntI v slots := by
  unfold waitsOf newO
  simp only
  rw [get_count]
  simp [aGet]
def votedB (V : List (Int × Bool)) (v : Int) : Bool := (aGet v V).getD false
theorem voted_put (V : List (Int × Bool)) (v u : Int) : votedB (aPut v true V) u = if u = v then true else votedB V u := by
  unfold votedB
  rw [get_put]
  split <;> rfl
structure OnceI (slots : List Int) (V : List (Int × Bool)) (n : Int) (S : SetM) (o : OneM) : Prop where
  ok : SetOK S
  l : S.l = [o]
  id : o.id = 1
  sl : o.slots = slots.length
  w : ∀ v, waitsOf o v = if votedB V v = true then 0 else cntI v slots
  sum : sumN o.votes = n
theorem OnceI.one {slots : List Int} {V : List (Int × Bool)} {n : Int} {S : SetM} {o : OneM} (h : OnceI slots V n S o) : OneOK o := h.ok.one o (by rw [h.l]; simp)
theorem OnceI.find {slots : List Int} {V : List (Int × Bool)} {n : Int} {S : SetM} {o : OneM} (h : OnceI slots V n S o) : findI 1 S.l = some 0 ∧ S.l[0]? = some o := by
  rw [h.l]
  refine ⟨?_, rfl⟩
  unfold findI
  rw [if_pos h.id]
theorem mod_one {S : SetM} {o : OneM} (f : OneM → OneM) (h : S.l = [o]) : (modS S 0 f).l = [f o] := by
  unfold modS
  simp only
  rw [h]
  rfl
theorem OnceI.take0 {slots : List Int} {V : List (Int × Bool)} {n : Int} {S : SetM} {o : OneM} (h : OnceI slots V n S o) (v : Int) (h0 : waitsOf o v = 0) : OnceI slots V n (modS S 0 (takeO v)) (takeO v o) where
  ok := h.ok.mod 0 _ fun o ho => ho.take v
  l := mod_one _ h.l
  id := h.id
  sl := h.sl
  w := fun u => by
    rw [waits_take h.one, ← h.w u]
    split
    · rename_i e; subst e; exact h0.symm
    · rfl
  sum := h.sum
theorem OnceI.take1 {slots : List Int} {V : List (Int × Bool)} {n : Int} {S : SetM} {o : OneM} (h : OnceI slots V n S o) (v : Int) : OnceI slots (aPut v true V) n (modS S 0 (takeO v)) (takeO v o) where
  ok := h.ok.mod 0 _ fun o ho => ho.take v
  l := mod_one _ h.l
  id := h.id
  sl := h.sl
  w := fun u => by
    rw [waits_take h.one, voted_put]
    by_cases e : u = v
    · rw [if_pos e, if_pos e, if_pos rfl]
    · rw [if_neg e, if_neg e]; exact h.w u
  sum := h.sum
theorem OnceI.vote1 {slots : List Int} {V : List (Int × Bool)} {n : Int} {S : SetM} {o : OneM} (h : OnceI slots V n S o) (v : Int) (id : ID) : OnceI slots (aPut v true V) (n + waitsOf o v) (modS S 0 (voteO v id)) (voteO v id o) where
  ok := h.ok.mod 0 _ fun o ho => ho.vote v id
  l := mod_one _ h.l
  id := h.id
  sl := h.sl
  w := fun u => by
    rw [waits_vote h.one, voted_put]
    by_cases e : u = v
    · rw [if_pos e, if_pos e, if_pos rfl]
    · rw [if_neg e, if_neg e]; exact h.w u
  sum := by
    unfold voteO takeO
    simp only
    rw [putV_sum, h.sum]
    omega
theorem OnceI.fresh {slots : List Int} {V : List (Int × Bool)} {n : Int} {S : SetM} {o : OneM} (h : OnceI slots V n S o) {v : Int} (h0 : waitsOf o v ≠ 0) : votedB V v = false ∧ cntI v slots ≠ 0 ∧ waitsOf o v = cntI v slots := by
  have h1 := h.w v
  cases hv : votedB V v with
  | true => rw [hv, if_pos rfl] at h1; exact absurd h1 h0
  | false =>
    rw [hv, if_neg (by simp)] at h1
    exact ⟨rfl, by rw [← h1]; exact h0, h1⟩
theorem OnceI.left {slots : List Int} {V : List (Int × Bool)} {n : Int} {S : SetM} {o : OneM} (h : OnceI slots V n S o) : 0 ≤ o.left ∧ 0 ≤ n ∧ n + o.left ≤ slots.length := by
  have h1 := h.one
  have h2 := h1.left0
  have h3 := h1.tot
  have h4 := h1.sum0
  have h5 := h.sl
  have h6 := h.sum
  omega
end Go.Proofs.Ytfejhekoijemdaa
namespace Go.Proofs.Ytfejhekoijemdaa
open Go.RowKit

theorem OnceI.voteR {slots : List Int} {V : List (Int × Bool)} {n : Int} {S : SetM} {o : OneM} (h : OnceI slots V n S o) (v : Int) (id : ID) :
    ∃ o', ((voteM S 1 v id).2 = 4 ∧ OnceI slots V n (voteM S 1 v id).1 o') ∨ ((voteM S 1 v id).2 = 0 ∧ votedB V v = false ∧ cntI v slots ≠ 0 ∧ OnceI slots (aPut v true V) (n + cntI v slots) (voteM S 1 v id).1 o') := by
  obtain ⟨h1, h2⟩ := h.find
  unfold voteM
  rw [h1]
  simp only [h2]
  by_cases hd : isDone S o = true
  · rw [if_pos hd]; exact ⟨o, .inl ⟨rfl, h⟩⟩
  · rw [if_neg hd]
    by_cases hw : waitsOf o v = 0
    · rw [if_pos hw]; exact ⟨_, .inl ⟨rfl, h.take0 v hw⟩⟩
    · rw [if_neg hw]
      obtain ⟨g1, g2, g3⟩ := h.fresh hw
      exact ⟨_, .inr ⟨rfl, g1, g2, g3 ▸ h.vote1 v id⟩⟩
theorem OnceI.dropR {slots : List Int} {V : List (Int × Bool)} {n : Int} {S : SetM} {o : OneM} (h : OnceI slots V n S o) (v : Int) :
    ∃ o', ((dropM S 1 v).2 = 4 ∧ OnceI slots V n (dropM S 1 v).1 o') ∨ ((dropM S 1 v).2 = 0 ∧ votedB V v = false ∧ cntI v slots ≠ 0 ∧ OnceI slots (aPut v true V) n (dropM S 1 v).1 o') := by
  obtain ⟨h1, h2⟩ := h.find
  unfold dropM
  rw [h1]
  simp only [h2]
  by_cases hd : isDone S o = true
  · rw [if_pos hd]; exact ⟨o, .inl ⟨rfl, h⟩⟩
  · rw [if_neg hd]
    by_cases hw : waitsOf o v = 0
    · rw [if_pos hw]; exact ⟨_, .inl ⟨rfl, h.take0 v hw⟩⟩
    · rw [if_neg hw]
      obtain ⟨g1, g2, g3⟩ := h.fresh hw
      exact ⟨_, .inr ⟨rfl, g1, g2, h.take1 v⟩⟩
theorem OnceI.leftR {slots : List Int} {V : List (Int × Bool)} {n : Int} {S : SetM} {o : OneM} (h : OnceI slots V n S o) : ∃ l : Int, leftM S 1 = (l, 0) ∧ 0 ≤ l ∧ n + l ≤ slots.length := by
  obtain ⟨h1, h2⟩ := h.find
  obtain ⟨g1, g2, g3⟩ := h.left
  unfold leftM
  rw [h1]
  simp only [h2]
  by_cases hd : isDone S o = true
  · rw [if_pos hd]; exact ⟨0, rfl, Int.le_refl _, by omega⟩
  · rw [if_neg hd]; exact ⟨o.left, rfl, g1, g3⟩
theorem OnceI.new {c : Int} {slots : List Int} (hs : SetOK ⟨c, c, 0, []⟩) (ho : openC ⟨c, c, 0, []⟩ slots = 0) : OnceI slots [] 0 (addS ⟨c, c, 0, []⟩ slots) (newO ⟨c, c, 0, []⟩ slots) where
  ok := hs.add ho
  l := rfl
  id := rfl
  sl := rfl
  w := fun v => by rw [waits_new]; rfl
  sum := rfl
theorem openC_1 {c : Int} {slots : List Int} (h : openC ⟨c, c, 0, []⟩ slots ≠ 0) : openC ⟨c, c, 0, []⟩ slots = 1 := by
  unfold openC at *
  split
  · rfl
  · rename_i h1
    rw [if_neg h1] at h
    exact absurd rfl h
/-- what comes out at the end: the one poll, or none -/
theorem OnceI.ends {slots : List Int} {V : List (Int × Bool)} {n : Int} {S : SetM} {o : OneM} (h : OnceI slots V n S o) {w : World} {V' : Nat → Prop} {es : List EndM} (he : EndsAt w V' es (S.l.take (doneN S))) : es.length ≤ 1 ∧ ∀ i (hi : i < es.length), IsEnd w V' es[i] o := by
  rw [h.l] at he
  have h1 := he.1
  have h2 : ([o].take (doneN S)).length ≤ 1 := by simp; omega
  refine ⟨by omega, fun i hi => he.2 i es[i] o (List.getElem?_eq_getElem hi) ?_⟩
  have : i = 0 := by omega
  subst this
  rw [List.getElem?_eq_getElem (by omega)]
  simp
def boolV (b : Bool) : Value := .bool b
theorem run_voted {w : World} {m : Nat} {V : List (Int × Bool)} (h : MapI w m boolV V) (v : Int) : (Instr.lookup 32 (.map (some m)) (.int .i64 v) false).run Try.prog w = .ok (.bool (votedB V v)) w := by
  rw [run_lookup1_int (enc := boolV) Try.underlying32 Try.underlying3 (z := .bool false) (fun w => by kernel_rfl) h v]
  unfold votedB boolV
  cases aGet v V <;> rfl
end Go.Proofs.Ytfejhekoijemdaa
