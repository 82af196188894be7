import Derived.Test.YtfejhekoijemdaaOnceP
namespace Go.Proofs.Ytfejhekoijemdaa
open Go.RowKit

/-! ### nothing is lost by not waiting, as plain data -/
def withV (l : List Vt) (id : ID) (n : Int) : List Vt :=
  match l with
  | [] => [⟨id, n⟩]
  | x :: r => if x.id = id then ⟨x.id, x.n + n⟩ :: r else x :: withV r id n
def winV (l : List Vt) (p : Int) : ID × Int :=
  match l with
  | [] => (ID.zero, 0)
  | x :: r => if p ≤ x.n then (x.id, x.n) else winV r p
def NN (l : List Vt) : Prop := ∀ x ∈ l, 0 ≤ x.n
def NI (l : List Vt) : Prop := (l.map (·.id)).Nodup
theorem withV_cnt (id : ID) (n : Int) (a : ID) : ∀ l : List Vt, cnt a (withV l id n) = cnt a l + if id = a then n else 0
  | [] => by simp [withV, cnt]
  | x :: r => by
    have ih := withV_cnt id n a r
    unfold withV
    by_cases e : x.id = id
    · rw [if_pos e]
      simp only [cnt]
      by_cases h : x.id = a
      · rw [if_pos h, if_pos h, if_pos (e ▸ h)]; omega
      · rw [if_neg h, if_neg h, if_neg (fun h' => h (e.trans h'))]; omega
    · rw [if_neg e]
      simp only [cnt, ih]
      omega
theorem withV_sum (id : ID) (n : Int) : ∀ l : List Vt, sumN (withV l id n) = sumN l + n
  | [] => by simp [withV, sumN]
  | x :: r => by
    have ih := withV_sum id n r
    unfold withV
    split
    · simp only [sumN]; omega
    · simp only [sumN, ih]; omega
theorem withV_mem {id : ID} {n : Int} {a : ID} : ∀ {l : List Vt}, a ∈ (withV l id n).map (·.id) → a = id ∨ a ∈ l.map (·.id)
  | [], h => by simp [withV] at h; exact .inl h
  | x :: r, h => by
    unfold withV at h
    split at h
    · simp only [List.map_cons, List.mem_cons] at h ⊢; exact .inr h
    · simp only [List.map_cons, List.mem_cons] at h ⊢
      rcases h with h | h
      · exact .inr (.inl h)
      · rcases withV_mem h with h | h
        · exact .inl h
        · exact .inr (.inr h)
theorem NI.with {id : ID} {n : Int} : ∀ {l : List Vt}, NI l → NI (withV l id n)
  | [], _ => by simp [NI, withV]
  | x :: r, h => by
    unfold NI at h ⊢
    simp only [List.map_cons, List.nodup_cons] at h
    unfold withV
    by_cases e : x.id = id
    · rw [if_pos e]; simp only [List.map_cons, List.nodup_cons]; exact h
    · rw [if_neg e]
      simp only [List.map_cons, List.nodup_cons]
      refine ⟨fun hm => ?_, NI.with (l := r) h.2⟩
      rcases withV_mem hm with h1 | h1
      · exact e h1
      · exact h.1 h1
theorem NN.with {id : ID} {n : Int} (hn : 0 ≤ n) : ∀ {l : List Vt}, NN l → NN (withV l id n)
  | [], _ => fun x hx => by simp [withV] at hx; subst hx; exact hn
  | x :: r, h => by
    have h1 := h x (by simp)
    have h2 : NN r := fun y hy => h y (by simp [hy])
    unfold withV
    split
    · intro y hy
      rcases List.mem_cons.1 hy with hy | hy
      · subst hy; simp only; omega
      · exact h2 y hy
    · intro y hy
      rcases List.mem_cons.1 hy with hy | hy
      · subst hy; exact h1
      · exact NN.with hn h2 y hy
theorem withV_len (id : ID) (n : Int) : ∀ l : List Vt, (withV l id n).length ≤ l.length + 1
  | [] => by simp [withV]
  | x :: r => by
    have := withV_len id n r
    unfold withV
    split
    · simp
    · simp only [List.length_cons]; omega
theorem NN.sum {l : List Vt} (h : NN l) : 0 ≤ sumN l := by
  induction l with
  | nil => exact Int.le_refl _
  | cons x r ih =>
    have := h x (by simp)
    have := ih fun y hy => h y (by simp [hy])
    simp only [sumN]; omega
theorem NN.cnt {l : List Vt} (h : NN l) (a : ID) : 0 ≤ cnt a l ∧ cnt a l ≤ sumN l := by
  induction l with
  | nil => exact ⟨Int.le_refl _, Int.le_refl _⟩
  | cons x r ih =>
    have h1 := h x (by simp)
    have h2 := ih fun y hy => h y (by simp [hy])
    simp only [sumN, Ytfejhekoijemdaa.cnt]
    split <;> omega
theorem NN.two {l : List Vt} (h : NN l) {a b : ID} (hne : a ≠ b) : Ytfejhekoijemdaa.cnt a l + Ytfejhekoijemdaa.cnt b l ≤ sumN l := by
  induction l with
  | nil => exact Int.le_refl _
  | cons x r ih =>
    have h1 := h x (by simp)
    have h2 := ih fun y hy => h y (by simp [hy])
    simp only [sumN, Ytfejhekoijemdaa.cnt]
    by_cases ea : x.id = a
    · rw [if_pos ea, if_neg (fun eb => hne (ea.symm.trans eb))]; omega
    · rw [if_neg ea]; split <;> omega
theorem NI.cnt {l : List Vt} (h : NI l) {x : Vt} (hx : x ∈ l) : cnt x.id l = x.n := by
  induction l with
  | nil => cases hx
  | cons y r ih =>
    unfold NI at h
    simp only [List.map_cons, List.nodup_cons] at h
    have hz : ∀ a : ID, a ∉ r.map (·.id) → Ytfejhekoijemdaa.cnt a r = 0 := fun a ha => cnt_gt fun z hz e => ha (List.mem_map.2 ⟨z, hz, e⟩)
    simp only [Ytfejhekoijemdaa.cnt]
    rcases List.mem_cons.1 hx with rfl | hx
    · rw [if_pos rfl, hz _ h.1]; omega
    · have hne : ¬ y.id = x.id := fun e => h.1 (List.mem_map.2 ⟨x, hx, e.symm⟩)
      rw [if_neg hne, ih h.2 hx]; omega
theorem winV_spec (p : Int) : ∀ l : List Vt, (∃ x ∈ l, p ≤ x.n ∧ winV l p = (x.id, x.n)) ∨ ((∀ x ∈ l, x.n < p) ∧ winV l p = (ID.zero, 0))
  | [] => .inr ⟨(fun x hx => by cases hx), rfl⟩
  | x :: r => by
    unfold winV
    by_cases h : p ≤ x.n
    · rw [if_pos h]; exact .inl ⟨x, by simp, h, rfl⟩
    · rw [if_neg h]
      rcases winV_spec p r with ⟨y, hy, h1, h2⟩ | ⟨h1, h2⟩
      · exact .inl ⟨y, by simp [hy], h1, h2⟩
      · exact .inr ⟨fun y hy => by
          rcases List.mem_cons.1 hy with rfl | hy
          · omega
          · exact h1 y hy, h2⟩
theorem win_some {l : List Vt} {p : Int} (hi : NI l) (hn : NN l) (hp : 1 ≤ p) (hs : sumN l < 2 * p) {a : ID} (ha : p ≤ cnt a l) : winV l p = (a, cnt a l) := by
  have hm : ∃ x ∈ l, x.id = a := by
    by_cases h : ∃ x ∈ l, x.id = a
    · exact h
    · have := cnt_gt (id := a) (l := l) (fun x hx e => h ⟨x, hx, e⟩)
      omega
  obtain ⟨y, hy, ey⟩ := hm
  have hyn := hi.cnt hy
  rw [ey] at hyn
  rcases winV_spec p l with ⟨x, hx, h1, h2⟩ | ⟨h1, _⟩
  · have hxn := hi.cnt hx
    by_cases e : x.id = a
    · rw [h2, ← hxn, e]
    · have := hn.two e
      omega
  · have := h1 y hy
    omega
theorem win_none {l : List Vt} {p : Int} (hi : NI l) (h : ∀ a, cnt a l < p) : winV l p = (ID.zero, 0) := by
  rcases winV_spec p l with ⟨x, hx, h1, _⟩ | ⟨_, h2⟩
  · have := h x.id
    rw [hi.cnt hx] at this
    omega
  · exact h2
theorem Asc.ni {l : List Vt} (h : Asc l) : NI l := by
  unfold NI
  rw [List.nodup_iff_pairwise_ne, List.pairwise_map]
  exact List.Pairwise.imp (fun h => ltI_ne h) h
theorem Pos.nn {l : List Vt} (h : Pos l) : NN l := fun x hx => by have := h x hx; omega
/-- who has the most -/
theorem most_at {l : List Vt} (hb : bagE l = 0) : mostN l = 0 ∨ ∃ a, mostN l = cnt a l := by
  unfold mostN modeV
  rw [goodV_of hb]
  obtain ⟨ha, _, _⟩ := bagE_0 hb
  rcases (modeF_max l ⟨ID.zero, 0⟩).2.2 with h | h
  · exact .inl (by rw [h])
  · exact .inr ⟨_, (cnt_at ha h).symm⟩
theorem most_le {l : List Vt} (hb : bagE l = 0) (a : ID) : cnt a l ≤ max 0 (mostN l) := by
  unfold mostN modeV
  rw [goodV_of hb]
  obtain ⟨ha, _, _⟩ := bagE_0 hb
  by_cases h : ∃ x ∈ l, x.id = a
  · obtain ⟨x, hx, rfl⟩ := h
    have := (modeF_max l ⟨ID.zero, 0⟩).2.1 x hx
    rw [cnt_at ha hx]
    omega
  · have := cnt_gt (id := a) (l := l) (fun x hx e => h ⟨x, hx, e⟩)
    omega
/-- a poll's votes, and what they are with some of those that are left -/
structure MoreV (votes all : List Vt) (R : Int) : Prop where
  ni : NI all
  nn : NN all
  lo : ∀ a, cnt a votes ≤ cnt a all
  hi : ∀ a, cnt a all ≤ cnt a votes + R
  sum : sumN all ≤ sumN votes + R
  len : all.length ≤ 4096
theorem early_main {S : SetM} {o : OneM} {all : List Vt} {R : Int} (hok : SetOK S) (ho : OneOK o) (h2 : o.slots < 2 * S.pref) (hd : isDone S o = true) (hm : MoreV o.votes all R) (hR : R ≤ o.left) :
    (winV o.votes S.pref).1 = (winV all S.pref).1 ∧ decide (S.conf ≤ (winV o.votes S.pref).2) = decide (S.conf ≤ (winV all S.pref).2) := by
  have hni := ho.asc.ni
  have hnn := ho.vpos.nn
  have ht := ho.tot
  have hl := ho.left0
  have hp := hok.p0
  have hc := hok.pc
  have hs := hm.sum
  have hdd := of_decide_eq_true (show decide (o.left = 0 ∨ totV o.votes + o.left < S.pref ∨ S.conf ≤ mostN o.votes ∨ (S.pref ≤ mostN o.votes ∧ mostN o.votes + o.left < S.conf)) = true from hd)
  rw [ho.totV] at hdd
  by_cases hw : ∃ a, S.pref ≤ cnt a o.votes
  · obtain ⟨a, ha⟩ := hw
    have hlo := hm.lo a
    have hhi := hm.hi a
    have w1 := win_some hni hnn hp (by omega) ha
    have w2 := win_some hm.ni hm.nn hp (by omega) (show S.pref ≤ cnt a all by omega)
    have hle := (hnn.cnt a).2
    have huq : ∀ n, S.pref ≤ n → n = mostN o.votes → n = cnt a o.votes := fun n hn e => by
      rcases most_at ho.bag with h | ⟨b, h⟩
      · omega
      · by_cases eb : b = a
        · subst eb; omega
        · have := hnn.two (Ne.symm eb); omega
    rw [w1, w2]
    refine ⟨rfl, ?_⟩
    simp only [decide_eq_decide]
    constructor
    · intro h; omega
    · intro h
      rcases hdd with h1 | h1 | h1 | ⟨h1, h3⟩
      · omega
      · omega
      · have := huq (mostN o.votes) (by omega) rfl; omega
      · have := huq (mostN o.votes) h1 rfl; omega
  · have hlt : ∀ a, cnt a o.votes < S.pref := fun a => by
      have : ¬ S.pref ≤ cnt a o.votes := fun h => hw ⟨a, h⟩
      omega
    have hmo : mostN o.votes < S.pref := by
      rcases most_at ho.bag with h | ⟨b, h⟩
      · omega
      · have := hlt b; omega
    have hall : ∀ a, cnt a all < S.pref := fun a => by
      have h3 := hm.hi a
      have h4 := (hm.nn.cnt a).2
      have h5 := hlt a
      rcases hdd with h1 | h1 | h1 | ⟨h1, _⟩ <;> omega
    rw [win_none hni hlt, win_none hm.ni hall]
    exact ⟨rfl, rfl⟩
/-! ### those that are left -/
def wsum (W : List (Int × Int)) : List Int → Int
  | [] => 0
  | v :: r => (aGet v W).getD 0 + wsum W r
theorem wsum_app (W : List (Int × Int)) : ∀ a b, wsum W (a ++ b) = wsum W a + wsum W b
  | [], b => by simp [wsum]
  | x :: r, b => by simp only [List.cons_append, wsum, wsum_app W r b]; omega
theorem wsum_del (W : List (Int × Int)) (hn : (W.map (·.1)).Nodup) (v : Int) : ∀ xs : List Int, v ∉ xs → wsum (aDel v W) xs = wsum W xs
  | [], _ => rfl
  | x :: r, h => by
    simp at h
    simp only [wsum]
    rw [get_del _ _ hn, if_neg (fun e => h.1 e.symm), wsum_del W hn v r h.2]
theorem wsum_le : ∀ (xs : List Int) (W : List (Int × Int)), xs.Nodup → (∀ x ∈ W, 1 ≤ x.2) → (W.map (·.1)).Nodup → wsum W xs ≤ sumW W
  | [], W, _, h, _ => sumW_nn h
  | v :: r, W, hx, h, hn => by
    simp only [List.nodup_cons] at hx
    have h1 := wsum_le r (aDel v W) hx.2 (fun x hx => h x (mem_del hx)) (nodup_del v hn)
    rw [wsum_del W hn v r hx.1, sumW_del] at h1
    simp only [wsum]
    omega
theorem left_zero {o : OneM} (h : OneOK o) (hz : ∀ v, waitsOf o v = 0) : o.left = 0 := by
  rw [h.sum]
  cases hw : o.W with
  | nil => rfl
  | cons x r =>
    have h1 := hz x.1
    have h2 := h.pos x (by rw [hw]; simp)
    unfold waitsOf at h1
    rw [hw] at h1
    unfold aGet at h1
    rw [if_pos rfl] at h1
    simp at h1
    omega
/-! ### the order in which validators come -/
def keysW (L : List (Int × Int)) : List Int := L.map (·.1)
theorem keys_aPut (v u : Int) : ∀ L : List (Int × Int), keysW (aPut v u L) = if v ∈ keysW L then keysW L else keysW L ++ [v]
  | [] => by simp [aPut, keysW]
  | (j, x) :: r => by
    have ih := keys_aPut v u r
    unfold aPut
    by_cases e : v = j
    · subst e
      rw [if_pos rfl, if_pos (by simp [keysW])]
      rfl
    · rw [if_neg e]
      show j :: keysW (aPut v u r) = _
      rw [ih]
      by_cases hm : v ∈ keysW r
      · rw [if_pos hm, if_pos (by simp only [keysW, List.map_cons, List.mem_cons]; exact .inr hm)]; rfl
      · rw [if_neg hm, if_neg (by simp only [keysW, List.map_cons, List.mem_cons]; exact fun h => h.elim e hm)]; rfl
theorem get_keys {L : List (Int × Int)} (h : ∀ x ∈ L, 1 ≤ x.2) (v : Int) : (aGet v L).getD 0 = 0 ↔ v ∉ keysW L := by
  constructor
  · intro h0 hm
    obtain ⟨x, hx, rfl⟩ := List.mem_map.1 hm
    cases hg : aGet x.1 L with
    | none =>
      have : ∀ (L : List (Int × Int)), x ∈ L → aGet x.1 L ≠ none := by
        intro L
        induction L with
        | nil => intro h; cases h
        | cons y r ih =>
          intro hm
          obtain ⟨j, u⟩ := y
          unfold aGet
          split
          · simp
          · rename_i hne
            rcases List.mem_cons.1 hm with e | e
            · subst e; exact absurd rfl hne
            · exact ih e
      exact this L hx hg
    | some u =>
      rw [hg] at h0
      have := h _ (get_mem hg)
      simp at h0 this
      omega
  · intro hm
    rw [get_notin hm]
    rfl
def ordW (slots : List Int) : List Int := keysW (countW [] slots)
theorem ordW_nodup (slots : List Int) : (ordW slots).Nodup := (countW_ok slots [] (by simp) (by simp)).2.1
theorem ordW_mem (slots : List Int) (v : Int) : v ∈ ordW slots ↔ cntI v slots ≠ 0 := by
  have h1 := get_keys (countW_ok slots [] (by simp) (by simp)).1 v
  rw [get_count] at h1
  simp only [aGet, Option.getD_none, Int.zero_add] at h1
  constructor
  · intro h h0; exact h1.1 h0 h
  · intro h
    by_cases hm : v ∈ ordW slots
    · exact hm
    · exact absurd (h1.2 hm) h
theorem ordW_snoc {slots : List Int} {k : Nat} (hk : k < slots.length) : ordW (slots.take (k + 1)) = if cntI slots[k] (slots.take k) = 0 then ordW (slots.take k) ++ [slots[k]] else ordW (slots.take k) := by
  have h0 := ordW_mem (slots.take k) slots[k]
  have h1 : countW [] (slots.take (k + 1)) = aPut slots[k] ((aGet slots[k] (countW [] (slots.take k))).getD 0 + 1) (countW [] (slots.take k)) := by
    rw [List.take_succ_eq_append_getElem hk, countW_app]
    rfl
  show keysW (countW [] (slots.take (k + 1))) = _
  rw [h1, keys_aPut]
  change (if slots[k] ∈ ordW (slots.take k) then ordW (slots.take k) else ordW (slots.take k) ++ [slots[k]]) = _
  by_cases hc : cntI slots[k] (slots.take k) = 0
  · rw [if_pos hc, if_neg (fun h => (h0.1 h) hc)]
  · rw [if_neg hc, if_pos (h0.2 hc)]
theorem ordW_len (slots : List Int) : (ordW slots).length ≤ slots.length := by
  have h := (countW_ok slots [] (by simp) (by simp))
  have h1 : ∀ L : List (Int × Int), (∀ x ∈ L, 1 ≤ x.2) → (L.length : Int) ≤ sumW L := by
    intro L
    induction L with
    | nil => intro _; simp [sumW]
    | cons x r ih =>
      intro h
      have := h x (by simp)
      have := ih fun y hy => h y (by simp [hy])
      simp only [sumW, List.length_cons]
      omega
  have h2 := h1 _ h.1
  rw [h.2.2] at h2
  unfold ordW keysW
  simp only [sumW, List.length_map] at *
  omega
/-! ### the run of the votes -/
theorem OnceI.waitsR {slots : List Int} {V : List (Int × Bool)} {n : Int} {S : SetM} {o : OneM} (h : OnceI slots V n S o) {v : Int} (hv : votedB V v = false) (hc : cntI v slots ≠ 0) : waitsM S 1 v = !isDone S o := by
  obtain ⟨h1, h2⟩ := h.find
  have h3 := h.w v
  rw [hv, if_neg (by simp)] at h3
  have h4 := cntI_nn v slots
  unfold waitsM
  rw [h1]
  simp only [h2]
  cases hd : isDone S o with
  | true => simp
  | false => simp; omega
theorem OnceI.voteY {slots : List Int} {V : List (Int × Bool)} {n : Int} {S : SetM} {o : OneM} (h : OnceI slots V n S o) {v : Int} (hv : votedB V v = false) (hc : cntI v slots ≠ 0) (hd : isDone S o = false) (id : ID) :
    ∃ n' o', OnceI slots (aPut v true V) n' (voteM S 1 v id).1 o' := by
  obtain ⟨h1, h2⟩ := h.find
  have h3 := h.w v
  rw [hv, if_neg (by simp)] at h3
  have hw : ¬ waitsOf o v = 0 := by omega
  have : voteM S 1 v id = (modS S 0 (voteO v id), 0) := by
    unfold voteM
    rw [h1]
    simp only [h2]
    rw [if_neg (by simp [hd]), if_neg hw]
  rw [this]
  exact ⟨_, _, h.vote1 v id⟩
theorem OnceI.dropY {slots : List Int} {V : List (Int × Bool)} {n : Int} {S : SetM} {o : OneM} (h : OnceI slots V n S o) {v : Int} (hv : votedB V v = false) (hc : cntI v slots ≠ 0) (hd : isDone S o = false) :
    ∃ n' o', OnceI slots (aPut v true V) n' (dropM S 1 v).1 o' := by
  obtain ⟨h1, h2⟩ := h.find
  have h3 := h.w v
  rw [hv, if_neg (by simp)] at h3
  have hw : ¬ waitsOf o v = 0 := by omega
  have : dropM S 1 v = (modS S 0 (takeO v), if waitsOf o v = 0 then 4 else 0) := by
    unfold dropM
    rw [h1]
    simp only [h2]
    rw [if_neg (by simp [hd])]
  rw [this]
  exact ⟨_, _, h.take1 v⟩
/-- whose turn it was -/
def GotI (V : List (Int × Bool)) (slots : List Int) (i : Nat) : Prop := ∀ v, votedB V v = true ↔ v ∈ (ordW slots).take i
theorem GotI.next {V : List (Int × Bool)} {slots : List Int} {i : Nat} (h : GotI V slots i) (hi : i < (ordW slots).length) : GotI (aPut (ordW slots)[i] true V) slots (i + 1) := by
  intro v
  rw [voted_put, List.take_succ_eq_append_getElem hi, List.mem_append, List.mem_singleton]
  by_cases e : v = (ordW slots)[i]
  · rw [if_pos e]; simp [e]
  · rw [if_neg e, h v]; simp [e]
theorem GotI.fresh {V : List (Int × Bool)} {slots : List Int} {i : Nat} (h : GotI V slots i) (hi : i < (ordW slots).length) : votedB V (ordW slots)[i] = false := by
  cases hv : votedB V (ordW slots)[i] with
  | false => rfl
  | true =>
    have h1 := (h _).1 hv
    obtain ⟨j, hj, e⟩ := List.mem_iff_getElem.1 h1
    rw [List.getElem_take] at e
    simp at hj
    have h2 := List.pairwise_iff_getElem.1 (List.nodup_iff_pairwise_ne.1 (ordW_nodup slots)) j i (by omega) hi (by omega)
    exact absurd e h2
theorem OnceI.all_done {slots : List Int} {V : List (Int × Bool)} {n : Int} {S : SetM} {o : OneM} (h : OnceI slots V n S o) (hg : GotI V slots (ordW slots).length) : isDone S o = true := by
  have hl : o.left = 0 := left_zero h.one fun v => by
    rw [h.w v]
    by_cases hv : votedB V v = true
    · rw [if_pos hv]
    · rw [if_neg hv]
      have : v ∉ ordW slots := fun hm => hv ((hg v).2 (by rwa [List.take_of_length_le (Nat.le_refl _)]))
      by_cases hc : cntI v slots = 0
      · exact hc
      · exact absurd ((ordW_mem slots v).2 hc) this
  unfold isDone
  exact decide_eq_true (.inl hl)
theorem OnceI.done1 {slots : List Int} {V : List (Int × Bool)} {n : Int} {S : SetM} {o : OneM} (h : OnceI slots V n S o) (hd : isDone S o = true) : doneN S = 1 ∧ S.l.take (doneN S) = [o] := by
  have : doneN S = 1 := by
    unfold doneN
    rw [h.l, List.takeWhile_cons_of_pos hd]
    rfl
  rw [this, h.l]
  exact ⟨rfl, rfl⟩
/-- the votes of those that are left, up to the k-th -/
def LeftR (o : OneM) (slots : List Int) (k : Nat) (all : List Vt) : Prop := MoreV o.votes all (wsum o.W ((ordW slots).take k)) ∧ all.length ≤ o.votes.length + k
theorem LeftR.start {o : OneM} (ho : OneOK o) (slots : List Int) : LeftR o slots 0 o.votes := by
  have := ho.len
  exact ⟨⟨ho.asc.ni, ho.vpos.nn, fun _ => Int.le_refl _, fun a => by simp [wsum], by simp [wsum], by omega⟩, Nat.le_refl _⟩
theorem wsum_snoc {W : List (Int × Int)} {slots : List Int} {k : Nat} (hk : k < (ordW slots).length) : wsum W ((ordW slots).take (k + 1)) = wsum W ((ordW slots).take k) + (aGet (ordW slots)[k] W).getD 0 := by
  rw [List.take_succ_eq_append_getElem hk, wsum_app]
  simp [wsum]
theorem LeftR.skip {o : OneM} {slots : List Int} {k : Nat} {all : List Vt} (ho : OneOK o) (h : LeftR o slots k all) (hk : k < (ordW slots).length) : LeftR o slots (k + 1) all := by
  have h1 := (ho.waits (ordW slots)[k]).1
  unfold waitsOf at h1
  obtain ⟨h, hl⟩ := h
  refine ⟨⟨h.ni, h.nn, h.lo, fun a => ?_, ?_, h.len⟩, by omega⟩
  · have := h.hi a; rw [wsum_snoc hk]; omega
  · have := h.sum; rw [wsum_snoc hk]; omega
theorem LeftR.with {o : OneM} {slots : List Int} {k : Nat} {all : List Vt} (ho : OneOK o) (h : LeftR o slots k all) (hk : k < (ordW slots).length) (hs : slots.length ≤ 64) (id : ID) : LeftR o slots (k + 1) (withV all id (waitsOf o (ordW slots)[k])) := by
  have h1 := (ho.waits (ordW slots)[k]).1
  have h2 := ho.len
  have h3 := withV_len id (waitsOf o (ordW slots)[k]) all
  have h4 := ordW_len slots
  obtain ⟨h, hl⟩ := h
  refine ⟨⟨h.ni.with, h.nn.with h1, fun a => ?_, fun a => ?_, ?_, by omega⟩, by omega⟩
  · have := h.lo a; rw [withV_cnt]; split <;> omega
  · have := h.hi a; rw [wsum_snoc hk, withV_cnt]; unfold waitsOf at *; split <;> omega
  · have := h.sum; rw [wsum_snoc hk, withV_sum]; unfold waitsOf at *; omega
theorem LeftR.le {o : OneM} (ho : OneOK o) (slots : List Int) (k : Nat) : wsum o.W ((ordW slots).take k) ≤ o.left := by
  rw [ho.sum]
  exact wsum_le _ _ ((ordW_nodup slots).sublist (List.take_sublist _ _)) ho.pos ho.keys
end Go.Proofs.Ytfejhekoijemdaa
