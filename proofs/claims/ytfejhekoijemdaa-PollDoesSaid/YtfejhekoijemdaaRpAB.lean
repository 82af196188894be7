import Derived.Test.YtfejhekoijemdaaState
namespace Go.Proofs.Ytfejhekoijemdaa
open Go.RowKit

def cntI (v : Int) : List Int → Int
  | [] => 0
  | x :: r => (if x = v then 1 else 0) + cntI v r
theorem cntI_nn (v : Int) : ∀ l : List Int, 0 ≤ cntI v l
  | [] => Int.le_refl _
  | x :: r => by have := cntI_nn v r; unfold cntI; split <;> omega
theorem cntI_le (v : Int) : ∀ l : List Int, cntI v l ≤ l.length
  | [] => Int.le_refl _
  | x :: r => by have := cntI_le v r; unfold cntI; simp only [List.length_cons]; split <;> omega
theorem cntI_app (v : Int) : ∀ (a b : List Int), cntI v (a ++ b) = cntI v a + cntI v b
  | [], b => by simp [cntI]
  | x :: r, b => by have := cntI_app v r b; simp only [List.cons_append, cntI, this]; omega
theorem cntI_take {v : Int} {l : List Int} {k : Nat} (h : k < l.length) : cntI v (l.take (k + 1)) = cntI v (l.take k) + (if l[k] = v then 1 else 0) := by
  rw [List.take_succ_eq_append_getElem h, cntI_app]
  simp [cntI]
theorem get_put {ν : Type} (k j : Int) (v : ν) : ∀ L : List (Int × ν), aGet j (aPut k v L) = if j = k then some v else aGet j L
  | [] => by simp [aPut, aGet]
  | (i, u) :: r => by
    unfold aPut
    by_cases e : k = i
    · subst e
      rw [if_pos rfl]
      unfold aGet
      split <;> rfl
    · rw [if_neg e]
      unfold aGet
      rw [get_put k j v r]
      by_cases e1 : j = i
      · subst e1
        rw [if_pos rfl, if_pos rfl, if_neg (fun h => e h.symm)]
      · rw [if_neg e1, if_neg e1]
theorem get_count (v : Int) : ∀ (s : List Int) (L : List (Int × Int)), (aGet v (countW L s)).getD 0 = (aGet v L).getD 0 + cntI v s
  | [], L => by simp [countW, cntI]
  | x :: r, L => by
    unfold countW
    rw [get_count v r, get_put]
    show _ = _ + ((if x = v then 1 else 0) + cntI v r)
    by_cases e : v = x
    · subst e; simp; omega
    · rw [if_neg e, if_neg (fun h => e h.symm)]; omega
theorem get_notin {ν : Type} {k : Int} : ∀ {L : List (Int × ν)}, k ∉ L.map (·.1) → aGet k L = none
  | [], _ => rfl
  | (i, u) :: r, h => by
    simp at h
    unfold aGet
    rw [if_neg h.1]
    exact get_notin (by simpa using h.2)
theorem get_del {ν : Type} (k j : Int) : ∀ {L : List (Int × ν)}, (L.map (·.1)).Nodup → aGet j (aDel k L) = if j = k then none else aGet j L
  | [], _ => by simp [aDel, aGet]
  | (i, u) :: r, h => by
    simp only [List.map_cons, List.nodup_cons] at h
    unfold aDel
    by_cases e : k = i
    · subst e
      rw [if_pos rfl]
      by_cases e1 : j = k
      · subst e1
        rw [if_pos rfl]
        exact get_notin h.1
      · rw [if_neg e1]
        conv => rhs; unfold aGet
        rw [if_neg e1]
    · rw [if_neg e]
      unfold aGet
      rw [get_del k j h.2]
      by_cases e1 : j = i
      · subst e1
        rw [if_pos rfl, if_pos rfl, if_neg (fun h => e h.symm)]
      · rw [if_neg e1, if_neg e1]
/-! ### the document's polls, as plain data: of each its slots; a slot is left as long as its validator is waited for -/
def keyIn (o : OneM) (v : Int) : Bool := (aGet v o.W).isSome
def flagsO (o : OneM) (sl : List Int) : List Bool := sl.map (keyIn o)
structure RelO (o : OneM) (sl : List Int) : Prop where
  len : o.slots = sl.length
  cnt : ∀ x ∈ o.W, x.2 = cntI x.1 sl
def cntB : List Bool → Int
  | [] => 0
  | x :: r => (if x = true then 1 else 0) + cntB r
theorem cntB_app : ∀ (a b : List Bool), cntB (a ++ b) = cntB a + cntB b
  | [], b => by simp [cntB]
  | x :: r, b => by have := cntB_app r b; simp only [List.cons_append, cntB, this]; omega
theorem cntB_take {l : List Bool} {k : Nat} (h : k < l.length) : cntB (l.take (k + 1)) = cntB (l.take k) + (if l[k] = true then 1 else 0) := by
  rw [List.take_succ_eq_append_getElem h, cntB_app]
  simp [cntB]
theorem cntB_nn : ∀ l : List Bool, 0 ≤ cntB l
  | [] => Int.le_refl _
  | x :: r => by have := cntB_nn r; unfold cntB; split <;> omega
theorem cntB_le : ∀ l : List Bool, cntB l ≤ l.length
  | [] => Int.le_refl _
  | x :: r => by have := cntB_le r; unfold cntB; simp only [List.length_cons]; split <;> omega
theorem cnt_key1 {k u : Int} {r : List (Int × Int)} (hk : k ∉ r.map (·.1)) : ∀ sl : List Int, cntB (sl.map fun v => (aGet v ((k, u) :: r)).isSome) = cntI k sl + cntB (sl.map fun v => (aGet v r).isSome)
  | [] => rfl
  | v :: sl => by
    have ih := cnt_key1 (u := u) hk sl
    simp only [List.map_cons, cntB, cntI, ih]
    by_cases e : v = k
    · subst e
      have h1 : aGet v ((v, u) :: r) = some u := by unfold aGet; rw [if_pos rfl]
      have h2 : aGet v r = none := get_notin hk
      rw [h1, h2]
      simp
      omega
    · have h1 : aGet v ((k, u) :: r) = aGet v r := by show (if v = k then some u else aGet v r) = _; rw [if_neg e]
      rw [h1, if_neg e]
      omega
theorem cnt_keys {sl : List Int} : ∀ {W : List (Int × Int)}, (W.map (·.1)).Nodup → (∀ x ∈ W, x.2 = cntI x.1 sl) → cntB (sl.map fun v => (aGet v W).isSome) = sumW W
  | [], _, _ => by
    have h0 : ∀ l : List Int, cntB (l.map fun _ => false) = 0 := by
      intro l
      induction l with
      | nil => rfl
      | cons x r ih => simp only [List.map_cons, cntB, ih]; simp
    exact h0 sl
  | (k, u) :: r, h1, h2 => by
    simp only [List.map_cons, List.nodup_cons] at h1
    rw [cnt_key1 h1.1, cnt_keys h1.2 fun x hx => h2 x (List.mem_cons_of_mem _ hx)]
    have := h2 (k, u) List.mem_cons_self
    simp only at this
    simp only [sumW]
    omega
theorem RelO.left {o : OneM} {sl : List Int} (h : RelO o sl) (ok : OneOK o) : cntB (flagsO o sl) = o.left := by
  rw [ok.sum]
  exact cnt_keys ok.keys h.cnt
theorem RelO.waits {o : OneM} {sl : List Int} (h : RelO o sl) (v : Int) : waitsOf o v = if keyIn o v = true then cntI v sl else 0 := by
  unfold waitsOf keyIn
  cases hg : aGet v o.W with
  | none => simp
  | some u =>
    have := h.cnt _ (get_mem hg)
    simp only at this
    simp [this]
theorem RelO.pos {o : OneM} {sl : List Int} (h : RelO o sl) (ok : OneOK o) {v : Int} (hk : keyIn o v = true) : 1 ≤ cntI v sl := by
  unfold keyIn at hk
  cases hg : aGet v o.W with
  | none => rw [hg] at hk; cases hk
  | some u =>
    have h1 := h.cnt _ (get_mem hg)
    have h2 := ok.pos _ (get_mem hg)
    simp only at h1 h2
    omega
theorem cntI_mem {v : Int} : ∀ {sl : List Int}, 1 ≤ cntI v sl → ∃ j, ∃ h : j < sl.length, sl[j] = v
  | [], h => by simp [cntI] at h
  | x :: r, h => by
    by_cases e : x = v
    · exact ⟨0, by simp, by simpa using e⟩
    · unfold cntI at h
      rw [if_neg e] at h
      obtain ⟨j, hj, he⟩ := cntI_mem (v := v) (sl := r) (by omega)
      exact ⟨j + 1, by simpa using hj, by simpa using he⟩
theorem cntI_of_mem {v : Int} : ∀ {sl : List Int}, v ∈ sl → 1 ≤ cntI v sl
  | [], h => by cases h
  | x :: r, h => by
    unfold cntI
    rcases List.mem_cons.1 h with e | e
    · rw [if_pos e.symm]; have := cntI_nn v r; omega
    · have h9 := cntI_of_mem (v := v) (sl := r) e; split <;> omega
theorem RelO.hit {o : OneM} {sl : List Int} (h : RelO o sl) (ok : OneOK o) {v : Int} (hk : keyIn o v = true) : decide (0 < waitsOf o v) = true := by
  rw [h.waits v, if_pos hk]
  have := h.pos ok hk
  simp; omega
theorem RelO.miss {o : OneM} {sl : List Int} (h : RelO o sl) (ok : OneOK o) {v : Int} (hm : ∀ (j : Nat) (hj : j < sl.length), sl[j] = v → keyIn o v = false) : decide (0 < waitsOf o v) = false := by
  rw [h.waits v]
  cases hk : keyIn o v with
  | false => simp
  | true =>
    obtain ⟨j, hj, e⟩ := cntI_mem (h.pos ok hk)
    rw [hm j hj e] at hk
    cases hk
theorem keyIn_take {o : OneM} (ok : OneOK o) (v u : Int) : keyIn (takeO v o) u = if u = v then false else keyIn o u := by
  unfold keyIn takeO
  simp only
  rw [get_del v u ok.keys]
  split <;> rfl
theorem flags_take {o : OneM} (ok : OneOK o) (v : Int) (sl : List Int) : flagsO (takeO v o) sl = sl.map fun u => if u = v then false else keyIn o u :=
  List.map_congr_left fun u _ => keyIn_take ok v u
theorem flags_vote (o : OneM) (v : Int) (id : ID) (sl : List Int) : flagsO (voteO v id o) sl = flagsO (takeO v o) sl := rfl
theorem flagsO_len (o : OneM) (sl : List Int) : (flagsO o sl).length = sl.length := by unfold flagsO; simp
theorem flagsO_at {o : OneM} {sl : List Int} {k : Nat} (h : k < sl.length) : (flagsO o sl)[k]'(by rw [flagsO_len]; exact h) = keyIn o sl[k] := by unfold flagsO; rw [List.getElem_map]
theorem RelO.take {o : OneM} {sl : List Int} (h : RelO o sl) (v : Int) : RelO (takeO v o) sl := ⟨h.len, fun x hx => h.cnt x (mem_del hx)⟩
theorem RelO.vote {o : OneM} {sl : List Int} (h : RelO o sl) (v : Int) (id : ID) : RelO (voteO v id o) sl := ⟨h.len, fun x hx => h.cnt x (mem_del hx)⟩
theorem get_ofmem {k u : Int} : ∀ {L : List (Int × Int)}, (L.map (·.1)).Nodup → (k, u) ∈ L → aGet k L = some u
  | [], _, h => by cases h
  | (i, x) :: r, hn, h => by
    simp only [List.map_cons, List.nodup_cons] at hn
    unfold aGet
    rcases List.mem_cons.1 h with h | h
    · cases h; rw [if_pos rfl]
    · have : k ≠ i := fun e => hn.1 (by rw [← e]; exact List.mem_map.2 ⟨_, h, rfl⟩)
      rw [if_neg this]
      exact get_ofmem hn.2 h
theorem RelO.new (S : SetM) (sl : List Int) : RelO (newO S sl) sl := by
  refine ⟨rfl, fun x hx => ?_⟩
  obtain ⟨h1, h2, h3⟩ := countW_ok sl [] (by simp) (by simp)
  have h4 := get_ofmem h2 hx
  have h5 := get_count x.1 sl []
  have h6 : aGet x.1 ([] : List (Int × Int)) = none := rfl
  rw [h4, h6] at h5
  simp at h5
  exact h5
theorem flags_new (S : SetM) (sl : List Int) : flagsO (newO S sl) sl = sl.map fun _ => true := by
  refine List.map_congr_left fun v hv => ?_
  have h5 := get_count v sl []
  have h6 : aGet v ([] : List (Int × Int)) = none := rfl
  have h7 := cntI_of_mem hv
  rw [h6] at h5
  unfold keyIn
  show (aGet v (countW [] sl)).isSome = true
  cases hg : aGet v (countW [] sl) with
  | some u => rfl
  | none => rw [hg] at h5; simp at h5; omega
structure RelS (S : SetM) (R : List (List Int)) : Prop where
  len : R.length = S.l.length
  one : ∀ (i : Nat) (o : OneM) (sl : List Int), S.l[i]? = some o → R[i]? = some sl → RelO o sl
theorem RelS.mod {S : SetM} {R : List (List Int)} (h : RelS S R) (i : Nat) (f : OneM → OneM) (hf : ∀ o sl, RelO o sl → RelO (f o) sl) : RelS (modS S i f) R := by
  refine ⟨by unfold modS; simp only [List.length_modify]; exact h.len, fun j o sl h1 h2 => ?_⟩
  unfold modS at h1
  simp only [List.getElem?_modify] at h1
  cases hg : S.l[j]? with
  | none => rw [hg] at h1; simp at h1
  | some x =>
    rw [hg] at h1
    simp at h1
    have := h.one j x sl hg h2
    split at h1
    · subst h1; exact hf _ _ this
    · subst h1; exact this
theorem RelS.nil (p q : Int) : RelS ⟨p, q, 0, []⟩ [] := ⟨rfl, fun i o sl h => by simp at h⟩
/-! ### the most votes -/
def mxF : Int → List Vt → Int
  | b, [] => b
  | b, x :: r => mxF (max b x.n) r
theorem mxF_mode : ∀ (l : List Vt) (b : Vt), (modeF b l).n = mxF b.n l
  | [], _ => rfl
  | x :: r, b => by
    unfold modeF mxF
    rw [mxF_mode r]
    congr 1
    split <;> omega
theorem mxF_snoc (x : Vt) : ∀ (l : List Vt) (b : Int), mxF b (l ++ [x]) = max (mxF b l) x.n
  | [], b => rfl
  | y :: r, b => by
    show mxF (max b y.n) (r ++ [x]) = _
    rw [mxF_snoc x r]
    rfl
theorem mxF_take {l : List Vt} {k : Nat} (h : k < l.length) : mxF 0 (l.take (k + 1)) = max (mxF 0 (l.take k)) l[k].n := by
  rw [List.take_succ_eq_append_getElem h, mxF_snoc]
theorem sumN_tk {l : List Vt} {k : Nat} (h : k < l.length) : sumN (l.take (k + 1)) = sumN (l.take k) + l[k].n := by
  rw [List.take_succ_eq_append_getElem h, sumN_app]
  simp [sumN]
theorem mostN_eq {o : OneM} (h : OneOK o) : mostN o.votes = mxF 0 o.votes := by
  unfold mostN modeV
  rw [goodV_of h.bag, mxF_mode]
theorem mxF_le {l : List Vt} (hp : Pos l) : ∀ {b : Int}, 0 ≤ b → b ≤ mxF b l ∧ mxF b l ≤ b + sumN l := by
  induction l with
  | nil => intro b hb; simp [mxF, sumN]
  | cons x r ih =>
    intro b hb
    have h1 := hp x (by simp)
    have h2 := ih (fun y hy => hp y (by simp [hy])) (b := max b x.n) (by omega)
    simp only [mxF, sumN]
    omega
/-! ### add: one name at its place -/
theorem ins_take {id : ID} {n : Int} : ∀ {l : List Vt} {k : Nat}, k ≤ l.length → (∀ (j : Nat) (h : j < l.length), j < k → ltI l[j].id id = true) → insV id n l = l.take k ++ insV id n (l.drop k)
  | _, 0, _, _ => by simp
  | [], k + 1, h, _ => by simp at h
  | x :: r, k + 1, hk, h => by
    have h0 := h 0 (by simp) (by omega)
    have := ins_take (id := id) (n := n) (l := r) (k := k) (by simpa using hk) fun j hj hlt => by have := h (j + 1) (by simpa using hj) (by omega); simpa using this
    show (if ltI x.id id = true then x :: insV id n r else _) = _
    rw [if_pos (by simpa using h0), this]
    rfl
theorem ins_at {id : ID} {n : Int} {x : Vt} {r : List Vt} (h : ltI id x.id = true) : insV id n (x :: r) = ⟨id, n⟩ :: x :: r := by
  unfold insV
  rw [if_neg (by rw [ltI_asymm h]; decide), if_neg (fun e => ltI_ne h e.symm)]
theorem ins_eq {n : Int} {x : Vt} {r : List Vt} : insV x.id n (x :: r) = ⟨x.id, n + x.n⟩ :: r := by
  unfold insV
  rw [if_neg (by rw [ltI_irrefl]; decide), if_pos rfl]
end Go.Proofs.Ytfejhekoijemdaa
namespace Go.Proofs.Ytfejhekoijemdaa
open Go.RowKit

/-! ### the document's polls, as they lie in a heap -/
structure PB where
  p : Nat
  sv : Value
  fb : Nat
  fc : Nat
  vv : Value
def qL (q : PB) : List Value := [.pointer (some ⟨q.p, 0, none⟩)]
theorem qL_length (q : PB) : (qL q).length = 1 := rfl
structure RPollW (w : World) (G : Nat → Prop) (q : PB) (o : OneM) (sl : List Int) : Prop where
  box : obj w q.p = some (.cells #[.int .i64 o.id, q.sv, .slice (some ⟨q.fb, 0, none⟩) sl.length q.fc, q.vv] 105 (0, 0))
  so : OwnS w 0 3 1 intL q.sv sl
  fl : ∃ cur, obj w q.fb = some (.cells cur 4 (0, 0)) ∧ ∀ (j : Nat) (h : j < sl.length), cur[j]? = some (.bool (keyIn o sl[j]))
  fc : sl.length ≤ q.fc ∧ q.fc ≤ maxLen
  vt : OwnS w 0 58 33 vtL q.vv o.votes
  gp : G q.p
  gf : G q.fb
  gs : ∀ n, q.sv.ownBlock = some n → G n
  gv : ∀ n, q.vv.ownBlock = some n → G n
theorem RPollW.of_G {w W : World} {G G' : Nat → Prop} {q : PB} {o : OneM} {sl : List Int} (h : RPollW w G q o sl) (hk : ∀ n, G n → n < w.heap.size → obj W n = obj w n) (hg : ∀ n, G n → n < w.heap.size → G' n) : RPollW W G' q o sl := by
  obtain ⟨cur, h1, h2⟩ := h.fl
  exact ⟨(hk _ h.gp (lt_of_obj h.box)).trans h.box, h.so.keeps fun g e => hk g (h.gs g e) (h.so.1.lt g e).2, ⟨cur, (hk _ h.gf (lt_of_obj h1)).trans h1, h2⟩, h.fc, h.vt.keeps fun g e => hk g (h.gv g e) (h.vt.1.lt g e).2,
    hg _ h.gp (lt_of_obj h.box), hg _ h.gf (lt_of_obj h1), fun n e => hg n (h.gs n e) (h.so.1.lt n e).2, fun n e => hg n (h.gv n e) (h.vt.1.lt n e).2⟩
theorem RPollW.flt {w : World} {G : Nat → Prop} {q : PB} {o : OneM} {sl : List Int} (h : RPollW w G q o sl) : q.fb < w.heap.size := by
  obtain ⟨cur, h1, _⟩ := h.fl
  exact lt_of_obj h1
theorem RPollW.below {w W : World} {G : Nat → Prop} {q : PB} {o : OneM} {sl : List Int} (h : RPollW w G q o sl) (hb : Below w.heap.size w W) : RPollW W G q o sl :=
  h.of_G (fun _ _ hn => obj_below hb hn) fun _ hg _ => hg
theorem RPollW.cells {w : World} {G : Nat → Prop} {q : PB} {o : OneM} {sl : List Int} (h : RPollW w G q o sl) : w.cell? ⟨q.p, 0, none⟩ = some (.int .i64 o.id) ∧ w.cell? ⟨q.p, 1, none⟩ = some q.sv ∧ w.cell? ⟨q.p, 2, none⟩ = some (.slice (some ⟨q.fb, 0, none⟩) sl.length q.fc) ∧ w.cell? ⟨q.p, 3, none⟩ = some q.vv :=
  ⟨cell_at h.box 0, cell_at h.box 1, cell_at h.box 2, cell_at h.box 3⟩
theorem RPollW.flag {w : World} {G : Nat → Prop} {q : PB} {o : OneM} {sl : List Int} (h : RPollW w G q o sl) {j : Nat} (hj : j < sl.length) : w.cell? ⟨q.fb, j, none⟩ = some (.bool (keyIn o sl[j])) := by
  obtain ⟨cur, h1, h2⟩ := h.fl
  rw [cell_at h1]
  exact h2 j hj
structure RSetW (w : World) (G : Nat → Prop) (rb : Nat) (lv : Value) (ps : List PB) (S : SetM) (R : List (List Int)) : Prop where
  box : obj w rb = some (.cells #[.int .i64 S.pref, .int .i64 S.conf, lv, .int .i64 S.last] 101 (0, 0))
  row : SlIn w lv 1 qL ps
  rowT : ∀ b off n cap, lv = .slice (some ⟨b, off, none⟩) n cap → 0 < ps.length → G b ∧ ∃ cur, obj w b = some (.cells cur 103 (0, 0))
  len : ps.length = S.l.length
  lenR : R.length = S.l.length
  one : ∀ (i : Nat) (q : PB) (o : OneM) (sl : List Int), ps[i]? = some q → S.l[i]? = some o → R[i]? = some sl → RPollW w G q o sl
  nd1 : (ps.map (·.p)).Nodup
  nd2 : (ps.map (·.fb)).Nodup
  gb : G rb
theorem RSetW.lt {w : World} {G : Nat → Prop} {rb : Nat} {lv : Value} {ps : List PB} {S : SetM} {R : List (List Int)} (h : RSetW w G rb lv ps S R) : rb < w.heap.size := lt_of_obj h.box
theorem RSetW.of_G {w W : World} {G G' : Nat → Prop} {rb : Nat} {lv : Value} {ps : List PB} {S : SetM} {R : List (List Int)} (h : RSetW w G rb lv ps S R) (hk : ∀ n, G n → n < w.heap.size → obj W n = obj w n) (hz : w.heap.size ≤ W.heap.size) (hg : ∀ n, G n → n < w.heap.size → G' n) : RSetW W G' rb lv ps S R := by
  refine ⟨(hk _ h.gb h.lt).trans h.box, ?_, fun b off n cap e h0 => ?_, h.len, h.lenR, fun i q o sl h1 h2 h3 => (h.one i q o sl h1 h2 h3).of_G hk hg, h.nd1, h.nd2, hg _ h.gb h.lt⟩
  · obtain ⟨oa, cap, e, h1, h2, h3⟩ := h.row
    refine ⟨oa, cap, e, h1, h2, fun h0 => ?_⟩
    obtain ⟨b, off, e2, hb, hr⟩ := h3 h0
    subst e2
    exact ⟨b, off, rfl, Nat.lt_of_lt_of_le hb hz, hr.of_obj (hk b (h.rowT b off _ _ e h0).1 hb)⟩
  · obtain ⟨g1, cur, g2⟩ := h.rowT b off n cap e h0
    exact ⟨hg _ g1 (lt_of_obj g2), cur, (hk _ g1 (lt_of_obj g2)).trans g2⟩
theorem RSetW.below {w W : World} {G : Nat → Prop} {rb : Nat} {lv : Value} {ps : List PB} {S : SetM} {R : List (List Int)} (h : RSetW w G rb lv ps S R) (hb : Below w.heap.size w W) : RSetW W G rb lv ps S R :=
  h.of_G (fun _ _ hn => obj_below hb hn) hb.size fun _ hg _ => hg
theorem RSetW.cells {w : World} {G : Nat → Prop} {rb : Nat} {lv : Value} {ps : List PB} {S : SetM} {R : List (List Int)} (h : RSetW w G rb lv ps S R) : w.cell? ⟨rb, 0, none⟩ = some (.int .i64 S.pref) ∧ w.cell? ⟨rb, 1, none⟩ = some (.int .i64 S.conf) ∧ w.cell? ⟨rb, 2, none⟩ = some lv ∧ w.cell? ⟨rb, 3, none⟩ = some (.int .i64 S.last) :=
  ⟨cell_at h.box 0, cell_at h.box 1, cell_at h.box 2, cell_at h.box 3⟩
/-! ### how many slots are left -/
set_option maxRecDepth 100000 in
set_option maxHeartbeats 2000000 in
theorem rleft_any (w : World) (G : Nat → Prop) (q : PB) (o : OneM) (sl : List Int) (h : RPollW w G q o sl) (hr : RelO o sl) (ok : OneOK o) : Calls Try.prog 61 #[.pointer (some ⟨q.p, 0, none⟩)] w fun e w' => e = .returned (.int .i64 o.left) ∧ w' = w := by
  obtain ⟨-, -, c2, -⟩ := h.cells
  have HF := Lib.hid (fun j (hj : j < sl.length) => h.flag hj)
  have HL := Lib.hid (hr.left ok)
  have hfl := h.flt
  have hl64 : sl.length ≤ 64 := by have h1 := hr.len; have h2 := ok.hi; omega
  obtain ⟨f1, f2⟩ := h.fc
  unfold maxLen at f2
  have HT := Lib.hid (fun k (hk : k < sl.length) => show cntB ((flagsO o sl).take (k + 1)) = cntB ((flagsO o sl).take k) + (if keyIn o sl[k] = true then 1 else 0) from by rw [← flagsO_at (o := o) hk]; exact cntB_take (by rw [flagsO_len]; exact hk))
  have HB := Lib.hid (fun k => And.intro (cntB_nn ((flagsO o sl).take k)) (cntB_le ((flagsO o sl).take k)))
  have HFL := Lib.hid (flagsO_len o sl)
  clear h hr ok
  generalize flagsO o sl = fl at *
  go_enter Try.func61, Try.ntmps61
  go_wp2_with fail
  go_loopw [3, 4] (fun v3 v4 wr => ∃ k : Nat, k ≤ sl.length ∧ v4 = .int .i64 k ∧ v3 = .int .i64 (cntB (fl.take k)) ∧ wr = w) (fun _ i _ => sl.length - (intOf i).toNat)
  case atStart => exact ⟨0, Nat.zero_le _, rfl, rfl, rfl⟩
  case round =>
    obtain ⟨k, hk, rfl, rfl, rfl⟩ := hrel
    by_cases hlt : k < sl.length
    · have c := HF.out k hlt
      have ht := HT.out k hlt
      have hb1 := HB.out k
      have hkl : (fl.take k).length ≤ 64 := by simp; omega
      generalize keyIn o sl[k] = bb at *
      have hki : (k : Int) < sl.length := by omega
      have hlo : -9223372036854775808 ≤ cntB (fl.take k) := by omega
      cases bb with
      | true =>
        have hs : cntB (fl.take (k + 1)) = cntB (fl.take k) + 1 := by simpa using ht
        have hw : IntKind.i64.wrap (cntB (fl.take k) + 1) = cntB (fl.take (k + 1)) := by rw [hs]; simp [IntKind.wrap, IntKind.signed, IntKind.bits]; omega
        have HS := Lib.hid hw
        clear ht hs hb1 hlo
        go_wp2_with fail
        go_roundw
        case rel => exact ⟨k + 1, by omega, by go_num, rfl, trivial⟩
        case measure => simp [intOf]; omega
      | false =>
        have hs : cntB (fl.take (k + 1)) = cntB (fl.take k) := by simpa using ht
        have HS := Lib.hid hs
        clear ht hs hb1 hlo
        go_wp2_with fail
        go_roundw
        case rel => exact ⟨k + 1, by omega, by go_num, by rw [HS.out], trivial⟩
        case measure => simp [intOf]; omega
    · obtain rfl : sl.length = k := by omega
      have hE : Hid (cntB (fl.take sl.length) = o.left) := Lib.hid (by rw [← HL.out, List.take_of_length_le (by rw [HFL.out]; exact Nat.le_refl _)])
      have hk2 : ¬ (sl.length : Int) < sl.length := by omega
      go_wp2_with fail
      go_ret
      exact ⟨by rw [← hE.out]; rfl, rfl⟩
end Go.Proofs.Ytfejhekoijemdaa
