import Derived.Test.YtagpclgappcnbaaGreatAlM
namespace Go.Proofs.YtagpclgappcnbaaGreat.Al
open Go.RowKit

/-! ### what a heap is, told by the list of its alarms in order -/
def SortedL (W : List Al) : Prop := W.Pairwise (fun a b => alLt a b = true)
theorem sorted_unique {A B : List Al} (p : A.Perm B) (ha : SortedL A) (hb : SortedL B) : A = B :=
  p.eq_of_pairwise (le := fun a b => alLt a b) (fun a b _ _ h1 h2 => by rw [alLt_iff] at h1 h2; omega) ha hb
def insL (a : Al) : List Al → List Al
  | [] => [a]
  | b :: r => if alLt a b = true then a :: b :: r else b :: insL a r
theorem insL_perm (a : Al) : ∀ W : List Al, (insL a W).Perm (a :: W)
  | [] => List.Perm.refl _
  | b :: r => by
    unfold insL
    split
    · exact List.Perm.refl _
    · exact ((insL_perm a r).cons b).trans (List.Perm.swap a b r)
theorem insL_sorted {a : Al} : ∀ {W : List Al}, SortedL W → a ∉ W → SortedL (insL a W)
  | [], _, _ => List.pairwise_singleton _ _
  | b :: r, h, hn => by
    unfold SortedL at h
    rw [List.pairwise_cons] at h
    obtain ⟨h1, h2⟩ := h
    unfold insL
    split
    · rename_i hab
      refine List.pairwise_cons.2 ⟨fun x hx => ?_, List.pairwise_cons.2 ⟨h1, h2⟩⟩
      rcases List.mem_cons.1 hx with rfl | hx
      · exact hab
      · exact alLt_trans hab (h1 x hx)
    · rename_i hab
      refine List.pairwise_cons.2 ⟨fun x hx => ?_, insL_sorted h2 (fun hx => hn (List.mem_cons_of_mem _ hx))⟩
      rcases List.mem_cons.1 ((insL_perm a r).mem_iff.1 hx) with rfl | hx
      · have hne : b ≠ x := fun e => hn (by rw [e]; exact List.mem_cons_self)
        have hle : alLe b x := by simpa [alLe] using hab
        rw [alLe_iff] at hle
        rw [alLt_iff]
        by_cases e : b.1 = x.1 ∧ b.2 = x.2
        · exact absurd (Prod.ext e.1 e.2) hne
        · omega
      · exact h1 x hx
theorem insL_length (a : Al) (W : List Al) : (insL a W).length = W.length + 1 := (insL_perm a W).length_eq.trans (by simp)
theorem sorted_tail {W : List Al} (h : SortedL W) : SortedL W.tail := by
  cases W with
  | nil => exact h
  | cons a r => exact (List.pairwise_cons.1 h).2
theorem sorted_erase {W : List Al} (h : SortedL W) (a : Al) : SortedL (W.erase a) := h.sublist List.erase_sublist
theorem sorted_nodup {W : List Al} (h : SortedL W) : W.Nodup := by
  refine h.imp fun {a b} hab e => ?_
  subst e
  rw [alLt_irrefl] at hab
  cases hab
theorem at'_mem {L : List Al} {i : Nat} (h : i < L.length) : at' L i ∈ L := by rw [at'_eq h]; exact List.getElem_mem h
theorem head_root {L W : List Al} (h : IsHeap L) (p : L.Perm W) (hs : SortedL W) : at' L 0 = at' W 0 := by
  cases W with
  | nil => have := p.length_eq; simp at this; subst this; rfl
  | cons x r =>
    have hl : 0 < L.length := by rw [p.length_eq]; simp
    have h1 : at' L 0 ∈ x :: r := p.mem_iff.1 (at'_mem hl)
    have h2 : x ∈ L := p.mem_iff.2 List.mem_cons_self
    obtain ⟨j, hj, hx⟩ := List.mem_iff_getElem.1 h2
    have h3 := h.root j hj
    rw [at'_eq hj, hx] at h3
    have e : at' (x :: r) 0 = x := rfl
    rw [e]
    refine alLe_antisymm h3 ?_
    rcases List.mem_cons.1 h1 with e1 | e1
    · rw [e1]; exact alLe_refl _
    · exact alLe_of_lt ((List.pairwise_cons.1 hs).1 _ e1)
theorem erase_head {W : List Al} (h : 0 < W.length) : W.erase (at' W 0) = W.tail := by
  cases W with
  | nil => simp at h
  | cons x r => simp [at']
theorem takeOut_rep {L W : List Al} {i : Nat} (hi : i < L.length) (p : L.Perm W) : (takeOut L i).Perm (W.erase (at' L i)) := by
  have h1 := (takeOut_perm hi).trans p
  have h2 := h1.erase (at' L i)
  simpa using h2
theorem hasK_perm {A B : List Al} (p : A.Perm B) (k : Int) : hasK A k = hasK B k := by
  unfold hasK
  rw [Bool.eq_iff_iff, List.any_eq_true, List.any_eq_true]
  exact ⟨fun ⟨x, h1, h2⟩ => ⟨x, p.mem_iff.1 h1, h2⟩, fun ⟨x, h1, h2⟩ => ⟨x, p.mem_iff.2 h1, h2⟩⟩
theorem pushE_perm {A B : List Al} (p : A.Perm B) (t k : Int) : pushE A t k = pushE B t k := by
  unfold pushE
  rw [hasK_perm p, p.length_eq]
theorem hasK_false {W : List Al} {k : Int} (h : hasK W k = false) : ∀ t, (t, k) ∉ W := by
  intro t hm
  unfold hasK at h
  rw [List.any_eq_false] at h
  exact h _ hm (by simp)
def keysL (W : List Al) : List Int := W.map (·.2)
theorem Spec.keys {L : List Al} {M : List (Int × Int)} (h : Spec L M) : (keysL L).Nodup := by
  unfold keysL List.Nodup
  rw [List.pairwise_iff_getElem]
  intro i j hi hj hij e
  simp only [List.length_map] at hi hj
  rw [List.getElem_map, List.getElem_map, ← at'_eq hi, ← at'_eq hj] at e
  have := h.inj hi hj e
  omega
/-! ### a heap in the world -/
structure Hp (w : World) (F : Nat → Prop) (hb : Nat) (W : List Al) : Prop where
  ex : ∃ m sv L M, RawAt w F hb m sv L M ∧ Spec L M ∧ IsHeap L ∧ L.Perm W
  sorted : SortedL W
  len : W.length ≤ 4096
theorem Hp.keys {w : World} {F : Nat → Prop} {hb : Nat} {W : List Al} (h : Hp w F hb W) : (keysL W).Nodup := by
  obtain ⟨m, sv, L, M, h1, h2, h3, h4⟩ := h.ex
  have := h2.keys
  unfold keysL at *
  exact (List.Perm.nodup_iff (h4.map (fun x : Al => x.2))).1 this
theorem Hp.old {w : World} {F : Nat → Prop} {hb : Nat} {W : List Al} (h : Hp w F hb W) : ∀ n, F n → n < w.heap.size := by
  obtain ⟨m, sv, L, M, h1, _⟩ := h.ex
  exact h1.old
theorem Hp.fb {w : World} {F : Nat → Prop} {hb : Nat} {W : List Al} (h : Hp w F hb W) : F hb := by
  obtain ⟨m, sv, L, M, h1, _⟩ := h.ex
  exact h1.fb
theorem Hp.lt {w : World} {F : Nat → Prop} {hb : Nat} {W : List Al} (h : Hp w F hb W) : hb < w.heap.size := h.old _ h.fb
theorem Hp.of_obj {w w' : World} {F : Nat → Prop} {hb : Nat} {W : List Al} (h : Hp w F hb W) (hz : w.heap.size ≤ w'.heap.size) (hk : ∀ n, n < w.heap.size → F n → obj w' n = obj w n) : Hp w' F hb W := by
  obtain ⟨m, sv, L, M, h1, h2⟩ := h.ex
  exact ⟨⟨m, sv, L, M, h1.of_obj hz hk, h2⟩, h.sorted, h.len⟩
theorem Hp.below {w w' : World} {F : Nat → Prop} {hb : Nat} {W : List Al} (h : Hp w F hb W) (hk : Below w.heap.size w w') : Hp w' F hb W :=
  h.of_obj hk.size fun _ hn _ => obj_below hk hn
theorem Hp.other {w w' : World} {F G : Nat → Prop} {hb : Nat} {W : List Al} (h : Hp w F hb W) (hk : Keeps G w w') (hd : ∀ n, n < w.heap.size → F n → ¬ G n) : Hp w' F hb W :=
  h.of_obj hk.size fun n hn hf => hk.block n hn (hd n hn hf)
theorem Hp.putNew {w : World} {F : Nat → Prop} {hb : Nat} {W : List Al} (h : Hp w F hb W) {m : Nat} (hm : ¬ F m) (o : Obj) : Hp (putObj w m o) F hb W :=
  h.of_obj (by simp) fun n _ hf => obj_putObj_ne _ _ _ _ (fun e => hm (e ▸ hf))
theorem Hp.alloc {w : World} {F : Nat → Prop} {hb : Nat} {W : List Al} (h : Hp w F hb W) (o : Obj) : Hp (w.alloc o) F hb W := h.below ((Below.refl _ w).alloc (Nat.le_refl _) _)
theorem Hp.new {w : World} {F : Nat → Prop} {hb : Nat} {W : List Al} (h : Hp w F hb W) {m : Nat} (hm : w.heap.size ≤ m) : ¬ F m := fun hf => absurd (h.old _ hf) (by omega)
theorem keeps_putNew {F : Nat → Prop} {w w' : World} (h : Keeps F w w') {m : Nat} (hm : w.heap.size ≤ m) (o : Obj) : Keeps F w (putObj w' m o) :=
  ⟨h.os, h.tape, h.output, by rw [size_putObj]; exact h.size, fun k hk hf => by rw [obj_putObj_ne _ _ _ _ (by omega)]; exact h.block k hk hf⟩
def pushW (W : List Al) (t k : Int) : List Al := if pushE W t k = 0 then insL (t, k) W else W
/-- blocks of an act: those that the heap had, or new ones -/
def Grows (w : World) (F F' : Nat → Prop) : Prop := ∀ n, F' n → F n ∨ w.heap.size ≤ n
theorem Grows.refl (w : World) (F : Nat → Prop) : Grows w F F := fun _ h => .inl h
theorem Grows.trans {w w' : World} {F F' F'' : Nat → Prop} (h1 : Grows w F F') (h2 : Grows w' F' F'') (hz : w.heap.size ≤ w'.heap.size) : Grows w F F'' := fun n h => by
  rcases h2 n h with h | h
  · exact h1 n h
  · exact .inr (Nat.le_trans hz h)
theorem pushE_zero {L : List Al} {t k : Int} (h : pushE L t k = 0) : mayB t = true ∧ hasK L k = false ∧ L.length < 4096 := by
  unfold pushE at h
  split at h
  · cases h
  · split at h
    · cases h
    · split at h
      · cases h
      · rename_i h1 h2 h3
        exact ⟨by simpa using h1, by simpa using h2, by omega⟩
theorem push_hp (w : World) (F : Nat → Prop) (hb : Nat) (W : List Al) (t k : Int) (h : Hp w F hb W) :
    Calls Tryz.prog 57 #[.pointer (some ⟨hb, 0, none⟩), .int .i64 t, .int .i64 k] w fun e w' => e = .returned (.int .i64 (pushE W t k)) ∧
      (∃ F', Hp w' F' hb (pushW W t k) ∧ Grows w F F') ∧ Keeps F w w' := by
  obtain ⟨m, sv, L, M, h1, h2, h3, h4⟩ := h.ex
  have hE := pushE_perm h4 t k
  by_cases h0 : pushE L t k = 0
  · refine (push_yes w F hb m sv L M t k h1 h2 h0).mono ?_
    rintro e w' ⟨rfl, ⟨F', sv', M', r1, r2, r3⟩, hk⟩
    rw [← hE, h0]
    refine ⟨rfl, ⟨F', ?_, r3⟩, hk⟩
    obtain ⟨_, e2, e3⟩ := pushE_zero h0
    unfold pushW
    rw [← hE, if_pos h0]
    refine ⟨⟨m, sv', _, M', r1, r2, push_heap h3 _, ?_⟩, insL_sorted h.sorted (hasK_false (by rw [← hasK_perm h4]; exact e2) t), by rw [insL_length, ← h4.length_eq]; omega⟩
    refine (rise_perm (by simp)).trans (((List.perm_append_singleton _ _).trans (h4.cons _)).trans (insL_perm _ _).symm)
  · refine (push_no w F hb m sv L M t k h1 h2 h0).mono ?_
    rintro e w' ⟨rfl, rfl⟩
    rw [← hE]
    refine ⟨rfl, ⟨F, ?_, Grows.refl _ _⟩, Keeps.refl _ _⟩
    unfold pushW
    rw [← hE, if_neg h0]
    exact h
theorem new_hp (w : World) : Calls Tryz.prog 25 #[] w fun e w' => e = .returned (.pointer (some ⟨w.heap.size + 1, 0, none⟩)) ∧
    Hp w' (fun n => n = w.heap.size ∨ n = w.heap.size + 1) (w.heap.size + 1) [] ∧ Below w.heap.size w w' := by
  refine (new_any w).mono ?_
  rintro e w' ⟨rfl, h1, h2⟩
  exact ⟨rfl, ⟨⟨_, _, [], [], h1, Spec.nil, fun j _ hj => by simp at hj, List.Perm.refl _⟩, List.Pairwise.nil, by simp⟩, h2⟩
theorem peek_hp (w : World) (F : Nat → Prop) (hb : Nat) (W : List Al) (h : Hp w F hb W) :
    Calls Tryz.prog 87 #[.pointer (some ⟨hb, 0, none⟩)] w fun e w' => e = .returned (.tuple #[alV (at' W 0), .int .i64 (peekE W)]) ∧ Below w.heap.size w w' := by
  obtain ⟨m, sv, L, M, h1, h2, h3, h4⟩ := h.ex
  refine (peek_any w F hb m sv L M h1).mono ?_
  rintro e w' ⟨rfl, hb⟩
  refine ⟨?_, hb⟩
  rw [head_root h3 h4 h.sorted]
  unfold peekE
  rw [h4.length_eq]
/-- the first is taken out -/
theorem take0_hp (w : World) (F : Nat → Prop) (hb : Nat) (W : List Al) (h : Hp w F hb W) (hl : 0 < W.length) :
    Calls Tryz.prog 103 #[.pointer (some ⟨hb, 0, none⟩), .int .i64 0] w fun e w' => e = .returned (alV (at' W 0)) ∧ Hp w' F hb W.tail ∧ Keeps F w w' := by
  obtain ⟨m, sv, L, M, h1, h2, h3, h4⟩ := h.ex
  have hl' : 0 < L.length := by rw [h4.length_eq]; exact hl
  refine (take_any w F hb m sv L M 0 h1 h2 hl' (by rw [h4.length_eq]; have := h.len; omega)).mono ?_
  rintro e w' ⟨rfl, ⟨sv', M', r1, r2⟩, hk⟩
  have he := head_root h3 h4 h.sorted
  refine ⟨by rw [he], ⟨⟨m, sv', _, M', r1, r2, takeOut_heap hl' h3, ?_⟩, sorted_tail h.sorted, by have := h.len; simp; omega⟩, hk⟩
  have := takeOut_rep hl' h4
  rw [he, erase_head hl] at this
  exact this
end Go.Proofs.YtagpclgappcnbaaGreat.Al
namespace Go.Proofs.YtagpclgappcnbaaGreat.Al
open Go.RowKit

def dueL (now : Int) : List Al → List Al
  | [] => []
  | a :: r => if now < a.1 then [] else a :: dueL now r
def leftL (now : Int) : List Al → List Al
  | [] => []
  | a :: r => if now < a.1 then a :: r else leftL now r
theorem due_left (now : Int) : ∀ W, dueL now W ++ leftL now W = W
  | [] => rfl
  | a :: r => by
    unfold dueL leftL
    split
    · rfl
    · rw [List.cons_append, due_left now r]
def lenOf : Value → Nat
  | .slice _ l _ => l
  | _ => 0
end Go.Proofs.YtagpclgappcnbaaGreat.Al
namespace Go.Proofs.YtagpclgappcnbaaGreat
open Go.RowKit
open Go.Proofs.YtagpclgappcnbaaGreat.Al
theorem OwnS.lenOf {α : Type} {w : World} {base E k : Nat} {enc : α → List Value} {v : Value} {xs : List α} (h : OwnS w base E k enc v xs) : lenOf v = xs.length := by
  rcases h.1.2 with ⟨rfl, h0⟩ | ⟨g, cap, cur, rfl, _⟩
  · exact h0.symm
  · rfl
end Go.Proofs.YtagpclgappcnbaaGreat
namespace Go.Proofs.YtagpclgappcnbaaGreat.Al
open Go.RowKit
end Go.Proofs.YtagpclgappcnbaaGreat.Al
namespace Go.Proofs.YtagpclgappcnbaaGreat
open Go.RowKit
open Go.Proofs.YtagpclgappcnbaaGreat.Al
theorem OwnS.keepsNot {α : Type} {w w' : World} {base E k : Nat} {enc : α → List Value} {v : Value} {xs : List α} {F : Nat → Prop} (h : OwnS w base E k enc v xs) (hk : Keeps F w w') (hn : ∀ n, v.ownBlock = some n → ¬ F n) : OwnS w' base E k enc v xs :=
  h.keeps fun g hg => hk.block g (h.1.lt g hg).2 (hn g hg)
end Go.Proofs.YtagpclgappcnbaaGreat
namespace Go.Proofs.YtagpclgappcnbaaGreat.Al
open Go.RowKit
theorem Hp.belowB {w w' : World} {F : Nat → Prop} {hb B : Nat} {W : List Al} (h : Hp w F hb W) (hF : ∀ n, F n → n < B) (hk : Below B w w') : Hp w' F hb W :=
  h.of_obj hk.size fun _ _ hf => obj_below hk (hF _ hf)
theorem keeps_belowB {w0 w w' : World} {F : Nat → Prop} {B : Nat} (h : Keeps F w0 w) (hB : w0.heap.size ≤ B) (hk : Below B w w') : Keeps F w0 w' :=
  ⟨hk.os.trans h.os, hk.tape.trans h.tape, hk.output.trans h.output, Nat.le_trans h.size hk.size, fun n hn hf => (hk.block n (by omega)).trans (h.block n hn hf)⟩
theorem push32 {ops : Array Oper} {rest : List Oper} {o : Oper} {a : Act} {w : World} {Q : Exit → Act → World → Prop} (hgd : o.guard = none) (s x : Operand) (ho : o.op = .call { callee := .builtin .append, args := #[s, x], argTypes := #[87, 87] })
    (base : Nat) (v : Value) (xs : List Al) (y : Al) (hs : a.eval s = v) (hown : OwnS w base 114 2 alL v xs) (g : Nat) (hx : a.eval x = .slice (some ⟨g, 0, none⟩) 1 1) (hg : obj w g = some (.cells #[.int .i64 y.1, .int .i64 y.2] 114 (0, 0)))
    (hlen : xs.length ≤ 1048576) (hbase : base ≤ w.heap.size)
    (h : ∀ v' w', OwnS w' base 114 2 alL v' (xs ++ [y]) → Below base w w' → (∀ k, k < w.heap.size → v.ownBlock ≠ some k → obj w' k = obj w k) → wpList Tryz.prog ops Q rest (a.put o.dst v') w') : wpList Tryz.prog ops Q (o :: rest) a w := by
  obtain ⟨i0, hi, hz0, hz1, hz2⟩ := info_parts info32
  exact wpList_push (i := i0) (z := .agg #[.int .i64 0, .int .i64 0]) (bytes := 16) Tryz.underlying87 hi hz0 hz1 hz2 (by simp [Value.cells]) (by decide) alL alL_length alL_one hgd s x ho base v xs y hs hown g hx hg hlen (by decide) hbase h
set_option maxRecDepth 100000 in
set_option maxHeartbeats 1000000 in
theorem due_hp (w : World) (F : Nat → Prop) (hb : Nat) (W : List Al) (now : Int) (h : Hp w F hb W) :
    Calls Tryz.prog 59 #[.pointer (some ⟨hb, 0, none⟩), .int .i64 now] w fun e w' => (∃ v, e = .returned v ∧ OwnS w' w.heap.size 114 2 alL v (dueL now W) ∧ ∀ n, v.ownBlock = some n → ¬ F n) ∧ Hp w' F hb (leftL now W) ∧ Keeps F w w' := by
  have HH := Lib.hid h
  have HL := Lib.hid h.len
  have hrow29 := run_row29
  clear h
  go_enter Tryz.func59, Tryz.ntmps59
  go_wp2
  go_loopw [5] (fun v5 wr => ∃ D X, Hid (dueL now W = D ++ dueL now X) ∧ Hid (leftL now W = leftL now X) ∧ Hid (D.length + X.length = W.length) ∧ Hid (Hp wr F hb X) ∧ Hid (OwnS wr w.heap.size 114 2 alL v5 D) ∧ Hid (Keeps F w wr)) (fun v _ => W.length - lenOf v)
  case atStart => exact ⟨[], W, Lib.hid rfl, Lib.hid rfl, Lib.hid (by simp), HH, Lib.hid (OwnS.nil _ _ _ _ _), Lib.hid (Keeps.refl _ _)⟩
  case round =>
    obtain ⟨D, X, HD, HX, HDL, H1, O1, K1⟩ := hrel
    have HP := Lib.hid (peek_hp wr F hb X H1.out)
    have hsz := K1.out.size
    have NF : Hid (∀ n, u5.ownBlock = some n → ¬ F n) := Lib.hid (fun n hn hf => by have h1 := (O1.out.1.lt n hn).1; have h2 := HH.out.old n hf; omega)
    generalize hx : at' X 0 = x at *
    obtain ⟨x1, x2⟩ := x
    have HX0 := Lib.hid hx
    clear hx
    go_wp2_with fail
    refine HP.out.mono ?_
    rintro e w2 ⟨rfl, b2⟩
    have H2 := Lib.hid (H1.out.below b2)
    have O2 := Lib.hid (O1.out.below b2)
    have K2 := Lib.hid (K1.out.trans (Keeps.of_below (F := F) b2))
    have b3 : Below w2.heap.size w2 (w2.alloc (.cells #[.int .i64 x1, .int .i64 x2] 114)) := (Below.refl _ w2).alloc (Nat.le_refl _) _
    have H3 := Lib.hid (H2.out.below b3)
    have O3 := Lib.hid (O2.out.below b3)
    have K3 := Lib.hid (K2.out.trans (Keeps.of_below (F := F) b3))
    by_cases h0 : X.length = 0
    · have HE : Hid (peekE X = 4) := Lib.hid (if_pos h0)
      have hX : X = [] := List.eq_nil_of_length_eq_zero h0
      subst hX
      rw [HE.out]
      go_wp2
      go_ret
      refine ⟨⟨_, rfl, ?_, NF.out⟩, ?_, K3.out⟩
      · rw [HD.out]; simpa [dueL] using O3.out
      · rw [HX.out]; exact H3.out
    · have HE : Hid (peekE X = 0) := Lib.hid (if_neg h0)
      rw [HE.out]
      obtain ⟨r, rfl⟩ : ∃ r, X = (x1, x2) :: r := by
        cases X with
        | nil => simp at h0
        | cons a r => exact ⟨r, by have := HX0.out; unfold at' at this; simpa using this⟩
      by_cases hn : now < x1
      · have HDX : Hid (dueL now ((x1, x2) :: r) = []) := Lib.hid (if_pos hn)
        have HLX : Hid (leftL now ((x1, x2) :: r) = (x1, x2) :: r) := Lib.hid (if_pos hn)
        go_wp2
        go_ret
        refine ⟨⟨_, rfl, ?_, NF.out⟩, ?_, K3.out⟩
        · rw [HD.out, HDX.out]; simpa using O3.out
        · rw [HX.out, HLX.out]; exact H3.out
      · have HDX : Hid (dueL now ((x1, x2) :: r) = (x1, x2) :: dueL now r) := Lib.hid (if_neg hn)
        have HLX : Hid (leftL now ((x1, x2) :: r) = leftL now r) := Lib.hid (if_neg hn)
        have hle : x1 ≤ now := by omega
        have HT := Lib.hid (take0_hp _ F hb _ H3.out (by simp))
        go_wp2_with fail
        generalize w2.alloc (.cells #[.int .i64 x1, .int .i64 x2] 114) = w3 at *
        refine HT.out.mono ?_
        rintro e w4 ⟨rfl, h4, k4⟩
        have H4 := Lib.hid h4
        have O4 := Lib.hid (O3.out.keepsNot k4 NF.out)
        have K4 := Lib.hid (K3.out.trans k4)
        clear h4 k4
        have hlen : D.length ≤ 1048576 := by have := HDL.out; have := HL.out; omega
        have hbase : w.heap.size ≤ (w4.alloc (.cells #[.int .i64 x1, .int .i64 x2] 114)).heap.size := by have := K4.out.size; simp; omega
        have hat : at' ((x1, x2) :: r) 0 = (x1, x2) := rfl
        rw [hat]
        go_wp2_with (at_builtin; refine push32 rfl _ _ rfl w.heap.size _ D (x1, x2) rfl (O4.out.alloc _) w4.heap.size rfl (obj_alloc_at _ _ _ rfl) hlen hbase ?_; intro v' w5 hown5 hb5 _)
        have hF : ∀ n, F n → n < w.heap.size := HH.out.old
        have H5 := (H4.out.alloc (.cells #[.int .i64 x1, .int .i64 x2] 114)).belowB hF hb5
        have K5 := keeps_belowB (K4.out.alloc (.cells #[.int .i64 x1, .int .i64 x2] 114)) (Nat.le_refl _) hb5
        have hl5 := hown5.lenOf
        have hl4 := O1.out.lenOf
        go_roundw
        case rel => exact ⟨D ++ [(x1, x2)], r, Lib.hid (by rw [HD.out, HDX.out]; simp), Lib.hid (by rw [HX.out, HLX.out]), Lib.hid (by rw [← HDL.out]; simp; omega), Lib.hid H5, Lib.hid hown5, Lib.hid K5⟩
        case measure => 
          rw [hl5, hl4, ← HDL.out]; simp; omega
end Go.Proofs.YtagpclgappcnbaaGreat.Al
namespace Go.Proofs.YtagpclgappcnbaaGreat.Al
open Go.RowKit

theorem Spec.place {L : List Al} {M : List (Int × Int)} (h : Spec L M) (k : Int) : (hasK L k = false ∧ aGet k M = none) ∨ ∃ j, j < L.length ∧ (at' L j).2 = k ∧ aGet k M = some (j : Int) ∧ hasK L k = true := by
  have hh := h.has k
  by_cases hk : ∃ j, j < L.length ∧ (at' L j).2 = k
  · obtain ⟨j, hj, e⟩ := hk
    have h1 := h.at_ j hj
    rw [e] at h1
    rw [h1] at hh
    exact .inr ⟨j, hj, e, h1, hh.symm⟩
  · have h1 := h.no k fun j hj e => hk ⟨j, hj, e⟩
    rw [h1] at hh
    exact .inl ⟨hh.symm, h1⟩
/-- a key's alarm -/
def getK (W : List Al) (k : Int) : Al := (W.find? (fun x => x.2 == k)).getD (0, 0)
theorem getK_of_mem {W : List Al} (hn : (keysL W).Nodup) {x : Al} (hx : x ∈ W) : getK W x.2 = x := by
  induction W with
  | nil => cases hx
  | cons a r ih =>
    unfold keysL at hn
    rw [List.map_cons, List.nodup_cons] at hn
    unfold getK
    rw [List.find?_cons]
    rcases List.mem_cons.1 hx with rfl | hx
    · simp
    · have hne : (a.2 == x.2) = false := by
        rw [beq_eq_false_iff_ne]
        intro e
        exact hn.1 (by rw [e]; exact List.mem_map_of_mem hx)
      rw [hne]
      exact ih hn.2 hx
theorem keys_perm {A B : List Al} (p : A.Perm B) (h : (keysL A).Nodup) : (keysL B).Nodup := by
  unfold keysL at *
  exact (List.Perm.nodup_iff (p.map (fun x : Al => x.2))).1 h
theorem getK_perm {A B : List Al} (p : A.Perm B) (h : (keysL A).Nodup) {j : Nat} (hj : j < A.length) : getK B (at' A j).2 = at' A j :=
  getK_of_mem (keys_perm p h) (p.mem_iff.1 (at'_mem hj))
theorem set_perm {a : Al} : ∀ {L : List Al} {i : Nat} (hi : i < L.length), (L[i] :: L.set i a).Perm (a :: L)
  | [], _, h => by simp at h
  | x :: L, 0, _ => List.Perm.swap _ _ _
  | x :: L, i + 1, h => by
    have := set_perm (a := a) (L := L) (i := i) (by simpa using h)
    simp only [List.getElem_cons_succ, List.set_cons_succ]
    exact (List.Perm.swap _ _ _).trans ((this.cons x).trans (List.Perm.swap _ _ _))
theorem Spec.set {L : List Al} {M : List (Int × Int)} (h : Spec L M) {i : Nat} (hi : i < L.length) (t : Int) : Spec (L.set i (t, (at' L i).2)) M := by
  have hat : ∀ j, j < L.length → (at' (L.set i (t, (at' L i).2)) j).2 = (at' L j).2 := fun j hj => by
    unfold at'
    rw [List.getElem?_set]
    by_cases e : i = j
    · subst e; rw [if_pos rfl, if_pos hi]; rfl
    · rw [if_neg e]
  refine ⟨fun j hj => ?_, fun k hk => ?_, h.once⟩
  · rw [List.length_set] at hj
    rw [hat j hj]
    exact h.at_ j hj
  · exact h.no k fun j hj e => hk j (by simpa using hj) (by rw [hat j hj]; exact e)
theorem butHeap_set {L : List Al} (h : IsHeap L) {i : Nat} (hi : i < L.length) (a : Al) : ButHeap (L.set i a) i := by
  have hat : ∀ j, j ≠ i → at' (L.set i a) j = at' L j := fun j hj => by
    unfold at'
    rw [List.getElem?_set_ne (Ne.symm hj)]
  refine ⟨fun j hj hl hne hp => ?_, fun h0 j hj hl hp => ?_⟩
  · rw [hat j hne, hat _ hp]
    exact h j hj (by simpa using hl)
  · rw [hat _ (by omega), hat _ (by omega)]
    have h1 := h i h0 hi
    have h2 := h j hj (by simpa using hl)
    rw [hp] at h2
    exact alLe_trans h1 h2
/-- one cell of the row turns -/
theorem rawAt_setAt {w : World} {F : Nat → Prop} {hb m g cap : Nat} {L : List Al} {M : List (Int × Int)} (h : RawAt w F hb m (.slice (some ⟨g, 0, none⟩) L.length cap) L M) {i : Nat} (hi : i < L.length) (t : Int) :
    RawAt (w.setCell ⟨g, i * 2, none⟩ (.int .i64 t)) F hb m (.slice (some ⟨g, 0, none⟩) L.length cap) (L.set i (t, (at' L i).2)) M := by
  obtain ⟨_, _, e', p1, p2, p3⟩ := row_sub h.row
  simp only [Value.slice.injEq] at e'
  obtain ⟨rfl, _, rfl⟩ := e'
  obtain ⟨g', cur, e2, _, _, hg, hcs, htk⟩ := p3 (by omega)
  simp only [Option.some.injEq, Addr.mk.injEq, and_true] at e2
  subst e2
  have hbox := h.box
  have n1 : hb ≠ g := fun e => by subst e; rw [hbox] at hg; cases hg
  obtain ⟨es, clk, hm, hr⟩ := h.map
  have n2 : m ≠ g := fun e => by subst e; rw [hg] at hm; cases hm
  have hr2 := row_set htk hcs p1 hi (t, (at' L i).2)
  have hs1 := row_get htk hcs p1 hi
  have hspl : spliceA cur (i * 2) #[.int .i64 t, .int .i64 (at' L i).2] = cur.setIfInBounds (i * 2) (.int .i64 t) := by
    apply Array.ext_getElem?
    intro j
    have hk : cur[i * 2 + 1]? = some (.int .i64 (at' L i).2) := by
      have := subOf_cell (w := w) (b := g) (o := i * 2) (n := 2) (by rw [hg]; exact hs1) (j := 1) (by decide)
      rw [cell_at hg] at this
      rw [this, at'_eq hi]
      rfl
    simp only [spliceA, List.getElem?_toArray]
    by_cases h1 : j < i * 2
    · rw [List.append_assoc, List.getElem?_append_left (by simp; omega), List.getElem?_take_of_lt h1, Array.getElem?_toList, Array.getElem?_setIfInBounds_ne (by omega)]
    · by_cases h2 : j = i * 2
      · subst h2
        rw [List.append_assoc, List.getElem?_append_right (by simp; omega)]
        rw [Array.getElem?_setIfInBounds_self_of_lt (by omega)]
        simp
        rw [Nat.min_eq_left (by omega), Nat.sub_self]
        rfl
      · by_cases h3 : j = i * 2 + 1
        · subst h3
          rw [List.append_assoc, List.getElem?_append_right (by simp; omega), Array.getElem?_setIfInBounds_ne (by omega), hk]
          simp
          rw [Nat.min_eq_left (by omega), Nat.add_sub_cancel_left]
          rfl
        · rw [List.append_assoc, List.getElem?_append_right (by simp; omega), List.getElem?_append_right (by simp; omega), List.getElem?_drop, Array.getElem?_setIfInBounds_ne (by omega), Array.getElem?_toList]
          congr 1
          simp
          omega
  rw [hspl] at hr2
  refine ⟨(obj_setCell_ne _ ⟨g, i * 2, none⟩ _ _ n1).trans hbox, ⟨by rw [flatMap_len alL_length], .inr ⟨g, cap, _, by rw [List.length_set], Nat.zero_le _, obj_setCell_at _ hg, by rw [List.length_set]; exact p1, p2, hr2.1, by rw [List.length_set]; exact hr2.2⟩⟩, ⟨es, clk, (obj_setCell_ne _ ⟨g, i * 2, none⟩ _ _ n2).trans hm, hr⟩, h.fb, h.fm, h.fr, fun n hn => by have := h.old n hn; simpa using this⟩
end Go.Proofs.YtagpclgappcnbaaGreat.Al
namespace Go.Proofs.YtagpclgappcnbaaGreat.Al
open Go.RowKit

def dropE (W : List Al) (k : Int) : Int := if hasK W k = true then 0 else 4
def dropW (W : List Al) (k : Int) : List Al := if hasK W k = true then W.erase (getK W k) else W
set_option maxRecDepth 100000 in
set_option maxHeartbeats 1000000 in
theorem drop_hp (w : World) (F : Nat → Prop) (hb : Nat) (W : List Al) (k : Int) (h : Hp w F hb W) :
    Calls Tryz.prog 63 #[.pointer (some ⟨hb, 0, none⟩), .int .i64 k] w fun e w' => e = .returned (.int .i64 (dropE W k)) ∧ Hp w' F hb (dropW W k) ∧ Keeps F w w' := by
  obtain ⟨m, sv, L, M, h1, h2, h3, h4⟩ := h.ex
  have HNO := Lib.hid h1.none
  have c1 : w.cell? ⟨hb, 1, none⟩ = some (.map (some m)) := cell_at h1.box 1
  have hl := run_lookup_int (P := Tryz.prog) (w := w) (m := m) (enc := intV) Tryz.underlying125 Tryz.underlying2 zero3' h1.map k
  have hkp := hasK_perm h4 k
  have hlen := h.len
  have hll := h4.length_eq
  rcases h2.place k with ⟨p1, p2⟩ | ⟨j, hj, p1, p2, p3⟩
  · have HE : Hid (dropE W k = 4) := Lib.hid (by unfold dropE; rw [← hkp, p1]; rfl)
    have HW : Hid (dropW W k = W) := Lib.hid (by unfold dropW; rw [← hkp, p1]; rfl)
    rw [p2] at hl
    have HH := Lib.hid h
    clear h h1 h2 h3 h4 hkp p1 p2
    go_enter Tryz.func63, Tryz.ntmps63
    go_wp2_with fail
    refine HNO.out.mono ?_
    rintro e w1 ⟨rfl, rfl⟩
    go_wp2
    go_ret
    exact ⟨ret_int HE.out.symm, by rw [HW.out]; exact HH.out, Keeps.refl _ _⟩
  · have HE : Hid (dropE W k = 0) := Lib.hid (by unfold dropE; rw [← hkp, p3]; rfl)
    have hnd := h2.keys
    have HW : Hid (dropW W k = W.erase (at' L j)) := Lib.hid (by unfold dropW; rw [← hkp, p3, if_pos rfl, ← p1, getK_perm h4 hnd hj])
    rw [p2] at hl
    have HT := Lib.hid (take_any w F hb m sv L M j h1 h2 hj (by omega))
    have HP := Lib.hid (takeOut_rep hj h4)
    have HHP := Lib.hid (takeOut_heap hj h3)
    have HS := Lib.hid (sorted_erase h.sorted (at' L j))
    have HLN : Hid ((W.erase (at' L j)).length ≤ 4096) := Lib.hid (Nat.le_trans List.length_erase_le hlen)
    simp only [intV] at hl
    clear h h1 h2 h3 h4 hkp p1 p2 p3 hnd
    go_enter Tryz.func63, Tryz.ntmps63
    go_wp2_with fail
    refine HNO.out.mono ?_
    rintro e w1 ⟨rfl, rfl⟩
    go_wp2_with fail
    refine HT.out.mono ?_
    rintro e w2 ⟨rfl, ⟨sv', M', r1, r2⟩, k2⟩
    have R1 := Lib.hid r1
    have R2 := Lib.hid r2
    have K2 := Lib.hid k2
    clear r1 r2 k2
    go_wp2
    go_ret
    exact ⟨ret_int HE.out.symm, by rw [HW.out]; exact ⟨⟨m, sv', _, M', R1.out, R2.out, HHP.out, HP.out⟩, HS.out, HLN.out⟩, K2.out⟩
def atT (W : List Al) (k : Int) : Int := if hasK W k = true then (getK W k).1 else 0
set_option maxRecDepth 100000 in
set_option maxHeartbeats 1000000 in
theorem at_hp (w : World) (F : Nat → Prop) (hb : Nat) (W : List Al) (k : Int) (h : Hp w F hb W) :
    Calls Tryz.prog 85 #[.pointer (some ⟨hb, 0, none⟩), .int .i64 k] w fun e w' => e = .returned (.tuple #[.int .i64 (atT W k), .int .i64 (dropE W k)]) ∧ w = w' := by
  obtain ⟨m, sv, L, M, h1, h2, h3, h4⟩ := h.ex
  have HNO := Lib.hid h1.none
  have c0 : w.cell? ⟨hb, 0, none⟩ = some sv := cell_at h1.box 0
  have c1 : w.cell? ⟨hb, 1, none⟩ = some (.map (some m)) := cell_at h1.box 1
  have hl := run_lookup_int (P := Tryz.prog) (w := w) (m := m) (enc := intV) Tryz.underlying125 Tryz.underlying2 zero3' h1.map k
  have hkp := hasK_perm h4 k
  rcases h2.place k with ⟨p1, p2⟩ | ⟨j, hj, p1, p2, p3⟩
  · have HE : Hid (dropE W k = 4) := Lib.hid (by unfold dropE; rw [← hkp, p1]; rfl)
    have HW : Hid (atT W k = 0) := Lib.hid (by unfold atT; rw [← hkp, p1]; rfl)
    rw [p2] at hl
    clear h h1 h2 h3 h4 hkp p1 p2
    go_enter Tryz.func85, Tryz.ntmps85
    go_wp2_with fail
    refine HNO.out.mono ?_
    rintro e w1 ⟨rfl, rfl⟩
    go_wp2
    go_ret2
    exact ⟨by rw [HE.out, HW.out]; rfl, rfl⟩
  · have HE : Hid (dropE W k = 0) := Lib.hid (by unfold dropE; rw [← hkp, p3]; rfl)
    have hnd := h2.keys
    have HW : Hid (atT W k = (at' L j).1) := Lib.hid (by unfold atT; rw [← hkp, p3, if_pos rfl, ← p1, getK_perm h4 hnd hj])
    rw [p2] at hl
    simp only [intV] at hl
    obtain ⟨oa, cap, rfl, q1, q2, q3⟩ := row_sub h1.row
    obtain ⟨g, cur, rfl, _, _, hg, hcs, htk⟩ := q3 (by omega)
    unfold maxLen at q2
    have s1 := row_get htk hcs q1 hj
    rw [← hg] at s1
    have cj := subOf_cell s1 (j := 0) (by decide)
    rw [at'_eq hj] at HW
    simp only [Nat.add_zero] at cj
    have cj' : w.cell? ⟨g, j * 2, none⟩ = some (.int .i64 (L[j].1)) := cj
    generalize L[j].1 = x1 at *
    clear h h1 h2 h3 h4 hkp p1 p2 p3 hnd q3 hg hcs htk s1 cj
    go_enter Tryz.func85, Tryz.ntmps85
    go_wp2_with fail
    refine HNO.out.mono ?_
    rintro e w1 ⟨rfl, rfl⟩
    go_wp2
    go_ret2
    exact ⟨by rw [HE.out, HW.out]; rfl, rfl⟩
end Go.Proofs.YtagpclgappcnbaaGreat.Al
namespace Go.Proofs.YtagpclgappcnbaaGreat.Al
open Go.RowKit

/-! ### what a heap tells of a key, and a map that keeps it -/
def atO (W : List Al) (k : Int) : Option Int := if hasK W k = true then some (getK W k).1 else none
theorem atO_nil (k : Int) : atO [] k = none := rfl
theorem atO_cons (a : Al) (W : List Al) (k : Int) : atO (a :: W) k = if a.2 = k then some a.1 else atO W k := by
  unfold atO hasK getK
  rw [List.any_cons, List.find?_cons]
  by_cases h : a.2 = k
  · simp [h]
  · have hb : (a.2 == k) = false := by simpa using h
    rw [if_neg h, hb]
    rfl
theorem atO_mem {W : List Al} (hn : (keysL W).Nodup) {k t : Int} : atO W k = some t ↔ (t, k) ∈ W := by
  constructor
  · intro h
    unfold atO at h
    split at h
    · rename_i hk
      unfold hasK at hk
      rw [List.any_eq_true] at hk
      obtain ⟨x, hx, e⟩ := hk
      simp only [beq_iff_eq] at e
      have hg := getK_of_mem hn hx
      rw [e] at hg
      rw [hg] at h
      simp only [Option.some.injEq] at h
      subst h
      rw [← e]
      exact hx
    · cases h
  · intro h
    have hg := getK_of_mem hn h
    have hk : hasK W k = true := by
      unfold hasK
      rw [List.any_eq_true]
      exact ⟨(t, k), h, by simp⟩
    unfold atO
    rw [if_pos hk]
    simp only at hg
    rw [hg]
theorem atO_perm {A B : List Al} (p : A.Perm B) (hn : (keysL A).Nodup) (k : Int) : atO A k = atO B k := by
  cases h : atO B k with
  | none =>
    cases h2 : atO A k with
    | none => rfl
    | some t =>
      have := p.mem_iff.1 ((atO_mem hn).1 h2)
      rw [(atO_mem (keys_perm p hn)).2 this] at h
      cases h
  | some t => exact (atO_mem hn).2 (p.mem_iff.2 ((atO_mem (keys_perm p hn)).1 h))
theorem atO_ins {W : List Al} {t k : Int} (hn : (keysL (insL (t, k) W)).Nodup) (j : Int) : atO (insL (t, k) W) j = if k = j then some t else atO W j := by
  rw [atO_perm (insL_perm (t, k) W) hn, atO_cons]
theorem atO_erase {W : List Al} (hn : (keysL W).Nodup) {x : Al} (hx : x ∈ W) (j : Int) : atO (W.erase x) j = if x.2 = j then none else atO W j := by
  have p := List.perm_cons_erase hx
  have hn2 := keys_perm p hn
  have h1 := atO_perm p hn j
  rw [atO_cons] at h1
  by_cases h : x.2 = j
  · rw [if_pos h]
    cases h2 : atO (W.erase x) j with
    | none => rfl
    | some t =>
      have hn3 : (keysL (W.erase x)).Nodup := by
        unfold keysL at hn2 ⊢
        rw [List.map_cons, List.nodup_cons] at hn2
        exact hn2.2
      have hm := (atO_mem hn3).1 h2
      unfold keysL at hn2
      rw [List.map_cons, List.nodup_cons] at hn2
      exact absurd (by rw [h]; exact List.mem_map_of_mem (f := fun x : Al => x.2) hm) hn2.1
  · rw [if_neg h] at h1 ⊢
    exact h1.symm
structure Want (W : List Al) (M : List (Int × Int)) : Prop where
  get : ∀ k, aGet k M = atO W k
  once : KeysOnce M
theorem aGet_mem {M : List (Int × Int)} {k : Int} : (aGet k M).isSome = true ↔ k ∈ M.map (·.1) := by
  induction M with
  | nil => simp [aGet]
  | cons x r ih =>
    obtain ⟨i, u⟩ := x
    unfold aGet
    by_cases h : k = i
    · subst h; simp
    · rw [if_neg h, ih]
      simp [h]
theorem atO_some {W : List Al} {k : Int} : (atO W k).isSome = true ↔ k ∈ keysL W := by
  unfold atO
  cases h : hasK W k with
  | true =>
    simp
    unfold hasK at h
    rw [List.any_eq_true] at h
    obtain ⟨x, hx, e⟩ := h
    simp only [beq_iff_eq] at e
    unfold keysL
    rw [← e]
    exact List.mem_map_of_mem hx
  | false =>
    simp
    intro hm
    unfold keysL at hm
    obtain ⟨x, hx, e⟩ := List.mem_map.1 hm
    unfold hasK at h
    rw [List.any_eq_false] at h
    exact h x hx (by simpa using e)
theorem Want.len {W : List Al} {M : List (Int × Int)} (h : Want W M) (hn : (keysL W).Nodup) : M.length = W.length := by
  have p : (M.map (·.1)).Perm (keysL W) := by
    refine (List.perm_ext_iff_of_nodup h.once hn).2 fun k => ?_
    rw [← aGet_mem, ← atO_some, h.get]
  have := p.length_eq
  simpa [keysL] using this
theorem Want.nil : Want [] [] := ⟨fun _ => rfl, List.nodup_nil⟩
theorem Want.put {W W' : List Al} {M : List (Int × Int)} (h : Want W M) {t k : Int} (hW : ∀ j, atO W' j = if k = j then some t else atO W j) : Want W' (aPut k t M) := by
  refine ⟨fun j => ?_, h.once.put _ _⟩
  rw [aGet_aPut', hW, h.get]
  by_cases e : j = k
  · rw [if_pos e, if_pos e.symm]
  · rw [if_neg e, if_neg (fun h => e h.symm)]
theorem Want.del {W W' : List Al} {M : List (Int × Int)} (h : Want W M) {k : Int} (hW : ∀ j, atO W' j = if k = j then none else atO W j) : Want W' (aDel k M) := by
  refine ⟨fun j => ?_, h.once.del _⟩
  rw [aGet_aDel _ _ h.once, hW, h.get]
  by_cases e : j = k
  · rw [if_pos e, if_pos e.symm]
  · rw [if_neg e, if_neg (fun h => e h.symm)]
theorem Want.push {W : List Al} {M : List (Int × Int)} (h : Want W M) {t k : Int} (hn : (keysL (pushW W t k)).Nodup) (he : pushE W t k = 0) : aGet k M = none ∧ Want (pushW W t k) (aPut k t M) := by
  have h0 := (pushE_zero he).2.1
  refine ⟨by rw [h.get]; unfold atO; rw [h0]; rfl, h.put fun j => ?_⟩
  unfold pushW at hn ⊢
  rw [if_pos he] at hn ⊢
  exact atO_ins hn j
theorem getK_mem {W : List Al} {k : Int} (h : hasK W k = true) : getK W k ∈ W ∧ (getK W k).2 = k := by
  unfold hasK at h
  unfold getK
  cases hf : W.find? (fun x => x.2 == k) with
  | none =>
    rw [List.find?_eq_none] at hf
    rw [List.any_eq_true] at h
    obtain ⟨x, hx, e⟩ := h
    exact absurd e (hf x hx)
  | some x =>
    exact ⟨List.mem_of_find?_eq_some hf, by simpa using List.find?_some hf⟩
theorem Want.drop {W : List Al} {M : List (Int × Int)} (h : Want W M) (hn : (keysL W).Nodup) (k : Int) : Want (dropW W k) (aDel k M) := by
  refine h.del fun j => ?_
  unfold dropW
  split
  · rename_i hk
    obtain ⟨h1, h2⟩ := getK_mem hk
    rw [atO_erase hn h1, h2]
  · rename_i hk
    by_cases e : k = j
    · subst e
      rw [if_pos rfl]
      unfold atO
      rw [if_neg hk]
    · rw [if_neg e]
theorem pushW_no {W : List Al} {t k : Int} (he : pushE W t k ≠ 0) : pushW W t k = W := if_neg he
theorem Want.pop {a : Al} {W : List Al} {M : List (Int × Int)} (h : Want (a :: W) M) (hn : (keysL (a :: W)).Nodup) : aGet a.2 M = some a.1 ∧ Want W (aDel a.2 M) := by
  refine ⟨by rw [h.get, atO_cons, if_pos rfl], h.del fun j => ?_⟩
  have := atO_erase hn (x := a) List.mem_cons_self j
  rwa [List.erase_cons_head] at this
theorem Want.at_ {W : List Al} {M : List (Int × Int)} (h : Want W M) (hn : (keysL W).Nodup) {x : Al} (hx : x ∈ W) : aGet x.2 M = some x.1 ∧ atT W x.2 = x.1 ∧ dropE W x.2 = 0 := by
  have h1 := (atO_mem hn (k := x.2) (t := x.1)).2 hx
  refine ⟨by rw [h.get]; exact h1, ?_⟩
  unfold atO at h1
  unfold atT dropE
  split at h1
  · rename_i hk
    rw [if_pos hk, if_pos hk]
    exact ⟨Option.some.inj h1, rfl⟩
  · cases h1
theorem Want.has {W : List Al} {M : List (Int × Int)} (h : Want W M) (k : Int) : (aGet k M).isSome = hasK W k := by
  rw [h.get]
  unfold atO
  cases hasK W k <;> simp
end Go.Proofs.YtagpclgappcnbaaGreat.Al
