import Derived.Test.YtggpmepiggnnnaaPop
namespace Go.Proofs.Ytggpmepiggnnnaa
open Go.RowKit

def dueL (now : Int) : List Al → List Al
  | [] => []
  | a :: r => if now < a.1 then [] else a :: dueL now r
def leftL (now : Int) : List Al → List Al
  | [] => []
  | a :: r => if now < a.1 then a :: r else leftL now r
theorem due_left (now : Int) : ∀ W, dueL now W ++ leftL now W = W
  | [] => rfl
  | a :: r => by
    unfold dueL leftL
    split
    · rfl
    · rw [List.cons_append, due_left now r]
def lenOf : Value → Nat
  | .slice _ l _ => l
  | _ => 0
theorem OwnS.lenOf {α : Type} {w : World} {base E k : Nat} {enc : α → List Value} {v : Value} {xs : List α} (h : OwnS w base E k enc v xs) : lenOf v = xs.length := by
  rcases h.1.2 with ⟨rfl, h0⟩ | ⟨g, cap, cur, rfl, _⟩
  · exact h0.symm
  · rfl
theorem OwnS.keepsNot {α : Type} {w w' : World} {base E k : Nat} {enc : α → List Value} {v : Value} {xs : List α} {F : Nat → Prop} (h : OwnS w base E k enc v xs) (hk : Keeps F w w') (hn : ∀ n, v.ownBlock = some n → ¬ F n) : OwnS w' base E k enc v xs :=
  h.keeps fun g hg => hk.block g (h.1.lt g hg).2 (hn g hg)
theorem Hp.belowB {w w' : World} {F : Nat → Prop} {hb B : Nat} {W : List Al} (h : Hp w F hb W) (hF : ∀ n, F n → n < B) (hk : Below B w w') : Hp w' F hb W :=
  h.of_obj hk.size fun _ _ hf => obj_below hk (hF _ hf)
theorem keeps_belowB {w0 w w' : World} {F : Nat → Prop} {B : Nat} (h : Keeps F w0 w) (hB : w0.heap.size ≤ B) (hk : Below B w w') : Keeps F w0 w' :=
  ⟨hk.os.trans h.os, hk.tape.trans h.tape, hk.output.trans h.output, Nat.le_trans h.size hk.size, fun n hn hf => (hk.block n (by omega)).trans (h.block n hn hf)⟩
theorem push32 {ops : Array Oper} {rest : List Oper} {o : Oper} {a : Act} {w : World} {Q : Exit → Act → World → Prop} (hgd : o.guard = none) (s x : Operand) (ho : o.op = .call { callee := .builtin .append, args := #[s, x], argTypes := #[29, 29] })
    (base : Nat) (v : Value) (xs : List Al) (y : Al) (hs : a.eval s = v) (hown : OwnS w base 32 2 alL v xs) (g : Nat) (hx : a.eval x = .slice (some ⟨g, 0, none⟩) 1 1) (hg : obj w g = some (.cells #[.int .i64 y.1, .int .i64 y.2] 32 (0, 0)))
    (hlen : xs.length ≤ 1048576) (hbase : base ≤ w.heap.size)
    (h : ∀ v' w', OwnS w' base 32 2 alL v' (xs ++ [y]) → Below base w w' → (∀ k, k < w.heap.size → v.ownBlock ≠ some k → obj w' k = obj w k) → wpList Try.prog ops Q rest (a.put o.dst v') w') : wpList Try.prog ops Q (o :: rest) a w := by
  obtain ⟨i0, hi, hz0, hz1, hz2⟩ := info_parts info32
  exact wpList_push (i := i0) (z := .agg #[.int .i64 0, .int .i64 0]) (bytes := 16) Try.underlying29 hi hz0 hz1 hz2 (by simp [Value.cells]) (by decide) alL alL_length alL_one hgd s x ho base v xs y hs hown g hx hg hlen (by decide) hbase h
set_option maxRecDepth 100000 in
set_option maxHeartbeats 1000000 in
theorem due_hp (w : World) (F : Nat → Prop) (hb : Nat) (W : List Al) (now : Int) (h : Hp w F hb W) :
    Calls Try.prog 19 #[.pointer (some ⟨hb, 0, none⟩), .int .i64 now] w fun e w' => (∃ v, e = .returned v ∧ OwnS w' w.heap.size 32 2 alL v (dueL now W) ∧ ∀ n, v.ownBlock = some n → ¬ F n) ∧ Hp w' F hb (leftL now W) ∧ Keeps F w w' := by
  have HH := Lib.hid h
  have HL := Lib.hid h.len
  have hrow29 := run_row29
  clear h
  go_enter Try.func19, Try.ntmps19
  go_wp2
  go_loopw [5] (fun v5 wr => ∃ D X, Hid (dueL now W = D ++ dueL now X) ∧ Hid (leftL now W = leftL now X) ∧ Hid (D.length + X.length = W.length) ∧ Hid (Hp wr F hb X) ∧ Hid (OwnS wr w.heap.size 32 2 alL v5 D) ∧ Hid (Keeps F w wr)) (fun v _ => W.length - lenOf v)
  case atStart => exact ⟨[], W, Lib.hid rfl, Lib.hid rfl, Lib.hid (by simp), HH, Lib.hid (OwnS.nil _ _ _ _ _), Lib.hid (Keeps.refl _ _)⟩
  case round =>
    obtain ⟨D, X, HD, HX, HDL, H1, O1, K1⟩ := hrel
    have HP := Lib.hid (peek_hp wr F hb X H1.out)
    have hsz := K1.out.size
    have NF : Hid (∀ n, u5.ownBlock = some n → ¬ F n) := Lib.hid (fun n hn hf => by have h1 := (O1.out.1.lt n hn).1; have h2 := HH.out.old n hf; omega)
    generalize hx : at' X 0 = x at *
    obtain ⟨x1, x2⟩ := x
    have HX0 := Lib.hid hx
    clear hx
    go_wp2_with fail
    refine HP.out.mono ?_
    rintro e w2 ⟨rfl, b2⟩
    have H2 := Lib.hid (H1.out.below b2)
    have O2 := Lib.hid (O1.out.below b2)
    have K2 := Lib.hid (K1.out.trans (Keeps.of_below (F := F) b2))
    have b3 : Below w2.heap.size w2 (w2.alloc (.cells #[.int .i64 x1, .int .i64 x2] 32)) := (Below.refl _ w2).alloc (Nat.le_refl _) _
    have H3 := Lib.hid (H2.out.below b3)
    have O3 := Lib.hid (O2.out.below b3)
    have K3 := Lib.hid (K2.out.trans (Keeps.of_below (F := F) b3))
    by_cases h0 : X.length = 0
    · have HE : Hid (peekE X = 4) := Lib.hid (if_pos h0)
      have hX : X = [] := List.eq_nil_of_length_eq_zero h0
      subst hX
      rw [HE.out]
      go_wp2
      go_ret
      refine ⟨⟨_, rfl, ?_, NF.out⟩, ?_, K3.out⟩
      · rw [HD.out]; simpa [dueL] using O3.out
      · rw [HX.out]; exact H3.out
    · have HE : Hid (peekE X = 0) := Lib.hid (if_neg h0)
      rw [HE.out]
      obtain ⟨r, rfl⟩ : ∃ r, X = (x1, x2) :: r := by
        cases X with
        | nil => simp at h0
        | cons a r => exact ⟨r, by have := HX0.out; unfold at' at this; simpa using this⟩
      by_cases hn : now < x1
      · have HDX : Hid (dueL now ((x1, x2) :: r) = []) := Lib.hid (if_pos hn)
        have HLX : Hid (leftL now ((x1, x2) :: r) = (x1, x2) :: r) := Lib.hid (if_pos hn)
        go_wp2
        go_ret
        refine ⟨⟨_, rfl, ?_, NF.out⟩, ?_, K3.out⟩
        · rw [HD.out, HDX.out]; simpa using O3.out
        · rw [HX.out, HLX.out]; exact H3.out
      · have HDX : Hid (dueL now ((x1, x2) :: r) = (x1, x2) :: dueL now r) := Lib.hid (if_neg hn)
        have HLX : Hid (leftL now ((x1, x2) :: r) = leftL now r) := Lib.hid (if_neg hn)
        have hle : x1 ≤ now := by omega
        have HT := Lib.hid (take0_hp _ F hb _ H3.out (by simp))
        go_wp2_with fail
        generalize w2.alloc (.cells #[.int .i64 x1, .int .i64 x2] 32) = w3 at *
        refine HT.out.mono ?_
        rintro e w4 ⟨rfl, h4, k4⟩
        have H4 := Lib.hid h4
        have O4 := Lib.hid (O3.out.keepsNot k4 NF.out)
        have K4 := Lib.hid (K3.out.trans k4)
        clear h4 k4
        have hlen : D.length ≤ 1048576 := by have := HDL.out; have := HL.out; omega
        have hbase : w.heap.size ≤ (w4.alloc (.cells #[.int .i64 x1, .int .i64 x2] 32)).heap.size := by have := K4.out.size; simp; omega
        have hat : at' ((x1, x2) :: r) 0 = (x1, x2) := rfl
        rw [hat]
        go_wp2_with (at_builtin; refine push32 rfl _ _ rfl w.heap.size _ D (x1, x2) rfl (O4.out.alloc _) w4.heap.size rfl (obj_alloc_at _ _ _ rfl) hlen hbase ?_; intro v' w5 hown5 hb5 _)
        have hF : ∀ n, F n → n < w.heap.size := HH.out.old
        have H5 := (H4.out.alloc (.cells #[.int .i64 x1, .int .i64 x2] 32)).belowB hF hb5
        have K5 := keeps_belowB (K4.out.alloc (.cells #[.int .i64 x1, .int .i64 x2] 32)) (Nat.le_refl _) hb5
        have hl5 := hown5.lenOf
        have hl4 := O1.out.lenOf
        go_roundw
        case rel => exact ⟨D ++ [(x1, x2)], r, Lib.hid (by rw [HD.out, HDX.out]; simp), Lib.hid (by rw [HX.out, HLX.out]), Lib.hid (by rw [← HDL.out]; simp; omega), Lib.hid H5, Lib.hid hown5, Lib.hid K5⟩
        case measure => 
          rw [hl5, hl4, ← HDL.out]; simp; omega
end Go.Proofs.Ytggpmepiggnnnaa
