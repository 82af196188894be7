import Derived.Test.YtagpclgappcnbaaBeMay
namespace Go.Proofs.Ytagpclgappcnbaa.Be
open Go.RowKit Go.Shelf

/-! ### those that are benched -/
@[reducible] def iL (n : Int) : List Value := [.int .i64 n]
theorem iL_length (n : Int) : (iL n).length = 1 := rfl
theorem iL_one (n : Int) : allOne (iL n).toArray = true := rfl
theorem info3 : (Try.prog.info? 3).map (fun i => (i.zero, i.size, i.bytes)) = some (some (.int .i64 0), 1, 8) := by kernel_rfl
def blF (now : Int) : List St → Nat → List Int
  | [], _ => []
  | x :: r, i => if 0 ≤ now ∧ now < x.u then (i : Int) :: blF now r (i + 1) else blF now r (i + 1)
def blL (s : List St) (now : Int) : List Int := blF now s 0
theorem blF_cons (now : Int) (x : St) (r : List St) (i : Nat) : blF now (x :: r) i = if 0 ≤ now ∧ now < x.u then (i : Int) :: blF now r (i + 1) else blF now r (i + 1) := rfl
theorem isB_at (s : List St) (k : Nat) (hk : k < s.length) (now : Int) : isB s (k : Int) now = decide (0 ≤ now ∧ now < s[k].u) := by
  have hg : s.getD k ⟨0, 0, 0⟩ = s[k] := by simp [List.getD, hk]
  unfold isB
  simp only [Int.toNat_natCast, hg]
  simp [hk]
theorem blF_len (now : Int) : ∀ (r : List St) (i : Nat), (blF now r i).length ≤ r.length := by
  intro r
  induction r with
  | nil => intro i; exact Nat.le_refl _
  | cons x r ih => intro i; rw [blF_cons]; have := ih (i + 1); split <;> simp <;> omega
theorem hide_row45 (n : Int) (w : World) : (Instr.buildSlice 36 1 #[(0, .int .i64 n)]).run Try.prog w = .ok (.slice (some ⟨w.heap.size, 0, none⟩) 1 1) (w.alloc (.cells #[.int .i64 n] 3)) := by kernel_rfl
theorem push45 {ops : Array Oper} {rest : List Oper} {o : Oper} {a : Act} {w : World} {Q : Exit → Act → World → Prop} (hgd : o.guard = none) (s x : Operand) (ho : o.op = .call { callee := .builtin .append, args := #[s, x], argTypes := #[36, 36] })
    (base : Nat) (v : Value) (xs : List Int) (y : Int) (hs : a.eval s = v) (hown : OwnS w base 3 1 iL v xs) (g : Nat) (hx : a.eval x = .slice (some ⟨g, 0, none⟩) 1 1) (hg : obj w g = some (.cells #[.int .i64 y] 3 (0, 0)))
    (hlen : xs.length ≤ 1048576) (hbase : base ≤ w.heap.size)
    (h : ∀ v' w', OwnS w' base 3 1 iL v' (xs ++ [y]) → Below base w w' → (∀ k, k < w.heap.size → v.ownBlock ≠ some k → obj w' k = obj w k) → wpList Try.prog ops Q rest (a.put o.dst v') w') : wpList Try.prog ops Q (o :: rest) a w := by
  obtain ⟨i0, hi, hz0, hz1, hz2⟩ := info_parts info3
  exact wpList_push (i := i0) (z := .int .i64 0) (bytes := 8) Try.underlying36 hi hz0 hz1 hz2 (by simp [Value.cells]) (by decide) iL iL_length iL_one hgd s x ho base v xs y hs hown g hx hg hlen (by decide) hbase h
/-- a slice in a box behind an append -/
theorem box_push {α : Type} {W W3 : World} {T E k base bx : Nat} {enc : α → List Value} {xs ys : List α} {sv v' : Value} {o : Obj} (hTE : T ≠ E) (h1 : obj W bx = some (.cells #[sv] T (0, 0))) (h2 : OwnS W base E k enc sv xs)
    (h3 : OwnS W3 base E k enc v' ys) (hg : ∀ k, k < (W.alloc o).heap.size → sv.ownBlock ≠ some k → obj W3 k = obj (W.alloc o) k) :
    obj W3 bx = some (.cells #[sv] T (0, 0)) ∧ obj (W3.setCell ⟨bx, 0, none⟩ v') bx = some (.cells #[v'] T (0, 0)) ∧ OwnS (W3.setCell ⟨bx, 0, none⟩ v') base E k enc v' ys := by
  have hlt := lt_of_obj h1
  have hne : sv.ownBlock ≠ some bx := h2.ne h1 (fun cur e => by cases e; exact hTE rfl)
  have o3 : obj W3 bx = some (.cells #[sv] T (0, 0)) := (hg bx (by simp; omega) hne).trans ((obj_alloc_past _ _ _ hlt).trans h1)
  have hne3 : v'.ownBlock ≠ some bx := h3.ne o3 (fun cur e => by cases e; exact hTE rfl)
  exact ⟨o3, obj_setCell_at v' o3, h3.keeps fun g hg' => obj_setCell_ne _ ⟨bx, 0, none⟩ _ _ (fun e => hne3 (by rw [hg', e]))⟩
set_option maxRecDepth 100000 in
set_option maxHeartbeats 1000000 in
theorem all_any (w : World) (v : Value) (s : List St) (now : Int) (h : SlIn w v 3 stL s) (hlen : s.length ≤ 4096) :
    Calls Try.prog 92 #[v, .int .i64 now] w fun e w' => ∃ lb sv, e = .returned (.func (.func 98) #[] #[.pointer (some ⟨lb, 0, none⟩)]) ∧ obj w' lb = some (.cells #[sv] 36 (0, 0)) ∧ w.heap.size ≤ lb ∧ OwnS w' w.heap.size 3 1 iL sv (blL s now) ∧ Below w.heap.size w w' := by
  have hmf : ∀ (fn : Fn) (first cap : Array Value) (w : World), (Instr.makeFunc fn first cap).run Try.prog w = .ok (.func fn first cap) w := fun _ _ _ _ => rfl
  have hrow := hide_row45
  have b1 : Below w.heap.size w (w.alloc (.cells #[.slice none 0 0] 36)) := (Below.refl _ w).alloc (Nat.le_refl _) _
  have o1 : obj (w.alloc (.cells #[.slice none 0 0] 36)) w.heap.size = some (.cells #[.slice none 0 0] 36 (0, 0)) := obj_alloc_at _ _ _ rfl
  have HS := Lib.hid h
  obtain ⟨oa, cap, rfl, g1, g2, g3⟩ := h
  unfold maxLen at g2
  have HI : Hid (Below w.heap.size w (w.alloc (.cells #[.slice none 0 0] 36)) ∧ obj (w.alloc (.cells #[.slice none 0 0] 36)) w.heap.size = some (.cells #[.slice none 0 0] 36 (0, 0))) := Lib.hid ⟨b1, o1⟩
  clear g3 b1 o1
  go_enter Try.func92, Try.ntmps92
  go_wp2
  go_loopw [9] (fun v9 wr => ∃ (k : Nat) (sv : Value) (D : List Int), k ≤ s.length ∧ v9 = .int .i64 k ∧ D.length ≤ k ∧ Hid (Below w.heap.size w wr) ∧ Hid (obj wr w.heap.size = some (.cells #[sv] 36 (0, 0))) ∧ Hid (OwnS wr w.heap.size 3 1 iL sv D) ∧ Hid (D ++ blF now (s.drop k) k = blL s now)) (fun i _ => s.length - (intOf i).toNat)
  case atStart => exact ⟨0, _, [], Nat.zero_le _, rfl, Nat.le_refl _, Lib.hid HI.out.1, Lib.hid HI.out.2, Lib.hid (OwnS.nil _ _ _ _ _), Lib.hid rfl⟩
  case round =>
    obtain ⟨k, sv, D, hk, rfl, hD, HB, HX, HO, HF⟩ := hrel
    clear HI
    by_cases hlt : k < s.length
    · have HQ := Lib.hid (is_any wr _ s (k : Int) now (HS.out.below HB.out))
      have hF := HF.out
      rw [List.drop_eq_getElem_cons hlt, blF_cons] at hF
      rw [isB_at s k hlt] at HQ
      generalize s[k] = x at *
      by_cases hc : 0 ≤ now ∧ now < x.u
      · rw [if_pos hc] at hF
        rw [decide_eq_true hc] at HQ
        have HG := Lib.hid hF
        clear hF HF hc
        go_wp2_with fail
        refine HQ.out.mono ?_
        rintro e w2 ⟨rfl, rfl⟩
        have hx := HX.out
        have hlb := lt_of_obj hx
        have c0 : wr.cell? ⟨w.heap.size, 0, none⟩ = some sv := cell_at hx 0
        clear hx
        go_wp2_with (at_builtin; refine push45 rfl _ _ rfl w.heap.size sv D (k : Int) rfl (HO.out.alloc _) wr.heap.size rfl (obj_alloc_at _ _ _ rfl) (by omega) (by have := HB.out.size; simp; omega) ?_; intro v' W3 q1 q2 q3; obtain ⟨oa2, cap2, e2⟩ := q1.slice; rw [List.length_append, List.length_singleton] at e2; subst e2; obtain ⟨r1, r2, r3⟩ := box_push (by decide) HX.out HO.out q1 q3; have hl3 := lt_of_obj r1; have hd1 := cell_at r1 0; have hf1 := frozen_at r1; have R2 := Lib.hid r2; have R3 := Lib.hid r3; have Q2 := Lib.hid ((HB.out.alloc HB.out.size (.cells #[.int .i64 (k : Int)] 3)).trans q2); clear r1 r2 r3 q1 q2 q3)
        go_roundw
        case rel => exact ⟨k + 1, _, D ++ [(k : Int)], by omega, by go_num, by simp; omega, Lib.hid (Q2.out.setCell (Nat.le_refl _) _), R2, R3, Lib.hid (by rw [List.append_assoc]; exact HG.out)⟩
        case measure => simp [intOf]; omega
      · rw [if_neg hc] at hF
        rw [decide_eq_false hc] at HQ
        have HG := Lib.hid hF
        clear hF HF hc
        go_wp2_with fail
        refine HQ.out.mono ?_
        rintro e w2 ⟨rfl, rfl⟩
        go_wp2
        go_roundw
        case rel => exact ⟨k + 1, sv, D, by omega, by go_num, by omega, HB, HX, HO, HG⟩
        case measure => simp [intOf]; omega
    · have hF := HF.out
      rw [List.drop_eq_nil_of_le (by omega)] at hF
      have HG : Hid (D = blL s now) := Lib.hid (by rw [← hF]; simp [blF])
      clear hF HF
      go_wp2
      go_ret
      exact ⟨_, sv, rfl, HX.out, Nat.le_refl _, HG.out ▸ HO.out, HB.out⟩
end Go.Proofs.Ytagpclgappcnbaa.Be
