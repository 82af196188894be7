import Derived.Test.YtagpclgappcnbaaGreatRbE
import Derived.Test.YtagpclgappcnbaaGreatBkU
import Derived.Maps.AppendAt
import Derived.Test.YtagpclgappcnbaaGreatBeFailR
namespace Go.Proofs.YtagpclgappcnbaaGreat
open Go.RowKit

/-! ### Tick: its plain part -/
theorem get_del_ne {ν : Type} {k j : Int} (hj : j ≠ k) : ∀ (L : List (Int × ν)), aGet j (aDel k L) = aGet j L
  | [] => rfl
  | (i, u) :: r => by
    unfold aDel
    by_cases e : k = i
    · subst e
      rw [if_pos rfl]
      show aGet j r = aGet j ((k, u) :: r)
      rw [aGet, if_neg hj]
    · rw [if_neg e]
      unfold aGet
      rw [get_del_ne hj r]
theorem tick_step {M : PM} {x : Al.Al} {r : List Al.Al} (h : PInvW M (x :: r)) : (tookO { M with A := Ak.expS M.A x.2 } (Ak.expA M.A x.2).id).2 = 0 := by
  have hk : Al.hasK (x :: r) x.2 = true := by unfold Al.hasK; rw [List.any_cons]; simp
  have hs : (aGet x.2 M.A.L).isSome = true := by rw [h.keys]; exact hk
  have h8 := h.pos
  have hS : Ak.expS M.A x.2 = { M.A with L := aDel x.2 M.A.L, exp := M.A.exp + 1 } := by unfold Ak.expS; rw [if_pos hs]
  have h2 : PInvW { M with A := Ak.expS M.A x.2 } r := by
    rw [hS]
    exact h.gone hs (List.sublist_cons_self _ _) (hasK_tail h.wk) (by omega) ⟨h8.1, by omega⟩
  exact (h2.took (Ak.expA M.A x.2).id).1
theorem rise_exp {S : Ak.BookD} (h : Ak.RiseL S.L) (id : Int) : Ak.RiseL (Ak.expS S id).L := by
  unfold Ak.expS
  split
  · exact Ak.RiseL.sub h (del_sublist id S.L)
  · exact h
theorem rk_of {M : PM} {W : List Al.Al} (h : PInvW M W) (hr : Ak.RiseL M.A.L) : Ak.RK M.A :=
  ⟨hr, fun x hx => (h.node x hx).2.2.2, by have := h.room; have := h.len; omega⟩
/-- Failed, of any seat -/
theorem rfail_all (w : World) (r : Be.Rul) (v1 v2 : Value) (l : List Be.Vd) (s : List Be.St) (i : Nat) (now : Int) (h : SlIn w v1 2 Be.vdL l) (h2 : SlIn w v2 3 Be.stL s) (hN : ∀ x ∈ l, x.name.size ≤ 300) (hm : Be.mayE r l s = 0) (hi : i < s.length) (hn0 : 0 ≤ now) (hn1 : now ≤ 4611686018427387903) (hde : r.de < 9223372036854775808) :
    Calls Tryz.prog 82 #[Be.ruV r, v1, v2, .int .i64 i, .int .i64 now] w fun e w' => ∃ (v : Value) (bb : Bool), e = .returned (.tuple #[v, .bool bb, .int .i64 0]) ∧ OwnS w' w.heap.size 138 3 Be.stL v (Be.stepF r l s i now) ∧ Below w.heap.size w w' := by
  cases hb : Be.isB s (i : Int) now with
  | true =>
    refine (Be.failedR_is w r v1 v2 l s i now h h2 hN hm hi hn0 hn1 hb).mono ?_
    rintro e w' ⟨v, rfl, h3, h4⟩
    exact ⟨v, false, rfl, by unfold Be.stepF; rw [if_pos hb]; exact h3, h4⟩
  | false =>
    refine (Be.failedR_any w r v1 v2 l s i now h h2 hN hm hi hn0 hn1 hb hde).mono ?_
    rintro e w' ⟨v, rfl, h3, h4⟩
    have hg : s.getD i ⟨0, 0, 0⟩ = s[i] := by simp [List.getElem?_eq_getElem hi]
    exact ⟨v, _, rfl, by unfold Be.stepF; rw [if_neg (by rw [hb]; decide), hg]; exact h3, h4⟩
theorem stepF_len (r : Be.Rul) (l : List Be.Vd) (s : List Be.St) (i : Nat) (now : Int) : (Be.stepF r l s i now).length = s.length := by
  unfold Be.stepF
  split
  · rfl
  · exact List.length_set
/-! ### Tick: the state of its loop -/
def GX (G : Nat → Prop) (ov : Value) (n : Nat) : Prop := G n ∧ ov.ownBlock ≠ some n
structure TR (w : World) (G : Nat → Prop) (rb : Nat) (p : RD) (D : List Al.Al) (dv : Value) (Q : List (Int × Int)) (W : World) (pk : RD) (M : PM) (ov : Value) (out : List Ak.AskD) : Prop where
  at_ : RefP W (GX G ov) rb pk M Q
  sp : pk.ra = p.ra ∧ pk.rh = p.rh
  kp : Keeps (ROwn rb p) w W
  ds : OwnS W w.heap.size 114 2 Al.alL dv D
  os : OwnS W w.heap.size 66 3 akL ov out
section
variable {w : World} {G : Nat → Prop} {rb : Nat} {p : RD} {D : List Al.Al} {dv : Value} {Q : List (Int × Int)} {W : World} {pk : RD} {M : PM} {ov : Value} {out : List Ak.AskD}
theorem TR.below (h : TR w G rb p D dv Q W pk M ov out) {W' : World} (hb : Below W.heap.size W W') : TR w G rb p D dv Q W' pk M ov out :=
  ⟨h.at_.below hb, h.sp, h.kp.trans (Keeps.of_below hb), h.ds.below hb, h.os.below hb⟩
theorem TR.keeps (h0 : ∀ n, ROwn rb p n → n < w.heap.size) (h : TR w G rb p D dv Q W pk M ov out) {W' : World} {pk' : RD} {M' : PM} (ha : RefP W' (GX G ov) rb pk' M' Q) (hs : pk'.ra = pk.ra ∧ pk'.rh = pk.rh) (hk : Keeps (ROwn rb p) W W') : TR w G rb p D dv Q W' pk' M' ov out := by
  have q : ∀ g, w.heap.size ≤ g → g < W.heap.size → obj W' g = obj W g := fun g h1 h2 => hk.block g h2 (fun hh => by have := h0 g hh; omega)
  exact ⟨ha, ⟨hs.1.trans h.sp.1, hs.2.trans h.sp.2⟩, h.kp.trans hk, h.ds.keeps fun g e => q g (h.ds.1.lt g e).1 (h.ds.1.lt g e).2, h.os.keeps fun g e => q g (h.os.1.lt g e).1 (h.os.1.lt g e).2⟩
theorem TR.kept (h0 : ∀ n, ROwn rb p n → n < w.heap.size) {W W' : World} (hk : Keeps (ROwn rb p) W W') {n : Nat} {o : Obj} (hn : w.heap.size ≤ n) (ho : obj W n = some o) : obj W' n = some o :=
  (hk.block n (lt_of_obj ho) (fun hh => by have := h0 n hh; omega)).trans ho
theorem TR.hG (hG : ∀ n, w.heap.size ≤ n → G n) (h : TR w G rb p D dv Q W pk M ov out) : ∀ n, W.heap.size ≤ n → GX G ov n := fun n hn =>
  ⟨hG n (by have := h.kp.size; omega), fun e => by have := (h.os.1.lt n e).2; omega⟩
theorem TR.push (h : TR w G rb p D dv Q W pk M ov out) {W' : World} {ov' : Value} {out' : List Ak.AskD} (h1 : OwnS W' w.heap.size 66 3 akL ov' out') (h2 : Below w.heap.size W W') (h3 : ∀ k, k < W.heap.size → ov.ownBlock ≠ some k → obj W' k = obj W k) (h4 : ov'.ownBlock = ov.ownBlock ∨ ov'.ownBlock = some W.heap.size) : TR w G rb p D dv Q W' pk M ov' out' := by
  have hz := h.kp.size
  have qo : ∀ n, n < w.heap.size → obj W' n = obj W n := fun n hn => h3 n (by omega) (fun e => by have := (h.os.1.lt n e).1; omega)
  refine ⟨h.at_.of_G (fun n hg hn => h3 n hn hg.2) h2.size fun n hg hn => ⟨hg.1, fun e => ?_⟩, h.sp, ⟨h2.os.trans h.kp.os, h2.tape.trans h.kp.tape, h2.output.trans h.kp.output, Nat.le_trans hz h2.size, fun k hk hf => (qo k hk).trans (h.kp.block k hk hf)⟩, h.ds.keeps fun g e => ?_, h1⟩
  · rcases h4 with h4 | h4
    · exact hg.2 (h4 ▸ e)
    · rw [h4] at e
      have := Option.some.inj e
      omega
  · obtain ⟨cur, hc⟩ := h.ds.typ e
    exact h3 g (h.ds.1.lt g e).2 (fun e2 => h.os.ne hc (fun cur hcur => by cases hcur) e2)
end
theorem push50at {ops : Array Oper} {rest : List Oper} {o : Oper} {a : Act} {w : World} {Q : Exit → Act → World → Prop} (hgd : o.guard = none) (s x : Operand) (ho : o.op = .call { callee := .builtin .append, args := #[s, x], argTypes := #[59, 59] })
    (base : Nat) (v : Value) (xs : List Ak.AskD) (y : Ak.AskD) (hs : a.eval s = v) (hown : OwnS w base 66 3 akL v xs) (g : Nat) (hx : a.eval x = .slice (some ⟨g, 0, none⟩) 1 1) (hg : obj w g = some (.cells #[.int .i64 y.id, .int .i64 y.node, .int .i64 y.kind] 66 (0, 0)))
    (hlen : xs.length ≤ 1048576) (hbase : base ≤ w.heap.size)
    (h : ∀ v' w', OwnS w' base 66 3 akL v' (xs ++ [y]) → Below base w w' → (∀ k, k < w.heap.size → v.ownBlock ≠ some k → obj w' k = obj w k) → (v'.ownBlock = v.ownBlock ∨ v'.ownBlock = some w.heap.size) → wpList Tryz.prog ops Q rest (a.put o.dst v') w') : wpList Tryz.prog ops Q (o :: rest) a w := by
  obtain ⟨i0, hi, hz0, hz1, hz2⟩ := info_parts info47
  refine wpList_append_own_at (P := Tryz.prog) w hgd s x 59 ho base 66 i0 (.agg #[.int .i64 0, .int .i64 0, .int .i64 0]) 3 24 Tryz.underlying59 hi hz0 hz1 hz2 (by simp [Value.cells]) (by decide) v xs.length (xs.flatMap akL) hs hown.1 ⟨g, 0, none⟩ 1 1 (akL y) hx rfl (fun j u hu => ?_) (fun u hu => ?_) (by unfold maxLen; omega) ?_ hbase ?_
  · rw [Addr.add_lit, cell_at hg]; simpa [akL] using hu
  · have := akL_one y; simp only [allOne, List.all_eq_true] at this; exact this u hu
  · have : (xs.length + 1) * 24 ≤ 1048577 * 4096 := Nat.mul_le_mul (by omega) (by decide)
    omega
  · intro v' w' h1 h2 h3 h4
    refine h v' w' ⟨by simpa using h1, ?_⟩ ⟨h2.os, h2.tape, h2.output, h2.size, fun j hj => h2.block j (by omega) (fun e => ?_)⟩ (fun j hj hne => h2.block j hj (fun e => hne e.symm)) h4
    · rw [h3]; simp
    · have := (hown.1.lt j e.symm).1; omega
end Go.Proofs.YtagpclgappcnbaaGreat
