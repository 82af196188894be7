import Derived.Test.YtnaknoebjbmboaaRefL
import Derived.Test.YtnaknoebjbmboaaApp
import Derived.Deep.RegionLaw
namespace Go.Proofs.Ytnaknoebjbmboaa
open Go.RowKit

theorem step51 {ops : Array Oper} {o : Oper} {a : Act} {w : World} {Q : Exit → Act → World → Prop} {K : Act → World → Prop} {Z : Prop} (hgd : o.guard = none) (s x : Operand) (ho : o.op = .call { callee := .builtin .append, args := #[s, x], argTypes := #[51, 51] })
    (base : Nat) (v : Value) (xs ys : List AskD) (hs : a.eval s = v) (hown : OwnS w base 32 3 akL v xs) (sv : Value) (hx : a.eval x = sv) (hsl : SlIn w sv 3 akL ys) (hlen : xs.length + ys.length ≤ 1048577) (hbase : base ≤ w.heap.size)
    (h : ∀ v' w', OwnS w' base 32 3 akL v' (xs ++ ys) → Below base w w' → (∀ k, k < w.heap.size → v.ownBlock ≠ some k → obj w' k = obj w k) → K (a.put o.dst v') w') : if Region.wanted o (yielded ops a.tmps) = true then Oper.wp Try.prog o a w K Q else Z := by
  obtain ⟨i0, hi, hz0, hz1, hz2⟩ := info_parts info32
  exact step_pushAll (z := .agg #[.int .i64 0, .int .i64 0, .int .i64 0]) (bytes := 24) Try.underlying51 hi hz0 hz1 hz2 (by simp [Value.cells]) (by decide) akL_length akL_one hgd s x ho base v xs ys hs hown sv hx hsl hlen (by decide) hbase h
set_option maxRecDepth 100000 in
set_option maxHeartbeats 4000000 in
theorem ref_ask_ok (w : World) (G : Nat → Prop) (rb : Nat) (S : RefD) (W : List AskD) (node kind : Int) (h : RefK w G rb S W) (h1 : 0 ≤ node) (h2 : node < 32) (h3 : (replyOf kind == 0) = false) (h4 : (W.length : Int) < S.room) (h5 : S.last < 2147483647) (h6 : 0 ≤ S.last) (ha : 0 ≤ S.asked) (ha' : S.asked < 4611686018427387904) (hlen : W.length ≤ 100000) :
    Calls Try.prog 32 #[.pointer (some ⟨rb, 0, none⟩), .int .i64 node, .int .i64 kind] w fun e w' => e = .returned (.tuple #[.int .i64 (S.last + 1), .int .i64 0]) ∧ RefIn w' w.heap.size rb { S with last := S.last + 1, asked := S.asked + 1 } (W ++ [⟨S.last + 1, node, kind⟩]) ∧ Keeps (fun n => n = rb) w w' := by
  have HR := fun w => Lib.hid (ref_reply_same kind w)
  have HU := Lib.hid (fun n => (h.below (below_drewN (Below.refl _ w) n)).upd (S' := { S with last := S.last + 1 }) (i := 1) (u := .int .i64 (S.last + 1)) (fun _ => rfl))
  have HSZ := Lib.hid (fun n => (rfl : (w.drewN n).heap.size = w.heap.size))
  obtain ⟨v, g1, g2, _⟩ := h
  have HSL := Lib.hid (g2.slIn akL_length)
  obtain ⟨oa, cap, rfl⟩ := g2.slice
  have c0 : w.cell? ⟨rb, 0, none⟩ = some (.int .i64 S.room) := cell_at g1 0
  have c1 : w.cell? ⟨rb, 1, none⟩ = some (.int .i64 S.last) := cell_at g1 1
  have c2 : w.cell? ⟨rb, 2, none⟩ = some (.slice oa W.length cap) := cell_at g1 2
  have fz := frozen_at g1
  have hz := lt_of_obj g1
  have d1 : ¬ node < 0 := by omega
  have d2 : ¬ 32 ≤ node := by omega
  have d6 : decide (S.room ≤ (W.length : Int)) = false := by simp; omega
  have d7 : decide (2147483647 ≤ S.last) = false := by simp; omega
  have hw : IntKind.i64.wrap (S.last + 1) = S.last + 1 := by simp [IntKind.wrap, IntKind.signed, IntKind.bits]; omega
  generalize replyOf kind = r at *
  have G1 := Lib.hid g1
  clear g1 g2
  go_enter Try.func32, Try.ntmps32
  go_wp2_with fail
  refine (HR _).out.mono ?_
  rintro e w1 ⟨rfl, hw1⟩
  cases hw1
  go_wp2
  go_quiet (fail)
  go_wp2
  obtain ⟨hr1, hk1⟩ := HU.out nq
  have HK1 := Lib.hid (hk1)
  have hzw1 : ((w.drewN nq).setCell ⟨rb, 1, none⟩ (.int .i64 (S.last + 1))).heap.size = w.heap.size := by simp
  have o1 : obj ((w.drewN nq).setCell ⟨rb, 1, none⟩ (.int .i64 (S.last + 1))) rb = some (.cells (refC { S with last := S.last + 1 } (.slice oa W.length cap)) 71 (0, 0)) := obj_setCell_at (b := rb) (i := 1) _ G1.out
  obtain ⟨v1, q1, q2, _⟩ := hr1
  rw [o1] at q1
  have ev : v1 = .slice oa W.length cap := by
    simp only [Option.some.injEq, Obj.cells.injEq, refC] at q1
    have := congrArg (fun a : Array Value => a[2]?) q1.1
    simp at this
    exact this.symm
  subst ev
  have HS1 := Lib.hid (q2.slIn akL_length)
  have O1 := Lib.hid o1
  clear hk1 q1 q2 c0 c1 c2 fz G1 HU
  generalize (w.drewN nq).setCell ⟨rb, 1, none⟩ (.int .i64 (S.last + 1)) = w1 at *
  have c1 : w1.cell? ⟨rb, 1, none⟩ = some (.int .i64 (S.last + 1)) := cell_at o1 1
  have c2 : w1.cell? ⟨rb, 2, none⟩ = some (.slice oa W.length cap) := cell_at o1 2
  have fz := frozen_at o1
  have hz1 := lt_of_obj o1
  have HBQ := Lib.hid (fun q => below_drewN (Below.refl w1.heap.size w1) q)
  go_region_law (first
    | (refine step51 rfl (.const (.slice none 0 0)) (.tmp 47) rfl w1.heap.size (.slice none 0 0) [] W (by simp [Act.eval, Act.put]) (OwnS.nil _ _ _ _ _) _ (by simp [Act.eval, Act.put]) (HS1.out.below (HBQ.out _)) (by simp; omega) (Nat.le_refl _) ?_; intro v2 w3 r1 r2 r3; have R1 := Lib.hid r1; have R2 := Lib.hid ((HBQ.out _).trans r2); have o3 := (obj_below R2.out hz1).trans O1.out; have c13 : w3.cell? ⟨rb, 1, none⟩ = some (.int .i64 (S.last + 1)) := cell_at o3 1; have hz3 := lt_of_obj o3; have fz3 := frozen_at o3; clear r1 r2 r3)
    | (refine step51 rfl (.tmp 48) (.tmp 56) rfl w1.heap.size v2 ([] ++ W) [⟨S.last + 1, node, kind⟩] (by simp [Act.eval, Act.put]) (R1.out.alloc _) _ (by simp [Act.eval, Act.put]) (SlIn.one akL_length ⟨S.last + 1, node, kind⟩ (obj_alloc_at _ _ _ rfl)) (by simp; omega) (by have := R2.out.size; simp; omega) ?_; intro v4 w5 r1 r2 r3; have R3 := Lib.hid r1; have R4 := Lib.hid ((R2.out.alloc R2.out.size _).trans r2); have o5 := (obj_below R4.out hz1).trans O1.out; have hz5 := lt_of_obj o5; have fz5 := frozen_at o5; have c25 : w5.cell? ⟨rb, 2, none⟩ = some (.slice oa W.length cap) := cell_at o5 2; obtain ⟨o5a, c5a, e5⟩ := R3.out.slice; subst e5; clear r1 r2 r3)
    | (refine step51 rfl (.const (.slice none 0 0)) (.tmp 47) rfl (w1.heap.size + 1) (.slice none 0 0) [] W (by simp [Act.eval, Act.put]) (OwnS.nil _ _ _ _ _) _ (by simp [Act.eval, Act.put]) (HS1.out.below (((HBQ.out _).alloc (Nat.le_refl _) (.cells #[.int .i64 (S.last + 1), .int .i64 node, .int .i64 kind] 32)))) (by simp; omega) (by simp) ?_; intro v2 w3 r1 r2 r3; have R1 := Lib.hid r1; have R2 := Lib.hid (((HBQ.out _).alloc (Nat.le_refl _) (.cells #[.int .i64 (S.last + 1), .int .i64 node, .int .i64 kind] 32)).trans (r2.mono (by omega))); have X2 : Hid (obj w3 w1.heap.size = some (.cells #[.int .i64 (S.last + 1), .int .i64 node, .int .i64 kind] 32 (0, 0))) := Lib.hid ((obj_below r2 (by omega)).trans (obj_alloc_at _ _ _ rfl)); have o3 := (obj_below R2.out hz1).trans O1.out; have c13 : w3.cell? ⟨rb, 1, none⟩ = some (.int .i64 (S.last + 1)) := cell_at o3 1; have hz3 := lt_of_obj o3; have fz3 := frozen_at o3; clear r1 r2 r3)
    | (refine step51 rfl (.tmp 48) (.tmp 56) rfl (w1.heap.size + 1) v2 ([] ++ W) [⟨S.last + 1, node, kind⟩] (by simp [Act.eval, Act.put]) R1.out _ (by simp [Act.eval, Act.put]) (SlIn.one akL_length ⟨S.last + 1, node, kind⟩ X2.out) (by simp; omega) (by have := lt_of_obj X2.out; omega) ?_; intro v4 w5 r1 r2 r3; have R3 := Lib.hid (r1.lower (show w1.heap.size ≤ w1.heap.size + 1 by omega)); have R4 := Lib.hid (R2.out.trans (r2.mono (by omega))); have o5 := (obj_below R4.out hz1).trans O1.out; have hz5 := lt_of_obj o5; have fz5 := frozen_at o5; have c25 : w5.cell? ⟨rb, 2, none⟩ = some (.slice oa W.length cap) := cell_at o5 2; obtain ⟨o5a, c5a, e5⟩ := R3.out.slice; subst e5; clear r1 r2 r3))
  all_goals (
    have hl5 : ([] ++ W ++ [⟨S.last + 1, node, kind⟩] : List AskD).length = W.length + 1 := by simp
    have ho5 := R3.out
    rw [hl5] at ho5
    have hw5 : obj (w5.setCell ⟨rb, 2, none⟩ (.slice o5a (W.length + 1) c5a)) rb = some (.cells (refC { S with last := S.last + 1 } (.slice o5a (W.length + 1) c5a)) 71 (0, 0)) := obj_setCell_at _ o5
    have hI : RefIn (w5.setCell ⟨rb, 2, none⟩ (.slice o5a (W.length + 1) c5a)) w.heap.size rb { S with last := S.last + 1 } (W ++ [⟨S.last + 1, node, kind⟩]) := by
      refine ⟨_, hw5, ?_⟩
      have h7 := ho5.keeps (W := w5.setCell ⟨rb, 2, none⟩ (.slice o5a (W.length + 1) c5a)) (fun g hg => obj_setCell_ne _ _ _ _ (fun e => ho5.ne o5 (fun cur e' => by cases e') (by rw [hg, e])))
      rw [hzw1] at h7
      simpa using h7
    have HU5 := Lib.hid (hI.upd (S' := { S with last := S.last + 1, asked := S.asked + 1 }) (i := 3) (u := .int .i64 (S.asked + 1)) (fun _ => rfl))
    have HK5 : Hid (Keeps (fun n => n = rb) w (w5.setCell ⟨rb, 2, none⟩ (.slice o5a (W.length + 1) c5a))) := Lib.hid (((Keeps.of_below (F := fun n => n = rb) (below_drewN (Below.refl _ w) nq)).trans (HK1.out.trans (Keeps.of_below R4.out))).setCell (a := ⟨rb, 2, none⟩) (.inl rfl) _)
    have hwa : IntKind.i64.wrap (S.asked + 1) = S.asked + 1 := by simp [IntKind.wrap, IntKind.signed, IntKind.bits]; omega
    clear ho5 hI c25 fz5 o5
    generalize w5.setCell ⟨rb, 2, none⟩ (.slice o5a (W.length + 1) c5a) = w6 at *
    have e1 : w6.cell? ⟨rb, 1, none⟩ = some (.int .i64 (S.last + 1)) := cell_at hw5 1
    have e3 : w6.cell? ⟨rb, 3, none⟩ = some (.int .i64 S.asked) := cell_at hw5 3
    have fz6 := frozen_at hw5
    have hz6 := lt_of_obj hw5
    go_wp2
    go_ret2
    exact ⟨rfl, HU5.out.1, HK5.out.trans HU5.out.2⟩)
end Go.Proofs.Ytnaknoebjbmboaa
