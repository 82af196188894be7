import Derived.Test.YtfejhekoijemdaaRpI
import Derived.Test.YtfejhekoijemdaaApp
import Derived.Test.YtfejhekoijemdaaSplM
import Derived.Test.YtfejhekoijemdaaOpenS
namespace Go.Proofs.Ytfejhekoijemdaa
open Go.RowKit

/-! ### a poll more -/
theorem RelS.add {S : SetM} {R : List (List Int)} (h : RelS S R) (sl : List Int) : RelS (addS S sl) (R ++ [sl]) := by
  refine ⟨by unfold addS; simp [h.len], fun j o s h1 h2 => ?_⟩
  unfold addS at h1
  simp only at h1
  rcases get_snoc h1 with ⟨i1, g1⟩ | ⟨i1, g1⟩
  · rcases get_snoc h2 with ⟨i2, g2⟩ | ⟨i2, g2⟩
    · exact h.one j o s g1 g2
    · have := h.len; omega
  · rcases get_snoc h2 with ⟨i2, g2⟩ | ⟨i2, g2⟩
    · have := h.len; omega
    · subst g1 g2; exact RelO.new S _
theorem OwnS.blk {α : Type} {w : World} {base E k : Nat} {enc : α → List Value} {v : Value} {xs : List α} (h : OwnS w base E k enc v xs) {g : Nat} (hg : v.ownBlock = some g) : ∃ cur, obj w g = some (.cells cur E (0, 0)) := by
  rcases h.1.2 with ⟨rfl, _⟩ | ⟨j, cap, cur, rfl, _, hj, _⟩
  · simp [Value.ownBlock] at hg
  · simp [Value.ownBlock] at hg
    subst hg
    exact ⟨cur, hj⟩
theorem RPollW.off {w : World} {G : Nat → Prop} {q : PB} {o : OneM} {sl : List Int} {rb : Nat} {cs : Array Value} {fr : Nat × Nat} (h : RPollW w G q o sl) (hb : obj w rb = some (.cells cs 101 fr)) : RPollW w (fun n => G n ∧ n ≠ rb) q o sl := by
  obtain ⟨c, f1, -⟩ := h.fl
  exact ⟨h.box, h.so, h.fl, h.fc, h.vt, ⟨h.gp, fun e => by have := h.box; rw [e, hb] at this; simp at this⟩, ⟨h.gf, fun e => by rw [e, hb] at f1; simp at f1⟩,
    fun n e => ⟨h.gs n e, fun e2 => h.so.ne hb (fun cur hc => by cases hc) (by rw [e, e2])⟩, fun n e => ⟨h.gv n e, fun e2 => h.vt.ne hb (fun cur hc => by cases hc) (by rw [e, e2])⟩⟩
theorem RSetW.plt {w : World} {G : Nat → Prop} {rb : Nat} {lv : Value} {ps : List PB} {S : SetM} {R : List (List Int)} (h : RSetW w G rb lv ps S R) : ∀ q ∈ ps, q.p < w.heap.size ∧ q.fb < w.heap.size := fun q hq => by
  obtain ⟨i, hi, rfl⟩ := List.getElem_of_mem hq
  have h1 : i < S.l.length := by rw [← h.len]; exact hi
  have h2 : i < R.length := by rw [h.lenR]; exact h1
  have h3 := h.one i _ _ _ (List.getElem?_eq_getElem hi) (List.getElem?_eq_getElem h1) (List.getElem?_eq_getElem h2)
  exact ⟨lt_of_obj h3.box, h3.flt⟩
theorem RSetW.snoc {w W : World} {G G' : Nat → Prop} {rb : Nat} {lv lv2 : Value} {ps : List PB} {S : SetM} {R : List (List Int)} {q : PB} {xs : List Int} (h : RSetW w G rb lv ps S R)
    (hb : obj W rb = some (.cells #[.int .i64 S.pref, .int .i64 S.conf, lv2, .int .i64 (S.last + 1)] 101 (0, 0))) (ho : OwnS W w.heap.size 103 1 qL lv2 (ps ++ [q])) (hq : RPollW W G' q (newO S xs) xs) (hp : w.heap.size ≤ q.p) (hf : w.heap.size ≤ q.fb)
    (hk : Keeps (fun n => n = rb) w W) (hG : ∀ n, G n → G' n) (hN : ∀ n, w.heap.size ≤ n → G' n) : RSetW W G' rb lv2 (ps ++ [q]) (addS S xs) (R ++ [xs]) := by
  have hl := h.len
  have hr := h.lenR
  have hpl := h.plt
  refine ⟨hb, ho.slIn qL_length, fun b off n cap e h0 => ?_, by unfold addS; simp [hl], by unfold addS; simp [hr], fun i q2 o2 s2 g1 g2 g3 => ?_, ?_, ?_, hG _ h.gb⟩
  · obtain ⟨j, cap', ej⟩ := ho.snoc
    rw [ej] at e
    cases e
    obtain ⟨cur, hc⟩ := ho.blk (g := b) (by rw [ej]; rfl)
    exact ⟨hN _ (ho.1.lt b (by rw [ej]; rfl)).1, cur, hc⟩
  · unfold addS at g2
    simp only at g2
    rcases get_snoc g1 with ⟨i1, e1⟩ | ⟨i1, e1⟩ <;> rcases get_snoc g2 with ⟨i2, e2⟩ | ⟨i2, e2⟩ <;> rcases get_snoc g3 with ⟨i3, e3⟩ | ⟨i3, e3⟩ <;> first | (exfalso; omega) | skip
    · exact ((h.one i q2 o2 s2 e1 e2 e3).off h.box).of_G (fun n hn hz => hk.block n hz hn.2) fun n hn _ => hG n hn.1
    · subst e1 e2 e3
      exact hq
  · rw [List.map_append, List.nodup_append]
    refine ⟨h.nd1, by simp, fun a ha b hb => ?_⟩
    simp at hb
    obtain ⟨q2, h2, rfl⟩ := List.mem_map.1 ha
    have := (hpl q2 h2).1
    omega
  · rw [List.map_append, List.nodup_append]
    refine ⟨h.nd2, by simp, fun a ha b hb => ?_⟩
    simp at hb
    obtain ⟨q2, h2, rfl⟩ := List.mem_map.1 ha
    have := (hpl q2 h2).2
    omega
/-! ### Open -/
def bL (b : Bool) : List Value := [.bool b]
theorem bL_length (b : Bool) : (bL b).length = 1 := rfl
theorem bL_one (b : Bool) : allOne (bL b).toArray = true := rfl
theorem iL_one (n : Int) : allOne (intL n).toArray = true := rfl
theorem qL_one (q : PB) : allOne (qL q).toArray = true := rfl
theorem inf3 : (Try.prog.info? 3).map (fun i => (i.zero, i.size, i.bytes)) = some (some (.int .i64 0), 1, 8) := by kernel_rfl
theorem inf4 : (Try.prog.info? 4).map (fun i => (i.zero, i.size, i.bytes)) = some (some (.bool false), 1, 1) := by kernel_rfl
theorem inf103 : (Try.prog.info? 103).map (fun i => (i.zero, i.size, i.bytes)) = some (some (.pointer none), 1, 8) := by kernel_rfl
theorem stepI {ops : Array Oper} {o : Oper} {a : Act} {w : World} {Q : Exit → Act → World → Prop} {K : Act → World → Prop} {Z : Prop} (hgd : o.guard = none) (s x : Operand) (ho : o.op = .call { callee := .builtin .append, args := #[s, x], argTypes := #[22, 22] })
    (base : Nat) (v : Value) (xs : List Int) (y : Int) (hs : a.eval s = v) (hown : OwnS w base 3 1 intL v xs) (g : Nat) (hx : a.eval x = .slice (some ⟨g, 0, none⟩) 1 1) (hg : obj w g = some (.cells (intL y).toArray 3 (0, 0)))
    (hlen : xs.length ≤ 1048575) (hbase : base ≤ w.heap.size)
    (h : ∀ v' w', OwnS w' base 3 1 intL v' (xs ++ [y]) → Below base w w' → (∀ k, k < w.heap.size → v.ownBlock ≠ some k → obj w' k = obj w k) → K (a.put o.dst v') w') : if Region.wanted o (yielded ops a.tmps) = true then Oper.wp Try.prog o a w K Q else Z := by
  obtain ⟨i0, hi, hz0, hz1, hz2⟩ := info_parts inf3
  exact step_pushAll (bytes := 8) Try.underlying22 hi hz0 hz1 hz2 (by simp [Value.cells]) (by decide) intL_length iL_one hgd s x ho base v xs [y] hs hown _ hx (SlIn.one (E := 3) (fr := (0, 0)) intL_length y hg) (by simp; omega) (by decide) hbase h
theorem pushB {ops : Array Oper} {rest : List Oper} {o : Oper} {a : Act} {w : World} {Q : Exit → Act → World → Prop} (hgd : o.guard = none) (s x : Operand) (ho : o.op = .call { callee := .builtin .append, args := #[s, x], argTypes := #[94, 94] })
    (base : Nat) (v : Value) (xs : List Bool) (y : Bool) (hs : a.eval s = v) (hown : OwnS w base 4 1 bL v xs) (g : Nat) (hx : a.eval x = .slice (some ⟨g, 0, none⟩) 1 1) (hg : obj w g = some (.cells (bL y).toArray 4 (0, 0)))
    (hlen : xs.length ≤ 1048576) (hbase : base ≤ w.heap.size)
    (h : ∀ v' w', OwnS w' base 4 1 bL v' (xs ++ [y]) → Below base w w' → (∀ k, k < w.heap.size → v.ownBlock ≠ some k → obj w' k = obj w k) → wpList Try.prog ops Q rest (a.put o.dst v') w') : wpList Try.prog ops Q (o :: rest) a w := by
  obtain ⟨i0, hi, hz0, hz1, hz2⟩ := info_parts inf4
  exact wpList_push Try.underlying94 hi hz0 hz1 hz2 (by simp [Value.cells]) (by decide) bL bL_length bL_one hgd s x ho base v xs y hs hown g hx hg hlen (by decide) hbase h
theorem pushQ {ops : Array Oper} {rest : List Oper} {o : Oper} {a : Act} {w : World} {Q : Exit → Act → World → Prop} (hgd : o.guard = none) (s x : Operand) (ho : o.op = .call { callee := .builtin .append, args := #[s, x], argTypes := #[99, 99] })
    (base : Nat) (v : Value) (xs : List PB) (y : PB) (hs : a.eval s = v) (hown : OwnS w base 103 1 qL v xs) (g : Nat) (hx : a.eval x = .slice (some ⟨g, 0, none⟩) 1 1) (hg : obj w g = some (.cells (qL y).toArray 103 (0, 0)))
    (hlen : xs.length ≤ 1048576) (hbase : base ≤ w.heap.size)
    (h : ∀ v' w', OwnS w' base 103 1 qL v' (xs ++ [y]) → Below base w w' → (∀ k, k < w.heap.size → v.ownBlock ≠ some k → obj w' k = obj w k) → wpList Try.prog ops Q rest (a.put o.dst v') w') : wpList Try.prog ops Q (o :: rest) a w := by
  obtain ⟨i0, hi, hz0, hz1, hz2⟩ := info_parts inf103
  exact wpList_push Try.underlying99 hi hz0 hz1 hz2 (by simp [Value.cells]) (by decide) qL qL_length qL_one hgd s x ho base v xs y hs hown g hx hg hlen (by decide) hbase h
theorem pushQs {ops : Array Oper} {rest : List Oper} {o : Oper} {a : Act} {w : World} {Q : Exit → Act → World → Prop} (hgd : o.guard = none) (s x : Operand) (ho : o.op = .call { callee := .builtin .append, args := #[s, x], argTypes := #[99, 99] })
    (base : Nat) (v : Value) (xs ys : List PB) (hs : a.eval s = v) (hown : OwnS w base 103 1 qL v xs) (sv : Value) (hx : a.eval x = sv) (hsl : SlIn w sv 1 qL ys)
    (hlen : xs.length + ys.length ≤ 1048577) (hbase : base ≤ w.heap.size)
    (h : ∀ v' w', OwnS w' base 103 1 qL v' (xs ++ ys) → Below base w w' → (∀ k, k < w.heap.size → v.ownBlock ≠ some k → obj w' k = obj w k) → wpList Try.prog ops Q rest (a.put o.dst v') w') : wpList Try.prog ops Q (o :: rest) a w := by
  obtain ⟨i0, hi, hz0, hz1, hz2⟩ := info_parts inf103
  exact wpList_pushAll (bytes := 8) Try.underlying99 hi hz0 hz1 hz2 (by simp [Value.cells]) (by decide) qL_length qL_one hgd s x ho base v xs ys hs hown sv hx hsl hlen (by decide) hbase h
/-- a poll that is being opened -/
structure NewP (W : World) (B pb : Nat) (xs : List Int) (k : Nat) (sv fv : Value) : Prop where
  box : obj W pb = some (.cells #[.int .i64 0, sv, fv, .slice none 0 0] 105 (0, 0))
  so : OwnS W B 3 1 intL sv (xs.take k)
  fo : OwnS W B 4 1 bL fv ((xs.take k).map fun _ => true)
  lo : B ≤ pb
theorem NewP.below {W W' : World} {B pb : Nat} {xs : List Int} {k : Nat} {sv fv : Value} (h : NewP W B pb xs k sv fv) (hb : Below W.heap.size W W') : NewP W' B pb xs k sv fv :=
  ⟨(obj_below hb (lt_of_obj h.box)).trans h.box, h.so.below hb, h.fo.below hb, h.lo⟩
theorem NewP.setS {W W0 : World} {B pb : Nat} {xs : List Int} {k : Nat} {sv fv sv2 : Value} {ys : List Int} (h : NewP W B pb xs k sv fv) (ho : OwnS W0 B 3 1 intL sv2 ys) (hk : ∀ j, j < W.heap.size → sv.ownBlock ≠ some j → obj W0 j = obj W j) :
    obj (W0.setCell ⟨pb, 1, none⟩ sv2) pb = some (.cells #[.int .i64 0, sv2, fv, .slice none 0 0] 105 (0, 0)) ∧ OwnS (W0.setCell ⟨pb, 1, none⟩ sv2) B 3 1 intL sv2 ys ∧ OwnS (W0.setCell ⟨pb, 1, none⟩ sv2) B 4 1 bL fv ((xs.take k).map fun _ => true) := by
  have b0 : obj W0 pb = some (.cells #[.int .i64 0, sv, fv, .slice none 0 0] 105 (0, 0)) := (hk pb (lt_of_obj h.box) (h.so.ne h.box (fun cur hc => by cases hc))).trans h.box
  refine ⟨obj_setCell_at sv2 (i := 1) b0, ho.keeps fun g eg => obj_setCell_ne _ ⟨pb, 1, none⟩ _ _ (fun e => ho.ne b0 (fun cur hc => by cases hc) (by rw [eg, e])), h.fo.keeps fun g eg => ?_⟩
  obtain ⟨cur, hc⟩ := h.fo.blk eg
  exact (obj_setCell_ne _ ⟨pb, 1, none⟩ _ _ (fun e => h.fo.ne h.box (fun cur hc => by cases hc) (by rw [eg, e]))).trans (hk g (lt_of_obj hc) (h.so.ne hc (fun cur hc => by cases hc)))
/-- both rows have one more -/
structure MidP (W : World) (B pb : Nat) (xs : List Int) (k : Nat) (sv fv : Value) : Prop where
  box : obj W pb = some (.cells #[.int .i64 0, sv, fv, .slice none 0 0] 105 (0, 0))
  so : OwnS W B 3 1 intL sv (xs.take (k + 1))
  fo : OwnS W B 4 1 bL fv ((xs.take k).map fun _ => true)
  lo : B ≤ pb
theorem MidP.setF {W W0 : World} {B pb : Nat} {xs : List Int} {k : Nat} {sv fv fv2 : Value} (h : MidP W B pb xs k sv fv) (hlt : k < xs.length) (ho : OwnS W0 B 4 1 bL fv2 (((xs.take k).map fun _ => true) ++ [true])) (hk : ∀ j, j < W.heap.size → fv.ownBlock ≠ some j → obj W0 j = obj W j) :
    NewP (W0.setCell ⟨pb, 2, none⟩ fv2) B pb xs (k + 1) sv fv2 := by
  have b0 : obj W0 pb = some (.cells #[.int .i64 0, sv, fv, .slice none 0 0] 105 (0, 0)) := (hk pb (lt_of_obj h.box) (h.fo.ne h.box (fun cur hc => by cases hc))).trans h.box
  refine ⟨obj_setCell_at fv2 (i := 2) b0, h.so.keeps fun g eg => ?_, ?_, h.lo⟩
  · obtain ⟨cur, hc⟩ := h.so.blk eg
    exact (obj_setCell_ne _ ⟨pb, 2, none⟩ _ _ (fun e => h.so.ne h.box (fun cur hc => by cases hc) (by rw [eg, e]))).trans (hk g (lt_of_obj hc) (h.fo.ne hc (fun cur hc => by cases hc)))
  · have e : (xs.take (k + 1)).map (fun _ => true) = ((xs.take k).map fun _ => true) ++ [true] := by rw [List.take_succ_eq_append_getElem hlt, List.map_append]; rfl
    rw [e]
    exact ho.keeps fun g eg => obj_setCell_ne _ ⟨pb, 2, none⟩ _ _ (fun e => ho.ne b0 (fun cur hc => by cases hc) (by rw [eg, e]))
theorem NewP.fin {W : World} {B pb : Nat} {xs : List Int} {sv fv : Value} (h : NewP W B pb xs xs.length sv fv) (h1 : 1 ≤ xs.length) : ∃ fb fc cur, fv = .slice (some ⟨fb, 0, none⟩) xs.length fc ∧ obj W fb = some (.cells cur 4 (0, 0)) ∧ (∀ j, j < xs.length → cur[j]? = some (.bool true)) ∧ xs.length ≤ fc ∧ fc ≤ maxLen ∧ B ≤ fb := by
  have h2 := h.fo
  rw [List.take_length] at h2
  obtain ⟨⟨hl, h3⟩, h4⟩ := h2
  rcases h3 with ⟨rfl, h0⟩ | ⟨g, cap, cur, rfl, hb, hg, e1, e2, e3, e4⟩
  · rw [List.length_map] at h0; omega
  · simp only [List.length_map] at e1 e3 e4 ⊢
    refine ⟨g, cap, cur, rfl, hg, fun j hj => ?_, e1, e2, hb⟩
    have e5 : (cur.toList.take (xs.length * 1))[j]? = (((xs.map fun _ => true).flatMap bL))[j]? := by rw [e4]
    rw [List.getElem?_take_of_lt (by omega)] at e5
    rw [← Array.getElem?_toList, e5]
    have e6 : ∀ (l : List Int), (l.map fun _ => true).flatMap bL = l.map fun _ => Value.bool true := fun l => by
      induction l with
      | nil => rfl
      | cons a r ih => rw [List.map_cons, List.flatMap_cons, ih]; rfl
    rw [e6]
    simp [hj]
theorem open_fin {w wr W : World} {G : Nat → Prop} {rb pb fb fc : Nat} {lv lv2 sv : Value} {ps : List PB} {S : SetM} {R : List (List Int)} {xs : List Int} {cur : Array Value} (h : RSetW w G rb lv ps S R) (hB : Below w.heap.size w wr) (hp : NewP wr w.heap.size pb xs xs.length sv (.slice (some ⟨fb, 0, none⟩) xs.length fc))
    (hc : obj wr fb = some (.cells cur 4 (0, 0))) (ht : ∀ j, j < xs.length → cur[j]? = some (.bool true)) (c1 : xs.length ≤ fc) (c2 : fc ≤ maxLen) (hfb : w.heap.size ≤ fb)
    (hbR : obj W rb = some (.cells #[.int .i64 S.pref, .int .i64 S.conf, lv2, .int .i64 (S.last + 1)] 101 (0, 0))) (hbP : obj W pb = some (.cells #[.int .i64 (S.last + 1), sv, .slice (some ⟨fb, 0, none⟩) xs.length fc, .slice none 0 0] 105 (0, 0)))
    (ho : OwnS W wr.heap.size 103 1 qL lv2 (ps ++ [⟨pb, sv, fb, fc, .slice none 0 0⟩])) (hk : Keeps (fun n => n = rb ∨ n = pb) wr W) : RAct w G rb (addS S xs) (R ++ [xs]) W := by
  have hbw : obj wr rb = _ := (h.below hB).box
  have hlo := hp.lo
  have hlr := h.lt
  have k2 : Keeps (fun n => n = rb) w W := ⟨hk.os.trans hB.os, hk.tape.trans hB.tape, hk.output.trans hB.output, Nat.le_trans hB.size hk.size, fun n hn hne => (hk.block n (Nat.lt_of_lt_of_le hn hB.size) (fun e => e.elim hne (fun e => by omega))).trans (hB.block n hn)⟩
  have so := hp.so
  rw [List.take_length] at so
  refine ⟨⟨lv2, _, h.snoc hbR ((OwnS.rebase ho hB.size)) ⟨hbP, ?_, ⟨cur, ?_, fun j hj => ?_⟩, ⟨c1, c2⟩, OwnS.nil _ _ _ _ _, .inr hlo, .inr hfb, fun n e => .inr (so.1.lt n e).1, fun n e => by simp [Value.ownBlock] at e⟩ hlo hfb k2 (fun n hn => .inl hn) (fun n hn => .inr hn)⟩, k2.mono fun n hn => by rw [hn]; exact h.gb⟩
  · refine OwnS.rebase (so.keeps fun g eg => hk.block g (so.1.lt g eg).2 (fun e => ?_)) (Nat.zero_le _)
    rcases e with e | e
    · exact so.ne hbw (fun cur hc => by cases hc) (by rw [eg, e])
    · exact so.ne hp.box (fun cur hc => by cases hc) (by rw [eg, e])
  · exact (hk.block fb (lt_of_obj hc) (fun e => e.elim (fun e => by omega) (fun e => by have := hp.box; rw [← e, hc] at this; simp at this))).trans hc
  · rw [ht j hj]
    have h5 : (flagsO (newO S xs) xs)[j]? = (xs.map fun _ => true)[j]? := by rw [flags_new]
    unfold flagsO at h5
    simp [hj] at h5
    rw [h5]
theorem SlIn.stay {α : Type} {w W : World} {k : Nat} {enc : α → List Value} {xs : List α} {v : Value} (h : SlIn w v k enc xs) (hz : w.heap.size ≤ W.heap.size) (hk : ∀ b off n cap, v = .slice (some ⟨b, off, none⟩) n cap → 0 < xs.length → b < w.heap.size → obj W b = obj w b) : SlIn W v k enc xs := by
  obtain ⟨oa, cap, e, h1, h2, h3⟩ := h
  refine ⟨oa, cap, e, h1, h2, fun h0 => ?_⟩
  obtain ⟨b, off, e2, hb, hr⟩ := h3 h0
  subst e2
  exact ⟨b, off, rfl, Nat.lt_of_lt_of_le hb hz, hr.of_obj (hk b off _ _ e h0 hb)⟩
def ropenM (S : SetM) (xs : List Int) : SetM × Int × Int := if openC S xs = 0 then (addS S xs, S.last + 1, 0) else (S, 0, openC S xs)
def ropenR (S : SetM) (R : List (List Int)) (xs : List Int) : List (List Int) := if openC S xs = 0 then R ++ [xs] else R
theorem open_wrong {S : SetM} {xs : List Int} (h : xs.length < 1 ∨ 64 < xs.length ∨ ∃ v ∈ xs, wrongB v = true) : openC S xs = 1 := by
  unfold openC
  rw [if_pos]
  simp only [Bool.or_eq_true, decide_eq_true_eq, List.any_eq_true]
  rcases h with h | h | h
  · exact .inl (.inl h)
  · exact .inl (.inr h)
  · exact .inr h
theorem open_right {S : SetM} {xs : List Int} (h1 : 1 ≤ xs.length) (h2 : xs.length ≤ 64) (h3 : ∀ v ∈ xs, wrongB v = false) : openC S xs = if 256 ≤ S.l.length then 6 else 0 := by
  unfold openC
  rw [if_neg]
  simp only [Bool.or_eq_true, decide_eq_true_eq, List.any_eq_true]
  rintro ((h | h) | ⟨v, hv, h⟩)
  · omega
  · omega
  · rw [h3 v hv] at h; cases h
set_option maxRecDepth 100000 in
set_option maxHeartbeats 4000000 in
theorem ropen_any (w : World) (G : Nat → Prop) (rb : Nat) (lv : Value) (ps : List PB) (S : SetM) (R : List (List Int)) (v : Value) (xs : List Int) (hS : RSetW w G rb lv ps S R) (hok : SetOK S) (hx : SlIn w v 1 intL xs) (hlen : ps.length ≤ 100000) (hlast : S.last < 4611686018427387904) :
    Calls Try.prog 40 #[.pointer (some ⟨rb, 0, none⟩), v] w fun e w' => e = .returned (.tuple #[.int .i64 (ropenM S xs).2.1, .int .i64 (ropenM S xs).2.2]) ∧ RAct w G rb (ropenM S xs).1 (ropenR S R xs) w' := by
  have HSS := Lib.hid hS
  have HL0 := hok.last
  have HX := Lib.hid hx
  have HWR := Lib.hid (fun h => open_wrong (S := S) (xs := xs) h)
  have HRI := Lib.hid (fun h1 h2 h3 => open_right (S := S) (xs := xs) h1 h2 h3)
  have HM1 : Hid (openC S xs ≠ 0 → ropenM S xs = (S, 0, openC S xs) ∧ ropenR S R xs = R) := Lib.hid (fun h => by unfold ropenM ropenR; rw [if_neg h, if_neg h]; exact ⟨rfl, rfl⟩)
  have HM0 : Hid (openC S xs = 0 → ropenM S xs = (addS S xs, S.last + 1, 0) ∧ ropenR S R xs = R ++ [xs]) := Lib.hid (fun h => by unfold ropenM ropenR; rw [if_pos h, if_pos h]; exact ⟨rfl, rfl⟩)
  obtain ⟨oa, cap, rfl, g1, g2, g3⟩ := hx
  unfold maxLen at g2
  have H3 := Lib.hid g3
  have NO : Hid (∀ (c : Int) (W : World), openC S xs = c → c ≠ 0 → Below w.heap.size w W → (ropenM S xs).2.1 = 0 ∧ (ropenM S xs).2.2 = c ∧ RAct w G rb (ropenM S xs).1 (ropenR S R xs) W) := Lib.hid (fun c W hc h0 hb => by
    obtain ⟨e1, e2⟩ := HM1.out (by omega)
    rw [e1, e2, hc]
    exact ⟨rfl, rfl, ⟨⟨lv, ps, (HSS.out.below hb).of_G (fun _ _ _ => rfl) (Nat.le_refl _) fun n h _ => .inl h⟩, Keeps.of_below hb⟩⟩)
  generalize ropenM S xs = r at *
  generalize ropenR S R xs = R' at *
  obtain ⟨S', id', c'⟩ := r
  simp only at NO HM1 HM0
  clear g3 hS hok
  go_enter Try.func40, Try.ntmps40
  by_cases d1 : xs.length < 1
  · obtain ⟨rfl, rfl, n3⟩ := NO.out 1 w (HWR.out (.inl d1)) (by decide) (Below.refl _ _)
    have N3 := Lib.hid n3
    have d1' : (xs.length : Int) < 1 := by omega
    clear n3
    go_wp2_with fail
    go_ret2
    exact ⟨rfl, N3.out⟩
  by_cases d2 : 64 < xs.length
  · obtain ⟨rfl, rfl, n3⟩ := NO.out 1 w (HWR.out (.inr (.inl d2))) (by decide) (Below.refl _ _)
    have N3 := Lib.hid n3
    have d1' : ¬ (xs.length : Int) < 1 := by omega
    have d2' : (64 : Int) < xs.length := by omega
    clear n3
    go_wp2_with fail
    go_ret2
    exact ⟨rfl, N3.out⟩
  have d1' : ¬ (xs.length : Int) < 1 := by omega
  have d2' : ¬ (64 : Int) < xs.length := by omega
  have P0 : Hid (NewP (w.alloc (.cells #[.int .i64 0, .slice none 0 0, .slice none 0 0, .slice none 0 0] 105)) w.heap.size w.heap.size xs 0 (.slice none 0 0) (.slice none 0 0)) := Lib.hid ⟨obj_alloc_at _ _ _ rfl, by simpa using OwnS.nil _ _ _ _ _, by simpa using OwnS.nil _ _ _ _ _, Nat.le_refl _⟩
  have B0 : Hid (Below w.heap.size w (w.alloc (.cells #[.int .i64 0, .slice none 0 0, .slice none 0 0, .slice none 0 0] 105))) := Lib.hid ((Below.refl _ w).alloc (Nat.le_refl _) _)
  go_wp2_with fail
  generalize w.alloc (.cells #[.int .i64 0, .slice none 0 0, .slice none 0 0, .slice none 0 0] 105) = w1 at *
  clear d1' d2'
  go_loopw [7] (fun v7 wr => ∃ (k : Nat) (sv fv : Value), k ≤ xs.length ∧ v7 = .int .i64 k ∧ Hid (NewP wr w.heap.size w.heap.size xs k sv fv) ∧ Hid (Below w.heap.size w wr) ∧ Hid (∀ v ∈ xs.take k, wrongB v = false)) (fun i _ => xs.length - (intOf i).toNat)
  case atStart => exact ⟨0, _, _, Nat.zero_le _, rfl, P0, B0, Lib.hid (by simp)⟩
  case round =>
    obtain ⟨k, sv, fv, hk, rfl, HP, HB, HW⟩ := hrel
    clear P0 B0
    by_cases hlt : k < xs.length
    · obtain ⟨b, off, rfl, hbb, hrow⟩ := H3.out (by omega)
      have hs := hrow k hlt
      rw [← obj_below HB.out hbb] at hs
      have hbr : b < wr.heap.size := Nat.lt_of_lt_of_le hbb HB.out.size
      have cs : wr.cell? ⟨b, off + k, none⟩ = some (.int .i64 xs[k]) := by have := subOf_cell hs (j := 0) (by decide); simpa [intL] using this
      have HN : Hid (wrongB xs[k] = false → ∀ v ∈ xs.take (k + 1), wrongB v = false) := Lib.hid (fun h v hv => by
        rw [List.take_succ_eq_append_getElem hlt] at hv
        rcases List.mem_append.1 hv with hv | hv
        · exact HW.out v hv
        · simp at hv; subst hv; exact h)
      have HBAD : Hid (wrongB xs[k] = true → openC S xs = 1) := Lib.hid (fun h => HWR.out (.inr (.inr ⟨xs[k], List.getElem_mem hlt, h⟩)))
      have HTK : Hid (xs.take (k + 1) = xs.take k ++ [xs[k]]) := Lib.hid (List.take_succ_eq_append_getElem hlt)
      clear hrow hs
      generalize xs[k] = x at *
      have hki : (k : Int) < xs.length := by omega
      by_cases e1 : x < 0
      · obtain ⟨rfl, rfl, n3⟩ := NO.out 1 wr (HBAD.out (by unfold wrongB; simp [e1])) (by decide) HB.out
        have N3 := Lib.hid n3
        clear n3
        go_wp2_with fail
        go_ret2
        exact ⟨rfl, N3.out⟩
      by_cases e2 : 32 ≤ x
      · obtain ⟨rfl, rfl, n3⟩ := NO.out 1 wr (HBAD.out (by unfold wrongB; simp [e2])) (by decide) HB.out
        have N3 := Lib.hid n3
        clear n3
        go_wp2_with fail
        go_ret2
        exact ⟨rfl, N3.out⟩
      have HNN := Lib.hid (HN.out (by unfold wrongB; simp; omega))
      have c1 : wr.cell? ⟨w.heap.size, 1, none⟩ = some sv := cell_at HP.out.box 1
      have lp := lt_of_obj HP.out.box
      have fz := frozen_at HP.out.box
      obtain ⟨so, sc, esv⟩ := HP.out.so.slice
      have hkl : (xs.take k).length = k := by simp; omega
      rw [hkl] at esv
      subst esv
      have HKL := Lib.hid hkl
      have SL : Hid ((xs.take k ++ [x]).length = k + 1) := Lib.hid (by simp; omega)
      have hz0 : w.heap.size ≤ wr.heap.size := HB.out.size
      clear hkl
      go_wp2_with fail
      refine region_merge2 (fun (so2 : Option Addr) (sc2 : Nat) W => ∃ W0, OwnS W0 w.heap.size 3 1 intL (.slice so2 (k + 1) sc2) (xs.take k ++ [x]) ∧ Below w.heap.size wr W0 ∧ (∀ j, j < wr.heap.size → (Value.slice so k sc).ownBlock ≠ some j → obj W0 j = obj wr j) ∧ W = W0.setCell ⟨w.heap.size, 1, none⟩ (.slice so2 (k + 1) sc2)) ?_
      apply Exists.intro
      apply And.intro
      case left =>
        go_region_law (first
          | (refine stepI rfl _ _ rfl w.heap.size (.slice so k sc) (xs.take k) x (by simp [Act.eval, Act.put]) ((HP.out.so.drew).alloc _) wr.heap.size (by simp [Act.eval, Act.put]) (obj_alloc_at _ _ _ (by simp)) (by rw [HKL.out]; omega) (by simp; omega) ?_; intro v5 W5 q1 q2 q3; obtain ⟨so5, sc5, e5⟩ := q1.slice; rw [SL.out] at e5; subst e5; have Q1 := Lib.hid q1; have B5 : Hid (Below w.heap.size wr W5) := Lib.hid (Below.trans ((Below.refl w.heap.size wr).drew.alloc hz0 _) q2); have Q3 : Hid (∀ j, j < wr.heap.size → (Value.slice so k sc).ownBlock ≠ some j → obj W5 j = obj wr j) := Lib.hid (fun j hj hne => (q3 j (by simp; omega) hne).trans (obj_alloc_past _ _ _ hj)); have fz5 := frozen_at ((Q3.out _ lp (HP.out.so.ne HP.out.box (fun cur hc => by cases hc))).trans HP.out.box); have c5 := cell_at ((Q3.out _ lp (HP.out.so.ne HP.out.box (fun cur hc => by cases hc))).trans HP.out.box) 1; have l5 := lt_of_obj ((Q3.out _ lp (HP.out.so.ne HP.out.box (fun cur hc => by cases hc))).trans HP.out.box); clear q1 q2 q3))
        all_goals exact ⟨_, _, rfl, _, Q1.out, B5.out, Q3.out, rfl⟩
      case right =>
      rintro so2 sc2 W5 ⟨W0, q1, q2, q3, rfl⟩
      obtain ⟨s1, s2, s3⟩ := HP.out.setS q1 q3
      have MP : Hid (MidP (W0.setCell ⟨w.heap.size, 1, none⟩ (.slice so2 (k + 1) sc2)) w.heap.size w.heap.size xs k (.slice so2 (k + 1) sc2) fv) := Lib.hid ⟨s1, by rw [HTK.out]; exact s2, s3, Nat.le_refl _⟩
      have B5 : Hid (Below w.heap.size w (W0.setCell ⟨w.heap.size, 1, none⟩ (.slice so2 (k + 1) sc2))) := Lib.hid ((HB.out.trans q2).setCell (Nat.le_refl _) _)
      have HZ0 : Hid (k ≤ 1048576) := Lib.hid (by omega)
      have SL6 : Hid ((((xs.take k).map fun _ => true) ++ [true]).length = k + 1) := Lib.hid (by simp; omega)
      clear q1 q2 q3 s1 s2 s3 HP HB lp fz c1 cs hbr hbb HKL SL
      generalize W0.setCell ⟨w.heap.size, 1, none⟩ (.slice so2 (k + 1) sc2) = W5 at *
      have c2 : W5.cell? ⟨w.heap.size, 2, none⟩ = some fv := cell_at MP.out.box 2
      have lp := lt_of_obj MP.out.box
      have hz5 : w.heap.size ≤ W5.heap.size := B5.out.size
      have HFO := Lib.hid MP.out.fo
      go_wp2_with (at_builtin; refine pushB rfl _ _ rfl w.heap.size fv ((xs.take k).map fun _ => true) true rfl (HFO.out.alloc _) W5.heap.size rfl (obj_alloc_at _ _ _ rfl) (by have := HZ0.out; simp; omega) (by simp; omega) ?_; intro v6 W6 q1 q2 q3; obtain ⟨so6, sc6, e6⟩ := q1.slice; rw [SL6.out] at e6; subst e6; have Q1 := Lib.hid q1; have B6 : Hid (Below w.heap.size w W6) := Lib.hid (B5.out.trans (((Below.refl w.heap.size W5).alloc hz5 _).trans q2)); have Q3 : Hid (∀ j, j < W5.heap.size → fv.ownBlock ≠ some j → obj W6 j = obj W5 j) := Lib.hid (fun j hj hne => (q3 j (by simp; omega) hne).trans (obj_alloc_past _ _ _ hj)); have fz6 := frozen_at ((Q3.out _ lp (MP.out.fo.ne MP.out.box (fun cur hc => by cases hc))).trans MP.out.box); have c6 := cell_at ((Q3.out _ lp (MP.out.fo.ne MP.out.box (fun cur hc => by cases hc))).trans MP.out.box) 2; have l6 := lt_of_obj ((Q3.out _ lp (MP.out.fo.ne MP.out.box (fun cur hc => by cases hc))).trans MP.out.box); clear q1 q2 q3)
      go_roundw
      case rel => exact ⟨k + 1, _, _, by omega, by go_num, Lib.hid (MP.out.setF hlt Q1.out Q3.out), Lib.hid (B6.out.setCell (Nat.le_refl _) _), HNN⟩
      case measure => simp [intOf]; omega
    · have hk' : k = xs.length := by omega
      subst hk'
      have hc0 := HRI.out (by omega) (by omega) (by have := HW.out; rwa [List.take_length] at this)
      have HC0 := Lib.hid hc0
      clear hc0
      have SW := Lib.hid (HSS.out.below HB.out)
      obtain ⟨-, -, r2, r3⟩ := SW.out.cells
      obtain ⟨la, lc, rfl, l1, l2, -⟩ := SW.out.row
      have hpl := SW.out.len
      rw [hpl] at r2
      have lr := SW.out.lt
      unfold maxLen at l2
      by_cases d4 : 256 ≤ S.l.length
      · obtain ⟨rfl, rfl, n3⟩ := NO.out 6 wr (by rw [HC0.out, if_pos d4]) (by decide) HB.out
        have N3 := Lib.hid n3
        clear n3
        have hki : ¬ (xs.length : Int) < xs.length := by omega
        go_wp2_with fail
        go_ret2
        exact ⟨rfl, N3.out⟩
      · obtain ⟨e1, e2⟩ := HM0.out (by rw [HC0.out, if_neg d4])
        cases e1
        cases e2
        obtain ⟨fb, fc, cur, rfl, f1, f2, f3, f4, f5⟩ := HP.out.fin (by omega)
        have HF := Lib.hid (And.intro f1 (And.intro f2 (And.intro f3 (And.intro f4 f5))))
        have hki : ¬ (xs.length : Int) < xs.length := by omega
        have d4' : ¬ (256 : Int) ≤ (S.l.length : Int) := by omega
        have hwr : IntKind.i64.wrap (S.last + 1) = S.last + 1 := by simp [IntKind.wrap, IntKind.signed, IntKind.bits]; omega
        have hne : rb ≠ w.heap.size := by have := HSS.out.lt; omega
        have p0 : wr.cell? ⟨w.heap.size, 0, none⟩ = some (.int .i64 0) := cell_at HP.out.box 0
        have lp := lt_of_obj HP.out.box
        have fp := frozen_at HP.out.box
        have fr := frozen_at SW.out.box
        have W2 : Hid (∀ W : World, W = (wr.setCell ⟨rb, 3, none⟩ (.int .i64 (S.last + 1))).setCell ⟨w.heap.size, 0, none⟩ (.int .i64 (S.last + 1)) → Keeps (fun n => n = rb ∨ n = w.heap.size) wr W ∧ W.heap.size = wr.heap.size ∧ obj W rb = some (.cells #[.int .i64 S.pref, .int .i64 S.conf, .slice la S.l.length lc, .int .i64 (S.last + 1)] 101 (0, 0)) ∧ obj W w.heap.size = some (.cells #[.int .i64 (S.last + 1), sv, .slice (some ⟨fb, 0, none⟩) xs.length fc, .slice none 0 0] 105 (0, 0)) ∧ SlIn W (.slice la S.l.length lc) 1 qL ps) := Lib.hid (fun W e => by
          subst e
          have hk : Keeps (fun n => n = rb ∨ n = w.heap.size) wr ((wr.setCell ⟨rb, 3, none⟩ (.int .i64 (S.last + 1))).setCell ⟨w.heap.size, 0, none⟩ (.int .i64 (S.last + 1))) := ((Keeps.refl _ wr).setCell (a := ⟨rb, 3, none⟩) (.inl (.inl rfl)) _).setCell (a := ⟨w.heap.size, 0, none⟩) (.inl (.inr rfl)) _
          refine ⟨hk, by simp, ?_, ?_, ?_⟩
          · rw [← hpl]
            exact (obj_setCell_ne _ ⟨w.heap.size, 0, none⟩ _ _ hne).trans (obj_setCell_at _ (i := 3) SW.out.box)
          · exact obj_setCell_at _ (i := 0) ((obj_setCell_ne _ ⟨rb, 3, none⟩ _ _ (Ne.symm hne)).trans HP.out.box)
          · rw [← hpl]
            refine SW.out.row.stay hk.size fun b off n cap e h0 hb => hk.block b hb (fun e2 => ?_)
            obtain ⟨-, cur, g⟩ := SW.out.rowT b off n cap e h0
            rcases e2 with e2 | e2
            · rw [e2, SW.out.box] at g; simp at g
            · rw [e2, HP.out.box] at g; simp at g)
        clear f1 f2 f3 f4 f5 HWR HRI HM1 HM0 NO H3 HC0
        have hlo : w.heap.size ≤ wr.heap.size := HB.out.size
        have SL4 : Hid ((ps ++ [⟨w.heap.size, sv, fb, fc, .slice none 0 0⟩] : List PB).length = S.l.length + 1) := Lib.hid (by simp [hpl])
        go_wp2_with (at_builtin; first
          | (obtain ⟨k2, z2, ob2, op2, sl2⟩ := W2.out _ rfl; refine pushQs rfl _ _ rfl wr.heap.size (.slice none 0 0) [] ps rfl (OwnS.nil _ _ _ _ _) _ rfl sl2 (by simp; omega) (by rw [z2]; exact Nat.le_refl _) ?_; intro v3 W3 q1 q2 q3; rw [List.nil_append] at q1; have Q1 := Lib.hid q1; have Z2 := Lib.hid z2; have K3 : Hid (Keeps (fun n => n = rb ∨ n = w.heap.size) wr W3) := Lib.hid (k2.trans (Keeps.of_below (by rw [z2]; exact q2))); have OB3 := Lib.hid ((q3 rb (lt_of_obj ob2) (by simp [Value.ownBlock])).trans ob2); have OP3 := Lib.hid ((q3 w.heap.size (lt_of_obj op2) (by simp [Value.ownBlock])).trans op2); have ZW3 := Lib.hid (show wr.heap.size ≤ W3.heap.size by rw [← z2]; exact q2.size); clear q1 q2 q3 k2 z2 ob2 op2 sl2)
          | (refine pushQ rfl _ _ rfl wr.heap.size v3 ps ⟨w.heap.size, sv, fb, fc, .slice none 0 0⟩ rfl (Q1.out.alloc _) W3.heap.size rfl (obj_alloc_at _ _ _ rfl) (by omega) (by have := ZW3.out; simp; omega) ?_; intro v4 W4 r1 r2 r3; obtain ⟨so4, sc4, e4⟩ := r1.slice; rw [SL4.out] at e4; subst e4; have R1 := Lib.hid r1; have hz3 := ZW3.out; have qr := ((r3 rb (by have := lt_of_obj OB3.out; simp; omega) (Q1.out.ne OB3.out (fun cur hc => by cases hc))).trans (obj_alloc_past _ _ _ (lt_of_obj OB3.out))).trans OB3.out; have QR := Lib.hid qr; have QP := Lib.hid (((r3 w.heap.size (by have := lt_of_obj OP3.out; simp; omega) (Q1.out.ne OP3.out (fun cur hc => by cases hc))).trans (obj_alloc_past _ _ _ (lt_of_obj OP3.out))).trans OP3.out); have K4 : Hid (Keeps (fun n => n = rb ∨ n = w.heap.size) wr W4) := Lib.hid (by have b1 : Below wr.heap.size W3 W4 := ((Below.refl _ W3).alloc (by omega) _).trans r2; have k3 := K3.out; exact ⟨b1.os.trans k3.os, b1.tape.trans k3.tape, b1.output.trans k3.output, Nat.le_trans k3.size b1.size, fun n hn hne => (b1.block n hn).trans (k3.block n hn hne)⟩); have d4 := cell_at qr 2; have e4 := cell_at qr 3; have fz4 := frozen_at qr; have l4 := lt_of_obj qr; clear r1 r2 r3 qr))
        go_ret2
        have hb : obj (W4.setCell ⟨rb, 2, none⟩ (.slice so4 (S.l.length + 1) sc4)) rb = some (.cells #[.int .i64 S.pref, .int .i64 S.conf, .slice so4 (S.l.length + 1) sc4, .int .i64 (S.last + 1)] 101 (0, 0)) := obj_setCell_at _ (i := 2) QR.out
        have hne2 : w.heap.size ≠ rb := Ne.symm hne
        exact ⟨rfl, open_fin HSS.out HB.out HP.out HF.out.1 HF.out.2.1 HF.out.2.2.1 HF.out.2.2.2.1 HF.out.2.2.2.2 hb ((obj_setCell_ne _ ⟨rb, 2, none⟩ _ _ hne2).trans QP.out) (R1.out.keeps fun g eg => obj_setCell_ne _ ⟨rb, 2, none⟩ _ _ (fun e => R1.out.ne QR.out (fun cur hc => by cases hc) (by rw [eg, e]))) (K4.out.setCell (a := ⟨rb, 2, none⟩) (.inl (.inl rfl)) _)⟩
end Go.Proofs.Ytfejhekoijemdaa
