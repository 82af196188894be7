import Derived.Test.YtfejhekoijemdaaValues
import Derived.Test.YtfejhekoijemdaaDoneS
import Derived.Test.YtfejhekoijemdaaRnd
import Derived.RangeFuncBox
namespace Go.Proofs.Ytfejhekoijemdaa
open Go.RowKit Go.Shelf
attribute [local go_sem] Oper.semAt_some

def boolL (b : Bool) : List Value := [.bool b]
theorem boolL_length (b : Bool) : (boolL b).length = 1 := rfl
theorem boolL_one (b : Bool) : allOne (boolL b).toArray = true := by cases b <;> rfl
theorem intL_one (n : Int) : allOne (intL n).toArray = true := rfl
theorem mkValues (w : World) (oa : Option Addr) (len cap : Nat) : Calls Try.prog 38 #[.slice oa len cap] w fun e w' => e = .returned (.func (.func 57) #[] #[.pointer (some ⟨w.heap.size, 0, none⟩)]) ∧ w' = w.alloc (.cells #[.slice oa len cap] 76) := by
  have hmf : ∀ (fn : Fn) (first cap : Array Value) (w : World), (Instr.makeFunc fn first cap).run Try.prog w = .ok (.func fn first cap) w := fun _ _ _ _ => rfl
  go_enter Try.func38, Try.ntmps38
  go_wp2
  go_ret
  exact ⟨rfl, rfl⟩
theorem eg57 : ∀ args w, (callFunc 57 args).run Try.prog w = .ok (.enter 57 args) w := enters_of Try.func57 (by kernel_rfl) rfl
theorem eg39 : ∀ args w, (callFunc 39 args).run Try.prog w = .ok (.enter 39 args) w := enters_of Try.func39 (by kernel_rfl) rfl
def idsOf (S : SetM) : List Int := S.l.map (·.id)
def dnOf (S : SetM) : List Bool := S.l.map (isDone S)
theorem yieldsIf_move' {P : Program} {ops : Array Oper} {S : World → Prop} {op : Oper} {a : Act} {v : Value} (hw : Region.wanted op (yielded ops a.tmps) = true) (x : Operand) (ho : op.op = .move x) (hv : a.eval x = v) : YieldsIf P ops S op v a :=
  hv ▸ yieldsIf_move hw x ho
theorem step_pushG {α : Type} {P : Program} {ops : Array Oper} {o : Oper} {a : Act} {w : World} {Q : Exit → Act → World → Prop} {K : Act → World → Prop} {Z : Prop} {t E : TypeId} {i : TypeInfo} {z : Value} {k bytes : Nat}
    (ht : P.underlying t = some (.slice E)) (hi : P.info? E = some i) (hz : i.zero = some z) (hsize : i.size = k) (hby : i.bytes = bytes) (hzs : z.cells.size = k) (hk0 : 0 < k)
    (enc : α → List Value) (hk : ∀ x, (enc x).length = k) (hone : ∀ x, allOne (enc x).toArray = true)
    (hgd : o.guard = none) (s x : Operand) (ho : o.op = .call { callee := .builtin .append, args := #[s, x], argTypes := #[t, t] })
    (base : Nat) (v : Value) (xs : List α) (y : α) (hs : a.eval s = v) (hown : OwnS w base E k enc v xs) (g : Nat) (hx : a.eval x = .slice (some ⟨g, 0, none⟩) 1 1) (hg : obj w g = some (.cells (enc y).toArray E (0, 0)))
    (hlen : xs.length ≤ 1048576) (hbt : bytes ≤ 4096) (hbase : base ≤ w.heap.size)
    (h : ∀ v' w', OwnS w' base E k enc v' (xs ++ [y]) → w.grownBy w' v.ownBlock → (v'.ownBlock = v.ownBlock ∨ v'.ownBlock = some w.heap.size) → K (a.put o.dst v') w') : if Region.wanted o (yielded ops a.tmps) = true then Oper.wp P o a w K Q else Z := by
  have hw : Region.wanted o (yielded ops a.tmps) = true := by simp [Region.wanted, hgd]
  rw [if_pos hw]
  have hb : (xs.length + 1) * bytes ≤ 1048577 * 4096 := Nat.mul_le_mul (by omega) hbt
  obtain ⟨v', w', hrun, r1, r2, r3, r4⟩ := run_append_own_at (P := P) w base t o.type E i z k bytes ht hi hz hsize hby hzs hk0 v xs.length (xs.flatMap enc) hown.1 ⟨g, 0, none⟩ 1 1 (enc y) (by rw [hk, Nat.one_mul])
    (fun j u hu => by rw [Addr.add_lit, cell_at hg]; simpa using hu) (fun u hu => by have := hone y; simp only [allOne, List.all_eq_true] at this; exact this u hu) (by unfold maxLen; omega) (by omega) hbase
  unfold Oper.wp
  simp [execOp, ho, resolve, invoke, builtin, hs, hx, hrun, Result.andThen]
  exact h v' w' ⟨by simpa using r1, by rw [r3]; simp⟩ r2 r4
theorem info2 : (Try.prog.info? 2).map (fun i => (i.zero, i.size, i.bytes)) = some (some (.int .i64 0), 1, 8) := by kernel_rfl
theorem info4 : (Try.prog.info? 4).map (fun i => (i.zero, i.size, i.bytes)) = some (some (.bool false), 1, 1) := by kernel_rfl
section
variable {ops : Array Oper} {o : Oper} {a : Act} {w : World} {Q : Exit → Act → World → Prop} {K : Act → World → Prop} {Z : Prop}
theorem step93 (hgd : o.guard = none) (s x : Operand) (ho : o.op = .call { callee := .builtin .append, args := #[s, x], argTypes := #[93, 93] })
    (base : Nat) (v : Value) (xs : List Int) (y : Int) (hs : a.eval s = v) (hown : OwnS w base 2 1 intL v xs) (g : Nat) (hx : a.eval x = .slice (some ⟨g, 0, none⟩) 1 1) (hg : obj w g = some (.cells (intL y).toArray 2 (0, 0)))
    (hlen : xs.length ≤ 1048576) (hbase : base ≤ w.heap.size)
    (h : ∀ v' w', OwnS w' base 2 1 intL v' (xs ++ [y]) → w.grownBy w' v.ownBlock → (v'.ownBlock = v.ownBlock ∨ v'.ownBlock = some w.heap.size) → K (a.put o.dst v') w') : if Region.wanted o (yielded ops a.tmps) = true then Oper.wp Try.prog o a w K Q else Z := by
  obtain ⟨i0, hi, hz0, hz1, hz2⟩ := info_parts info2
  exact step_pushG Try.underlying93 hi hz0 hz1 hz2 (by simp [Value.cells]) (by decide) intL intL_length intL_one hgd s x ho base v xs y hs hown g hx hg hlen (by decide) hbase h
theorem step94 (hgd : o.guard = none) (s x : Operand) (ho : o.op = .call { callee := .builtin .append, args := #[s, x], argTypes := #[94, 94] })
    (base : Nat) (v : Value) (xs : List Bool) (y : Bool) (hs : a.eval s = v) (hown : OwnS w base 4 1 boolL v xs) (g : Nat) (hx : a.eval x = .slice (some ⟨g, 0, none⟩) 1 1) (hg : obj w g = some (.cells (boolL y).toArray 4 (0, 0)))
    (hlen : xs.length ≤ 1048576) (hbase : base ≤ w.heap.size)
    (h : ∀ v' w', OwnS w' base 4 1 boolL v' (xs ++ [y]) → w.grownBy w' v.ownBlock → (v'.ownBlock = v.ownBlock ∨ v'.ownBlock = some w.heap.size) → K (a.put o.dst v') w') : if Region.wanted o (yielded ops a.tmps) = true then Oper.wp Try.prog o a w K Q else Z := by
  obtain ⟨i0, hi, hz0, hz1, hz2⟩ := info_parts info4
  exact step_pushG Try.underlying94 hi hz0 hz1 hz2 (by simp [Value.cells]) (by decide) boolL boolL_length boolL_one hgd s x ho base v xs y hs hown g hx hg hlen (by decide) hbase h
end
/-- rows of different elements lie apart -/
theorem own_ne {α β : Type} {w : World} {B E E' k k' : Nat} {enc : α → List Value} {enc' : β → List Value} {v v' : Value} {xs : List α} {ys : List β} (h : OwnS w B E k enc v xs) (h' : OwnS w B E' k' enc' v' ys) (hne : E ≠ E') (g : Nat) : ¬ (v.ownBlock = some g ∧ v'.ownBlock = some g) := by
  rintro ⟨e1, e2⟩
  rcases h.1.2 with ⟨rfl, _⟩ | ⟨g1, cap, cur, rfl, _, hg, _⟩
  · simp [Value.ownBlock] at e1
  · simp [Value.ownBlock] at e1
    subst e1
    exact h'.ne (o := .cells cur E (0, 0)) hg (fun cur' e => by cases e; exact hne rfl) e2
/-- what All's rounds own -/
def RowsA (w : World) (B2 b sb ib db : Nat) (S : SetM) (k : Nat) (G : Nat → Prop) (W : World) : Prop :=
  ∃ iv dv, obj W ib = some (.cells #[iv] 93 (0, 0)) ∧ obj W db = some (.cells #[dv] 94 (0, 0)) ∧ OwnS W B2 2 1 intL iv ((idsOf S).take k) ∧ OwnS W B2 4 1 boolL dv ((dnOf S).take k) ∧
    obj W sb = some (.cells #[.pointer (some ⟨b, 0, none⟩)] 25 (0, 0)) ∧ Below w.heap.size w W ∧ B2 ≤ W.heap.size ∧ G = (fun n => n = ib ∨ n = db ∨ iv.ownBlock = some n ∨ dv.ownBlock = some n)
def allF (b : Nat) (sb ib db vb : Nat) (lv : Value) (p : Nat × Nat) : Act :=
  { tmps := #[.pointer (some ⟨b, 0, none⟩), .pointer (some ⟨sb, 0, none⟩), .nilFunc, .pointer (some ⟨ib, 0, none⟩), .pointer (some ⟨db, 0, none⟩), ptrV p, .pointer (some ⟨b, 0, none⟩), .bool false, .bool true, .pointer (some ⟨b, 0, none⟩), .pointer (some ⟨b, 0, none⟩), .pointer (some ⟨b, 3, none⟩), lv, .func (.func 57) #[] #[.pointer (some ⟨vb, 0, none⟩)], ptrV p, undef, undef, undef, undef, undef, undef, undef, undef, undef, undef, undef, undef, undef, undef], defers := [] }
/-- what All hands out: an iterator over rows of its own -/
def AllR (w : World) (S : SetM) (e : Ending) (w' : World) : Prop :=
  ∃ ib db iv dv, e = .returned (.func (.func 39) #[] #[.pointer (some ⟨ib, 0, none⟩), .pointer (some ⟨db, 0, none⟩)]) ∧ obj w' ib = some (.cells #[iv] 93 (0, 0)) ∧ obj w' db = some (.cells #[dv] 94 (0, 0)) ∧
    SlIn w' iv 1 intL (idsOf S) ∧ SlIn w' dv 1 boolL (dnOf S) ∧ (∀ g, iv.ownBlock = some g → g < w'.heap.size) ∧ (∀ g, dv.ownBlock = some g → g < w'.heap.size) ∧ Below w.heap.size w w'
set_option maxRecDepth 100000 in
set_option maxHeartbeats 4000000 in
theorem all_any (w : World) (M V : Nat → Prop) (b : Nat) (lv : Value) (ps : List (Nat × Nat)) (S : SetM) (h : SetW w M V b lv ps S) (hok : SetOK S) (hlen : S.l.length ≤ 1048576) : Calls Try.prog 23 #[.pointer (some ⟨b, 0, none⟩)] w (AllR w S) := by
  refine (callsIn_wide (n := 5)).1 ?_
  refine callsIn_of_wp_marks Try.func23 rfl trivial ?_ rfl
  simp only [Try.ntmps23, List.size_toArray, List.length_cons, List.length_nil, Nat.reduceAdd, Nat.reduceSub, Array.replicate_succ, Array.replicate_zero, List.push_toArray, List.append_toArray, List.nil_append, List.cons_append]
  have hmf : ∀ (fn : Fn) (first cap : Array Value) (w : World), (Instr.makeFunc fn first cap).run Try.prog w = .ok (.func fn first cap) w := fun _ _ _ _ => rfl
  have HW := Lib.hid h
  have HOK := Lib.hid hok
  have hbl := h.lt
  have HPL := Lib.hid h.len
  obtain ⟨la, lc, rfl, _⟩ := h.row.slIn
  clear h hok
  gi_wp2
  have b1 : Below w.heap.size w (((w.alloc (.cells #[.pointer (some ⟨b, 0, none⟩)] 25)).alloc (.cells #[.slice none 0 0] 93)).alloc (.cells #[.slice none 0 0] 94)) := (((Below.refl _ w).alloc (Nat.le_refl _) _).alloc (by simp) _).alloc (by simp; omega) _
  have os : obj (((w.alloc (.cells #[.pointer (some ⟨b, 0, none⟩)] 25)).alloc (.cells #[.slice none 0 0] 93)).alloc (.cells #[.slice none 0 0] 94)) w.heap.size = some (.cells #[.pointer (some ⟨b, 0, none⟩)] 25 (0, 0)) := (obj_alloc_past _ _ _ (by simp; omega)).trans ((obj_alloc_past _ _ _ (by simp)).trans (obj_alloc_at _ _ _ rfl))
  have oi : obj (((w.alloc (.cells #[.pointer (some ⟨b, 0, none⟩)] 25)).alloc (.cells #[.slice none 0 0] 93)).alloc (.cells #[.slice none 0 0] 94)) (w.heap.size + 1) = some (.cells #[.slice none 0 0] 93 (0, 0)) := (obj_alloc_past _ _ _ (by simp)).trans (obj_alloc_at _ _ _ (by simp))
  have od : obj (((w.alloc (.cells #[.pointer (some ⟨b, 0, none⟩)] 25)).alloc (.cells #[.slice none 0 0] 93)).alloc (.cells #[.slice none 0 0] 94)) (w.heap.size + 1 + 1) = some (.cells #[.slice none 0 0] 94 (0, 0)) := obj_alloc_at _ _ _ (by simp)
  have HZ1 : Hid ((((w.alloc (.cells #[.pointer (some ⟨b, 0, none⟩)] 25)).alloc (.cells #[.slice none 0 0] 93)).alloc (.cells #[.slice none 0 0] 94)).heap.size = w.heap.size + 3) := Lib.hid (by simp)
  have W1 := Lib.hid (HW.out.below b1)
  generalize ((w.alloc (.cells #[.pointer (some ⟨b, 0, none⟩)] 25)).alloc (.cells #[.slice none 0 0] 93)).alloc (.cells #[.slice none 0 0] 94) = w1 at *
  refine ⟨trivial, (callsIn_wide.2 (none_no w1 M V b (.slice la ps.length lc) ps S W1.out HOK.out.p0)).mono ?_⟩
  rintro e w' ⟨rfl, rfl⟩
  have c3 : w'.cell? ⟨b, 3, none⟩ = some (.slice la ps.length lc) := cell_at W1.out.box 3
  have cs : w'.cell? ⟨w.heap.size, 0, none⟩ = some (.pointer (some ⟨b, 0, none⟩)) := cell_at os 0
  have hb1 : b < w'.heap.size := by have := HZ1.out; omega
  have hs1 : w.heap.size < w'.heap.size := by have := HZ1.out; omega
  gi_wp2
  refine ⟨trivial, (callsIn_wide.2 (mkValues w' la ps.length lc)).mono ?_⟩
  rintro e w2 ⟨rfl, hw2⟩
  have b2 : Below w'.heap.size w' w2 := by rw [hw2]; exact (Below.refl _ _).alloc (Nat.le_refl _) _
  have ov : obj w2 w'.heap.size = some (.cells #[.slice la ps.length lc] 76 (0, 0)) := by rw [hw2]; exact obj_alloc_at _ _ _ rfl
  have hz2 : w2.heap.size = w'.heap.size + 1 := by rw [hw2]; simp
  clear hw2
  gi_wp2
  have W2 := Lib.hid (W1.out.below b2)
  have hz1 := HZ1.out
  have hV2 : ValAt 76 1 ptrL (fun k => k = w'.heap.size ∨ (Value.slice la ps.length lc).ownBlock = some k) w2 w'.heap.size (.slice la ps.length lc) ps := by
    refine ⟨ov, W2.out.row.slIn, .inl rfl, fun a l c e => .inr (by rw [e]; rfl)⟩
  have hD2 : ∀ k, (k = w'.heap.size ∨ (Value.slice la ps.length lc).ownBlock = some k) → k < w2.heap.size := fun k hk => by
    rcases hk with rfl | hk
    · omega
    · exact W2.out.mlt k (W2.out.ml k hk)
  have hDx : ∀ k, (k = w'.heap.size ∨ (Value.slice la ps.length lc).ownBlock = some k) → k ≠ w.heap.size + 1 ∧ k ≠ w.heap.size + 1 + 1 := fun k hk => by
    rcases hk with rfl | hk
    · omega
    · have := HW.out.mlt k (HW.out.ml k hk); omega
  have os2 := (obj_below b2 hs1).trans os
  have oi2 := (obj_below b2 (by omega)).trans oi
  have od2 := (obj_below b2 (by omega)).trans od
  have B2 : Hid (Below w.heap.size w w2) := Lib.hid (b1.trans (b2.mono (by omega)))
  have hzB : w.heap.size + 1 + 1 < w2.heap.size := by omega
  clear hz1 hz2
  refine wpIn_range_own rfl (by decide) (gf := 57) (lb := #[.pointer (some ⟨w'.heap.size, 0, none⟩)]) rfl trivial eg57 hD2 (values_seq 4 (by omega) hD2 hV2) (Agree.refl _ _) (fun _ => rfl)
    (fun pre G W => RowsA w w2.heap.size b w.heap.size (w.heap.size + 1) (w.heap.size + 1 + 1) S pre.length G W)
    (fun c pre G W => False)
    ?hIo ?hI ?hIx (fun n => n = w.heap.size + 1 ∨ n = w.heap.size + 1 + 1 ∨ (Value.slice none 0 0).ownBlock = some n ∨ (Value.slice none 0 0).ownBlock = some n) ⟨_, _, oi2, od2, OwnS.nil _ _ _ _ _, OwnS.nil _ _ _ _ _, os2, B2.out, Nat.le_refl _, rfl⟩
    (fun p a' W => a' = allF b w.heap.size (w.heap.size + 1) (w.heap.size + 1 + 1) w'.heap.size (.slice la ps.length lc) p)
    ?hAx ?assign ?body ?done ?stop
  case hIo =>
    rintro pre G W ⟨iv, dv, h1, h2, h3, h4, h5, h6, h7, rfl⟩ k hk
    rcases hk with rfl | rfl | hk | hk
    · exact ⟨fun hd => (hDx _ hd).1 rfl, lt_of_obj h1⟩
    · exact ⟨fun hd => (hDx _ hd).2 rfl, lt_of_obj h2⟩
    · have := h3.1.lt k hk
      exact ⟨fun hd => by have := hD2 k hd; omega, this.2⟩
    · have := h4.1.lt k hk
      exact ⟨fun hd => by have := hD2 k hd; omega, this.2⟩
  case hI =>
    rintro pre G W W' ⟨iv, dv, h1, h2, h3, h4, h5, h6, h7, rfl⟩ hk
    refine ⟨iv, dv, (hk.block _ (lt_of_obj h1) (fun h => h.2 (.inl rfl))).trans h1, (hk.block _ (lt_of_obj h2) (fun h => h.2 (.inr (.inl rfl)))).trans h2, h3.keeps fun g hg => hk.block _ (h3.1.lt g hg).2 (fun h => h.2 (.inr (.inr (.inl hg)))), h4.keeps fun g hg => hk.block _ (h4.1.lt g hg).2 (fun h => h.2 (.inr (.inr (.inr hg)))), (hk.block _ (lt_of_obj h5) (fun hh => by omega)).trans h5, h6.trans (hk.below (fun k hk => by omega) h6.size), Nat.le_trans h7 hk.size, rfl⟩
  case hIx => rintro c pre G W W' h hk; exact h.elim
  case hAx =>
    rintro x a' W r o o' h1 ho hc
    exact h1
  case assign =>
    rintro l pre G p W K _ hK
    have HK := Lib.hid hK
    clear hK
    simp only [ptrV]
    gi_wp2
    exact HK.out _ _ (Below.refl _ W) rfl
  case body =>
    rintro l pre G p a' W hl hlw hnl ⟨iv, dv, h1, h2, h3, h4, h5, h6, h7, rfl⟩ rfl hpre
    have hpl : pre.length < ps.length := by have := hpre.length_le; simp at this; omega
    have hpi : ps[pre.length]? = some p := by
      obtain ⟨r, hr⟩ := hpre
      rw [← hr]; simp
    have hll : pre.length < S.l.length := by have := HPL.out; omega
    obtain ⟨o, hoi⟩ : ∃ o, S.l[pre.length]? = some o := ⟨_, List.getElem?_eq_getElem hll⟩
    have sX := HW.out.below h6
    obtain ⟨vv, hov⟩ := sX.one _ _ _ hpi hoi
    have hpM := (sX.mp p (List.mem_of_getElem? hpi)).1
    have cp : W.cell? ⟨p.1, 0, none⟩ = some (.int .i64 o.id) := cell_at hov.at_ 0
    have csb : W.cell? ⟨w.heap.size, 0, none⟩ = some (.pointer (some ⟨b, 0, none⟩)) := cell_at h5 0
    have HLI : Hid (((idsOf S).take pre.length).length ≤ 1048576) := Lib.hid (by unfold idsOf; simp; omega)
    have HLD : Hid (((dnOf S).take pre.length).length ≤ 1048576) := Lib.hid (by unfold dnOf; simp; omega)
    have own : ∀ k, (iv.ownBlock = some k ∨ dv.ownBlock = some k) → w2.heap.size ≤ k := fun k hk => by
      rcases hk with hk | hk
      · exact (h3.1.lt k hk).1
      · exact (h4.1.lt k hk).1
    have NO : ∀ n, M n ∨ V n → ¬ (iv.ownBlock = some n ∨ dv.ownBlock = some n) := fun n hn hk => by
      have h1 := own n hk
      rcases hn with h | h
      · have := HW.out.mlt n h; omega
      · have := HW.out.vlt n h; omega
    have NI : ¬ (iv.ownBlock = some (w.heap.size + 1) ∨ dv.ownBlock = some (w.heap.size + 1)) := fun h => by have := own _ h; omega
    have ND : ¬ (iv.ownBlock = some (w.heap.size + 1 + 1) ∨ dv.ownBlock = some (w.heap.size + 1 + 1)) := fun h => by have := own _ h; omega
    have NSB : ¬ (iv.ownBlock = some w.heap.size ∨ dv.ownBlock = some w.heap.size) := fun h => by have := own _ h; omega
    have SX : ∀ w5 : World, (∀ k, k < W.heap.size → ¬ (iv.ownBlock = some k ∨ dv.ownBlock = some k) → obj w5 k = obj W k) → w5.cell? ⟨w.heap.size, 0, none⟩ = some (.pointer (some ⟨b, 0, none⟩)) ∧ w5.cell? ⟨p.1, 0, none⟩ = some (.int .i64 o.id) := fun w5 g =>
      ⟨(World.cell?_of_block (w := W) (a := ⟨_, 0, none⟩) (g _ (lt_of_obj h5) NSB)).trans csb, (World.cell?_of_block (w := W) (a := ⟨_, 0, none⟩) (g _ (lt_of_obj hov.at_) (NO _ (.inl hpM)))).trans cp⟩
    have HTI : Hid ((idsOf S).take (pre ++ [p]).length = (idsOf S).take pre.length ++ [o.id]) := Lib.hid (by
      rw [List.length_append, List.length_singleton, List.take_add_one, show (idsOf S)[pre.length]? = some o.id by unfold idsOf; rw [List.getElem?_map, hoi]; rfl]; rfl)
    have HTD : Hid ((dnOf S).take (pre ++ [p]).length = (dnOf S).take pre.length ++ [isDone S o]) := Lib.hid (by
      rw [List.length_append, List.length_singleton, List.take_add_one, show (dnOf S)[pre.length]? = some (isDone S o) by unfold dnOf; rw [List.getElem?_map, hoi]; rfl]; rfl)
    have hpz := HW.out.mlt _ hpM
    have PNE13 : p.1 ≠ w.heap.size + 1 := by omega
    have PNE14 : p.1 ≠ w.heap.size + 1 + 1 := by omega
    have BLO : ∀ n, (n = w.heap.size + 1 ∨ n = w.heap.size + 1 + 1 ∨ iv.ownBlock = some n ∨ dv.ownBlock = some n) → w.heap.size ≤ n := fun n hn => by
      rcases hn with h | h | h
      · omega
      · omega
      · have := own n h; omega
    clear hV2 hDx hD2 ov os oi od os2 oi2 od2 b1 b2 HPL hpl hll
    simp only [allF, ptrV]
    gi_wp2
    refine wpIn_round_held (S := fun W' => W'.cell? ⟨w.heap.size, 0, none⟩ = some (.pointer (some ⟨b, 0, none⟩)) ∧ W'.cell? ⟨p.1, 0, none⟩ = some (.int .i64 o.id)) (by kernel_rfl) (by kernel_rfl) ⟨csb, cp⟩ (fun hS => ?_)
    refine wpAnyH_take (i := 1) (oi := { dst := some 16, op := Op.move (Operand.tmp 5), type := 83, pos := _, after := _, guard := none }) (v := (.pointer (some ⟨p.1, 0, none⟩))) rfl (by kernel_rfl) (by kernel_rfl) (by kernel_rfl) (fun _ _ _ h => nomatch h.1) (yieldsIf_move' (by kernel_rfl) (.tmp 5) (by kernel_rfl) (by kernel_rfl)) hS ?_
    try simp only [Act.put, List.setIfInBounds_toArray, List.set_cons_zero, List.set_cons_succ]
    refine wpAnyH_take (i := 2) (oi := { dst := some 17, op := Op.nilCheck (Operand.tmp 16), type := 0, pos := _, after := _, guard := none }) (v := (.pointer (some ⟨p.1, 0, none⟩))) rfl (by kernel_rfl) (by kernel_rfl) (by kernel_rfl) (fun _ _ _ h => nomatch h.1) (.inl ⟨by kernel_rfl, fun W' hW => by go_simp⟩) hS ?_
    try simp only [Act.put, List.setIfInBounds_toArray, List.set_cons_zero, List.set_cons_succ]
    refine wpAnyH_take (i := 3) (oi := { dst := some 18, op := Op.fieldAddr 85 (Operand.tmp 17) 0, type := 0, pos := _, after := _, guard := none }) (v := (.pointer (some ⟨p.1, 0, none⟩))) rfl (by kernel_rfl) (by kernel_rfl) (by kernel_rfl) (fun _ _ _ h => nomatch h.1) (.inl ⟨by kernel_rfl, fun W' hW => by go_simp⟩) hS ?_
    try simp only [Act.put, List.setIfInBounds_toArray, List.set_cons_zero, List.set_cons_succ]
    refine wpAnyH_take (i := 4) (oi := { dst := some 19, op := Op.load 2 (Operand.tmp 18), type := 2, pos := _, after := _, guard := none }) (v := (.int .i64 o.id)) rfl (by kernel_rfl) (by kernel_rfl) (by kernel_rfl) (fun _ _ _ h => nomatch h.1) (.inl ⟨by kernel_rfl, fun W' hW => by obtain ⟨c3, c4⟩ := hW; go_simp⟩) hS ?_
    try simp only [Act.put, List.setIfInBounds_toArray, List.set_cons_zero, List.set_cons_succ]
    refine wpAnyH_take (i := 8) (oi := { dst := some 23, op := Op.load 25 (Operand.tmp 1), type := 25, pos := _, after := _, guard := none }) (v := (.pointer (some ⟨b, 0, none⟩))) rfl (by kernel_rfl) (by kernel_rfl) (by kernel_rfl) (fun _ _ _ h => nomatch h.1) (.inl ⟨by kernel_rfl, fun W' hW => by obtain ⟨c3, c4⟩ := hW; go_simp⟩) hS ?_
    try simp only [Act.put, List.setIfInBounds_toArray, List.set_cons_zero, List.set_cons_succ]
    refine wpAnyH_take (i := 9) (oi := { dst := some 24, op := Op.move (Operand.tmp 5), type := 83, pos := _, after := _, guard := none }) (v := (.pointer (some ⟨p.1, 0, none⟩))) rfl (by kernel_rfl) (by kernel_rfl) (by kernel_rfl) (fun _ _ _ h => nomatch h.1) (yieldsIf_move' (by kernel_rfl) (.tmp 5) (by kernel_rfl) (by kernel_rfl)) hS ?_
    try simp only [Act.put, List.setIfInBounds_toArray, List.set_cons_zero, List.set_cons_succ]
    have K0 : Keeps (fun n => iv.ownBlock = some n ∨ dv.ownBlock = some n) W W.drew := (Keeps.refl _ W).drew
    have I0 : OwnS W.drew w2.heap.size 2 1 intL iv ((idsOf S).take pre.length) := h3
    have D0 : OwnS W.drew w2.heap.size 4 1 boolL dv ((dnOf S).take pre.length) := h4
    generalize W.drew = x0 at *
    refine wpAnyH_ready (rs := [0, 5, 7]) (by kernel_rfl) (by simp) ?_
    refine AllReadyH.cons rfl (fun K hK => ?_) ?_
    · have c1 : x0.cell? ⟨w.heap.size + 1, 0, none⟩ = some iv := cell_at ((K0.block _ (lt_of_obj h1) NI).trans h1) 0
      go_simp
      refine hK.out _ _ (hS) (fun hS1 => ?_)
      clear hK K
      try simp only [Act.put, List.setIfInBounds_toArray, List.set_cons_zero, List.set_cons_succ]
      refine wpAnyH_ready (rs := [5, 7]) (by kernel_rfl) (by simp) ?_
      refine AllReadyH.cons rfl (fun K hK => ?_) ?_
      · go_simp
        refine hK.out _ _ (SX _ (fun k hk hne => (obj_alloc_past x0 _ _ (by have := K0.size; omega)).trans (K0.block k hk hne))) (fun hS2 => ?_)
        clear hK K
        try simp only [Act.put, List.setIfInBounds_toArray, List.set_cons_zero, List.set_cons_succ]
        have o2 : obj (x0.alloc (.cells #[.int .i64 o.id] 2)) x0.heap.size = some (.cells (intL o.id).toArray 2 (0, 0)) := obj_alloc_at x0 _ _ rfl
        have K2 : Keeps (fun n => iv.ownBlock = some n ∨ dv.ownBlock = some n) W (x0.alloc (.cells #[.int .i64 o.id] 2)) := K0.alloc _
        have I2 := I0.alloc (.cells #[.int .i64 o.id] 2)
        have D2 := D0.alloc (.cells #[.int .i64 o.id] 2)
        have z2 : x0.heap.size + 1 = (x0.alloc (.cells #[.int .i64 o.id] 2)).heap.size := by simp
        generalize x0.alloc (.cells #[.int .i64 o.id] 2) = x2 at *
        refine wpAnyH_ready (rs := [6, 7]) (by kernel_rfl) (by simp) ?_
        refine AllReadyH.cons rfl (fun K hK => ?_) ?_
        · refine step93 rfl (.tmp 15) (.tmp 20) rfl w2.heap.size iv _ o.id rfl I2 (x0.heap.size) rfl o2 HLI.out (by have := K2.size; omega) ?_
          intro iv3 x3 I3 g3 q3
          have K3 : Keeps (fun n => iv.ownBlock = some n ∨ dv.ownBlock = some n) W x3 := K2.trans ⟨g3.os, g3.tape, g3.output, g3.size, fun k hk hne => g3.block k hk (fun e => hne (.inl e.symm))⟩
          refine hK.out _ _ (SX _ (fun k hk hne => K3.block k hk hne)) (fun hS3 => ?_)
          clear hK K
          try simp only [Act.put, List.setIfInBounds_toArray, List.set_cons_zero, List.set_cons_succ]
          have D3 := D2.keeps fun g hg => g3.block g (D2.1.lt g hg).2 (fun e => own_ne D2 I2 (by decide) g ⟨hg, e.symm⟩)
          have QI : ∀ g, iv3.ownBlock = some g → iv.ownBlock = some g ∨ W.heap.size ≤ g := fun g hg => by (rcases q3 with h | h; exact .inl (h ▸ hg); (rw [h] at hg; have := K2.size; exact .inr (by simp at hg; omega)))
          refine wpAnyH_ready (rs := [7, 10]) (by kernel_rfl) (by simp) ?_
          refine AllReadyH.cons rfl (fun K hK => ?_) ?_
          · have c4 : x3.cell? ⟨w.heap.size + 1 + 1, 0, none⟩ = some dv := cell_at ((K3.block _ (lt_of_obj h2) ND).trans h2) 0
            go_simp
            refine hK.out _ _ (hS3) (fun hS4 => ?_)
            clear hK K
            try simp only [Act.put, List.setIfInBounds_toArray, List.set_cons_zero, List.set_cons_succ]
            refine wpAnyH_ready (rs := [10]) (by kernel_rfl) (by simp) ?_
            refine AllReadyH.cons rfl (fun K hK => ?_) ?_
            · go_simp
              refine (done_any x3 M V b _ ps S (sX.frame (W := x3) K3.size (fun n hn hmv => K3.block n hn (NO n hmv))) pre.length p o hpi hoi (HOK.out.one o (List.mem_of_getElem? hoi))).mono ?_
              rintro _ x5 ⟨rfl, b5⟩
              have K5 : Keeps (fun n => iv.ownBlock = some n ∨ dv.ownBlock = some n) W x5 := K3.trans (Keeps.of_below b5)
              refine hK.out _ _ (SX _ (fun k hk hne => K5.block k hk hne)) (fun hS5 => ?_)
              clear hK K
              try simp only [Act.put, List.setIfInBounds_toArray, List.set_cons_zero, List.set_cons_succ]
              have D5 := D3.keeps fun g hg => obj_below b5 (D3.1.lt g hg).2
              have I5 := I3.keeps fun g hg => obj_below b5 (I3.1.lt g hg).2
              refine wpAnyH_ready (rs := [11]) (by kernel_rfl) (by simp) ?_
              refine AllReadyH.cons rfl (fun K hK => ?_) ?_
              · go_simp
                refine hK.out _ _ (SX _ (fun k hk hne => (obj_alloc_past x5 _ _ (by have := K5.size; omega)).trans (K5.block k hk hne))) (fun hS6 => ?_)
                clear hK K
                try simp only [Act.put, List.setIfInBounds_toArray, List.set_cons_zero, List.set_cons_succ]
                have o6 : obj (x5.alloc (.cells #[.bool (isDone S o)] 4)) x5.heap.size = some (.cells (boolL (isDone S o)).toArray 4 (0, 0)) := obj_alloc_at x5 _ _ rfl
                have K6 : Keeps (fun n => iv.ownBlock = some n ∨ dv.ownBlock = some n) W (x5.alloc (.cells #[.bool (isDone S o)] 4)) := K5.alloc _
                have I6 := I5.alloc (.cells #[.bool (isDone S o)] 4)
                have D6 := D5.alloc (.cells #[.bool (isDone S o)] 4)
                have z6 : x5.heap.size + 1 = (x5.alloc (.cells #[.bool (isDone S o)] 4)).heap.size := by simp
                generalize x5.alloc (.cells #[.bool (isDone S o)] 4) = x6 at *
                refine wpAnyH_ready (rs := [12]) (by kernel_rfl) (by simp) ?_
                refine AllReadyH.cons rfl (fun K hK => ?_) ?_
                · refine step94 rfl (.tmp 22) (.tmp 26) rfl w2.heap.size dv _ (isDone S o) rfl D6 (x5.heap.size) rfl o6 HLD.out (by have := K6.size; omega) ?_
                  intro dv7 x7 D7 g7 q7
                  have K7 : Keeps (fun n => iv.ownBlock = some n ∨ dv.ownBlock = some n) W x7 := K6.trans ⟨g7.os, g7.tape, g7.output, g7.size, fun k hk hne => g7.block k hk (fun e => hne (.inr e.symm))⟩
                  refine hK.out _ _ (SX _ (fun k hk hne => K7.block k hk hne)) (fun hS7 => ?_)
                  clear hK K
                  try simp only [Act.put, List.setIfInBounds_toArray, List.set_cons_zero, List.set_cons_succ]
                  have I7 := I6.keeps fun g hg => g7.block g (I6.1.lt g hg).2 (fun e => own_ne I6 D6 (by decide) g ⟨hg, e.symm⟩)
                  have QD : ∀ g, dv7.ownBlock = some g → dv.ownBlock = some g ∨ W.heap.size ≤ g := fun g hg => by (rcases q7 with h | h; exact .inl (h ▸ hg); (rw [h] at hg; have := K6.size; exact .inr (by simp at hg; omega)))
                  have bi7 := (K7.block _ (lt_of_obj h1) NI).trans h1
                  have bd7 := (K7.block _ (lt_of_obj h2) ND).trans h2
                  have bs7 := (K7.block _ (lt_of_obj h5) NSB).trans h5
                  have bp7 := (K7.block _ (lt_of_obj hov.at_) (NO _ (.inl hpM))).trans hov.at_
                  refine wpAnyH_ready (rs := [13]) (by kernel_rfl) (by simp) ?_
                  refine AllReadyH.cons rfl (fun K hK => ?_) ?_
                  · obtain ⟨va8, vc8, e8⟩ := I7.slice
                    generalize List.length _ = vn8 at e8
                    subst e8
                    have c8 := cell_at bi7 0
                    have f8 := frozen_at bi7 0
                    have l8 := lt_of_obj bi7
                    go_simp
                    refine hK.out _ _ (⟨(cell_at ((obj_setCell_ne _ ⟨w.heap.size + 1, 0, none⟩ _ _ (by first | omega | (dsimp only; omega))).trans bs7) 0).trans rfl, (cell_at ((obj_setCell_ne _ ⟨w.heap.size + 1, 0, none⟩ _ _ PNE13).trans bp7) 0).trans rfl⟩) (fun hS8 => ?_)
                    clear hK K
                    try simp only [Act.put, List.setIfInBounds_toArray, List.set_cons_zero, List.set_cons_succ]
                    have bx8 : obj (x7.setCell ⟨w.heap.size + 1, 0, none⟩ (.slice va8 vn8 vc8)) (w.heap.size + 1) = some (.cells #[(.slice va8 vn8 vc8)] 93 (0, 0)) := obj_setCell_at (.slice va8 vn8 vc8) bi7
                    have by8 : obj (x7.setCell ⟨w.heap.size + 1, 0, none⟩ (.slice va8 vn8 vc8)) _ = _ := (obj_setCell_ne _ ⟨w.heap.size + 1, 0, none⟩ _ _ (by first | omega | (dsimp only; omega))).trans bd7
                    have bs8 : obj (x7.setCell ⟨w.heap.size + 1, 0, none⟩ (.slice va8 vn8 vc8)) _ = _ := (obj_setCell_ne _ ⟨w.heap.size + 1, 0, none⟩ _ _ (by first | omega | (dsimp only; omega))).trans bs7
                    have bp8 : obj (x7.setCell ⟨w.heap.size + 1, 0, none⟩ (.slice va8 vn8 vc8)) _ = _ := (obj_setCell_ne _ ⟨w.heap.size + 1, 0, none⟩ _ _ PNE13).trans bp7
                    have I8 := I7.keeps (W := (x7.setCell ⟨w.heap.size + 1, 0, none⟩ (.slice va8 vn8 vc8))) fun g hg => obj_setCell_ne _ ⟨w.heap.size + 1, 0, none⟩ _ _ (by have := (I7.1.lt g hg).1; dsimp only; omega)
                    have D8 := D7.keeps (W := (x7.setCell ⟨w.heap.size + 1, 0, none⟩ (.slice va8 vn8 vc8))) fun g hg => obj_setCell_ne _ ⟨w.heap.size + 1, 0, none⟩ _ _ (by have := (D7.1.lt g hg).1; dsimp only; omega)
                    have K8 : Keeps (fun n => n = w.heap.size + 1 ∨ n = w.heap.size + 1 + 1 ∨ iv.ownBlock = some n ∨ dv.ownBlock = some n) W (x7.setCell ⟨w.heap.size + 1, 0, none⟩ (.slice va8 vn8 vc8)) := (K7.mono (fun n hn => by first | exact .inr (.inr hn) | exact hn)).setCell (a := ⟨w.heap.size + 1, 0, none⟩) (.inl (by simp)) _
                    generalize x7.setCell ⟨w.heap.size + 1, 0, none⟩ (.slice va8 vn8 vc8) = x8 at *
                    refine wpAnyH_ready (rs := [14]) (by kernel_rfl) (by simp) ?_
                    refine AllReadyH.cons rfl (fun K hK => ?_) ?_
                    · obtain ⟨va9, vc9, e9⟩ := D8.slice
                      generalize List.length _ = vn9 at e9
                      subst e9
                      have c9 := cell_at by8 0
                      have f9 := frozen_at by8 0
                      have l9 := lt_of_obj by8
                      go_simp
                      refine hK.out _ _ (⟨(cell_at ((obj_setCell_ne _ ⟨w.heap.size + 1 + 1, 0, none⟩ _ _ (by first | omega | (dsimp only; omega))).trans bs8) 0).trans rfl, (cell_at ((obj_setCell_ne _ ⟨w.heap.size + 1 + 1, 0, none⟩ _ _ PNE14).trans bp8) 0).trans rfl⟩) (fun hS9 => ?_)
                      clear hK K
                      try simp only [Act.put, List.setIfInBounds_toArray, List.set_cons_zero, List.set_cons_succ]
                      have bx9 : obj (x8.setCell ⟨w.heap.size + 1 + 1, 0, none⟩ (.slice va9 vn9 vc9)) (w.heap.size + 1 + 1) = some (.cells #[(.slice va9 vn9 vc9)] 94 (0, 0)) := obj_setCell_at (.slice va9 vn9 vc9) by8
                      have by9 : obj (x8.setCell ⟨w.heap.size + 1 + 1, 0, none⟩ (.slice va9 vn9 vc9)) _ = _ := (obj_setCell_ne _ ⟨w.heap.size + 1 + 1, 0, none⟩ _ _ (by first | omega | (dsimp only; omega))).trans bx8
                      have bs9 : obj (x8.setCell ⟨w.heap.size + 1 + 1, 0, none⟩ (.slice va9 vn9 vc9)) _ = _ := (obj_setCell_ne _ ⟨w.heap.size + 1 + 1, 0, none⟩ _ _ (by first | omega | (dsimp only; omega))).trans bs8
                      have bp9 : obj (x8.setCell ⟨w.heap.size + 1 + 1, 0, none⟩ (.slice va9 vn9 vc9)) _ = _ := (obj_setCell_ne _ ⟨w.heap.size + 1 + 1, 0, none⟩ _ _ PNE14).trans bp8
                      have I9 := I8.keeps (W := (x8.setCell ⟨w.heap.size + 1 + 1, 0, none⟩ (.slice va9 vn9 vc9))) fun g hg => obj_setCell_ne _ ⟨w.heap.size + 1 + 1, 0, none⟩ _ _ (by have := (I8.1.lt g hg).1; dsimp only; omega)
                      have D9 := D8.keeps (W := (x8.setCell ⟨w.heap.size + 1 + 1, 0, none⟩ (.slice va9 vn9 vc9))) fun g hg => obj_setCell_ne _ ⟨w.heap.size + 1 + 1, 0, none⟩ _ _ (by have := (D8.1.lt g hg).1; dsimp only; omega)
                      have K9 : Keeps (fun n => n = w.heap.size + 1 ∨ n = w.heap.size + 1 + 1 ∨ iv.ownBlock = some n ∨ dv.ownBlock = some n) W (x8.setCell ⟨w.heap.size + 1 + 1, 0, none⟩ (.slice va9 vn9 vc9)) := (K8.mono (fun n hn => by first | exact .inr (.inr hn) | exact hn)).setCell (a := ⟨w.heap.size + 1 + 1, 0, none⟩) (.inl (by simp)) _
                      generalize x8.setCell ⟨w.heap.size + 1 + 1, 0, none⟩ (.slice va9 vn9 vc9) = x9 at *
                      refine wpAnyH_done (by kernel_rfl) ⟨rfl, ?_⟩ _
                      gi_wp2
                      exact ⟨_, ⟨_, _, by9, bx9, by rw [HTI.out]; exact I9, by rw [HTD.out]; exact D9, bs9, h6.trans (K9.below (fun n hn => BLO n hn) h6.size), Nat.le_trans h7 K9.size, rfl⟩, K9, fun n hn => by
                        rcases hn with h | h | h | h
                        · exact .inl (.inl h)
                        · exact .inl (.inr (.inl h))
                        · exact (QI n h).imp (fun h => .inr (.inr (.inl h))) id
                        · exact (QD n h).imp (fun h => .inr (.inr (.inr h))) id⟩
                    exact AllReadyH.nil
                  exact AllReadyH.nil
                exact AllReadyH.nil
              exact AllReadyH.nil
            exact AllReadyH.nil
          refine AllReadyH.cons rfl (fun K hK => ?_) ?_
          · go_simp
            refine (done_any x3 M V b _ ps S (sX.frame (W := x3) K3.size (fun n hn hmv => K3.block n hn (NO n hmv))) pre.length p o hpi hoi (HOK.out.one o (List.mem_of_getElem? hoi))).mono ?_
            rintro _ x10 ⟨rfl, b10⟩
            have K10 : Keeps (fun n => iv.ownBlock = some n ∨ dv.ownBlock = some n) W x10 := K3.trans (Keeps.of_below b10)
            refine hK.out _ _ (SX _ (fun k hk hne => K10.block k hk hne)) (fun hS10 => ?_)
            clear hK K
            try simp only [Act.put, List.setIfInBounds_toArray, List.set_cons_zero, List.set_cons_succ]
            have D10 := D3.keeps fun g hg => obj_below b10 (D3.1.lt g hg).2
            have I10 := I3.keeps fun g hg => obj_below b10 (I3.1.lt g hg).2
            refine wpAnyH_ready (rs := [7, 11]) (by kernel_rfl) (by simp) ?_
            refine AllReadyH.cons rfl (fun K hK => ?_) ?_
            · have c11 : x10.cell? ⟨w.heap.size + 1 + 1, 0, none⟩ = some dv := cell_at ((K10.block _ (lt_of_obj h2) ND).trans h2) 0
              go_simp
              refine hK.out _ _ (hS10) (fun hS11 => ?_)
              clear hK K
              try simp only [Act.put, List.setIfInBounds_toArray, List.set_cons_zero, List.set_cons_succ]
              refine wpAnyH_ready (rs := [11]) (by kernel_rfl) (by simp) ?_
              refine AllReadyH.cons rfl (fun K hK => ?_) ?_
              · go_simp
                refine hK.out _ _ (SX _ (fun k hk hne => (obj_alloc_past x10 _ _ (by have := K10.size; omega)).trans (K10.block k hk hne))) (fun hS12 => ?_)
                clear hK K
                try simp only [Act.put, List.setIfInBounds_toArray, List.set_cons_zero, List.set_cons_succ]
                have o12 : obj (x10.alloc (.cells #[.bool (isDone S o)] 4)) x10.heap.size = some (.cells (boolL (isDone S o)).toArray 4 (0, 0)) := obj_alloc_at x10 _ _ rfl
                have K12 : Keeps (fun n => iv.ownBlock = some n ∨ dv.ownBlock = some n) W (x10.alloc (.cells #[.bool (isDone S o)] 4)) := K10.alloc _
                have I12 := I10.alloc (.cells #[.bool (isDone S o)] 4)
                have D12 := D10.alloc (.cells #[.bool (isDone S o)] 4)
                have z12 : x10.heap.size + 1 = (x10.alloc (.cells #[.bool (isDone S o)] 4)).heap.size := by simp
                generalize x10.alloc (.cells #[.bool (isDone S o)] 4) = x12 at *
                refine wpAnyH_ready (rs := [12]) (by kernel_rfl) (by simp) ?_
                refine AllReadyH.cons rfl (fun K hK => ?_) ?_
                · refine step94 rfl (.tmp 22) (.tmp 26) rfl w2.heap.size dv _ (isDone S o) rfl D12 (x10.heap.size) rfl o12 HLD.out (by have := K12.size; omega) ?_
                  intro dv13 x13 D13 g13 q13
                  have K13 : Keeps (fun n => iv.ownBlock = some n ∨ dv.ownBlock = some n) W x13 := K12.trans ⟨g13.os, g13.tape, g13.output, g13.size, fun k hk hne => g13.block k hk (fun e => hne (.inr e.symm))⟩
                  refine hK.out _ _ (SX _ (fun k hk hne => K13.block k hk hne)) (fun hS13 => ?_)
                  clear hK K
                  try simp only [Act.put, List.setIfInBounds_toArray, List.set_cons_zero, List.set_cons_succ]
                  have I13 := I12.keeps fun g hg => g13.block g (I12.1.lt g hg).2 (fun e => own_ne I12 D12 (by decide) g ⟨hg, e.symm⟩)
                  have QD : ∀ g, dv13.ownBlock = some g → dv.ownBlock = some g ∨ W.heap.size ≤ g := fun g hg => by (rcases q13 with h | h; exact .inl (h ▸ hg); (rw [h] at hg; have := K12.size; exact .inr (by simp at hg; omega)))
                  have bi13 := (K13.block _ (lt_of_obj h1) NI).trans h1
                  have bd13 := (K13.block _ (lt_of_obj h2) ND).trans h2
                  have bs13 := (K13.block _ (lt_of_obj h5) NSB).trans h5
                  have bp13 := (K13.block _ (lt_of_obj hov.at_) (NO _ (.inl hpM))).trans hov.at_
                  refine wpAnyH_ready (rs := [13]) (by kernel_rfl) (by simp) ?_
                  refine AllReadyH.cons rfl (fun K hK => ?_) ?_
                  · obtain ⟨va14, vc14, e14⟩ := I13.slice
                    generalize List.length _ = vn14 at e14
                    subst e14
                    have c14 := cell_at bi13 0
                    have f14 := frozen_at bi13 0
                    have l14 := lt_of_obj bi13
                    go_simp
                    refine hK.out _ _ (⟨(cell_at ((obj_setCell_ne _ ⟨w.heap.size + 1, 0, none⟩ _ _ (by first | omega | (dsimp only; omega))).trans bs13) 0).trans rfl, (cell_at ((obj_setCell_ne _ ⟨w.heap.size + 1, 0, none⟩ _ _ PNE13).trans bp13) 0).trans rfl⟩) (fun hS14 => ?_)
                    clear hK K
                    try simp only [Act.put, List.setIfInBounds_toArray, List.set_cons_zero, List.set_cons_succ]
                    have bx14 : obj (x13.setCell ⟨w.heap.size + 1, 0, none⟩ (.slice va14 vn14 vc14)) (w.heap.size + 1) = some (.cells #[(.slice va14 vn14 vc14)] 93 (0, 0)) := obj_setCell_at (.slice va14 vn14 vc14) bi13
                    have by14 : obj (x13.setCell ⟨w.heap.size + 1, 0, none⟩ (.slice va14 vn14 vc14)) _ = _ := (obj_setCell_ne _ ⟨w.heap.size + 1, 0, none⟩ _ _ (by first | omega | (dsimp only; omega))).trans bd13
                    have bs14 : obj (x13.setCell ⟨w.heap.size + 1, 0, none⟩ (.slice va14 vn14 vc14)) _ = _ := (obj_setCell_ne _ ⟨w.heap.size + 1, 0, none⟩ _ _ (by first | omega | (dsimp only; omega))).trans bs13
                    have bp14 : obj (x13.setCell ⟨w.heap.size + 1, 0, none⟩ (.slice va14 vn14 vc14)) _ = _ := (obj_setCell_ne _ ⟨w.heap.size + 1, 0, none⟩ _ _ PNE13).trans bp13
                    have I14 := I13.keeps (W := (x13.setCell ⟨w.heap.size + 1, 0, none⟩ (.slice va14 vn14 vc14))) fun g hg => obj_setCell_ne _ ⟨w.heap.size + 1, 0, none⟩ _ _ (by have := (I13.1.lt g hg).1; dsimp only; omega)
                    have D14 := D13.keeps (W := (x13.setCell ⟨w.heap.size + 1, 0, none⟩ (.slice va14 vn14 vc14))) fun g hg => obj_setCell_ne _ ⟨w.heap.size + 1, 0, none⟩ _ _ (by have := (D13.1.lt g hg).1; dsimp only; omega)
                    have K14 : Keeps (fun n => n = w.heap.size + 1 ∨ n = w.heap.size + 1 + 1 ∨ iv.ownBlock = some n ∨ dv.ownBlock = some n) W (x13.setCell ⟨w.heap.size + 1, 0, none⟩ (.slice va14 vn14 vc14)) := (K13.mono (fun n hn => by first | exact .inr (.inr hn) | exact hn)).setCell (a := ⟨w.heap.size + 1, 0, none⟩) (.inl (by simp)) _
                    generalize x13.setCell ⟨w.heap.size + 1, 0, none⟩ (.slice va14 vn14 vc14) = x14 at *
                    refine wpAnyH_ready (rs := [14]) (by kernel_rfl) (by simp) ?_
                    refine AllReadyH.cons rfl (fun K hK => ?_) ?_
                    · obtain ⟨va15, vc15, e15⟩ := D14.slice
                      generalize List.length _ = vn15 at e15
                      subst e15
                      have c15 := cell_at by14 0
                      have f15 := frozen_at by14 0
                      have l15 := lt_of_obj by14
                      go_simp
                      refine hK.out _ _ (⟨(cell_at ((obj_setCell_ne _ ⟨w.heap.size + 1 + 1, 0, none⟩ _ _ (by first | omega | (dsimp only; omega))).trans bs14) 0).trans rfl, (cell_at ((obj_setCell_ne _ ⟨w.heap.size + 1 + 1, 0, none⟩ _ _ PNE14).trans bp14) 0).trans rfl⟩) (fun hS15 => ?_)
                      clear hK K
                      try simp only [Act.put, List.setIfInBounds_toArray, List.set_cons_zero, List.set_cons_succ]
                      have bx15 : obj (x14.setCell ⟨w.heap.size + 1 + 1, 0, none⟩ (.slice va15 vn15 vc15)) (w.heap.size + 1 + 1) = some (.cells #[(.slice va15 vn15 vc15)] 94 (0, 0)) := obj_setCell_at (.slice va15 vn15 vc15) by14
                      have by15 : obj (x14.setCell ⟨w.heap.size + 1 + 1, 0, none⟩ (.slice va15 vn15 vc15)) _ = _ := (obj_setCell_ne _ ⟨w.heap.size + 1 + 1, 0, none⟩ _ _ (by first | omega | (dsimp only; omega))).trans bx14
                      have bs15 : obj (x14.setCell ⟨w.heap.size + 1 + 1, 0, none⟩ (.slice va15 vn15 vc15)) _ = _ := (obj_setCell_ne _ ⟨w.heap.size + 1 + 1, 0, none⟩ _ _ (by first | omega | (dsimp only; omega))).trans bs14
                      have bp15 : obj (x14.setCell ⟨w.heap.size + 1 + 1, 0, none⟩ (.slice va15 vn15 vc15)) _ = _ := (obj_setCell_ne _ ⟨w.heap.size + 1 + 1, 0, none⟩ _ _ PNE14).trans bp14
                      have I15 := I14.keeps (W := (x14.setCell ⟨w.heap.size + 1 + 1, 0, none⟩ (.slice va15 vn15 vc15))) fun g hg => obj_setCell_ne _ ⟨w.heap.size + 1 + 1, 0, none⟩ _ _ (by have := (I14.1.lt g hg).1; dsimp only; omega)
                      have D15 := D14.keeps (W := (x14.setCell ⟨w.heap.size + 1 + 1, 0, none⟩ (.slice va15 vn15 vc15))) fun g hg => obj_setCell_ne _ ⟨w.heap.size + 1 + 1, 0, none⟩ _ _ (by have := (D14.1.lt g hg).1; dsimp only; omega)
                      have K15 : Keeps (fun n => n = w.heap.size + 1 ∨ n = w.heap.size + 1 + 1 ∨ iv.ownBlock = some n ∨ dv.ownBlock = some n) W (x14.setCell ⟨w.heap.size + 1 + 1, 0, none⟩ (.slice va15 vn15 vc15)) := (K14.mono (fun n hn => by first | exact .inr (.inr hn) | exact hn)).setCell (a := ⟨w.heap.size + 1 + 1, 0, none⟩) (.inl (by simp)) _
                      generalize x14.setCell ⟨w.heap.size + 1 + 1, 0, none⟩ (.slice va15 vn15 vc15) = x15 at *
                      refine wpAnyH_done (by kernel_rfl) ⟨rfl, ?_⟩ _
                      gi_wp2
                      exact ⟨_, ⟨_, _, by15, bx15, by rw [HTI.out]; exact I15, by rw [HTD.out]; exact D15, bs15, h6.trans (K15.below (fun n hn => BLO n hn) h6.size), Nat.le_trans h7 K15.size, rfl⟩, K15, fun n hn => by
                        rcases hn with h | h | h | h
                        · exact .inl (.inl h)
                        · exact .inl (.inr (.inl h))
                        · exact (QI n h).imp (fun h => .inr (.inr (.inl h))) id
                        · exact (QD n h).imp (fun h => .inr (.inr (.inr h))) id⟩
                    exact AllReadyH.nil
                  exact AllReadyH.nil
                exact AllReadyH.nil
              exact AllReadyH.nil
            refine AllReadyH.cons rfl (fun K hK => ?_) ?_
            · go_simp
              refine hK.out _ _ (SX _ (fun k hk hne => (obj_alloc_past x10 _ _ (by have := K10.size; omega)).trans (K10.block k hk hne))) (fun hS16 => ?_)
              clear hK K
              try simp only [Act.put, List.setIfInBounds_toArray, List.set_cons_zero, List.set_cons_succ]
              have o16 : obj (x10.alloc (.cells #[.bool (isDone S o)] 4)) x10.heap.size = some (.cells (boolL (isDone S o)).toArray 4 (0, 0)) := obj_alloc_at x10 _ _ rfl
              have K16 : Keeps (fun n => iv.ownBlock = some n ∨ dv.ownBlock = some n) W (x10.alloc (.cells #[.bool (isDone S o)] 4)) := K10.alloc _
              have I16 := I10.alloc (.cells #[.bool (isDone S o)] 4)
              have D16 := D10.alloc (.cells #[.bool (isDone S o)] 4)
              have z16 : x10.heap.size + 1 = (x10.alloc (.cells #[.bool (isDone S o)] 4)).heap.size := by simp
              generalize x10.alloc (.cells #[.bool (isDone S o)] 4) = x16 at *
              refine wpAnyH_ready (rs := [7]) (by kernel_rfl) (by simp) ?_
              refine AllReadyH.cons rfl (fun K hK => ?_) ?_
              · have c17 : x16.cell? ⟨w.heap.size + 1 + 1, 0, none⟩ = some dv := cell_at ((K16.block _ (lt_of_obj h2) ND).trans h2) 0
                go_simp
                refine hK.out _ _ (hS16) (fun hS17 => ?_)
                clear hK K
                try simp only [Act.put, List.setIfInBounds_toArray, List.set_cons_zero, List.set_cons_succ]
                refine wpAnyH_ready (rs := [12]) (by kernel_rfl) (by simp) ?_
                refine AllReadyH.cons rfl (fun K hK => ?_) ?_
                · refine step94 rfl (.tmp 22) (.tmp 26) rfl w2.heap.size dv _ (isDone S o) rfl D16 (x10.heap.size) rfl o16 HLD.out (by have := K16.size; omega) ?_
                  intro dv18 x18 D18 g18 q18
                  have K18 : Keeps (fun n => iv.ownBlock = some n ∨ dv.ownBlock = some n) W x18 := K16.trans ⟨g18.os, g18.tape, g18.output, g18.size, fun k hk hne => g18.block k hk (fun e => hne (.inr e.symm))⟩
                  refine hK.out _ _ (SX _ (fun k hk hne => K18.block k hk hne)) (fun hS18 => ?_)
                  clear hK K
                  try simp only [Act.put, List.setIfInBounds_toArray, List.set_cons_zero, List.set_cons_succ]
                  have I18 := I16.keeps fun g hg => g18.block g (I16.1.lt g hg).2 (fun e => own_ne I16 D16 (by decide) g ⟨hg, e.symm⟩)
                  have QD : ∀ g, dv18.ownBlock = some g → dv.ownBlock = some g ∨ W.heap.size ≤ g := fun g hg => by (rcases q18 with h | h; exact .inl (h ▸ hg); (rw [h] at hg; have := K16.size; exact .inr (by simp at hg; omega)))
                  have bi18 := (K18.block _ (lt_of_obj h1) NI).trans h1
                  have bd18 := (K18.block _ (lt_of_obj h2) ND).trans h2
                  have bs18 := (K18.block _ (lt_of_obj h5) NSB).trans h5
                  have bp18 := (K18.block _ (lt_of_obj hov.at_) (NO _ (.inl hpM))).trans hov.at_
                  refine wpAnyH_ready (rs := [13]) (by kernel_rfl) (by simp) ?_
                  refine AllReadyH.cons rfl (fun K hK => ?_) ?_
                  · obtain ⟨va19, vc19, e19⟩ := I18.slice
                    generalize List.length _ = vn19 at e19
                    subst e19
                    have c19 := cell_at bi18 0
                    have f19 := frozen_at bi18 0
                    have l19 := lt_of_obj bi18
                    go_simp
                    refine hK.out _ _ (⟨(cell_at ((obj_setCell_ne _ ⟨w.heap.size + 1, 0, none⟩ _ _ (by first | omega | (dsimp only; omega))).trans bs18) 0).trans rfl, (cell_at ((obj_setCell_ne _ ⟨w.heap.size + 1, 0, none⟩ _ _ PNE13).trans bp18) 0).trans rfl⟩) (fun hS19 => ?_)
                    clear hK K
                    try simp only [Act.put, List.setIfInBounds_toArray, List.set_cons_zero, List.set_cons_succ]
                    have bx19 : obj (x18.setCell ⟨w.heap.size + 1, 0, none⟩ (.slice va19 vn19 vc19)) (w.heap.size + 1) = some (.cells #[(.slice va19 vn19 vc19)] 93 (0, 0)) := obj_setCell_at (.slice va19 vn19 vc19) bi18
                    have by19 : obj (x18.setCell ⟨w.heap.size + 1, 0, none⟩ (.slice va19 vn19 vc19)) _ = _ := (obj_setCell_ne _ ⟨w.heap.size + 1, 0, none⟩ _ _ (by first | omega | (dsimp only; omega))).trans bd18
                    have bs19 : obj (x18.setCell ⟨w.heap.size + 1, 0, none⟩ (.slice va19 vn19 vc19)) _ = _ := (obj_setCell_ne _ ⟨w.heap.size + 1, 0, none⟩ _ _ (by first | omega | (dsimp only; omega))).trans bs18
                    have bp19 : obj (x18.setCell ⟨w.heap.size + 1, 0, none⟩ (.slice va19 vn19 vc19)) _ = _ := (obj_setCell_ne _ ⟨w.heap.size + 1, 0, none⟩ _ _ PNE13).trans bp18
                    have I19 := I18.keeps (W := (x18.setCell ⟨w.heap.size + 1, 0, none⟩ (.slice va19 vn19 vc19))) fun g hg => obj_setCell_ne _ ⟨w.heap.size + 1, 0, none⟩ _ _ (by have := (I18.1.lt g hg).1; dsimp only; omega)
                    have D19 := D18.keeps (W := (x18.setCell ⟨w.heap.size + 1, 0, none⟩ (.slice va19 vn19 vc19))) fun g hg => obj_setCell_ne _ ⟨w.heap.size + 1, 0, none⟩ _ _ (by have := (D18.1.lt g hg).1; dsimp only; omega)
                    have K19 : Keeps (fun n => n = w.heap.size + 1 ∨ n = w.heap.size + 1 + 1 ∨ iv.ownBlock = some n ∨ dv.ownBlock = some n) W (x18.setCell ⟨w.heap.size + 1, 0, none⟩ (.slice va19 vn19 vc19)) := (K18.mono (fun n hn => by first | exact .inr (.inr hn) | exact hn)).setCell (a := ⟨w.heap.size + 1, 0, none⟩) (.inl (by simp)) _
                    generalize x18.setCell ⟨w.heap.size + 1, 0, none⟩ (.slice va19 vn19 vc19) = x19 at *
                    refine wpAnyH_ready (rs := [14]) (by kernel_rfl) (by simp) ?_
                    refine AllReadyH.cons rfl (fun K hK => ?_) ?_
                    · obtain ⟨va20, vc20, e20⟩ := D19.slice
                      generalize List.length _ = vn20 at e20
                      subst e20
                      have c20 := cell_at by19 0
                      have f20 := frozen_at by19 0
                      have l20 := lt_of_obj by19
                      go_simp
                      refine hK.out _ _ (⟨(cell_at ((obj_setCell_ne _ ⟨w.heap.size + 1 + 1, 0, none⟩ _ _ (by first | omega | (dsimp only; omega))).trans bs19) 0).trans rfl, (cell_at ((obj_setCell_ne _ ⟨w.heap.size + 1 + 1, 0, none⟩ _ _ PNE14).trans bp19) 0).trans rfl⟩) (fun hS20 => ?_)
                      clear hK K
                      try simp only [Act.put, List.setIfInBounds_toArray, List.set_cons_zero, List.set_cons_succ]
                      have bx20 : obj (x19.setCell ⟨w.heap.size + 1 + 1, 0, none⟩ (.slice va20 vn20 vc20)) (w.heap.size + 1 + 1) = some (.cells #[(.slice va20 vn20 vc20)] 94 (0, 0)) := obj_setCell_at (.slice va20 vn20 vc20) by19
                      have by20 : obj (x19.setCell ⟨w.heap.size + 1 + 1, 0, none⟩ (.slice va20 vn20 vc20)) _ = _ := (obj_setCell_ne _ ⟨w.heap.size + 1 + 1, 0, none⟩ _ _ (by first | omega | (dsimp only; omega))).trans bx19
                      have bs20 : obj (x19.setCell ⟨w.heap.size + 1 + 1, 0, none⟩ (.slice va20 vn20 vc20)) _ = _ := (obj_setCell_ne _ ⟨w.heap.size + 1 + 1, 0, none⟩ _ _ (by first | omega | (dsimp only; omega))).trans bs19
                      have bp20 : obj (x19.setCell ⟨w.heap.size + 1 + 1, 0, none⟩ (.slice va20 vn20 vc20)) _ = _ := (obj_setCell_ne _ ⟨w.heap.size + 1 + 1, 0, none⟩ _ _ PNE14).trans bp19
                      have I20 := I19.keeps (W := (x19.setCell ⟨w.heap.size + 1 + 1, 0, none⟩ (.slice va20 vn20 vc20))) fun g hg => obj_setCell_ne _ ⟨w.heap.size + 1 + 1, 0, none⟩ _ _ (by have := (I19.1.lt g hg).1; dsimp only; omega)
                      have D20 := D19.keeps (W := (x19.setCell ⟨w.heap.size + 1 + 1, 0, none⟩ (.slice va20 vn20 vc20))) fun g hg => obj_setCell_ne _ ⟨w.heap.size + 1 + 1, 0, none⟩ _ _ (by have := (D19.1.lt g hg).1; dsimp only; omega)
                      have K20 : Keeps (fun n => n = w.heap.size + 1 ∨ n = w.heap.size + 1 + 1 ∨ iv.ownBlock = some n ∨ dv.ownBlock = some n) W (x19.setCell ⟨w.heap.size + 1 + 1, 0, none⟩ (.slice va20 vn20 vc20)) := (K19.mono (fun n hn => by first | exact .inr (.inr hn) | exact hn)).setCell (a := ⟨w.heap.size + 1 + 1, 0, none⟩) (.inl (by simp)) _
                      generalize x19.setCell ⟨w.heap.size + 1 + 1, 0, none⟩ (.slice va20 vn20 vc20) = x20 at *
                      refine wpAnyH_done (by kernel_rfl) ⟨rfl, ?_⟩ _
                      gi_wp2
                      exact ⟨_, ⟨_, _, by20, bx20, by rw [HTI.out]; exact I20, by rw [HTD.out]; exact D20, bs20, h6.trans (K20.below (fun n hn => BLO n hn) h6.size), Nat.le_trans h7 K20.size, rfl⟩, K20, fun n hn => by
                        rcases hn with h | h | h | h
                        · exact .inl (.inl h)
                        · exact .inl (.inr (.inl h))
                        · exact (QI n h).imp (fun h => .inr (.inr (.inl h))) id
                        · exact (QD n h).imp (fun h => .inr (.inr (.inr h))) id⟩
                    exact AllReadyH.nil
                  exact AllReadyH.nil
                exact AllReadyH.nil
              exact AllReadyH.nil
            exact AllReadyH.nil
          exact AllReadyH.nil
        refine AllReadyH.cons rfl (fun K hK => ?_) ?_
        · have c21 : x2.cell? ⟨w.heap.size + 1 + 1, 0, none⟩ = some dv := cell_at ((K2.block _ (lt_of_obj h2) ND).trans h2) 0
          go_simp
          refine hK.out _ _ (hS2) (fun hS21 => ?_)
          clear hK K
          try simp only [Act.put, List.setIfInBounds_toArray, List.set_cons_zero, List.set_cons_succ]
          refine wpAnyH_ready (rs := [6]) (by kernel_rfl) (by simp) ?_
          refine AllReadyH.cons rfl (fun K hK => ?_) ?_
          · refine step93 rfl (.tmp 15) (.tmp 20) rfl w2.heap.size iv _ o.id rfl I2 (x0.heap.size) rfl o2 HLI.out (by have := K2.size; omega) ?_
            intro iv22 x22 I22 g22 q22
            have K22 : Keeps (fun n => iv.ownBlock = some n ∨ dv.ownBlock = some n) W x22 := K2.trans ⟨g22.os, g22.tape, g22.output, g22.size, fun k hk hne => g22.block k hk (fun e => hne (.inl e.symm))⟩
            refine hK.out _ _ (SX _ (fun k hk hne => K22.block k hk hne)) (fun hS22 => ?_)
            clear hK K
            try simp only [Act.put, List.setIfInBounds_toArray, List.set_cons_zero, List.set_cons_succ]
            have D22 := D2.keeps fun g hg => g22.block g (D2.1.lt g hg).2 (fun e => own_ne D2 I2 (by decide) g ⟨hg, e.symm⟩)
            have QI : ∀ g, iv22.ownBlock = some g → iv.ownBlock = some g ∨ W.heap.size ≤ g := fun g hg => by (rcases q22 with h | h; exact .inl (h ▸ hg); (rw [h] at hg; have := K2.size; exact .inr (by simp at hg; omega)))
            refine wpAnyH_ready (rs := [10]) (by kernel_rfl) (by simp) ?_
            refine AllReadyH.cons rfl (fun K hK => ?_) ?_
            · go_simp
              refine (done_any x22 M V b _ ps S (sX.frame (W := x22) K22.size (fun n hn hmv => K22.block n hn (NO n hmv))) pre.length p o hpi hoi (HOK.out.one o (List.mem_of_getElem? hoi))).mono ?_
              rintro _ x23 ⟨rfl, b23⟩
              have K23 : Keeps (fun n => iv.ownBlock = some n ∨ dv.ownBlock = some n) W x23 := K22.trans (Keeps.of_below b23)
              refine hK.out _ _ (SX _ (fun k hk hne => K23.block k hk hne)) (fun hS23 => ?_)
              clear hK K
              try simp only [Act.put, List.setIfInBounds_toArray, List.set_cons_zero, List.set_cons_succ]
              have D23 := D22.keeps fun g hg => obj_below b23 (D22.1.lt g hg).2
              have I23 := I22.keeps fun g hg => obj_below b23 (I22.1.lt g hg).2
              refine wpAnyH_ready (rs := [11]) (by kernel_rfl) (by simp) ?_
              refine AllReadyH.cons rfl (fun K hK => ?_) ?_
              · go_simp
                refine hK.out _ _ (SX _ (fun k hk hne => (obj_alloc_past x23 _ _ (by have := K23.size; omega)).trans (K23.block k hk hne))) (fun hS24 => ?_)
                clear hK K
                try simp only [Act.put, List.setIfInBounds_toArray, List.set_cons_zero, List.set_cons_succ]
                have o24 : obj (x23.alloc (.cells #[.bool (isDone S o)] 4)) x23.heap.size = some (.cells (boolL (isDone S o)).toArray 4 (0, 0)) := obj_alloc_at x23 _ _ rfl
                have K24 : Keeps (fun n => iv.ownBlock = some n ∨ dv.ownBlock = some n) W (x23.alloc (.cells #[.bool (isDone S o)] 4)) := K23.alloc _
                have I24 := I23.alloc (.cells #[.bool (isDone S o)] 4)
                have D24 := D23.alloc (.cells #[.bool (isDone S o)] 4)
                have z24 : x23.heap.size + 1 = (x23.alloc (.cells #[.bool (isDone S o)] 4)).heap.size := by simp
                generalize x23.alloc (.cells #[.bool (isDone S o)] 4) = x24 at *
                refine wpAnyH_ready (rs := [12]) (by kernel_rfl) (by simp) ?_
                refine AllReadyH.cons rfl (fun K hK => ?_) ?_
                · refine step94 rfl (.tmp 22) (.tmp 26) rfl w2.heap.size dv _ (isDone S o) rfl D24 (x23.heap.size) rfl o24 HLD.out (by have := K24.size; omega) ?_
                  intro dv25 x25 D25 g25 q25
                  have K25 : Keeps (fun n => iv.ownBlock = some n ∨ dv.ownBlock = some n) W x25 := K24.trans ⟨g25.os, g25.tape, g25.output, g25.size, fun k hk hne => g25.block k hk (fun e => hne (.inr e.symm))⟩
                  refine hK.out _ _ (SX _ (fun k hk hne => K25.block k hk hne)) (fun hS25 => ?_)
                  clear hK K
                  try simp only [Act.put, List.setIfInBounds_toArray, List.set_cons_zero, List.set_cons_succ]
                  have I25 := I24.keeps fun g hg => g25.block g (I24.1.lt g hg).2 (fun e => own_ne I24 D24 (by decide) g ⟨hg, e.symm⟩)
                  have QD : ∀ g, dv25.ownBlock = some g → dv.ownBlock = some g ∨ W.heap.size ≤ g := fun g hg => by (rcases q25 with h | h; exact .inl (h ▸ hg); (rw [h] at hg; have := K24.size; exact .inr (by simp at hg; omega)))
                  have bi25 := (K25.block _ (lt_of_obj h1) NI).trans h1
                  have bd25 := (K25.block _ (lt_of_obj h2) ND).trans h2
                  have bs25 := (K25.block _ (lt_of_obj h5) NSB).trans h5
                  have bp25 := (K25.block _ (lt_of_obj hov.at_) (NO _ (.inl hpM))).trans hov.at_
                  refine wpAnyH_ready (rs := [13]) (by kernel_rfl) (by simp) ?_
                  refine AllReadyH.cons rfl (fun K hK => ?_) ?_
                  · obtain ⟨va26, vc26, e26⟩ := I25.slice
                    generalize List.length _ = vn26 at e26
                    subst e26
                    have c26 := cell_at bi25 0
                    have f26 := frozen_at bi25 0
                    have l26 := lt_of_obj bi25
                    go_simp
                    refine hK.out _ _ (⟨(cell_at ((obj_setCell_ne _ ⟨w.heap.size + 1, 0, none⟩ _ _ (by first | omega | (dsimp only; omega))).trans bs25) 0).trans rfl, (cell_at ((obj_setCell_ne _ ⟨w.heap.size + 1, 0, none⟩ _ _ PNE13).trans bp25) 0).trans rfl⟩) (fun hS26 => ?_)
                    clear hK K
                    try simp only [Act.put, List.setIfInBounds_toArray, List.set_cons_zero, List.set_cons_succ]
                    have bx26 : obj (x25.setCell ⟨w.heap.size + 1, 0, none⟩ (.slice va26 vn26 vc26)) (w.heap.size + 1) = some (.cells #[(.slice va26 vn26 vc26)] 93 (0, 0)) := obj_setCell_at (.slice va26 vn26 vc26) bi25
                    have by26 : obj (x25.setCell ⟨w.heap.size + 1, 0, none⟩ (.slice va26 vn26 vc26)) _ = _ := (obj_setCell_ne _ ⟨w.heap.size + 1, 0, none⟩ _ _ (by first | omega | (dsimp only; omega))).trans bd25
                    have bs26 : obj (x25.setCell ⟨w.heap.size + 1, 0, none⟩ (.slice va26 vn26 vc26)) _ = _ := (obj_setCell_ne _ ⟨w.heap.size + 1, 0, none⟩ _ _ (by first | omega | (dsimp only; omega))).trans bs25
                    have bp26 : obj (x25.setCell ⟨w.heap.size + 1, 0, none⟩ (.slice va26 vn26 vc26)) _ = _ := (obj_setCell_ne _ ⟨w.heap.size + 1, 0, none⟩ _ _ PNE13).trans bp25
                    have I26 := I25.keeps (W := (x25.setCell ⟨w.heap.size + 1, 0, none⟩ (.slice va26 vn26 vc26))) fun g hg => obj_setCell_ne _ ⟨w.heap.size + 1, 0, none⟩ _ _ (by have := (I25.1.lt g hg).1; dsimp only; omega)
                    have D26 := D25.keeps (W := (x25.setCell ⟨w.heap.size + 1, 0, none⟩ (.slice va26 vn26 vc26))) fun g hg => obj_setCell_ne _ ⟨w.heap.size + 1, 0, none⟩ _ _ (by have := (D25.1.lt g hg).1; dsimp only; omega)
                    have K26 : Keeps (fun n => n = w.heap.size + 1 ∨ n = w.heap.size + 1 + 1 ∨ iv.ownBlock = some n ∨ dv.ownBlock = some n) W (x25.setCell ⟨w.heap.size + 1, 0, none⟩ (.slice va26 vn26 vc26)) := (K25.mono (fun n hn => by first | exact .inr (.inr hn) | exact hn)).setCell (a := ⟨w.heap.size + 1, 0, none⟩) (.inl (by simp)) _
                    generalize x25.setCell ⟨w.heap.size + 1, 0, none⟩ (.slice va26 vn26 vc26) = x26 at *
                    refine wpAnyH_ready (rs := [14]) (by kernel_rfl) (by simp) ?_
                    refine AllReadyH.cons rfl (fun K hK => ?_) ?_
                    · obtain ⟨va27, vc27, e27⟩ := D26.slice
                      generalize List.length _ = vn27 at e27
                      subst e27
                      have c27 := cell_at by26 0
                      have f27 := frozen_at by26 0
                      have l27 := lt_of_obj by26
                      go_simp
                      refine hK.out _ _ (⟨(cell_at ((obj_setCell_ne _ ⟨w.heap.size + 1 + 1, 0, none⟩ _ _ (by first | omega | (dsimp only; omega))).trans bs26) 0).trans rfl, (cell_at ((obj_setCell_ne _ ⟨w.heap.size + 1 + 1, 0, none⟩ _ _ PNE14).trans bp26) 0).trans rfl⟩) (fun hS27 => ?_)
                      clear hK K
                      try simp only [Act.put, List.setIfInBounds_toArray, List.set_cons_zero, List.set_cons_succ]
                      have bx27 : obj (x26.setCell ⟨w.heap.size + 1 + 1, 0, none⟩ (.slice va27 vn27 vc27)) (w.heap.size + 1 + 1) = some (.cells #[(.slice va27 vn27 vc27)] 94 (0, 0)) := obj_setCell_at (.slice va27 vn27 vc27) by26
                      have by27 : obj (x26.setCell ⟨w.heap.size + 1 + 1, 0, none⟩ (.slice va27 vn27 vc27)) _ = _ := (obj_setCell_ne _ ⟨w.heap.size + 1 + 1, 0, none⟩ _ _ (by first | omega | (dsimp only; omega))).trans bx26
                      have bs27 : obj (x26.setCell ⟨w.heap.size + 1 + 1, 0, none⟩ (.slice va27 vn27 vc27)) _ = _ := (obj_setCell_ne _ ⟨w.heap.size + 1 + 1, 0, none⟩ _ _ (by first | omega | (dsimp only; omega))).trans bs26
                      have bp27 : obj (x26.setCell ⟨w.heap.size + 1 + 1, 0, none⟩ (.slice va27 vn27 vc27)) _ = _ := (obj_setCell_ne _ ⟨w.heap.size + 1 + 1, 0, none⟩ _ _ PNE14).trans bp26
                      have I27 := I26.keeps (W := (x26.setCell ⟨w.heap.size + 1 + 1, 0, none⟩ (.slice va27 vn27 vc27))) fun g hg => obj_setCell_ne _ ⟨w.heap.size + 1 + 1, 0, none⟩ _ _ (by have := (I26.1.lt g hg).1; dsimp only; omega)
                      have D27 := D26.keeps (W := (x26.setCell ⟨w.heap.size + 1 + 1, 0, none⟩ (.slice va27 vn27 vc27))) fun g hg => obj_setCell_ne _ ⟨w.heap.size + 1 + 1, 0, none⟩ _ _ (by have := (D26.1.lt g hg).1; dsimp only; omega)
                      have K27 : Keeps (fun n => n = w.heap.size + 1 ∨ n = w.heap.size + 1 + 1 ∨ iv.ownBlock = some n ∨ dv.ownBlock = some n) W (x26.setCell ⟨w.heap.size + 1 + 1, 0, none⟩ (.slice va27 vn27 vc27)) := (K26.mono (fun n hn => by first | exact .inr (.inr hn) | exact hn)).setCell (a := ⟨w.heap.size + 1 + 1, 0, none⟩) (.inl (by simp)) _
                      generalize x26.setCell ⟨w.heap.size + 1 + 1, 0, none⟩ (.slice va27 vn27 vc27) = x27 at *
                      refine wpAnyH_done (by kernel_rfl) ⟨rfl, ?_⟩ _
                      gi_wp2
                      exact ⟨_, ⟨_, _, by27, bx27, by rw [HTI.out]; exact I27, by rw [HTD.out]; exact D27, bs27, h6.trans (K27.below (fun n hn => BLO n hn) h6.size), Nat.le_trans h7 K27.size, rfl⟩, K27, fun n hn => by
                        rcases hn with h | h | h | h
                        · exact .inl (.inl h)
                        · exact .inl (.inr (.inl h))
                        · exact (QI n h).imp (fun h => .inr (.inr (.inl h))) id
                        · exact (QD n h).imp (fun h => .inr (.inr (.inr h))) id⟩
                    exact AllReadyH.nil
                  exact AllReadyH.nil
                exact AllReadyH.nil
              exact AllReadyH.nil
            exact AllReadyH.nil
          exact AllReadyH.nil
        exact AllReadyH.nil
      refine AllReadyH.cons rfl (fun K hK => ?_) ?_
      · have c28 : x0.cell? ⟨w.heap.size + 1 + 1, 0, none⟩ = some dv := cell_at ((K0.block _ (lt_of_obj h2) ND).trans h2) 0
        go_simp
        refine hK.out _ _ (hS1) (fun hS28 => ?_)
        clear hK K
        try simp only [Act.put, List.setIfInBounds_toArray, List.set_cons_zero, List.set_cons_succ]
        refine wpAnyH_ready (rs := [5]) (by kernel_rfl) (by simp) ?_
        refine AllReadyH.cons rfl (fun K hK => ?_) ?_
        · go_simp
          refine hK.out _ _ (SX _ (fun k hk hne => (obj_alloc_past x0 _ _ (by have := K0.size; omega)).trans (K0.block k hk hne))) (fun hS29 => ?_)
          clear hK K
          try simp only [Act.put, List.setIfInBounds_toArray, List.set_cons_zero, List.set_cons_succ]
          have o29 : obj (x0.alloc (.cells #[.int .i64 o.id] 2)) x0.heap.size = some (.cells (intL o.id).toArray 2 (0, 0)) := obj_alloc_at x0 _ _ rfl
          have K29 : Keeps (fun n => iv.ownBlock = some n ∨ dv.ownBlock = some n) W (x0.alloc (.cells #[.int .i64 o.id] 2)) := K0.alloc _
          have I29 := I0.alloc (.cells #[.int .i64 o.id] 2)
          have D29 := D0.alloc (.cells #[.int .i64 o.id] 2)
          have z29 : x0.heap.size + 1 = (x0.alloc (.cells #[.int .i64 o.id] 2)).heap.size := by simp
          generalize x0.alloc (.cells #[.int .i64 o.id] 2) = x29 at *
          refine wpAnyH_ready (rs := [6]) (by kernel_rfl) (by simp) ?_
          refine AllReadyH.cons rfl (fun K hK => ?_) ?_
          · refine step93 rfl (.tmp 15) (.tmp 20) rfl w2.heap.size iv _ o.id rfl I29 (x0.heap.size) rfl o29 HLI.out (by have := K29.size; omega) ?_
            intro iv30 x30 I30 g30 q30
            have K30 : Keeps (fun n => iv.ownBlock = some n ∨ dv.ownBlock = some n) W x30 := K29.trans ⟨g30.os, g30.tape, g30.output, g30.size, fun k hk hne => g30.block k hk (fun e => hne (.inl e.symm))⟩
            refine hK.out _ _ (SX _ (fun k hk hne => K30.block k hk hne)) (fun hS30 => ?_)
            clear hK K
            try simp only [Act.put, List.setIfInBounds_toArray, List.set_cons_zero, List.set_cons_succ]
            have D30 := D29.keeps fun g hg => g30.block g (D29.1.lt g hg).2 (fun e => own_ne D29 I29 (by decide) g ⟨hg, e.symm⟩)
            have QI : ∀ g, iv30.ownBlock = some g → iv.ownBlock = some g ∨ W.heap.size ≤ g := fun g hg => by (rcases q30 with h | h; exact .inl (h ▸ hg); (rw [h] at hg; have := K29.size; exact .inr (by simp at hg; omega)))
            refine wpAnyH_ready (rs := [10]) (by kernel_rfl) (by simp) ?_
            refine AllReadyH.cons rfl (fun K hK => ?_) ?_
            · go_simp
              refine (done_any x30 M V b _ ps S (sX.frame (W := x30) K30.size (fun n hn hmv => K30.block n hn (NO n hmv))) pre.length p o hpi hoi (HOK.out.one o (List.mem_of_getElem? hoi))).mono ?_
              rintro _ x31 ⟨rfl, b31⟩
              have K31 : Keeps (fun n => iv.ownBlock = some n ∨ dv.ownBlock = some n) W x31 := K30.trans (Keeps.of_below b31)
              refine hK.out _ _ (SX _ (fun k hk hne => K31.block k hk hne)) (fun hS31 => ?_)
              clear hK K
              try simp only [Act.put, List.setIfInBounds_toArray, List.set_cons_zero, List.set_cons_succ]
              have D31 := D30.keeps fun g hg => obj_below b31 (D30.1.lt g hg).2
              have I31 := I30.keeps fun g hg => obj_below b31 (I30.1.lt g hg).2
              refine wpAnyH_ready (rs := [11]) (by kernel_rfl) (by simp) ?_
              refine AllReadyH.cons rfl (fun K hK => ?_) ?_
              · go_simp
                refine hK.out _ _ (SX _ (fun k hk hne => (obj_alloc_past x31 _ _ (by have := K31.size; omega)).trans (K31.block k hk hne))) (fun hS32 => ?_)
                clear hK K
                try simp only [Act.put, List.setIfInBounds_toArray, List.set_cons_zero, List.set_cons_succ]
                have o32 : obj (x31.alloc (.cells #[.bool (isDone S o)] 4)) x31.heap.size = some (.cells (boolL (isDone S o)).toArray 4 (0, 0)) := obj_alloc_at x31 _ _ rfl
                have K32 : Keeps (fun n => iv.ownBlock = some n ∨ dv.ownBlock = some n) W (x31.alloc (.cells #[.bool (isDone S o)] 4)) := K31.alloc _
                have I32 := I31.alloc (.cells #[.bool (isDone S o)] 4)
                have D32 := D31.alloc (.cells #[.bool (isDone S o)] 4)
                have z32 : x31.heap.size + 1 = (x31.alloc (.cells #[.bool (isDone S o)] 4)).heap.size := by simp
                generalize x31.alloc (.cells #[.bool (isDone S o)] 4) = x32 at *
                refine wpAnyH_ready (rs := [12]) (by kernel_rfl) (by simp) ?_
                refine AllReadyH.cons rfl (fun K hK => ?_) ?_
                · refine step94 rfl (.tmp 22) (.tmp 26) rfl w2.heap.size dv _ (isDone S o) rfl D32 (x31.heap.size) rfl o32 HLD.out (by have := K32.size; omega) ?_
                  intro dv33 x33 D33 g33 q33
                  have K33 : Keeps (fun n => iv.ownBlock = some n ∨ dv.ownBlock = some n) W x33 := K32.trans ⟨g33.os, g33.tape, g33.output, g33.size, fun k hk hne => g33.block k hk (fun e => hne (.inr e.symm))⟩
                  refine hK.out _ _ (SX _ (fun k hk hne => K33.block k hk hne)) (fun hS33 => ?_)
                  clear hK K
                  try simp only [Act.put, List.setIfInBounds_toArray, List.set_cons_zero, List.set_cons_succ]
                  have I33 := I32.keeps fun g hg => g33.block g (I32.1.lt g hg).2 (fun e => own_ne I32 D32 (by decide) g ⟨hg, e.symm⟩)
                  have QD : ∀ g, dv33.ownBlock = some g → dv.ownBlock = some g ∨ W.heap.size ≤ g := fun g hg => by (rcases q33 with h | h; exact .inl (h ▸ hg); (rw [h] at hg; have := K32.size; exact .inr (by simp at hg; omega)))
                  have bi33 := (K33.block _ (lt_of_obj h1) NI).trans h1
                  have bd33 := (K33.block _ (lt_of_obj h2) ND).trans h2
                  have bs33 := (K33.block _ (lt_of_obj h5) NSB).trans h5
                  have bp33 := (K33.block _ (lt_of_obj hov.at_) (NO _ (.inl hpM))).trans hov.at_
                  refine wpAnyH_ready (rs := [13]) (by kernel_rfl) (by simp) ?_
                  refine AllReadyH.cons rfl (fun K hK => ?_) ?_
                  · obtain ⟨va34, vc34, e34⟩ := I33.slice
                    generalize List.length _ = vn34 at e34
                    subst e34
                    have c34 := cell_at bi33 0
                    have f34 := frozen_at bi33 0
                    have l34 := lt_of_obj bi33
                    go_simp
                    refine hK.out _ _ (⟨(cell_at ((obj_setCell_ne _ ⟨w.heap.size + 1, 0, none⟩ _ _ (by first | omega | (dsimp only; omega))).trans bs33) 0).trans rfl, (cell_at ((obj_setCell_ne _ ⟨w.heap.size + 1, 0, none⟩ _ _ PNE13).trans bp33) 0).trans rfl⟩) (fun hS34 => ?_)
                    clear hK K
                    try simp only [Act.put, List.setIfInBounds_toArray, List.set_cons_zero, List.set_cons_succ]
                    have bx34 : obj (x33.setCell ⟨w.heap.size + 1, 0, none⟩ (.slice va34 vn34 vc34)) (w.heap.size + 1) = some (.cells #[(.slice va34 vn34 vc34)] 93 (0, 0)) := obj_setCell_at (.slice va34 vn34 vc34) bi33
                    have by34 : obj (x33.setCell ⟨w.heap.size + 1, 0, none⟩ (.slice va34 vn34 vc34)) _ = _ := (obj_setCell_ne _ ⟨w.heap.size + 1, 0, none⟩ _ _ (by first | omega | (dsimp only; omega))).trans bd33
                    have bs34 : obj (x33.setCell ⟨w.heap.size + 1, 0, none⟩ (.slice va34 vn34 vc34)) _ = _ := (obj_setCell_ne _ ⟨w.heap.size + 1, 0, none⟩ _ _ (by first | omega | (dsimp only; omega))).trans bs33
                    have bp34 : obj (x33.setCell ⟨w.heap.size + 1, 0, none⟩ (.slice va34 vn34 vc34)) _ = _ := (obj_setCell_ne _ ⟨w.heap.size + 1, 0, none⟩ _ _ PNE13).trans bp33
                    have I34 := I33.keeps (W := (x33.setCell ⟨w.heap.size + 1, 0, none⟩ (.slice va34 vn34 vc34))) fun g hg => obj_setCell_ne _ ⟨w.heap.size + 1, 0, none⟩ _ _ (by have := (I33.1.lt g hg).1; dsimp only; omega)
                    have D34 := D33.keeps (W := (x33.setCell ⟨w.heap.size + 1, 0, none⟩ (.slice va34 vn34 vc34))) fun g hg => obj_setCell_ne _ ⟨w.heap.size + 1, 0, none⟩ _ _ (by have := (D33.1.lt g hg).1; dsimp only; omega)
                    have K34 : Keeps (fun n => n = w.heap.size + 1 ∨ n = w.heap.size + 1 + 1 ∨ iv.ownBlock = some n ∨ dv.ownBlock = some n) W (x33.setCell ⟨w.heap.size + 1, 0, none⟩ (.slice va34 vn34 vc34)) := (K33.mono (fun n hn => by first | exact .inr (.inr hn) | exact hn)).setCell (a := ⟨w.heap.size + 1, 0, none⟩) (.inl (by simp)) _
                    generalize x33.setCell ⟨w.heap.size + 1, 0, none⟩ (.slice va34 vn34 vc34) = x34 at *
                    refine wpAnyH_ready (rs := [14]) (by kernel_rfl) (by simp) ?_
                    refine AllReadyH.cons rfl (fun K hK => ?_) ?_
                    · obtain ⟨va35, vc35, e35⟩ := D34.slice
                      generalize List.length _ = vn35 at e35
                      subst e35
                      have c35 := cell_at by34 0
                      have f35 := frozen_at by34 0
                      have l35 := lt_of_obj by34
                      go_simp
                      refine hK.out _ _ (⟨(cell_at ((obj_setCell_ne _ ⟨w.heap.size + 1 + 1, 0, none⟩ _ _ (by first | omega | (dsimp only; omega))).trans bs34) 0).trans rfl, (cell_at ((obj_setCell_ne _ ⟨w.heap.size + 1 + 1, 0, none⟩ _ _ PNE14).trans bp34) 0).trans rfl⟩) (fun hS35 => ?_)
                      clear hK K
                      try simp only [Act.put, List.setIfInBounds_toArray, List.set_cons_zero, List.set_cons_succ]
                      have bx35 : obj (x34.setCell ⟨w.heap.size + 1 + 1, 0, none⟩ (.slice va35 vn35 vc35)) (w.heap.size + 1 + 1) = some (.cells #[(.slice va35 vn35 vc35)] 94 (0, 0)) := obj_setCell_at (.slice va35 vn35 vc35) by34
                      have by35 : obj (x34.setCell ⟨w.heap.size + 1 + 1, 0, none⟩ (.slice va35 vn35 vc35)) _ = _ := (obj_setCell_ne _ ⟨w.heap.size + 1 + 1, 0, none⟩ _ _ (by first | omega | (dsimp only; omega))).trans bx34
                      have bs35 : obj (x34.setCell ⟨w.heap.size + 1 + 1, 0, none⟩ (.slice va35 vn35 vc35)) _ = _ := (obj_setCell_ne _ ⟨w.heap.size + 1 + 1, 0, none⟩ _ _ (by first | omega | (dsimp only; omega))).trans bs34
                      have bp35 : obj (x34.setCell ⟨w.heap.size + 1 + 1, 0, none⟩ (.slice va35 vn35 vc35)) _ = _ := (obj_setCell_ne _ ⟨w.heap.size + 1 + 1, 0, none⟩ _ _ PNE14).trans bp34
                      have I35 := I34.keeps (W := (x34.setCell ⟨w.heap.size + 1 + 1, 0, none⟩ (.slice va35 vn35 vc35))) fun g hg => obj_setCell_ne _ ⟨w.heap.size + 1 + 1, 0, none⟩ _ _ (by have := (I34.1.lt g hg).1; dsimp only; omega)
                      have D35 := D34.keeps (W := (x34.setCell ⟨w.heap.size + 1 + 1, 0, none⟩ (.slice va35 vn35 vc35))) fun g hg => obj_setCell_ne _ ⟨w.heap.size + 1 + 1, 0, none⟩ _ _ (by have := (D34.1.lt g hg).1; dsimp only; omega)
                      have K35 : Keeps (fun n => n = w.heap.size + 1 ∨ n = w.heap.size + 1 + 1 ∨ iv.ownBlock = some n ∨ dv.ownBlock = some n) W (x34.setCell ⟨w.heap.size + 1 + 1, 0, none⟩ (.slice va35 vn35 vc35)) := (K34.mono (fun n hn => by first | exact .inr (.inr hn) | exact hn)).setCell (a := ⟨w.heap.size + 1 + 1, 0, none⟩) (.inl (by simp)) _
                      generalize x34.setCell ⟨w.heap.size + 1 + 1, 0, none⟩ (.slice va35 vn35 vc35) = x35 at *
                      refine wpAnyH_done (by kernel_rfl) ⟨rfl, ?_⟩ _
                      gi_wp2
                      exact ⟨_, ⟨_, _, by35, bx35, by rw [HTI.out]; exact I35, by rw [HTD.out]; exact D35, bs35, h6.trans (K35.below (fun n hn => BLO n hn) h6.size), Nat.le_trans h7 K35.size, rfl⟩, K35, fun n hn => by
                        rcases hn with h | h | h | h
                        · exact .inl (.inl h)
                        · exact .inl (.inr (.inl h))
                        · exact (QI n h).imp (fun h => .inr (.inr (.inl h))) id
                        · exact (QD n h).imp (fun h => .inr (.inr (.inr h))) id⟩
                    exact AllReadyH.nil
                  exact AllReadyH.nil
                exact AllReadyH.nil
              exact AllReadyH.nil
            exact AllReadyH.nil
          exact AllReadyH.nil
        exact AllReadyH.nil
      exact AllReadyH.nil
    refine AllReadyH.cons rfl (fun K hK => ?_) ?_
    · go_simp
      refine hK.out _ _ (SX _ (fun k hk hne => (obj_alloc_past x0 _ _ (by have := K0.size; omega)).trans (K0.block k hk hne))) (fun hS36 => ?_)
      clear hK K
      try simp only [Act.put, List.setIfInBounds_toArray, List.set_cons_zero, List.set_cons_succ]
      have o36 : obj (x0.alloc (.cells #[.int .i64 o.id] 2)) x0.heap.size = some (.cells (intL o.id).toArray 2 (0, 0)) := obj_alloc_at x0 _ _ rfl
      have K36 : Keeps (fun n => iv.ownBlock = some n ∨ dv.ownBlock = some n) W (x0.alloc (.cells #[.int .i64 o.id] 2)) := K0.alloc _
      have I36 := I0.alloc (.cells #[.int .i64 o.id] 2)
      have D36 := D0.alloc (.cells #[.int .i64 o.id] 2)
      have z36 : x0.heap.size + 1 = (x0.alloc (.cells #[.int .i64 o.id] 2)).heap.size := by simp
      generalize x0.alloc (.cells #[.int .i64 o.id] 2) = x36 at *
      refine wpAnyH_ready (rs := [0, 7]) (by kernel_rfl) (by simp) ?_
      refine AllReadyH.cons rfl (fun K hK => ?_) ?_
      · have c37 : x36.cell? ⟨w.heap.size + 1, 0, none⟩ = some iv := cell_at ((K36.block _ (lt_of_obj h1) NI).trans h1) 0
        go_simp
        refine hK.out _ _ (hS36) (fun hS37 => ?_)
        clear hK K
        try simp only [Act.put, List.setIfInBounds_toArray, List.set_cons_zero, List.set_cons_succ]
        refine wpAnyH_ready (rs := [6, 7]) (by kernel_rfl) (by simp) ?_
        refine AllReadyH.cons rfl (fun K hK => ?_) ?_
        · refine step93 rfl (.tmp 15) (.tmp 20) rfl w2.heap.size iv _ o.id rfl I36 (x0.heap.size) rfl o36 HLI.out (by have := K36.size; omega) ?_
          intro iv38 x38 I38 g38 q38
          have K38 : Keeps (fun n => iv.ownBlock = some n ∨ dv.ownBlock = some n) W x38 := K36.trans ⟨g38.os, g38.tape, g38.output, g38.size, fun k hk hne => g38.block k hk (fun e => hne (.inl e.symm))⟩
          refine hK.out _ _ (SX _ (fun k hk hne => K38.block k hk hne)) (fun hS38 => ?_)
          clear hK K
          try simp only [Act.put, List.setIfInBounds_toArray, List.set_cons_zero, List.set_cons_succ]
          have D38 := D36.keeps fun g hg => g38.block g (D36.1.lt g hg).2 (fun e => own_ne D36 I36 (by decide) g ⟨hg, e.symm⟩)
          have QI : ∀ g, iv38.ownBlock = some g → iv.ownBlock = some g ∨ W.heap.size ≤ g := fun g hg => by (rcases q38 with h | h; exact .inl (h ▸ hg); (rw [h] at hg; have := K36.size; exact .inr (by simp at hg; omega)))
          refine wpAnyH_ready (rs := [7, 10]) (by kernel_rfl) (by simp) ?_
          refine AllReadyH.cons rfl (fun K hK => ?_) ?_
          · have c39 : x38.cell? ⟨w.heap.size + 1 + 1, 0, none⟩ = some dv := cell_at ((K38.block _ (lt_of_obj h2) ND).trans h2) 0
            go_simp
            refine hK.out _ _ (hS38) (fun hS39 => ?_)
            clear hK K
            try simp only [Act.put, List.setIfInBounds_toArray, List.set_cons_zero, List.set_cons_succ]
            refine wpAnyH_ready (rs := [10]) (by kernel_rfl) (by simp) ?_
            refine AllReadyH.cons rfl (fun K hK => ?_) ?_
            · go_simp
              refine (done_any x38 M V b _ ps S (sX.frame (W := x38) K38.size (fun n hn hmv => K38.block n hn (NO n hmv))) pre.length p o hpi hoi (HOK.out.one o (List.mem_of_getElem? hoi))).mono ?_
              rintro _ x40 ⟨rfl, b40⟩
              have K40 : Keeps (fun n => iv.ownBlock = some n ∨ dv.ownBlock = some n) W x40 := K38.trans (Keeps.of_below b40)
              refine hK.out _ _ (SX _ (fun k hk hne => K40.block k hk hne)) (fun hS40 => ?_)
              clear hK K
              try simp only [Act.put, List.setIfInBounds_toArray, List.set_cons_zero, List.set_cons_succ]
              have D40 := D38.keeps fun g hg => obj_below b40 (D38.1.lt g hg).2
              have I40 := I38.keeps fun g hg => obj_below b40 (I38.1.lt g hg).2
              refine wpAnyH_ready (rs := [11]) (by kernel_rfl) (by simp) ?_
              refine AllReadyH.cons rfl (fun K hK => ?_) ?_
              · go_simp
                refine hK.out _ _ (SX _ (fun k hk hne => (obj_alloc_past x40 _ _ (by have := K40.size; omega)).trans (K40.block k hk hne))) (fun hS41 => ?_)
                clear hK K
                try simp only [Act.put, List.setIfInBounds_toArray, List.set_cons_zero, List.set_cons_succ]
                have o41 : obj (x40.alloc (.cells #[.bool (isDone S o)] 4)) x40.heap.size = some (.cells (boolL (isDone S o)).toArray 4 (0, 0)) := obj_alloc_at x40 _ _ rfl
                have K41 : Keeps (fun n => iv.ownBlock = some n ∨ dv.ownBlock = some n) W (x40.alloc (.cells #[.bool (isDone S o)] 4)) := K40.alloc _
                have I41 := I40.alloc (.cells #[.bool (isDone S o)] 4)
                have D41 := D40.alloc (.cells #[.bool (isDone S o)] 4)
                have z41 : x40.heap.size + 1 = (x40.alloc (.cells #[.bool (isDone S o)] 4)).heap.size := by simp
                generalize x40.alloc (.cells #[.bool (isDone S o)] 4) = x41 at *
                refine wpAnyH_ready (rs := [12]) (by kernel_rfl) (by simp) ?_
                refine AllReadyH.cons rfl (fun K hK => ?_) ?_
                · refine step94 rfl (.tmp 22) (.tmp 26) rfl w2.heap.size dv _ (isDone S o) rfl D41 (x40.heap.size) rfl o41 HLD.out (by have := K41.size; omega) ?_
                  intro dv42 x42 D42 g42 q42
                  have K42 : Keeps (fun n => iv.ownBlock = some n ∨ dv.ownBlock = some n) W x42 := K41.trans ⟨g42.os, g42.tape, g42.output, g42.size, fun k hk hne => g42.block k hk (fun e => hne (.inr e.symm))⟩
                  refine hK.out _ _ (SX _ (fun k hk hne => K42.block k hk hne)) (fun hS42 => ?_)
                  clear hK K
                  try simp only [Act.put, List.setIfInBounds_toArray, List.set_cons_zero, List.set_cons_succ]
                  have I42 := I41.keeps fun g hg => g42.block g (I41.1.lt g hg).2 (fun e => own_ne I41 D41 (by decide) g ⟨hg, e.symm⟩)
                  have QD : ∀ g, dv42.ownBlock = some g → dv.ownBlock = some g ∨ W.heap.size ≤ g := fun g hg => by (rcases q42 with h | h; exact .inl (h ▸ hg); (rw [h] at hg; have := K41.size; exact .inr (by simp at hg; omega)))
                  have bi42 := (K42.block _ (lt_of_obj h1) NI).trans h1
                  have bd42 := (K42.block _ (lt_of_obj h2) ND).trans h2
                  have bs42 := (K42.block _ (lt_of_obj h5) NSB).trans h5
                  have bp42 := (K42.block _ (lt_of_obj hov.at_) (NO _ (.inl hpM))).trans hov.at_
                  refine wpAnyH_ready (rs := [13]) (by kernel_rfl) (by simp) ?_
                  refine AllReadyH.cons rfl (fun K hK => ?_) ?_
                  · obtain ⟨va43, vc43, e43⟩ := I42.slice
                    generalize List.length _ = vn43 at e43
                    subst e43
                    have c43 := cell_at bi42 0
                    have f43 := frozen_at bi42 0
                    have l43 := lt_of_obj bi42
                    go_simp
                    refine hK.out _ _ (⟨(cell_at ((obj_setCell_ne _ ⟨w.heap.size + 1, 0, none⟩ _ _ (by first | omega | (dsimp only; omega))).trans bs42) 0).trans rfl, (cell_at ((obj_setCell_ne _ ⟨w.heap.size + 1, 0, none⟩ _ _ PNE13).trans bp42) 0).trans rfl⟩) (fun hS43 => ?_)
                    clear hK K
                    try simp only [Act.put, List.setIfInBounds_toArray, List.set_cons_zero, List.set_cons_succ]
                    have bx43 : obj (x42.setCell ⟨w.heap.size + 1, 0, none⟩ (.slice va43 vn43 vc43)) (w.heap.size + 1) = some (.cells #[(.slice va43 vn43 vc43)] 93 (0, 0)) := obj_setCell_at (.slice va43 vn43 vc43) bi42
                    have by43 : obj (x42.setCell ⟨w.heap.size + 1, 0, none⟩ (.slice va43 vn43 vc43)) _ = _ := (obj_setCell_ne _ ⟨w.heap.size + 1, 0, none⟩ _ _ (by first | omega | (dsimp only; omega))).trans bd42
                    have bs43 : obj (x42.setCell ⟨w.heap.size + 1, 0, none⟩ (.slice va43 vn43 vc43)) _ = _ := (obj_setCell_ne _ ⟨w.heap.size + 1, 0, none⟩ _ _ (by first | omega | (dsimp only; omega))).trans bs42
                    have bp43 : obj (x42.setCell ⟨w.heap.size + 1, 0, none⟩ (.slice va43 vn43 vc43)) _ = _ := (obj_setCell_ne _ ⟨w.heap.size + 1, 0, none⟩ _ _ PNE13).trans bp42
                    have I43 := I42.keeps (W := (x42.setCell ⟨w.heap.size + 1, 0, none⟩ (.slice va43 vn43 vc43))) fun g hg => obj_setCell_ne _ ⟨w.heap.size + 1, 0, none⟩ _ _ (by have := (I42.1.lt g hg).1; dsimp only; omega)
                    have D43 := D42.keeps (W := (x42.setCell ⟨w.heap.size + 1, 0, none⟩ (.slice va43 vn43 vc43))) fun g hg => obj_setCell_ne _ ⟨w.heap.size + 1, 0, none⟩ _ _ (by have := (D42.1.lt g hg).1; dsimp only; omega)
                    have K43 : Keeps (fun n => n = w.heap.size + 1 ∨ n = w.heap.size + 1 + 1 ∨ iv.ownBlock = some n ∨ dv.ownBlock = some n) W (x42.setCell ⟨w.heap.size + 1, 0, none⟩ (.slice va43 vn43 vc43)) := (K42.mono (fun n hn => by first | exact .inr (.inr hn) | exact hn)).setCell (a := ⟨w.heap.size + 1, 0, none⟩) (.inl (by simp)) _
                    generalize x42.setCell ⟨w.heap.size + 1, 0, none⟩ (.slice va43 vn43 vc43) = x43 at *
                    refine wpAnyH_ready (rs := [14]) (by kernel_rfl) (by simp) ?_
                    refine AllReadyH.cons rfl (fun K hK => ?_) ?_
                    · obtain ⟨va44, vc44, e44⟩ := D43.slice
                      generalize List.length _ = vn44 at e44
                      subst e44
                      have c44 := cell_at by43 0
                      have f44 := frozen_at by43 0
                      have l44 := lt_of_obj by43
                      go_simp
                      refine hK.out _ _ (⟨(cell_at ((obj_setCell_ne _ ⟨w.heap.size + 1 + 1, 0, none⟩ _ _ (by first | omega | (dsimp only; omega))).trans bs43) 0).trans rfl, (cell_at ((obj_setCell_ne _ ⟨w.heap.size + 1 + 1, 0, none⟩ _ _ PNE14).trans bp43) 0).trans rfl⟩) (fun hS44 => ?_)
                      clear hK K
                      try simp only [Act.put, List.setIfInBounds_toArray, List.set_cons_zero, List.set_cons_succ]
                      have bx44 : obj (x43.setCell ⟨w.heap.size + 1 + 1, 0, none⟩ (.slice va44 vn44 vc44)) (w.heap.size + 1 + 1) = some (.cells #[(.slice va44 vn44 vc44)] 94 (0, 0)) := obj_setCell_at (.slice va44 vn44 vc44) by43
                      have by44 : obj (x43.setCell ⟨w.heap.size + 1 + 1, 0, none⟩ (.slice va44 vn44 vc44)) _ = _ := (obj_setCell_ne _ ⟨w.heap.size + 1 + 1, 0, none⟩ _ _ (by first | omega | (dsimp only; omega))).trans bx43
                      have bs44 : obj (x43.setCell ⟨w.heap.size + 1 + 1, 0, none⟩ (.slice va44 vn44 vc44)) _ = _ := (obj_setCell_ne _ ⟨w.heap.size + 1 + 1, 0, none⟩ _ _ (by first | omega | (dsimp only; omega))).trans bs43
                      have bp44 : obj (x43.setCell ⟨w.heap.size + 1 + 1, 0, none⟩ (.slice va44 vn44 vc44)) _ = _ := (obj_setCell_ne _ ⟨w.heap.size + 1 + 1, 0, none⟩ _ _ PNE14).trans bp43
                      have I44 := I43.keeps (W := (x43.setCell ⟨w.heap.size + 1 + 1, 0, none⟩ (.slice va44 vn44 vc44))) fun g hg => obj_setCell_ne _ ⟨w.heap.size + 1 + 1, 0, none⟩ _ _ (by have := (I43.1.lt g hg).1; dsimp only; omega)
                      have D44 := D43.keeps (W := (x43.setCell ⟨w.heap.size + 1 + 1, 0, none⟩ (.slice va44 vn44 vc44))) fun g hg => obj_setCell_ne _ ⟨w.heap.size + 1 + 1, 0, none⟩ _ _ (by have := (D43.1.lt g hg).1; dsimp only; omega)
                      have K44 : Keeps (fun n => n = w.heap.size + 1 ∨ n = w.heap.size + 1 + 1 ∨ iv.ownBlock = some n ∨ dv.ownBlock = some n) W (x43.setCell ⟨w.heap.size + 1 + 1, 0, none⟩ (.slice va44 vn44 vc44)) := (K43.mono (fun n hn => by first | exact .inr (.inr hn) | exact hn)).setCell (a := ⟨w.heap.size + 1 + 1, 0, none⟩) (.inl (by simp)) _
                      generalize x43.setCell ⟨w.heap.size + 1 + 1, 0, none⟩ (.slice va44 vn44 vc44) = x44 at *
                      refine wpAnyH_done (by kernel_rfl) ⟨rfl, ?_⟩ _
                      gi_wp2
                      exact ⟨_, ⟨_, _, by44, bx44, by rw [HTI.out]; exact I44, by rw [HTD.out]; exact D44, bs44, h6.trans (K44.below (fun n hn => BLO n hn) h6.size), Nat.le_trans h7 K44.size, rfl⟩, K44, fun n hn => by
                        rcases hn with h | h | h | h
                        · exact .inl (.inl h)
                        · exact .inl (.inr (.inl h))
                        · exact (QI n h).imp (fun h => .inr (.inr (.inl h))) id
                        · exact (QD n h).imp (fun h => .inr (.inr (.inr h))) id⟩
                    exact AllReadyH.nil
                  exact AllReadyH.nil
                exact AllReadyH.nil
              exact AllReadyH.nil
            exact AllReadyH.nil
          refine AllReadyH.cons rfl (fun K hK => ?_) ?_
          · go_simp
            refine (done_any x38 M V b _ ps S (sX.frame (W := x38) K38.size (fun n hn hmv => K38.block n hn (NO n hmv))) pre.length p o hpi hoi (HOK.out.one o (List.mem_of_getElem? hoi))).mono ?_
            rintro _ x45 ⟨rfl, b45⟩
            have K45 : Keeps (fun n => iv.ownBlock = some n ∨ dv.ownBlock = some n) W x45 := K38.trans (Keeps.of_below b45)
            refine hK.out _ _ (SX _ (fun k hk hne => K45.block k hk hne)) (fun hS45 => ?_)
            clear hK K
            try simp only [Act.put, List.setIfInBounds_toArray, List.set_cons_zero, List.set_cons_succ]
            have D45 := D38.keeps fun g hg => obj_below b45 (D38.1.lt g hg).2
            have I45 := I38.keeps fun g hg => obj_below b45 (I38.1.lt g hg).2
            refine wpAnyH_ready (rs := [7, 11]) (by kernel_rfl) (by simp) ?_
            refine AllReadyH.cons rfl (fun K hK => ?_) ?_
            · have c46 : x45.cell? ⟨w.heap.size + 1 + 1, 0, none⟩ = some dv := cell_at ((K45.block _ (lt_of_obj h2) ND).trans h2) 0
              go_simp
              refine hK.out _ _ (hS45) (fun hS46 => ?_)
              clear hK K
              try simp only [Act.put, List.setIfInBounds_toArray, List.set_cons_zero, List.set_cons_succ]
              refine wpAnyH_ready (rs := [11]) (by kernel_rfl) (by simp) ?_
              refine AllReadyH.cons rfl (fun K hK => ?_) ?_
              · go_simp
                refine hK.out _ _ (SX _ (fun k hk hne => (obj_alloc_past x45 _ _ (by have := K45.size; omega)).trans (K45.block k hk hne))) (fun hS47 => ?_)
                clear hK K
                try simp only [Act.put, List.setIfInBounds_toArray, List.set_cons_zero, List.set_cons_succ]
                have o47 : obj (x45.alloc (.cells #[.bool (isDone S o)] 4)) x45.heap.size = some (.cells (boolL (isDone S o)).toArray 4 (0, 0)) := obj_alloc_at x45 _ _ rfl
                have K47 : Keeps (fun n => iv.ownBlock = some n ∨ dv.ownBlock = some n) W (x45.alloc (.cells #[.bool (isDone S o)] 4)) := K45.alloc _
                have I47 := I45.alloc (.cells #[.bool (isDone S o)] 4)
                have D47 := D45.alloc (.cells #[.bool (isDone S o)] 4)
                have z47 : x45.heap.size + 1 = (x45.alloc (.cells #[.bool (isDone S o)] 4)).heap.size := by simp
                generalize x45.alloc (.cells #[.bool (isDone S o)] 4) = x47 at *
                refine wpAnyH_ready (rs := [12]) (by kernel_rfl) (by simp) ?_
                refine AllReadyH.cons rfl (fun K hK => ?_) ?_
                · refine step94 rfl (.tmp 22) (.tmp 26) rfl w2.heap.size dv _ (isDone S o) rfl D47 (x45.heap.size) rfl o47 HLD.out (by have := K47.size; omega) ?_
                  intro dv48 x48 D48 g48 q48
                  have K48 : Keeps (fun n => iv.ownBlock = some n ∨ dv.ownBlock = some n) W x48 := K47.trans ⟨g48.os, g48.tape, g48.output, g48.size, fun k hk hne => g48.block k hk (fun e => hne (.inr e.symm))⟩
                  refine hK.out _ _ (SX _ (fun k hk hne => K48.block k hk hne)) (fun hS48 => ?_)
                  clear hK K
                  try simp only [Act.put, List.setIfInBounds_toArray, List.set_cons_zero, List.set_cons_succ]
                  have I48 := I47.keeps fun g hg => g48.block g (I47.1.lt g hg).2 (fun e => own_ne I47 D47 (by decide) g ⟨hg, e.symm⟩)
                  have QD : ∀ g, dv48.ownBlock = some g → dv.ownBlock = some g ∨ W.heap.size ≤ g := fun g hg => by (rcases q48 with h | h; exact .inl (h ▸ hg); (rw [h] at hg; have := K47.size; exact .inr (by simp at hg; omega)))
                  have bi48 := (K48.block _ (lt_of_obj h1) NI).trans h1
                  have bd48 := (K48.block _ (lt_of_obj h2) ND).trans h2
                  have bs48 := (K48.block _ (lt_of_obj h5) NSB).trans h5
                  have bp48 := (K48.block _ (lt_of_obj hov.at_) (NO _ (.inl hpM))).trans hov.at_
                  refine wpAnyH_ready (rs := [13]) (by kernel_rfl) (by simp) ?_
                  refine AllReadyH.cons rfl (fun K hK => ?_) ?_
                  · obtain ⟨va49, vc49, e49⟩ := I48.slice
                    generalize List.length _ = vn49 at e49
                    subst e49
                    have c49 := cell_at bi48 0
                    have f49 := frozen_at bi48 0
                    have l49 := lt_of_obj bi48
                    go_simp
                    refine hK.out _ _ (⟨(cell_at ((obj_setCell_ne _ ⟨w.heap.size + 1, 0, none⟩ _ _ (by first | omega | (dsimp only; omega))).trans bs48) 0).trans rfl, (cell_at ((obj_setCell_ne _ ⟨w.heap.size + 1, 0, none⟩ _ _ PNE13).trans bp48) 0).trans rfl⟩) (fun hS49 => ?_)
                    clear hK K
                    try simp only [Act.put, List.setIfInBounds_toArray, List.set_cons_zero, List.set_cons_succ]
                    have bx49 : obj (x48.setCell ⟨w.heap.size + 1, 0, none⟩ (.slice va49 vn49 vc49)) (w.heap.size + 1) = some (.cells #[(.slice va49 vn49 vc49)] 93 (0, 0)) := obj_setCell_at (.slice va49 vn49 vc49) bi48
                    have by49 : obj (x48.setCell ⟨w.heap.size + 1, 0, none⟩ (.slice va49 vn49 vc49)) _ = _ := (obj_setCell_ne _ ⟨w.heap.size + 1, 0, none⟩ _ _ (by first | omega | (dsimp only; omega))).trans bd48
                    have bs49 : obj (x48.setCell ⟨w.heap.size + 1, 0, none⟩ (.slice va49 vn49 vc49)) _ = _ := (obj_setCell_ne _ ⟨w.heap.size + 1, 0, none⟩ _ _ (by first | omega | (dsimp only; omega))).trans bs48
                    have bp49 : obj (x48.setCell ⟨w.heap.size + 1, 0, none⟩ (.slice va49 vn49 vc49)) _ = _ := (obj_setCell_ne _ ⟨w.heap.size + 1, 0, none⟩ _ _ PNE13).trans bp48
                    have I49 := I48.keeps (W := (x48.setCell ⟨w.heap.size + 1, 0, none⟩ (.slice va49 vn49 vc49))) fun g hg => obj_setCell_ne _ ⟨w.heap.size + 1, 0, none⟩ _ _ (by have := (I48.1.lt g hg).1; dsimp only; omega)
                    have D49 := D48.keeps (W := (x48.setCell ⟨w.heap.size + 1, 0, none⟩ (.slice va49 vn49 vc49))) fun g hg => obj_setCell_ne _ ⟨w.heap.size + 1, 0, none⟩ _ _ (by have := (D48.1.lt g hg).1; dsimp only; omega)
                    have K49 : Keeps (fun n => n = w.heap.size + 1 ∨ n = w.heap.size + 1 + 1 ∨ iv.ownBlock = some n ∨ dv.ownBlock = some n) W (x48.setCell ⟨w.heap.size + 1, 0, none⟩ (.slice va49 vn49 vc49)) := (K48.mono (fun n hn => by first | exact .inr (.inr hn) | exact hn)).setCell (a := ⟨w.heap.size + 1, 0, none⟩) (.inl (by simp)) _
                    generalize x48.setCell ⟨w.heap.size + 1, 0, none⟩ (.slice va49 vn49 vc49) = x49 at *
                    refine wpAnyH_ready (rs := [14]) (by kernel_rfl) (by simp) ?_
                    refine AllReadyH.cons rfl (fun K hK => ?_) ?_
                    · obtain ⟨va50, vc50, e50⟩ := D49.slice
                      generalize List.length _ = vn50 at e50
                      subst e50
                      have c50 := cell_at by49 0
                      have f50 := frozen_at by49 0
                      have l50 := lt_of_obj by49
                      go_simp
                      refine hK.out _ _ (⟨(cell_at ((obj_setCell_ne _ ⟨w.heap.size + 1 + 1, 0, none⟩ _ _ (by first | omega | (dsimp only; omega))).trans bs49) 0).trans rfl, (cell_at ((obj_setCell_ne _ ⟨w.heap.size + 1 + 1, 0, none⟩ _ _ PNE14).trans bp49) 0).trans rfl⟩) (fun hS50 => ?_)
                      clear hK K
                      try simp only [Act.put, List.setIfInBounds_toArray, List.set_cons_zero, List.set_cons_succ]
                      have bx50 : obj (x49.setCell ⟨w.heap.size + 1 + 1, 0, none⟩ (.slice va50 vn50 vc50)) (w.heap.size + 1 + 1) = some (.cells #[(.slice va50 vn50 vc50)] 94 (0, 0)) := obj_setCell_at (.slice va50 vn50 vc50) by49
                      have by50 : obj (x49.setCell ⟨w.heap.size + 1 + 1, 0, none⟩ (.slice va50 vn50 vc50)) _ = _ := (obj_setCell_ne _ ⟨w.heap.size + 1 + 1, 0, none⟩ _ _ (by first | omega | (dsimp only; omega))).trans bx49
                      have bs50 : obj (x49.setCell ⟨w.heap.size + 1 + 1, 0, none⟩ (.slice va50 vn50 vc50)) _ = _ := (obj_setCell_ne _ ⟨w.heap.size + 1 + 1, 0, none⟩ _ _ (by first | omega | (dsimp only; omega))).trans bs49
                      have bp50 : obj (x49.setCell ⟨w.heap.size + 1 + 1, 0, none⟩ (.slice va50 vn50 vc50)) _ = _ := (obj_setCell_ne _ ⟨w.heap.size + 1 + 1, 0, none⟩ _ _ PNE14).trans bp49
                      have I50 := I49.keeps (W := (x49.setCell ⟨w.heap.size + 1 + 1, 0, none⟩ (.slice va50 vn50 vc50))) fun g hg => obj_setCell_ne _ ⟨w.heap.size + 1 + 1, 0, none⟩ _ _ (by have := (I49.1.lt g hg).1; dsimp only; omega)
                      have D50 := D49.keeps (W := (x49.setCell ⟨w.heap.size + 1 + 1, 0, none⟩ (.slice va50 vn50 vc50))) fun g hg => obj_setCell_ne _ ⟨w.heap.size + 1 + 1, 0, none⟩ _ _ (by have := (D49.1.lt g hg).1; dsimp only; omega)
                      have K50 : Keeps (fun n => n = w.heap.size + 1 ∨ n = w.heap.size + 1 + 1 ∨ iv.ownBlock = some n ∨ dv.ownBlock = some n) W (x49.setCell ⟨w.heap.size + 1 + 1, 0, none⟩ (.slice va50 vn50 vc50)) := (K49.mono (fun n hn => by first | exact .inr (.inr hn) | exact hn)).setCell (a := ⟨w.heap.size + 1 + 1, 0, none⟩) (.inl (by simp)) _
                      generalize x49.setCell ⟨w.heap.size + 1 + 1, 0, none⟩ (.slice va50 vn50 vc50) = x50 at *
                      refine wpAnyH_done (by kernel_rfl) ⟨rfl, ?_⟩ _
                      gi_wp2
                      exact ⟨_, ⟨_, _, by50, bx50, by rw [HTI.out]; exact I50, by rw [HTD.out]; exact D50, bs50, h6.trans (K50.below (fun n hn => BLO n hn) h6.size), Nat.le_trans h7 K50.size, rfl⟩, K50, fun n hn => by
                        rcases hn with h | h | h | h
                        · exact .inl (.inl h)
                        · exact .inl (.inr (.inl h))
                        · exact (QI n h).imp (fun h => .inr (.inr (.inl h))) id
                        · exact (QD n h).imp (fun h => .inr (.inr (.inr h))) id⟩
                    exact AllReadyH.nil
                  exact AllReadyH.nil
                exact AllReadyH.nil
              exact AllReadyH.nil
            refine AllReadyH.cons rfl (fun K hK => ?_) ?_
            · go_simp
              refine hK.out _ _ (SX _ (fun k hk hne => (obj_alloc_past x45 _ _ (by have := K45.size; omega)).trans (K45.block k hk hne))) (fun hS51 => ?_)
              clear hK K
              try simp only [Act.put, List.setIfInBounds_toArray, List.set_cons_zero, List.set_cons_succ]
              have o51 : obj (x45.alloc (.cells #[.bool (isDone S o)] 4)) x45.heap.size = some (.cells (boolL (isDone S o)).toArray 4 (0, 0)) := obj_alloc_at x45 _ _ rfl
              have K51 : Keeps (fun n => iv.ownBlock = some n ∨ dv.ownBlock = some n) W (x45.alloc (.cells #[.bool (isDone S o)] 4)) := K45.alloc _
              have I51 := I45.alloc (.cells #[.bool (isDone S o)] 4)
              have D51 := D45.alloc (.cells #[.bool (isDone S o)] 4)
              have z51 : x45.heap.size + 1 = (x45.alloc (.cells #[.bool (isDone S o)] 4)).heap.size := by simp
              generalize x45.alloc (.cells #[.bool (isDone S o)] 4) = x51 at *
              refine wpAnyH_ready (rs := [7]) (by kernel_rfl) (by simp) ?_
              refine AllReadyH.cons rfl (fun K hK => ?_) ?_
              · have c52 : x51.cell? ⟨w.heap.size + 1 + 1, 0, none⟩ = some dv := cell_at ((K51.block _ (lt_of_obj h2) ND).trans h2) 0
                go_simp
                refine hK.out _ _ (hS51) (fun hS52 => ?_)
                clear hK K
                try simp only [Act.put, List.setIfInBounds_toArray, List.set_cons_zero, List.set_cons_succ]
                refine wpAnyH_ready (rs := [12]) (by kernel_rfl) (by simp) ?_
                refine AllReadyH.cons rfl (fun K hK => ?_) ?_
                · refine step94 rfl (.tmp 22) (.tmp 26) rfl w2.heap.size dv _ (isDone S o) rfl D51 (x45.heap.size) rfl o51 HLD.out (by have := K51.size; omega) ?_
                  intro dv53 x53 D53 g53 q53
                  have K53 : Keeps (fun n => iv.ownBlock = some n ∨ dv.ownBlock = some n) W x53 := K51.trans ⟨g53.os, g53.tape, g53.output, g53.size, fun k hk hne => g53.block k hk (fun e => hne (.inr e.symm))⟩
                  refine hK.out _ _ (SX _ (fun k hk hne => K53.block k hk hne)) (fun hS53 => ?_)
                  clear hK K
                  try simp only [Act.put, List.setIfInBounds_toArray, List.set_cons_zero, List.set_cons_succ]
                  have I53 := I51.keeps fun g hg => g53.block g (I51.1.lt g hg).2 (fun e => own_ne I51 D51 (by decide) g ⟨hg, e.symm⟩)
                  have QD : ∀ g, dv53.ownBlock = some g → dv.ownBlock = some g ∨ W.heap.size ≤ g := fun g hg => by (rcases q53 with h | h; exact .inl (h ▸ hg); (rw [h] at hg; have := K51.size; exact .inr (by simp at hg; omega)))
                  have bi53 := (K53.block _ (lt_of_obj h1) NI).trans h1
                  have bd53 := (K53.block _ (lt_of_obj h2) ND).trans h2
                  have bs53 := (K53.block _ (lt_of_obj h5) NSB).trans h5
                  have bp53 := (K53.block _ (lt_of_obj hov.at_) (NO _ (.inl hpM))).trans hov.at_
                  refine wpAnyH_ready (rs := [13]) (by kernel_rfl) (by simp) ?_
                  refine AllReadyH.cons rfl (fun K hK => ?_) ?_
                  · obtain ⟨va54, vc54, e54⟩ := I53.slice
                    generalize List.length _ = vn54 at e54
                    subst e54
                    have c54 := cell_at bi53 0
                    have f54 := frozen_at bi53 0
                    have l54 := lt_of_obj bi53
                    go_simp
                    refine hK.out _ _ (⟨(cell_at ((obj_setCell_ne _ ⟨w.heap.size + 1, 0, none⟩ _ _ (by first | omega | (dsimp only; omega))).trans bs53) 0).trans rfl, (cell_at ((obj_setCell_ne _ ⟨w.heap.size + 1, 0, none⟩ _ _ PNE13).trans bp53) 0).trans rfl⟩) (fun hS54 => ?_)
                    clear hK K
                    try simp only [Act.put, List.setIfInBounds_toArray, List.set_cons_zero, List.set_cons_succ]
                    have bx54 : obj (x53.setCell ⟨w.heap.size + 1, 0, none⟩ (.slice va54 vn54 vc54)) (w.heap.size + 1) = some (.cells #[(.slice va54 vn54 vc54)] 93 (0, 0)) := obj_setCell_at (.slice va54 vn54 vc54) bi53
                    have by54 : obj (x53.setCell ⟨w.heap.size + 1, 0, none⟩ (.slice va54 vn54 vc54)) _ = _ := (obj_setCell_ne _ ⟨w.heap.size + 1, 0, none⟩ _ _ (by first | omega | (dsimp only; omega))).trans bd53
                    have bs54 : obj (x53.setCell ⟨w.heap.size + 1, 0, none⟩ (.slice va54 vn54 vc54)) _ = _ := (obj_setCell_ne _ ⟨w.heap.size + 1, 0, none⟩ _ _ (by first | omega | (dsimp only; omega))).trans bs53
                    have bp54 : obj (x53.setCell ⟨w.heap.size + 1, 0, none⟩ (.slice va54 vn54 vc54)) _ = _ := (obj_setCell_ne _ ⟨w.heap.size + 1, 0, none⟩ _ _ PNE13).trans bp53
                    have I54 := I53.keeps (W := (x53.setCell ⟨w.heap.size + 1, 0, none⟩ (.slice va54 vn54 vc54))) fun g hg => obj_setCell_ne _ ⟨w.heap.size + 1, 0, none⟩ _ _ (by have := (I53.1.lt g hg).1; dsimp only; omega)
                    have D54 := D53.keeps (W := (x53.setCell ⟨w.heap.size + 1, 0, none⟩ (.slice va54 vn54 vc54))) fun g hg => obj_setCell_ne _ ⟨w.heap.size + 1, 0, none⟩ _ _ (by have := (D53.1.lt g hg).1; dsimp only; omega)
                    have K54 : Keeps (fun n => n = w.heap.size + 1 ∨ n = w.heap.size + 1 + 1 ∨ iv.ownBlock = some n ∨ dv.ownBlock = some n) W (x53.setCell ⟨w.heap.size + 1, 0, none⟩ (.slice va54 vn54 vc54)) := (K53.mono (fun n hn => by first | exact .inr (.inr hn) | exact hn)).setCell (a := ⟨w.heap.size + 1, 0, none⟩) (.inl (by simp)) _
                    generalize x53.setCell ⟨w.heap.size + 1, 0, none⟩ (.slice va54 vn54 vc54) = x54 at *
                    refine wpAnyH_ready (rs := [14]) (by kernel_rfl) (by simp) ?_
                    refine AllReadyH.cons rfl (fun K hK => ?_) ?_
                    · obtain ⟨va55, vc55, e55⟩ := D54.slice
                      generalize List.length _ = vn55 at e55
                      subst e55
                      have c55 := cell_at by54 0
                      have f55 := frozen_at by54 0
                      have l55 := lt_of_obj by54
                      go_simp
                      refine hK.out _ _ (⟨(cell_at ((obj_setCell_ne _ ⟨w.heap.size + 1 + 1, 0, none⟩ _ _ (by first | omega | (dsimp only; omega))).trans bs54) 0).trans rfl, (cell_at ((obj_setCell_ne _ ⟨w.heap.size + 1 + 1, 0, none⟩ _ _ PNE14).trans bp54) 0).trans rfl⟩) (fun hS55 => ?_)
                      clear hK K
                      try simp only [Act.put, List.setIfInBounds_toArray, List.set_cons_zero, List.set_cons_succ]
                      have bx55 : obj (x54.setCell ⟨w.heap.size + 1 + 1, 0, none⟩ (.slice va55 vn55 vc55)) (w.heap.size + 1 + 1) = some (.cells #[(.slice va55 vn55 vc55)] 94 (0, 0)) := obj_setCell_at (.slice va55 vn55 vc55) by54
                      have by55 : obj (x54.setCell ⟨w.heap.size + 1 + 1, 0, none⟩ (.slice va55 vn55 vc55)) _ = _ := (obj_setCell_ne _ ⟨w.heap.size + 1 + 1, 0, none⟩ _ _ (by first | omega | (dsimp only; omega))).trans bx54
                      have bs55 : obj (x54.setCell ⟨w.heap.size + 1 + 1, 0, none⟩ (.slice va55 vn55 vc55)) _ = _ := (obj_setCell_ne _ ⟨w.heap.size + 1 + 1, 0, none⟩ _ _ (by first | omega | (dsimp only; omega))).trans bs54
                      have bp55 : obj (x54.setCell ⟨w.heap.size + 1 + 1, 0, none⟩ (.slice va55 vn55 vc55)) _ = _ := (obj_setCell_ne _ ⟨w.heap.size + 1 + 1, 0, none⟩ _ _ PNE14).trans bp54
                      have I55 := I54.keeps (W := (x54.setCell ⟨w.heap.size + 1 + 1, 0, none⟩ (.slice va55 vn55 vc55))) fun g hg => obj_setCell_ne _ ⟨w.heap.size + 1 + 1, 0, none⟩ _ _ (by have := (I54.1.lt g hg).1; dsimp only; omega)
                      have D55 := D54.keeps (W := (x54.setCell ⟨w.heap.size + 1 + 1, 0, none⟩ (.slice va55 vn55 vc55))) fun g hg => obj_setCell_ne _ ⟨w.heap.size + 1 + 1, 0, none⟩ _ _ (by have := (D54.1.lt g hg).1; dsimp only; omega)
                      have K55 : Keeps (fun n => n = w.heap.size + 1 ∨ n = w.heap.size + 1 + 1 ∨ iv.ownBlock = some n ∨ dv.ownBlock = some n) W (x54.setCell ⟨w.heap.size + 1 + 1, 0, none⟩ (.slice va55 vn55 vc55)) := (K54.mono (fun n hn => by first | exact .inr (.inr hn) | exact hn)).setCell (a := ⟨w.heap.size + 1 + 1, 0, none⟩) (.inl (by simp)) _
                      generalize x54.setCell ⟨w.heap.size + 1 + 1, 0, none⟩ (.slice va55 vn55 vc55) = x55 at *
                      refine wpAnyH_done (by kernel_rfl) ⟨rfl, ?_⟩ _
                      gi_wp2
                      exact ⟨_, ⟨_, _, by55, bx55, by rw [HTI.out]; exact I55, by rw [HTD.out]; exact D55, bs55, h6.trans (K55.below (fun n hn => BLO n hn) h6.size), Nat.le_trans h7 K55.size, rfl⟩, K55, fun n hn => by
                        rcases hn with h | h | h | h
                        · exact .inl (.inl h)
                        · exact .inl (.inr (.inl h))
                        · exact (QI n h).imp (fun h => .inr (.inr (.inl h))) id
                        · exact (QD n h).imp (fun h => .inr (.inr (.inr h))) id⟩
                    exact AllReadyH.nil
                  exact AllReadyH.nil
                exact AllReadyH.nil
              exact AllReadyH.nil
            exact AllReadyH.nil
          exact AllReadyH.nil
        refine AllReadyH.cons rfl (fun K hK => ?_) ?_
        · have c56 : x36.cell? ⟨w.heap.size + 1 + 1, 0, none⟩ = some dv := cell_at ((K36.block _ (lt_of_obj h2) ND).trans h2) 0
          go_simp
          refine hK.out _ _ (hS37) (fun hS56 => ?_)
          clear hK K
          try simp only [Act.put, List.setIfInBounds_toArray, List.set_cons_zero, List.set_cons_succ]
          refine wpAnyH_ready (rs := [6]) (by kernel_rfl) (by simp) ?_
          refine AllReadyH.cons rfl (fun K hK => ?_) ?_
          · refine step93 rfl (.tmp 15) (.tmp 20) rfl w2.heap.size iv _ o.id rfl I36 (x0.heap.size) rfl o36 HLI.out (by have := K36.size; omega) ?_
            intro iv57 x57 I57 g57 q57
            have K57 : Keeps (fun n => iv.ownBlock = some n ∨ dv.ownBlock = some n) W x57 := K36.trans ⟨g57.os, g57.tape, g57.output, g57.size, fun k hk hne => g57.block k hk (fun e => hne (.inl e.symm))⟩
            refine hK.out _ _ (SX _ (fun k hk hne => K57.block k hk hne)) (fun hS57 => ?_)
            clear hK K
            try simp only [Act.put, List.setIfInBounds_toArray, List.set_cons_zero, List.set_cons_succ]
            have D57 := D36.keeps fun g hg => g57.block g (D36.1.lt g hg).2 (fun e => own_ne D36 I36 (by decide) g ⟨hg, e.symm⟩)
            have QI : ∀ g, iv57.ownBlock = some g → iv.ownBlock = some g ∨ W.heap.size ≤ g := fun g hg => by (rcases q57 with h | h; exact .inl (h ▸ hg); (rw [h] at hg; have := K36.size; exact .inr (by simp at hg; omega)))
            refine wpAnyH_ready (rs := [10]) (by kernel_rfl) (by simp) ?_
            refine AllReadyH.cons rfl (fun K hK => ?_) ?_
            · go_simp
              refine (done_any x57 M V b _ ps S (sX.frame (W := x57) K57.size (fun n hn hmv => K57.block n hn (NO n hmv))) pre.length p o hpi hoi (HOK.out.one o (List.mem_of_getElem? hoi))).mono ?_
              rintro _ x58 ⟨rfl, b58⟩
              have K58 : Keeps (fun n => iv.ownBlock = some n ∨ dv.ownBlock = some n) W x58 := K57.trans (Keeps.of_below b58)
              refine hK.out _ _ (SX _ (fun k hk hne => K58.block k hk hne)) (fun hS58 => ?_)
              clear hK K
              try simp only [Act.put, List.setIfInBounds_toArray, List.set_cons_zero, List.set_cons_succ]
              have D58 := D57.keeps fun g hg => obj_below b58 (D57.1.lt g hg).2
              have I58 := I57.keeps fun g hg => obj_below b58 (I57.1.lt g hg).2
              refine wpAnyH_ready (rs := [11]) (by kernel_rfl) (by simp) ?_
              refine AllReadyH.cons rfl (fun K hK => ?_) ?_
              · go_simp
                refine hK.out _ _ (SX _ (fun k hk hne => (obj_alloc_past x58 _ _ (by have := K58.size; omega)).trans (K58.block k hk hne))) (fun hS59 => ?_)
                clear hK K
                try simp only [Act.put, List.setIfInBounds_toArray, List.set_cons_zero, List.set_cons_succ]
                have o59 : obj (x58.alloc (.cells #[.bool (isDone S o)] 4)) x58.heap.size = some (.cells (boolL (isDone S o)).toArray 4 (0, 0)) := obj_alloc_at x58 _ _ rfl
                have K59 : Keeps (fun n => iv.ownBlock = some n ∨ dv.ownBlock = some n) W (x58.alloc (.cells #[.bool (isDone S o)] 4)) := K58.alloc _
                have I59 := I58.alloc (.cells #[.bool (isDone S o)] 4)
                have D59 := D58.alloc (.cells #[.bool (isDone S o)] 4)
                have z59 : x58.heap.size + 1 = (x58.alloc (.cells #[.bool (isDone S o)] 4)).heap.size := by simp
                generalize x58.alloc (.cells #[.bool (isDone S o)] 4) = x59 at *
                refine wpAnyH_ready (rs := [12]) (by kernel_rfl) (by simp) ?_
                refine AllReadyH.cons rfl (fun K hK => ?_) ?_
                · refine step94 rfl (.tmp 22) (.tmp 26) rfl w2.heap.size dv _ (isDone S o) rfl D59 (x58.heap.size) rfl o59 HLD.out (by have := K59.size; omega) ?_
                  intro dv60 x60 D60 g60 q60
                  have K60 : Keeps (fun n => iv.ownBlock = some n ∨ dv.ownBlock = some n) W x60 := K59.trans ⟨g60.os, g60.tape, g60.output, g60.size, fun k hk hne => g60.block k hk (fun e => hne (.inr e.symm))⟩
                  refine hK.out _ _ (SX _ (fun k hk hne => K60.block k hk hne)) (fun hS60 => ?_)
                  clear hK K
                  try simp only [Act.put, List.setIfInBounds_toArray, List.set_cons_zero, List.set_cons_succ]
                  have I60 := I59.keeps fun g hg => g60.block g (I59.1.lt g hg).2 (fun e => own_ne I59 D59 (by decide) g ⟨hg, e.symm⟩)
                  have QD : ∀ g, dv60.ownBlock = some g → dv.ownBlock = some g ∨ W.heap.size ≤ g := fun g hg => by (rcases q60 with h | h; exact .inl (h ▸ hg); (rw [h] at hg; have := K59.size; exact .inr (by simp at hg; omega)))
                  have bi60 := (K60.block _ (lt_of_obj h1) NI).trans h1
                  have bd60 := (K60.block _ (lt_of_obj h2) ND).trans h2
                  have bs60 := (K60.block _ (lt_of_obj h5) NSB).trans h5
                  have bp60 := (K60.block _ (lt_of_obj hov.at_) (NO _ (.inl hpM))).trans hov.at_
                  refine wpAnyH_ready (rs := [13]) (by kernel_rfl) (by simp) ?_
                  refine AllReadyH.cons rfl (fun K hK => ?_) ?_
                  · obtain ⟨va61, vc61, e61⟩ := I60.slice
                    generalize List.length _ = vn61 at e61
                    subst e61
                    have c61 := cell_at bi60 0
                    have f61 := frozen_at bi60 0
                    have l61 := lt_of_obj bi60
                    go_simp
                    refine hK.out _ _ (⟨(cell_at ((obj_setCell_ne _ ⟨w.heap.size + 1, 0, none⟩ _ _ (by first | omega | (dsimp only; omega))).trans bs60) 0).trans rfl, (cell_at ((obj_setCell_ne _ ⟨w.heap.size + 1, 0, none⟩ _ _ PNE13).trans bp60) 0).trans rfl⟩) (fun hS61 => ?_)
                    clear hK K
                    try simp only [Act.put, List.setIfInBounds_toArray, List.set_cons_zero, List.set_cons_succ]
                    have bx61 : obj (x60.setCell ⟨w.heap.size + 1, 0, none⟩ (.slice va61 vn61 vc61)) (w.heap.size + 1) = some (.cells #[(.slice va61 vn61 vc61)] 93 (0, 0)) := obj_setCell_at (.slice va61 vn61 vc61) bi60
                    have by61 : obj (x60.setCell ⟨w.heap.size + 1, 0, none⟩ (.slice va61 vn61 vc61)) _ = _ := (obj_setCell_ne _ ⟨w.heap.size + 1, 0, none⟩ _ _ (by first | omega | (dsimp only; omega))).trans bd60
                    have bs61 : obj (x60.setCell ⟨w.heap.size + 1, 0, none⟩ (.slice va61 vn61 vc61)) _ = _ := (obj_setCell_ne _ ⟨w.heap.size + 1, 0, none⟩ _ _ (by first | omega | (dsimp only; omega))).trans bs60
                    have bp61 : obj (x60.setCell ⟨w.heap.size + 1, 0, none⟩ (.slice va61 vn61 vc61)) _ = _ := (obj_setCell_ne _ ⟨w.heap.size + 1, 0, none⟩ _ _ PNE13).trans bp60
                    have I61 := I60.keeps (W := (x60.setCell ⟨w.heap.size + 1, 0, none⟩ (.slice va61 vn61 vc61))) fun g hg => obj_setCell_ne _ ⟨w.heap.size + 1, 0, none⟩ _ _ (by have := (I60.1.lt g hg).1; dsimp only; omega)
                    have D61 := D60.keeps (W := (x60.setCell ⟨w.heap.size + 1, 0, none⟩ (.slice va61 vn61 vc61))) fun g hg => obj_setCell_ne _ ⟨w.heap.size + 1, 0, none⟩ _ _ (by have := (D60.1.lt g hg).1; dsimp only; omega)
                    have K61 : Keeps (fun n => n = w.heap.size + 1 ∨ n = w.heap.size + 1 + 1 ∨ iv.ownBlock = some n ∨ dv.ownBlock = some n) W (x60.setCell ⟨w.heap.size + 1, 0, none⟩ (.slice va61 vn61 vc61)) := (K60.mono (fun n hn => by first | exact .inr (.inr hn) | exact hn)).setCell (a := ⟨w.heap.size + 1, 0, none⟩) (.inl (by simp)) _
                    generalize x60.setCell ⟨w.heap.size + 1, 0, none⟩ (.slice va61 vn61 vc61) = x61 at *
                    refine wpAnyH_ready (rs := [14]) (by kernel_rfl) (by simp) ?_
                    refine AllReadyH.cons rfl (fun K hK => ?_) ?_
                    · obtain ⟨va62, vc62, e62⟩ := D61.slice
                      generalize List.length _ = vn62 at e62
                      subst e62
                      have c62 := cell_at by61 0
                      have f62 := frozen_at by61 0
                      have l62 := lt_of_obj by61
                      go_simp
                      refine hK.out _ _ (⟨(cell_at ((obj_setCell_ne _ ⟨w.heap.size + 1 + 1, 0, none⟩ _ _ (by first | omega | (dsimp only; omega))).trans bs61) 0).trans rfl, (cell_at ((obj_setCell_ne _ ⟨w.heap.size + 1 + 1, 0, none⟩ _ _ PNE14).trans bp61) 0).trans rfl⟩) (fun hS62 => ?_)
                      clear hK K
                      try simp only [Act.put, List.setIfInBounds_toArray, List.set_cons_zero, List.set_cons_succ]
                      have bx62 : obj (x61.setCell ⟨w.heap.size + 1 + 1, 0, none⟩ (.slice va62 vn62 vc62)) (w.heap.size + 1 + 1) = some (.cells #[(.slice va62 vn62 vc62)] 94 (0, 0)) := obj_setCell_at (.slice va62 vn62 vc62) by61
                      have by62 : obj (x61.setCell ⟨w.heap.size + 1 + 1, 0, none⟩ (.slice va62 vn62 vc62)) _ = _ := (obj_setCell_ne _ ⟨w.heap.size + 1 + 1, 0, none⟩ _ _ (by first | omega | (dsimp only; omega))).trans bx61
                      have bs62 : obj (x61.setCell ⟨w.heap.size + 1 + 1, 0, none⟩ (.slice va62 vn62 vc62)) _ = _ := (obj_setCell_ne _ ⟨w.heap.size + 1 + 1, 0, none⟩ _ _ (by first | omega | (dsimp only; omega))).trans bs61
                      have bp62 : obj (x61.setCell ⟨w.heap.size + 1 + 1, 0, none⟩ (.slice va62 vn62 vc62)) _ = _ := (obj_setCell_ne _ ⟨w.heap.size + 1 + 1, 0, none⟩ _ _ PNE14).trans bp61
                      have I62 := I61.keeps (W := (x61.setCell ⟨w.heap.size + 1 + 1, 0, none⟩ (.slice va62 vn62 vc62))) fun g hg => obj_setCell_ne _ ⟨w.heap.size + 1 + 1, 0, none⟩ _ _ (by have := (I61.1.lt g hg).1; dsimp only; omega)
                      have D62 := D61.keeps (W := (x61.setCell ⟨w.heap.size + 1 + 1, 0, none⟩ (.slice va62 vn62 vc62))) fun g hg => obj_setCell_ne _ ⟨w.heap.size + 1 + 1, 0, none⟩ _ _ (by have := (D61.1.lt g hg).1; dsimp only; omega)
                      have K62 : Keeps (fun n => n = w.heap.size + 1 ∨ n = w.heap.size + 1 + 1 ∨ iv.ownBlock = some n ∨ dv.ownBlock = some n) W (x61.setCell ⟨w.heap.size + 1 + 1, 0, none⟩ (.slice va62 vn62 vc62)) := (K61.mono (fun n hn => by first | exact .inr (.inr hn) | exact hn)).setCell (a := ⟨w.heap.size + 1 + 1, 0, none⟩) (.inl (by simp)) _
                      generalize x61.setCell ⟨w.heap.size + 1 + 1, 0, none⟩ (.slice va62 vn62 vc62) = x62 at *
                      refine wpAnyH_done (by kernel_rfl) ⟨rfl, ?_⟩ _
                      gi_wp2
                      exact ⟨_, ⟨_, _, by62, bx62, by rw [HTI.out]; exact I62, by rw [HTD.out]; exact D62, bs62, h6.trans (K62.below (fun n hn => BLO n hn) h6.size), Nat.le_trans h7 K62.size, rfl⟩, K62, fun n hn => by
                        rcases hn with h | h | h | h
                        · exact .inl (.inl h)
                        · exact .inl (.inr (.inl h))
                        · exact (QI n h).imp (fun h => .inr (.inr (.inl h))) id
                        · exact (QD n h).imp (fun h => .inr (.inr (.inr h))) id⟩
                    exact AllReadyH.nil
                  exact AllReadyH.nil
                exact AllReadyH.nil
              exact AllReadyH.nil
            exact AllReadyH.nil
          exact AllReadyH.nil
        exact AllReadyH.nil
      refine AllReadyH.cons rfl (fun K hK => ?_) ?_
      · have c63 : x36.cell? ⟨w.heap.size + 1 + 1, 0, none⟩ = some dv := cell_at ((K36.block _ (lt_of_obj h2) ND).trans h2) 0
        go_simp
        refine hK.out _ _ (hS36) (fun hS63 => ?_)
        clear hK K
        try simp only [Act.put, List.setIfInBounds_toArray, List.set_cons_zero, List.set_cons_succ]
        refine wpAnyH_ready (rs := [0]) (by kernel_rfl) (by simp) ?_
        refine AllReadyH.cons rfl (fun K hK => ?_) ?_
        · have c64 : x36.cell? ⟨w.heap.size + 1, 0, none⟩ = some iv := cell_at ((K36.block _ (lt_of_obj h1) NI).trans h1) 0
          go_simp
          refine hK.out _ _ (hS63) (fun hS64 => ?_)
          clear hK K
          try simp only [Act.put, List.setIfInBounds_toArray, List.set_cons_zero, List.set_cons_succ]
          refine wpAnyH_ready (rs := [6]) (by kernel_rfl) (by simp) ?_
          refine AllReadyH.cons rfl (fun K hK => ?_) ?_
          · refine step93 rfl (.tmp 15) (.tmp 20) rfl w2.heap.size iv _ o.id rfl I36 (x0.heap.size) rfl o36 HLI.out (by have := K36.size; omega) ?_
            intro iv65 x65 I65 g65 q65
            have K65 : Keeps (fun n => iv.ownBlock = some n ∨ dv.ownBlock = some n) W x65 := K36.trans ⟨g65.os, g65.tape, g65.output, g65.size, fun k hk hne => g65.block k hk (fun e => hne (.inl e.symm))⟩
            refine hK.out _ _ (SX _ (fun k hk hne => K65.block k hk hne)) (fun hS65 => ?_)
            clear hK K
            try simp only [Act.put, List.setIfInBounds_toArray, List.set_cons_zero, List.set_cons_succ]
            have D65 := D36.keeps fun g hg => g65.block g (D36.1.lt g hg).2 (fun e => own_ne D36 I36 (by decide) g ⟨hg, e.symm⟩)
            have QI : ∀ g, iv65.ownBlock = some g → iv.ownBlock = some g ∨ W.heap.size ≤ g := fun g hg => by (rcases q65 with h | h; exact .inl (h ▸ hg); (rw [h] at hg; have := K36.size; exact .inr (by simp at hg; omega)))
            refine wpAnyH_ready (rs := [10]) (by kernel_rfl) (by simp) ?_
            refine AllReadyH.cons rfl (fun K hK => ?_) ?_
            · go_simp
              refine (done_any x65 M V b _ ps S (sX.frame (W := x65) K65.size (fun n hn hmv => K65.block n hn (NO n hmv))) pre.length p o hpi hoi (HOK.out.one o (List.mem_of_getElem? hoi))).mono ?_
              rintro _ x66 ⟨rfl, b66⟩
              have K66 : Keeps (fun n => iv.ownBlock = some n ∨ dv.ownBlock = some n) W x66 := K65.trans (Keeps.of_below b66)
              refine hK.out _ _ (SX _ (fun k hk hne => K66.block k hk hne)) (fun hS66 => ?_)
              clear hK K
              try simp only [Act.put, List.setIfInBounds_toArray, List.set_cons_zero, List.set_cons_succ]
              have D66 := D65.keeps fun g hg => obj_below b66 (D65.1.lt g hg).2
              have I66 := I65.keeps fun g hg => obj_below b66 (I65.1.lt g hg).2
              refine wpAnyH_ready (rs := [11]) (by kernel_rfl) (by simp) ?_
              refine AllReadyH.cons rfl (fun K hK => ?_) ?_
              · go_simp
                refine hK.out _ _ (SX _ (fun k hk hne => (obj_alloc_past x66 _ _ (by have := K66.size; omega)).trans (K66.block k hk hne))) (fun hS67 => ?_)
                clear hK K
                try simp only [Act.put, List.setIfInBounds_toArray, List.set_cons_zero, List.set_cons_succ]
                have o67 : obj (x66.alloc (.cells #[.bool (isDone S o)] 4)) x66.heap.size = some (.cells (boolL (isDone S o)).toArray 4 (0, 0)) := obj_alloc_at x66 _ _ rfl
                have K67 : Keeps (fun n => iv.ownBlock = some n ∨ dv.ownBlock = some n) W (x66.alloc (.cells #[.bool (isDone S o)] 4)) := K66.alloc _
                have I67 := I66.alloc (.cells #[.bool (isDone S o)] 4)
                have D67 := D66.alloc (.cells #[.bool (isDone S o)] 4)
                have z67 : x66.heap.size + 1 = (x66.alloc (.cells #[.bool (isDone S o)] 4)).heap.size := by simp
                generalize x66.alloc (.cells #[.bool (isDone S o)] 4) = x67 at *
                refine wpAnyH_ready (rs := [12]) (by kernel_rfl) (by simp) ?_
                refine AllReadyH.cons rfl (fun K hK => ?_) ?_
                · refine step94 rfl (.tmp 22) (.tmp 26) rfl w2.heap.size dv _ (isDone S o) rfl D67 (x66.heap.size) rfl o67 HLD.out (by have := K67.size; omega) ?_
                  intro dv68 x68 D68 g68 q68
                  have K68 : Keeps (fun n => iv.ownBlock = some n ∨ dv.ownBlock = some n) W x68 := K67.trans ⟨g68.os, g68.tape, g68.output, g68.size, fun k hk hne => g68.block k hk (fun e => hne (.inr e.symm))⟩
                  refine hK.out _ _ (SX _ (fun k hk hne => K68.block k hk hne)) (fun hS68 => ?_)
                  clear hK K
                  try simp only [Act.put, List.setIfInBounds_toArray, List.set_cons_zero, List.set_cons_succ]
                  have I68 := I67.keeps fun g hg => g68.block g (I67.1.lt g hg).2 (fun e => own_ne I67 D67 (by decide) g ⟨hg, e.symm⟩)
                  have QD : ∀ g, dv68.ownBlock = some g → dv.ownBlock = some g ∨ W.heap.size ≤ g := fun g hg => by (rcases q68 with h | h; exact .inl (h ▸ hg); (rw [h] at hg; have := K67.size; exact .inr (by simp at hg; omega)))
                  have bi68 := (K68.block _ (lt_of_obj h1) NI).trans h1
                  have bd68 := (K68.block _ (lt_of_obj h2) ND).trans h2
                  have bs68 := (K68.block _ (lt_of_obj h5) NSB).trans h5
                  have bp68 := (K68.block _ (lt_of_obj hov.at_) (NO _ (.inl hpM))).trans hov.at_
                  refine wpAnyH_ready (rs := [13]) (by kernel_rfl) (by simp) ?_
                  refine AllReadyH.cons rfl (fun K hK => ?_) ?_
                  · obtain ⟨va69, vc69, e69⟩ := I68.slice
                    generalize List.length _ = vn69 at e69
                    subst e69
                    have c69 := cell_at bi68 0
                    have f69 := frozen_at bi68 0
                    have l69 := lt_of_obj bi68
                    go_simp
                    refine hK.out _ _ (⟨(cell_at ((obj_setCell_ne _ ⟨w.heap.size + 1, 0, none⟩ _ _ (by first | omega | (dsimp only; omega))).trans bs68) 0).trans rfl, (cell_at ((obj_setCell_ne _ ⟨w.heap.size + 1, 0, none⟩ _ _ PNE13).trans bp68) 0).trans rfl⟩) (fun hS69 => ?_)
                    clear hK K
                    try simp only [Act.put, List.setIfInBounds_toArray, List.set_cons_zero, List.set_cons_succ]
                    have bx69 : obj (x68.setCell ⟨w.heap.size + 1, 0, none⟩ (.slice va69 vn69 vc69)) (w.heap.size + 1) = some (.cells #[(.slice va69 vn69 vc69)] 93 (0, 0)) := obj_setCell_at (.slice va69 vn69 vc69) bi68
                    have by69 : obj (x68.setCell ⟨w.heap.size + 1, 0, none⟩ (.slice va69 vn69 vc69)) _ = _ := (obj_setCell_ne _ ⟨w.heap.size + 1, 0, none⟩ _ _ (by first | omega | (dsimp only; omega))).trans bd68
                    have bs69 : obj (x68.setCell ⟨w.heap.size + 1, 0, none⟩ (.slice va69 vn69 vc69)) _ = _ := (obj_setCell_ne _ ⟨w.heap.size + 1, 0, none⟩ _ _ (by first | omega | (dsimp only; omega))).trans bs68
                    have bp69 : obj (x68.setCell ⟨w.heap.size + 1, 0, none⟩ (.slice va69 vn69 vc69)) _ = _ := (obj_setCell_ne _ ⟨w.heap.size + 1, 0, none⟩ _ _ PNE13).trans bp68
                    have I69 := I68.keeps (W := (x68.setCell ⟨w.heap.size + 1, 0, none⟩ (.slice va69 vn69 vc69))) fun g hg => obj_setCell_ne _ ⟨w.heap.size + 1, 0, none⟩ _ _ (by have := (I68.1.lt g hg).1; dsimp only; omega)
                    have D69 := D68.keeps (W := (x68.setCell ⟨w.heap.size + 1, 0, none⟩ (.slice va69 vn69 vc69))) fun g hg => obj_setCell_ne _ ⟨w.heap.size + 1, 0, none⟩ _ _ (by have := (D68.1.lt g hg).1; dsimp only; omega)
                    have K69 : Keeps (fun n => n = w.heap.size + 1 ∨ n = w.heap.size + 1 + 1 ∨ iv.ownBlock = some n ∨ dv.ownBlock = some n) W (x68.setCell ⟨w.heap.size + 1, 0, none⟩ (.slice va69 vn69 vc69)) := (K68.mono (fun n hn => by first | exact .inr (.inr hn) | exact hn)).setCell (a := ⟨w.heap.size + 1, 0, none⟩) (.inl (by simp)) _
                    generalize x68.setCell ⟨w.heap.size + 1, 0, none⟩ (.slice va69 vn69 vc69) = x69 at *
                    refine wpAnyH_ready (rs := [14]) (by kernel_rfl) (by simp) ?_
                    refine AllReadyH.cons rfl (fun K hK => ?_) ?_
                    · obtain ⟨va70, vc70, e70⟩ := D69.slice
                      generalize List.length _ = vn70 at e70
                      subst e70
                      have c70 := cell_at by69 0
                      have f70 := frozen_at by69 0
                      have l70 := lt_of_obj by69
                      go_simp
                      refine hK.out _ _ (⟨(cell_at ((obj_setCell_ne _ ⟨w.heap.size + 1 + 1, 0, none⟩ _ _ (by first | omega | (dsimp only; omega))).trans bs69) 0).trans rfl, (cell_at ((obj_setCell_ne _ ⟨w.heap.size + 1 + 1, 0, none⟩ _ _ PNE14).trans bp69) 0).trans rfl⟩) (fun hS70 => ?_)
                      clear hK K
                      try simp only [Act.put, List.setIfInBounds_toArray, List.set_cons_zero, List.set_cons_succ]
                      have bx70 : obj (x69.setCell ⟨w.heap.size + 1 + 1, 0, none⟩ (.slice va70 vn70 vc70)) (w.heap.size + 1 + 1) = some (.cells #[(.slice va70 vn70 vc70)] 94 (0, 0)) := obj_setCell_at (.slice va70 vn70 vc70) by69
                      have by70 : obj (x69.setCell ⟨w.heap.size + 1 + 1, 0, none⟩ (.slice va70 vn70 vc70)) _ = _ := (obj_setCell_ne _ ⟨w.heap.size + 1 + 1, 0, none⟩ _ _ (by first | omega | (dsimp only; omega))).trans bx69
                      have bs70 : obj (x69.setCell ⟨w.heap.size + 1 + 1, 0, none⟩ (.slice va70 vn70 vc70)) _ = _ := (obj_setCell_ne _ ⟨w.heap.size + 1 + 1, 0, none⟩ _ _ (by first | omega | (dsimp only; omega))).trans bs69
                      have bp70 : obj (x69.setCell ⟨w.heap.size + 1 + 1, 0, none⟩ (.slice va70 vn70 vc70)) _ = _ := (obj_setCell_ne _ ⟨w.heap.size + 1 + 1, 0, none⟩ _ _ PNE14).trans bp69
                      have I70 := I69.keeps (W := (x69.setCell ⟨w.heap.size + 1 + 1, 0, none⟩ (.slice va70 vn70 vc70))) fun g hg => obj_setCell_ne _ ⟨w.heap.size + 1 + 1, 0, none⟩ _ _ (by have := (I69.1.lt g hg).1; dsimp only; omega)
                      have D70 := D69.keeps (W := (x69.setCell ⟨w.heap.size + 1 + 1, 0, none⟩ (.slice va70 vn70 vc70))) fun g hg => obj_setCell_ne _ ⟨w.heap.size + 1 + 1, 0, none⟩ _ _ (by have := (D69.1.lt g hg).1; dsimp only; omega)
                      have K70 : Keeps (fun n => n = w.heap.size + 1 ∨ n = w.heap.size + 1 + 1 ∨ iv.ownBlock = some n ∨ dv.ownBlock = some n) W (x69.setCell ⟨w.heap.size + 1 + 1, 0, none⟩ (.slice va70 vn70 vc70)) := (K69.mono (fun n hn => by first | exact .inr (.inr hn) | exact hn)).setCell (a := ⟨w.heap.size + 1 + 1, 0, none⟩) (.inl (by simp)) _
                      generalize x69.setCell ⟨w.heap.size + 1 + 1, 0, none⟩ (.slice va70 vn70 vc70) = x70 at *
                      refine wpAnyH_done (by kernel_rfl) ⟨rfl, ?_⟩ _
                      gi_wp2
                      exact ⟨_, ⟨_, _, by70, bx70, by rw [HTI.out]; exact I70, by rw [HTD.out]; exact D70, bs70, h6.trans (K70.below (fun n hn => BLO n hn) h6.size), Nat.le_trans h7 K70.size, rfl⟩, K70, fun n hn => by
                        rcases hn with h | h | h | h
                        · exact .inl (.inl h)
                        · exact .inl (.inr (.inl h))
                        · exact (QI n h).imp (fun h => .inr (.inr (.inl h))) id
                        · exact (QD n h).imp (fun h => .inr (.inr (.inr h))) id⟩
                    exact AllReadyH.nil
                  exact AllReadyH.nil
                exact AllReadyH.nil
              exact AllReadyH.nil
            exact AllReadyH.nil
          exact AllReadyH.nil
        exact AllReadyH.nil
      exact AllReadyH.nil
    refine AllReadyH.cons rfl (fun K hK => ?_) ?_
    · have c71 : x0.cell? ⟨w.heap.size + 1 + 1, 0, none⟩ = some dv := cell_at ((K0.block _ (lt_of_obj h2) ND).trans h2) 0
      go_simp
      refine hK.out _ _ (hS) (fun hS71 => ?_)
      clear hK K
      try simp only [Act.put, List.setIfInBounds_toArray, List.set_cons_zero, List.set_cons_succ]
      refine wpAnyH_ready (rs := [0, 5]) (by kernel_rfl) (by simp) ?_
      refine AllReadyH.cons rfl (fun K hK => ?_) ?_
      · have c72 : x0.cell? ⟨w.heap.size + 1, 0, none⟩ = some iv := cell_at ((K0.block _ (lt_of_obj h1) NI).trans h1) 0
        go_simp
        refine hK.out _ _ (hS71) (fun hS72 => ?_)
        clear hK K
        try simp only [Act.put, List.setIfInBounds_toArray, List.set_cons_zero, List.set_cons_succ]
        refine wpAnyH_ready (rs := [5]) (by kernel_rfl) (by simp) ?_
        refine AllReadyH.cons rfl (fun K hK => ?_) ?_
        · go_simp
          refine hK.out _ _ (SX _ (fun k hk hne => (obj_alloc_past x0 _ _ (by have := K0.size; omega)).trans (K0.block k hk hne))) (fun hS73 => ?_)
          clear hK K
          try simp only [Act.put, List.setIfInBounds_toArray, List.set_cons_zero, List.set_cons_succ]
          have o73 : obj (x0.alloc (.cells #[.int .i64 o.id] 2)) x0.heap.size = some (.cells (intL o.id).toArray 2 (0, 0)) := obj_alloc_at x0 _ _ rfl
          have K73 : Keeps (fun n => iv.ownBlock = some n ∨ dv.ownBlock = some n) W (x0.alloc (.cells #[.int .i64 o.id] 2)) := K0.alloc _
          have I73 := I0.alloc (.cells #[.int .i64 o.id] 2)
          have D73 := D0.alloc (.cells #[.int .i64 o.id] 2)
          have z73 : x0.heap.size + 1 = (x0.alloc (.cells #[.int .i64 o.id] 2)).heap.size := by simp
          generalize x0.alloc (.cells #[.int .i64 o.id] 2) = x73 at *
          refine wpAnyH_ready (rs := [6]) (by kernel_rfl) (by simp) ?_
          refine AllReadyH.cons rfl (fun K hK => ?_) ?_
          · refine step93 rfl (.tmp 15) (.tmp 20) rfl w2.heap.size iv _ o.id rfl I73 (x0.heap.size) rfl o73 HLI.out (by have := K73.size; omega) ?_
            intro iv74 x74 I74 g74 q74
            have K74 : Keeps (fun n => iv.ownBlock = some n ∨ dv.ownBlock = some n) W x74 := K73.trans ⟨g74.os, g74.tape, g74.output, g74.size, fun k hk hne => g74.block k hk (fun e => hne (.inl e.symm))⟩
            refine hK.out _ _ (SX _ (fun k hk hne => K74.block k hk hne)) (fun hS74 => ?_)
            clear hK K
            try simp only [Act.put, List.setIfInBounds_toArray, List.set_cons_zero, List.set_cons_succ]
            have D74 := D73.keeps fun g hg => g74.block g (D73.1.lt g hg).2 (fun e => own_ne D73 I73 (by decide) g ⟨hg, e.symm⟩)
            have QI : ∀ g, iv74.ownBlock = some g → iv.ownBlock = some g ∨ W.heap.size ≤ g := fun g hg => by (rcases q74 with h | h; exact .inl (h ▸ hg); (rw [h] at hg; have := K73.size; exact .inr (by simp at hg; omega)))
            refine wpAnyH_ready (rs := [10]) (by kernel_rfl) (by simp) ?_
            refine AllReadyH.cons rfl (fun K hK => ?_) ?_
            · go_simp
              refine (done_any x74 M V b _ ps S (sX.frame (W := x74) K74.size (fun n hn hmv => K74.block n hn (NO n hmv))) pre.length p o hpi hoi (HOK.out.one o (List.mem_of_getElem? hoi))).mono ?_
              rintro _ x75 ⟨rfl, b75⟩
              have K75 : Keeps (fun n => iv.ownBlock = some n ∨ dv.ownBlock = some n) W x75 := K74.trans (Keeps.of_below b75)
              refine hK.out _ _ (SX _ (fun k hk hne => K75.block k hk hne)) (fun hS75 => ?_)
              clear hK K
              try simp only [Act.put, List.setIfInBounds_toArray, List.set_cons_zero, List.set_cons_succ]
              have D75 := D74.keeps fun g hg => obj_below b75 (D74.1.lt g hg).2
              have I75 := I74.keeps fun g hg => obj_below b75 (I74.1.lt g hg).2
              refine wpAnyH_ready (rs := [11]) (by kernel_rfl) (by simp) ?_
              refine AllReadyH.cons rfl (fun K hK => ?_) ?_
              · go_simp
                refine hK.out _ _ (SX _ (fun k hk hne => (obj_alloc_past x75 _ _ (by have := K75.size; omega)).trans (K75.block k hk hne))) (fun hS76 => ?_)
                clear hK K
                try simp only [Act.put, List.setIfInBounds_toArray, List.set_cons_zero, List.set_cons_succ]
                have o76 : obj (x75.alloc (.cells #[.bool (isDone S o)] 4)) x75.heap.size = some (.cells (boolL (isDone S o)).toArray 4 (0, 0)) := obj_alloc_at x75 _ _ rfl
                have K76 : Keeps (fun n => iv.ownBlock = some n ∨ dv.ownBlock = some n) W (x75.alloc (.cells #[.bool (isDone S o)] 4)) := K75.alloc _
                have I76 := I75.alloc (.cells #[.bool (isDone S o)] 4)
                have D76 := D75.alloc (.cells #[.bool (isDone S o)] 4)
                have z76 : x75.heap.size + 1 = (x75.alloc (.cells #[.bool (isDone S o)] 4)).heap.size := by simp
                generalize x75.alloc (.cells #[.bool (isDone S o)] 4) = x76 at *
                refine wpAnyH_ready (rs := [12]) (by kernel_rfl) (by simp) ?_
                refine AllReadyH.cons rfl (fun K hK => ?_) ?_
                · refine step94 rfl (.tmp 22) (.tmp 26) rfl w2.heap.size dv _ (isDone S o) rfl D76 (x75.heap.size) rfl o76 HLD.out (by have := K76.size; omega) ?_
                  intro dv77 x77 D77 g77 q77
                  have K77 : Keeps (fun n => iv.ownBlock = some n ∨ dv.ownBlock = some n) W x77 := K76.trans ⟨g77.os, g77.tape, g77.output, g77.size, fun k hk hne => g77.block k hk (fun e => hne (.inr e.symm))⟩
                  refine hK.out _ _ (SX _ (fun k hk hne => K77.block k hk hne)) (fun hS77 => ?_)
                  clear hK K
                  try simp only [Act.put, List.setIfInBounds_toArray, List.set_cons_zero, List.set_cons_succ]
                  have I77 := I76.keeps fun g hg => g77.block g (I76.1.lt g hg).2 (fun e => own_ne I76 D76 (by decide) g ⟨hg, e.symm⟩)
                  have QD : ∀ g, dv77.ownBlock = some g → dv.ownBlock = some g ∨ W.heap.size ≤ g := fun g hg => by (rcases q77 with h | h; exact .inl (h ▸ hg); (rw [h] at hg; have := K76.size; exact .inr (by simp at hg; omega)))
                  have bi77 := (K77.block _ (lt_of_obj h1) NI).trans h1
                  have bd77 := (K77.block _ (lt_of_obj h2) ND).trans h2
                  have bs77 := (K77.block _ (lt_of_obj h5) NSB).trans h5
                  have bp77 := (K77.block _ (lt_of_obj hov.at_) (NO _ (.inl hpM))).trans hov.at_
                  refine wpAnyH_ready (rs := [13]) (by kernel_rfl) (by simp) ?_
                  refine AllReadyH.cons rfl (fun K hK => ?_) ?_
                  · obtain ⟨va78, vc78, e78⟩ := I77.slice
                    generalize List.length _ = vn78 at e78
                    subst e78
                    have c78 := cell_at bi77 0
                    have f78 := frozen_at bi77 0
                    have l78 := lt_of_obj bi77
                    go_simp
                    refine hK.out _ _ (⟨(cell_at ((obj_setCell_ne _ ⟨w.heap.size + 1, 0, none⟩ _ _ (by first | omega | (dsimp only; omega))).trans bs77) 0).trans rfl, (cell_at ((obj_setCell_ne _ ⟨w.heap.size + 1, 0, none⟩ _ _ PNE13).trans bp77) 0).trans rfl⟩) (fun hS78 => ?_)
                    clear hK K
                    try simp only [Act.put, List.setIfInBounds_toArray, List.set_cons_zero, List.set_cons_succ]
                    have bx78 : obj (x77.setCell ⟨w.heap.size + 1, 0, none⟩ (.slice va78 vn78 vc78)) (w.heap.size + 1) = some (.cells #[(.slice va78 vn78 vc78)] 93 (0, 0)) := obj_setCell_at (.slice va78 vn78 vc78) bi77
                    have by78 : obj (x77.setCell ⟨w.heap.size + 1, 0, none⟩ (.slice va78 vn78 vc78)) _ = _ := (obj_setCell_ne _ ⟨w.heap.size + 1, 0, none⟩ _ _ (by first | omega | (dsimp only; omega))).trans bd77
                    have bs78 : obj (x77.setCell ⟨w.heap.size + 1, 0, none⟩ (.slice va78 vn78 vc78)) _ = _ := (obj_setCell_ne _ ⟨w.heap.size + 1, 0, none⟩ _ _ (by first | omega | (dsimp only; omega))).trans bs77
                    have bp78 : obj (x77.setCell ⟨w.heap.size + 1, 0, none⟩ (.slice va78 vn78 vc78)) _ = _ := (obj_setCell_ne _ ⟨w.heap.size + 1, 0, none⟩ _ _ PNE13).trans bp77
                    have I78 := I77.keeps (W := (x77.setCell ⟨w.heap.size + 1, 0, none⟩ (.slice va78 vn78 vc78))) fun g hg => obj_setCell_ne _ ⟨w.heap.size + 1, 0, none⟩ _ _ (by have := (I77.1.lt g hg).1; dsimp only; omega)
                    have D78 := D77.keeps (W := (x77.setCell ⟨w.heap.size + 1, 0, none⟩ (.slice va78 vn78 vc78))) fun g hg => obj_setCell_ne _ ⟨w.heap.size + 1, 0, none⟩ _ _ (by have := (D77.1.lt g hg).1; dsimp only; omega)
                    have K78 : Keeps (fun n => n = w.heap.size + 1 ∨ n = w.heap.size + 1 + 1 ∨ iv.ownBlock = some n ∨ dv.ownBlock = some n) W (x77.setCell ⟨w.heap.size + 1, 0, none⟩ (.slice va78 vn78 vc78)) := (K77.mono (fun n hn => by first | exact .inr (.inr hn) | exact hn)).setCell (a := ⟨w.heap.size + 1, 0, none⟩) (.inl (by simp)) _
                    generalize x77.setCell ⟨w.heap.size + 1, 0, none⟩ (.slice va78 vn78 vc78) = x78 at *
                    refine wpAnyH_ready (rs := [14]) (by kernel_rfl) (by simp) ?_
                    refine AllReadyH.cons rfl (fun K hK => ?_) ?_
                    · obtain ⟨va79, vc79, e79⟩ := D78.slice
                      generalize List.length _ = vn79 at e79
                      subst e79
                      have c79 := cell_at by78 0
                      have f79 := frozen_at by78 0
                      have l79 := lt_of_obj by78
                      go_simp
                      refine hK.out _ _ (⟨(cell_at ((obj_setCell_ne _ ⟨w.heap.size + 1 + 1, 0, none⟩ _ _ (by first | omega | (dsimp only; omega))).trans bs78) 0).trans rfl, (cell_at ((obj_setCell_ne _ ⟨w.heap.size + 1 + 1, 0, none⟩ _ _ PNE14).trans bp78) 0).trans rfl⟩) (fun hS79 => ?_)
                      clear hK K
                      try simp only [Act.put, List.setIfInBounds_toArray, List.set_cons_zero, List.set_cons_succ]
                      have bx79 : obj (x78.setCell ⟨w.heap.size + 1 + 1, 0, none⟩ (.slice va79 vn79 vc79)) (w.heap.size + 1 + 1) = some (.cells #[(.slice va79 vn79 vc79)] 94 (0, 0)) := obj_setCell_at (.slice va79 vn79 vc79) by78
                      have by79 : obj (x78.setCell ⟨w.heap.size + 1 + 1, 0, none⟩ (.slice va79 vn79 vc79)) _ = _ := (obj_setCell_ne _ ⟨w.heap.size + 1 + 1, 0, none⟩ _ _ (by first | omega | (dsimp only; omega))).trans bx78
                      have bs79 : obj (x78.setCell ⟨w.heap.size + 1 + 1, 0, none⟩ (.slice va79 vn79 vc79)) _ = _ := (obj_setCell_ne _ ⟨w.heap.size + 1 + 1, 0, none⟩ _ _ (by first | omega | (dsimp only; omega))).trans bs78
                      have bp79 : obj (x78.setCell ⟨w.heap.size + 1 + 1, 0, none⟩ (.slice va79 vn79 vc79)) _ = _ := (obj_setCell_ne _ ⟨w.heap.size + 1 + 1, 0, none⟩ _ _ PNE14).trans bp78
                      have I79 := I78.keeps (W := (x78.setCell ⟨w.heap.size + 1 + 1, 0, none⟩ (.slice va79 vn79 vc79))) fun g hg => obj_setCell_ne _ ⟨w.heap.size + 1 + 1, 0, none⟩ _ _ (by have := (I78.1.lt g hg).1; dsimp only; omega)
                      have D79 := D78.keeps (W := (x78.setCell ⟨w.heap.size + 1 + 1, 0, none⟩ (.slice va79 vn79 vc79))) fun g hg => obj_setCell_ne _ ⟨w.heap.size + 1 + 1, 0, none⟩ _ _ (by have := (D78.1.lt g hg).1; dsimp only; omega)
                      have K79 : Keeps (fun n => n = w.heap.size + 1 ∨ n = w.heap.size + 1 + 1 ∨ iv.ownBlock = some n ∨ dv.ownBlock = some n) W (x78.setCell ⟨w.heap.size + 1 + 1, 0, none⟩ (.slice va79 vn79 vc79)) := (K78.mono (fun n hn => by first | exact .inr (.inr hn) | exact hn)).setCell (a := ⟨w.heap.size + 1 + 1, 0, none⟩) (.inl (by simp)) _
                      generalize x78.setCell ⟨w.heap.size + 1 + 1, 0, none⟩ (.slice va79 vn79 vc79) = x79 at *
                      refine wpAnyH_done (by kernel_rfl) ⟨rfl, ?_⟩ _
                      gi_wp2
                      exact ⟨_, ⟨_, _, by79, bx79, by rw [HTI.out]; exact I79, by rw [HTD.out]; exact D79, bs79, h6.trans (K79.below (fun n hn => BLO n hn) h6.size), Nat.le_trans h7 K79.size, rfl⟩, K79, fun n hn => by
                        rcases hn with h | h | h | h
                        · exact .inl (.inl h)
                        · exact .inl (.inr (.inl h))
                        · exact (QI n h).imp (fun h => .inr (.inr (.inl h))) id
                        · exact (QD n h).imp (fun h => .inr (.inr (.inr h))) id⟩
                    exact AllReadyH.nil
                  exact AllReadyH.nil
                exact AllReadyH.nil
              exact AllReadyH.nil
            exact AllReadyH.nil
          exact AllReadyH.nil
        exact AllReadyH.nil
      refine AllReadyH.cons rfl (fun K hK => ?_) ?_
      · go_simp
        refine hK.out _ _ (SX _ (fun k hk hne => (obj_alloc_past x0 _ _ (by have := K0.size; omega)).trans (K0.block k hk hne))) (fun hS80 => ?_)
        clear hK K
        try simp only [Act.put, List.setIfInBounds_toArray, List.set_cons_zero, List.set_cons_succ]
        have o80 : obj (x0.alloc (.cells #[.int .i64 o.id] 2)) x0.heap.size = some (.cells (intL o.id).toArray 2 (0, 0)) := obj_alloc_at x0 _ _ rfl
        have K80 : Keeps (fun n => iv.ownBlock = some n ∨ dv.ownBlock = some n) W (x0.alloc (.cells #[.int .i64 o.id] 2)) := K0.alloc _
        have I80 := I0.alloc (.cells #[.int .i64 o.id] 2)
        have D80 := D0.alloc (.cells #[.int .i64 o.id] 2)
        have z80 : x0.heap.size + 1 = (x0.alloc (.cells #[.int .i64 o.id] 2)).heap.size := by simp
        generalize x0.alloc (.cells #[.int .i64 o.id] 2) = x80 at *
        refine wpAnyH_ready (rs := [0]) (by kernel_rfl) (by simp) ?_
        refine AllReadyH.cons rfl (fun K hK => ?_) ?_
        · have c81 : x80.cell? ⟨w.heap.size + 1, 0, none⟩ = some iv := cell_at ((K80.block _ (lt_of_obj h1) NI).trans h1) 0
          go_simp
          refine hK.out _ _ (hS80) (fun hS81 => ?_)
          clear hK K
          try simp only [Act.put, List.setIfInBounds_toArray, List.set_cons_zero, List.set_cons_succ]
          refine wpAnyH_ready (rs := [6]) (by kernel_rfl) (by simp) ?_
          refine AllReadyH.cons rfl (fun K hK => ?_) ?_
          · refine step93 rfl (.tmp 15) (.tmp 20) rfl w2.heap.size iv _ o.id rfl I80 (x0.heap.size) rfl o80 HLI.out (by have := K80.size; omega) ?_
            intro iv82 x82 I82 g82 q82
            have K82 : Keeps (fun n => iv.ownBlock = some n ∨ dv.ownBlock = some n) W x82 := K80.trans ⟨g82.os, g82.tape, g82.output, g82.size, fun k hk hne => g82.block k hk (fun e => hne (.inl e.symm))⟩
            refine hK.out _ _ (SX _ (fun k hk hne => K82.block k hk hne)) (fun hS82 => ?_)
            clear hK K
            try simp only [Act.put, List.setIfInBounds_toArray, List.set_cons_zero, List.set_cons_succ]
            have D82 := D80.keeps fun g hg => g82.block g (D80.1.lt g hg).2 (fun e => own_ne D80 I80 (by decide) g ⟨hg, e.symm⟩)
            have QI : ∀ g, iv82.ownBlock = some g → iv.ownBlock = some g ∨ W.heap.size ≤ g := fun g hg => by (rcases q82 with h | h; exact .inl (h ▸ hg); (rw [h] at hg; have := K80.size; exact .inr (by simp at hg; omega)))
            refine wpAnyH_ready (rs := [10]) (by kernel_rfl) (by simp) ?_
            refine AllReadyH.cons rfl (fun K hK => ?_) ?_
            · go_simp
              refine (done_any x82 M V b _ ps S (sX.frame (W := x82) K82.size (fun n hn hmv => K82.block n hn (NO n hmv))) pre.length p o hpi hoi (HOK.out.one o (List.mem_of_getElem? hoi))).mono ?_
              rintro _ x83 ⟨rfl, b83⟩
              have K83 : Keeps (fun n => iv.ownBlock = some n ∨ dv.ownBlock = some n) W x83 := K82.trans (Keeps.of_below b83)
              refine hK.out _ _ (SX _ (fun k hk hne => K83.block k hk hne)) (fun hS83 => ?_)
              clear hK K
              try simp only [Act.put, List.setIfInBounds_toArray, List.set_cons_zero, List.set_cons_succ]
              have D83 := D82.keeps fun g hg => obj_below b83 (D82.1.lt g hg).2
              have I83 := I82.keeps fun g hg => obj_below b83 (I82.1.lt g hg).2
              refine wpAnyH_ready (rs := [11]) (by kernel_rfl) (by simp) ?_
              refine AllReadyH.cons rfl (fun K hK => ?_) ?_
              · go_simp
                refine hK.out _ _ (SX _ (fun k hk hne => (obj_alloc_past x83 _ _ (by have := K83.size; omega)).trans (K83.block k hk hne))) (fun hS84 => ?_)
                clear hK K
                try simp only [Act.put, List.setIfInBounds_toArray, List.set_cons_zero, List.set_cons_succ]
                have o84 : obj (x83.alloc (.cells #[.bool (isDone S o)] 4)) x83.heap.size = some (.cells (boolL (isDone S o)).toArray 4 (0, 0)) := obj_alloc_at x83 _ _ rfl
                have K84 : Keeps (fun n => iv.ownBlock = some n ∨ dv.ownBlock = some n) W (x83.alloc (.cells #[.bool (isDone S o)] 4)) := K83.alloc _
                have I84 := I83.alloc (.cells #[.bool (isDone S o)] 4)
                have D84 := D83.alloc (.cells #[.bool (isDone S o)] 4)
                have z84 : x83.heap.size + 1 = (x83.alloc (.cells #[.bool (isDone S o)] 4)).heap.size := by simp
                generalize x83.alloc (.cells #[.bool (isDone S o)] 4) = x84 at *
                refine wpAnyH_ready (rs := [12]) (by kernel_rfl) (by simp) ?_
                refine AllReadyH.cons rfl (fun K hK => ?_) ?_
                · refine step94 rfl (.tmp 22) (.tmp 26) rfl w2.heap.size dv _ (isDone S o) rfl D84 (x83.heap.size) rfl o84 HLD.out (by have := K84.size; omega) ?_
                  intro dv85 x85 D85 g85 q85
                  have K85 : Keeps (fun n => iv.ownBlock = some n ∨ dv.ownBlock = some n) W x85 := K84.trans ⟨g85.os, g85.tape, g85.output, g85.size, fun k hk hne => g85.block k hk (fun e => hne (.inr e.symm))⟩
                  refine hK.out _ _ (SX _ (fun k hk hne => K85.block k hk hne)) (fun hS85 => ?_)
                  clear hK K
                  try simp only [Act.put, List.setIfInBounds_toArray, List.set_cons_zero, List.set_cons_succ]
                  have I85 := I84.keeps fun g hg => g85.block g (I84.1.lt g hg).2 (fun e => own_ne I84 D84 (by decide) g ⟨hg, e.symm⟩)
                  have QD : ∀ g, dv85.ownBlock = some g → dv.ownBlock = some g ∨ W.heap.size ≤ g := fun g hg => by (rcases q85 with h | h; exact .inl (h ▸ hg); (rw [h] at hg; have := K84.size; exact .inr (by simp at hg; omega)))
                  have bi85 := (K85.block _ (lt_of_obj h1) NI).trans h1
                  have bd85 := (K85.block _ (lt_of_obj h2) ND).trans h2
                  have bs85 := (K85.block _ (lt_of_obj h5) NSB).trans h5
                  have bp85 := (K85.block _ (lt_of_obj hov.at_) (NO _ (.inl hpM))).trans hov.at_
                  refine wpAnyH_ready (rs := [13]) (by kernel_rfl) (by simp) ?_
                  refine AllReadyH.cons rfl (fun K hK => ?_) ?_
                  · obtain ⟨va86, vc86, e86⟩ := I85.slice
                    generalize List.length _ = vn86 at e86
                    subst e86
                    have c86 := cell_at bi85 0
                    have f86 := frozen_at bi85 0
                    have l86 := lt_of_obj bi85
                    go_simp
                    refine hK.out _ _ (⟨(cell_at ((obj_setCell_ne _ ⟨w.heap.size + 1, 0, none⟩ _ _ (by first | omega | (dsimp only; omega))).trans bs85) 0).trans rfl, (cell_at ((obj_setCell_ne _ ⟨w.heap.size + 1, 0, none⟩ _ _ PNE13).trans bp85) 0).trans rfl⟩) (fun hS86 => ?_)
                    clear hK K
                    try simp only [Act.put, List.setIfInBounds_toArray, List.set_cons_zero, List.set_cons_succ]
                    have bx86 : obj (x85.setCell ⟨w.heap.size + 1, 0, none⟩ (.slice va86 vn86 vc86)) (w.heap.size + 1) = some (.cells #[(.slice va86 vn86 vc86)] 93 (0, 0)) := obj_setCell_at (.slice va86 vn86 vc86) bi85
                    have by86 : obj (x85.setCell ⟨w.heap.size + 1, 0, none⟩ (.slice va86 vn86 vc86)) _ = _ := (obj_setCell_ne _ ⟨w.heap.size + 1, 0, none⟩ _ _ (by first | omega | (dsimp only; omega))).trans bd85
                    have bs86 : obj (x85.setCell ⟨w.heap.size + 1, 0, none⟩ (.slice va86 vn86 vc86)) _ = _ := (obj_setCell_ne _ ⟨w.heap.size + 1, 0, none⟩ _ _ (by first | omega | (dsimp only; omega))).trans bs85
                    have bp86 : obj (x85.setCell ⟨w.heap.size + 1, 0, none⟩ (.slice va86 vn86 vc86)) _ = _ := (obj_setCell_ne _ ⟨w.heap.size + 1, 0, none⟩ _ _ PNE13).trans bp85
                    have I86 := I85.keeps (W := (x85.setCell ⟨w.heap.size + 1, 0, none⟩ (.slice va86 vn86 vc86))) fun g hg => obj_setCell_ne _ ⟨w.heap.size + 1, 0, none⟩ _ _ (by have := (I85.1.lt g hg).1; dsimp only; omega)
                    have D86 := D85.keeps (W := (x85.setCell ⟨w.heap.size + 1, 0, none⟩ (.slice va86 vn86 vc86))) fun g hg => obj_setCell_ne _ ⟨w.heap.size + 1, 0, none⟩ _ _ (by have := (D85.1.lt g hg).1; dsimp only; omega)
                    have K86 : Keeps (fun n => n = w.heap.size + 1 ∨ n = w.heap.size + 1 + 1 ∨ iv.ownBlock = some n ∨ dv.ownBlock = some n) W (x85.setCell ⟨w.heap.size + 1, 0, none⟩ (.slice va86 vn86 vc86)) := (K85.mono (fun n hn => by first | exact .inr (.inr hn) | exact hn)).setCell (a := ⟨w.heap.size + 1, 0, none⟩) (.inl (by simp)) _
                    generalize x85.setCell ⟨w.heap.size + 1, 0, none⟩ (.slice va86 vn86 vc86) = x86 at *
                    refine wpAnyH_ready (rs := [14]) (by kernel_rfl) (by simp) ?_
                    refine AllReadyH.cons rfl (fun K hK => ?_) ?_
                    · obtain ⟨va87, vc87, e87⟩ := D86.slice
                      generalize List.length _ = vn87 at e87
                      subst e87
                      have c87 := cell_at by86 0
                      have f87 := frozen_at by86 0
                      have l87 := lt_of_obj by86
                      go_simp
                      refine hK.out _ _ (⟨(cell_at ((obj_setCell_ne _ ⟨w.heap.size + 1 + 1, 0, none⟩ _ _ (by first | omega | (dsimp only; omega))).trans bs86) 0).trans rfl, (cell_at ((obj_setCell_ne _ ⟨w.heap.size + 1 + 1, 0, none⟩ _ _ PNE14).trans bp86) 0).trans rfl⟩) (fun hS87 => ?_)
                      clear hK K
                      try simp only [Act.put, List.setIfInBounds_toArray, List.set_cons_zero, List.set_cons_succ]
                      have bx87 : obj (x86.setCell ⟨w.heap.size + 1 + 1, 0, none⟩ (.slice va87 vn87 vc87)) (w.heap.size + 1 + 1) = some (.cells #[(.slice va87 vn87 vc87)] 94 (0, 0)) := obj_setCell_at (.slice va87 vn87 vc87) by86
                      have by87 : obj (x86.setCell ⟨w.heap.size + 1 + 1, 0, none⟩ (.slice va87 vn87 vc87)) _ = _ := (obj_setCell_ne _ ⟨w.heap.size + 1 + 1, 0, none⟩ _ _ (by first | omega | (dsimp only; omega))).trans bx86
                      have bs87 : obj (x86.setCell ⟨w.heap.size + 1 + 1, 0, none⟩ (.slice va87 vn87 vc87)) _ = _ := (obj_setCell_ne _ ⟨w.heap.size + 1 + 1, 0, none⟩ _ _ (by first | omega | (dsimp only; omega))).trans bs86
                      have bp87 : obj (x86.setCell ⟨w.heap.size + 1 + 1, 0, none⟩ (.slice va87 vn87 vc87)) _ = _ := (obj_setCell_ne _ ⟨w.heap.size + 1 + 1, 0, none⟩ _ _ PNE14).trans bp86
                      have I87 := I86.keeps (W := (x86.setCell ⟨w.heap.size + 1 + 1, 0, none⟩ (.slice va87 vn87 vc87))) fun g hg => obj_setCell_ne _ ⟨w.heap.size + 1 + 1, 0, none⟩ _ _ (by have := (I86.1.lt g hg).1; dsimp only; omega)
                      have D87 := D86.keeps (W := (x86.setCell ⟨w.heap.size + 1 + 1, 0, none⟩ (.slice va87 vn87 vc87))) fun g hg => obj_setCell_ne _ ⟨w.heap.size + 1 + 1, 0, none⟩ _ _ (by have := (D86.1.lt g hg).1; dsimp only; omega)
                      have K87 : Keeps (fun n => n = w.heap.size + 1 ∨ n = w.heap.size + 1 + 1 ∨ iv.ownBlock = some n ∨ dv.ownBlock = some n) W (x86.setCell ⟨w.heap.size + 1 + 1, 0, none⟩ (.slice va87 vn87 vc87)) := (K86.mono (fun n hn => by first | exact .inr (.inr hn) | exact hn)).setCell (a := ⟨w.heap.size + 1 + 1, 0, none⟩) (.inl (by simp)) _
                      generalize x86.setCell ⟨w.heap.size + 1 + 1, 0, none⟩ (.slice va87 vn87 vc87) = x87 at *
                      refine wpAnyH_done (by kernel_rfl) ⟨rfl, ?_⟩ _
                      gi_wp2
                      exact ⟨_, ⟨_, _, by87, bx87, by rw [HTI.out]; exact I87, by rw [HTD.out]; exact D87, bs87, h6.trans (K87.below (fun n hn => BLO n hn) h6.size), Nat.le_trans h7 K87.size, rfl⟩, K87, fun n hn => by
                        rcases hn with h | h | h | h
                        · exact .inl (.inl h)
                        · exact .inl (.inr (.inl h))
                        · exact (QI n h).imp (fun h => .inr (.inr (.inl h))) id
                        · exact (QD n h).imp (fun h => .inr (.inr (.inr h))) id⟩
                    exact AllReadyH.nil
                  exact AllReadyH.nil
                exact AllReadyH.nil
              exact AllReadyH.nil
            exact AllReadyH.nil
          exact AllReadyH.nil
        exact AllReadyH.nil
      exact AllReadyH.nil
    exact AllReadyH.nil
  case done =>
    rintro d G W hD' _ ⟨iv, dv, h1, h2, h3, h4, h5, h6, h7, rfl⟩ hk _ hKD
    have hlb := lt_of_obj h1
    gi_wp2
    refine ⟨by simp, .inl ⟨_, _, rfl, run_takeDeferred hKD, ?_⟩⟩
    have hgr := grownBy_putObj' W d (.deferred none)
    have hrr : ∀ r, some d = some r → w.heap.size ≤ r ∧ ∃ o : Obj, W.heap[r]? = some o ∧ o.isCells = false := fun r e => by cases e; exact ⟨by omega, _, hKD, rfl⟩
    have ne1 : ∀ c T cs, obj W c = some (.cells cs T (0, 0)) → c ≠ d := fun c T cs h e => by
      have h' : W.heap[c]? = some (.cells cs T (0, 0)) := h
      rw [e, hKD] at h'; cases h'
    have hgo : ∀ c T cs, obj W c = some (.cells cs T (0, 0)) → obj (W.putObj d (.deferred none)) c = some (.cells cs T (0, 0)) := fun c T cs h => (hgr.block c (lt_of_obj h) (fun e => ne1 c T cs h (by simpa [eq_comm] using e))).trans h
    rw [List.take_of_length_le (by unfold idsOf; simp [HPL.out])] at h3
    rw [List.take_of_length_le (by unfold dnOf; simp [HPL.out])] at h4
    have hz9 := hgr.size
    exact ⟨_, results_tmp rfl _ _ _, _, _, iv, dv, rfl, hgo _ _ _ h1, hgo _ _ _ h2, (h3.grown hgr (fun r e => ⟨by cases e; omega, (hrr r e).2⟩)).slIn intL_length, (h4.grown hgr (fun r e => ⟨by cases e; omega, (hrr r e).2⟩)).slIn boolL_length, fun g hg => Nat.lt_of_lt_of_le (h3.1.lt g hg).2 hz9, fun g hg => Nat.lt_of_lt_of_le (h4.1.lt g hg).2 hz9, below_grown h6 (Nat.le_refl _) (Nat.le_refl _) hgr hrr⟩
  case stop =>
    rintro d c pre G W hD' _ hpre h
    exact h.elim
end Go.Proofs.Ytfejhekoijemdaa
