import Derived.Test.YtfejhekoijemdaaRpJ
import Derived.Test.YtfejhekoijemdaaFindS
import Derived.Test.YtfejhekoijemdaaApp
import Derived.Shelf.SlMaps.Clone
namespace Go.Proofs.Ytfejhekoijemdaa
open Go.RowKit

/-! ### the reference's New -/
set_option maxRecDepth 100000 in
theorem rnew_no (w : World) (pref conf : Int) (h : pref < 1 ∨ conf < pref ∨ 64 < conf) :
    Calls Try.prog 24 #[.int .i64 pref, .int .i64 conf] w fun e w' => e = .returned (.tuple #[.pointer none, .int .i64 1]) ∧ w' = w := by
  by_cases d1 : pref < 1
  · clear h
    go_enter Try.func24, Try.ntmps24
    go_wp2
    go_ret2
    exact ⟨rfl, rfl⟩
  by_cases d2 : conf < pref
  · clear h
    go_enter Try.func24, Try.ntmps24
    go_wp2
    go_ret2
    exact ⟨rfl, rfl⟩
  · have d3 : 64 < conf := by omega
    clear h
    go_enter Try.func24, Try.ntmps24
    go_wp2
    go_ret2
    exact ⟨rfl, rfl⟩
set_option maxRecDepth 100000 in
theorem rnew_yes (w : World) (pref conf : Int) (h1 : 1 ≤ pref) (h2 : pref ≤ conf) (h3 : conf ≤ 64) :
    Calls Try.prog 24 #[.int .i64 pref, .int .i64 conf] w fun e w' => e = .returned (.tuple #[.pointer (some ⟨w.heap.size, 0, none⟩), .int .i64 0]) ∧
      w' = w.alloc (.cells #[.int .i64 pref, .int .i64 conf, .slice none 0 0, .int .i64 0] 101) := by
  have d1 : ¬ pref < 1 := by omega
  have d2 : ¬ conf < pref := by omega
  have d3 : ¬ 64 < conf := by omega
  go_enter Try.func24, Try.ntmps24
  go_wp2
  go_ret2
  exact ⟨rfl, rfl⟩
theorem rnew_set (w : World) (pref conf : Int) : RSetW (w.alloc (.cells #[.int .i64 pref, .int .i64 conf, .slice none 0 0, .int .i64 0] 101)) (fun n => n = w.heap.size) w.heap.size (.slice none 0 0) [] ⟨pref, conf, 0, []⟩ [] :=
  ⟨obj_alloc_at _ _ _ rfl, ⟨none, 0, rfl, by simp, by unfold maxLen; omega, fun h => by simp at h⟩, fun b off n cap e h0 => by simp at h0, rfl, rfl, fun i q o sl h => by simp at h, List.Pairwise.nil, List.Pairwise.nil, rfl⟩
/-! ### clones of a map and of votes -/
set_option maxRecDepth 100000 in
set_option maxHeartbeats 2000000 in
theorem mapClone (w : World) (b : Nat) (es : Array MapEntry) (clock : Nat) (hb : obj w b = some (.map es clock)) :
    Calls Try.prog 46 #[.map (some b)] w fun e w' => e = .returned (.map (some w.heap.size)) ∧ w' = w.alloc (.map es clock) := by
  have hq := fun w => run_eql_map_nil_sl (P := Try.prog) w 31 _ _ (some b) Try.underlying31
  have HB := Lib.hid hb
  clear hb
  go_enter Try.func46, Try.ntmps46
  go_wp2
  rw [run_callFunc_extern Try.func62 (by kernel_rfl) (by kernel_rfl) (by kernel_rfl) (e := Extern.MapsClone.clone) (by kernel_rfl), run_maps_clone_sl w 31 HB.out]
  simp only [Result.andThen]
  rw [Oper.upon_value]
  go_wp2
  rw [run_typeAssert_map_sl _ 31 20 _ _ _ Try.underlying31]
  simp only [Result.andThen]
  rw [Oper.upon_value]
  go_wp2
  go_ret
  exact ⟨rfl, rfl⟩
theorem pushV0 {ops : Array Oper} {rest : List Oper} {o : Oper} {a : Act} {w : World} {Q : Exit → Act → World → Prop} (hgd : o.guard = none) (s x : Operand) (ho : o.op = .call { callee := .builtin .append, args := #[s, x], argTypes := #[41, 41] })
    (base : Nat) (v : Value) (n : Nat) (cur : List Value) (hs : a.eval s = v) (hown : w.ownsRow base 58 33 v n cur) (g : Addr) (c : Nat) (ys : List Vt) (hx : a.eval x = .slice (some g) ys.length c)
    (hc : ∀ j u, (ys.flatMap vtL)[j]? = some u → w.cell? (g.add j) = some u)
    (hlen : n + ys.length ≤ 1048576) (hbase : base ≤ w.heap.size)
    (h : ∀ v' w', w'.ownsRow base 58 33 v' (n + ys.length) (cur ++ ys.flatMap vtL) → w.grownBy w' v.ownBlock → (v' = .slice none 0 0 ↔ v = .slice none 0 0 ∧ ys.length = 0) → wpList Try.prog ops Q rest (a.put o.dst v') w') : wpList Try.prog ops Q (o :: rest) a w := by
  obtain ⟨i0, hi, hz0, hz1, hz2⟩ := info_parts info58
  refine wpList_append_own (P := Try.prog) w hgd s x 41 ho base 58 i0 _ 33 40 Try.underlying41 hi hz0 hz1 hz2 (by simp [Value.cells]) (by decide) v n cur hs hown g ys.length c (ys.flatMap vtL) hx (flatMap_len vtL_length _) (fun j u hj => ?_) (fun u hu => ?_) (by unfold maxLen; omega) (by omega) hbase h
  · exact hc j u hj
  · obtain ⟨x, _, hx⟩ := List.mem_flatMap.1 hu
    exact vtL_one' x u hx
set_option maxRecDepth 100000 in
set_option maxHeartbeats 1000000 in
theorem voteClone (w : World) (v : Value) (xs : List Vt) (h : SlIn w v 33 vtL xs) (hlen : xs.length ≤ 1048576) :
    Calls Try.prog 47 #[v] w fun e w' => (∃ v', e = .returned v' ∧ w'.ownsRow w.heap.size 58 33 v' xs.length (xs.flatMap vtL)) ∧ Below w.heap.size w w' := by
  have hq : ∀ (w : World) (a : Option Addr) (n c n' c' : Nat), (binOp .eql 41 (.slice a n c) (.slice none n' c')).run Try.prog w = .ok (.bool a.isNone) w := fun w a n c n' c' => Lib.run_eql_slice_nil w 41 58 a n c n' c' Try.underlying41
  obtain ⟨oa, cap, rfl, h1, h2, h3⟩ := h
  cases oa with
  | none =>
    have h0 : xs = [] := by
      by_cases e : 0 < xs.length
      · obtain ⟨b, off, e2, _⟩ := h3 e; cases e2
      · exact List.eq_nil_of_length_eq_zero (by omega)
    subst h0
    clear h1 h2 h3
    go_enter Try.func47, Try.ntmps47
    go_wp2
    go_ret
    exact ⟨⟨_, rfl, World.ownsRow_nil _ _ _ _⟩, Below.refl _ _⟩
  | some a =>
    have HC : Hid (∀ j u, (xs.flatMap vtL)[j]? = some u → (w.alloc (.cells #[] 58)).cell? (a.add j) = some u) := Lib.hid (fun j u hj => by
      have hx0 : 0 < xs.length := by
        rcases Nat.eq_zero_or_pos xs.length with e | e
        · have e2 : xs = [] := List.eq_nil_of_length_eq_zero e
          rw [e2] at hj; simp at hj
        · exact e
      obtain ⟨b, off, e2, hb, hr⟩ := h3 hx0
      cases e2
      rw [Addr.add_lit]
      exact (World.cell?_of_block (w := w) (a := ⟨b, off + j, none⟩) (obj_alloc_past _ _ _ hb)).trans (row_cells vtL_length (by decide) hr hj))
    have h0b : (buildRow 41 0 #[]).run Try.prog w = .ok (.slice (some ⟨w.heap.size, 0, none⟩) 0 0) (w.alloc (.cells #[] 58)) := by kernel_rfl
    have HOW : Hid ((w.alloc (.cells #[] 58)).ownsRow w.heap.size 58 33 (.slice (some ⟨w.heap.size, 0, none⟩) 0 0) 0 []) := Lib.hid ⟨rfl, .inr ⟨w.heap.size, 0, #[], rfl, Nat.le_refl _, obj_alloc_at _ _ _ rfl, Nat.le_refl _, by unfold maxLen; omega, rfl, rfl⟩⟩
    clear h1 h2 h3
    go_enter Try.func47, Try.ntmps47
    go_wp2_with (at_builtin; refine pushV0 rfl _ _ rfl w.heap.size (.slice (some ⟨w.heap.size, 0, none⟩) 0 0) 0 [] rfl HOW.out a cap xs rfl HC.out (by omega) (by simp) ?_; intro v' w' q1 q2 q3)
    go_ret
    exact ⟨⟨_, rfl, by simpa using q1⟩, ((Below.refl _ w).alloc (Nat.le_refl _) _).grown q2 (by simp) (fun k e => by simp [Value.ownBlock] at e; omega)⟩
end Go.Proofs.Ytfejhekoijemdaa
namespace Go.Proofs.Ytfejhekoijemdaa
open Go.RowKit

/-! ### Clone, as data -/
def cloM (B : Nat) (W : World) (n : Nat) : Prop := B ≤ n ∧ n < W.heap.size ∧ ∀ cur, obj W n ≠ some (.cells cur 58 (0, 0))
def cloV (B : Nat) (W : World) (n : Nat) : Prop := B ≤ n ∧ ∃ cur, obj W n = some (.cells cur 58 (0, 0))
theorem row_voteAt {W : World} {base : Nat} {v : Value} {l : List Vt} (h : W.ownsRow base 58 33 v l.length (l.flatMap vtL)) : VoteAt W (cloV base W) v l := by
  obtain ⟨hl, h⟩ := h
  rcases h with ⟨rfl, h0⟩ | ⟨g, cap, cur, rfl, hb, hg, h1, h2, h3, h4⟩
  · exact ⟨⟨none, 0, by rw [h0], by omega, Nat.zero_le _, fun h => by omega⟩, fun b off len cap e h => by omega⟩
  · refine ⟨⟨_, cap, rfl, h1, h2, fun _ => ⟨g, 0, rfl, lt_of_obj hg, fun j hj => ?_⟩⟩, fun b off len cap e h => ?_⟩
    · have hle : (j + 1) * 33 ≤ l.length * 33 := Nat.mul_le_mul_right _ hj
      have hle2 : l.length * 33 ≤ cap * 33 := Nat.mul_le_mul_right _ h1
      rw [Nat.add_mul] at hle
      have e1 : obj W g = some (.cells cur 58 (0, 0)) := hg
      rw [e1, subOf_cells (by omega)]
      congr 1
      apply Array.ext'
      rw [subA, Array.toList_extract, List.extract_eq_take_drop, ← flatMap_sub (k := 33) vtL_length l j hj, ← h4, List.drop_take, List.take_take, Nat.min_eq_left (by omega)]
      simp
    · cases e
      exact ⟨hb, cur, hg⟩
theorem RowP.blk {w : World} {lv : Value} {ps : List (Nat × Nat)} (h : RowP w lv ps) {g : Nat} (hg : lv.ownBlock = some g) : ∃ cur, obj w g = some (.cells cur 83 (0, 0)) := by
  rcases h.2 with ⟨rfl, _⟩ | ⟨j, cap, cur, rfl, _, hj, _⟩
  · simp [Value.ownBlock] at hg
  · simp [Value.ownBlock] at hg
    subst hg
    exact ⟨cur, hj⟩
theorem SetW.snocC {wr W : World} {B nb pb m : Nat} {lvk nv vv : Value} {pk : List (Nat × Nat)} {T : SetM} {o : OneM} (h : SetW wr (cloM B wr) (cloV B wr) nb lvk pk T)
    (hb : obj W nb = some (.cells #[.int .i64 T.pref, .int .i64 T.conf, .int .i64 T.last, nv] 78 (0, 0))) (hr : RowP W nv (pk ++ [(pb, m)]))
    (hp : obj W pb = some (.cells #[.int .i64 o.id, .int .i64 o.slots, .map (some m), .int .i64 o.left, vv] 85 (0, 0))) (hm : MapI W m intV o.W) (hv : W.ownsRow wr.heap.size 58 33 vv o.votes.length (o.votes.flatMap vtL))
    (hpb : wr.heap.size ≤ pb) (hmb : wr.heap.size ≤ m) (hB : B ≤ wr.heap.size) (hz : wr.heap.size ≤ W.heap.size)
    (hk : ∀ k, k < wr.heap.size → k ≠ nb → lvk.ownBlock ≠ some k → obj W k = obj wr k) (hq : nv.ownBlock = lvk.ownBlock ∨ ∃ q, nv.ownBlock = some q ∧ wr.heap.size ≤ q) :
    SetW W (cloM B W) (cloV B W) nb nv (pk ++ [(pb, m)]) { T with l := T.l ++ [o] } := by
  have hM : ∀ n, cloM B wr n → n ≠ nb → lvk.ownBlock ≠ some n → cloM B W n := fun n hn h1 h2 => ⟨hn.1, Nat.lt_of_lt_of_le hn.2.1 hz, fun cur => by rw [hk n hn.2.1 h1 h2]; exact hn.2.2 cur⟩
  have hV : ∀ n, cloV B wr n → obj W n = obj wr n ∧ cloV B W n := fun n hn => by
    obtain ⟨h1, cur, h2⟩ := hn
    have e := hk n (lt_of_obj h2) (fun e => by rw [e, h.box] at h2; simp at h2) (h.row.ne h2 fun cur e => by simp at e)
    exact ⟨e, h1, cur, e.trans h2⟩
  have hold : ∀ (i : Nat) (p : Nat × Nat) (o : OneM), pk[i]? = some p → T.l[i]? = some o → ∃ v, OneW W (cloV B W) p.1 p.2 v o ∧ cloM B W p.1 ∧ cloM B W p.2 := fun i p o h1 h2 => by
    obtain ⟨v, ho⟩ := h.one i p o h1 h2
    have hmp := h.mp p (List.mem_of_getElem? h1)
    obtain ⟨es, clk, hm1, hr1⟩ := ho.map
    have hb1 : p.1 ≠ nb := fun e => by have := h.box; rw [← e, ho.at_] at this; simp at this
    have hb2 : p.2 ≠ nb := fun e => by have := h.box; rw [← e, hm1] at this; simp at this
    have n1 := h.row.ne ho.at_ fun cur e => by simp at e
    have n2 := h.row.ne hm1 fun cur e => by simp at e
    exact ⟨v, ⟨(hk _ (lt_of_obj ho.at_) hb1 n1).trans ho.at_, ⟨es, clk, (hk _ (lt_of_obj hm1) hb2 n2).trans hm1, hr1⟩, ho.vt.frame hz (fun n _ hv => (hV n hv).1) fun n hn => (hV n hn).2⟩, hM _ hmp.1 hb1 n1, hM _ hmp.2 hb2 n2⟩
  obtain ⟨es, clk, hm1, hr1⟩ := hm
  have h0 := h.len
  refine ⟨hb, hr, by simp [h0], fun i p o2 h1 h2 => ?_, ?_, ?_, ⟨h.mb.1, lt_of_obj hb, fun cur e => by rw [hb] at e; simp at e⟩, fun g hg => ?_, fun p hp1 => ?_, fun n h1 h2 => ?_, fun n hn => hn.2.1, fun n hn => ?_⟩
  · simp only at h2
    rcases get_snoc h1 with ⟨i1, g1⟩ | ⟨i1, g1⟩ <;> rcases get_snoc h2 with ⟨i2, g2⟩ | ⟨i2, g2⟩ <;> first | (exfalso; omega) | skip
    · obtain ⟨v, h3, _⟩ := hold i p o2 g1 g2
      exact ⟨v, h3⟩
    · subst g1 g2
      exact ⟨vv, hp, ⟨es, clk, hm1, hr1⟩, (row_voteAt hv).frame (Nat.le_refl _) (fun _ _ _ => rfl) fun n hn => ⟨Nat.le_trans hB hn.1, hn.2⟩⟩
  · rw [List.map_append, List.nodup_append]
    refine ⟨h.nd1, by simp, fun a ha c hc => ?_⟩
    simp at hc
    subst hc
    obtain ⟨p, hp1, rfl⟩ := List.mem_map.1 ha
    have := (h.mp p hp1).1.2.1
    omega
  · rw [List.map_append, List.nodup_append]
    refine ⟨h.nd2, by simp, fun a ha c hc => ?_⟩
    simp at hc
    subst hc
    obtain ⟨p, hp1, rfl⟩ := List.mem_map.1 ha
    have := (h.mp p hp1).2.2.1
    omega
  · obtain ⟨cur, hc⟩ := hr.blk hg
    refine ⟨?_, lt_of_obj hc, fun cur2 e => by rw [hc] at e; simp at e⟩
    rcases hq with h2 | ⟨q, h2, h3⟩
    · exact (h.ml g (h2 ▸ hg)).1
    · rw [hg] at h2; cases h2; omega
  · rcases List.mem_append.1 hp1 with h1 | h1
    · obtain ⟨i, hi, rfl⟩ := List.getElem_of_mem h1
      obtain ⟨v, h3, h4⟩ := hold i pk[i] (T.l[i]'(by omega)) (List.getElem?_eq_getElem hi) (List.getElem?_eq_getElem (by omega))
      exact h4
    · simp at h1
      subst h1
      exact ⟨⟨by omega, lt_of_obj hp, fun cur e => by simp only at e; rw [hp] at e; simp at e⟩, ⟨by omega, lt_of_obj hm1, fun cur e => by simp only at e; rw [hm1] at e; simp at e⟩⟩
  · obtain ⟨_, cur, h3⟩ := h2
    exact h1.2.2 cur h3
  · obtain ⟨_, cur, h3⟩ := hn
    exact lt_of_obj h3
theorem step76 {ops : Array Oper} {o : Oper} {a : Act} {w : World} {Q : Exit → Act → World → Prop} {K : Act → World → Prop} {Z : Prop} (hgd : o.guard = none) (s x : Operand) (ho : o.op = .call { callee := .builtin .append, args := #[s, x], argTypes := #[76, 76] })
    (v : Value) (ps : List (Nat × Nat)) (y : Nat × Nat) (hs : a.eval s = v) (hown : RowP w v ps) (g : Nat) (hx : a.eval x = .slice (some ⟨g, 0, none⟩) 1 1) (hg : obj w g = some (.cells #[.pointer (some ⟨y.1, 0, none⟩)] 83 (0, 0)))
    (hlen : ps.length ≤ 1048576)
    (h : ∀ v' w', RowP w' v' (ps ++ [y]) → w.grownBy w' v.ownBlock → (v'.ownBlock = v.ownBlock ∨ v'.ownBlock = some w.heap.size) → K (a.put o.dst v') w') : if Region.wanted o (yielded ops a.tmps) = true then Oper.wp Try.prog o a w K Q else Z := by
  obtain ⟨i0, hi, hz0, hz1, hz2⟩ := info_parts info83
  have hw : Region.wanted o (yielded ops a.tmps) = true := by simp [Region.wanted, hgd]
  rw [if_pos hw]
  obtain ⟨v', w', hr, h1, h2, h3, h4⟩ := run_append_own_at (P := Try.prog) (w := w) 0 76 o.type 83 i0 _ 1 8 Try.underlying76 hi hz0 hz1 hz2 (by simp [Value.cells]) (by decide) v ps.length (ps.map ptrV) hown ⟨g, 0, none⟩ 1 1 [ptrV y] rfl (fun j u hu => by rw [Addr.add_lit, cell_at hg]; simpa [ptrV] using hu) (fun u hu => by simp at hu; subst hu; rfl) (by unfold maxLen; omega) (by omega) (Nat.zero_le _)
  unfold Oper.wp
  simp [execOp, ho, resolve, invoke, builtin, hs, hx, hr, Result.andThen]
  refine h v' w' ?_ h2 h4
  have e1 : (ps ++ [y]).length = ps.length + 1 := by simp
  have e2 : (ps ++ [y]).map ptrV = ps.map ptrV ++ [ptrV y] := by simp
  unfold RowP
  rw [e1, e2]
  exact h1
end Go.Proofs.Ytfejhekoijemdaa
