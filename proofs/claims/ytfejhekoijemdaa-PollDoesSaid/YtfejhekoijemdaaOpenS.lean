import Derived.Test.YtfejhekoijemdaaVoteS
import Derived.Maps.AppendAt
namespace Go.Proofs.Ytfejhekoijemdaa
open Go.RowKit

def wrongB (v : Int) : Bool := decide (v < 0) || decide (32 ≤ v)
def idxW : List Int → Int → Int
  | [], _ => -1
  | v :: r, k => if wrongB v = true then k else idxW r (k + 1)
theorem idxW_any : ∀ (l : List Int) (k : Int), 0 ≤ k → decide (0 ≤ idxW l k) = l.any wrongB
  | [], k, _ => by simp [idxW]
  | v :: r, k, hk => by
    unfold idxW
    cases h : wrongB v
    · simp [h, idxW_any r (k + 1) (by omega)]
    · simp [h, hk]
theorem eg30 : ∀ args w, (callFunc 30 args).run Try.prog w = .ok (.enter 30 args) w := enters_of Try.func30 (by kernel_rfl) rfl
set_option maxRecDepth 100000 in
theorem wrong_any (w : World) (v : Int) : Calls Try.prog 30 #[.int .i64 v] w fun e w' => e = .returned (.bool (wrongB v)) ∧ w' = w := by
  have HB : Hid (wrongB v = (decide (v < 0) || decide (32 ≤ v))) := Lib.hid rfl
  by_cases h1 : v < 0
  · have d1 : decide (v < 0) = true := by simpa using h1
    rw [d1, Bool.true_or] at HB
    go_enter Try.func30, Try.ntmps30
    go_wp2
    go_ret
    exact ⟨ret_bool HB.out.symm, rfl⟩
  · have d1 : decide (v < 0) = false := by simpa using h1
    rw [d1, Bool.false_or] at HB
    go_enter Try.func30, Try.ntmps30
    go_wp2
    go_ret
    exact ⟨ret_bool HB.out.symm, rfl⟩
set_option maxRecDepth 100000 in
set_option maxHeartbeats 1000000 in
theorem index_wrong (w : World) (sv : Value) (xs : List Int) (h : SlIn w sv 1 intL xs) :
    Calls Try.prog 49 #[sv, .func (.func 30) #[] #[]] w fun e w' => e = .returned (.int .i64 (idxW xs 0)) ∧ w' = w := by
  obtain ⟨oa, cap, rfl, h1, h2, h3⟩ := h
  have H3 := Lib.hid h3
  unfold maxLen at h2
  have eg := eg30
  clear h3
  go_enter Try.func49, Try.ntmps49
  go_wp2
  go_loopw [5, 8] (fun _ v8 wr => ∃ k : Nat, k ≤ xs.length ∧ v8 = .int .i64 k ∧ Hid (idxW xs 0 = idxW (xs.drop k) k) ∧ wr = w) (fun _ i _ => xs.length - (intOf i).toNat)
  case atStart => exact ⟨0, Nat.zero_le _, rfl, Lib.hid rfl, rfl⟩
  case round =>
    obtain ⟨k, hk, rfl, HK, hwr⟩ := hrel
    subst hwr
    by_cases hlt : k < xs.length
    · obtain ⟨bb, off, hoa, hbb, hrow⟩ := H3.out (by omega)
      subst hoa
      have hs1 := hrow k hlt
      have c1 : wr.cell? ⟨bb, off + k * 1, none⟩ = some (.int .i64 xs[k]) := by
        have := subOf_cell hs1 (j := 0) (by decide)
        simpa [intL] using this
      rw [Nat.mul_one] at c1
      have HC := Lib.hid (wrong_any wr xs[k])
      have HK2 := HK.out
      rw [List.drop_eq_getElem_cons hlt] at HK2
      have NX : Hid (idxW xs 0 = if wrongB xs[k] = true then (k : Int) else idxW (xs.drop (k + 1)) ((k : Int) + 1)) := Lib.hid HK2
      clear hrow hs1 HK2
      generalize xs[k] = x at *
      generalize wrongB x = r at *
      cases r
      · go_wp2_with (go_at_fn 30; refine HC.out.mono ?_; rintro e w' ⟨rfl, rfl⟩)
        go_roundw
        case rel => exact ⟨k + 1, by omega, by go_num, Lib.hid (by rw [NX.out]; simp), by first | rfl | trivial⟩
        case measure => simp [intOf]; omega
      · go_wp2_with (go_at_fn 30; refine HC.out.mono ?_; rintro e w' ⟨rfl, rfl⟩)
        go_ret
        exact ⟨ret_int (by rw [NX.out]; simp), rfl⟩
    · have NO : Hid (idxW xs 0 = -1) := Lib.hid (by rw [HK.out, List.drop_eq_nil_of_le (by omega)]; rfl)
      go_wp2
      go_ret
      exact ⟨ret_int NO.out.symm, rfl⟩
set_option maxRecDepth 100000 in
theorem contains_wrong (w : World) (sv : Value) (xs : List Int) (h : SlIn w sv 1 intL xs) :
    Calls Try.prog 32 #[sv, .func (.func 30) #[] #[]] w fun e w' => e = .returned (.bool (xs.any wrongB)) ∧ w' = w := by
  have HI := Lib.hid (index_wrong w sv xs h)
  have HE := Lib.hid (idxW_any xs 0 (Int.le_refl _))
  clear h
  generalize idxW xs 0 = r at *
  go_enter Try.func32, Try.ntmps32
  go_wp2_with fail
  refine HI.out.mono ?_
  rintro e w1 ⟨rfl, rfl⟩
  go_wp2
  go_ret
  exact ⟨ret_bool HE.out, rfl⟩
end Go.Proofs.Ytfejhekoijemdaa
namespace Go.Proofs.Ytfejhekoijemdaa
open Go.RowKit

def openC (S : SetM) (slots : List Int) : Int := if (decide (slots.length < 1) || decide (64 < slots.length) || slots.any wrongB) = true then 1 else if 256 ≤ S.l.length then 6 else 0
def addS (S : SetM) (slots : List Int) : SetM := { S with last := S.last + 1, l := S.l ++ [newO S slots] }
theorem info83 : (Try.prog.info? 83).map (fun i => (i.zero, i.size, i.bytes)) = some (some (.pointer none), 1, 8) := by kernel_rfl
/-- append of a poll's pointer -/
theorem push76 {ops : Array Oper} {rest : List Oper} {o : Oper} {a : Act} {w : World} {Q : Exit → Act → World → Prop} (hgd : o.guard = none) (s x : Operand) (ho : o.op = .call { callee := .builtin .append, args := #[s, x], argTypes := #[76, 76] })
    (v : Value) (ps : List (Nat × Nat)) (y : Nat × Nat) (hs : a.eval s = v) (hown : RowP w v ps) (g : Nat) (hx : a.eval x = .slice (some ⟨g, 0, none⟩) 1 1) (hg : obj w g = some (.cells #[.pointer (some ⟨y.1, 0, none⟩)] 83 (0, 0)))
    (hlen : ps.length ≤ 1048576)
    (h : ∀ v' w', RowP w' v' (ps ++ [y]) → w.grownBy w' v.ownBlock → (v'.ownBlock = v.ownBlock ∨ v'.ownBlock = some w.heap.size) → wpList Try.prog ops Q rest (a.put o.dst v') w') : wpList Try.prog ops Q (o :: rest) a w := by
  obtain ⟨i0, hi, hz0, hz1, hz2⟩ := info_parts info83
  refine wpList_append_own_at (P := Try.prog) w hgd s x 76 ho 0 83 i0 _ 1 8 Try.underlying76 hi hz0 hz1 hz2 (by simp [Value.cells]) (by decide) v ps.length (ps.map ptrV) hs hown ⟨g, 0, none⟩ 1 1 [ptrV y] hx rfl (fun j u hu => ?_) (fun u hu => ?_) (by unfold maxLen; omega) (by omega) (Nat.zero_le _) ?_
  · rw [Addr.add_lit, cell_at hg]; simpa [ptrV] using hu
  · simp at hu; subst hu; rfl
  · intro v' w' h1 h2 h3 h4
    refine h v' w' ?_ h2 h4
    have e1 : (ps ++ [y]).length = ps.length + 1 := by simp
    have e2 : (ps ++ [y]).map ptrV = ps.map ptrV ++ [ptrV y] := by simp
    unfold RowP
    rw [e1, e2]
    exact h1
set_option maxRecDepth 100000 in
set_option maxHeartbeats 2000000 in
/-- (*Set).Open: what is refused -/
theorem open_no (w : World) (M V : Nat → Prop) (b : Nat) (lv : Value) (ps : List (Nat × Nat)) (S : SetM) (h : SetW w M V b lv ps S) (hp : 1 ≤ S.pref) (sv : Value) (slots : List Int) (hs : SlIn w sv 1 intL slots) (hne : openC S slots ≠ 0) :
    Calls Try.prog 11 #[.pointer (some ⟨b, 0, none⟩), sv] w fun e w' => e = .returned (.tuple #[.int .i64 0, .int .i64 (openC S slots)]) ∧ w' = w := by
  have HN := Lib.hid (none_no w M V b lv ps S h hp)
  have HC := Lib.hid (contains_wrong w sv slots hs)
  have c3 : w.cell? ⟨b, 3, none⟩ = some lv := cell_at h.box 3
  have hlen := h.len
  obtain ⟨la, lc, rfl, g1, g2, _⟩ := h.row.slIn
  obtain ⟨oa, cap, rfl, h1, h2, _⟩ := hs
  unfold maxLen at h2 g2
  rw [hlen] at c3 g1
  clear h hlen
  by_cases d1 : slots.length < 1
  · have e1 : openC S slots = 1 := by unfold openC; simp [d1]
    rw [e1]
    have q1 : decide ((slots.length : Int) < 1) = true := by simp; omega
    clear hne e1
    generalize slots.length = n at *
    go_enter Try.func11, Try.ntmps11
    go_wp2_with fail
    refine HN.out.mono ?_
    rintro e w1 ⟨rfl, rfl⟩
    go_wp2
    go_ret2
    exact ⟨rfl, rfl⟩
  have q1 : decide ((slots.length : Int) < 1) = false := by simp; omega
  by_cases d2 : 64 < slots.length
  · have e1 : openC S slots = 1 := by unfold openC; simp [d2]
    rw [e1]
    have q2 : decide (64 < (slots.length : Int)) = true := by simp; omega
    clear hne e1 d1
    generalize slots.length = n at *
    go_enter Try.func11, Try.ntmps11
    go_wp2_with fail
    refine HN.out.mono ?_
    rintro e w1 ⟨rfl, rfl⟩
    go_wp2
    go_ret2
    exact ⟨rfl, rfl⟩
  have q2 : decide (64 < (slots.length : Int)) = false := by simp; omega
  cases d3 : slots.any wrongB with
  | true =>
    have e1 : openC S slots = 1 := by unfold openC; rw [d3]; simp
    rw [e1]
    rw [d3] at HC
    clear hne e1 d1 d2 d3
    generalize slots.length = n at *
    go_enter Try.func11, Try.ntmps11
    go_wp2_with fail
    refine HN.out.mono ?_
    rintro e w1 ⟨rfl, rfl⟩
    go_wp2_with fail
    refine HC.out.mono ?_
    rintro e w2 ⟨rfl, rfl⟩
    go_wp2
    go_ret2
    exact ⟨rfl, rfl⟩
  | false =>
    have d4 : 256 ≤ S.l.length := by
      refine Classical.byContradiction fun hc => hne ?_
      unfold openC
      rw [d3, decide_eq_false d1, decide_eq_false d2]
      simp [hc]
    have e1 : openC S slots = 6 := by unfold openC; rw [d3, decide_eq_false d1, decide_eq_false d2]; simp [d4]
    rw [e1]
    rw [d3] at HC
    have q4 : decide ((256 : Int) ≤ (S.l.length : Int)) = true := by simp; omega
    clear hne e1 d1 d2 d3
    generalize slots.length = n at *
    generalize S.l.length = m at *
    go_enter Try.func11, Try.ntmps11
    go_wp2_with fail
    refine HN.out.mono ?_
    rintro e w1 ⟨rfl, rfl⟩
    go_wp2_with fail
    refine HC.out.mono ?_
    rintro e w2 ⟨rfl, rfl⟩
    go_wp2
    go_ret2
    exact ⟨rfl, rfl⟩
end Go.Proofs.Ytfejhekoijemdaa
namespace Go.Proofs.Ytfejhekoijemdaa
open Go.RowKit

/-- slots that lie in no block of the set's own -/
def RdAt (w : World) (M : Nat → Prop) (sv : Value) (xs : List Int) : Prop :=
  SlIn w sv 1 intL xs ∧ ∀ bb off len cap, sv = .slice (some ⟨bb, off, none⟩) len cap → 0 < xs.length → ¬ M bb
theorem get_le_sum {L : List (Int × Int)} (h : ∀ x ∈ L, 1 ≤ x.2) (v : Int) : (aGet v L).getD 0 ≤ sumW L := by
  have h1 := sumW_del v L
  have h2 := sumW_nn (L := aDel v L) fun x hx => h x (mem_del hx)
  omega
theorem countW_app : ∀ (a b : List Int) (L : List (Int × Int)), countW L (a ++ b) = countW (countW L a) b
  | [], _, _ => rfl
  | v :: a, b, L => by
    simp only [List.cons_append, countW]
    exact countW_app a b _
theorem countW_take {xs : List Int} {k : Nat} (h : k < xs.length) : countW [] (xs.take (k + 1)) = aPut xs[k] ((aGet xs[k] (countW [] (xs.take k))).getD 0 + 1) (countW [] (xs.take k)) := by
  rw [List.take_succ_eq_append_getElem h, countW_app]
  rfl
theorem get_snoc {α : Type} {l : List α} {x y : α} {i : Nat} (h : (l ++ [x])[i]? = some y) : (i < l.length ∧ l[i]? = some y) ∨ (i = l.length ∧ y = x) := by
  by_cases hi : i < l.length
  · rw [List.getElem?_append_left hi] at h
    exact .inl ⟨hi, h⟩
  · rw [List.getElem?_append_right (by omega)] at h
    obtain ⟨g, e⟩ := List.getElem?_eq_some_iff.1 h
    simp at g e
    exact .inr ⟨by omega, e.symm⟩
/-- a set with a poll more -/
theorem SetW.add {w W : World} {M V : Nat → Prop} {b : Nat} {lv nv : Value} {ps : List (Nat × Nat)} {S : SetM} (h : SetW w M V b lv ps S) (slots : List Int) (q : Nat)
    (hb : obj W b = some (.cells #[.int .i64 S.pref, .int .i64 S.conf, .int .i64 (S.last + 1), nv] 78 (0, 0))) (hr : RowP W nv (ps ++ [(w.heap.size + 1, w.heap.size)]))
    (hp : obj W (w.heap.size + 1) = some (.cells #[.int .i64 (S.last + 1), .int .i64 slots.length, .map (some w.heap.size), .int .i64 slots.length, .slice none 0 0] 85 (0, 0))) (hm : MapI W w.heap.size intV (countW [] slots))
    (hk : ∀ k, k < w.heap.size → k ≠ b → lv.ownBlock ≠ some k → obj W k = obj w k) (hq : nv.ownBlock = lv.ownBlock ∨ nv.ownBlock = some q) (hq2 : w.heap.size ≤ q) (hq3 : nv.ownBlock = some q → q < W.heap.size) :
    SetW W (fun n => M n ∨ n = w.heap.size ∨ n = w.heap.size + 1 ∨ nv.ownBlock = some n) V b nv (ps ++ [(w.heap.size + 1, w.heap.size)]) (addS S slots) := by
  have hpl := lt_of_obj hp
  have hold : ∀ (i : Nat) (p : Nat × Nat) (o : OneM), ps[i]? = some p → S.l[i]? = some o → ∃ v, OneW W V p.1 p.2 v o := fun i p o h1 h2 => by
    obtain ⟨v, ho⟩ := h.one i p o h1 h2
    have hmp := h.mp p (List.mem_of_getElem? h1)
    obtain ⟨es, clk, hm1, hr1⟩ := ho.map
    have hb1 : p.1 ≠ b := fun e => by have := h.box; rw [← e, ho.at_] at this; simp at this
    have hb2 : p.2 ≠ b := fun e => by have := h.box; rw [← e, hm1] at this; simp at this
    refine ⟨v, (hk _ (lt_of_obj ho.at_) hb1 (h.row.ne ho.at_ fun cur e => by simp at e)).trans ho.at_, ⟨es, clk, (hk _ (lt_of_obj hm1) hb2 (h.row.ne hm1 fun cur e => by simp at e)).trans hm1, hr1⟩, ho.vt.frame (by omega) (fun n hn hv => hk n hn (fun e => h.dis n (by rw [e]; exact h.mb) hv) (fun e => h.dis n (h.ml n e) hv)) fun _ h => h⟩
  refine ⟨hb, hr, ?_, ?_, ?_, ?_, .inl h.mb, fun g hg => .inr (.inr (.inr hg)), ?_, ?_, ?_, ?_⟩
  · have := h.len
    unfold addS
    simp; omega
  · intro i p o h1 h2
    unfold addS at h2
    rcases get_snoc h1 with ⟨i1, g1⟩ | ⟨i1, g1⟩
    · rcases get_snoc h2 with ⟨i2, g2⟩ | ⟨i2, g2⟩
      · exact hold i p o g1 g2
      · have := h.len; omega
    · rcases get_snoc h2 with ⟨i2, g2⟩ | ⟨i2, g2⟩
      · have := h.len; omega
      · subst g1 g2
        exact ⟨.slice none 0 0, hp, hm, ⟨⟨none, 0, rfl, Nat.le_refl _, Nat.zero_le _, fun h => by simp [newO] at h⟩, fun _ _ _ _ e => by simp at e⟩⟩
  · rw [List.map_append, List.nodup_append]
    refine ⟨h.nd1, by simp, fun a ha c hc => ?_⟩
    simp at hc
    subst hc
    obtain ⟨p, hp1, rfl⟩ := List.mem_map.1 ha
    have := h.mlt _ (h.mp p hp1).1
    omega
  · rw [List.map_append, List.nodup_append]
    refine ⟨h.nd2, by simp, fun a ha c hc => ?_⟩
    simp at hc
    subst hc
    obtain ⟨p, hp1, rfl⟩ := List.mem_map.1 ha
    have := h.mlt _ (h.mp p hp1).2
    omega
  · intro p hp1
    rcases List.mem_append.1 hp1 with h1 | h1
    · exact ⟨.inl (h.mp p h1).1, .inl (h.mp p h1).2⟩
    · simp at h1
      subst h1
      exact ⟨.inr (.inr (.inl rfl)), .inr (.inl rfl)⟩
  · intro n hn hv
    have hvl := h.vlt n hv
    rcases hn with h1 | h1 | h1 | h1
    · exact h.dis n h1 hv
    · omega
    · omega
    · rcases hq with h2 | h2
      · exact h.dis n (h.ml n (h2 ▸ h1)) hv
      · rw [h2] at h1; cases h1; omega
  · intro n hn
    rcases hn with h1 | h1 | h1 | h1
    · have := h.mlt n h1; omega
    · omega
    · omega
    · rcases hq with h2 | h2
      · have := h.mlt n (h.ml n (h2 ▸ h1)); omega
      · have := hq3 h2; rw [h2] at h1; cases h1; omega
  · intro n hv
    have := h.vlt n hv; omega
set_option maxRecDepth 100000 in
set_option maxHeartbeats 2000000 in
/-- (*Set).Open: a poll more -/
theorem open_yes (w : World) (M V : Nat → Prop) (b : Nat) (lv : Value) (ps : List (Nat × Nat)) (S : SetM) (h : SetW w M V b lv ps S) (hok : SetOK S) (hlast : S.last < 4611686018427387904) (sv : Value) (slots : List Int) (hs : RdAt w M sv slots) (hne : openC S slots = 0) :
    Calls Try.prog 11 #[.pointer (some ⟨b, 0, none⟩), sv] w fun e w' => e = .returned (.tuple #[.int .i64 (S.last + 1), .int .i64 0]) ∧ ∃ M' lv' ps', SetW w' M' V b lv' ps' (addS S slots) ∧ (∀ n, M n → M' n) ∧ (∀ n, M' n → M n ∨ w.heap.size ≤ n) ∧ Keeps M w w' := by
  have HN := Lib.hid (none_no w M V b lv ps S h hok.p0)
  have HC := Lib.hid (contains_wrong w sv slots hs.1)
  have c3 : w.cell? ⟨b, 3, none⟩ = some lv := cell_at h.box 3
  have c2 : w.cell? ⟨b, 2, none⟩ = some (.int .i64 S.last) := cell_at h.box 2
  have f2 := frozen_at h.box 2
  have f3 := frozen_at h.box 3
  have hbl := h.lt
  have hl0 := hok.last
  have hlen := h.len
  have d123 : ¬ slots.length < 1 ∧ ¬ 64 < slots.length ∧ slots.any wrongB = false ∧ ¬ 256 ≤ S.l.length := by
    unfold openC at hne
    by_cases d1 : slots.length < 1
    · rw [decide_eq_true d1] at hne; simp at hne
    by_cases d2 : 64 < slots.length
    · rw [decide_eq_true d2] at hne; simp at hne
    cases d3 : slots.any wrongB with
    | true => rw [d3] at hne; simp at hne
    | false =>
      refine ⟨d1, d2, rfl, fun d4 => ?_⟩
      rw [d3, decide_eq_false d1, decide_eq_false d2] at hne
      simp [d4] at hne
  obtain ⟨d1, d2, d3, d4⟩ := d123
  rw [d3] at HC
  have HW := Lib.hid h
  have HO := Lib.hid hok
  obtain ⟨la, lc, rfl, g1, g2, _⟩ := h.row.slIn
  obtain ⟨⟨oa, cap, rfl, h1, h2, h3⟩, h4⟩ := hs
  have H3 : Hid (∃ bb off, oa = some ⟨bb, off, none⟩ ∧ bb < w.heap.size ∧ bb ≠ b ∧ RowAt w bb off 1 intL slots) := Lib.hid (by
    obtain ⟨bb, off, e, q1, q2⟩ := h3 (by omega)
    subst e
    exact ⟨bb, off, rfl, q1, fun e => h4 bb off _ _ rfl (by omega) (by rw [e]; exact h.mb), q2⟩)
  unfold maxLen at h2 g2
  have q1 : decide ((slots.length : Int) < 1) = false := by simp; omega
  have q2 : decide (64 < (slots.length : Int)) = false := by simp; omega
  have q4 : decide ((256 : Int) ≤ (ps.length : Int)) = false := by simp; omega
  have hwr : IntKind.i64.wrap (S.last + 1) = S.last + 1 := by simp [IntKind.wrap, IntKind.signed, IntKind.bits]; omega
  have hlen64 : slots.length ≤ 64 := by omega
  have hps : ps.length ≤ 1048576 := by omega
  have hmm := @run_makeMap Try.prog
  clear h hok hne d3 d4 h3 h4 hlen d1 d2
  have hW1 : Hid (∀ W1 : World, W1 = (((w.setCell ⟨b, 2, none⟩ (.int .i64 (S.last + 1))).alloc (.map #[] 0)).alloc (.cells #[.int .i64 (S.last + 1), .int .i64 slots.length, .map (some w.heap.size), .int .i64 slots.length, .slice none 0 0] 85)) →
      Keeps (fun n => n = b) w W1 ∧ W1.heap.size = w.heap.size + 2 ∧ obj W1 w.heap.size = some (.map #[] 0) ∧ obj W1 (w.heap.size + 1) = some (.cells #[.int .i64 (S.last + 1), .int .i64 slots.length, .map (some w.heap.size), .int .i64 slots.length, .slice none 0 0] 85 (0, 0)) ∧
      obj W1 b = some (.cells #[.int .i64 S.pref, .int .i64 S.conf, .int .i64 (S.last + 1), .slice la ps.length lc] 78 (0, 0))) := Lib.hid (fun W1 e => by
    subst e
    refine ⟨(((Keeps.refl (fun n => n = b) w).setCell (a := ⟨b, 2, none⟩) (.inl rfl) _).alloc _).alloc _, by simp, ?_, ?_, ?_⟩
    · rw [obj_alloc_past _ _ _ (by simp), obj_alloc_at _ _ _ (by simp)]
    · rw [obj_alloc_at _ _ _ (by simp)]
    · rw [obj_alloc_past _ _ _ (by simp; omega), obj_alloc_past _ _ _ (by simpa using hbl), obj_setCell_at _ HW.out.box]; rfl)
  go_enter Try.func11, Try.ntmps11
  go_wp2_with fail
  refine HN.out.mono ?_
  rintro e w ⟨rfl, rfl⟩
  go_wp2_with fail
  refine HC.out.mono ?_
  rintro e w ⟨rfl, rfl⟩
  go_wp2_with fail
  obtain ⟨k1, z1, om1, op1, ob1⟩ := hW1.out _ rfl
  clear hW1
  generalize hw1 : (((w.setCell ⟨b, 2, none⟩ (.int .i64 (S.last + 1))).alloc (.map #[] 0)).alloc (.cells #[.int .i64 (S.last + 1), .int .i64 slots.length, .map (some w.heap.size), .int .i64 slots.length, .slice none 0 0] 85)) = W1 at *
  have K1 := Lib.hid k1
  have OM := Lib.hid om1
  have OP := Lib.hid op1
  have OB := Lib.hid ob1
  have NB : ¬ b = w.heap.size := by omega
  clear hw1 k1 om1 op1 ob1 c2 c3 f2 f3 HN HC
  go_loopw [9, 54] (fun _ v54 wr => ∃ k : Nat, k ≤ slots.length ∧ v54 = .int .i64 k ∧ Hid (MapI wr w.heap.size intV (countW [] (slots.take k))) ∧ Hid (Keeps (fun n => n = w.heap.size) W1 wr)) (fun _ i _ => slots.length - (intOf i).toNat)
  case atStart => exact ⟨0, Nat.zero_le _, rfl, Lib.hid ⟨#[], 0, OM.out, trivial⟩, Lib.hid (Keeps.refl _ _)⟩
  case round =>
    obtain ⟨k, hk, rfl, HM, HK⟩ := hrel
    have hzr := HK.out.size
    have opr := (HK.out.block (w.heap.size + 1) (by omega) (by omega)).trans OP.out
    by_cases hlt : k < slots.length
    · obtain ⟨bb, off, hoa, hbb, hne, hrow⟩ := H3.out
      subst hoa
      have hs1 := hrow k hlt
      have e1 : obj wr bb = obj w bb := (HK.out.block bb (by omega) (by omega)).trans (K1.out.block bb hbb hne)
      rw [← e1] at hs1
      have hbl2 : bb < wr.heap.size := by omega
      have cx : wr.cell? ⟨bb, off + k * 1, none⟩ = some (.int .i64 slots[k]) := by
        have := subOf_cell hs1 (j := 0) (by decide)
        simpa [intL] using this
      rw [Nat.mul_one] at cx
      have cm : wr.cell? ⟨w.heap.size + 1, 2, none⟩ = some (.map (some w.heap.size)) := cell_at opr 2
      have hpl : w.heap.size + 1 < wr.heap.size := by omega
      obtain ⟨es, clk, hm, hrep⟩ := HM.out
      obtain ⟨a1, a2, a3⟩ := countW_ok (slots.take k) [] (by simp) (by simp)
      have a4 := get0 a1 slots[k]
      have a5 := get_le_sum a1 slots[k]
      rw [a3] at a5
      have a6 : (slots.take k).length = k := by simp; omega
      rw [a6] at a5
      simp only [sumW] at a5
      have HN2 := Lib.hid (countW_take hlt)
      generalize countW [] (slots.take k) = L at *
      generalize slots[k] = x at *
      have hlk : (Instr.lookup 31 (.map (some w.heap.size)) (.int .i64 x) false).run Try.prog wr = .ok (.int .i64 ((aGet x L).getD 0)) wr := by
        rw [run_lookup1_int (enc := intV) Try.underlying31 Try.underlying3 (z := .int .i64 0) (fun w => by kernel_rfl) ⟨es, clk, hm, hrep⟩ x]
        unfold intV
        cases aGet x L <;> rfl
      obtain ⟨es', clk', hup, hrep'⟩ := run_mapUpdate_int (enc := intV) (P := Try.prog) (clk := clk) Try.underlying31 Try.underlying3 hrep w.heap.size x ((aGet x L).getD 0 + 1)
      have hup2 : (Instr.mapUpdate 31 (.map (some w.heap.size)) (.int .i64 x) (.int .i64 ((aGet x L).getD 0 + 1))).run Try.prog wr = .ok () (putObj wr w.heap.size (.map es' clk')) := hup wr hm
      have hml : w.heap.size < wr.heap.size := by omega
      have HM2 : Hid (MapI (putObj wr w.heap.size (.map es' clk')) w.heap.size intV (countW [] (slots.take (k + 1)))) := Lib.hid ⟨es', clk', obj_putObj_eq _ _ _ hml, by rw [HN2.out]; exact hrep'⟩
      have hwc : IntKind.i64.wrap ((aGet x L).getD 0 + 1) = (aGet x L).getD 0 + 1 := by simp [IntKind.wrap, IntKind.signed, IntKind.bits]; omega
      clear hup hrep hrep' hm a1 a2 a3 a6 hrow hs1 e1 HM
      generalize (aGet x L).getD 0 = g at *
      go_wp2
      go_roundw
      case rel => exact ⟨k + 1, by omega, by go_num, HM2, Lib.hid (HK.out.putObj (m := w.heap.size) rfl _)⟩
      case measure => simp [intOf]; omega
    · have hk' : k = slots.length := by omega
      subst hk'
      have obr := (HK.out.block b (by omega) NB).trans OB.out
      have c3 : wr.cell? ⟨b, 3, none⟩ = some (.slice la ps.length lc) := cell_at obr 3
      have f3 := frozen_at obr 3
      have hblr : b < wr.heap.size := by omega
      have hplr : w.heap.size + 1 < wr.heap.size := by omega
      rw [List.take_of_length_le (Nat.le_refl _)] at HM
      have HRW : Hid (RowP wr (.slice la ps.length lc) ps) := Lib.hid (HW.out.row.frame fun g hg => by
        have := HW.out.mlt g (HW.out.ml g hg)
        exact (HK.out.block g (by omega) (by omega)).trans (K1.out.block g this (fun e => HW.out.row.ne HW.out.box (fun cur e' => by simp at e') (by rw [hg, e]))))
      have OPR := Lib.hid opr
      have hbs : ∀ j o, obj wr j = some o → (∀ cur, o ≠ .cells cur 83 (0, 0)) → (Value.slice la ps.length lc).ownBlock ≠ some j := fun j o ho hne => HRW.out.ne ho hne
      have nb1 := hbs b _ obr (fun cur e => by simp at e)
      have np1 := hbs (w.heap.size + 1) _ opr (fun cur e => by simp at e)
      have HBS := Lib.hid hbs
      clear hbs
      go_wp2_with (first
        | (at_builtin; have oo : obj (wr.alloc (.cells #[.pointer (some ⟨w.heap.size + 1, 0, none⟩)] 83)) wr.heap.size = some (.cells #[.pointer (some ⟨w.heap.size + 1, 0, none⟩)] 83 (0, 0)) := obj_alloc_at _ _ _ rfl; refine push76 rfl _ _ rfl (.slice la ps.length lc) ps (w.heap.size + 1, w.heap.size) rfl (HRW.out.frame fun g hg => obj_alloc_past _ _ _ (HRW.out.lt g hg).2) wr.heap.size rfl oo hps ?_; intro v5 w5 r5 g5 q5; have R5 := Lib.hid r5; have G5 : Hid (∀ k, k < wr.heap.size → (Value.slice la ps.length lc).ownBlock ≠ some k → obj w5 k = obj wr k) := Lib.hid (fun k hk hne => (g5.block k (by simp; omega) (fun e => hne e.symm)).trans (obj_alloc_past _ _ _ hk)); have Z5 : wr.heap.size + 1 ≤ w5.heap.size := (by have := g5.size; simpa using this); have Q5 := Lib.hid q5; have G6 : Hid (Keeps (fun n => (Value.slice la ps.length lc).ownBlock = some n) wr w5) := Lib.hid ⟨g5.os, g5.tape, g5.output, (by omega), fun k hk hne => G5.out k hk hne⟩; clear g5 q5 r5 oo; obtain ⟨oa5, cap5, e5, _⟩ := R5.out.slIn; generalize hn5 : (ps ++ [(w.heap.size + 1, w.heap.size)]).length = n5 at e5; subst e5; have ob5 := (G5.out b hblr nb1).trans obr; have c53 : w5.cell? ⟨b, 3, none⟩ = some (.slice la ps.length lc) := cell_at ob5 3; have f53 := frozen_at ob5 3; have op5 := (G5.out (w.heap.size + 1) hplr np1).trans opr; have c50 : w5.cell? ⟨w.heap.size + 1, 0, none⟩ = some (.int .i64 (S.last + 1)) := cell_at op5 0; have hb5 : b < w5.heap.size := (by omega); have hp5 : w.heap.size + 1 < w5.heap.size := (by omega); have OB5 := Lib.hid ob5; have OP5 := Lib.hid op5; have HN5 := Lib.hid hn5; clear ob5 op5 hn5))
      go_ret2
      have hobW : obj (w5.setCell ⟨b, 3, none⟩ (.slice oa5 n5 cap5)) b = some (.cells #[.int .i64 S.pref, .int .i64 S.conf, .int .i64 (S.last + 1), .slice oa5 n5 cap5] 78 (0, 0)) := by
        rw [obj_setCell_at _ OB5.out]; rfl
      have hoth : ∀ k, k < wr.heap.size → k ≠ b → (Value.slice la ps.length lc).ownBlock ≠ some k → obj (w5.setCell ⟨b, 3, none⟩ (.slice oa5 n5 cap5)) k = obj wr k := fun k hk2 h3 h4 =>
        (obj_setCell_ne _ _ _ _ h3).trans (G5.out k hk2 h4)
      have hold : ∀ k, k < w.heap.size → k ≠ b → obj wr k = obj w k := fun k hk2 h3 => (HK.out.block k (by omega) (by omega)).trans (K1.out.block k hk2 h3)
      have hlr : ∀ g, (Value.slice la ps.length lc).ownBlock = some g → g < w.heap.size ∧ g ≠ b := fun g hg => ⟨HW.out.mlt g (HW.out.ml g hg), fun e => nb1 (by rw [hg, e])⟩
      have hS := HW.out.add (W := w5.setCell ⟨b, 3, none⟩ (.slice oa5 n5 cap5)) (nv := .slice oa5 n5 cap5) slots (wr.heap.size + 1) hobW (R5.out.frame fun g hg => obj_setCell_ne _ _ _ _ ?_)
        ((hoth _ hplr (by omega) np1).trans OPR.out) (by
          obtain ⟨es, clk, e1, e2⟩ := HM.out
          exact ⟨es, clk, (hoth _ (by omega) (by omega) (HBS.out _ _ e1 fun cur e => by simp at e)).trans e1, e2⟩)
        (fun k hk2 h3 h4 => (hoth k (by omega) h3 h4).trans (hold k hk2 h3)) (by simpa using Q5.out) (by omega) (fun h2 => by have := (R5.out.lt _ h2).2; simpa using this)
      · refine ⟨rfl, _, _, _, hS, fun n hn => .inl hn, fun n hn => ?_, ?_⟩
        · rcases hn with h | h | h | h
          · exact .inl h
          · exact .inr (by omega)
          · exact .inr (by omega)
          · rcases Q5.out with h2 | h2
            · exact .inl (HW.out.ml n (h2 ▸ h))
            · rw [h2] at h
              have : n = wr.heap.size + 1 := by simpa using h.symm
              exact .inr (by omega)
        · have h1 := K1.out
          have h2 := HK.out
          have h3 := G6.out
          exact ⟨h3.os.trans (h2.os.trans h1.os), h3.tape.trans (h2.tape.trans h1.tape), h3.output.trans (h2.output.trans h1.output), by simp; omega, fun k hk2 hf =>
            (hoth k (by omega) (fun e => hf (by rw [e]; exact HW.out.mb)) (fun e => hf (HW.out.ml k e))).trans (hold k hk2 (fun e => hf (by rw [e]; exact HW.out.mb)))⟩
      · have := R5.out.lt _ hg
        rcases Q5.out with h2 | h2
        · exact (hlr g (h2 ▸ hg)).2
        · rw [h2] at hg
          have : g = wr.heap.size + 1 := by simpa using hg.symm
          simp; omega
end Go.Proofs.Ytfejhekoijemdaa
