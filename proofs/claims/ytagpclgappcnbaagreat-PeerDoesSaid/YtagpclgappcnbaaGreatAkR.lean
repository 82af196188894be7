import Derived.Test.YtagpclgappcnbaaGreatAkD
import Derived.Test.YtagpclgappcnbaaGreatRange
import Derived.LoopTactic
import Derived.Sort.Grow
import Derived.Deep.Onto
import Derived.Deep.RegionHeld3
import Derived.Test.YtagpclgappcnbaaGreatApp
import Derived.Deep.RegionLaw
namespace Go.Proofs.YtagpclgappcnbaaGreat.Ak
open Go.RowKit

/-! ### asks: three cells, as one step -/
@[go_sem ↓] theorem hide_load32 (a : Addr) : loadVar 66 a = loadAgg 66 a := rfl
@[go_sem ↓] theorem hide_store32 (a : Addr) (v : Value) : storeVar 66 a v = storeAgg 66 a v := rfl
@[go_sem] theorem run_load32 (b off : Nat) (W : World) : (loadAgg 66 ⟨b, off, none⟩).run Tryz.prog W = loadRes Tryz.prog 66 ⟨b, off, none⟩ W (subOf (obj W b) off 3) := run_loadAgg Tryz.isAgg66 Tryz.sizeOf66 b off W
@[go_sem] theorem run_store32 (b off : Nat) (cs : Array Value) (W : World) : (storeAgg 66 ⟨b, off, none⟩ (.agg cs)).run Tryz.prog W = storeRes Tryz.prog 66 ⟨b, off, none⟩ (.agg cs) W (putOf (obj W b) off 3 cs) := run_storeAgg Tryz.sizeOf66 b off cs W
@[reducible] def akL (a : AskD) : List Value := [.int .i64 a.id, .int .i64 a.node, .int .i64 a.kind]
@[reducible] def akV (a : AskD) : Value := .agg #[.int .i64 a.id, .int .i64 a.node, .int .i64 a.kind]
theorem akL_length (a : AskD) : (akL a).length = 3 := rfl
theorem akL_one (a : AskD) : allOne (akL a).toArray = true := rfl
theorem info32 : (Tryz.prog.info? 66).map (fun i => (i.zero, i.size, i.bytes)) = some (some (.agg #[.int .i64 0, .int .i64 0, .int .i64 0]), 3, 24) := by kernel_rfl
end Go.Proofs.YtagpclgappcnbaaGreat.Ak
namespace Go.Proofs.YtagpclgappcnbaaGreat.Ak
open Go.RowKit Go.Shelf Go.Sort

/-- what a map tells of a number, as an ask of that number -/
def gA (L : List (Int × AskD)) (id : Int) : AskD := ⟨id, ((aGet id L).getD ⟨0, 0, 0⟩).node, ((aGet id L).getD ⟨0, 0, 0⟩).kind⟩
end Go.Proofs.YtagpclgappcnbaaGreat.Ak
namespace Go.Proofs.YtagpclgappcnbaaGreat
open Go.RowKit Go.Shelf Go.Sort
open Go.Proofs.YtagpclgappcnbaaGreat.Ak
theorem OwnS.map {α β : Type} {w : World} {base E k : Nat} {enc : β → List Value} {g : α → β} {v : Value} {xs : List α} : OwnS w base E k enc v (xs.map g) ↔ OwnS w base E k (fun x => enc (g x)) v xs := by
  unfold OwnS
  rw [List.length_map, List.flatMap_map]
  simp
end Go.Proofs.YtagpclgappcnbaaGreat
namespace Go.Proofs.YtagpclgappcnbaaGreat.Ak
open Go.RowKit Go.Shelf Go.Sort
/-- numbers rise, each ask of its own number -/
structure RiseL (L : List (Int × AskD)) : Prop where
  rise : (L.map (·.1)).Pairwise (· < ·)
  own : ∀ p ∈ L, p.2.id = p.1
theorem aGet_mem {L : List (Int × AskD)} (h : (L.map (·.1)).Pairwise (· < ·)) : ∀ p ∈ L, aGet p.1 L = some p.2 := by
  induction L with
  | nil => intro p hp; cases hp
  | cons q r ih =>
    intro p hp
    rw [List.map_cons, List.pairwise_cons] at h
    obtain ⟨j, u⟩ := q
    rcases List.mem_cons.1 hp with rfl | hp
    · simp [aGet]
    · have h1 := h.1 p.1 (List.mem_map_of_mem hp)
      unfold aGet
      rw [if_neg (by simp only at h1; omega)]
      exact ih h.2 p hp
theorem RiseL.gat {L : List (Int × AskD)} (h : RiseL L) {a : AskD} (ha : a ∈ L.map (·.2)) : gA L a.id = a := by
  obtain ⟨p, hp, rfl⟩ := List.mem_map.1 ha
  have h1 := aGet_mem h.rise p hp
  have h2 := h.own p hp
  unfold gA
  rw [h2, h1]
  obtain ⟨k, ⟨i, n, q⟩⟩ := p
  simp only at h2
  subst h2
  rfl
theorem RiseL.ids {L : List (Int × AskD)} (h : RiseL L) : (L.map (·.2)).map (·.id) = L.map (·.1) := by
  rw [List.map_map]
  exact List.map_congr_left fun p hp => h.own p hp
theorem RiseL.back {L : List (Int × AskD)} (h : RiseL L) {ys : List AskD} (hp : ys.Perm (L.map (·.2))) : (ys.map (·.id)).map (gA L) = ys := by
  rw [List.map_map]
  conv => rhs; rw [← List.map_id ys]
  exact List.map_congr_left fun a ha => h.gat (hp.mem_iff.1 ha)
end Go.Proofs.YtagpclgappcnbaaGreat.Ak
namespace Go.Proofs.YtagpclgappcnbaaGreat.Ak
open Go.RowKit

/-! ### the document's book: its asks in a slice of its own -/
theorem hide_row51 (a b c : Int) (w : World) : (Instr.buildSlice 59 1 #[(0, .agg #[.int .i64 a, .int .i64 b, .int .i64 c])]).run Tryz.prog w = .ok (.slice (some ⟨w.heap.size, 0, none⟩) 1 1) (w.alloc (.cells #[.int .i64 a, .int .i64 b, .int .i64 c] 66)) := by kernel_rfl
structure RefD where
  room : Int
  last : Int
  asked : Int
  ans : Int
  exp : Int
def refC (S : RefD) (v : Value) : Array Value := #[.int .i64 S.room, .int .i64 S.last, v, .int .i64 S.asked, .int .i64 S.ans, .int .i64 S.exp]
def RefK (w : World) (G : Nat → Prop) (rb : Nat) (S : RefD) (W : List AskD) : Prop := ∃ v, obj w rb = some (.cells (refC S v) 103 (0, 0)) ∧ OwnS w 0 66 3 akL v W ∧ ∀ n, v.ownBlock = some n → G n
theorem RefK.lt {w : World} {G : Nat → Prop} {rb : Nat} {S : RefD} {W : List AskD} (h : RefK w G rb S W) : rb < w.heap.size := by
  obtain ⟨v, h1, _⟩ := h
  exact lt_of_obj h1
theorem RefK.below {w w' : World} {G : Nat → Prop} {rb : Nat} {S : RefD} {W : List AskD} (h : RefK w G rb S W) (hb : Below w.heap.size w w') : RefK w' G rb S W := by
  obtain ⟨v, h1, h2, h3⟩ := h
  exact ⟨v, (obj_below hb (lt_of_obj h1)).trans h1, h2.below hb, h3⟩
def findA (W : List AskD) (k : Int) : Int := if W.any (fun x => x.id == k) then (W.findIdx (fun x => x.id == k) : Nat) else -1
theorem findA_hit {xs : List AskD} {q : Int} {k : Nat} (h : k < xs.length) (hn : ∀ j (hj : j < xs.length), j < k → (xs[j].id == q) = false) (e : (xs[k].id == q) = true) : findA xs q = k := by
  unfold findA
  rw [if_pos (by rw [List.any_eq_true]; exact ⟨xs[k], by simp, e⟩), List.findIdx_eq h |>.2 ⟨e, fun j hj => by simpa using hn j (by omega) hj⟩]
theorem findA_miss {xs : List AskD} {q : Int} (hn : ∀ j (hj : j < xs.length), j < xs.length → (xs[j].id == q) = false) : findA xs q = -1 := by
  unfold findA
  rw [if_neg]
  intro h
  rw [List.any_eq_true] at h
  obtain ⟨x, hx, e⟩ := h
  obtain ⟨j, hj, rfl⟩ := List.getElem_of_mem hx
  rw [hn j hj hj] at e
  cases e
set_option maxRecDepth 100000 in
set_option maxHeartbeats 1000000 in
theorem find_ref (w : World) (G : Nat → Prop) (rb : Nat) (S : RefD) (W : List AskD) (q : Int) (h : RefK w G rb S W) :
    Calls Tryz.prog 84 #[.pointer (some ⟨rb, 0, none⟩), .int .i64 q] w fun e w' => e = .returned (.int .i64 (findA W q)) ∧ Below w.heap.size w w' := by
  obtain ⟨v, h1, h2, h3⟩ := h
  obtain ⟨oa, cap, rfl, g1, g2, g3⟩ := h2.slIn akL_length
  unfold maxLen at g2
  have H1 := Lib.hid h1
  have H3 := Lib.hid g3
  have hz := lt_of_obj h1
  clear h1 h2 h3 g3
  go_enter Tryz.func84, Tryz.ntmps84
  go_wp2
  go_loopw [5] (fun v5 wr => ∃ k : Nat, k ≤ W.length ∧ v5 = .int .i64 k ∧ Hid (∀ j (h1 : j < W.length), j < k → (W[j].id == q) = false) ∧ Hid (Below w.heap.size w wr)) (fun i _ => W.length - (intOf i).toNat)
  case atStart => exact ⟨0, Nat.zero_le _, rfl, Lib.hid (by omega), Lib.hid (Below.refl _ w)⟩
  case round =>
    obtain ⟨k, hk, rfl, HK, HB⟩ := hrel
    have ob := (obj_below HB.out hz).trans H1.out
    have c0 : wr.cell? ⟨rb, 2, none⟩ = some (.slice oa W.length cap) := cell_at ob 2
    have hzr := lt_of_obj ob
    clear ob
    by_cases hlt : k < W.length
    · obtain ⟨b, off, hoa, hbb, hrow⟩ := H3.out (by omega)
      subst hoa
      have hs1 := hrow k hlt
      rw [← obj_below HB.out hbb] at hs1
      have hbl : b < wr.heap.size := Nat.lt_of_lt_of_le hbb HB.out.size
      have c1 := subOf_cell hs1 (j := 0) (by decide)
      simp only [akL, List.getElem?_toArray, List.getElem?_cons_zero, Nat.add_zero] at c1
      have NX : Hid ((W[k].id == q) = false → ∀ j (h1 : j < W.length), j < k + 1 → (W[j].id == q) = false) := Lib.hid (fun h j h1 hlt' => by
          by_cases e : j = k
          · subst e; exact h
          · exact HK.out j h1 (by omega))
      have NO : Hid ((W[k].id == q) = true → findA W q = k) := Lib.hid (fun h => findA_hit hlt HK.out h)
      generalize W[k].id = x at *
      clear hrow hs1
      cases hr : (x == q)
      · go_wp2
        go_roundw
        case rel => exact ⟨k + 1, by omega, by go_num, Lib.hid (NX.out hr), HB⟩
        case measure => simp [intOf]; omega
      · go_wp2
        go_ret
        exact ⟨ret_int (NO.out hr).symm, HB.out⟩
    · have hk' : k = W.length := by omega
      subst hk'
      go_wp2
      go_ret
      exact ⟨ret_int (findA_miss HK.out).symm, HB.out⟩
end Go.Proofs.YtagpclgappcnbaaGreat.Ak
namespace Go.Proofs.YtagpclgappcnbaaGreat
open Go.RowKit
open Go.Proofs.YtagpclgappcnbaaGreat.Ak
theorem OwnS.lower {α : Type} {w : World} {base base' E k : Nat} {enc : α → List Value} {v : Value} {xs : List α} (h : OwnS w base E k enc v xs) (hb : base' ≤ base) : OwnS w base' E k enc v xs := ⟨h.1.mono hb, h.2⟩
end Go.Proofs.YtagpclgappcnbaaGreat
namespace Go.Proofs.YtagpclgappcnbaaGreat.Ak
open Go.RowKit
def RefIn (w : World) (base rb : Nat) (S : RefD) (W : List AskD) : Prop := ∃ v, obj w rb = some (.cells (refC S v) 103 (0, 0)) ∧ OwnS w base 66 3 akL v W
theorem RefIn.putNew {w : World} {base rb m : Nat} {S : RefD} {W : List AskD} (h : RefIn w base rb S W) (hm : m < base) (hr : m ≠ rb) (o : Obj) : RefIn (putObj w m o) base rb S W := by
  obtain ⟨v, h1, h2⟩ := h
  refine ⟨v, (obj_putObj_ne _ _ _ _ (Ne.symm hr)).trans h1, h2.keeps fun g hg => obj_putObj_ne _ _ _ _ ?_⟩
  have := (h2.1.lt g hg).1
  omega
theorem RefIn.at_ {w : World} {B rb : Nat} {G : Nat → Prop} {S : RefD} {W : List AskD} (h : RefIn w B rb S W) (hG : ∀ n, B ≤ n → G n) : RefK w G rb S W := by
  obtain ⟨v, h1, h2⟩ := h
  exact ⟨v, h1, h2.lower (Nat.zero_le _), fun n hn => hG n (h2.1.lt n hn).1⟩
theorem RefIn.low {w : World} {B B' rb : Nat} {S : RefD} {W : List AskD} (h : RefIn w B rb S W) (hb : B' ≤ B) : RefIn w B' rb S W := by
  obtain ⟨v, h1, h2⟩ := h
  exact ⟨v, h1, h2.lower hb⟩
theorem refC_set (S : RefD) (v v' : Value) : (refC S v).setIfInBounds 2 v' = refC S v' := rfl
theorem RefK.set_list {w wr : World} {G : Nat → Prop} {rb : Nat} {S : RefD} {W X : List AskD} {v : Value} (h : RefK w G rb S W) (hb : Below w.heap.size w wr) (ho : OwnS wr w.heap.size 66 3 akL v X) :
    Keeps (fun n => n = rb) w (wr.setCell ⟨rb, 2, none⟩ v) ∧ RefIn (wr.setCell ⟨rb, 2, none⟩ v) w.heap.size rb S X := by
  obtain ⟨v0, h1, h2, h3⟩ := h
  have hz := lt_of_obj h1
  have ob := (obj_below hb hz).trans h1
  refine ⟨(Keeps.of_below (F := fun n => n = rb) hb).setCell (a := ⟨rb, 2, none⟩) (.inl rfl) _, v, by rw [obj_setCell_at _ ob, refC_set], ho.keeps fun g hg => ?_⟩
  have h4 := ho.1.lt g hg
  exact obj_setCell_ne _ _ _ _ (by simp only; omega)
theorem push32 {ops : Array Oper} {rest : List Oper} {o : Oper} {a : Act} {w : World} {Q : Exit → Act → World → Prop} (hgd : o.guard = none) (s x : Operand) (ho : o.op = .call { callee := .builtin .append, args := #[s, x], argTypes := #[59, 59] })
    (base : Nat) (v : Value) (xs : List AskD) (y : AskD) (hs : a.eval s = v) (hown : OwnS w base 66 3 akL v xs) (g : Nat) (hx : a.eval x = .slice (some ⟨g, 0, none⟩) 1 1) (hg : obj w g = some (.cells #[.int .i64 y.id, .int .i64 y.node, .int .i64 y.kind] 66 (0, 0)))
    (hlen : xs.length ≤ 1048576) (hbase : base ≤ w.heap.size)
    (h : ∀ v' w', OwnS w' base 66 3 akL v' (xs ++ [y]) → Below base w w' → (∀ k, k < w.heap.size → v.ownBlock ≠ some k → obj w' k = obj w k) → wpList Tryz.prog ops Q rest (a.put o.dst v') w') : wpList Tryz.prog ops Q (o :: rest) a w := by
  obtain ⟨i0, hi, hz0, hz1, hz2⟩ := info_parts info32
  exact wpList_push (i := i0) (z := .agg #[.int .i64 0, .int .i64 0, .int .i64 0]) (bytes := 24) Tryz.underlying59 hi hz0 hz1 hz2 (by simp [Value.cells]) (by decide) akL akL_length akL_one hgd s x ho base v xs y hs hown g hx hg hlen (by decide) hbase h
set_option maxRecDepth 100000 in
set_option maxHeartbeats 1000000 in
theorem gone_ref (w : World) (G : Nat → Prop) (rb : Nat) (S : RefD) (W : List AskD) (i : Nat) (h : RefK w G rb S W) (hi : i < W.length) (hlen : W.length ≤ 100000) :
    Calls Tryz.prog 117 #[.pointer (some ⟨rb, 0, none⟩), .int .i64 i] w fun e w' => e = .returned (akV W[i]) ∧ Keeps (fun n => n = rb) w w' ∧ RefIn w' w.heap.size rb S (W.eraseIdx i) := by
  have b1 : Below w.heap.size w ((w.alloc (.cells #[.int .i64 0, .int .i64 0, .int .i64 0] 66)).alloc (.cells (akL W[i]).toArray 66)) := ((Below.refl _ w).alloc (Nat.le_refl _) _).alloc (by simp) _
  have hr := h.below b1
  have HR := Lib.hid hr
  obtain ⟨v, h1, h2, h3⟩ := h
  obtain ⟨oa, cap, rfl, g1, g2, g3⟩ := h2.slIn akL_length
  unfold maxLen at g2
  have H1 := Lib.hid ((obj_below b1 (lt_of_obj h1)).trans h1)
  have H3 := Lib.hid ((h2.below b1).slIn akL_length)
  have hz := lt_of_obj h1
  have c0w : w.cell? ⟨rb, 2, none⟩ = some (.slice oa W.length cap) := cell_at h1 2
  obtain ⟨b, off, hoa, hbb, hrow⟩ := g3 (by omega)
  subst hoa
  have hs0 := hrow i hi
  have B1 := Lib.hid b1
  have hrow51 := hide_row51
  have HEND : Hid ((W.take W.length).eraseIdx i = W.eraseIdx i) := Lib.hid (by rw [List.take_length])
  have HC := Lib.hid (show akV W[i] = akV W[i] from rfl)
  have OA : Hid (obj ((w.alloc (.cells #[.int .i64 0, .int .i64 0, .int .i64 0] 66)).alloc (.cells (akL W[i]).toArray 66)) w.heap.size = some (.cells #[.int .i64 0, .int .i64 0, .int .i64 0] 66 (0, 0))) := Lib.hid ((obj_alloc_past _ _ _ (by simp)).trans (obj_alloc_at _ _ _ rfl))
  have OB : Hid (obj ((w.alloc (.cells #[.int .i64 0, .int .i64 0, .int .i64 0] 66)).alloc (.cells (akL W[i]).toArray 66)) (w.heap.size + 1) = some (.cells (akL W[i]).toArray 66 (0, 0))) := Lib.hid (obj_alloc_at _ _ _ (by simp))
  clear h1 h2 h3 g3 b1 hr hrow
  generalize hwi : W[i] = wi at *
  simp only [akL] at *
  go_enter Tryz.func117, Tryz.ntmps117
  go_wp2
  have hsz1 : ((w.alloc (.cells #[.int .i64 0, .int .i64 0, .int .i64 0] 66)).alloc (.cells #[.int .i64 wi.id, .int .i64 wi.node, .int .i64 wi.kind] 66)).heap.size = w.heap.size + 1 + 1 := by simp
  generalize (w.alloc (.cells #[.int .i64 0, .int .i64 0, .int .i64 0] 66)).alloc (.cells #[.int .i64 wi.id, .int .i64 wi.node, .int .i64 wi.kind] 66) = w1 at *
  have hz1 : rb < w1.heap.size := by omega
  go_loopw [6, 7] (fun v6 v7 wr => ∃ k : Nat, k ≤ W.length ∧ v7 = .int .i64 k ∧ Hid (OwnS wr w1.heap.size 66 3 akL v6 ((W.take k).eraseIdx i)) ∧ Hid (Below w1.heap.size w1 wr)) (fun _ i _ => W.length - (intOf i).toNat)
  case atStart => exact ⟨0, Nat.zero_le _, rfl, Lib.hid (by simpa using OwnS.nil _ _ _ _ _), Lib.hid (Below.refl _ _)⟩
  case round =>
    obtain ⟨k, hk, rfl, HO, HB⟩ := hrel
    have ob := (obj_below HB.out hz1).trans H1.out
    have c0 : wr.cell? ⟨rb, 2, none⟩ = some (.slice (some ⟨b, off, none⟩) W.length cap) := cell_at ob 2
    have hzr := lt_of_obj ob
    by_cases hlt : k < W.length
    · obtain ⟨_, _, e3, _, _, q3⟩ := H3.out
      simp only [Value.slice.injEq] at e3
      obtain ⟨rfl, _, rfl⟩ := e3
      obtain ⟨b', off', e4, hbb', hrow⟩ := q3 (by omega)
      simp only [Option.some.injEq, Addr.mk.injEq, and_true] at e4
      obtain ⟨rfl, rfl⟩ := e4
      have hs1 := hrow k hlt
      rw [← obj_below HB.out hbb'] at hs1
      have hbl : b < wr.heap.size := Nat.lt_of_lt_of_le hbb' HB.out.size
      by_cases hki : k = i
      · subst hki
        have hq : ((k : Int) != (k : Int)) = false := by simp
        have HN : Hid (OwnS wr w1.heap.size 66 3 akL u6 ((W.take (k + 1)).eraseIdx k)) := Lib.hid (by
          have := HO.out
          rw [List.eraseIdx_of_length_le (by simp; omega)] at this
          rw [take_snocA hlt, List.eraseIdx_append_of_length_le (by simp; omega)]
          simpa [show min k W.length = k by omega] using this)
        clear ob hrow hs1 HO q3
        go_wp2
        go_roundw
        case rel => exact ⟨k + 1, by omega, by go_num, HN, HB⟩
        case measure => simp [intOf]; omega
      · have hq : ((k : Int) != (i : Int)) = true := by simp; omega
        have HE : Hid ((W.take (k + 1)).eraseIdx i = (W.take k).eraseIdx i ++ [W[k]]) := Lib.hid (by
          rw [take_snocA hlt]
          by_cases h : i < k
          · rw [List.eraseIdx_append_of_lt_length (by simp; omega)]
          · rw [List.eraseIdx_of_length_le (by simp; omega), List.eraseIdx_of_length_le (by simp; omega)])
        have hln : ((W.take k).eraseIdx i).length ≤ 1048576 := by
          have := List.length_eraseIdx_le (l := W.take k) (i := i)
          simp at this
          omega
        generalize W[k] = x at *
        have hbase : w1.heap.size ≤ (wr.alloc (.cells #[.int .i64 x.id, .int .i64 x.node, .int .i64 x.kind] 66)).heap.size := by have := HB.out.size; simp; omega
        clear ob hrow q3
        go_wp2_with (at_builtin; refine push32 rfl _ _ rfl w1.heap.size _ _ x rfl (HO.out.alloc _) wr.heap.size rfl (obj_alloc_at _ _ _ rfl) hln hbase ?_; intro v' w5 hown5 hb5 _)
        have HB5 := Lib.hid ((HB.out.alloc (by have := HB.out.size; omega) (.cells #[.int .i64 x.id, .int .i64 x.node, .int .i64 x.kind] 66)).trans hb5)
        have HO5 := Lib.hid hown5
        rw [← HE.out] at HO5
        clear hown5 hb5
        go_wp2
        go_roundw
        case rel => exact ⟨k + 1, by omega, by go_num, HO5, HB5⟩
        case measure => simp [intOf]; omega
    · have hk' : k = W.length := by omega
      subst hk'
      obtain ⟨oz, cz, e6⟩ := HO.out.slice
      subst e6
      have HX := Lib.hid (HR.out.set_list HB.out HO.out)
      rw [HEND.out] at HX
      have fz := frozen_at ob
      have oa := (obj_below HB.out (lt_of_obj OA.out)).trans OA.out
      have obb := (obj_below HB.out (lt_of_obj OB.out)).trans OB.out
      have za := lt_of_obj oa
      have zb := lt_of_obj obb
      have na : w.heap.size ≠ rb := by omega
      have nb : w.heap.size + 1 ≠ rb := by omega
      clear ob HO
      go_wp2
      have oo : obj (putObj (wr.setCell ⟨rb, 2, none⟩ (.slice oz (W.eraseIdx i).length cz)) w.heap.size (.cells #[.int .i64 wi.id, .int .i64 wi.node, .int .i64 wi.kind] 66)) w.heap.size = some (.cells #[.int .i64 wi.id, .int .i64 wi.node, .int .i64 wi.kind] 66 (0, 0)) := obj_putObj_eq _ _ _ (by simpa using za)
      refine bodyPost_ret (results_cell rfl _ rfl (by rw [run_load32, oo]; rfl)) rfl ?_
      refine ⟨rfl, ?_, (HX.out.2.putNew (by omega) na _).low (by omega)⟩
      exact ⟨HX.out.1.os.trans B1.out.os, HX.out.1.tape.trans B1.out.tape, HX.out.1.output.trans B1.out.output, by have := HX.out.1.size; rw [size_putObj]; omega, fun n hn hne => (obj_putObj_ne _ _ _ _ (by omega)).trans ((HX.out.1.block n (by omega) hne).trans (obj_below B1.out hn))⟩
end Go.Proofs.YtagpclgappcnbaaGreat.Ak
namespace Go.Proofs.YtagpclgappcnbaaGreat.Ak
open Go.RowKit

theorem ref_reply_any (k : Int) (w : World) :
    Calls Tryz.prog 116 #[.int .i64 k] w fun e w' => e = .returned (.int .i64 (replyOf k)) ∧ w = w' := by
  go_enter Tryz.func116, Tryz.ntmps116
  go_wp2
  all_goals (go_ret; refine ⟨?_, rfl⟩; unfold replyOf; simp_all [wrap64])

theorem ref_reply_same (k : Int) (w : World) : Calls Tryz.prog 116 #[.int .i64 k] w fun e w' => e = .returned (.int .i64 (replyOf k)) ∧ w' = w :=
  (ref_reply_any k w).mono fun _ _ ⟨he, hw⟩ => ⟨he, hw.symm⟩
theorem below_drewN {B : Nat} {a w : World} (h : Below B a w) (n : Nat) : Below B a (w.drewN n) := ⟨h.os, h.tape, h.output, h.size, h.block⟩

theorem RefK.upd {w : World} {G : Nat → Prop} {rb : Nat} {S S' : RefD} {W : List AskD} {i : Nat} {u : Value} (h : RefK w G rb S W) (hc : ∀ v, (refC S v).setIfInBounds i u = refC S' v) : RefK (w.setCell ⟨rb, i, none⟩ u) G rb S' W ∧ Keeps (fun n => n = rb) w (w.setCell ⟨rb, i, none⟩ u) := by
  obtain ⟨v, h1, h2, h3⟩ := h
  exact ⟨⟨v, by rw [obj_setCell_at _ h1, hc], h2.keeps fun g hg => obj_setCell_ne _ _ _ _ (fun e => h2.ne h1 (fun cur e' => by cases e') (by rw [hg, e])), h3⟩, (Keeps.refl (fun n => n = rb) _).setCell (a := ⟨rb, i, none⟩) (.inl rfl) _⟩
theorem RefIn.upd {w : World} {B rb : Nat} {S S' : RefD} {W : List AskD} {i : Nat} {u : Value} (h : RefIn w B rb S W) (hc : ∀ v, (refC S v).setIfInBounds i u = refC S' v) : RefIn (w.setCell ⟨rb, i, none⟩ u) B rb S' W ∧ Keeps (fun n => n = rb) w (w.setCell ⟨rb, i, none⟩ u) := by
  obtain ⟨v, h1, h2⟩ := h
  exact ⟨⟨v, by rw [obj_setCell_at _ h1, hc], h2.keeps fun g hg => obj_setCell_ne _ _ _ _ (fun e => h2.ne h1 (fun cur e' => by cases e') (by rw [hg, e]))⟩, (Keeps.refl (fun n => n = rb) _).setCell (a := ⟨rb, i, none⟩) (.inl rfl) _⟩
/-! ### New -/
set_option maxRecDepth 100000 in
theorem ref_new (w : World) (room last : Int) (h : 1 ≤ room ∧ room ≤ 1024 ∧ 0 ≤ last ∧ last ≤ 2147483647) :
    Calls Tryz.prog 27 #[.int .i64 room, .int .i64 last] w fun e w' => e = .returned (.tuple #[.pointer (some ⟨w.heap.size, 0, none⟩), .int .i64 0]) ∧ w' = w.alloc (.cells (refC ⟨room, last, 0, 0, 0⟩ (.slice none 0 0)) 103) := by
  obtain ⟨h1, h2, h3, h4⟩ := h
  have d1 : ¬ room < 1 := by omega
  have d2 : ¬ 1024 < room := by omega
  have d3 : ¬ last < 0 := by omega
  have d4 : ¬ 2147483647 < last := by omega
  go_enter Tryz.func27, Tryz.ntmps27
  go_wp2
  go_ret2
  exact ⟨rfl, rfl⟩
set_option maxRecDepth 100000 in
theorem ref_new_no (w : World) (room last : Int) (h : room < 1 ∨ 1024 < room ∨ last < 0 ∨ 2147483647 < last) :
    Calls Tryz.prog 27 #[.int .i64 room, .int .i64 last] w fun e w' => e = .returned (.tuple #[.pointer none, .int .i64 1]) ∧ w' = w := by
  by_cases d1 : room < 1
  · clear h
    go_enter Tryz.func27, Tryz.ntmps27
    go_wp2
    go_ret2
    exact ⟨rfl, rfl⟩
  by_cases d2 : 1024 < room
  · clear h
    go_enter Tryz.func27, Tryz.ntmps27
    go_wp2
    go_ret2
    exact ⟨rfl, rfl⟩
  by_cases d3 : last < 0
  · clear h
    go_enter Tryz.func27, Tryz.ntmps27
    go_wp2
    go_ret2
    exact ⟨rfl, rfl⟩
  · have d4 : 2147483647 < last := by omega
    clear h
    go_enter Tryz.func27, Tryz.ntmps27
    go_wp2
    go_ret2
    exact ⟨rfl, rfl⟩
/-! ### Ask -/
set_option maxRecDepth 100000 in
set_option maxHeartbeats 1000000 in
theorem ref_ask_arg (w : World) (rb : Nat) (node kind : Int) (ha : node < 0 ∨ 32 ≤ node ∨ replyOf kind = 0) :
    Calls Tryz.prog 73 #[.pointer (some ⟨rb, 0, none⟩), .int .i64 node, .int .i64 kind] w fun e w' => e = .returned (.tuple #[.int .i64 0, .int .i64 1]) ∧ w' = w := by
  have HR := fun w => Lib.hid (ref_reply_same kind w)
  by_cases h1 : node < 0
  · clear ha
    go_enter Tryz.func73, Tryz.ntmps73
    go_wp2
    go_ret2
    exact ⟨rfl, rfl⟩
  by_cases h2 : 32 ≤ node
  · clear ha
    go_enter Tryz.func73, Tryz.ntmps73
    go_wp2
    go_ret2
    exact ⟨rfl, rfl⟩
  · have h3 : replyOf kind = 0 := by omega
    rw [h3] at HR
    clear ha
    go_enter Tryz.func73, Tryz.ntmps73
    go_wp2_with fail
    refine (HR _).out.mono ?_
    rintro e w1 ⟨rfl, rfl⟩
    go_wp2
    go_ret2
    exact ⟨rfl, rfl⟩
set_option maxRecDepth 100000 in
set_option maxHeartbeats 1000000 in
theorem ref_ask_full (w : World) (G : Nat → Prop) (rb : Nat) (S : RefD) (W : List AskD) (node kind : Int) (h : RefK w G rb S W) (h1 : 0 ≤ node) (h2 : node < 32) (h3 : (replyOf kind == 0) = false) (h4 : S.room ≤ W.length ∨ 2147483647 ≤ S.last) :
    Calls Tryz.prog 73 #[.pointer (some ⟨rb, 0, none⟩), .int .i64 node, .int .i64 kind] w fun e w' => e = .returned (.tuple #[.int .i64 0, .int .i64 6]) ∧ Below w.heap.size w w' := by
  have HR := fun w => Lib.hid (ref_reply_same kind w)
  obtain ⟨v, g1, g2, _⟩ := h
  obtain ⟨oa, cap, rfl⟩ := g2.slice
  have c0 : w.cell? ⟨rb, 0, none⟩ = some (.int .i64 S.room) := cell_at g1 0
  have c1 : w.cell? ⟨rb, 1, none⟩ = some (.int .i64 S.last) := cell_at g1 1
  have c2 : w.cell? ⟨rb, 2, none⟩ = some (.slice oa W.length cap) := cell_at g1 2
  have hz := lt_of_obj g1
  have d1 : ¬ node < 0 := by omega
  have d2 : ¬ 32 ≤ node := by omega
  generalize replyOf kind = r at *
  clear g1 g2
  by_cases h5 : S.room ≤ W.length
  · have h6 : decide (S.room ≤ (W.length : Int)) = true := by simpa using h5
    clear h4
    go_enter Tryz.func73, Tryz.ntmps73
    go_wp2_with fail
    refine (HR _).out.mono ?_
    rintro e w1 ⟨rfl, rfl⟩
    go_wp2
    go_quiet (fail)
    go_wp2
    go_ret2
    refine ⟨rfl, ?_⟩
    exact below_drewN (Below.refl _ _) _
  · have h6 : decide (S.room ≤ (W.length : Int)) = false := by simpa using h5
    have h7 : decide (2147483647 ≤ S.last) = true := by simp; omega
    clear h4
    go_enter Tryz.func73, Tryz.ntmps73
    go_wp2_with fail
    refine (HR _).out.mono ?_
    rintro e w1 ⟨rfl, rfl⟩
    go_wp2
    go_quiet (fail)
    go_wp2
    go_ret2
    refine ⟨rfl, ?_⟩
    exact below_drewN (Below.refl _ _) _
end Go.Proofs.YtagpclgappcnbaaGreat.Ak
namespace Go.Proofs.YtagpclgappcnbaaGreat.Ak
open Go.RowKit

theorem step51 {ops : Array Oper} {o : Oper} {a : Act} {w : World} {Q : Exit → Act → World → Prop} {K : Act → World → Prop} {Z : Prop} (hgd : o.guard = none) (s x : Operand) (ho : o.op = .call { callee := .builtin .append, args := #[s, x], argTypes := #[59, 59] })
    (base : Nat) (v : Value) (xs ys : List AskD) (hs : a.eval s = v) (hown : OwnS w base 66 3 akL v xs) (sv : Value) (hx : a.eval x = sv) (hsl : SlIn w sv 3 akL ys) (hlen : xs.length + ys.length ≤ 1048577) (hbase : base ≤ w.heap.size)
    (h : ∀ v' w', OwnS w' base 66 3 akL v' (xs ++ ys) → Below base w w' → (∀ k, k < w.heap.size → v.ownBlock ≠ some k → obj w' k = obj w k) → K (a.put o.dst v') w') : if Region.wanted o (yielded ops a.tmps) = true then Oper.wp Tryz.prog o a w K Q else Z := by
  obtain ⟨i0, hi, hz0, hz1, hz2⟩ := info_parts info32
  exact step_pushAll (z := .agg #[.int .i64 0, .int .i64 0, .int .i64 0]) (bytes := 24) Tryz.underlying59 hi hz0 hz1 hz2 (by simp [Value.cells]) (by decide) akL_length akL_one hgd s x ho base v xs ys hs hown sv hx hsl hlen (by decide) hbase h
set_option maxRecDepth 100000 in
set_option maxHeartbeats 4000000 in
theorem ref_ask_ok (w : World) (G : Nat → Prop) (rb : Nat) (S : RefD) (W : List AskD) (node kind : Int) (h : RefK w G rb S W) (h1 : 0 ≤ node) (h2 : node < 32) (h3 : (replyOf kind == 0) = false) (h4 : (W.length : Int) < S.room) (h5 : S.last < 2147483647) (h6 : 0 ≤ S.last) (ha : 0 ≤ S.asked) (ha' : S.asked < 4611686018427387904) (hlen : W.length ≤ 100000) :
    Calls Tryz.prog 73 #[.pointer (some ⟨rb, 0, none⟩), .int .i64 node, .int .i64 kind] w fun e w' => e = .returned (.tuple #[.int .i64 (S.last + 1), .int .i64 0]) ∧ RefIn w' w.heap.size rb { S with last := S.last + 1, asked := S.asked + 1 } (W ++ [⟨S.last + 1, node, kind⟩]) ∧ Keeps (fun n => n = rb) w w' := by
  have HR := fun w => Lib.hid (ref_reply_same kind w)
  have HU := Lib.hid (fun n => (h.below (below_drewN (Below.refl _ w) n)).upd (S' := { S with last := S.last + 1 }) (i := 1) (u := .int .i64 (S.last + 1)) (fun _ => rfl))
  have HSZ := Lib.hid (fun n => (rfl : (w.drewN n).heap.size = w.heap.size))
  obtain ⟨v, g1, g2, _⟩ := h
  have HSL := Lib.hid (g2.slIn akL_length)
  obtain ⟨oa, cap, rfl⟩ := g2.slice
  have c0 : w.cell? ⟨rb, 0, none⟩ = some (.int .i64 S.room) := cell_at g1 0
  have c1 : w.cell? ⟨rb, 1, none⟩ = some (.int .i64 S.last) := cell_at g1 1
  have c2 : w.cell? ⟨rb, 2, none⟩ = some (.slice oa W.length cap) := cell_at g1 2
  have fz := frozen_at g1
  have hz := lt_of_obj g1
  have d1 : ¬ node < 0 := by omega
  have d2 : ¬ 32 ≤ node := by omega
  have d6 : decide (S.room ≤ (W.length : Int)) = false := by simp; omega
  have d7 : decide (2147483647 ≤ S.last) = false := by simp; omega
  have hw : IntKind.i64.wrap (S.last + 1) = S.last + 1 := by simp [IntKind.wrap, IntKind.signed, IntKind.bits]; omega
  generalize replyOf kind = r at *
  have G1 := Lib.hid g1
  clear g1 g2
  go_enter Tryz.func73, Tryz.ntmps73
  go_wp2_with fail
  refine (HR _).out.mono ?_
  rintro e w1 ⟨rfl, hw1⟩
  cases hw1
  go_wp2
  go_quiet (fail)
  go_wp2
  obtain ⟨hr1, hk1⟩ := HU.out nq
  have HK1 := Lib.hid (hk1)
  have hzw1 : ((w.drewN nq).setCell ⟨rb, 1, none⟩ (.int .i64 (S.last + 1))).heap.size = w.heap.size := by simp
  have o1 : obj ((w.drewN nq).setCell ⟨rb, 1, none⟩ (.int .i64 (S.last + 1))) rb = some (.cells (refC { S with last := S.last + 1 } (.slice oa W.length cap)) 103 (0, 0)) := obj_setCell_at (b := rb) (i := 1) _ G1.out
  obtain ⟨v1, q1, q2, _⟩ := hr1
  rw [o1] at q1
  have ev : v1 = .slice oa W.length cap := by
    simp only [Option.some.injEq, Obj.cells.injEq, refC] at q1
    have := congrArg (fun a : Array Value => a[2]?) q1.1
    simp at this
    exact this.symm
  subst ev
  have HS1 := Lib.hid (q2.slIn akL_length)
  have O1 := Lib.hid o1
  clear hk1 q1 q2 c0 c1 c2 fz G1 HU
  generalize (w.drewN nq).setCell ⟨rb, 1, none⟩ (.int .i64 (S.last + 1)) = w1 at *
  have c1 : w1.cell? ⟨rb, 1, none⟩ = some (.int .i64 (S.last + 1)) := cell_at o1 1
  have c2 : w1.cell? ⟨rb, 2, none⟩ = some (.slice oa W.length cap) := cell_at o1 2
  have fz := frozen_at o1
  have hz1 := lt_of_obj o1
  have HBQ := Lib.hid (fun q => below_drewN (Below.refl w1.heap.size w1) q)
  go_region_law (first
    | (refine step51 rfl (.const (.slice none 0 0)) (.tmp 47) rfl w1.heap.size (.slice none 0 0) [] W (by simp [Act.eval, Act.put]) (OwnS.nil _ _ _ _ _) _ (by simp [Act.eval, Act.put]) (HS1.out.below (HBQ.out _)) (by simp; omega) (Nat.le_refl _) ?_; intro v2 w3 r1 r2 r3; have R1 := Lib.hid r1; have R2 := Lib.hid ((HBQ.out _).trans r2); have o3 := (obj_below R2.out hz1).trans O1.out; have c13 : w3.cell? ⟨rb, 1, none⟩ = some (.int .i64 (S.last + 1)) := cell_at o3 1; have hz3 := lt_of_obj o3; have fz3 := frozen_at o3; clear r1 r2 r3)
    | (refine step51 rfl (.tmp 48) (.tmp 56) rfl w1.heap.size v2 ([] ++ W) [⟨S.last + 1, node, kind⟩] (by simp [Act.eval, Act.put]) (R1.out.alloc _) _ (by simp [Act.eval, Act.put]) (SlIn.one akL_length ⟨S.last + 1, node, kind⟩ (obj_alloc_at _ _ _ rfl)) (by simp; omega) (by have := R2.out.size; simp; omega) ?_; intro v4 w5 r1 r2 r3; have R3 := Lib.hid r1; have R4 := Lib.hid ((R2.out.alloc R2.out.size _).trans r2); have o5 := (obj_below R4.out hz1).trans O1.out; have hz5 := lt_of_obj o5; have fz5 := frozen_at o5; have c25 : w5.cell? ⟨rb, 2, none⟩ = some (.slice oa W.length cap) := cell_at o5 2; obtain ⟨o5a, c5a, e5⟩ := R3.out.slice; subst e5; clear r1 r2 r3)
    | (refine step51 rfl (.const (.slice none 0 0)) (.tmp 47) rfl (w1.heap.size + 1) (.slice none 0 0) [] W (by simp [Act.eval, Act.put]) (OwnS.nil _ _ _ _ _) _ (by simp [Act.eval, Act.put]) (HS1.out.below (((HBQ.out _).alloc (Nat.le_refl _) (.cells #[.int .i64 (S.last + 1), .int .i64 node, .int .i64 kind] 66)))) (by simp; omega) (by simp) ?_; intro v2 w3 r1 r2 r3; have R1 := Lib.hid r1; have R2 := Lib.hid (((HBQ.out _).alloc (Nat.le_refl _) (.cells #[.int .i64 (S.last + 1), .int .i64 node, .int .i64 kind] 66)).trans (r2.mono (by omega))); have X2 : Hid (obj w3 w1.heap.size = some (.cells #[.int .i64 (S.last + 1), .int .i64 node, .int .i64 kind] 66 (0, 0))) := Lib.hid ((obj_below r2 (by omega)).trans (obj_alloc_at _ _ _ rfl)); have o3 := (obj_below R2.out hz1).trans O1.out; have c13 : w3.cell? ⟨rb, 1, none⟩ = some (.int .i64 (S.last + 1)) := cell_at o3 1; have hz3 := lt_of_obj o3; have fz3 := frozen_at o3; clear r1 r2 r3)
    | (refine step51 rfl (.tmp 48) (.tmp 56) rfl (w1.heap.size + 1) v2 ([] ++ W) [⟨S.last + 1, node, kind⟩] (by simp [Act.eval, Act.put]) R1.out _ (by simp [Act.eval, Act.put]) (SlIn.one akL_length ⟨S.last + 1, node, kind⟩ X2.out) (by simp; omega) (by have := lt_of_obj X2.out; omega) ?_; intro v4 w5 r1 r2 r3; have R3 := Lib.hid (r1.lower (show w1.heap.size ≤ w1.heap.size + 1 by omega)); have R4 := Lib.hid (R2.out.trans (r2.mono (by omega))); have o5 := (obj_below R4.out hz1).trans O1.out; have hz5 := lt_of_obj o5; have fz5 := frozen_at o5; have c25 : w5.cell? ⟨rb, 2, none⟩ = some (.slice oa W.length cap) := cell_at o5 2; obtain ⟨o5a, c5a, e5⟩ := R3.out.slice; subst e5; clear r1 r2 r3))
  all_goals (
    have hl5 : ([] ++ W ++ [⟨S.last + 1, node, kind⟩] : List AskD).length = W.length + 1 := by simp
    have ho5 := R3.out
    rw [hl5] at ho5
    have hw5 : obj (w5.setCell ⟨rb, 2, none⟩ (.slice o5a (W.length + 1) c5a)) rb = some (.cells (refC { S with last := S.last + 1 } (.slice o5a (W.length + 1) c5a)) 103 (0, 0)) := obj_setCell_at _ o5
    have hI : RefIn (w5.setCell ⟨rb, 2, none⟩ (.slice o5a (W.length + 1) c5a)) w.heap.size rb { S with last := S.last + 1 } (W ++ [⟨S.last + 1, node, kind⟩]) := by
      refine ⟨_, hw5, ?_⟩
      have h7 := ho5.keeps (W := w5.setCell ⟨rb, 2, none⟩ (.slice o5a (W.length + 1) c5a)) (fun g hg => obj_setCell_ne _ _ _ _ (fun e => ho5.ne o5 (fun cur e' => by cases e') (by rw [hg, e])))
      rw [hzw1] at h7
      simpa using h7
    have HU5 := Lib.hid (hI.upd (S' := { S with last := S.last + 1, asked := S.asked + 1 }) (i := 3) (u := .int .i64 (S.asked + 1)) (fun _ => rfl))
    have HK5 : Hid (Keeps (fun n => n = rb) w (w5.setCell ⟨rb, 2, none⟩ (.slice o5a (W.length + 1) c5a))) := Lib.hid (((Keeps.of_below (F := fun n => n = rb) (below_drewN (Below.refl _ w) nq)).trans (HK1.out.trans (Keeps.of_below R4.out))).setCell (a := ⟨rb, 2, none⟩) (.inl rfl) _)
    have hwa : IntKind.i64.wrap (S.asked + 1) = S.asked + 1 := by simp [IntKind.wrap, IntKind.signed, IntKind.bits]; omega
    clear ho5 hI c25 fz5 o5
    generalize w5.setCell ⟨rb, 2, none⟩ (.slice o5a (W.length + 1) c5a) = w6 at *
    have e1 : w6.cell? ⟨rb, 1, none⟩ = some (.int .i64 (S.last + 1)) := cell_at hw5 1
    have e3 : w6.cell? ⟨rb, 3, none⟩ = some (.int .i64 S.asked) := cell_at hw5 3
    have fz6 := frozen_at hw5
    have hz6 := lt_of_obj hw5
    go_wp2
    go_ret2
    exact ⟨rfl, HU5.out.1, HK5.out.trans HU5.out.2⟩)
end Go.Proofs.YtagpclgappcnbaaGreat.Ak
namespace Go.Proofs.YtagpclgappcnbaaGreat.Ak
open Go.RowKit

theorem RefIn.refK {w : World} {B rb : Nat} {S : RefD} {W : List AskD} (h : RefIn w B rb S W) : RefK w (fun _ => True) rb S W := by
  obtain ⟨v, h1, h2⟩ := h
  exact ⟨v, h1, h2.lower (Nat.zero_le _), fun _ _ => trivial⟩
theorem findA_neg {W : List AskD} {k : Int} (h : ∀ a ∈ W, a.id ≠ k) : findA W k = -1 := by
  unfold findA
  rw [if_neg]
  rw [List.any_eq_true]
  rintro ⟨a, ha, he⟩
  exact h a ha (by simpa using he)
theorem findA_pos {W : List AskD} {i : Nat} (hi : i < W.length) (hn : (W.map (·.id)).Nodup) : findA W W[i].id = i := by
  refine findA_hit hi (fun j hj hlt => ?_) (by simp)
  rw [beq_eq_false_iff_ne]
  intro e
  have h1 : (W.map (·.id))[j]'(by simpa using hj) = (W.map (·.id))[i]'(by simpa using hi) := by simpa using e
  exact List.pairwise_iff_getElem.1 hn j i (by simpa using hj) (by simpa using hi) hlt h1
/-! ### Get -/
set_option maxRecDepth 100000 in
set_option maxHeartbeats 1000000 in
theorem ref_get_none (w : World) (G : Nat → Prop) (rb : Nat) (S : RefD) (W : List AskD) (q : Int) (h : RefK w G rb S W) (hq : ∀ a ∈ W, a.id ≠ q) :
    Calls Tryz.prog 39 #[.pointer (some ⟨rb, 0, none⟩), .int .i64 q] w fun e w' => e = .returned (.tuple #[akV ⟨0, 0, 0⟩, .int .i64 4]) ∧ Below w.heap.size w w' := by
  have b1 : Below w.heap.size w (w.alloc (.cells #[.int .i64 0, .int .i64 0, .int .i64 0] 66)) := (Below.refl _ w).alloc (Nat.le_refl _) _
  have o1 : obj (w.alloc (.cells #[.int .i64 0, .int .i64 0, .int .i64 0] 66)) w.heap.size = some (.cells #[.int .i64 0, .int .i64 0, .int .i64 0] 66 (0, 0)) := obj_alloc_at _ _ _ rfl
  have HF := Lib.hid (find_ref _ G rb S W q (h.below b1))
  rw [findA_neg hq] at HF
  clear h hq
  go_enter Tryz.func39, Tryz.ntmps39
  go_wp2_with fail
  refine HF.out.mono ?_
  rintro e w2 ⟨rfl, b2⟩
  have o2 := (obj_below b2 (lt_of_obj o1)).trans o1
  have z2 := lt_of_obj o2
  have B2 := Lib.hid (b1.trans (b2.mono b1.size))
  clear b1 b2 o1
  go_wp2
  have oo : obj (putObj w2 w.heap.size (.cells #[.int .i64 0, .int .i64 0, .int .i64 0] 66)) w.heap.size = some (.cells #[.int .i64 0, .int .i64 0, .int .i64 0] 66 (0, 0)) := obj_putObj_eq _ _ _ z2
  refine bodyPost_ret (results_cell_tmp rfl _ rfl (by rw [run_load32, oo]; rfl)) rfl ?_
  exact ⟨rfl, below_putObj B2.out (Nat.le_refl _) _⟩
set_option maxRecDepth 100000 in
set_option maxHeartbeats 1000000 in
theorem ref_get (w : World) (G : Nat → Prop) (rb : Nat) (S : RefD) (W : List AskD) (i : Nat) (hi : i < W.length) (h : RefK w G rb S W) (hn : (W.map (·.id)).Nodup) :
    Calls Tryz.prog 39 #[.pointer (some ⟨rb, 0, none⟩), .int .i64 W[i].id] w fun e w' => e = .returned (.tuple #[akV W[i], .int .i64 0]) ∧ Below w.heap.size w w' := by
  have b1 : Below w.heap.size w (w.alloc (.cells #[.int .i64 0, .int .i64 0, .int .i64 0] 66)) := (Below.refl _ w).alloc (Nat.le_refl _) _
  have o1 : obj (w.alloc (.cells #[.int .i64 0, .int .i64 0, .int .i64 0] 66)) w.heap.size = some (.cells #[.int .i64 0, .int .i64 0, .int .i64 0] 66 (0, 0)) := obj_alloc_at _ _ _ rfl
  have HF := Lib.hid (find_ref _ G rb S W W[i].id (h.below b1))
  rw [findA_pos hi hn] at HF
  obtain ⟨v, h1, h2, _⟩ := h.below b1
  obtain ⟨oa, cap, rfl, g1, g2, g3⟩ := h2.slIn akL_length
  unfold maxLen at g2
  obtain ⟨b, off, rfl, hbb, hrow⟩ := g3 (by omega)
  have hs0 := Lib.hid (hrow i hi)
  have H1 := Lib.hid h1
  clear h hn h1 h2 g3 hrow
  generalize W[i] = x at *
  go_enter Tryz.func39, Tryz.ntmps39
  go_wp2_with fail
  generalize w.alloc (.cells #[.int .i64 0, .int .i64 0, .int .i64 0] 66) = w1 at *
  refine HF.out.mono ?_
  rintro e w2 ⟨rfl, b2⟩
  have o2 := (obj_below b2 (lt_of_obj o1)).trans o1
  have z2 := lt_of_obj o2
  have B2 := Lib.hid (b1.trans (b2.mono b1.size))
  have ob := (obj_below b2 (lt_of_obj H1.out)).trans H1.out
  have c2 : w2.cell? ⟨rb, 2, none⟩ = some (.slice (some ⟨b, off, none⟩) W.length cap) := cell_at ob 2
  have zr := lt_of_obj ob
  have hs2 := hs0.out
  rw [← obj_below b2 hbb] at hs2
  have hb2 : b < w2.heap.size := Nat.lt_of_lt_of_le hbb b2.size
  simp only [akL] at hs2
  clear b1 b2 o1 ob
  go_wp2
  have oo : obj (putObj w2 w.heap.size (.cells #[.int .i64 x.id, .int .i64 x.node, .int .i64 x.kind] 66)) w.heap.size = some (.cells #[.int .i64 x.id, .int .i64 x.node, .int .i64 x.kind] 66 (0, 0)) := obj_putObj_eq _ _ _ z2
  refine bodyPost_ret (results_cell_tmp rfl _ rfl (by rw [run_load32, oo]; rfl)) rfl ?_
  exact ⟨rfl, below_putObj B2.out (Nat.le_refl _) _⟩
/-! ### Of -/
def cntN (nd : Int) (W : List AskD) : Nat := W.countP (fun a => a.node == nd)
/-! ### Expire -/
set_option maxRecDepth 100000 in
set_option maxHeartbeats 1000000 in
theorem ref_expire_none (w : World) (G : Nat → Prop) (rb : Nat) (S : RefD) (W : List AskD) (q : Int) (h : RefK w G rb S W) (hq : ∀ a ∈ W, a.id ≠ q) :
    Calls Tryz.prog 74 #[.pointer (some ⟨rb, 0, none⟩), .int .i64 q] w fun e w' => e = .returned (.tuple #[akV ⟨0, 0, 0⟩, .int .i64 4]) ∧ Below w.heap.size w w' := by
  have b1 : Below w.heap.size w (w.alloc (.cells #[.int .i64 0, .int .i64 0, .int .i64 0] 66)) := (Below.refl _ w).alloc (Nat.le_refl _) _
  have o1 : obj (w.alloc (.cells #[.int .i64 0, .int .i64 0, .int .i64 0] 66)) w.heap.size = some (.cells #[.int .i64 0, .int .i64 0, .int .i64 0] 66 (0, 0)) := obj_alloc_at _ _ _ rfl
  have HF := Lib.hid (find_ref _ G rb S W q (h.below b1))
  rw [findA_neg hq] at HF
  clear h hq
  go_enter Tryz.func74, Tryz.ntmps74
  go_wp2_with fail
  refine HF.out.mono ?_
  rintro e w2 ⟨rfl, b2⟩
  have o2 := (obj_below b2 (lt_of_obj o1)).trans o1
  have z2 := lt_of_obj o2
  have B2 := Lib.hid (b1.trans (b2.mono b1.size))
  clear b1 b2 o1
  go_wp2
  have oo : obj (putObj w2 w.heap.size (.cells #[.int .i64 0, .int .i64 0, .int .i64 0] 66)) w.heap.size = some (.cells #[.int .i64 0, .int .i64 0, .int .i64 0] 66 (0, 0)) := obj_putObj_eq _ _ _ z2
  refine bodyPost_ret (results_cell_tmp rfl _ rfl (by rw [run_load32, oo]; rfl)) rfl ?_
  exact ⟨rfl, below_putObj B2.out (Nat.le_refl _) _⟩
set_option maxRecDepth 100000 in
set_option maxHeartbeats 2000000 in
theorem ref_expire (w : World) (G : Nat → Prop) (rb : Nat) (S : RefD) (W : List AskD) (i : Nat) (hi : i < W.length) (h : RefK w G rb S W) (hn : (W.map (·.id)).Nodup) (hlen : W.length ≤ 100000) (h0 : 0 ≤ S.exp) (h0' : S.exp < 4611686018427387904) :
    Calls Tryz.prog 74 #[.pointer (some ⟨rb, 0, none⟩), .int .i64 W[i].id] w fun e w' => e = .returned (.tuple #[akV W[i], .int .i64 0]) ∧ Keeps (fun n => n = rb) w w' ∧ RefIn w' w.heap.size rb { S with exp := S.exp + 1 } (W.eraseIdx i) := by
  have b1 : Below w.heap.size w (w.alloc (.cells #[.int .i64 0, .int .i64 0, .int .i64 0] 66)) := (Below.refl _ w).alloc (Nat.le_refl _) _
  have o1 : obj (w.alloc (.cells #[.int .i64 0, .int .i64 0, .int .i64 0] 66)) w.heap.size = some (.cells #[.int .i64 0, .int .i64 0, .int .i64 0] 66 (0, 0)) := obj_alloc_at _ _ _ rfl
  have hr1 := h.below b1
  have HF := Lib.hid (find_ref _ G rb S W W[i].id hr1)
  rw [findA_pos hi hn] at HF
  have hlt := h.lt
  have HR1 := Lib.hid hr1
  have HG := fun W' (hr : RefK W' G rb { S with exp := S.exp + 1 } W) => Lib.hid (gone_ref W' G rb _ W i hr hi hlen)
  have hw : IntKind.i64.wrap (S.exp + 1) = S.exp + 1 := by simp [IntKind.wrap, IntKind.signed, IntKind.bits]; omega
  clear h hn hr1
  generalize W[i] = x at *
  go_enter Tryz.func74, Tryz.ntmps74
  go_wp2_with fail
  generalize w.alloc (.cells #[.int .i64 0, .int .i64 0, .int .i64 0] 66) = w1 at *
  refine HF.out.mono ?_
  rintro e w2 ⟨rfl, b2⟩
  have o2 := (obj_below b2 (lt_of_obj o1)).trans o1
  have hr2 := HR1.out.below b2
  have HU := Lib.hid (hr2.upd (S' := { S with exp := S.exp + 1 }) (i := 5) (u := .int .i64 (S.exp + 1)) (fun _ => rfl))
  have B2 := Lib.hid (b1.trans (b2.mono b1.size))
  obtain ⟨v, q1, _, _⟩ := hr2
  have c5 : w2.cell? ⟨rb, 5, none⟩ = some (.int .i64 S.exp) := cell_at q1 5
  have fz := frozen_at q1
  have zr := lt_of_obj q1
  have O2 := Lib.hid o2
  clear b1 b2 o1 q1 o2
  go_wp2_with fail
  refine (HG _ HU.out.1).out.mono ?_
  have o3 : obj (w2.setCell ⟨rb, 5, none⟩ (.int .i64 (S.exp + 1))) w.heap.size = some (.cells #[.int .i64 0, .int .i64 0, .int .i64 0] 66 (0, 0)) := (obj_setCell_ne _ _ _ _ (by simp only; omega)).trans O2.out
  have hzw3 : (w2.setCell ⟨rb, 5, none⟩ (.int .i64 (S.exp + 1))).heap.size = w2.heap.size := by simp
  have K3 := Lib.hid ((Keeps.of_below (F := fun n => n = rb) B2.out).trans HU.out.2)
  generalize w2.setCell ⟨rb, 5, none⟩ (.int .i64 (S.exp + 1)) = w3 at *
  rintro e w4 ⟨rfl, k4, r4⟩
  have zz := lt_of_obj o3
  have o4 := (k4.block _ zz (by omega)).trans o3
  have z4 := lt_of_obj o4
  have K4 := Lib.hid (K3.out.trans k4)
  have R4 := Lib.hid r4
  clear k4 r4
  go_wp2
  have oo : obj (putObj w4 w.heap.size (.cells #[.int .i64 x.id, .int .i64 x.node, .int .i64 x.kind] 66)) w.heap.size = some (.cells #[.int .i64 x.id, .int .i64 x.node, .int .i64 x.kind] 66 (0, 0)) := obj_putObj_eq _ _ _ z4
  refine bodyPost_ret (results_cell_tmp rfl _ rfl (by rw [run_load32, oo]; rfl)) rfl ?_
  exact ⟨rfl, ⟨K4.out.os, K4.out.tape, K4.out.output, by rw [size_putObj]; exact K4.out.size, fun n hn hne => (obj_putObj_ne _ _ _ _ (by omega)).trans (K4.out.block n hn hne)⟩, (R4.out.putNew zz (by omega) _).low (by omega)⟩
/-! ### Answer -/
set_option maxRecDepth 100000 in
set_option maxHeartbeats 1000000 in
theorem ref_answer_none (w : World) (G : Nat → Prop) (rb : Nat) (S : RefD) (W : List AskD) (nd q kd : Int) (h : RefK w G rb S W) (hq : ∀ a ∈ W, a.id ≠ q) :
    Calls Tryz.prog 76 #[.pointer (some ⟨rb, 0, none⟩), .int .i64 nd, .int .i64 q, .int .i64 kd] w fun e w' => e = .returned (.tuple #[akV ⟨0, 0, 0⟩, .int .i64 4]) ∧ Below w.heap.size w w' := by
  have b1 : Below w.heap.size w (w.alloc (.cells #[.int .i64 0, .int .i64 0, .int .i64 0] 66)) := (Below.refl _ w).alloc (Nat.le_refl _) _
  have o1 : obj (w.alloc (.cells #[.int .i64 0, .int .i64 0, .int .i64 0] 66)) w.heap.size = some (.cells #[.int .i64 0, .int .i64 0, .int .i64 0] 66 (0, 0)) := obj_alloc_at _ _ _ rfl
  have HF := Lib.hid (find_ref _ G rb S W q (h.below b1))
  rw [findA_neg hq] at HF
  clear h hq
  go_enter Tryz.func76, Tryz.ntmps76
  go_wp2_with fail
  refine HF.out.mono ?_
  rintro e w2 ⟨rfl, b2⟩
  have o2 := (obj_below b2 (lt_of_obj o1)).trans o1
  have z2 := lt_of_obj o2
  have B2 := Lib.hid (b1.trans (b2.mono b1.size))
  clear b1 b2 o1
  go_wp2
  have oo : obj (putObj w2 w.heap.size (.cells #[.int .i64 0, .int .i64 0, .int .i64 0] 66)) w.heap.size = some (.cells #[.int .i64 0, .int .i64 0, .int .i64 0] 66 (0, 0)) := obj_putObj_eq _ _ _ z2
  refine bodyPost_ret (results_cell_tmp rfl _ rfl (by rw [run_load32, oo]; rfl)) rfl ?_
  exact ⟨rfl, below_putObj B2.out (Nat.le_refl _) _⟩
set_option maxRecDepth 100000 in
set_option maxHeartbeats 1000000 in
theorem ref_answer_bad (w : World) (G : Nat → Prop) (rb : Nat) (S : RefD) (W : List AskD) (nd kd : Int) (i : Nat) (hi : i < W.length) (h : RefK w G rb S W) (hn : (W.map (·.id)).Nodup) (hne : W[i].node ≠ nd ∨ replyOf W[i].kind ≠ kd) :
    Calls Tryz.prog 76 #[.pointer (some ⟨rb, 0, none⟩), .int .i64 nd, .int .i64 W[i].id, .int .i64 kd] w fun e w' => e = .returned (.tuple #[akV ⟨0, 0, 0⟩, .int .i64 4]) ∧ Below w.heap.size w w' := by
  have b1 : Below w.heap.size w (w.alloc (.cells #[.int .i64 0, .int .i64 0, .int .i64 0] 66)) := (Below.refl _ w).alloc (Nat.le_refl _) _
  have o1 : obj (w.alloc (.cells #[.int .i64 0, .int .i64 0, .int .i64 0] 66)) w.heap.size = some (.cells #[.int .i64 0, .int .i64 0, .int .i64 0] 66 (0, 0)) := obj_alloc_at _ _ _ rfl
  have HF := Lib.hid (find_ref _ G rb S W W[i].id (h.below b1))
  rw [findA_pos hi hn] at HF
  have HRY := fun w => Lib.hid (ref_reply_same W[i].kind w)
  obtain ⟨v0, h10, h20, _⟩ := h.below b1
  have HSL := Lib.hid (h20.slIn akL_length)
  obtain ⟨oa, cap, ev⟩ := h20.slice
  subst ev
  have HB0 := Lib.hid h10
  have hrow0 : Hid (∃ b off, oa = some ⟨b, off, none⟩ ∧ b < (w.alloc (.cells #[.int .i64 0, .int .i64 0, .int .i64 0] 66)).heap.size ∧ subOf (obj (w.alloc (.cells #[.int .i64 0, .int .i64 0, .int .i64 0] 66)) b) (off + i * 3) 3 = some (akL W[i]).toArray) := Lib.hid (by
    obtain ⟨_, _, e, _, _, g3⟩ := HSL.out
    simp only [Value.slice.injEq] at e
    obtain ⟨rfl, _, rfl⟩ := e
    obtain ⟨b, off, e2, e3, e4⟩ := g3 (by omega)
    exact ⟨b, off, e2, e3, e4 i hi⟩)
  clear h hn h10 h20 HSL
  generalize W[i] = x at *
  generalize replyOf x.kind = rk at *
  have hil : (i : Int) < (W.length : Int) := by omega
  go_enter Tryz.func76, Tryz.ntmps76
  go_wp2_with fail
  refine HF.out.mono ?_
  rintro e w2 ⟨rfl, b2⟩
  have o2 := (obj_below b2 (lt_of_obj o1)).trans o1
  have z2 := lt_of_obj o2
  have B2 := Lib.hid (b1.trans (b2.mono b1.size))
  have b2' := b2
  clear b1 b2 o1
  have q1 := (obj_below b2' (lt_of_obj HB0.out)).trans HB0.out
  obtain ⟨b, off, rfl, hbb, hs0⟩ := hrow0.out
  rw [← obj_below b2' hbb] at hs0
  have hb2 : b < w2.heap.size := Nat.lt_of_lt_of_le hbb b2'.size
  simp only [akL] at hs0
  have hx1 := subOf_cell hs0 (j := 1) (by decide)
  have hx2 := subOf_cell hs0 (j := 2) (by decide)
  simp only [List.getElem?_toArray, List.getElem?_cons_zero, List.getElem?_cons_succ] at hx1 hx2
  have c2 : w2.cell? ⟨rb, 2, none⟩ = some (.slice (some ⟨b, off, none⟩) W.length cap) := cell_at q1 2
  have zr := lt_of_obj q1
  clear q1 b2' hs0
  by_cases hd : x.node = nd
  · have hk : rk ≠ kd := hne.resolve_left (fun h => h hd)
    have hq1 : (x.node != nd) = false := by simp [hd]
    have hq2 : (rk != kd) = true := by simpa using hk
    go_wp2_with fail
    refine (HRY _).out.mono ?_
    rintro e w9 ⟨rfl, hw9⟩
    cases hw9
    go_wp2
    have oo : obj (putObj w2 w.heap.size (.cells #[.int .i64 0, .int .i64 0, .int .i64 0] 66)) w.heap.size = some (.cells #[.int .i64 0, .int .i64 0, .int .i64 0] 66 (0, 0)) := obj_putObj_eq _ _ _ z2
    refine bodyPost_ret (results_cell_tmp rfl _ rfl (by rw [run_load32, oo]; rfl)) rfl ?_
    exact ⟨rfl, below_putObj B2.out (Nat.le_refl _) _⟩
  · have hq1 : (x.node != nd) = true := by simpa using hd
    go_wp2
    have oo : obj (putObj w2 w.heap.size (.cells #[.int .i64 0, .int .i64 0, .int .i64 0] 66)) w.heap.size = some (.cells #[.int .i64 0, .int .i64 0, .int .i64 0] 66 (0, 0)) := obj_putObj_eq _ _ _ z2
    refine bodyPost_ret (results_cell_tmp rfl _ rfl (by rw [run_load32, oo]; rfl)) rfl ?_
    exact ⟨rfl, below_putObj B2.out (Nat.le_refl _) _⟩
set_option maxRecDepth 100000 in
set_option maxHeartbeats 2000000 in
theorem ref_answer (w : World) (G : Nat → Prop) (rb : Nat) (S : RefD) (W : List AskD) (kd : Int) (i : Nat) (hi : i < W.length) (h : RefK w G rb S W) (hn : (W.map (·.id)).Nodup) (hlen : W.length ≤ 100000) (hk : replyOf W[i].kind = kd) (h0 : 0 ≤ S.ans) (h0' : S.ans < 4611686018427387904) :
    Calls Tryz.prog 76 #[.pointer (some ⟨rb, 0, none⟩), .int .i64 W[i].node, .int .i64 W[i].id, .int .i64 kd] w fun e w' => e = .returned (.tuple #[akV W[i], .int .i64 0]) ∧ Keeps (fun n => n = rb) w w' ∧ RefIn w' w.heap.size rb { S with ans := S.ans + 1 } (W.eraseIdx i) := by
  have b1 : Below w.heap.size w (w.alloc (.cells #[.int .i64 0, .int .i64 0, .int .i64 0] 66)) := (Below.refl _ w).alloc (Nat.le_refl _) _
  have o1 : obj (w.alloc (.cells #[.int .i64 0, .int .i64 0, .int .i64 0] 66)) w.heap.size = some (.cells #[.int .i64 0, .int .i64 0, .int .i64 0] 66 (0, 0)) := obj_alloc_at _ _ _ rfl
  have hr1 := h.below b1
  have HF := Lib.hid (find_ref _ G rb S W W[i].id hr1)
  rw [findA_pos hi hn] at HF
  have hlt := h.lt
  have HRY := fun w => Lib.hid (ref_reply_same W[i].kind w)
  rw [hk] at HRY
  obtain ⟨v0, _, h20, _⟩ := id hr1
  have HSL := Lib.hid (h20.slIn akL_length)
  obtain ⟨oa, cap, ev⟩ := h20.slice
  subst ev
  have HB0 := Lib.hid ‹obj _ rb = _›
  have hrow0 : Hid (∃ b off, oa = some ⟨b, off, none⟩ ∧ b < (w.alloc (.cells #[.int .i64 0, .int .i64 0, .int .i64 0] 66)).heap.size ∧ subOf (obj (w.alloc (.cells #[.int .i64 0, .int .i64 0, .int .i64 0] 66)) b) (off + i * 3) 3 = some (akL W[i]).toArray) := Lib.hid (by
    obtain ⟨_, _, e, _, _, g3⟩ := HSL.out
    simp only [Value.slice.injEq] at e
    obtain ⟨rfl, _, rfl⟩ := e
    obtain ⟨b, off, e2, e3, e4⟩ := g3 (by omega)
    exact ⟨b, off, e2, e3, e4 i hi⟩)
  have HR1 := Lib.hid hr1
  have HG := fun W' (hr : RefK W' G rb { S with ans := S.ans + 1 } W) => Lib.hid (gone_ref W' G rb _ W i hr hi hlen)
  have hw : IntKind.i64.wrap (S.ans + 1) = S.ans + 1 := by simp [IntKind.wrap, IntKind.signed, IntKind.bits]; omega
  clear h hn hr1 h20 hk HSL
  generalize W[i] = x at *
  go_enter Tryz.func76, Tryz.ntmps76
  go_wp2_with fail
  generalize w.alloc (.cells #[.int .i64 0, .int .i64 0, .int .i64 0] 66) = w1 at *
  refine HF.out.mono ?_
  rintro e w2 ⟨rfl, b2⟩
  have o2 := (obj_below b2 (lt_of_obj o1)).trans o1
  have hr2 := HR1.out.below b2
  have HU := Lib.hid (hr2.upd (S' := { S with ans := S.ans + 1 }) (i := 4) (u := .int .i64 (S.ans + 1)) (fun _ => rfl))
  have B2 := Lib.hid (b1.trans (b2.mono b1.size))
  have q1 := (obj_below b2 (lt_of_obj HB0.out)).trans HB0.out
  obtain ⟨b, off, rfl, hbb, hs0⟩ := hrow0.out
  rw [← obj_below b2 hbb] at hs0
  have hb2 : b < w2.heap.size := Nat.lt_of_lt_of_le hbb b2.size
  simp only [akL] at hs0
  have hx1 := subOf_cell hs0 (j := 1) (by decide)
  have hx2 := subOf_cell hs0 (j := 2) (by decide)
  simp only [List.getElem?_toArray, List.getElem?_cons_zero, List.getElem?_cons_succ] at hx1 hx2
  have c2 : w2.cell? ⟨rb, 2, none⟩ = some (.slice (some ⟨b, off, none⟩) W.length cap) := cell_at q1 2
  have hq1 : (x.node != x.node) = false := by simp
  have hq2 : (kd != kd) = false := by simp
  have hil : (i : Int) < (W.length : Int) := by omega
  clear hr2
  have c5 : w2.cell? ⟨rb, 4, none⟩ = some (.int .i64 S.ans) := cell_at q1 4
  have fz := frozen_at q1
  have zr := lt_of_obj q1
  have O2 := Lib.hid o2
  clear b1 b2 o1 q1 o2
  go_wp2_with fail
  refine (HRY _).out.mono ?_
  rintro e w9 ⟨rfl, hw9⟩
  cases hw9
  go_wp2_with fail
  refine (HG _ HU.out.1).out.mono ?_
  have o3 : obj (w2.setCell ⟨rb, 4, none⟩ (.int .i64 (S.ans + 1))) w.heap.size = some (.cells #[.int .i64 0, .int .i64 0, .int .i64 0] 66 (0, 0)) := (obj_setCell_ne _ _ _ _ (by simp only; omega)).trans O2.out
  have hzw3 : (w2.setCell ⟨rb, 4, none⟩ (.int .i64 (S.ans + 1))).heap.size = w2.heap.size := by simp
  have K3 := Lib.hid ((Keeps.of_below (F := fun n => n = rb) B2.out).trans HU.out.2)
  generalize w2.setCell ⟨rb, 4, none⟩ (.int .i64 (S.ans + 1)) = w3 at *
  rintro e w4 ⟨rfl, k4, r4⟩
  have zz := lt_of_obj o3
  have o4 := (k4.block _ zz (by omega)).trans o3
  have z4 := lt_of_obj o4
  have K4 := Lib.hid (K3.out.trans k4)
  have R4 := Lib.hid r4
  clear k4 r4
  go_wp2
  have oo : obj (putObj w4 w.heap.size (.cells #[.int .i64 x.id, .int .i64 x.node, .int .i64 x.kind] 66)) w.heap.size = some (.cells #[.int .i64 x.id, .int .i64 x.node, .int .i64 x.kind] 66 (0, 0)) := obj_putObj_eq _ _ _ z4
  refine bodyPost_ret (results_cell_tmp rfl _ rfl (by rw [run_load32, oo]; rfl)) rfl ?_
  exact ⟨rfl, ⟨K4.out.os, K4.out.tape, K4.out.output, by rw [size_putObj]; exact K4.out.size, fun n hn hne => (obj_putObj_ne _ _ _ _ (by omega)).trans (K4.out.block n hn hne)⟩, (R4.out.putNew zz (by omega) _).low (by omega)⟩
end Go.Proofs.YtagpclgappcnbaaGreat.Ak
