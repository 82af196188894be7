import Derived.Test.YtmgpfmgmpmkkaaaGreatApp
import Derived.Test.YtmgpfmgmpmkkaaaGreatIdb
namespace Go.Proofs.YtmgpfmgmpmkkaaaGreat
open Go.RowKit

/-- a slice of the call's own, nil or not where there is none -/
def OwnC {α : Type} (w : World) (base E k : Nat) (enc : α → List Value) (v : Value) (xs : List α) : Prop := w.ownsRow base E k v xs.length (xs.flatMap enc)
theorem OwnC.slIn {α : Type} {w : World} {base E k : Nat} {enc : α → List Value} {v : Value} {xs : List α} (hk : ∀ x, (enc x).length = k) (h : OwnC w base E k enc v xs) : SlIn w v k enc xs := by
  by_cases hx : xs = []
  · subst hx
    rcases h.2 with ⟨rfl, h0⟩ | ⟨g, cap, cur, rfl, hb, hg, h1, h2, h3, h4⟩
    · exact ⟨none, 0, rfl, Nat.le_refl _, Nat.zero_le _, fun h => absurd h (Nat.lt_irrefl _)⟩
    · exact ⟨_, cap, rfl, Nat.zero_le _, h2, fun h => absurd h (Nat.lt_irrefl _)⟩
  · refine OwnS.slIn (E := E) (base := base) hk ⟨h, ?_⟩
    constructor
    · rintro rfl
      rcases h.2 with ⟨_, h0⟩ | ⟨g, cap, cur, e, _⟩
      · exact List.eq_nil_of_length_eq_zero h0
      · cases e
    · intro e; exact absurd e hx
theorem OwnC.below {α : Type} {w W : World} {base E k : Nat} {enc : α → List Value} {v : Value} {xs : List α} (h : OwnC w base E k enc v xs) (hb : Below w.heap.size w W) : OwnC W base E k enc v xs := by
  refine ⟨h.1, ?_⟩
  rcases h.2 with h1 | ⟨g, cap, cur, rfl, h2, h3, h4⟩
  · exact .inl h1
  · have h3' : obj w g = some (.cells cur E (0, 0)) := h3
    exact .inr ⟨g, cap, cur, rfl, h2, (obj_below hb (lt_of_obj h3')).trans h3, h4⟩
def RetC {α : Type} (w : World) (E k : Nat) (enc : α → List Value) (xs : List α) (e : Ending) (w' : World) : Prop :=
  ∃ v, e = .returned v ∧ OwnC w' w.heap.size E k enc v xs ∧ Below w.heap.size w w'
theorem pushC {P : Program} {t E : TypeId} {i : TypeInfo} {z : Value} {k bytes : Nat} {α : Type} {enc : α → List Value} {ops : Array Oper} {rest : List Oper} {o : Oper} {a : Act} {w : World} {Q : Exit → Act → World → Prop}
    (ht : P.underlying t = some (.slice E)) (hi : P.info? E = some i) (hz : i.zero = some z) (hsize : i.size = k) (hby : i.bytes = bytes) (hzs : z.cells.size = k) (hk0 : 0 < k)
    (hk : ∀ x, (enc x).length = k) (hone : ∀ x, allOne (enc x).toArray = true) (hgd : o.guard = none) (s x : Operand) (ho : o.op = .call { callee := .builtin .append, args := #[s, x], argTypes := #[t, t] })
    (base : Nat) (v : Value) (hs : a.eval s = v) (hown : w.ownsRow base E k v 0 []) (ad : Addr) (c : Nat) (ys : List α) (hx : a.eval x = .slice (some ad) ys.length c) (hsl : SlIn w (.slice (some ad) ys.length c) k enc ys)
    (hlen : ys.length * bytes ≤ 140737488355328) (hbase : base ≤ w.heap.size)
    (h : ∀ v' w', OwnC w' base E k enc v' ys → w.grownBy w' v.ownBlock → wpList P ops Q rest (a.put o.dst v') w') : wpList P ops Q (o :: rest) a w := by
  refine wpList_append_own (P := P) w hgd s x t ho base E i z k bytes ht hi hz hsize hby hzs hk0 v 0 [] hs hown ad ys.length c (ys.flatMap enc) hx (flatMap_len hk _) (fun j u hj => ?_) (fun u hu => ?_) (by have := hsl; obtain ⟨_, _, _, q1, q2, _⟩ := this; omega) (by rw [Nat.zero_add]; exact hlen) hbase (fun v' w' q1 q2 _ => h v' w' (by simpa [OwnC] using q1) q2)
  · have hpos : 0 < ys.length := by
      cases ys with
      | nil => simp at hj
      | cons => simp
    obtain ⟨oa, cap, e1, _, _, g3⟩ := hsl
    simp only [Value.slice.injEq] at e1
    obtain ⟨rfl, _, rfl⟩ := e1
    obtain ⟨b, off, e, _, hr⟩ := g3 hpos
    cases e
    rw [Addr.add_lit]
    exact row_cells hk hk0 hr hj
  · obtain ⟨x, _, hx⟩ := List.mem_flatMap.1 hu
    have := hone x
    simp only [allOne, List.all_eq_true] at this
    exact this u hx
set_option maxRecDepth 100000 in
set_option maxHeartbeats 1000000 in
/-- slices.Clone, of names -/
theorem clone_names (w : World) (v : Value) (s : List ID) (h : SlIn w v 32 idL s) (hlen : s.length ≤ 1048576) : Calls Tryz.prog 62 #[v] w (RetC w 32 32 idL s) := by
  have hq : ∀ (w : World) (a : Option Addr) (n c n' c' : Nat), (binOp .eql 24 (.slice a n c) (.slice none n' c')).run Tryz.prog w = .ok (.bool a.isNone) w := fun w a n c n' c' => Lib.run_eql_slice_nil w 24 32 a n c n' c' Tryz.underlying24
  have H := Lib.hid h
  obtain ⟨oa, cap, rfl, g1, g2, g3⟩ := h
  cases oa with
  | none =>
    have h0 : s = [] := by
      cases s with
      | nil => rfl
      | cons y ys => obtain ⟨b, off, e, _⟩ := g3 (by simp); cases e
    subst h0
    clear g3
    go_enter Tryz.func62, Tryz.ntmps62
    go_wp2
    go_ret
    exact ⟨_, rfl, World.ownsRow_nil _ _ _ _, Below.refl _ _⟩
  | some ad =>
    have h0b : (buildRow 24 0 #[]).run Tryz.prog w = .ok (.slice (some ⟨w.heap.size, 0, none⟩) 0 0) (w.alloc (.cells #[] 32)) := by kernel_rfl
    have HOW : Hid ((w.alloc (.cells #[] 32)).ownsRow w.heap.size 32 32 (.slice (some ⟨w.heap.size, 0, none⟩) 0 0) 0 []) := Lib.hid ⟨rfl, .inr ⟨w.heap.size, 0, #[], rfl, Nat.le_refl _, obj_alloc_at _ _ _ rfl, Nat.le_refl _, by unfold maxLen; omega, rfl, rfl⟩⟩
    have HS := Lib.hid (H.out.below ((Below.refl _ w).alloc (Nat.le_refl _) (.cells #[] 32)))
    clear g3
    obtain ⟨i0, hi, hz0, hz1, hz2⟩ := info_parts info45
    go_enter Tryz.func62, Tryz.ntmps62
    go_wp2_with (at_builtin; refine pushC Tryz.underlying24 hi hz0 hz1 hz2 (by simp [Value.cells]) (by decide) idL_length idL_one rfl _ _ rfl w.heap.size (.slice (some ⟨w.heap.size, 0, none⟩) 0 0) rfl HOW.out ad cap s rfl HS.out (by omega) (by simp) ?_; intro v' w' q1 q2)
    go_ret
    exact ⟨_, rfl, q1, ((Below.refl _ w).alloc (Nat.le_refl _) _).grown q2 (by simp) (fun k e => by simp [Value.ownBlock] at e; omega)⟩
end Go.Proofs.YtmgpfmgmpmkkaaaGreat
