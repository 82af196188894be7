import Derived.Test.YtfejhekoijemdaaWide
import Derived.WalkKit
import Derived.ProofKit
import Derived.OpenShut
import Derived.Deep.Slices
namespace Go.Proofs.Ytfejhekoijemdaa
open Go.ChangeShapes Go.WideShapes Go.ChangeAt Go.RowKit

section
variable {H : Type} {enc : TypeId × Value → H} {P : Program}
/-- readings of a row of arguments, carried into a world that differs above the old size alone -/
theorem trodAll_below (hl : laidOutB P = true) {W W' : World} (hb : Below W.heap.size W W') :
    ∀ {ts : List TypeId} {vs : List Value} {ds : List (DataW H)} {ps : List MemPlace}, (∀ t ∈ ts, P.readableRec t = true ∧ t < P.types.size) →
      DataW.TrodAll enc P W 0 (fun _ => true) true ts vs ds ps → (∀ x ∈ ps, x.block < W.heap.size) →
      DataW.TrodAll enc P W' 0 (fun b => decide (b < W.heap.size)) true ts vs ds ps
  | [], [], [], _, _, h, _ => h
  | t :: ts, v :: vs, d :: ds, ps, hr, h, hlt => by
    obtain ⟨p, q, h1, h2, rfl⟩ := h
    exact ⟨p, q, Below.trod hl (hr t (by simp)).1 (hr t (by simp)).2 h1 hb (fun x hx => hlt x (by simp [hx])),
      trodAll_below hl hb (fun u hu => hr u (by simp [hu])) h2 (fun x hx => hlt x (by simp [hx])), rfl⟩
  | [], _ :: _, _, _, _, h, _ => h.elim
  | [], [], _ :: _, _, _, h, _ => h.elim
  | _ :: _, [], _, _, _, h, _ => h.elim
  | _ :: _, _ :: _, [], _, _, h, _ => h.elim
/-- what a law's row asks behind the call: true, the arguments read as they did; nothing that was there has turned -/
theorem law_post {f : Func} {s : ChangeSpec} {tb : TypeId} {W W' : World} {args : Array Value} {ds : List (DataW H)} {before : List MemPlace}
    (hl : laidOutB P = true) (hr : ∀ t ∈ f.params.toList, P.readableRec t = true ∧ t < P.types.size) (hv : s.vars = []) (hres : f.resultTypes = #[tb]) (htb : P.underlying tb = some .bool)
    (hW : DataW.Whole enc P f.params.toList s.vars false W args.toList ds [] before)
    (hs : s.fn H (ds ++ []) = { results := [.lit (.bool true)], args := ds }) (hb : Below W.heap.size W W') :
    s.post enc P f false true false false W args (.bool true) W' := by
  have hlt := hW.lt
  have hW' := hW
  obtain ⟨p, q, hA, hV, rfl, _, _⟩ := hW
  rw [hv] at hV
  have hq : q = [] := hV
  subst hq
  refine ⟨ds, [], _, [], p, [], hW', ?_, ?_, ?_, hb.frame _, fun h => by cases h⟩
  · rw [hs, hres]
    exact trodAll_cons_mk (shut_bool htb _) trodAll_mk0
  · rw [hs]
    exact trodAll_below hl hb hr hA (fun x hx => hlt x (by simp [hx]))
  · rw [hs, hv]
    rfl
/-- a slice that came in: nil, or cells that each read as a value of the element's type -/
theorem slice_shape {t e : TypeId} {k : Nat} (ht : P.underlying t = some (.slice e)) (hk : P.cellsOf e = k) (hk0 : 0 < k) {W : World} {oa : Option Addr} {len cap : Nat} {d : DataW H} {p : List MemPlace}
    (h : DataW.Trod enc P W 0 (fun _ => true) true t (.slice oa len cap) d p) :
    len ≤ cap ∧ cap ≤ maxLen ∧ (0 < len → ∃ b off, oa = some ⟨b, off, none⟩ ∧ b < W.heap.size ∧ ∃ C : Nat → List Value, ∀ i, i < len →
      (C i).length = k ∧ (∀ j, j < k → W.cell? ⟨b, off + i * k + j, none⟩ = (C i)[j]?) ∧ ∃ fuel y, DataW.trod enc P W 0 (fun _ => true) true fuel e (C i) = some y) := by
  obtain ⟨fuel, hf⟩ := h
  rcases Go.Deep.open_slice ht hf with ⟨h0, _⟩ | ⟨a, len', cap', m, n, D, Pl, h0, _, h1, h2, h3, _, h4⟩
  · simp [Value.cells] at h0
    obtain ⟨rfl, rfl, rfl⟩ := h0
    exact ⟨Nat.le_refl _, Nat.zero_le _, fun h => absurd h (Nat.lt_irrefl _)⟩
  · simp [Value.cells] at h0
    obtain ⟨rfl, rfl, rfl⟩ := h0
    refine ⟨h1, h2, fun hl => ?_⟩
    simp only [if_true] at h3
    have key : ∀ i, i < len → ∃ cs', (cs'.length = k ∧ ∀ j, j < k → W.cell? (a.add (i * k + j)) = cs'[j]?) ∧ ∃ fuel y, DataW.trod enc P W 0 (fun _ => true) true fuel e cs' = some y := by
      intro i hi
      obtain ⟨cs', g1, g2⟩ := h4 i (by omega)
      rw [hk] at g1
      obtain ⟨_, g3, g4⟩ := World.cells?_some g1
      exact ⟨cs', ⟨g3, fun j hj => by rw [← Go.Deep.add_add]; exact g4 j hj⟩, n, _, g2⟩
    obtain ⟨C, hC⟩ := Go.Deep.choose_lt key
    have hs : a.spot = none := by
      have := (hC 0 hl).1.2 0 hk0
      simp only [Nat.zero_mul, Nat.zero_add] at this
      have e0 : a.add 0 = a := by simp [Addr.add]
      rw [e0] at this
      have h00 : (C 0)[0]? = some ((C 0)[0]'(by rw [(hC 0 hl).1.1]; exact hk0)) := by simp
      rw [h00] at this
      unfold World.cell? at this
      split at this
      · cases hsp : a.spot with
        | none => rfl
        | some _ => simp [hsp] at this
      · cases this
    obtain ⟨b, off, sp⟩ := a
    simp only at hs
    subst hs
    refine ⟨b, off, rfl, ?_, C, fun i hi => ⟨(hC i hi).1.1, fun j hj => ?_, (hC i hi).2⟩⟩
    · have := (hC 0 hl).1.2 0 hk0
      have h00 : (C 0)[0]? = some ((C 0)[0]'(by rw [(hC 0 hl).1.1]; exact hk0)) := by simp
      rw [h00] at this
      have := World.block_lt_of_cell? _ _ this
      simpa [Addr.add] using this
    · rw [← (hC i hi).1.2 j hj, Nat.add_assoc]
      unfold Addr.add
      split
      · rename_i h0; simp [h0]
      · rfl
/-- a struct whose fields are all of one integer kind, a cell each -/
theorem struct_ints {t : TypeId} {fs : Array Field} {q : IntKind} (ht : P.underlying t = some (.struct fs)) (hf : ∀ (i : Nat) (f : Field), fs[i]? = some f → f.offset = i ∧ P.underlying f.type = some (.int q) ∧ P.cellsOf f.type = 1)
    {W : World} {base : Nat} {sp : Nat → Bool} {held : Bool} {fuel : Nat} {cs : List Value} {x : DataW H × List MemPlace} (h : DataW.trod enc P W base sp held fuel t cs = some x) :
    ∀ i, i < fs.size → ∃ n : Int, cs[i]? = some (.int q n) ∧ (Lit.int q n).wf = true := by
  obtain ⟨xs, n, _, _, _, hxl, hx⟩ := DataW.trod_struct ht h
  intro i hi
  obtain ⟨h1, h2, h3⟩ := hf i fs[i] (by simp [hi])
  have h4 := hx i fs[i] (by simp [hi])
  have h5 : xs[i]? = some (xs[i]'(by omega)) := by simp [hxl, hi]
  rw [h5] at h4
  obtain ⟨m, h6, _, h7⟩ := DataW.trod_int h2 h4
  rw [h1, h3] at h6
  refine ⟨m, ?_, h7⟩
  have h8 : ((cs.drop i).take 1)[0]? = some (.int q m) := by rw [h6]; rfl
  simpa using h8
/-- n cells of a row, then the rest -/
theorem drop_split {α : Type} (l : List α) (i n : Nat) : l.drop i = (l.drop i).take n ++ l.drop (i + n) := by
  rw [← List.drop_drop, List.take_append_drop]
/-- the cells of a name -/
theorem id_cells {t e : TypeId} (ht : P.underlying t = some (.array 32 e)) (he : P.underlying e = some (.int .u8)) (hk : P.cellsOf e = 1) (hk' : P.cellsOf t = 32)
    {W : World} {base : Nat} {sp : Nat → Bool} {held : Bool} {fuel : Nat} {cs : List Value} {x : DataW H × List MemPlace} (h : DataW.trod enc P W base sp held fuel t cs = some x) : ∃ a : ID, cs = idL a := by
  obtain ⟨xs, m, _, _, hl, hxl, hx⟩ := DataW.trod_array ht h
  rw [hk'] at hl
  have key : ∀ i, i < 32 → ∃ n : Int, cs[i]? = some (.int .u8 n) ∧ 0 ≤ n ∧ n ≤ 255 := by
    intro i hi
    have h1 := hx i hi
    rw [hk, Nat.mul_one] at h1
    have h5 : xs[i]? = some (xs[i]'(by omega)) := by simp [hxl, hi]
    rw [h5] at h1
    obtain ⟨n, h2, _, h3⟩ := DataW.trod_int he h1
    have h4 : ((cs.drop i).take 1)[0]? = some (.int .u8 n) := by rw [h2]; rfl
    refine ⟨n, by simpa using h4, ?_⟩
    exact bounds_u8 h3
  obtain ⟨f, hf⟩ := Go.Deep.choose_lt key
  refine ⟨⟨(List.range 32).map fun i => UInt8.ofNat (f i).toNat, by simp⟩, ?_⟩
  apply List.ext_getElem?
  intro i
  by_cases hi : i < 32
  · obtain ⟨h1, h2, h3⟩ := hf i hi
    rw [h1]
    simp only [idL, List.map_map, List.getElem?_map, List.getElem?_range hi, Option.map_some, Function.comp]
    congr 2
    rw [UInt8.toNat_ofNat']
    omega
  · rw [List.getElem?_eq_none (by omega), List.getElem?_eq_none (by simp; omega)]
theorem open_id {t e : TypeId} (ht : P.underlying t = some (.array 32 e)) (he : P.underlying e = some (.int .u8)) (hk : P.cellsOf e = 1) (hk' : P.cellsOf t = 32) {W : World} {v : Value} {d : DataW H} {p : List MemPlace}
    (hag : ∃ cs, v = .agg cs) (h : DataW.Trod enc P W 0 (fun _ => true) true t v d p) : ∃ a : ID, v = .agg (idL a).toArray := by
  obtain ⟨fuel, hf⟩ := h
  obtain ⟨cs, rfl⟩ := hag
  obtain ⟨a, ha⟩ := id_cells ht he hk hk' hf
  refine ⟨a, ?_⟩
  simp only [Value.cells] at ha
  rw [← ha]
end
end Go.Proofs.Ytfejhekoijemdaa
