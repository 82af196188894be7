import Derived.Test.YtmgpfmgmpmkkaaaGreatMapR
import Derived.WideKeyEntry
namespace Go.Proofs.YtmgpfmgmpmkkaaaGreat
open Go.RowKit
open Go.ChangeMaps (setBlock)

/-! ### an entry that is read and stored again: `m[k] += n` -/
section
variable {α ν : Type} {ek : α → Value} {enc : ν → Value}
theorem modify_key (es : Array MapEntry) (i : Nat) (e : MapEntry) (he : es[i]? = some e) (k : Value) (hk : e.key = k) : es.modify i (fun x => { x with key := k }) = es := by
  apply Array.ext'
  rw [Array.toList_modify]
  have h2 : es.toList[i]? = some e := by simpa using he
  apply List.ext_getElem?
  intro j
  rw [List.getElem?_modify]
  by_cases hij : i = j
  · subst hij
    rw [h2]
    subst hk
    simp
  · simp [hij]
theorem modify_val (es : Array MapEntry) (i : Nat) (e : MapEntry) (he : es[i]? = some e) (k v : Value) (hk : e.key = k) : es.modify i (fun x => { x with val := v }) = es.modify i (fun x => { x with key := k, val := v }) := by
  apply Array.ext'
  rw [Array.toList_modify, Array.toList_modify]
  have h2 : es.toList[i]? = some e := by simpa using he
  apply List.ext_getElem?
  intro j
  rw [List.getElem?_modify, List.getElem?_modify]
  by_cases hij : i = j
  · subst hij
    rw [h2]
    subst hk
    simp
  · simp [hij]
theorem run_entry_b [DecidableEq α] {P : Program} {t kt et : TypeId} {L : List (α × ν)} (K : KeyOK P kt ek) (ht : P.underlying t = some (.map kt et)) {vz : ν} (hz : ∀ u : World, (zeroValue et).run P u = .ok (enc vz) u)
    {es : Array MapEntry} {clk : Nat} (hr : RepK ek enc es.toList L) (hs : StampOK es.toList clk) (m : Nat) (k : α) (v : ν) : ∃ (st : Nat) (es1 : Array MapEntry) (clk1 : Nat) (es' : Array MapEntry) (clk' : Nat),
      (∀ w : World, obj w m = some (.map es clk) → (Instr.mapEntry t (.map (some m)) (ek k)).run P w = .ok (.tuple #[enc ((kGet k L).getD vz), .int .i64 st]) (putObj w m (.map es1 clk1))) ∧
      (∀ w : World, obj w m = some (.map es clk) → (Instr.lookup t (.map (some m)) (ek k) false).run P w = .ok (enc ((kGet k L).getD vz)) w) ∧
      (∀ w : World, obj w m = some (.map es1 clk1) → (Instr.lookup t (.map (some m)) (ek k) false).run P w = .ok (enc ((kGet k L).getD vz)) w) ∧
      (∀ w : World, obj w m = some (.map es1 clk1) → (Instr.entryStore t (.map (some m)) (.int .i64 st) (enc v)).run P w = .ok () (putObj w m (.map es' clk'))) ∧
      RepK ek enc es'.toList (kPut k v L) ∧ StampOK es'.toList clk' := by
  have hlook : ∀ (es2 : Array MapEntry) (clk2 : Nat) (L2 : List (α × ν)), RepK ek enc es2.toList L2 → (kGet k L2).getD vz = (kGet k L).getD vz → ∀ w : World, obj w m = some (.map es2 clk2) → (Instr.lookup t (.map (some m)) (ek k) false).run P w = .ok (enc ((kGet k L).getD vz)) w := by
    intro es2 clk2 L2 h2 h3 w hb
    have h := run_lookup1_k K ht hz ⟨es2, clk2, hb, h2⟩ k
    rw [h, ← h3]
    cases kGet k L2 <;> rfl
  cases hi : kIdx k L 0 with
  | none =>
    obtain ⟨g1, _⟩ := RepK.absent k hr hi
    have hg : kGet k L = none := by rw [← kIdx_get k L 0, hi]; rfl
    obtain ⟨s1, s2⟩ := hs
    have hnd : ((es.push ⟨ek k, enc vz, clk⟩).toList.map (·.born)).Nodup := by
      simp only [Array.toList_push, List.map_append, List.map_cons, List.map_nil]
      refine List.nodup_append.2 ⟨s1, by simp, fun a ha c hc e1 => ?_⟩
      simp only [List.mem_singleton] at hc
      obtain ⟨x, hx, rfl⟩ := List.mem_map.1 ha
      have := s2 x hx
      omega
    have hgz : (kGet k (kPut k vz L)).getD vz = (kGet k L).getD vz := by
      rw [hg]
      have : ∀ L : List (α × ν), kGet k (kPut k vz L) = some vz := by
        intro L
        induction L with
        | nil => simp [kPut, kGet]
        | cons x L ih =>
          obtain ⟨j, u⟩ := x
          unfold kPut
          by_cases hj : k = j
          · rw [if_pos hj]; simp [kGet, hj]
          · rw [if_neg hj]; simp only [kGet]; rw [if_neg hj]; exact ih
      rw [this]; rfl
    refine ⟨clk, es.push ⟨ek k, enc vz, clk⟩, clk + 1, es.push ⟨ek k, enc v, clk⟩, clk + 1, fun w hb => ?_, hlook es clk L hr rfl, hlook _ _ (kPut k vz L) (by simpa using g1 vz clk) hgz, fun w hb => ?_, by simpa using g1 v clk, ?_⟩
    · simp only [Instr.mapEntry, Sem.run_bind, run_underlying ht, Result.andThen_ok, MapKept.run_getObj_map hb, K.check, K.find _ _ _ _ _ _ hr, hi, Option.map_none, hz,
        MapKept.run_setObj_map _ hb, putObj, hg]
      rfl
    · have hidx : (es.push ⟨ek k, enc vz, clk⟩).findIdx? (fun e => ((e.born : Nat) : Int) == ((clk : Nat) : Int)) = some es.size := by
        rw [Go.WideElems.findIdx_arr]
        exact Go.WideElems.findIdx_born (l := (es.push ⟨ek k, enc vz, clk⟩).toList) (j := es.size) (e0 := ⟨ek k, enc vz, clk⟩) hnd (by simp)
      have hmod : (es.push ⟨ek k, enc vz, clk⟩).modify es.size (fun e => { e with val := enc v }) = es.push ⟨ek k, enc v, clk⟩ := by
        apply Array.ext'
        rw [Array.toList_modify, Array.toList_push, Array.toList_push, ← Array.length_toList, Go.WideElems.modify_last]
      simp [Instr.entryStore, MapKept.run_getObj_map hb, asInt, asIntOf, hidx, hmod, MapKept.run_setObj_map _ hb, Result.andThen, putObj]
    · constructor
      · have : (es.push ⟨ek k, enc v, clk⟩).toList.map (·.born) = (es.push ⟨ek k, enc vz, clk⟩).toList.map (·.born) := by simp
        rw [this]; exact hnd
      · intro e he
        simp only [Array.toList_push, List.mem_append, List.mem_singleton] at he
        rcases he with he | rfl
        · have := s2 e he; omega
        · exact Nat.lt_succ_self _
  | some x =>
    obtain ⟨i, u⟩ := x
    obtain ⟨e, g1, g2, g3, _⟩ := RepK.found k hr hi
    have hg : kGet k L = some u := by rw [← kIdx_get k L 0, hi]; rfl
    have g1' : es[i]? = some e := by simpa using g1
    have hk := modify_key es i e g1' (ek k) g2
    have hb := map_born_modify es.toList i (fun e => { e with key := ek k, val := enc v }) (fun _ => rfl)
    obtain ⟨s1, s2⟩ := hs
    refine ⟨e.born, es, clk, es.modify i fun e => { e with key := ek k, val := enc v }, clk, fun w hb => ?_, hlook es clk L hr rfl, hlook es clk L hr rfl, fun w hb => ?_, by simpa using g3 v, ?_⟩
    · simp only [Instr.mapEntry, Sem.run_bind, run_underlying ht, Result.andThen_ok, MapKept.run_getObj_map hb, K.check, K.find _ _ _ _ _ _ hr, hi, Option.map_some,
        g1', Option.getD_some, g2, Instr.keyThatStays, K.stays, if_true, Sem.run_pure, hk, MapKept.run_setObj_map _ hb, putObj, hg]
      rfl
    · have hidx : es.findIdx? (fun x => ((x.born : Nat) : Int) == ((e.born : Nat) : Int)) = some i := by
        rw [Go.WideElems.findIdx_arr]
        exact Go.WideElems.findIdx_born s1 g1
      have hmod := modify_val es i e g1' (ek k) (enc v) g2
      simp [Instr.entryStore, MapKept.run_getObj_map hb, asInt, asIntOf, hidx, hmod, MapKept.run_setObj_map _ hb, Result.andThen, putObj]
    · constructor
      · rw [Array.toList_modify, hb]; exact s1
      · intro e' he'
        have hmem : e'.born ∈ (es.modify i fun e => { e with key := ek k, val := enc v }).toList.map (·.born) := List.mem_map.2 ⟨e', he', rfl⟩
        rw [Array.toList_modify, hb] at hmem
        obtain ⟨e2, h3, h4⟩ := List.mem_map.1 hmem
        have := s2 e2 h3
        omega
end
end Go.Proofs.YtmgpfmgmpmkkaaaGreat
