import Derived.Test.YtnaknoebjbmboaaRange
namespace Go.Proofs.Ytnaknoebjbmboaa
open Go.RowKit Go.Shelf

/-! ### ranges over functions that hand over a list in an order of their own -/
section
variable {α : Type} {F : Fence} {n : Nat} {P : Program}
/-- what an iterator leaves: all (Fi), or a beginning (Pr) -/
def EndP (J Jx : List α → (Nat → Prop) → World → Prop) (Pr Fi : List α → Prop) (G : Nat → Prop) (W : World) (e : Ending) (W' : World) : Prop :=
  (∃ v, e = .returned v) ∧ ∃ G', ((∃ ys, Fi ys ∧ J ys G' W') ∨ (∃ pre, Pr pre ∧ Jx pre G' W')) ∧ Keeps G W W' ∧ GrowsG W G G'
/-- an iterator that hands over such a list; what it reads lies in the blocks D of w0 -/
def SeqP (F : Fence) (n : Nat) (P : Program) (g : Nat) (lb : Array Value) (encs : α → Array Value) (Pr Fi : List α → Prop) (D : Nat → Prop) (w0 : World) : Prop :=
  ∀ (l : Nat) (J Jx : List α → (Nat → Prop) → World → Prop) (W : World) (G0 : Nat → Prop), Agree D w0 W → AbidesG.owned D J → AbidesG W.heap.size J → AbidesG W.heap.size Jx →
    (∀ pre G x W1, J pre G W1 → Pr (pre ++ [x]) → YieldAt F (n - 1) P l (encs x) W1 (RoundG J Jx (pre ++ [x]) G W1)) → J [] G0 W →
    CallsIn F n P g (#[.func (.yield l) #[] #[]] ++ lb) W (EndP J Jx Pr Fi G0 W)
/-- the statement -/
theorem wpIn_range_ownP {g : Operand} {ps : Array Tmp} {assign body : Code} {Q : Exit → Act → World → Prop} {a : Act} {w : World}
    (hro : F.round = none) (h1 : 1 ≤ n) {gf : Nat} {lb : Array Value} (hg : a.eval g = .func (.func gf) #[] lb) (hFg : F.fn gf) (eg : ∀ args w, (callFunc gf args).run P w = .ok (.enter gf args) w)
    {encs : α → Array Value} {Pr Fi : List α → Prop} {D : Nat → Prop} {w0 : World} (hDlt : ∀ k, D k → k < w0.heap.size) (hseq : SeqP F (n - 1) P gf lb encs Pr Fi D w0) (hb0 : Agree D w0 w) (hps : ∀ x, (encs x).size = ps.size)
    (I : List α → (Nat → Prop) → World → Prop) (Ix : Code → List α → (Nat → Prop) → World → Prop) (hIo : AbidesG.owned D I) (hI : AbidesG w.heap.size I) (hIx : ∀ c, AbidesG w.heap.size (Ix c)) (G0 : Nat → Prop) (h0 : I [] G0 w)
    (Ax : α → Act → World → Prop) (hAx : ∀ x a' W r o o', Ax x a' W → W.heap[r]? = some o → o.isCells = false → Ax x a' (W.putObj r o'))
    (hassign : ∀ (l : Nat) (pre : List α) (G : Nat → Prop) (x : α) (W : World) (K : Act → World → Prop), I pre G W → (∀ a' W', Below W.heap.size W W' → Ax x a' W' → K a' W') →
      assign.wpIn (F.inRound l) (n - 1 - 1) P (Exit.then K (fun _ _ _ => False)) { tmps := (ps.zip (encs x)).foldl (fun t (p, v) => t.setIfInBounds p v) a.tmps, defers := [] } W)
    (hbody : ∀ (l : Nat) (pre : List α) (G : Nat → Prop) (x : α) (a' : Act) (W : World), w.heap.size ≤ l → l < W.heap.size → ¬ G l → I pre G W → Ax x a' W → Pr (pre ++ [x]) → body.wpIn (F.inRound l) (n - 1 - 1) P (bodyG I Ix (pre ++ [x]) G W) a' W)
    (hdone : ∀ (d : Nat) (ys : List α) (G : Nat → Prop) (W : World), w.heap.size ≤ d → ¬ G d → Fi ys → I ys G W → Keeps G0 w W → GrowsG w G0 G → W.heap[d]? = some (.deferred (some [])) → Q .normal { a with defers := { target := .collected d, args := #[] } :: a.defers } W)
    (hstop : ∀ (d : Nat) (c : Code) (pre : List α) (G : Nat → Prop) (W : World), w.heap.size ≤ d → ¬ G d → Pr pre → Ix c pre G W → Keeps G0 w W → GrowsG w G0 G → W.heap[d]? = some (.deferred (some [])) → c.wpIn F n P Q { a with defers := { target := .collected d, args := #[] } :: a.defers } W) :
    (Code.rangeFunc g ps assign body).wpIn F n P Q a w := by
  refine wpIn_rangeFunc fun fn hfn => ?_
  rw [hro]
  let rec_ : LoopState → Option Code → Loop := fun st pe => { state := st, pending := pe, fn, tmps := a.tmps, params := ps, assign, body, defers := w.heap.size }
  have hrec : ∀ st pe, rec_ st pe = { state := st, pending := pe, fn, tmps := a.tmps, params := ps, assign, body, defers := w.heap.size } := fun _ _ => rfl
  clear_value rec_
  obtain ⟨W1, hW1⟩ : ∃ W1, (w.alloc (.deferred (some []))).alloc (.loop (rec_ .ready none)) = W1 := ⟨_, rfl⟩
  have hbw : Below w.heap.size w W1 := by rw [← hW1]; exact ((Below.refl _ w).alloc (Nat.le_refl _) _).alloc (by simp) _
  have hL : obj W1 (w.heap.size + 1) = some (.loop (rec_ .ready none)) := by rw [← hW1]; exact obj_alloc_at _ _ _ (by simp)
  have hD : obj W1 w.heap.size = some (.deferred (some [])) := by rw [← hW1]; exact (obj_alloc_past _ _ _ (by simp)).trans (obj_alloc_at _ _ _ rfl)
  have hsz1 : W1.heap.size = w.heap.size + 2 := by rw [← hW1]; simp
  have hz0 := hb0.size
  refine ⟨w.heap.size + 1, [{ target := .collected w.heap.size, args := #[] }], W1, { target := .fn (.func gf) lb, args := #[.func (.yield (w.heap.size + 1)) #[] #[]] }, W1, gf,
    #[.func (.yield (w.heap.size + 1)) #[] #[]] ++ lb, W1, ?_, ?_, ?_, ?_, fun _ => h1, ?_⟩
  · rw [← hW1, hrec]; exact run_enterLoop_outer _ _ _ _ _
  · simp only [resolve, hg]
    simp [go_sem]
  · intro f' hf'
    simp [Target.leads] at hf'
    subst hf'
    exact hFg
  · simp [invoke, go_sem, eg]
  -- the two blocks of book-keeping beside what the rounds own
  have part : ∀ {K : List α → (Nat → Prop) → World → Prop} {st : LoopState} {pe : Option Code}, AbidesG w.heap.size K →
      AbidesG W1.heap.size (fun pre H W => ∃ G, H = (fun k => G k ∨ k = w.heap.size + 1) ∧ K pre G W ∧ obj W (w.heap.size + 1) = some (.loop (rec_ st pe)) ∧ obj W w.heap.size = some (.deferred (some [])) ∧ ¬ G (w.heap.size + 1) ∧ ¬ G w.heap.size) := by
    rintro K st pe hK pre H W W' ⟨G, rfl, hk, hl, hd, n1, n2⟩ hkeep
    refine ⟨G, rfl, hK _ _ _ _ hk (hkeep.mono fun k hk' => ⟨by omega, fun hg => hk'.2 (.inl hg)⟩), ?_, ?_, n1, n2⟩
    · exact (hkeep.block _ (lt_of_obj hl) (fun h => h.2 (.inr rfl))).trans hl
    · exact (hkeep.block _ (lt_of_obj hd) (fun h => by omega)).trans hd
  have hG0 := hIo [] G0 w h0
  refine (hseq (w.heap.size + 1)
    (fun pre H W => ∃ G, H = (fun k => G k ∨ k = w.heap.size + 1) ∧ I pre G W ∧ obj W (w.heap.size + 1) = some (.loop (rec_ .ready none)) ∧ obj W w.heap.size = some (.deferred (some [])) ∧ ¬ G (w.heap.size + 1) ∧ ¬ G w.heap.size)
    (fun pre H W => ∃ c G, H = (fun k => G k ∨ k = w.heap.size + 1) ∧ Ix c pre G W ∧ obj W (w.heap.size + 1) = some (.loop (rec_ .done (some c))) ∧ obj W w.heap.size = some (.deferred (some [])) ∧ ¬ G (w.heap.size + 1) ∧ ¬ G w.heap.size)
    W1 (fun k => G0 k ∨ k = w.heap.size + 1) (hb0.trans ⟨hbw.size, fun k hk => obj_below hbw (Nat.lt_of_lt_of_le (hDlt k hk) hz0)⟩) ?_ (part hI) ?_ ?_ ⟨G0, rfl, hI _ _ _ _ h0 (Keeps.of_below hbw), hL, hD, fun h => by have := (hG0 _ h).2; omega, fun h => by have := (hG0 _ h).2; omega⟩).mono ?_
  · rintro pre H W ⟨G, rfl, hi, hl, _, _, _⟩ k (hk | rfl)
    · exact hIo _ _ _ hi k hk
    · exact ⟨fun hd => by have := hDlt _ hd; omega, lt_of_obj hl⟩
  · rintro pre H W W' ⟨c, G, h⟩ hkeep
    obtain ⟨G', h'⟩ := part (hIx c) pre H W W' ⟨G, h⟩ hkeep
    exact ⟨c, G', h'⟩
  · -- one round
    rintro pre H x W ⟨G, rfl, hi, hl, hd, n1, n2⟩ hpre
    have hy := run_yield (P := P) (args := encs x) hl (by rw [hrec]; exact hps x)
    rw [hrec] at hy
    refine ⟨fn, _, assign, body, hy, roundIn_of_wpIn hfn (hassign _ pre G x W _ hi ?_)⟩
    clear hy
    intro a' Wa hba hax
    have hla : obj Wa (w.heap.size + 1) = _ := (obj_below hba (lt_of_obj hl)).trans hl
    have hda : obj Wa w.heap.size = _ := (obj_below hba (lt_of_obj hd)).trans hd
    have hia : I pre G Wa := hI _ _ _ _ hi (Keeps.of_below hba)
    have hlt := lt_of_obj hla
    refine ⟨_, run_beginRound hla (by rw [hrec]), ?_⟩
    have kb := keeps_put Wa (w.heap.size + 1) (.loop { rec_ .ready none with state := .busy })
    have hlb : obj (Wa.putObj (w.heap.size + 1) (.loop { rec_ .ready none with state := .busy })) (w.heap.size + 1) = some (.loop { rec_ .ready none with state := .busy }) := World.putObj_heap_same hlt
    have hdb : obj (Wa.putObj (w.heap.size + 1) (.loop { rec_ .ready none with state := .busy })) w.heap.size = some (.deferred (some [])) := (World.putObj_heap_other (by omega)).trans hda
    have kwb : Keeps (fun k => G k ∨ k = w.heap.size + 1) W (Wa.putObj (w.heap.size + 1) (.loop { rec_ .ready none with state := .busy })) := (Keeps.of_below hba).trans (kb.mono fun k hk => .inr hk)
    have hib := hI _ _ _ _ hia (kb.mono fun k hk => ⟨by omega, by rw [hk]; exact n1⟩)
    have haxb := hAx _ _ _ _ _ (.loop { rec_ .ready none with state := .busy }) hax hla rfl
    generalize hWb : Wa.putObj (w.heap.size + 1) (.loop { rec_ .ready none with state := .busy }) = Wb at *
    refine wpIn_mono (hbody _ pre G x a' Wb (by omega) (lt_of_obj hlb) n1 hib haxb hpre) ?_
    have fin : ∀ (jump : Option Code) (W3 : World) (G' : Nat → Prop), Keeps G Wb W3 → GrowsG Wb G G' →
        (Instr.endRound (w.heap.size + 1) jump).run P W3 = .ok (.bool jump.isNone) (W3.putObj (w.heap.size + 1) (.loop (rec_ (if jump.isNone then .ready else .done) jump))) ∧
        obj (W3.putObj (w.heap.size + 1) (.loop (rec_ (if jump.isNone then .ready else .done) jump))) (w.heap.size + 1) = some (.loop (rec_ (if jump.isNone then .ready else .done) jump)) ∧
        obj (W3.putObj (w.heap.size + 1) (.loop (rec_ (if jump.isNone then .ready else .done) jump))) w.heap.size = some (.deferred (some [])) ∧ ¬ G' (w.heap.size + 1) ∧ ¬ G' w.heap.size ∧
        Keeps (fun k => G k ∨ k = w.heap.size + 1) W (W3.putObj (w.heap.size + 1) (.loop (rec_ (if jump.isNone then .ready else .done) jump))) ∧
        GrowsG W (fun k => G k ∨ k = w.heap.size + 1) (fun k => G' k ∨ k = w.heap.size + 1) := by
      intro jump W3 G' hk3 hg3
      have hl3 : obj W3 (w.heap.size + 1) = _ := (hk3.block _ (lt_of_obj hlb) n1).trans hlb
      have hr := run_endRound (P := P) jump hl3
      rw [hrec] at hr ⊢
      have hz3 := lt_of_obj hlb
      refine ⟨hr, World.putObj_heap_same (lt_of_obj hl3), (World.putObj_heap_other (by omega)).trans ((hk3.block _ (lt_of_obj hdb) n2).trans hdb), ?_, ?_, (kwb.trans (hk3.mono fun k hk => .inl hk)).trans ((keeps_put _ _ _).mono fun k hk => .inr hk), ?_⟩
      · intro hg; rcases hg3 _ hg with h | h
        · exact n1 h
        · omega
      · intro hg; rcases hg3 _ hg with h | h
        · exact n2 h
        · omega
      · intro k hk
        rcases hk with hk | hk
        · rcases hg3 k hk with h | h
          · exact .inl (.inl h)
          · exact .inr (by have := kwb.size; omega)
        · exact .inl (.inr hk)
    rintro e a3 W3 hp
    cases e with
    | normal =>
      obtain ⟨G', hi3, hk3, hg3⟩ := hp
      obtain ⟨hr, hl4, hd4, m1, m2, k4, g4⟩ := fin none W3 G' hk3 hg3
      refine ⟨_, _, hr, _, true, rfl, .inl ⟨rfl, G', rfl, hI _ _ _ _ hi3 ((keeps_put _ _ _).mono fun k hk => ⟨by omega, by rw [hk]; exact m1⟩), hl4, hd4, m1, m2⟩, k4, g4⟩
    | ret =>
      obtain ⟨G', hi3, hk3, hg3⟩ := hp
      obtain ⟨hr, hl4, hd4, m1, m2, k4, g4⟩ := fin (some .ret) W3 G' hk3 hg3
      exact ⟨_, _, hr, _, false, rfl, .inr ⟨rfl, .ret, G', rfl, hIx _ _ _ _ _ hi3 ((keeps_put _ _ _).mono fun k hk => ⟨by omega, by rw [hk]; exact m1⟩), hl4, hd4, m1, m2⟩, k4, g4⟩
    | exit id =>
      obtain ⟨G', hi3, hk3, hg3⟩ := hp
      obtain ⟨hr, hl4, hd4, m1, m2, k4, g4⟩ := fin (some (.exit id)) W3 G' hk3 hg3
      exact ⟨_, _, hr, _, false, rfl, .inr ⟨rfl, .exit id, G', rfl, hIx _ _ _ _ _ hi3 ((keeps_put _ _ _).mono fun k hk => ⟨by omega, by rw [hk]; exact m1⟩), hl4, hd4, m1, m2⟩, k4, g4⟩
    | goto t =>
      obtain ⟨G', hi3, hk3, hg3⟩ := hp
      obtain ⟨hr, hl4, hd4, m1, m2, k4, g4⟩ := fin (some (.goto t)) W3 G' hk3 hg3
      exact ⟨_, _, hr, _, false, rfl, .inr ⟨rfl, .goto t, G', rfl, hIx _ _ _ _ _ hi3 ((keeps_put _ _ _).mono fun k hk => ⟨by omega, by rw [hk]; exact m1⟩), hl4, hd4, m1, m2⟩, k4, g4⟩
    | panic ch => exact hp.elim
    | outgrown => exact hp.elim
  · -- behind the iterator
    have over : ∀ (W2 : World) (o' : Obj), Keeps (fun k => G0 k ∨ k = w.heap.size + 1) W1 W2 → Keeps G0 w (W2.putObj (w.heap.size + 1) o') := fun W2 o' hk => by
      have h2 := hk.trans ((keeps_put W2 (w.heap.size + 1) o').mono (G := fun k => G0 k ∨ k = w.heap.size + 1) fun k hk => .inr hk)
      exact ⟨h2.os.trans hbw.os, h2.tape.trans hbw.tape, h2.output.trans hbw.output, Nat.le_trans hbw.size h2.size, fun k hk' hg => (h2.block k (by omega) (fun h => by rcases h with h | h; exact hg h; omega)).trans (obj_below hbw hk')⟩
    have grow : ∀ {G : Nat → Prop}, GrowsG W1 (fun k => G0 k ∨ k = w.heap.size + 1) (fun k => G k ∨ k = w.heap.size + 1) → GrowsG w G0 G := fun h k hk => by
      rcases h k (.inl hk) with (h | h) | h
      · exact .inl h
      · exact .inr (by omega)
      · exact .inr (by omega)
    rintro e W2 ⟨⟨v, rfl⟩, H, hJ, hk, hgr⟩
    rcases hJ with ⟨ys, hfi, G, rfl, hi, hl, hd, n1, n2⟩ | ⟨pre, hpre, c, G, rfl, hi, hl, hd, n1, n2⟩
    · have hend := run_endLoop (P := P) hl (by rw [hrec]; simp)
      rw [hrec] at hend
      exact ⟨none, _, hend, hdone _ ys G _ (Nat.le_refl _) n2 hfi (hI _ _ _ _ hi ((keeps_put _ _ _).mono fun k hk => ⟨by omega, by rw [hk]; exact n1⟩)) (over _ _ hk) (grow hgr) ((World.putObj_heap_other (by omega)).trans hd)⟩
    · have hend := run_endLoop (P := P) hl (by rw [hrec]; simp)
      rw [hrec] at hend
      exact ⟨some c, _, hend, hstop _ c pre G _ (Nat.le_refl _) n2 hpre (hIx _ _ _ _ _ hi ((keeps_put _ _ _).mono fun k hk => ⟨by omega, by rw [hk]; exact n1⟩)) (over _ _ hk) (grow hgr) ((World.putObj_heap_other (by omega)).trans hd)⟩
end
end Go.Proofs.Ytnaknoebjbmboaa
