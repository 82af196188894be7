import Derived.Test.YtfejhekoijemdaaIter
import Derived.Maps.AppendAt
namespace Go.Proofs.Ytfejhekoijemdaa
open Go.RowKit Go.Shelf

/-! ### ranges over functions whose rounds own blocks: an iterator may range over another one -/
section
variable {α : Type} {F : Fence} {n : Nat} {P : Program}
/-- what is said of blocks that the rounds own, and of those below B, abides whatever else turns -/
def AbidesG (B : Nat) (J : List α → (Nat → Prop) → World → Prop) : Prop :=
  ∀ pre G W W', J pre G W → Keeps (fun k => B ≤ k ∧ ¬ G k) W W' → J pre G W'
/-- blocks that were owned, or new ones -/
def GrowsG (W : World) (G G' : Nat → Prop) : Prop := ∀ k, G' k → G k ∨ W.heap.size ≤ k
theorem GrowsG.refl (W : World) (G : Nat → Prop) : GrowsG W G G := fun _ h => .inl h
theorem GrowsG.trans {W W' : World} {G G' G'' : Nat → Prop} (h1 : GrowsG W G G') (h2 : GrowsG W' G' G'') (hz : W.heap.size ≤ W'.heap.size) : GrowsG W G G'' := fun k h => by
  rcases h2 k h with h | h
  · exact h1 k h
  · exact .inr (Nat.le_trans hz h)
def AbidesG.owned (D : Nat → Prop) (J : List α → (Nat → Prop) → World → Prop) : Prop := ∀ pre G W, J pre G W → ∀ k, G k → ¬ D k ∧ k < W.heap.size
/-- what an iterator reads lies as it lay -/
structure Agree (D : Nat → Prop) (w W : World) : Prop where
  size : w.heap.size ≤ W.heap.size
  block : ∀ k, D k → obj W k = obj w k
theorem Agree.refl (D : Nat → Prop) (w : World) : Agree D w w := ⟨Nat.le_refl _, fun _ _ => rfl⟩
theorem Agree.trans {D : Nat → Prop} {a b c : World} (h : Agree D a b) (k : Agree D b c) : Agree D a c := ⟨Nat.le_trans h.size k.size, fun i hi => (k.block i hi).trans (h.block i hi)⟩
theorem Agree.of_below {D : Nat → Prop} {w W : World} (hD : ∀ k, D k → k < w.heap.size) (h : Below w.heap.size w W) : Agree D w W := ⟨h.size, fun k hk => obj_below h (hD k hk)⟩
theorem Agree.keeps {D G : Nat → Prop} {w W W' : World} (h : Agree D w W) (hD : ∀ k, D k → k < w.heap.size) (hG : ∀ k, G k → ¬ D k) (hk : Keeps G W W') : Agree D w W' :=
  ⟨Nat.le_trans h.size hk.size, fun k hd => (hk.block k (Nat.lt_of_lt_of_le (hD k hd) h.size) (fun hg => hG k hg hd)).trans (h.block k hd)⟩
/-- what a round leaves -/
def RoundG (J Jx : List α → (Nat → Prop) → World → Prop) (pre : List α) (G : Nat → Prop) (W : World) (e : Ending) (W' : World) : Prop :=
  ∃ (G' : Nat → Prop) (t : Bool), e = .returned (.bool t) ∧ (t = true ∧ J pre G' W' ∨ t = false ∧ Jx pre G' W') ∧ Keeps G W W' ∧ GrowsG W G G'
/-- what an iterator leaves -/
def EndG (J Jx : List α → (Nat → Prop) → World → Prop) (xs : List α) (G : Nat → Prop) (W : World) (e : Ending) (W' : World) : Prop :=
  (∃ v, e = .returned v) ∧ ∃ G', ((J xs G' W') ∨ (∃ pre, pre <+: xs ∧ Jx pre G' W')) ∧ Keeps G W W' ∧ GrowsG W G G'
/-- an iterator that hands over these, in this order; what it reads lies in the blocks D of w0 -/
def SeqG (F : Fence) (n : Nat) (P : Program) (g : Nat) (lb : Array Value) (encs : α → Array Value) (xs : List α) (D : Nat → Prop) (w0 : World) : Prop :=
  ∀ (l : Nat) (J Jx : List α → (Nat → Prop) → World → Prop) (W : World) (G0 : Nat → Prop), Agree D w0 W → AbidesG.owned D J → AbidesG W.heap.size J → AbidesG W.heap.size Jx →
    (∀ pre G x W1, J pre G W1 → pre ++ [x] <+: xs → YieldAt F (n - 1) P l (encs x) W1 (RoundG J Jx (pre ++ [x]) G W1)) → J [] G0 W →
    CallsIn F n P g (#[.func (.yield l) #[] #[]] ++ lb) W (EndG J Jx xs G0 W)
/-- the wide fence bounds no depth -/
theorem RoundIn.wide {m m' : Nat} {P : Program} {l : Nat} {f : FuncId} {tmps : Array Value} {assign body : Code} {w : World} {R : Ending → World → Prop}
    (h : RoundIn Fence.wide m P l f tmps assign body w R) : RoundIn Fence.wide m' P l f tmps assign body w R := ⟨h.1, fun c cs _ => h.2 c cs (fun _ hd => by cases hd)⟩
/-- how the body of a round may be left -/
def bodyG (I : List α → (Nat → Prop) → World → Prop) (Ix : Code → List α → (Nat → Prop) → World → Prop) (xs : List α) (G : Nat → Prop) (W : World) : Exit → Act → World → Prop
  | .normal, _, W' => ∃ G', I xs G' W' ∧ Keeps G W W' ∧ GrowsG W G G'
  | .ret, _, W' => ∃ G', Ix .ret xs G' W' ∧ Keeps G W W' ∧ GrowsG W G G'
  | .exit id, _, W' => ∃ G', Ix (.exit id) xs G' W' ∧ Keeps G W W' ∧ GrowsG W G G'
  | .goto t, _, W' => ∃ G', Ix (.goto t) xs G' W' ∧ Keeps G W W' ∧ GrowsG W G G'
  | .panic _, _, _ => False
  | .outgrown, _, _ => False
theorem keeps_put (W : World) (l : Nat) (o : Obj) : Keeps (fun k => k = l) W (W.putObj l o) :=
  ⟨rfl, rfl, rfl, by simp [World.putObj], fun _ _ hk => World.putObj_heap_other hk⟩
theorem keeps_of_new {W W' : World} (h : Below W.heap.size W W') : Keeps (fun _ => False) W W' := Keeps.of_below h
/-- the statement -/
theorem wpIn_range_own {g : Operand} {ps : Array Tmp} {assign body : Code} {Q : Exit → Act → World → Prop} {a : Act} {w : World}
    (hro : F.round = none) (h1 : 1 ≤ n) {gf : Nat} {lb : Array Value} (hg : a.eval g = .func (.func gf) #[] lb) (hFg : F.fn gf) (eg : ∀ args w, (callFunc gf args).run P w = .ok (.enter gf args) w)
    {encs : α → Array Value} {xs : List α} {D : Nat → Prop} {w0 : World} (hDlt : ∀ k, D k → k < w0.heap.size) (hseq : SeqG F (n - 1) P gf lb encs xs D w0) (hb0 : Agree D w0 w) (hps : ∀ x, (encs x).size = ps.size)
    (I : List α → (Nat → Prop) → World → Prop) (Ix : Code → List α → (Nat → Prop) → World → Prop) (hIo : AbidesG.owned D I) (hI : AbidesG w.heap.size I) (hIx : ∀ c, AbidesG w.heap.size (Ix c)) (G0 : Nat → Prop) (h0 : I [] G0 w)
    (Ax : α → Act → World → Prop) (hAx : ∀ x a' W r o o', Ax x a' W → W.heap[r]? = some o → o.isCells = false → Ax x a' (W.putObj r o'))
    (hassign : ∀ (l : Nat) (pre : List α) (G : Nat → Prop) (x : α) (W : World) (K : Act → World → Prop), I pre G W → (∀ a' W', Below W.heap.size W W' → Ax x a' W' → K a' W') →
      assign.wpIn (F.inRound l) (n - 1 - 1) P (Exit.then K (fun _ _ _ => False)) { tmps := (ps.zip (encs x)).foldl (fun t (p, v) => t.setIfInBounds p v) a.tmps, defers := [] } W)
    (hbody : ∀ (l : Nat) (pre : List α) (G : Nat → Prop) (x : α) (a' : Act) (W : World), w.heap.size ≤ l → l < W.heap.size → ¬ G l → I pre G W → Ax x a' W → pre ++ [x] <+: xs → body.wpIn (F.inRound l) (n - 1 - 1) P (bodyG I Ix (pre ++ [x]) G W) a' W)
    (hdone : ∀ (d : Nat) (G : Nat → Prop) (W : World), w.heap.size ≤ d → ¬ G d → I xs G W → Keeps G0 w W → GrowsG w G0 G → W.heap[d]? = some (.deferred (some [])) → Q .normal { a with defers := { target := .collected d, args := #[] } :: a.defers } W)
    (hstop : ∀ (d : Nat) (c : Code) (pre : List α) (G : Nat → Prop) (W : World), w.heap.size ≤ d → ¬ G d → pre <+: xs → Ix c pre G W → Keeps G0 w W → GrowsG w G0 G → W.heap[d]? = some (.deferred (some [])) → c.wpIn F n P Q { a with defers := { target := .collected d, args := #[] } :: a.defers } W) :
    (Code.rangeFunc g ps assign body).wpIn F n P Q a w := by
  refine wpIn_rangeFunc fun fn hfn => ?_
  rw [hro]
  let rec_ : LoopState → Option Code → Loop := fun st pe => { state := st, pending := pe, fn, tmps := a.tmps, params := ps, assign, body, defers := w.heap.size }
  have hrec : ∀ st pe, rec_ st pe = { state := st, pending := pe, fn, tmps := a.tmps, params := ps, assign, body, defers := w.heap.size } := fun _ _ => rfl
  clear_value rec_
  obtain ⟨W1, hW1⟩ : ∃ W1, (w.alloc (.deferred (some []))).alloc (.loop (rec_ .ready none)) = W1 := ⟨_, rfl⟩
  have hbw : Below w.heap.size w W1 := by rw [← hW1]; exact ((Below.refl _ w).alloc (Nat.le_refl _) _).alloc (by simp) _
  have hL : obj W1 (w.heap.size + 1) = some (.loop (rec_ .ready none)) := by rw [← hW1]; exact obj_alloc_at _ _ _ (by simp)
  have hD : obj W1 w.heap.size = some (.deferred (some [])) := by rw [← hW1]; exact (obj_alloc_past _ _ _ (by simp)).trans (obj_alloc_at _ _ _ rfl)
  have hsz1 : W1.heap.size = w.heap.size + 2 := by rw [← hW1]; simp
  have hz0 := hb0.size
  refine ⟨w.heap.size + 1, [{ target := .collected w.heap.size, args := #[] }], W1, { target := .fn (.func gf) lb, args := #[.func (.yield (w.heap.size + 1)) #[] #[]] }, W1, gf,
    #[.func (.yield (w.heap.size + 1)) #[] #[]] ++ lb, W1, ?_, ?_, ?_, ?_, fun _ => h1, ?_⟩
  · rw [← hW1, hrec]; exact run_enterLoop_outer _ _ _ _ _
  · simp only [resolve, hg]
    simp [go_sem]
  · intro f' hf'
    simp [Target.leads] at hf'
    subst hf'
    exact hFg
  · simp [invoke, go_sem, eg]
  -- the two blocks of book-keeping beside what the rounds own
  have part : ∀ {K : List α → (Nat → Prop) → World → Prop} {st : LoopState} {pe : Option Code}, AbidesG w.heap.size K →
      AbidesG W1.heap.size (fun pre H W => ∃ G, H = (fun k => G k ∨ k = w.heap.size + 1) ∧ K pre G W ∧ obj W (w.heap.size + 1) = some (.loop (rec_ st pe)) ∧ obj W w.heap.size = some (.deferred (some [])) ∧ ¬ G (w.heap.size + 1) ∧ ¬ G w.heap.size) := by
    rintro K st pe hK pre H W W' ⟨G, rfl, hk, hl, hd, n1, n2⟩ hkeep
    refine ⟨G, rfl, hK _ _ _ _ hk (hkeep.mono fun k hk' => ⟨by omega, fun hg => hk'.2 (.inl hg)⟩), ?_, ?_, n1, n2⟩
    · exact (hkeep.block _ (lt_of_obj hl) (fun h => h.2 (.inr rfl))).trans hl
    · exact (hkeep.block _ (lt_of_obj hd) (fun h => by omega)).trans hd
  have hG0 := hIo [] G0 w h0
  refine (hseq (w.heap.size + 1)
    (fun pre H W => ∃ G, H = (fun k => G k ∨ k = w.heap.size + 1) ∧ I pre G W ∧ obj W (w.heap.size + 1) = some (.loop (rec_ .ready none)) ∧ obj W w.heap.size = some (.deferred (some [])) ∧ ¬ G (w.heap.size + 1) ∧ ¬ G w.heap.size)
    (fun pre H W => ∃ c G, H = (fun k => G k ∨ k = w.heap.size + 1) ∧ Ix c pre G W ∧ obj W (w.heap.size + 1) = some (.loop (rec_ .done (some c))) ∧ obj W w.heap.size = some (.deferred (some [])) ∧ ¬ G (w.heap.size + 1) ∧ ¬ G w.heap.size)
    W1 (fun k => G0 k ∨ k = w.heap.size + 1) (hb0.trans ⟨hbw.size, fun k hk => obj_below hbw (Nat.lt_of_lt_of_le (hDlt k hk) hz0)⟩) ?_ (part hI) ?_ ?_ ⟨G0, rfl, hI _ _ _ _ h0 (Keeps.of_below hbw), hL, hD, fun h => by have := (hG0 _ h).2; omega, fun h => by have := (hG0 _ h).2; omega⟩).mono ?_
  · rintro pre H W ⟨G, rfl, hi, hl, _, _, _⟩ k (hk | rfl)
    · exact hIo _ _ _ hi k hk
    · exact ⟨fun hd => by have := hDlt _ hd; omega, lt_of_obj hl⟩
  · rintro pre H W W' ⟨c, G, h⟩ hkeep
    obtain ⟨G', h'⟩ := part (hIx c) pre H W W' ⟨G, h⟩ hkeep
    exact ⟨c, G', h'⟩
  · -- one round
    rintro pre H x W ⟨G, rfl, hi, hl, hd, n1, n2⟩ hpre
    have hy := run_yield (P := P) (args := encs x) hl (by rw [hrec]; exact hps x)
    rw [hrec] at hy
    refine ⟨fn, _, assign, body, hy, roundIn_of_wpIn hfn (hassign _ pre G x W _ hi ?_)⟩
    clear hy
    intro a' Wa hba hax
    have hla : obj Wa (w.heap.size + 1) = _ := (obj_below hba (lt_of_obj hl)).trans hl
    have hda : obj Wa w.heap.size = _ := (obj_below hba (lt_of_obj hd)).trans hd
    have hia : I pre G Wa := hI _ _ _ _ hi (Keeps.of_below hba)
    have hlt := lt_of_obj hla
    refine ⟨_, run_beginRound hla (by rw [hrec]), ?_⟩
    have kb := keeps_put Wa (w.heap.size + 1) (.loop { rec_ .ready none with state := .busy })
    have hlb : obj (Wa.putObj (w.heap.size + 1) (.loop { rec_ .ready none with state := .busy })) (w.heap.size + 1) = some (.loop { rec_ .ready none with state := .busy }) := World.putObj_heap_same hlt
    have hdb : obj (Wa.putObj (w.heap.size + 1) (.loop { rec_ .ready none with state := .busy })) w.heap.size = some (.deferred (some [])) := (World.putObj_heap_other (by omega)).trans hda
    have kwb : Keeps (fun k => G k ∨ k = w.heap.size + 1) W (Wa.putObj (w.heap.size + 1) (.loop { rec_ .ready none with state := .busy })) := (Keeps.of_below hba).trans (kb.mono fun k hk => .inr hk)
    have hib := hI _ _ _ _ hia (kb.mono fun k hk => ⟨by omega, by rw [hk]; exact n1⟩)
    have haxb := hAx _ _ _ _ _ (.loop { rec_ .ready none with state := .busy }) hax hla rfl
    generalize hWb : Wa.putObj (w.heap.size + 1) (.loop { rec_ .ready none with state := .busy }) = Wb at *
    refine wpIn_mono (hbody _ pre G x a' Wb (by omega) (lt_of_obj hlb) n1 hib haxb hpre) ?_
    have fin : ∀ (jump : Option Code) (W3 : World) (G' : Nat → Prop), Keeps G Wb W3 → GrowsG Wb G G' →
        (Instr.endRound (w.heap.size + 1) jump).run P W3 = .ok (.bool jump.isNone) (W3.putObj (w.heap.size + 1) (.loop (rec_ (if jump.isNone then .ready else .done) jump))) ∧
        obj (W3.putObj (w.heap.size + 1) (.loop (rec_ (if jump.isNone then .ready else .done) jump))) (w.heap.size + 1) = some (.loop (rec_ (if jump.isNone then .ready else .done) jump)) ∧
        obj (W3.putObj (w.heap.size + 1) (.loop (rec_ (if jump.isNone then .ready else .done) jump))) w.heap.size = some (.deferred (some [])) ∧ ¬ G' (w.heap.size + 1) ∧ ¬ G' w.heap.size ∧
        Keeps (fun k => G k ∨ k = w.heap.size + 1) W (W3.putObj (w.heap.size + 1) (.loop (rec_ (if jump.isNone then .ready else .done) jump))) ∧
        GrowsG W (fun k => G k ∨ k = w.heap.size + 1) (fun k => G' k ∨ k = w.heap.size + 1) := by
      intro jump W3 G' hk3 hg3
      have hl3 : obj W3 (w.heap.size + 1) = _ := (hk3.block _ (lt_of_obj hlb) n1).trans hlb
      have hr := run_endRound (P := P) jump hl3
      rw [hrec] at hr ⊢
      have hz3 := lt_of_obj hlb
      refine ⟨hr, World.putObj_heap_same (lt_of_obj hl3), (World.putObj_heap_other (by omega)).trans ((hk3.block _ (lt_of_obj hdb) n2).trans hdb), ?_, ?_, (kwb.trans (hk3.mono fun k hk => .inl hk)).trans ((keeps_put _ _ _).mono fun k hk => .inr hk), ?_⟩
      · intro hg; rcases hg3 _ hg with h | h
        · exact n1 h
        · omega
      · intro hg; rcases hg3 _ hg with h | h
        · exact n2 h
        · omega
      · intro k hk
        rcases hk with hk | hk
        · rcases hg3 k hk with h | h
          · exact .inl (.inl h)
          · exact .inr (by have := kwb.size; omega)
        · exact .inl (.inr hk)
    rintro e a3 W3 hp
    cases e with
    | normal =>
      obtain ⟨G', hi3, hk3, hg3⟩ := hp
      obtain ⟨hr, hl4, hd4, m1, m2, k4, g4⟩ := fin none W3 G' hk3 hg3
      refine ⟨_, _, hr, _, true, rfl, .inl ⟨rfl, G', rfl, hI _ _ _ _ hi3 ((keeps_put _ _ _).mono fun k hk => ⟨by omega, by rw [hk]; exact m1⟩), hl4, hd4, m1, m2⟩, k4, g4⟩
    | ret =>
      obtain ⟨G', hi3, hk3, hg3⟩ := hp
      obtain ⟨hr, hl4, hd4, m1, m2, k4, g4⟩ := fin (some .ret) W3 G' hk3 hg3
      exact ⟨_, _, hr, _, false, rfl, .inr ⟨rfl, .ret, G', rfl, hIx _ _ _ _ _ hi3 ((keeps_put _ _ _).mono fun k hk => ⟨by omega, by rw [hk]; exact m1⟩), hl4, hd4, m1, m2⟩, k4, g4⟩
    | exit id =>
      obtain ⟨G', hi3, hk3, hg3⟩ := hp
      obtain ⟨hr, hl4, hd4, m1, m2, k4, g4⟩ := fin (some (.exit id)) W3 G' hk3 hg3
      exact ⟨_, _, hr, _, false, rfl, .inr ⟨rfl, .exit id, G', rfl, hIx _ _ _ _ _ hi3 ((keeps_put _ _ _).mono fun k hk => ⟨by omega, by rw [hk]; exact m1⟩), hl4, hd4, m1, m2⟩, k4, g4⟩
    | goto t =>
      obtain ⟨G', hi3, hk3, hg3⟩ := hp
      obtain ⟨hr, hl4, hd4, m1, m2, k4, g4⟩ := fin (some (.goto t)) W3 G' hk3 hg3
      exact ⟨_, _, hr, _, false, rfl, .inr ⟨rfl, .goto t, G', rfl, hIx _ _ _ _ _ hi3 ((keeps_put _ _ _).mono fun k hk => ⟨by omega, by rw [hk]; exact m1⟩), hl4, hd4, m1, m2⟩, k4, g4⟩
    | panic ch => exact hp.elim
    | outgrown => exact hp.elim
  · -- behind the iterator
    have over : ∀ (W2 : World) (o' : Obj), Keeps (fun k => G0 k ∨ k = w.heap.size + 1) W1 W2 → Keeps G0 w (W2.putObj (w.heap.size + 1) o') := fun W2 o' hk => by
      have h2 := hk.trans ((keeps_put W2 (w.heap.size + 1) o').mono (G := fun k => G0 k ∨ k = w.heap.size + 1) fun k hk => .inr hk)
      exact ⟨h2.os.trans hbw.os, h2.tape.trans hbw.tape, h2.output.trans hbw.output, Nat.le_trans hbw.size h2.size, fun k hk' hg => (h2.block k (by omega) (fun h => by rcases h with h | h; exact hg h; omega)).trans (obj_below hbw hk')⟩
    have grow : ∀ {G : Nat → Prop}, GrowsG W1 (fun k => G0 k ∨ k = w.heap.size + 1) (fun k => G k ∨ k = w.heap.size + 1) → GrowsG w G0 G := fun h k hk => by
      rcases h k (.inl hk) with (h | h) | h
      · exact .inl h
      · exact .inr (by omega)
      · exact .inr (by omega)
    rintro e W2 ⟨⟨v, rfl⟩, H, hJ, hk, hgr⟩
    rcases hJ with ⟨G, rfl, hi, hl, hd, n1, n2⟩ | ⟨pre, hpre, c, G, rfl, hi, hl, hd, n1, n2⟩
    · have hend := run_endLoop (P := P) hl (by rw [hrec]; simp)
      rw [hrec] at hend
      exact ⟨none, _, hend, hdone _ G _ (Nat.le_refl _) n2 (hI _ _ _ _ hi ((keeps_put _ _ _).mono fun k hk => ⟨by omega, by rw [hk]; exact n1⟩)) (over _ _ hk) (grow hgr) ((World.putObj_heap_other (by omega)).trans hd)⟩
    · have hend := run_endLoop (P := P) hl (by rw [hrec]; simp)
      rw [hrec] at hend
      exact ⟨some c, _, hend, hstop _ c pre G _ (Nat.le_refl _) n2 hpre (hIx _ _ _ _ _ hi ((keeps_put _ _ _).mono fun k hk => ⟨by omega, by rw [hk]; exact n1⟩)) (over _ _ hk) (grow hgr) ((World.putObj_heap_other (by omega)).trans hd)⟩
end
/-! ### a body that collects -/
theorem wpListIn_pushG {α : Type} {F : Fence} {n : Nat} {P : Program} {ops : Array Oper} {rest : List Oper} {o : Oper} {a : Act} {w : World} {Q : Exit → Act → World → Prop} {t E : TypeId} {i : TypeInfo} {z : Value} {k bytes : Nat}
    (ht : P.underlying t = some (.slice E)) (hi : P.info? E = some i) (hz : i.zero = some z) (hsize : i.size = k) (hby : i.bytes = bytes) (hzs : z.cells.size = k) (hk0 : 0 < k)
    (enc : α → List Value) (hk : ∀ x, (enc x).length = k) (hone : ∀ x, allOne (enc x).toArray = true)
    (hgd : o.guard = none) (s x : Operand) (ho : o.op = .call { callee := .builtin .append, args := #[s, x], argTypes := #[t, t] })
    (base : Nat) (v : Value) (xs : List α) (y : α) (hs : a.eval s = v) (hown : OwnS w base E k enc v xs) (g : Nat) (hx : a.eval x = .slice (some ⟨g, 0, none⟩) 1 1) (hg : obj w g = some (.cells (enc y).toArray E (0, 0)))
    (hlen : xs.length ≤ 1048576) (hbt : bytes ≤ 4096) (hbase : base ≤ w.heap.size)
    (h : ∀ v' w', OwnS w' base E k enc v' (xs ++ [y]) → w.grownBy w' v.ownBlock → (v'.ownBlock = v.ownBlock ∨ v'.ownBlock = some w.heap.size) → wpListIn F n P ops Q rest (a.put o.dst v') w') : wpListIn F n P ops Q (o :: rest) a w := by
  refine wpListIn_plain hgd fun K hK' => ?_
  have hb : (xs.length + 1) * bytes ≤ 1048577 * 4096 := Nat.mul_le_mul (by omega) hbt
  obtain ⟨v', w', hrun, r1, r2, r3, r4⟩ := run_append_own_at (P := P) w base t o.type E i z k bytes ht hi hz hsize hby hzs hk0 v xs.length (xs.flatMap enc) hown.1 ⟨g, 0, none⟩ 1 1 (enc y) (by rw [hk, Nat.one_mul])
    (fun j u hu => by rw [Addr.add_lit, cell_at hg]; simpa using hu) (fun u hu => by have := hone y; simp only [allOne, List.all_eq_true] at this; exact this u hu) (by unfold maxLen; omega) (by omega) hbase
  unfold Oper.wpIn
  refine ⟨?_, ?_⟩
  · simp [Oper.about, ho, resolve, Target.leads, Sem.run_pure]
  · rw [Oper.semAt_plain F _ _ (by rw [ho]; intro c hc'; cases hc')]
    simp [execOp, ho, resolve, invoke, builtin, hs, hx, hrun, Result.andThen]
    exact hK' _ _ (h v' w' ⟨by simpa using r1, by rw [r3]; simp⟩ r2 r4)
/-- a slice that grows, in a box at bx: the rounds own both -/
def GrowAt {α : Type} (T E k : Nat) (enc : α → List Value) (base bx : Nat) (pre : List α) (G : Nat → Prop) (W : World) : Prop :=
  ∃ sv, obj W bx = some (.cells #[sv] T (0, 0)) ∧ OwnS W base E k enc sv pre ∧ G = (fun k => k = bx ∨ sv.ownBlock = some k)
section
variable {α : Type} {T E k : Nat} {enc : α → List Value} {base bx : Nat}
theorem GrowAt.abides (B : Nat) : AbidesG B (GrowAt T E k enc base bx) := by
  rintro pre G W W' ⟨sv, h1, h2, rfl⟩ hk
  exact ⟨sv, (hk.block _ (lt_of_obj h1) (fun h => h.2 (.inl rfl))).trans h1, h2.keeps fun g hg => hk.block _ (h2.1.lt g hg).2 (fun h => h.2 (.inr hg)), rfl⟩
theorem GrowAt.owned {D : Nat → Prop} (h1 : ∀ k, D k → k < base) (h2 : ∀ k, D k → k < bx) : AbidesG.owned D (GrowAt T E k enc base bx) := by
  rintro pre G W ⟨sv, g1, g2, rfl⟩ k (rfl | hk)
  · exact ⟨fun hd => absurd (h2 _ hd) (by omega), lt_of_obj g1⟩
  · have := g2.1.lt k hk; exact ⟨fun hd => absurd (h1 _ hd) (by omega), this.2⟩
theorem OwnS.slice {w : World} {v : Value} {xs : List α} (h : OwnS w base E k enc v xs) : ∃ oa cap, v = .slice oa xs.length cap := by
  rcases h.1.2 with ⟨rfl, e⟩ | ⟨g', cap, cur, rfl, _⟩
  · exact ⟨none, 0, by rw [e]⟩
  · exact ⟨_, cap, rfl⟩
/-- what an append into the box leaves -/
theorem GrowAt.push {W W3 : World} {pre : List α} {y : α} {sv v' : Value} {o : Obj} (hTE : T ≠ E) (h1 : obj W bx = some (.cells #[sv] T (0, 0))) (h2 : OwnS W base E k enc sv pre)
    (h3 : OwnS W3 base E k enc v' (pre ++ [y])) (hg : (W.alloc o).grownBy W3 sv.ownBlock) (hb : v'.ownBlock = sv.ownBlock ∨ v'.ownBlock = some (W.alloc o).heap.size) :
    obj W3 bx = some (.cells #[sv] T (0, 0)) ∧ ∃ G', GrowAt T E k enc base bx (pre ++ [y]) G' (W3.setCell ⟨bx, 0, none⟩ v') ∧ Keeps (fun k => k = bx ∨ sv.ownBlock = some k) W (W3.setCell ⟨bx, 0, none⟩ v') ∧ GrowsG W (fun k => k = bx ∨ sv.ownBlock = some k) G' := by
  have hlt := lt_of_obj h1
  have hne : sv.ownBlock ≠ some bx := h2.ne h1 (fun cur e => by cases e; exact hTE rfl)
  have o3 : obj W3 bx = some (.cells #[sv] T (0, 0)) := (hg.block bx (by simp; omega) (fun e => hne e.symm)).trans ((obj_alloc_past _ _ _ hlt).trans h1)
  have hne3 : v'.ownBlock ≠ some bx := h3.ne o3 (fun cur e => by cases e; exact hTE rfl)
  refine ⟨o3, _, ⟨v', obj_setCell_at v' o3, h3.keeps fun g hg' => obj_setCell_ne _ ⟨bx, 0, none⟩ _ _ (fun e => hne3 (by rw [hg', e])), rfl⟩, ?_, ?_⟩
  · have hsz := hg.size
    have k3 : Keeps (fun k => k = bx ∨ sv.ownBlock = some k) W W3 := ⟨hg.os, hg.tape, hg.output, by simp at hsz; omega, fun j hj hn => (hg.block j (by simp; omega) (fun e => hn (.inr e.symm))).trans (obj_alloc_past _ _ _ hj)⟩
    exact k3.setCell (a := ⟨bx, 0, none⟩) (.inl (.inl rfl)) v'
  · rintro j (rfl | hj)
    · exact .inl (.inl rfl)
    · rcases hb with e | e
      · rw [e] at hj; exact .inl (.inr hj)
      · rw [e] at hj; simp at hj; exact .inr (by omega)
end
/-- a row's cells are not a box's -/
theorem ax_put {W : World} {c r : Nat} {o o' : Obj} {cs : Array Value} {T : TypeId} {fr : Nat × Nat} (h : obj W c = some (.cells cs T fr)) (ho : W.heap[r]? = some o) (hc : o.isCells = false) : obj (W.putObj r o') c = some (.cells cs T fr) := by
  have : c ≠ r := fun e => by subst e; have h1' : W.heap[c]? = _ := h; rw [h1'] at ho; cases ho; cases hc
  exact (World.putObj_heap_other this).trans h
theorem SlIn.of_obj {α : Type} {w W : World} {v : Value} {k : Nat} {enc : α → List Value} {xs : List α} (h : SlIn w v k enc xs) (hz : w.heap.size ≤ W.heap.size) (hk : ∀ a l c, v = .slice (some a) l c → obj W a.block = obj w a.block) : SlIn W v k enc xs := by
  obtain ⟨oa, cap, h1, h2, h3, h4⟩ := h
  refine ⟨oa, cap, h1, h2, h3, fun hl => ?_⟩
  obtain ⟨b, off, e, hb1, hr⟩ := h4 hl
  exact ⟨b, off, e, Nat.lt_of_lt_of_le hb1 hz, hr.of_obj (hk ⟨b, off, none⟩ xs.length cap (by rw [h1, e]))⟩
/-- a slice in a box, both among the blocks D -/
structure ValAt {α : Type} (T k : Nat) (enc : α → List Value) (D : Nat → Prop) (w : World) (Bs : Nat) (v : Value) (xs : List α) : Prop where
  box : obj w Bs = some (.cells #[v] T (0, 0))
  sl : SlIn w v k enc xs
  db : D Bs
  dv : ∀ a l c, v = .slice (some a) l c → D a.block
theorem ValAt.agree {α : Type} {T k : Nat} {enc : α → List Value} {D : Nat → Prop} {w W : World} {Bs : Nat} {v : Value} {xs : List α} (h : ValAt T k enc D w Bs v xs) (hb : Agree D w W) : ValAt T k enc D W Bs v xs :=
  ⟨(hb.block _ h.db).trans h.box, h.sl.of_obj hb.size fun a l c e => hb.block _ (h.dv a l c e), h.db, h.dv⟩
theorem take_snocA {α : Type} {xs : List α} {k : Nat} (h : k < xs.length) : xs.take (k + 1) = xs.take k ++ [xs[k]] := by
  rw [List.take_succ_eq_append_getElem h]
/-- the end of an iterator that ranges: its block for deferred calls is put away -/
theorem endG_put {α : Type} {J Jx : List α → (Nat → Prop) → World → Prop} {xs : List α} {G0 G : Nat → Prop} {W W' w : World} {B d : Nat} {o : Obj} (hJ : AbidesG B J) (hJx : AbidesG B Jx) (hB : B ≤ d) (hW : W.heap.size ≤ d) (hd : ¬ G d)
    (h : J xs G W' ∨ ∃ pre, pre <+: xs ∧ Jx pre G W') (hb : Below W.heap.size W w) (hk : Keeps G0 w W') (hg : GrowsG w G0 G) (v : Value) : EndG J Jx xs G0 W (.returned v) (W'.putObj d o) := by
  have kp := keeps_put W' d o
  have kq : Keeps (fun k => B ≤ k ∧ ¬ G k) W' (W'.putObj d o) := kp.mono fun k e => by subst e; exact ⟨hB, hd⟩
  refine ⟨⟨v, rfl⟩, G, ?_, ?_, fun k h => ?_⟩
  · rcases h with h | ⟨pre, hp, h⟩
    · exact .inl (hJ _ _ _ _ h kq)
    · exact .inr ⟨pre, hp, hJx _ _ _ _ h kq⟩
  · refine ⟨kp.os.trans (hk.os.trans hb.os), kp.tape.trans (hk.tape.trans hb.tape), kp.output.trans (hk.output.trans hb.output), Nat.le_trans hb.size (Nat.le_trans hk.size kp.size), fun k hk' hn => ?_⟩
    have := hb.size
    exact (kp.block k (by have := hk.size; omega) (by omega)).trans ((hk.block k (by omega) hn).trans (obj_below hb hk'))
  · rcases hg k h with h | h
    · exact .inl h
    · exact .inr (Nat.le_trans hb.size h)
end Go.Proofs.Ytfejhekoijemdaa
