import Derived.Test.YtmenfbfekfljbaaOpened
import Derived.Test.YtmenfbfekfljbaaEnough
import Derived.Test.YtmenfbfekfljbaaRnd
namespace Go.Proofs.Ytmenfbfekfljbaa
open Go.RowKit Go.Shelf
attribute [local go_sem] Oper.semAt_some

@[go_sem ↓] theorem hide_load41 (a : Addr) : loadVar 41 a = loadAgg 41 a := rfl
@[go_sem] theorem run_load41 (b off : Nat) (W : World) : (loadAgg 41 ⟨b, off, none⟩).run Try.prog W = loadRes Try.prog 41 ⟨b, off, none⟩ W (subOf (obj W b) off 32) := run_loadAgg Try.isAgg41 Try.sizeOf41 b off W
/-- is a poll for a name -/
def okP (zs : List FactX) (nd fr al : Int) (id : ID) (i : Nat) (z : FactX) : Bool :=
  match openedM nd z.x.poll ((zs.map (·.x)).take i) with
  | none => false
  | some m => !decide (m < fr) && enoughF (fun a => underM (zs.map (·.x)) a id) al z.vs
/-- how many polls in a row, among the first i facts, from their end -/
def pollsF (zs : List FactX) (nd fr al : Int) (id : ID) : Nat → Int
  | 0 => 0
  | i + 1 => match zs[i]? with
    | none => 0
    | some z => if z.x.kind = 7 ∧ z.x.node = nd then (if okP zs nd fr al id i z = true then pollsF zs nd fr al id i + 1 else 0) else pollsF zs nd fr al id i
theorem pollsF_succ {zs : List FactX} {nd fr al : Int} {id : ID} {i : Nat} (h : i < zs.length) : pollsF zs nd fr al id (i + 1) = if zs[i].x.kind = 7 ∧ zs[i].x.node = nd then (if okP zs nd fr al id i zs[i] = true then pollsF zs nd fr al id i + 1 else 0) else pollsF zs nd fr al id i := by
  conv => lhs; unfold pollsF
  rw [List.getElem?_eq_getElem h]
theorem results_cell1 {fn : Func} {P : Program} {w : World} {p : Tmp} {t1 : TypeId} {a1 : Addr} {v1 : Value} (h : fn.results = #[.cell p t1]) (tmps : Array Value) (hp : tmps.getD p undef = .pointer (some a1)) (hl1 : (loadVar t1 a1).run P w = .ok v1 w) : (results fn tmps).run P w = .ok v1 w := by
  have hp' : tmps[p]?.getD undef = .pointer (some a1) := by simpa using hp
  simp [results, h, hp', asAddr, hl1]
theorem okP_none {zs : List FactX} {nd fr al : Int} {id : ID} {i : Nat} {z : FactX} (h : openedM nd z.x.poll ((zs.map (·.x)).take i) = none) : okP zs nd fr al id i z = false := by
  unfold okP; rw [h]
theorem okP_some {zs : List FactX} {nd fr al : Int} {id : ID} {i : Nat} {z : FactX} {m : Int} (h : openedM nd z.x.poll ((zs.map (·.x)).take i) = some m) : okP zs nd fr al id i z = (!decide (m < fr) && enoughF (fun a => underM (zs.map (·.x)) a id) al z.vs) := by
  unfold okP; rw [h]
theorem RelAt.keeps {F : Nat → Prop} {w W : World} {ub m : Nat} {xs : List FactD} (h : RelAt w ub m xs) (hk : Keeps F w W) (h1 : ¬ F ub) (h2 : ¬ F m) : RelAt W ub m xs :=
  ⟨(hk.block ub (lt_of_obj h.box) h1).trans h.box, h.map.of_obj (hk.block m h.map.lt h2)⟩
theorem back_prefix {xs : List FactD} {pre : List (Nat × FactD)} {i : Nat} {x : FactD} (h : pre ++ [(i, x)] <+: backL xs) : i + 1 + pre.length = xs.length ∧ ∃ hi : i < xs.length, x = xs[i] := by
  have hl := h.length_le
  rw [backL_len, List.length_append, List.length_singleton] at hl
  have hlt : pre.length < (backL xs).length := by rw [backL_len]; omega
  have hg := h.getElem (i := pre.length) (by simp)
  rw [List.getElem_append_right (Nat.le_refl _), backL_get xs _ hlt (by omega)] at hg
  simp at hg
  obtain ⟨h1, h2⟩ := hg
  subst h1
  exact ⟨by omega, by omega, h2⟩
def poFrame (p : PlanD) (id : ID) (nd fr : Int) (b rb : Nat) (sl rel sq : Value) (q : Nat × FactD) (c : Nat) : Act :=
  { tmps := #[.agg (planL p).toArray, sl, .int .i64 nd, .int .i64 fr, .agg (idL id).toArray, .pointer (some ⟨b, 0, none⟩), .pointer (some ⟨b + 1, 0, none⟩), .pointer (some ⟨b + 1 + 1, 0, none⟩), .pointer (some ⟨b + 1 + 1 + 1, 0, none⟩), .pointer (some ⟨b + 1 + 1 + 1 + 1, 0, none⟩), .pointer (some ⟨b + 1 + 1 + 1 + 1 + 1, 0, none⟩), .pointer (some ⟨rb, 0, none⟩), .pointer (some ⟨rb + 1, 0, none⟩), .int .i64 (q.1 : Int), .pointer (some ⟨c, 0, none⟩), undef, undef, sl, rel, sl, sq, .int .i64 (q.1 : Int), .agg (factL q.2).toArray, undef, undef, undef, undef, undef, undef, undef, undef, undef, undef, undef, undef, undef, undef, undef, undef, undef, undef, undef, undef, undef, undef, undef, undef, undef, undef, undef, undef, undef, undef, undef, undef, undef, undef, undef, undef, undef, undef, undef, undef, undef, undef], defers := [] }
set_option maxRecDepth 100000 in
set_option maxHeartbeats 4000000 in
/-- judge.Polls -/
theorem polls_any (w : World) (p : PlanD) (v : Value) (zs : List FactX) (nd fr : Int) (id : ID) (h : SlIn w v 72 fxL zs) (hlen : zs.length ≤ 1000) (hin : ∀ z ∈ zs, Inner w z) (hal : p.al2 ≤ 9223372036854775807) (hvn : ∀ z ∈ zs, ∀ x ∈ z.vs, x.n ≤ 9223372036854775807) :
    Calls Try.prog 34 #[.agg (planL p).toArray, v, .int .i64 nd, .int .i64 fr, .agg (idL id).toArray] w fun e w' => e = .returned (.int .i64 (pollsF zs nd fr p.al2 id zs.length)) ∧ Below w.heap.size w w' := by
  refine (callsIn_wide (n := 6)).1 ?_
  refine callsIn_of_wp_marks Try.func34 rfl trivial ?_ rfl
  simp only [Try.ntmps34, List.size_toArray, List.length_cons, List.length_nil, Nat.reduceAdd, Nat.reduceSub, Array.replicate_succ, Array.replicate_zero, List.push_toArray, List.append_toArray, List.nil_append, List.cons_append]
  have HS : Hid (SlIn w v 72 factL (zs.map (·.x))) := Lib.hid (SlIn.map.2 h)
  have HLX : Hid ((zs.map (·.x)).length = zs.length) := Lib.hid (List.length_map _)
  have HIN := Lib.hid hin
  have HMK := fun W oa len cap => Lib.hid (mkBack W oa len cap)
  have HRL := fun W (hb : Below w.heap.size w W) => Lib.hid (related_any W v (zs.map (·.x)) (HS.out.below hb) (by rw [HLX.out]; exact hlen))
  obtain ⟨oa, cap, rfl, _, _, _⟩ := h
  have b1 : Below w.heap.size w ((((((w.alloc (.cells (planL p).toArray 41)).alloc (.cells #[.slice oa zs.length cap] 22)).alloc (.cells #[.int .i64 nd] 3)).alloc (.cells #[.int .i64 fr] 3)).alloc (.cells (idL id).toArray 45)).alloc (.cells #[.int .i64 0] 3)) := ((((((Below.refl _ w).alloc (Nat.le_refl _) _).alloc (by simp) _).alloc (by simp; omega) _).alloc (by simp; omega) _).alloc (by simp; omega) _).alloc (by simp; omega) _
  have HR1 := Lib.hid (HRL _ b1).out
  have B1 := Lib.hid b1
  have O0 : Hid (obj ((((((w.alloc (.cells (planL p).toArray 41)).alloc (.cells #[.slice oa zs.length cap] 22)).alloc (.cells #[.int .i64 nd] 3)).alloc (.cells #[.int .i64 fr] 3)).alloc (.cells (idL id).toArray 45)).alloc (.cells #[.int .i64 0] 3)) w.heap.size = some (.cells (planL p).toArray 41 (0, 0))) := Lib.hid (by simp [go_sem])
  have O1 : Hid (obj ((((((w.alloc (.cells (planL p).toArray 41)).alloc (.cells #[.slice oa zs.length cap] 22)).alloc (.cells #[.int .i64 nd] 3)).alloc (.cells #[.int .i64 fr] 3)).alloc (.cells (idL id).toArray 45)).alloc (.cells #[.int .i64 0] 3)) (w.heap.size + 1) = some (.cells #[.slice oa zs.length cap] 22 (0, 0))) := Lib.hid (by simp [go_sem])
  have O2 : Hid (obj ((((((w.alloc (.cells (planL p).toArray 41)).alloc (.cells #[.slice oa zs.length cap] 22)).alloc (.cells #[.int .i64 nd] 3)).alloc (.cells #[.int .i64 fr] 3)).alloc (.cells (idL id).toArray 45)).alloc (.cells #[.int .i64 0] 3)) (w.heap.size + 1 + 1) = some (.cells #[.int .i64 nd] 3 (0, 0))) := Lib.hid (by simp [go_sem])
  have O3 : Hid (obj ((((((w.alloc (.cells (planL p).toArray 41)).alloc (.cells #[.slice oa zs.length cap] 22)).alloc (.cells #[.int .i64 nd] 3)).alloc (.cells #[.int .i64 fr] 3)).alloc (.cells (idL id).toArray 45)).alloc (.cells #[.int .i64 0] 3)) (w.heap.size + 1 + 1 + 1) = some (.cells #[.int .i64 fr] 3 (0, 0))) := Lib.hid (by simp [go_sem])
  have O4 : Hid (obj ((((((w.alloc (.cells (planL p).toArray 41)).alloc (.cells #[.slice oa zs.length cap] 22)).alloc (.cells #[.int .i64 nd] 3)).alloc (.cells #[.int .i64 fr] 3)).alloc (.cells (idL id).toArray 45)).alloc (.cells #[.int .i64 0] 3)) (w.heap.size + 1 + 1 + 1 + 1) = some (.cells (idL id).toArray 45 (0, 0))) := Lib.hid (by simp [go_sem])
  have O5 : Hid (obj ((((((w.alloc (.cells (planL p).toArray 41)).alloc (.cells #[.slice oa zs.length cap] 22)).alloc (.cells #[.int .i64 nd] 3)).alloc (.cells #[.int .i64 fr] 3)).alloc (.cells (idL id).toArray 45)).alloc (.cells #[.int .i64 0] 3)) (w.heap.size + 1 + 1 + 1 + 1 + 1) = some (.cells #[.int .i64 0] 3 (0, 0))) := Lib.hid (by simp [go_sem])
  have hz0 : ((((((w.alloc (.cells (planL p).toArray 41)).alloc (.cells #[.slice oa zs.length cap] 22)).alloc (.cells #[.int .i64 nd] 3)).alloc (.cells #[.int .i64 fr] 3)).alloc (.cells (idL id).toArray 45)).alloc (.cells #[.int .i64 0] 3)).heap.size = w.heap.size + 6 := by simp
  clear hin b1 HRL
  gi_wp2
  refine ⟨trivial, (callsIn_wide.2 HR1.out).mono ?_⟩
  generalize (((((w.alloc (.cells (planL p).toArray 41)).alloc (.cells #[.slice oa zs.length cap] 22)).alloc (.cells #[.int .i64 nd] 3)).alloc (.cells #[.int .i64 fr] 3)).alloc (.cells (idL id).toArray 45)).alloc (.cells #[.int .i64 0] 3) = w0 at *
  rintro e w1 ⟨ub, m, rfl, hrel, b2, hub, hm⟩
  have hz1 := b2.size
  have P0 := Lib.hid ((obj_below b2 (by omega)).trans O0.out)
  have P1 := Lib.hid ((obj_below b2 (by omega)).trans O1.out)
  have P2 := Lib.hid ((obj_below b2 (by omega)).trans O2.out)
  have P3 := Lib.hid ((obj_below b2 (by omega)).trans O3.out)
  have P4 := Lib.hid ((obj_below b2 (by omega)).trans O4.out)
  have P5 := Lib.hid ((obj_below b2 (by omega)).trans O5.out)
  have B2 := Lib.hid (B1.out.trans (b2.mono (by omega)))
  have HREL := Lib.hid hrel
  have hubl := lt_of_obj hrel.box
  have hml := hrel.map.lt
  have bA : Below w1.heap.size w1 ((w1.alloc (.cells #[.map (some m), .func (.func 63) #[] #[.pointer (some ⟨ub, 0, none⟩)]] 85)).alloc (.cells #[.int .i64 0] 3)) := ((Below.refl _ _).alloc (Nat.le_refl _) _).alloc (by simp) _
  have c1 : ((w1.alloc (.cells #[.map (some m), .func (.func 63) #[] #[.pointer (some ⟨ub, 0, none⟩)]] 85)).alloc (.cells #[.int .i64 0] 3)).cell? ⟨w.heap.size + 1, 0, none⟩ = some (.slice oa zs.length cap) := cell_at ((obj_below bA (by omega)).trans P1.out) 0
  have z1 : w.heap.size + 1 < ((w1.alloc (.cells #[.map (some m), .func (.func 63) #[] #[.pointer (some ⟨ub, 0, none⟩)]] 85)).alloc (.cells #[.int .i64 0] 3)).heap.size := by simp; omega
  have bB : Below w1.heap.size w1 (((w1.alloc (.cells #[.map (some m), .func (.func 63) #[] #[.pointer (some ⟨ub, 0, none⟩)]] 85)).alloc (.cells #[.int .i64 0] 3)).alloc (.cells #[.slice oa zs.length cap] 22)) := bA.alloc (by simp; omega) _
  have R0 : Hid (obj (((w1.alloc (.cells #[.map (some m), .func (.func 63) #[] #[.pointer (some ⟨ub, 0, none⟩)]] 85)).alloc (.cells #[.int .i64 0] 3)).alloc (.cells #[.slice oa zs.length cap] 22)) w1.heap.size = some (.cells #[.map (some m), .func (.func 63) #[] #[.pointer (some ⟨ub, 0, none⟩)]] 85 (0, 0))) := Lib.hid ((obj_alloc_past _ _ _ (by simp; omega)).trans ((obj_alloc_past _ _ _ (by simp)).trans (obj_alloc_at _ _ _ rfl)))
  have N0 : Hid (obj (((w1.alloc (.cells #[.map (some m), .func (.func 63) #[] #[.pointer (some ⟨ub, 0, none⟩)]] 85)).alloc (.cells #[.int .i64 0] 3)).alloc (.cells #[.slice oa zs.length cap] 22)) (w1.heap.size + 1) = some (.cells #[.int .i64 0] 3 (0, 0))) := Lib.hid ((obj_alloc_past _ _ _ (by simp)).trans (obj_alloc_at _ _ _ (by simp)))
  have S0 : Hid (obj (((w1.alloc (.cells #[.map (some m), .func (.func 63) #[] #[.pointer (some ⟨ub, 0, none⟩)]] 85)).alloc (.cells #[.int .i64 0] 3)).alloc (.cells #[.slice oa zs.length cap] 22)) (w1.heap.size + 1 + 1) = some (.cells #[.slice oa zs.length cap] 22 (0, 0))) := Lib.hid (obj_alloc_at _ _ _ (by simp))
  have hzB : (((w1.alloc (.cells #[.map (some m), .func (.func 63) #[] #[.pointer (some ⟨ub, 0, none⟩)]] 85)).alloc (.cells #[.int .i64 0] 3)).alloc (.cells #[.slice oa zs.length cap] 22)).heap.size = w1.heap.size + 3 := by simp
  have BB := Lib.hid bB
  clear b2 hrel O0 O1 O2 O3 O4 O5 HR1 bA bB
  gi_wp2
  refine ⟨trivial, (callsIn_wide.2 (HMK _ _ _ _).out).mono ?_⟩
  rintro e w' ⟨rfl, rfl⟩
  gi_wp2
  clear c1 z1
  generalize (((w1.alloc (.cells #[.map (some m), .func (.func 63) #[] #[.pointer (some ⟨ub, 0, none⟩)]] 85)).alloc (.cells #[.int .i64 0] 3)).alloc (.cells #[.slice oa zs.length cap] 22)) = w2 at *
  have hbw2 : Below w.heap.size w w2 := B2.out.trans (BB.out.mono (by have := B2.out.size; omega))
  have hV2 : ValZ 22 72 factL (fun k => k < w.heap.size ∨ k = w1.heap.size + 1 + 1) w2 (w1.heap.size + 1 + 1) (.slice oa zs.length cap) (zs.map (·.x)) := by
    refine ⟨S0.out, HS.out.below hbw2, .inr rfl, fun a l c hl e => .inl ?_⟩
    obtain ⟨_, _, e1, _, _, h3⟩ := HS.out
    simp only [Value.slice.injEq] at e1
    obtain ⟨rfl, _, rfl⟩ := e1
    obtain ⟨bb, off, e2, hbb, _⟩ := h3 hl
    simp only [Value.slice.injEq] at e
    rw [e2] at e
    obtain ⟨e3, _⟩ := e
    cases e3
    exact hbb
  have hzw1 := B2.out.size
  have hD2 : ∀ k, (k < w.heap.size ∨ k = w1.heap.size + 1 + 1) → k < w2.heap.size := fun k hk => by omega
  generalize hT : pollsF zs nd fr p.al2 id zs.length = T at *
  refine wpIn_range_own rfl (by decide) (gf := 66) (lb := #[.pointer (some ⟨w1.heap.size + 1 + 1, 0, none⟩)]) rfl trivial eg66 hD2 (back_seq 5 (by omega) hD2 hV2) (Agree.refl _ _) (fun _ => rfl)
    (fun pre G W => G = (fun k => k = w1.heap.size + 1 ∨ k = w.heap.size + 1 + 1 + 1 + 1 + 1) ∧ Keeps (fun k => k = w1.heap.size + 1 ∨ k = w.heap.size + 1 + 1 + 1 + 1 + 1) w2 W ∧ obj W (w.heap.size + 1 + 1 + 1 + 1 + 1) = some (.cells #[.int .i64 0] 3 (0, 0)) ∧ ∃ n : Int, obj W (w1.heap.size + 1) = some (.cells #[.int .i64 n] 3 (0, 0)) ∧ 0 ≤ n ∧ n ≤ (pre.length : Int) ∧ n + pollsF zs nd fr p.al2 id (zs.length - pre.length) = T)
    (fun c pre G W => c = .ret ∧ G = (fun k => k = w1.heap.size + 1 ∨ k = w.heap.size + 1 + 1 + 1 + 1 + 1) ∧ Keeps (fun k => k = w1.heap.size + 1 ∨ k = w.heap.size + 1 + 1 + 1 + 1 + 1) w2 W ∧ obj W (w.heap.size + 1 + 1 + 1 + 1 + 1) = some (.cells #[.int .i64 T] 3 (0, 0)))
    ?hIo ?hI ?hIx (fun k => k = w1.heap.size + 1 ∨ k = w.heap.size + 1 + 1 + 1 + 1 + 1) ⟨rfl, Keeps.refl _ _, (obj_below BB.out (by omega)).trans P5.out, 0, N0.out, Int.le_refl _, Int.le_refl _, by rw [← hT]; simp⟩
    (fun x a' W => ∃ c, w2.heap.size ≤ c ∧ obj W c = some (.cells (factL x.2).toArray 54 (0, 0)) ∧ a' = poFrame p id nd fr w.heap.size w1.heap.size (.slice oa zs.length cap) (.agg #[.map (some m), .func (.func 63) #[] #[.pointer (some ⟨ub, 0, none⟩)]]) (.func (.func 66) #[] #[.pointer (some ⟨w1.heap.size + 1 + 1, 0, none⟩)]) x c)
    ?hAx ?assign ?body ?done ?stop
  case hIo =>
    rintro pre G W ⟨rfl, hk, _, n, h0, _⟩ k hk'
    have := hk.size
    exact ⟨by omega, by omega⟩
  case hI =>
    rintro pre G W W' ⟨rfl, hk0, hr0, n, h0, h1⟩ hk
    have := hk0.size
    refine ⟨rfl, ⟨hk.os.trans hk0.os, hk.tape.trans hk0.tape, hk.output.trans hk0.output, Nat.le_trans hk0.size hk.size, fun k h1 h2 => (hk.block k (by omega) (fun hh => by omega)).trans (hk0.block k h1 h2)⟩, (hk.block _ (lt_of_obj hr0) (fun hh => by omega)).trans hr0, n, (hk.block _ (lt_of_obj h0) (fun hh => by omega)).trans h0, h1⟩
  case hIx =>
    rintro c pre G W W' ⟨rfl, rfl, hk0, h0⟩ hk
    have := hk0.size
    exact ⟨rfl, rfl, ⟨hk.os.trans hk0.os, hk.tape.trans hk0.tape, hk.output.trans hk0.output, Nat.le_trans hk0.size hk.size, fun k h1 h2 => (hk.block k (by omega) (fun hh => by omega)).trans (hk0.block k h1 h2)⟩, (hk.block _ (lt_of_obj h0) (fun hh => by omega)).trans h0⟩
  case hAx =>
    rintro x a' W r o o' ⟨c, h0, h1, h2⟩ ho hc
    exact ⟨c, h0, ax_put h1 ho hc, h2⟩
  case assign =>
    rintro l pre G ⟨i, x⟩ W K ⟨_, hk0, _⟩ hK
    have HK := Lib.hid hK
    have hz := hk0.size
    clear hK hk0
    simp only [bkV]
    gi_wp2
    exact HK.out _ _ ((Below.refl _ W).alloc (Nat.le_refl _) _) ⟨W.heap.size, hz, obj_alloc_at _ _ _ rfl, rfl⟩
  case body =>
    rintro l pre G ⟨i, x⟩ a' W hl hlw hnl ⟨rfl, hkw, hrc, n, hn, hn0, hn1, hnT⟩ ⟨c, hcw, hc, rfl⟩ hpre
    obtain ⟨hip, hil, hx⟩ := back_prefix hpre
    have hiz : i < zs.length := by have := HLX.out; omega
    have hxz : x = zs[i].x := by rw [hx]; simp
    have hlen1 : zs.length - pre.length = i + 1 := by have := HLX.out; omega
    rw [hlen1, pollsF_succ hiz] at hnT
    have hnext : Hid (zs.length - (pre ++ [(i, x)]).length = i) := Lib.hid (by simp; omega)
    have hplen : Hid (((pre ++ [(i, x)]).length : Int) = (pre.length : Int) + 1) := Lib.hid (by simp)
    have hz := hkw.size
    have HOW : ∀ k, k < w1.heap.size → k ≠ w.heap.size + 1 + 1 + 1 + 1 + 1 → obj W k = obj w1 k := fun k h1 h2 => (hkw.block k (by omega) (by omega)).trans (obj_below BB.out h1)
    have p0 := (HOW _ (by omega) (by omega)).trans P0.out
    have p1 := (HOW _ (by omega) (by omega)).trans P1.out
    have p2 := (HOW _ (by omega) (by omega)).trans P2.out
    have p3 := (HOW _ (by omega) (by omega)).trans P3.out
    have p4 := (HOW _ (by omega) (by omega)).trans P4.out
    have zrc := lt_of_obj hrc
    have frc := frozen_at hrc 0
    have HRC := Lib.hid hrc
    have r0 := (hkw.block _ (show w1.heap.size < w2.heap.size by omega) (fun hh => by omega)).trans R0.out
    have hcl := lt_of_obj hc
    have zn := lt_of_obj hn
    obtain ⟨⟨g0, g1, g2, _⟩, ⟨g4, _⟩, ⟨_, g69, _, g71⟩⟩ := fact_parts (x := x) (W := W) (b := c) (o := 0) (by rw [hc, subOf_cells (by simp), subA_all (by simp)])
    rw [Nat.zero_add] at g1 g2 g69 g71
    have cnd : W.cell? ⟨w.heap.size + 1 + 1, 0, none⟩ = some (.int .i64 nd) := cell_at p2 0
    have cn : W.cell? ⟨w1.heap.size + 1, 0, none⟩ = some (.int .i64 n) := cell_at hn 0
    have fn := frozen_at hn 0
    have csl : W.cell? ⟨w.heap.size + 1, 0, none⟩ = some (.slice oa zs.length cap) := cell_at p1 0
    have l0 := lt_of_obj p0
    have l1 := lt_of_obj p1
    have l2 := lt_of_obj p2
    have l3 := lt_of_obj p3
    have l4 := lt_of_obj p4
    have lr := lt_of_obj r0
    have HWW : Hid (Below w.heap.size w W) := Lib.hid (hbw2.trans (hkw.below (B := w.heap.size) (fun k hk => by omega) (by omega)))
    have HK := Lib.hid hkw
    have HNN := Lib.hid hn
    have HC := Lib.hid hc
    have HP := Lib.hid (And.intro p0 (And.intro p3 (And.intro p4 r0)))
    have HRW := Lib.hid (HREL.out.keeps ((Keeps.of_below BB.out : Keeps (fun k => k = w1.heap.size + 1 ∨ k = w.heap.size + 1 + 1 + 1 + 1 + 1) w1 w2).trans hkw) (by omega) (by omega))
    have HZ := Lib.hid hnT
    have HXZ := Lib.hid hxz
    clear hx hxz hlen1 HOW p0 p1 p2 p3 p4 r0 hkw hn hrc hc hnT
    simp only [poFrame]
    by_cases hkk : x.kind = 7 ∧ x.node = nd
    · have e7 : (x.kind != 7) = false := by simp [hkk.1]
      have en : (x.node != nd) = false := by simp [hkk.2]
      have HZ2 : Hid (n + (if okP zs nd fr p.al2 id i zs[i] = true then pollsF zs nd fr p.al2 id i + 1 else 0) = T) := Lib.hid (by
        have := HZ.out
        rw [if_pos (by rw [← HXZ.out]; exact hkk)] at this
        exact this)
      obtain ⟨_, _, e1, q1, q2, q3⟩ := HS.out
      simp only [Value.slice.injEq] at e1
      obtain ⟨rfl, -, rfl⟩ := e1
      obtain ⟨bb, off, e2, -, -⟩ := q3 (by rw [HLX.out]; omega)
      subst e2
      have hicap : i ≤ cap := by rw [HLX.out] at q1; omega
      unfold maxLen at q2
      have HSL : Hid (∀ W', Below W.heap.size W W' → SlIn W' (.slice (some ⟨bb, off, none⟩) i cap) 72 factL ((zs.map (·.x)).take i)) := Lib.hid (fun W' hW' => by
        have h0 := HS.out.below (HWW.out.trans (hW'.mono HWW.out.size))
        rw [← HLX.out] at h0
        exact h0.take (by omega))
      have HOP := Lib.hid (fun W' (hW' : Below W.heap.size W W') => opened_any W' _ _ nd x.poll (HSL.out W' hW'))
      clear hkk HZ q1 q3 hil
      gi_wp2
      --STEPS
      have HOM : Hid (openedM nd x.poll ((zs.map (·.x)).take i) = openedM nd x.poll ((zs.map (·.x)).take i)) := Lib.hid rfl
      generalize hom : openedM nd x.poll ((zs.map (·.x)).take i) = om at HOP
      have HO2 := Lib.hid hom
      clear hom HOM
      refine wpIn_round_held (S := fun W' => Below W.heap.size W W') (by kernel_rfl) (by kernel_rfl) (Below.refl _ _).drew (fun hS => ?_)
      refine wpAnyH_take (i := 0) (oi := { dst := some 33, op := Op.load 22 (Operand.tmp 6), type := 22, pos := _, after := _, guard := none }) (v := (.slice (some ⟨bb, off, none⟩) zs.length cap)) rfl (by kernel_rfl) (by kernel_rfl) (by kernel_rfl) (fun _ _ _ h => nomatch h.1) (.inl ⟨by kernel_rfl, fun W' hW => by have c := (hW.cell l1).trans csl; have z := Nat.lt_of_lt_of_le l1 hW.size; go_simp⟩) hS ?_
      try simp only [Act.put, List.setIfInBounds_toArray, List.set_cons_zero, List.set_cons_succ]
      refine wpAnyH_take (i := 1) (oi := { dst := some 34, op := Op.move (Operand.tmp 13), type := 3, pos := _, after := _, guard := none }) (v := (.int .i64 (i : Int))) rfl (by kernel_rfl) (by kernel_rfl) (by kernel_rfl) (fun _ _ _ h => nomatch h.1) (.inl ⟨by kernel_rfl, fun W' hW => by go_simp⟩) hS ?_
      try simp only [Act.put, List.setIfInBounds_toArray, List.set_cons_zero, List.set_cons_succ]
      refine wpAnyH_take (i := 2) (oi := { dst := some 35, op := Op.slice 22 (Operand.tmp 33) none (some (Operand.tmp 34)) none, type := 22, pos := _, after := _, guard := none }) (v := (.slice (some ⟨bb, off, none⟩) i cap)) rfl (by kernel_rfl) (by kernel_rfl) (by kernel_rfl) (fun _ _ _ h => nomatch h.1) (.inl ⟨by kernel_rfl, fun W' hW => by go_simp⟩) hS ?_
      try simp only [Act.put, List.setIfInBounds_toArray, List.set_cons_zero, List.set_cons_succ]
      refine wpAnyH_take (i := 3) (oi := { dst := some 36, op := Op.load 3 (Operand.tmp 7), type := 3, pos := _, after := _, guard := none }) (v := (.int .i64 nd)) rfl (by kernel_rfl) (by kernel_rfl) (by kernel_rfl) (fun _ _ _ h => nomatch h.1) (.inl ⟨by kernel_rfl, fun W' hW => by have c := (hW.cell l2).trans cnd; have z := Nat.lt_of_lt_of_le l2 hW.size; go_simp⟩) hS ?_
      try simp only [Act.put, List.setIfInBounds_toArray, List.set_cons_zero, List.set_cons_succ]
      refine wpAnyH_take (i := 4) (oi := { dst := some 37, op := Op.fieldAddr 54 (Operand.tmp 14) 7, type := 0, pos := _, after := _, guard := none }) (v := (.pointer (some ⟨c, 69, none⟩))) rfl (by kernel_rfl) (by kernel_rfl) (by kernel_rfl) (fun _ _ _ h => nomatch h.1) (.inl ⟨by kernel_rfl, fun W' hW => by go_simp⟩) hS ?_
      try simp only [Act.put, List.setIfInBounds_toArray, List.set_cons_zero, List.set_cons_succ]
      refine wpAnyH_take (i := 5) (oi := { dst := some 38, op := Op.load 2 (Operand.tmp 37), type := 2, pos := _, after := _, guard := none }) (v := (.int .i64 x.poll)) rfl (by kernel_rfl) (by kernel_rfl) (by kernel_rfl) (fun _ _ _ h => nomatch h.1) (.inl ⟨by kernel_rfl, fun W' hW => by have c := (hW.cell hcl).trans g69; have z := Nat.lt_of_lt_of_le hcl hW.size; go_simp⟩) hS ?_
      try simp only [Act.put, List.setIfInBounds_toArray, List.set_cons_zero, List.set_cons_succ]
      refine wpAnyH_ready (rs := [6]) (by kernel_rfl) (by simp) (AllReadyH.cons rfl (fun K hK => ?_) AllReadyH.nil)
      go_simp
      refine (HOP.out _ hS).mono ?_
      rintro _ x1 ⟨rfl, hb1x⟩
      refine hK.out _ _ (hS.trans (hb1x.mono hS.size)) (fun hS1 => ?_)
      clear hK K
      try simp only [Act.put, List.setIfInBounds_toArray, List.set_cons_zero, List.set_cons_succ]
      refine wpAnyH_take (i := 7) (oi := { dst := some 32, op := Op.move (Operand.tmp 39), type := 96, pos := _, after := _, guard := none }) (v := (.tuple #[.int .i64 (om.getD 0), .bool om.isSome])) rfl (by kernel_rfl) (by kernel_rfl) (by kernel_rfl) (fun _ _ _ h => nomatch h.1) (.inl ⟨by kernel_rfl, fun W' hW => by go_simp⟩) hS1 ?_
      try simp only [Act.put, List.setIfInBounds_toArray, List.set_cons_zero, List.set_cons_succ]
      refine wpAnyH_take (i := 8) (oi := { dst := some 40, op := Op.extract (Operand.tmp 32) 0, type := 3, pos := _, after := _, guard := none }) (v := (.int .i64 (om.getD 0))) rfl (by kernel_rfl) (by kernel_rfl) (by kernel_rfl) (fun _ _ _ h => nomatch h.1) (.inl ⟨by kernel_rfl, fun W' hW => by go_simp⟩) hS1 ?_
      try simp only [Act.put, List.setIfInBounds_toArray, List.set_cons_zero, List.set_cons_succ]
      refine wpAnyH_take (i := 9) (oi := { dst := some 41, op := Op.extract (Operand.tmp 32) 1, type := 4, pos := _, after := _, guard := none }) (v := (.bool om.isSome)) rfl (by kernel_rfl) (by kernel_rfl) (by kernel_rfl) (fun _ _ _ h => nomatch h.1) (.inl ⟨by kernel_rfl, fun W' hW => by go_simp⟩) hS1 ?_
      try simp only [Act.put, List.setIfInBounds_toArray, List.set_cons_zero, List.set_cons_succ]
      refine wpAnyH_take (i := 10) (oi := { dst := some 15, op := Op.assign (Operand.tmp 40), type := 3, pos := _, after := _, guard := none }) (v := (.int .i64 (om.getD 0))) rfl (by kernel_rfl) (by kernel_rfl) (by kernel_rfl) (fun _ _ _ h => nomatch h.1) (.inl ⟨by kernel_rfl, fun W' hW => by go_simp⟩) hS1 ?_
      try simp only [Act.put, List.setIfInBounds_toArray, List.set_cons_zero, List.set_cons_succ]
      refine wpAnyH_take (i := 11) (oi := { dst := some 16, op := Op.assign (Operand.tmp 41), type := 4, pos := _, after := _, guard := none }) (v := (.bool om.isSome)) rfl (by kernel_rfl) (by kernel_rfl) (by kernel_rfl) (fun _ _ _ h => nomatch h.1) (.inl ⟨by kernel_rfl, fun W' hW => by go_simp⟩) hS1 ?_
      try simp only [Act.put, List.setIfInBounds_toArray, List.set_cons_zero, List.set_cons_succ]
      refine wpAnyH_done (by kernel_rfl) ⟨rfl, ?_⟩ _
      clear HOP
      have HB := Lib.hid hS1
      obtain ⟨p0, p3, p4, r0⟩ := HP.out
      have q0 := (obj_below hS1 l0).trans p0
      have q3 := (obj_below hS1 l3).trans p3
      have q4 := (obj_below hS1 l4).trans p4
      have qr := (obj_below hS1 lr).trans r0
      have qn := (obj_below hS1 zn).trans HNN.out
      have qrc := (obj_below hS1 zrc).trans HRC.out
      have qc := (obj_below hS1 hcl).trans HC.out
      obtain ⟨_, k2, _⟩ := plan_cells q0
      have cfr : x1.cell? ⟨w.heap.size + 1 + 1 + 1, 0, none⟩ = some (.int .i64 fr) := cell_at q3 0
      have pid : subOf (obj x1 (w.heap.size + 1 + 1 + 1 + 1)) 0 32 = some (idL id).toArray := by rw [q4, subOf_cells (by simp), subA_all (by simp)]
      have prl : subOf (obj x1 w1.heap.size) 0 2 = some #[.map (some m), .func (.func 63) #[] #[.pointer (some ⟨ub, 0, none⟩)]] := by rw [qr, subOf_cells (by simp), subA_all (by simp)]
      have cn1 : x1.cell? ⟨w1.heap.size + 1, 0, none⟩ = some (.int .i64 n) := cell_at qn 0
      have fn1 := frozen_at qn 0
      have crc1 : x1.cell? ⟨w.heap.size + 1 + 1 + 1 + 1 + 1, 0, none⟩ = some (.int .i64 0) := cell_at qrc 0
      have frc1 := frozen_at qrc 0
      have z0 := lt_of_obj q0
      have z3 := lt_of_obj q3
      have z4 := lt_of_obj q4
      have zr1 := lt_of_obj qr
      have zn1 := lt_of_obj qn
      have zrc1 := lt_of_obj qrc
      have zc1 := lt_of_obj qc
      obtain ⟨_, _, ⟨_, _, _, g71'⟩⟩ := fact_parts (x := x) (W := x1) (b := c) (o := 0) (by rw [qc, subOf_cells (by simp), subA_all (by simp)])
      rw [Nat.zero_add] at g71'
      unfold slV at g71'
      have ORC := Lib.hid qrc
      have ON := Lib.hid qn
      have HX1 := Lib.hid (HRW.out.below hS1)
      have HIZ := Lib.hid (HIN.out zs[i] (List.getElem_mem hiz)).2
      have hvz := hvn zs[i] (List.getElem_mem hiz)
      have HEN : Hid (Calls Try.prog 54 #[.agg #[.map (some m), .func (.func 63) #[] #[.pointer (some ⟨ub, 0, none⟩)]], .slice x.votes.a x.votes.len x.votes.cap, .agg (idL id).toArray, .int .i64 p.al2] x1 fun e w' => e = .returned (.bool (enoughF (fun a => underM (zs.map (·.x)) a id) p.al2 zs[i].vs)) ∧ Below x1.heap.size x1 w') := Lib.hid (by
        have hh := enough_any x1 ub m (zs.map (·.x)) (slV zs[i].x.votes) zs[i].vs id p.al2 HX1.out (HIZ.out.below (HWW.out.trans (hS1.mono HWW.out.size))) hal hvz
        rw [← HXZ.out] at hh
        exact hh)
      have HOX : Hid (openedM nd zs[i].x.poll ((zs.map (·.x)).take i) = om) := Lib.hid (by rw [← HXZ.out]; exact HO2.out)
      generalize hen2 : enoughF (fun a => underM (zs.map (·.x)) a id) p.al2 zs[i].vs = en2 at *
      clear q0 q3 q4 qr qn qrc qc p0 p3 p4 r0 hS1 hvz cnd cn fn csl g0 g1 g2 g4 g69 g71 frc e7 en
      cases om with
      | none =>
        have HOK : Hid (okP zs nd fr p.al2 id i zs[i] = false) := Lib.hid (okP_none HOX.out)
        have HNT : Hid (n = T) := Lib.hid (by
          have := HZ2.out
          rw [HOK.out] at this
          simpa using this)
        gi_wp2
        rename_i hKK
        refine ⟨trivial, hKK _ _ ?_⟩
        clear hKK
        gi_wp2
        exact ⟨_, ⟨rfl, rfl, (HK.out.trans (Keeps.of_below HB.out)).setCell (a := ⟨w.heap.size + 1 + 1 + 1 + 1 + 1, 0, none⟩) (.inl (.inr rfl)) _, by rw [HNT.out]; exact obj_setCell_at _ ORC.out⟩, (Keeps.of_below HB.out).setCell (a := ⟨w.heap.size + 1 + 1 + 1 + 1 + 1, 0, none⟩) (.inl (.inr rfl)) _, GrowsG.refl _ _⟩
      | some mm =>
        have HOKS : Hid (okP zs nd fr p.al2 id i zs[i] = (!decide (mm < fr) && en2)) := Lib.hid (by rw [okP_some HOX.out, hen2])
        by_cases hm : mm < fr
        · have dm : decide (mm < fr) = true := by simpa using hm
          have HOK : Hid (okP zs nd fr p.al2 id i zs[i] = false) := Lib.hid (by rw [HOKS.out, dm]; rfl)
          have HNT : Hid (n = T) := Lib.hid (by
            have := HZ2.out
            rw [HOK.out] at this
            simpa using this)
          clear hm
          gi_wp2
          rename_i hKK
          refine ⟨trivial, hKK _ _ ?_⟩
          clear hKK
          gi_wp2
          exact ⟨_, ⟨rfl, rfl, (HK.out.trans (Keeps.of_below HB.out)).setCell (a := ⟨w.heap.size + 1 + 1 + 1 + 1 + 1, 0, none⟩) (.inl (.inr rfl)) _, by rw [HNT.out]; exact obj_setCell_at _ ORC.out⟩, (Keeps.of_below HB.out).setCell (a := ⟨w.heap.size + 1 + 1 + 1 + 1 + 1, 0, none⟩) (.inl (.inr rfl)) _, GrowsG.refl _ _⟩
        · have dm : decide (mm < fr) = false := by simpa using hm
          clear hm
          gi_wp2
          refine ⟨trivial, (callsIn_wide.2 HEN.out).mono ?_⟩
          rintro e x2 ⟨rfl, hb2⟩
          have HB2 := Lib.hid (HB.out.trans (hb2.mono HB.out.size))
          have ORC2 := Lib.hid ((obj_below hb2 zrc1).trans ORC.out)
          have ON2 := Lib.hid ((obj_below hb2 zn1).trans ON.out)
          have y1 := lt_of_obj ORC2.out
          have y2 := lt_of_obj ON2.out
          have y3 := cell_at ORC2.out 0
          have y4 := cell_at ON2.out 0
          have y5 := frozen_at ORC2.out 0
          have y6 := frozen_at ON2.out 0
          simp at y3 y4
          clear hb2 HEN cn1 fn1 crc1 frc1
          cases en2 with
          | false =>
            have HOK : Hid (okP zs nd fr p.al2 id i zs[i] = false) := Lib.hid (by rw [HOKS.out]; simp)
            have HNT : Hid (n = T) := Lib.hid (by
              have := HZ2.out
              rw [HOK.out] at this
              simpa using this)
            gi_wp2
            exact ⟨_, ⟨rfl, rfl, (HK.out.trans (Keeps.of_below HB2.out)).setCell (a := ⟨w.heap.size + 1 + 1 + 1 + 1 + 1, 0, none⟩) (.inl (.inr rfl)) _, by rw [HNT.out]; exact obj_setCell_at _ ORC2.out⟩, (Keeps.of_below HB2.out).setCell (a := ⟨w.heap.size + 1 + 1 + 1 + 1 + 1, 0, none⟩) (.inl (.inr rfl)) _, GrowsG.refl _ _⟩
          | true =>
            have HOK : Hid (okP zs nd fr p.al2 id i zs[i] = true) := Lib.hid (by rw [HOKS.out, dm]; rfl)
            have HNT : Hid (n + (pollsF zs nd fr p.al2 id i + 1) = T) := Lib.hid (by
              have := HZ2.out
              rw [HOK.out, if_pos rfl] at this
              exact this)
            have hwr : IntKind.i64.wrap (n + 1) = n + 1 := by simp [IntKind.wrap, IntKind.signed, IntKind.bits]; have := HLX.out; omega
            gi_wp2
            exact ⟨_, ⟨rfl, (HK.out.trans (Keeps.of_below HB2.out)).setCell (a := ⟨w1.heap.size + 1, 0, none⟩) (.inl (.inl rfl)) _, (obj_setCell_ne _ ⟨w1.heap.size + 1, 0, none⟩ _ _ (by show w.heap.size + 1 + 1 + 1 + 1 + 1 ≠ w1.heap.size + 1; omega)).trans ORC2.out, n + 1, obj_setCell_at _ ON2.out, by omega, by rw [hplen.out]; omega, by rw [hnext.out]; have := HNT.out; omega⟩, (Keeps.of_below HB2.out).setCell (a := ⟨w1.heap.size + 1, 0, none⟩) (.inl (.inl rfl)) _, GrowsG.refl _ _⟩
    · have HNX : Hid (n + pollsF zs nd fr p.al2 id i = T) := Lib.hid (by
        have := HZ.out
        rw [if_neg (by rw [← HXZ.out]; exact hkk)] at this
        exact this)
      by_cases hk7 : x.kind = 7
      · have e7 : (x.kind != 7) = false := by simp [hk7]
        have en : (x.node != nd) = true := by
          have : ¬ x.node = nd := fun h => hkk ⟨hk7, h⟩
          simp [this]
        clear hkk hk7
        gi_wp2
        exact ⟨_, ⟨rfl, HK.out, HRC.out, n, HNN.out, hn0, by rw [hplen.out]; omega, by rw [hnext.out]; exact HNX.out⟩, Keeps.refl _ _, GrowsG.refl _ _⟩
      · have e7 : (x.kind != 7) = true := by simp [hk7]
        clear hkk hk7
        gi_wp2
        exact ⟨_, ⟨rfl, HK.out, HRC.out, n, HNN.out, hn0, by rw [hplen.out]; omega, by rw [hnext.out]; exact HNX.out⟩, Keeps.refl _ _, GrowsG.refl _ _⟩
  case done =>
    rintro d G W hD' hnd ⟨rfl, hkw, hrc, n, hn, hn0, hn1, hnT⟩ hk hg hKD
    have zn := lt_of_obj hn
    have zr := lt_of_obj hrc
    have fr' := frozen_at hrc 0
    have cn : W.cell? ⟨w1.heap.size + 1, 0, none⟩ = some (.int .i64 n) := cell_at hn 0
    have cr : W.cell? ⟨w.heap.size + 1 + 1 + 1 + 1 + 1, 0, none⟩ = some (.int .i64 0) := cell_at hrc 0
    have HNT : Hid (n = T) := Lib.hid (by
      rw [backL_len, HLX.out, Nat.sub_self] at hnT
      simpa [pollsF] using hnT)
    have E2 := obj_setCell_at (i := 0) (.int .i64 n) hrc
    have HE2 := Lib.hid E2
    have hndr : d ≠ w.heap.size + 1 + 1 + 1 + 1 + 1 := fun e => hnd (.inr e)
    have KD : (W.setCell ⟨w.heap.size + 1 + 1 + 1 + 1 + 1, 0, none⟩ (.int .i64 n)).heap[d]? = some (.deferred (some [])) := (obj_setCell_ne _ ⟨w.heap.size + 1 + 1 + 1 + 1 + 1, 0, none⟩ _ _ hndr).trans hKD
    have HB3 := Lib.hid (((hbw2.trans (hkw.below (B := w.heap.size) (fun k hk => by omega) (by omega)))).setCell (p := ⟨w.heap.size + 1 + 1 + 1 + 1 + 1, 0, none⟩) (show w.heap.size ≤ w.heap.size + 1 + 1 + 1 + 1 + 1 by omega) (.int .i64 n))
    have HKD := Lib.hid KD
    clear hkw hrc hn hk hg hnT E2 KD hKD
    gi_wp2
    have E2 := HE2.out
    have KD := HKD.out
    generalize W.setCell ⟨w.heap.size + 1 + 1 + 1 + 1 + 1, 0, none⟩ (.int .i64 n) = W3 at *
    simp only [List.setIfInBounds_toArray, List.set_cons_zero] at E2
    rw [HNT.out] at E2
    clear cn cr fr'
    refine ⟨by simp, .inl ⟨_, _, rfl, run_takeDeferred KD, ?_⟩⟩
    have r2 : obj (W3.putObj d (.deferred none)) (w.heap.size + 1 + 1 + 1 + 1 + 1) = some (.cells #[.int .i64 T] 3 (0, 0)) := (World.putObj_heap_other (fun e => hndr e.symm)).trans E2
    have q2 := cell_at r2 0
    have y2 := lt_of_obj r2
    simp at q2
    have hgr := grownBy_putObj' W3 d (.deferred none)
    have hrr : ∀ r, some d = some r → w.heap.size ≤ r ∧ ∃ o : Obj, W3.heap[r]? = some o ∧ o.isCells = false := fun r e => by cases e; exact ⟨by omega, _, KD, rfl⟩
    exact ⟨_, results_cell1 Try.results34 _ rfl (v1 := .int .i64 T) (by go_simp), rfl, below_grown HB3.out (Nat.le_refl _) (Nat.le_refl _) hgr hrr⟩
  case stop =>
    rintro d c pre G W hD' hnd hpre ⟨rfl, rfl, hkw, E2⟩ hk hg KD
    have hndr : d ≠ w.heap.size + 1 + 1 + 1 + 1 + 1 := fun e => hnd (.inr e)
    have HB3 := Lib.hid (hbw2.trans (hkw.below (B := w.heap.size) (fun k hk => by omega) (by omega)))
    have HE2 := Lib.hid E2
    have HKD := Lib.hid KD
    clear hkw E2 hk hg KD
    gi_wp2
    have E2 := HE2.out
    have KD := HKD.out
    refine ⟨by simp, .inl ⟨_, _, rfl, run_takeDeferred KD, ?_⟩⟩
    have r2 : obj (W.putObj d (.deferred none)) (w.heap.size + 1 + 1 + 1 + 1 + 1) = some (.cells #[.int .i64 T] 3 (0, 0)) := (World.putObj_heap_other (fun e => hndr e.symm)).trans E2
    have q2 := cell_at r2 0
    have y2 := lt_of_obj r2
    simp at q2
    have hgr := grownBy_putObj' W d (.deferred none)
    have hrr : ∀ r, some d = some r → w.heap.size ≤ r ∧ ∃ o : Obj, W.heap[r]? = some o ∧ o.isCells = false := fun r e => by cases e; exact ⟨by omega, _, KD, rfl⟩
    exact ⟨_, results_cell1 Try.results34 _ rfl (v1 := .int .i64 T) (by go_simp), rfl, below_grown HB3.out (Nat.le_refl _) (Nat.le_refl _) hgr hrr⟩
end Go.Proofs.Ytmenfbfekfljbaa
