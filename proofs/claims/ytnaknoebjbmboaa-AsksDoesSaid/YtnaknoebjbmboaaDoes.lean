import Derived.Test.YtnaknoebjbmboaaActs
namespace Go.Proofs.Ytnaknoebjbmboaa
open Go.RowKit

theorem Keeps.weaken {F G : Nat → Prop} {w w' : World} (h : Keeps F w w') (hf : ∀ n, F n → G n) : Keeps G w w' := ⟨h.os, h.tape, h.output, h.size, fun k hk hg => h.block k hk (fun hh => hg (hf k hh))⟩
theorem RefK.past {w w' : World} {G F : Nat → Prop} {rb : Nat} {S : RefD} {W : List AskD} (h : RefK w G rb S W) (hk : Keeps F w w') (hr : ¬ F rb) (hd : ∀ n, G n → ¬ F n) : RefK w' G rb S W := by
  obtain ⟨v, h1, h2, h3⟩ := h
  exact ⟨v, (hk.block _ (lt_of_obj h1) hr).trans h1, h2.keeps fun g hg => hk.block g (h2.1.lt g hg).2 (hd g (h3 g hg)), h3⟩
theorem BK.past {w w' : World} {b m : Nat} {S : BookD} {F : Nat → Prop} (h : BK w b m S) (hk : Keeps F w w') (hb : ¬ F b) (hm : ¬ F m) : BK w' b m S :=
  ⟨h.at_.keep hk hb hm, h.st.of_obj (hk.block m h.at_.mlt hm), h.rise⟩
/-- both books: the same asks, in blocks apart -/
structure DK (w : World) (B b m rb : Nat) (S : BookD) : Prop where
  bk : BK w b m S
  ref : RefK w (fun n => n ≠ b ∧ n ≠ m) rb (refOf S) (wtL S)
  nb : rb ≠ b
  nm : rb ≠ m
  gb : B ≤ b
  gm : B ≤ m
  gr : B ≤ rb
theorem DK.below {w w' : World} {B b m rb : Nat} {S : BookD} (h : DK w B b m rb S) (hb : Below w.heap.size w w') : DK w' B b m rb S := ⟨h.bk.below hb, h.ref.below hb, h.nb, h.nm, h.gb, h.gm, h.gr⟩
set_option maxRecDepth 100000 in
set_option maxHeartbeats 8000000 in
theorem does_any (w : World) (B b m rb : Nat) (S : BookD) (k : Nat) (hk : k ≤ 1000) (d nd kd id : Int) (h : DK w B b m rb S) (hI : InvK S k) :
    Calls Try.prog 22 #[.pointer (some ⟨b, 0, none⟩), .pointer (some ⟨rb, 0, none⟩), .agg #[.int .i64 d, .int .i64 nd, .int .i64 kd, .int .i64 id]] w fun e w' => e = .returned (.bool true) ∧ (∃ S', InvK S' (k + 1) ∧ DK w' B b m rb S') ∧ Keeps (fun n => n = b ∨ n = m ∨ n = rb) w w' := by
  have b0 : Below w.heap.size w (w.alloc (.cells #[.int .i64 d, .int .i64 nd, .int .i64 kd, .int .i64 id] 45)) := (Below.refl _ w).alloc (Nat.le_refl _) _
  have o0 : obj (w.alloc (.cells #[.int .i64 d, .int .i64 nd, .int .i64 kd, .int .i64 id] 45)) w.heap.size = some (.cells #[.int .i64 d, .int .i64 nd, .int .i64 kd, .int .i64 id] 45 (0, 0)) := obj_alloc_at _ _ _ rfl
  have r0 : rb < (w.alloc (.cells #[.int .i64 d, .int .i64 nd, .int .i64 kd, .int .i64 id] 45)).heap.size := (h.below b0).ref.lt
  have NB : Hid (¬ w.heap.size = b) := Lib.hid (by have := h.bk.at_.lt; omega)
  have NM : Hid (¬ w.heap.size = m) := Lib.hid (by have := h.bk.at_.mlt; omega)
  have NR : w.heap.size ≠ rb := by have := h.ref.lt; omega
  have DX := Lib.hid (h.below b0)
  have B0 := Lib.hid (Keeps.of_below (F := fun n => n = b ∨ n = m ∨ n = rb) b0)
  have c0 : (w.alloc (.cells #[.int .i64 d, .int .i64 nd, .int .i64 kd, .int .i64 id] 45)).cell? ⟨w.heap.size, 0, none⟩ = some (.int .i64 d) := cell_at o0 0
  have c1 : (w.alloc (.cells #[.int .i64 d, .int .i64 nd, .int .i64 kd, .int .i64 id] 45)).cell? ⟨w.heap.size, 1, none⟩ = some (.int .i64 nd) := cell_at o0 1
  have c2 : (w.alloc (.cells #[.int .i64 d, .int .i64 nd, .int .i64 kd, .int .i64 id] 45)).cell? ⟨w.heap.size, 2, none⟩ = some (.int .i64 kd) := cell_at o0 2
  have c3 : (w.alloc (.cells #[.int .i64 d, .int .i64 nd, .int .i64 kd, .int .i64 id] 45)).cell? ⟨w.heap.size, 3, none⟩ = some (.int .i64 id) := cell_at o0 3
  have hbx := lt_of_obj o0
  clear h b0
  go_enter Try.func22, Try.ntmps22
  by_cases d0 : d = 0
  · subst d0
    obtain ⟨x, E, S', hi', hp, hr⟩ := ask_both S k hk hI nd kd
    have HP := Lib.hid (hp _ b m DX.out.bk)
    have HR := Lib.hid hr
    have HI := Lib.hid hi'
    have hq1 : (x == x) = true := by simp
    have hq4 : (E == E) = true := by simp
    clear hp hr hi' hI
    go_wp2_with fail
    generalize w.alloc (.cells #[.int .i64 0, .int .i64 nd, .int .i64 kd, .int .i64 id] 45) = w0 at *
    generalize w.heap.size = bx at *
    refine HP.out.mono ?_
    rintro e w6 ⟨rfl, h5, k5⟩
    have o6 := (k5.block _ hbx (fun h => h.elim NB.out NM.out)).trans o0
    have d60 : w6.cell? ⟨bx, 0, none⟩ = some (.int .i64 0) := cell_at o6 0
    have d61 : w6.cell? ⟨bx, 1, none⟩ = some (.int .i64 nd) := cell_at o6 1
    have d62 : w6.cell? ⟨bx, 2, none⟩ = some (.int .i64 kd) := cell_at o6 2
    have d63 : w6.cell? ⟨bx, 3, none⟩ = some (.int .i64 id) := cell_at o6 3
    have hz6 := lt_of_obj o6
    have H6 := Lib.hid h5
    have R6 := Lib.hid (DX.out.ref.past k5 (fun h => h.elim DX.out.nb DX.out.nm) (fun n hn h => h.elim hn.1 hn.2))
    have K6 := Lib.hid (B0.out.trans (k5.weaken (fun n hn => hn.elim .inl (fun h => .inr (.inl h)))))
    have GG : Hid (∀ n, w6.heap.size ≤ n → n ≠ b ∧ n ≠ m) := Lib.hid (fun n hn => ⟨fun e => by have := h5.at_.lt; omega, fun e => by have := h5.at_.mlt; omega⟩)
    clear h5 k5 HP
    go_wp2_with fail
    refine (HR.out w6 _ rb R6.out GG.out).mono ?_
    rintro e w7 ⟨rfl, h7, k7⟩
    have D8 : Hid (DK w7 B b m rb S') := Lib.hid ⟨H6.out.past k7 (fun h => DX.out.nb h.symm) (fun h => DX.out.nm h.symm), h7, DX.out.nb, DX.out.nm, DX.out.gb, DX.out.gm, DX.out.gr⟩
    have K8 := Lib.hid (K6.out.trans (k7.weaken (fun n hn => .inr (.inr hn))))
    clear h7 k7 HR
    go_wp2
    go_ret
    exact ⟨ret_bool (by first | rfl | simp), ⟨_, HI.out, D8.out⟩, K8.out⟩
  by_cases d1 : d = 1
  · subst d1
    obtain ⟨a, E, S', hi', hp, hr⟩ := answer_both S k hk hI nd id kd
    have HP := Lib.hid (hp _ b m DX.out.bk)
    have HR := Lib.hid hr
    have HI := Lib.hid hi'
    have hq1 : (a.id == a.id) = true := by simp
    have hq2 : (a.node == a.node) = true := by simp
    have hq3 : (a.kind == a.kind) = true := by simp
    have hq4 : (E == E) = true := by simp
    clear hp hr hi' hI
    go_wp2_with fail
    generalize w.alloc (.cells #[.int .i64 1, .int .i64 nd, .int .i64 kd, .int .i64 id] 45) = w0 at *
    generalize w.heap.size = bx at *
    refine HP.out.mono ?_
    rintro e w5 ⟨rfl, h5, k5⟩
    have o5 := (k5.block _ hbx (fun h => h.elim NB.out NM.out)).trans o0
    have hz5 := lt_of_obj o5
    have b6 : Below w5.heap.size w5 (w5.alloc (.cells #[.int .i64 a.id, .int .i64 a.node, .int .i64 a.kind] 32)) := (Below.refl _ w5).alloc (Nat.le_refl _) _
    have o6 := (obj_below b6 hz5).trans o5
    have o7 : obj (w5.alloc (.cells #[.int .i64 a.id, .int .i64 a.node, .int .i64 a.kind] 32)) w5.heap.size = some (.cells #[.int .i64 a.id, .int .i64 a.node, .int .i64 a.kind] 32 (0, 0)) := obj_alloc_at _ _ _ rfl
    have H6 := Lib.hid (h5.below b6)
    have R6 := Lib.hid ((DX.out.ref.past k5 (fun h => h.elim DX.out.nb DX.out.nm) (fun n hn h => h.elim hn.1 hn.2)).below b6)
    have K6 := Lib.hid ((B0.out.trans (k5.weaken (fun n hn => hn.elim .inl (fun h => .inr (.inl h))))).trans (Keeps.of_below b6))
    have GG : Hid (∀ n, (w5.alloc (.cells #[.int .i64 a.id, .int .i64 a.node, .int .i64 a.kind] 32)).heap.size ≤ n → n ≠ b ∧ n ≠ m) := Lib.hid (fun n hn => ⟨fun e => by have := (h5.below b6).at_.lt; omega, fun e => by have := (h5.below b6).at_.mlt; omega⟩)
    have hrb5 : rb < w5.heap.size := Nat.lt_of_lt_of_le r0 k5.size
    have hx5 : bx ≠ w5.heap.size := by omega
    clear h5 k5 b6 HP o5
    have d60 : (w5.alloc (.cells #[.int .i64 a.id, .int .i64 a.node, .int .i64 a.kind] 32)).cell? ⟨bx, 0, none⟩ = some (.int .i64 1) := cell_at o6 0
    have d61 : (w5.alloc (.cells #[.int .i64 a.id, .int .i64 a.node, .int .i64 a.kind] 32)).cell? ⟨bx, 1, none⟩ = some (.int .i64 nd) := cell_at o6 1
    have d62 : (w5.alloc (.cells #[.int .i64 a.id, .int .i64 a.node, .int .i64 a.kind] 32)).cell? ⟨bx, 2, none⟩ = some (.int .i64 kd) := cell_at o6 2
    have d63 : (w5.alloc (.cells #[.int .i64 a.id, .int .i64 a.node, .int .i64 a.kind] 32)).cell? ⟨bx, 3, none⟩ = some (.int .i64 id) := cell_at o6 3
    have hz6 := lt_of_obj o6
    go_wp2_with fail
    generalize w5.alloc (.cells #[.int .i64 a.id, .int .i64 a.node, .int .i64 a.kind] 32) = w6 at *
    generalize w5.heap.size = ab at *
    refine (HR.out w6 _ rb R6.out GG.out).mono ?_
    rintro e w7 ⟨rfl, h7, k7⟩
    have b8 : Below w7.heap.size w7 (w7.alloc (.cells #[.int .i64 a.id, .int .i64 a.node, .int .i64 a.kind] 32)) := (Below.refl _ w7).alloc (Nat.le_refl _) _
    have o7' := (k7.block _ (lt_of_obj o7) (by omega)).trans o7
    have hz7 := lt_of_obj o7'
    have q7 := (obj_below b8 hz7).trans o7'
    have hab : ab ≠ w7.heap.size := by omega
    have o9 : obj (w7.alloc (.cells #[.int .i64 a.id, .int .i64 a.node, .int .i64 a.kind] 32)) w7.heap.size = some (.cells #[.int .i64 a.id, .int .i64 a.node, .int .i64 a.kind] 32 (0, 0)) := obj_alloc_at _ _ _ rfl
    have D8 : Hid (DK (w7.alloc (.cells #[.int .i64 a.id, .int .i64 a.node, .int .i64 a.kind] 32)) B b m rb S') := Lib.hid ⟨(H6.out.past k7 (fun h => DX.out.nb h.symm) (fun h => DX.out.nm h.symm)).below b8, h7.below b8, DX.out.nb, DX.out.nm, DX.out.gb, DX.out.gm, DX.out.gr⟩
    have K8 := Lib.hid ((K6.out.trans (k7.weaken (fun n hn => .inr (.inr hn)))).trans (Keeps.of_below b8))
    clear h7 k7 b8 HR o7 o7'
    go_wp2
    go_ret
    exact ⟨ret_bool (by first | rfl | simp), ⟨_, HI.out, D8.out⟩, K8.out⟩
  by_cases d2 : d = 2
  · subst d2
    obtain ⟨a, E, S', hi', hp, hr⟩ := expire_both S k hk hI id
    have HP := Lib.hid (hp _ b m DX.out.bk)
    have HR := Lib.hid hr
    have HI := Lib.hid hi'
    have hq1 : (a.id == a.id) = true := by simp
    have hq2 : (a.node == a.node) = true := by simp
    have hq3 : (a.kind == a.kind) = true := by simp
    have hq4 : (E == E) = true := by simp
    clear hp hr hi' hI
    go_wp2_with fail
    generalize w.alloc (.cells #[.int .i64 2, .int .i64 nd, .int .i64 kd, .int .i64 id] 45) = w0 at *
    generalize w.heap.size = bx at *
    refine HP.out.mono ?_
    rintro e w5 ⟨rfl, h5, k5⟩
    have o5 := (k5.block _ hbx (fun h => h.elim NB.out NM.out)).trans o0
    have hz5 := lt_of_obj o5
    have b6 : Below w5.heap.size w5 (w5.alloc (.cells #[.int .i64 a.id, .int .i64 a.node, .int .i64 a.kind] 32)) := (Below.refl _ w5).alloc (Nat.le_refl _) _
    have o6 := (obj_below b6 hz5).trans o5
    have o7 : obj (w5.alloc (.cells #[.int .i64 a.id, .int .i64 a.node, .int .i64 a.kind] 32)) w5.heap.size = some (.cells #[.int .i64 a.id, .int .i64 a.node, .int .i64 a.kind] 32 (0, 0)) := obj_alloc_at _ _ _ rfl
    have H6 := Lib.hid (h5.below b6)
    have R6 := Lib.hid ((DX.out.ref.past k5 (fun h => h.elim DX.out.nb DX.out.nm) (fun n hn h => h.elim hn.1 hn.2)).below b6)
    have K6 := Lib.hid ((B0.out.trans (k5.weaken (fun n hn => hn.elim .inl (fun h => .inr (.inl h))))).trans (Keeps.of_below b6))
    have GG : Hid (∀ n, (w5.alloc (.cells #[.int .i64 a.id, .int .i64 a.node, .int .i64 a.kind] 32)).heap.size ≤ n → n ≠ b ∧ n ≠ m) := Lib.hid (fun n hn => ⟨fun e => by have := (h5.below b6).at_.lt; omega, fun e => by have := (h5.below b6).at_.mlt; omega⟩)
    have hrb5 : rb < w5.heap.size := Nat.lt_of_lt_of_le r0 k5.size
    have hx5 : bx ≠ w5.heap.size := by omega
    clear h5 k5 b6 HP o5
    have d60 : (w5.alloc (.cells #[.int .i64 a.id, .int .i64 a.node, .int .i64 a.kind] 32)).cell? ⟨bx, 0, none⟩ = some (.int .i64 2) := cell_at o6 0
    have d61 : (w5.alloc (.cells #[.int .i64 a.id, .int .i64 a.node, .int .i64 a.kind] 32)).cell? ⟨bx, 1, none⟩ = some (.int .i64 nd) := cell_at o6 1
    have d62 : (w5.alloc (.cells #[.int .i64 a.id, .int .i64 a.node, .int .i64 a.kind] 32)).cell? ⟨bx, 2, none⟩ = some (.int .i64 kd) := cell_at o6 2
    have d63 : (w5.alloc (.cells #[.int .i64 a.id, .int .i64 a.node, .int .i64 a.kind] 32)).cell? ⟨bx, 3, none⟩ = some (.int .i64 id) := cell_at o6 3
    have hz6 := lt_of_obj o6
    go_wp2_with fail
    generalize w5.alloc (.cells #[.int .i64 a.id, .int .i64 a.node, .int .i64 a.kind] 32) = w6 at *
    generalize w5.heap.size = ab at *
    refine (HR.out w6 _ rb R6.out GG.out).mono ?_
    rintro e w7 ⟨rfl, h7, k7⟩
    have b8 : Below w7.heap.size w7 (w7.alloc (.cells #[.int .i64 a.id, .int .i64 a.node, .int .i64 a.kind] 32)) := (Below.refl _ w7).alloc (Nat.le_refl _) _
    have o7' := (k7.block _ (lt_of_obj o7) (by omega)).trans o7
    have hz7 := lt_of_obj o7'
    have q7 := (obj_below b8 hz7).trans o7'
    have hab : ab ≠ w7.heap.size := by omega
    have o9 : obj (w7.alloc (.cells #[.int .i64 a.id, .int .i64 a.node, .int .i64 a.kind] 32)) w7.heap.size = some (.cells #[.int .i64 a.id, .int .i64 a.node, .int .i64 a.kind] 32 (0, 0)) := obj_alloc_at _ _ _ rfl
    have D8 : Hid (DK (w7.alloc (.cells #[.int .i64 a.id, .int .i64 a.node, .int .i64 a.kind] 32)) B b m rb S') := Lib.hid ⟨(H6.out.past k7 (fun h => DX.out.nb h.symm) (fun h => DX.out.nm h.symm)).below b8, h7.below b8, DX.out.nb, DX.out.nm, DX.out.gb, DX.out.gm, DX.out.gr⟩
    have K8 := Lib.hid ((K6.out.trans (k7.weaken (fun n hn => .inr (.inr hn)))).trans (Keeps.of_below b8))
    clear h7 k7 b8 HR o7 o7'
    go_wp2
    go_ret
    exact ⟨ret_bool (by first | rfl | simp), ⟨_, HI.out, D8.out⟩, K8.out⟩
  · have e0 : (d == 0) = false := by simpa using d0
    have e1 : (d == 1) = false := by simpa using d1
    have e2 : (d == 2) = false := by simpa using d2
    obtain ⟨a, E, S', hi', hp, hr⟩ := get_both S k hI id
    have HP := Lib.hid (hp _ b m DX.out.bk)
    have HR := Lib.hid hr
    have HI := Lib.hid hi'
    have hq1 : (a.id == a.id) = true := by simp
    have hq2 : (a.node == a.node) = true := by simp
    have hq3 : (a.kind == a.kind) = true := by simp
    have hq4 : (E == E) = true := by simp
    clear hp hr hi' hI
    go_wp2_with fail
    generalize w.alloc (.cells #[.int .i64 d, .int .i64 nd, .int .i64 kd, .int .i64 id] 45) = w0 at *
    generalize w.heap.size = bx at *
    refine HP.out.mono ?_
    rintro e w5 ⟨rfl, h5, k5⟩
    have o5 := (k5.block _ hbx (fun h => h.elim NB.out NM.out)).trans o0
    have hz5 := lt_of_obj o5
    have b6 : Below w5.heap.size w5 (w5.alloc (.cells #[.int .i64 a.id, .int .i64 a.node, .int .i64 a.kind] 32)) := (Below.refl _ w5).alloc (Nat.le_refl _) _
    have o6 := (obj_below b6 hz5).trans o5
    have o7 : obj (w5.alloc (.cells #[.int .i64 a.id, .int .i64 a.node, .int .i64 a.kind] 32)) w5.heap.size = some (.cells #[.int .i64 a.id, .int .i64 a.node, .int .i64 a.kind] 32 (0, 0)) := obj_alloc_at _ _ _ rfl
    have H6 := Lib.hid (h5.below b6)
    have R6 := Lib.hid ((DX.out.ref.past k5 (fun h => h.elim DX.out.nb DX.out.nm) (fun n hn h => h.elim hn.1 hn.2)).below b6)
    have K6 := Lib.hid ((B0.out.trans (k5.weaken (fun n hn => hn.elim .inl (fun h => .inr (.inl h))))).trans (Keeps.of_below b6))
    have GG : Hid (∀ n, (w5.alloc (.cells #[.int .i64 a.id, .int .i64 a.node, .int .i64 a.kind] 32)).heap.size ≤ n → n ≠ b ∧ n ≠ m) := Lib.hid (fun n hn => ⟨fun e => by have := (h5.below b6).at_.lt; omega, fun e => by have := (h5.below b6).at_.mlt; omega⟩)
    have hrb5 : rb < w5.heap.size := Nat.lt_of_lt_of_le r0 k5.size
    have hx5 : bx ≠ w5.heap.size := by omega
    clear h5 k5 b6 HP o5
    have d60 : (w5.alloc (.cells #[.int .i64 a.id, .int .i64 a.node, .int .i64 a.kind] 32)).cell? ⟨bx, 0, none⟩ = some (.int .i64 d) := cell_at o6 0
    have d61 : (w5.alloc (.cells #[.int .i64 a.id, .int .i64 a.node, .int .i64 a.kind] 32)).cell? ⟨bx, 1, none⟩ = some (.int .i64 nd) := cell_at o6 1
    have d62 : (w5.alloc (.cells #[.int .i64 a.id, .int .i64 a.node, .int .i64 a.kind] 32)).cell? ⟨bx, 2, none⟩ = some (.int .i64 kd) := cell_at o6 2
    have d63 : (w5.alloc (.cells #[.int .i64 a.id, .int .i64 a.node, .int .i64 a.kind] 32)).cell? ⟨bx, 3, none⟩ = some (.int .i64 id) := cell_at o6 3
    have hz6 := lt_of_obj o6
    go_wp2_with fail
    generalize w5.alloc (.cells #[.int .i64 a.id, .int .i64 a.node, .int .i64 a.kind] 32) = w6 at *
    generalize w5.heap.size = ab at *
    refine (HR.out w6 _ rb R6.out GG.out).mono ?_
    rintro e w7 ⟨rfl, h7, k7⟩
    have b8 : Below w7.heap.size w7 (w7.alloc (.cells #[.int .i64 a.id, .int .i64 a.node, .int .i64 a.kind] 32)) := (Below.refl _ w7).alloc (Nat.le_refl _) _
    have o7' := (k7.block _ (lt_of_obj o7) (by omega)).trans o7
    have hz7 := lt_of_obj o7'
    have q7 := (obj_below b8 hz7).trans o7'
    have hab : ab ≠ w7.heap.size := by omega
    have o9 : obj (w7.alloc (.cells #[.int .i64 a.id, .int .i64 a.node, .int .i64 a.kind] 32)) w7.heap.size = some (.cells #[.int .i64 a.id, .int .i64 a.node, .int .i64 a.kind] 32 (0, 0)) := obj_alloc_at _ _ _ rfl
    have D8 : Hid (DK (w7.alloc (.cells #[.int .i64 a.id, .int .i64 a.node, .int .i64 a.kind] 32)) B b m rb S') := Lib.hid ⟨(H6.out.past k7 (fun h => DX.out.nb h.symm) (fun h => DX.out.nm h.symm)).below b8, h7.below b8, DX.out.nb, DX.out.nm, DX.out.gb, DX.out.gm, DX.out.gr⟩
    have K8 := Lib.hid ((K6.out.trans (k7.weaken (fun n hn => .inr (.inr hn)))).trans (Keeps.of_below b8))
    clear h7 k7 b8 HR o7 o7'
    go_wp2
    go_ret
    exact ⟨ret_bool (by first | rfl | simp), ⟨_, HI.out, D8.out⟩, K8.out⟩
end Go.Proofs.Ytnaknoebjbmboaa
