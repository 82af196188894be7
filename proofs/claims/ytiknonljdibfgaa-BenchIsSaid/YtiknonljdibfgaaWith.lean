import Derived.Test.YtiknonljdibfgaaMayR
namespace Go.Proofs.Ytiknonljdibfgaa
open Go.RowKit

theorem ownsRow_pos {w : World} {base e k n : Nat} {v : Value} {xs : List Value} (h : w.ownsRow base e k v n xs) (hn : 0 < n) : ∃ g cap cur, v = .slice (some ⟨g, 0, none⟩) n cap ∧ base ≤ g ∧ obj w g = some (.cells cur e (0, 0)) ∧ n ≤ cap ∧ cap ≤ maxLen ∧ cur.size = cap * k ∧ cur.toList.take (n * k) = xs := by
  rcases h.2 with ⟨_, hq⟩ | ⟨g, cap', cur, h1, h2, h3, h4⟩
  · omega
  · exact ⟨g, cap', cur, h1, h2, h3, h4⟩
theorem withPost {w1 w' : World} {base bx : Nat} {v' : Value} {s : List St} {x : St} {i : Nat} (q1 : w'.ownsRow base 50 3 v' (0 + s.length) ([] ++ s.flatMap stL)) (q2 : w1.grownBy w' (Value.slice none 0 0).ownBlock) (o1 : obj w1 bx = some (.cells #[.int .i64 x.f, .int .i64 x.s, .int .i64 x.u] 50 (0, 0))) (hz1 : bx < w1.heap.size) (hi : i < s.length) :
    ∃ g cap' cur, v' = .slice (some ⟨g, 0, none⟩) s.length cap' ∧ base ≤ g ∧ g < w'.heap.size ∧ s.length ≤ cap' ∧ cap' ≤ maxLen ∧ cur.size = cap' * 3 ∧ cur.toList.take (s.length * 3) = s.flatMap stL ∧ w'.cell? ⟨bx, 0, none⟩ = some (.int .i64 x.f) ∧ w'.cell? ⟨bx, 1, none⟩ = some (.int .i64 x.s) ∧ w'.cell? ⟨bx, 2, none⟩ = some (.int .i64 x.u) ∧
      subOf (obj w' bx) 0 3 = some #[.int .i64 x.f, .int .i64 x.s, .int .i64 x.u] ∧ putOf (obj w' g) (i * 3) 3 #[.int .i64 x.f, .int .i64 x.s, .int .i64 x.u] = some (.cells (spliceA cur (i * 3) #[.int .i64 x.f, .int .i64 x.s, .int .i64 x.u]) 50 (0, 0)) := by
  obtain ⟨g, cap', cur, rfl, hg, hob, hc1, hc2, hc3, hc4⟩ := ownsRow_pos q1 (by omega)
  have hbx : obj w' bx = some (.cells #[.int .i64 x.f, .int .i64 x.s, .int .i64 x.u] 50 (0, 0)) := (q2.block bx hz1 (by simp [Value.ownBlock])).trans o1
  rw [Nat.zero_add] at hc1 hc4
  rw [List.nil_append] at hc4
  refine ⟨g, cap', cur, by rw [Nat.zero_add], hg, lt_of_obj hob, hc1, hc2, hc3, hc4, cell_at hbx 0, cell_at hbx 1, cell_at hbx 2, ?_, ?_⟩
  · rw [hbx, subOf_cells (by simp), subA_all (by simp)]
  · rw [hob, putOf_cells (by rw [hc3]; omega) (by simp) rfl]
set_option maxRecDepth 100000 in
set_option maxHeartbeats 1000000 in
/-- flurryref15.with -/
theorem with_any (w : World) (v : Value) (s : List St) (i : Nat) (x : St) (h : SlIn w v 3 stL s) (hi : i < s.length) (hlen : s.length ≤ 4096) : Calls Try.prog 50 #[v, .int .i64 i, stV x] w (RetOwn w 50 3 stL (s.set i x)) := by
  obtain ⟨oa, cap, rfl, g1, g2, g3⟩ := h
  obtain ⟨b, off, rfl, hbb, hrow⟩ := g3 (by omega)
  have b1 : Below w.heap.size w (w.alloc (.cells #[.int .i64 x.f, .int .i64 x.s, .int .i64 x.u] 50)) := (Below.refl _ _).alloc (Nat.le_refl _) _
  have o1 : obj (w.alloc (.cells #[.int .i64 x.f, .int .i64 x.s, .int .i64 x.u] 50)) w.heap.size = some (.cells #[.int .i64 x.f, .int .i64 x.s, .int .i64 x.u] 50 (0, 0)) := obj_alloc_at _ _ _ rfl
  have HC : Hid (∀ j u, (s.flatMap stL)[j]? = some u → (w.alloc (.cells #[.int .i64 x.f, .int .i64 x.s, .int .i64 x.u] 50)).cell? ⟨b, off + j, none⟩ = some u) := Lib.hid (fun j u hj => by
    rw [← row_cells stL_length (by decide) hrow hj]
    exact World.cell?_of_block (w := w) (a := ⟨b, off + j, none⟩) (obj_alloc_past _ _ _ hbb))
  have hsz : w.heap.size ≤ (w.alloc (.cells #[.int .i64 x.f, .int .i64 x.s, .int .i64 x.u] 50)).heap.size := b1.size
  have hz1 : w.heap.size < (w.alloc (.cells #[.int .i64 x.f, .int .i64 x.s, .int .i64 x.u] 50)).heap.size := lt_of_obj o1
  have B1 := Lib.hid b1
  have O1 := Lib.hid o1
  clear g3 hrow b1 o1
  simp only [stV]
  go_enter Try.func50, Try.ntmps50
  go_wp2_with (at_builtin; refine pushAll50 rfl _ _ rfl (w.heap.size + 1) (.slice none 0 0) 0 [] rfl (World.ownsRow_nil _ _ _ _) b off cap s rfl HC.out (by omega) (by simp) ?_; intro v' w' q1 q2 q3; obtain ⟨g, cap', cur, rfl, hg, hgz, hc1, hc2, hc3, hc4, x0, x1, x2, sx, hput⟩ := withPost q1 q2 O1.out hz1 hi; have Q2 := Lib.hid q2; clear q1 q2 q3)
  go_ret
  refine ⟨_, rfl, ?_⟩
  have hb' : Below w.heap.size w w' := B1.out.grown Q2.out (by simp) (fun k e => by simp [Value.ownBlock] at e)
  have hss : (spliceA cur (i * 3) #[.int .i64 x.f, .int .i64 x.s, .int .i64 x.u]).size = cur.size := size_spliceA (by simp; omega)
  have hrw := row_upd (y := x) hc4 hi (by rw [hc3]; omega) hss (fun j j0 j1 j2 => by rw [splice_get _ _ _ _ (by simp; omega), if_neg (by simp; omega)]) (by rw [splice_get _ _ _ _ (by simp; omega), if_pos (by simp)]; simp) (by rw [splice_get _ _ _ _ (by simp; omega), if_pos (by simp)]; simp) (by rw [splice_get _ _ _ _ (by simp; omega), if_pos (by simp)]; simp)
  have ht := turnPost_of (w := w) (W' := putObj w' g (.cells (spliceA cur (i * 3) #[.int .i64 x.f, .int .i64 x.s, .int .i64 x.u]) 50)) hi (by omega) (obj_putObj_eq _ _ _ hgz) (hss.trans hc3) hc1 hc2 hrw (below_putObj hb' (by omega) _)
  exact ht
end Go.Proofs.Ytiknonljdibfgaa
