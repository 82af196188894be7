import Derived.Test.YtkjaabajomigkaaTold
import Derived.Test.YtkjaabajomigkaaClone
import Derived.Test.YtkjaabajomigkaaGood
namespace Go.Proofs.Ytkjaabajomigkaa
open Go.RowKit Go.Shelf

/-- what AtLeast hands back -/
def AtlP (w : World) (l : List Vt) (n : Int) (e : Ending) (w' : World) : Prop :=
  ∃ sb nb D, e = .returned (.func (.func 42) #[] #[.pointer (some ⟨sb, 0, none⟩), .pointer (some ⟨nb, 0, none⟩)]) ∧ Below w.heap.size w w' ∧ (∀ k, D k → k < w'.heap.size) ∧
    SeqG Fence.wide 4 Try.prog 42 #[.pointer (some ⟨sb, 0, none⟩), .pointer (some ⟨nb, 0, none⟩)] (fun x : ID => #[idV x]) (atlV l n) D w'
theorem atlV_eq (l : List Vt) (n : Int) : atlV l n = atF n (goodV l) := rfl
set_option maxRecDepth 100000 in
set_option maxHeartbeats 1000000 in
/-- bag.AtLeast -/
theorem atl_any (w : World) (v : Value) (l : List Vt) (n : Int) (h : SlIn w v 33 vtL l) : Calls Try.prog 28 #[v, .int .i64 n] w (AtlP w l n) := by
  have hmf : ∀ (fn : Fn) (first cap : Array Value) (w : World), (Instr.makeFunc fn first cap).run Try.prog w = .ok (.func fn first cap) w := fun _ _ _ _ => rfl
  have hb : Below w.heap.size w (w.alloc (.cells #[.int .i64 n] 3)) := (Below.refl _ w).alloc (Nat.le_refl _) _
  have hob : obj (w.alloc (.cells #[.int .i64 n] 3)) w.heap.size = some (.cells #[.int .i64 n] 3 (0, 0)) := obj_alloc_at _ _ _ rfl
  have hz : (w.alloc (.cells #[.int .i64 n] 3)).heap.size = w.heap.size + 1 := by simp
  have HG := Lib.hid (good_any _ v l (h.below hb))
  have HLN : Hid ((goodV l).length ≤ 1048576) := Lib.hid (by
    obtain ⟨_, hp, hs⟩ := goodV_ok l
    have := len_sum hp
    omega)
  have HB := Lib.hid hb
  have HO := Lib.hid hob
  have HAT := Lib.hid (atlV_eq l n)
  generalize goodV l = g at *
  clear h hb hob
  go_enter Try.func28, Try.ntmps28
  go_wp2_with fail
  generalize w.alloc (.cells #[.int .i64 n] 3) = w0 at *
  refine HG.out.mono ?_
  rintro e w1 ⟨oa, cap, rfl, hs1, b1⟩
  have hz1 := b1.size
  have B1 := Lib.hid (HB.out.trans (b1.mono (by omega)))
  have O1 := Lib.hid ((obj_below b1 (by omega)).trans HO.out)
  have HC := Lib.hid (clone_votes w1 _ g (hs1.below b1) HLN.out)
  clear b1 hs1 HG
  go_wp2_with fail
  refine HC.out.mono ?_
  rintro e w2 ⟨v2, rfl, hown, b2⟩
  have hz2 := b2.size
  have B2 := Lib.hid (B1.out.trans (b2.mono (by omega)))
  have O2 := Lib.hid ((obj_below b2 (by omega)).trans O1.out)
  have HOW := Lib.hid hown
  have hsl := hown.slIn vtL_length
  have hb3 : Below w2.heap.size w2 (w2.alloc (.cells #[v2] 22)) := (Below.refl _ w2).alloc (Nat.le_refl _) _
  have HV : Hid (ValAt 22 33 vtL (fun k => k < (w2.alloc (.cells #[v2] 22)).heap.size) (w2.alloc (.cells #[v2] 22)) w2.heap.size v2 g) := Lib.hid ⟨obj_alloc_at _ _ _ rfl, hsl.below hb3, by simp, fun a ll c e => by
    rcases hown.2 with ⟨h1, _⟩ | ⟨gb, cc, cur, h1, _, h2, _⟩
    · rw [h1] at e; cases e
    · rw [h1] at e; cases e
      have := lt_of_obj (w := w2) (h2 : obj w2 gb = _)
      simp
      exact Nat.lt_succ_of_lt this⟩
  have O3 := Lib.hid ((obj_below hb3 (by omega)).trans O2.out)
  have B3 := Lib.hid (B2.out.trans (hb3.mono (by omega)))
  obtain ⟨oa2, cap2, rfl, _, _, _⟩ := hsl
  clear b2 hown HC hb3
  go_wp2
  go_ret
  have hlt : w.heap.size < (w2.alloc (.cells #[.slice oa2 g.length cap2] 22)).heap.size := lt_of_obj O3.out
  exact ⟨_, _, _, rfl, B3.out, fun k hk => hk, by rw [HAT.out]; exact atl_seq 4 (by omega) (fun k hk => hk) HV.out O3.out hlt⟩
/-- told, of AtLeast's -/
theorem told_atl (w w0 : World) (l : List Vt) (n : Int) (sb nb : Nat) (D : Nat → Prop) (hD : ∀ k, D k → k < w0.heap.size)
    (hs : SeqG Fence.wide 4 Try.prog 42 #[.pointer (some ⟨sb, 0, none⟩), .pointer (some ⟨nb, 0, none⟩)] (fun x : ID => #[idV x]) (atlV l n) D w0) (hb : Below w0.heap.size w0 w) (most : Int) :
    Calls Try.prog 27 #[.func (.func 42) #[] #[.pointer (some ⟨sb, 0, none⟩), .pointer (some ⟨nb, 0, none⟩)], .int .i64 most] w (RetOwn w 27 32 idL ((atlV l n).take most.toNat)) := by
  refine told_any w w0 42 _ _ hD eg42 hs (Agree.of_below hD hb) ?_ most
  unfold atlV
  rw [List.length_map]
  obtain ⟨_, hp, hs⟩ := goodV_ok l
  have := len_sum hp
  have := List.length_filter_le (fun x : Vt => decide (n ≤ x.n)) (goodV l)
  omega
end Go.Proofs.Ytkjaabajomigkaa
