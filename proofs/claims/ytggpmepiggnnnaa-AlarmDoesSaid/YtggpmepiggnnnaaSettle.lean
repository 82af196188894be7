import Derived.Test.YtggpmepiggnnnaaSink
namespace Go.Proofs.Ytggpmepiggnnnaa
open Go.RowKit

set_option maxRecDepth 100000 in
theorem settle_any (w : World) (F : Nat → Prop) (hb m : Nat) (sv : Value) (L : List Al) (M : List (Int × Int)) (i : Nat) (h : RawAt w F hb m sv L M) (hs : Spec L M) (hi : i < L.length) (hlen : L.length ≤ 100000) :
    Calls Try.prog 43 #[.pointer (some ⟨hb, 0, none⟩), .int .i64 i] w fun e w' => (∃ v, e = .returned v) ∧
      (∃ M', RawAt w' F hb m sv (settle L i) M' ∧ Spec (settle L i) M') ∧ Keeps F w w' := by
  have HR := Lib.hid (rise_any w F hb m sv L M i h hs hi hlen)
  have HL := Lib.hid (rise_perm hi).length_eq
  clear h hs
  go_enter Try.func43, Try.ntmps43
  go_wp2_with fail
  refine HR.out.mono ?_
  rintro e w1 ⟨⟨v1, rfl⟩, ⟨M1, r1, s1⟩, k1⟩
  have HK := Lib.hid (sink_any w1 F hb m sv _ M1 i r1 s1 (by rw [HL.out]; exact hi) (by rw [HL.out]; exact hlen))
  clear r1 s1
  go_wp2_with fail
  refine HK.out.mono ?_
  rintro e w2 ⟨⟨v2, rfl⟩, ⟨M2, r2, s2⟩, k2⟩
  have HF := Lib.hid (And.intro (show RawAt w2 F hb m sv (settle L i) M2 from r2) (show Spec (settle L i) M2 from s2))
  have K2 := k1.trans k2
  clear r2 s2
  go_wp2
  go_end0
  exact ⟨⟨_, rfl⟩, ⟨M2, HF.out.1, HF.out.2⟩, K2⟩
end Go.Proofs.Ytggpmepiggnnnaa
