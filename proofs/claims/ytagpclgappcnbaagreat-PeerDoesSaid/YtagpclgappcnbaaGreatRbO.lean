import Derived.Test.YtagpclgappcnbaaGreatRbM
import Derived.Test.YtagpclgappcnbaaGreatRbN
import Derived.Test.YtagpclgappcnbaaGreatAtY
namespace Go.Proofs.YtagpclgappcnbaaGreat
open Go.RowKit

/-! ### behind Clone: the new book lies beside the document's -/
theorem get_of_mem {ν : Type} {k : Int} {v : ν} : ∀ {L : List (Int × ν)}, (L.map (·.1)).Nodup → (k, v) ∈ L → aGet k L = some v
  | [], _, h => by cases h
  | (i, u) :: r, hn, h => by
    simp only [List.map_cons, List.nodup_cons] at hn
    unfold aGet
    rcases List.mem_cons.1 h with h | h
    · cases h; rw [if_pos rfl]
    · have : k ≠ i := fun e => hn.1 (by rw [← e]; exact List.mem_map.2 ⟨_, h, rfl⟩)
      rw [if_neg this]
      exact get_of_mem hn.2 h
theorem get_perm {ν : Type} {L L' : List (Int × ν)} (hp : L'.Perm L) (hn : (L.map (·.1)).Nodup) (k : Int) : aGet k L' = aGet k L := by
  have hn' : (L'.map (·.1)).Nodup := ((hp.map (·.1)).nodup_iff).2 hn
  cases h : aGet k L with
  | some v => exact get_of_mem hn' (hp.mem_iff.2 (get_mem h))
  | none =>
    cases h' : aGet k L' with
    | none => rfl
    | some v =>
      have := get_of_mem hn (hp.mem_iff.1 (get_mem h'))
      rw [h] at this
      cases this
theorem RI.perm {M : PM} {Q : List (Int × Int)} (h : RI M Q) {a' : List (Int × Int)} (hp : a'.Perm M.asked) : RI { M with asked := a' } Q :=
  ⟨h.rise, fun id hs => (h.same id hs).trans (get_perm hp h.nd id).symm, h.old, ((hp.map (·.1)).nodup_iff).2 h.nd⟩
theorem PInv.perm {M : PM} (h : PInv M) (a' : List (Int × Int)) : PInv { M with asked := a' } :=
  ⟨h.may, h.mean, h.at_, h.now0, h.now1, h.de, h.node, h.nodup, h.wk, h.keys, h.times, h.room, h.len, h.stat, h.last, h.askl, h.pos⟩
theorem RI.does {M : PM} {Q : List (Int × Int)} (h : RI M Q) (hI : PInv M) (x : OpM) : RI (doesM M x) (doesQ M Q x) := by
  unfold doesM doesQ
  by_cases h0 : x.d = 0
  · rw [if_pos h0, if_pos h0]; exact h.ask hI _ _ _
  rw [if_neg h0, if_neg h0]
  by_cases h1 : x.d = 1
  · rw [if_pos h1]; exact h.got _ _ _ _
  rw [if_neg h1]
  by_cases h2 : x.d = 2
  · rw [if_pos h2]; exact h.tick hI _
  rw [if_neg h2]
  exact h
theorem does_l (M : PM) (x : OpM) : (doesM M x).l = M.l := by
  unfold doesM
  split
  · exact (askP_same _ _ _ _).2.1
  split
  · exact (gotP_same _ _ _ _ _).2.1
  split
  · exact (tickP_same _ _).2.1
  · rfl
theorem doesQ_len (M : PM) (Q : List (Int × Int)) (x : OpM) : (doesQ M Q x).length ≤ Q.length + 1 := by
  unfold doesQ
  split
  · exact askQ_len _ _ _ _ _
  · omega
theorem Mid.cloned {w7 w8 w9 w10 : World} {X P : Nat → Prop} {b nb rb : Nat} {M : PM} {Q : List (Int × Int)} {F F' F9 : Nat → Prop} {pp p' : PD} {a' : List (Int × Int)} (h : Mid w7 X P b rb M M Q) (g1 : PeerAt w7 F b pp M) (g2 : ∀ n, X n → Free F b pp n) (b8 : Below w7.heap.size w7 w8)
    (hn8 : PeerAt w8 F' nb p' { M with asked := a' }) (hla : p'.la = pp.la) (hsa : p'.sa = pp.sa) (hown : ∀ n, Own F' nb p' n → w7.heap.size ≤ n) (k9 : Keeps (Own F b pp) w8 w9) (hF9 : ∀ n, F9 n → F n ∨ w8.heap.size ≤ n) (k10 : Keeps (Own F9 b pp) w9 w10) :
    Mid w10 X P nb rb { M with asked := a' } { M with asked := a' } Q ∧ Keeps (fun n => ¬ X n) w7 w10 := by
  have hp := h.bk.inv.pok
  have z8 := b8.size
  have z9 := k9.size
  have z10 := k10.size
  have ola : ∀ a, pp.la = some a → a.block < w7.heap.size := fun a e => g1.l.blk hp.l e
  have osa : ∀ a, pp.sa = some a → a.block < w7.heap.size := fun a e => g1.seats.blk hp.s e
  have o1 : ∀ n, Own F b pp n → n < w7.heap.size := fun n hn => g1.own_lt hn
  have ap : ∀ n, Apart F b pp n → ¬ Own F b pp n := fun n ha ho => by
    obtain ⟨q1, q2, q3, q4, q5, q6⟩ := ha
    rcases ho with ho | ho | ho | ho | ho | ho
    · exact q1 ho
    · exact q2 ho
    · exact q3 ho
    · exact q4 ho
    · exact q5 ho
    · exact q6 ho
  have o9 : ∀ n, Own F9 b pp n → Own F b pp n ∨ w8.heap.size ≤ n := fun n hn => by
    rcases hn with hn | hn
    · exact (hF9 n hn).imp (fun h => .inl h) fun h => h
    · exact .inl (.inr hn)
  have on : ∀ n, Own F' nb p' n → n < w8.heap.size := fun n hn => hn8.own_lt hn
  have hn9 : PeerAt w9 F' nb p' { M with asked := a' } := hn8.keep k9 (fun n hn ho => by have := o1 n hn; have := hown n ho; omega) (fun a e ho => ap _ (g1.lf a (hla ▸ e)) ho) (fun a e ho => ap _ (g1.sf a (hsa ▸ e)) ho)
    (fun a e => by have := ola a (hla ▸ e); omega) (fun a e => by have := osa a (hsa ▸ e); omega)
  have hn10 : PeerAt w10 F' nb p' { M with asked := a' } := hn9.keep k10 (fun n hn ho => by
      rcases o9 n hn with h1 | h1
      · have := o1 n h1; have := hown n ho; omega
      · have := on n ho; omega)
    (fun a e ho => by
      rcases o9 _ ho with h1 | h1
      · exact ap _ (g1.lf a (hla ▸ e)) h1
      · have := ola a (hla ▸ e); omega)
    (fun a e ho => by
      rcases o9 _ ho with h1 | h1
      · exact ap _ (g1.sf a (hsa ▸ e)) h1
      · have := osa a (hsa ▸ e); omega)
    (fun a e => by have := ola a (hla ▸ e); omega) (fun a e => by have := osa a (hsa ▸ e); omega)
  have kk : Keeps (fun n => ¬ X n) w7 w10 := by
    refine ((Keeps.of_below b8).trans (k9.mono fun n hn hx => (g2 n hx).1 hn)).trans ⟨k10.os, k10.tape, k10.output, k10.size, fun n hn hx => k10.block n hn fun ho => ?_⟩
    rcases o9 n ho with h1 | h1
    · exact hx fun hxx => (g2 n hxx).1 h1
    · exact hx fun hxx => by have := h.bk.lt n hxx; omega
  obtain ⟨p, hr, hP⟩ := h.ex
  refine ⟨⟨⟨h.bk.inv.perm a', fun n hn => by have := h.bk.lt n hn; omega, F', p', hn10, fun n hn => ⟨fun ho => by have := hown n ho; have := h.bk.lt n hn; omega, fun a e => (g2 n hn).2.1 a (hla ▸ e), fun a e => (g2 n hn).2.2 a (hsa ▸ e)⟩⟩, p, (hr.of_G (fun n hn hl => kk.block n hl fun hh => hh hn) kk.size fun _ hg _ => hg).setAsked a', hP⟩, kk⟩
end Go.Proofs.YtagpclgappcnbaaGreat
