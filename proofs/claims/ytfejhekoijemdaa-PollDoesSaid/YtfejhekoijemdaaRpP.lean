import Derived.Test.YtfejhekoijemdaaRpK
import Derived.Test.YtfejhekoijemdaaRpLM
import Derived.Test.YtfejhekoijemdaaBegX
namespace Go.Proofs.Ytfejhekoijemdaa
open Go.RowKit

/-! ### both sets in one heap: the program's at b stands at S1, the document's at rb at S2, R; X holds blocks that neither writes -/
structure Duo (w : World) (X : Nat → Prop) (b rb : Nat) (S1 S2 : SetM) (R : List (List Int)) : Prop where
  ex : ∃ M V G lv ps lr pr, SetW w M V b lv ps S1 ∧ RSetW w G rb lr pr S2 R ∧ (∀ n, G n → ¬ M n ∧ ¬ V n ∧ n < w.heap.size) ∧ (∀ n, X n → ¬ M n ∧ ¬ G n ∧ n < w.heap.size)
def NX (X : Nat → Prop) (n : Nat) : Prop := ¬ X n
variable {w w' : World} {X Y : Nat → Prop} {b rb : Nat} {S1 S2 T : SetM} {R : List (List Int)}
theorem Duo.mono (h : Duo w X b rb S1 S2 R) (hX : ∀ n, Y n → X n) : Duo w Y b rb S1 S2 R := by
  obtain ⟨M, V, G, lv, ps, lr, pr, h1, h2, h3, h4⟩ := h.ex
  exact ⟨M, V, G, lv, ps, lr, pr, h1, h2, h3, fun n hn => h4 n (hX n hn)⟩
theorem Duo.more (h : Duo w X b rb S1 S2 R) (hb : Below w.heap.size w w') : Duo w' (fun n => X n ∨ (w.heap.size ≤ n ∧ n < w'.heap.size)) b rb S1 S2 R := by
  obtain ⟨M, V, G, lv, ps, lr, pr, h1, h2, h3, h4⟩ := h.ex
  have hz := hb.size
  refine ⟨M, V, G, lv, ps, lr, pr, h1.below hb, h2.below hb, fun n hn => ?_, fun n hn => ?_⟩
  · obtain ⟨a, c, d⟩ := h3 n hn
    exact ⟨a, c, by omega⟩
  · rcases hn with hn | hn
    · obtain ⟨a, c, d⟩ := h4 n hn
      exact ⟨a, c, by omega⟩
    · exact ⟨fun hm => by have := h1.mlt n hm; omega, fun hg => by have := (h3 n hg).2.2; omega, hn.2⟩
theorem Duo.below (h : Duo w X b rb S1 S2 R) (hb : Below w.heap.size w w') : Duo w' X b rb S1 S2 R := (h.more hb).mono fun _ hn => .inl hn
theorem NX.of_M {M : Nat → Prop} (h : Keeps M w w') (hX : ∀ n, X n → ¬ M n) : Keeps (NX X) w w' := h.mono fun n hm hx => hX n hx hm
/-- an act of the program's -/
theorem Duo.prog {M V G M' V' : Nat → Prop} {lv' lr : Value} {ps' : List (Nat × Nat)} {pr : List PB} (h2 : RSetW w G rb lr pr S2 R) (h3 : ∀ n, G n → ¬ M n ∧ ¬ V n ∧ n < w.heap.size) (h4 : ∀ n, X n → ¬ M n ∧ ¬ G n ∧ n < w.heap.size)
    (h : SetW w' M' V' b lv' ps' T) (hm : ∀ n, M' n → M n ∨ w.heap.size ≤ n) (hv : ∀ n, V' n → V n ∨ w.heap.size ≤ n) (hk : Keeps M w w') : Duo w' X b rb T S2 R ∧ Keeps (NX X) w w' := by
  have hz := hk.size
  refine ⟨⟨M', V', G, lv', ps', lr, pr, h, h2.of_G (fun n hn hlt => hk.block n hlt (h3 n hn).1) hz (fun n hn _ => hn), fun n hn => ?_, fun n hn => ?_⟩, NX.of_M hk fun n hn => (h4 n hn).1⟩
  · obtain ⟨a, c, d⟩ := h3 n hn
    exact ⟨fun h => by rcases hm n h with h | h; exact a h; omega, fun h => by rcases hv n h with h | h; exact c h; omega, by omega⟩
  · obtain ⟨a, c, d⟩ := h4 n hn
    exact ⟨fun h => by rcases hm n h with h | h; exact a h; omega, c, by omega⟩
/-- an act of the document's -/
theorem Duo.ref {M V G : Nat → Prop} {lv : Value} {ps : List (Nat × Nat)} {R' : List (List Int)} (h1 : SetW w M V b lv ps S1) (h3 : ∀ n, G n → ¬ M n ∧ ¬ V n ∧ n < w.heap.size) (h4 : ∀ n, X n → ¬ M n ∧ ¬ G n ∧ n < w.heap.size)
    (h : RAct w G rb T R' w') : Duo w' X b rb S1 T R' ∧ Keeps (NX X) w w' := by
  have hz := h.k.size
  obtain ⟨lr, pr, h2⟩ := h.ex
  refine ⟨⟨M, V, fun n => (G n ∨ w.heap.size ≤ n) ∧ n < w'.heap.size, lv, ps, lr, pr, h1.frame hz fun n hn hmv => h.k.block n hn fun hg => (by rcases hmv with hm | hm; exact (h3 n hg).1 hm; exact (h3 n hg).2.1 hm), h2.of_G (fun n _ _ => rfl) (Nat.le_refl _) (fun n hn hlt => ⟨hn, hlt⟩), fun n hn => ?_, fun n hn => ?_⟩, NX.of_M h.k fun n hn => (h4 n hn).2.1⟩
  · rcases hn with ⟨hn | hn, hlt⟩
    · obtain ⟨a, c, d⟩ := h3 n hn
      exact ⟨a, c, hlt⟩
    · exact ⟨fun hm => by have := h1.mlt n hm; omega, fun hv => by have := h1.vlt n hv; omega, hlt⟩
  · obtain ⟨a, c, d⟩ := h4 n hn
    exact ⟨a, fun h => by rcases h with ⟨h | h, _⟩; exact c h; omega, by omega⟩
/-! ### each act, told of both -/
theorem duo_vote (h : Duo w X b rb S1 S2 R) (hok : SetOK S1) (n v : Int) (id : ID) :
    Calls Try.prog 14 #[.pointer (some ⟨b, 0, none⟩), .int .i64 n, .int .i64 v, .agg (idL id).toArray] w fun e w' => e = .returned (.int .i64 (voteM S1 n v id).2) ∧ Duo w' X b rb (voteM S1 n v id).1 S2 R ∧ Keeps (NX X) w w' := by
  obtain ⟨M, V, G, lv, ps, lr, pr, h1, h2, h3, h4⟩ := h.ex
  refine (vote_any w M V b lv ps S1 h1 hok n v id).mono ?_
  rintro e w' ⟨rfl, V', s, v1, v2, k⟩
  exact ⟨rfl, Duo.prog h2 h3 h4 s (fun _ h => .inl h) v2 k⟩
theorem duo_drop (h : Duo w X b rb S1 S2 R) (hok : SetOK S1) (n v : Int) :
    Calls Try.prog 13 #[.pointer (some ⟨b, 0, none⟩), .int .i64 n, .int .i64 v] w fun e w' => e = .returned (.int .i64 (dropM S1 n v).2) ∧ Duo w' X b rb (dropM S1 n v).1 S2 R ∧ Keeps (NX X) w w' := by
  obtain ⟨M, V, G, lv, ps, lr, pr, h1, h2, h3, h4⟩ := h.ex
  refine (drop_any w M V b lv ps S1 h1 hok n v).mono ?_
  rintro e w' ⟨rfl, V', s, v1, v2, k⟩
  exact ⟨rfl, Duo.prog h2 h3 h4 s (fun _ h => .inl h) v2 k⟩
theorem duo_rvote (h : Duo w X b rb S1 S2 R) (hok : SetOK S2) (hrel : RelS S2 R) (hlen : S2.l.length ≤ 100000) (n v : Int) (id : ID) :
    Calls Try.prog 41 #[.pointer (some ⟨rb, 0, none⟩), .int .i64 n, .int .i64 v, .agg (idL id).toArray] w fun e w' => e = .returned (.int .i64 (voteM S2 n v id).2) ∧ Duo w' X b rb S1 (voteM S2 n v id).1 R ∧ Keeps (NX X) w w' := by
  obtain ⟨M, V, G, lv, ps, lr, pr, h1, h2, h3, h4⟩ := h.ex
  refine (rvote_any w G rb lr pr S2 R n v id h2 hok hrel (by rw [h2.len]; exact hlen)).mono ?_
  rintro e w' ⟨rfl, r⟩
  exact ⟨rfl, Duo.ref h1 h3 h4 r⟩
theorem duo_rdrop (h : Duo w X b rb S1 S2 R) (hok : SetOK S2) (hrel : RelS S2 R) (hlen : S2.l.length ≤ 100000) (n v : Int) :
    Calls Try.prog 42 #[.pointer (some ⟨rb, 0, none⟩), .int .i64 n, .int .i64 v] w fun e w' => e = .returned (.int .i64 (dropM S2 n v).2) ∧ Duo w' X b rb S1 (dropM S2 n v).1 R ∧ Keeps (NX X) w w' := by
  obtain ⟨M, V, G, lv, ps, lr, pr, h1, h2, h3, h4⟩ := h.ex
  refine (rdrop_any w G rb lr pr S2 R n v h2 hok hrel (by rw [h2.len]; exact hlen)).mono ?_
  rintro e w' ⟨rfl, r⟩
  exact ⟨rfl, Duo.ref h1 h3 h4 r⟩
theorem duo_open (h : Duo w X b rb S1 S2 R) (hok : SetOK S1) (hlast : S1.last < 4611686018427387904) (v : Value) (xs : List Int) (hx : SlIn w v 1 intL xs) (hX : ∀ g off n cap, v = .slice (some ⟨g, off, none⟩) n cap → 0 < xs.length → X g) :
    Calls Try.prog 11 #[.pointer (some ⟨b, 0, none⟩), v] w fun e w' => e = .returned (.tuple #[.int .i64 (ropenM S1 xs).2.1, .int .i64 (ropenM S1 xs).2.2]) ∧ Duo w' X b rb (ropenM S1 xs).1 S2 R ∧ Keeps (NX X) w w' := by
  obtain ⟨M, V, G, lv, ps, lr, pr, h1, h2, h3, h4⟩ := h.ex
  unfold ropenM
  by_cases ho : openC S1 xs = 0
  · rw [if_pos ho]
    refine (open_yes w M V b lv ps S1 h1 hok hlast v xs ⟨hx, fun g off n cap e h0 hm => (h4 g (hX g off n cap e h0)).1 hm⟩ ho).mono ?_
    rintro e w' ⟨rfl, M', lv', ps', s, m1, m2, k⟩
    exact ⟨rfl, Duo.prog h2 h3 h4 s m2 (fun _ h => .inl h) k⟩
  · rw [if_neg ho]
    refine (open_no w M V b lv ps S1 h1 hok.p0 v xs hx ho).mono ?_
    rintro e w' ⟨rfl, rfl⟩
    exact ⟨rfl, h, Keeps.refl _ _⟩
theorem duo_ropen (h : Duo w X b rb S1 S2 R) (hok : SetOK S2) (hlen : S2.l.length ≤ 100000) (hlast : S2.last < 4611686018427387904) (v : Value) (xs : List Int) (hx : SlIn w v 1 intL xs) :
    Calls Try.prog 40 #[.pointer (some ⟨rb, 0, none⟩), v] w fun e w' => e = .returned (.tuple #[.int .i64 (ropenM S2 xs).2.1, .int .i64 (ropenM S2 xs).2.2]) ∧ Duo w' X b rb S1 (ropenM S2 xs).1 (ropenR S2 R xs) ∧ Keeps (NX X) w w' := by
  obtain ⟨M, V, G, lv, ps, lr, pr, h1, h2, h3, h4⟩ := h.ex
  refine (ropen_any w G rb lr pr S2 R v xs h2 hok hx (by rw [h2.len]; exact hlen) hlast).mono ?_
  rintro e w' ⟨rfl, r⟩
  exact ⟨rfl, Duo.ref h1 h3 h4 r⟩
/-- ends that lie in blocks of X -/
structure EndsX (w : World) (X : Nat → Prop) (v : Value) (l : List OneM) : Prop where
  ex : ∃ es, SlIn w v 3 endL es ∧ EndsAt w X es l ∧ ∀ g off n cap, v = .slice (some ⟨g, off, none⟩) n cap → 0 < es.length → X g
theorem EndsX.keep {v : Value} {l : List OneM} (h : EndsX w X v l) (hk : Keeps (NX X) w w') : EndsX w' X v l := by
  obtain ⟨es, h1, h2, h3⟩ := h.ex
  exact ⟨es, h1.stay hk.size (fun g off n cap e h0 hlt => hk.block g hlt fun hn => hn (h3 g off n cap e h0)), h2.frame hk.size (fun n hn hx => hk.block n hn fun h => h hx) (fun _ h => h), h3⟩
theorem EndsX.mono {v : Value} {l : List OneM} (h : EndsX w X v l) (hX : ∀ n, X n → Y n) : EndsX w Y v l := by
  obtain ⟨es, h1, h2, h3⟩ := h.ex
  exact ⟨es, h1, h2.frame (Nat.le_refl _) (fun _ _ _ => rfl) hX, fun g off n cap e h0 => hX _ (h3 g off n cap e h0)⟩
theorem duo_done (h : Duo w X b rb S1 S2 R) (hok : SetOK S1) (hlen : S1.l.length ≤ 100000) :
    Calls Try.prog 16 #[.pointer (some ⟨b, 0, none⟩)] w fun e w' => ∃ v Y, e = .returned v ∧ EndsX w' Y v (S1.l.take (doneN S1)) ∧ (∀ n, X n → Y n) ∧ Duo w' Y b rb (dropS S1 (doneN S1)) S2 R ∧ Keeps (NX X) w w' := by
  obtain ⟨M, V, G, lv, ps, lr, pr, h1, h2, h3, h4⟩ := h.ex
  refine (doneS_any w M V b lv ps S1 h1 hok (by omega)).mono ?_
  rintro e w' ⟨v, es, lv', ps', rfl, o, s, ea, k⟩
  have hz := k.size
  refine ⟨v, fun n => X n ∨ V n ∨ v.ownBlock = some n, rfl, ⟨es, o.slIn endL_length, ea.frame (Nat.le_refl _) (fun _ _ _ => rfl) (fun n hn => .inr (.inl hn)), fun g off n cap e h0 => ?_⟩, fun n hn => .inl hn, ⟨M, V, G, lv', ps', lr, pr, s, h2.of_G (fun n hn hlt => k.block n hlt (h3 n hn).1) hz (fun n hn _ => hn), fun n hn => ?_, fun n hn => ?_⟩, NX.of_M k fun n hn => (h4 n hn).1⟩
  · refine .inr (.inr ?_)
    subst e
    obtain ⟨_, hh⟩ := o.1
    rcases hh with ⟨h9, _⟩ | ⟨g', cap', cur, h9, _⟩
    · cases h9
    · injection h9 with h9 _ _
      injection h9 with h9
      injection h9 with h9 h8 _
      subst h9; subst h8
      rfl
  · obtain ⟨a, c, d⟩ := h3 n hn
    exact ⟨a, c, by omega⟩
  · rcases hn with hn | hn | hn
    · obtain ⟨a, c, d⟩ := h4 n hn
      exact ⟨a, c, by omega⟩
    · exact ⟨fun hm => h1.dis n hm hn, fun hg => (h3 n hg).2.1 hn, by have := h1.vlt n hn; omega⟩
    · obtain ⟨q1, q2⟩ := o.1.lt n hn
      exact ⟨fun hm => by have := h1.mlt n hm; omega, fun hg => by have := (h3 n hg).2.2; omega, q2⟩
theorem duo_rdone (h : Duo w X b rb S1 S2 R) (hok : SetOK S2) (hrel : RelS S2 R) (hlen : S2.l.length ≤ 100000) :
    Calls Try.prog 29 #[.pointer (some ⟨rb, 0, none⟩)] w fun e w' => ∃ v, e = .returned v ∧ EndsX w' (fun _ => True) v (S2.l.take (doneN S2)) ∧ Duo w' X b rb S1 (dropS S2 (doneN S2)) (R.drop (doneN S2)) ∧ Keeps (NX X) w w' := by
  obtain ⟨M, V, G, lv, ps, lr, pr, h1, h2, h3, h4⟩ := h.ex
  refine (rdoneS_any w G rb lr pr S2 R h2 hok hrel hlen).mono ?_
  rintro e w' ⟨v, es, rfl, o, ea, r⟩
  exact ⟨v, rfl, ⟨es, o.slIn endL_length, ea.frame (Nat.le_refl _) (fun _ _ _ => rfl) (fun _ _ => trivial), fun _ _ _ _ _ _ => trivial⟩, Duo.ref h1 h3 h4 r⟩
theorem ends_same {u v : Value} {l : List OneM} (h1 : EndsX w X u l) (h2 : EndsX w Y v l) : Calls Try.prog 28 #[u, v] w fun e w' => e = .returned (.bool true) ∧ Below w.heap.size w w' := by
  obtain ⟨es, a1, a2, _⟩ := h1.ex
  obtain ⟨fs, c1, c2, _⟩ := h2.ex
  exact sameEnds_yes w X Y u v es fs l a1 c1 a2 c2
/-! ### what is read -/
theorem duo_left (h : Duo w X b rb S1 S2 R) (hok : SetOK S1) (n : Int) :
    Calls Try.prog 21 #[.pointer (some ⟨b, 0, none⟩), .int .i64 n] w fun e w' => e = .returned (.tuple #[.int .i64 (leftM S1 n).1, .int .i64 (leftM S1 n).2]) ∧ Below w.heap.size w w' := by
  obtain ⟨M, V, G, lv, ps, lr, pr, h1, h2, h3, h4⟩ := h.ex
  exact left_any w M V b lv ps S1 h1 hok n
theorem duo_waits (h : Duo w X b rb S1 S2 R) (hok : SetOK S1) (n v : Int) :
    Calls Try.prog 12 #[.pointer (some ⟨b, 0, none⟩), .int .i64 n, .int .i64 v] w fun e w' => e = .returned (.bool (waitsM S1 n v)) ∧ Below w.heap.size w w' := by
  obtain ⟨M, V, G, lv, ps, lr, pr, h1, h2, h3, h4⟩ := h.ex
  exact waits_any w M V b lv ps S1 h1 hok n v
theorem duo_rleft (h : Duo w X b rb S1 S2 R) (hok : SetOK S2) (hrel : RelS S2 R) (hlen : S2.l.length ≤ 100000) (n : Int) :
    Calls Try.prog 43 #[.pointer (some ⟨rb, 0, none⟩), .int .i64 n] w fun e w' => e = .returned (.tuple #[.int .i64 (leftM S2 n).1, .int .i64 (leftM S2 n).2]) ∧ Below w.heap.size w w' := by
  obtain ⟨M, V, G, lv, ps, lr, pr, h1, h2, h3, h4⟩ := h.ex
  refine (rleftS_any w G rb lr pr S2 R n h2 hok hrel (by rw [h2.len]; exact hlen)).mono ?_
  rintro e w' ⟨rfl, rfl⟩
  exact ⟨rfl, Below.refl _ _⟩
theorem duo_rwaits (h : Duo w X b rb S1 S2 R) (hok : SetOK S2) (hrel : RelS S2 R) (hlen : S2.l.length ≤ 100000) (n v : Int) :
    Calls Try.prog 44 #[.pointer (some ⟨rb, 0, none⟩), .int .i64 n, .int .i64 v] w fun e w' => e = .returned (.bool (waitsM S2 n v)) ∧ Below w.heap.size w w' := by
  obtain ⟨M, V, G, lv, ps, lr, pr, h1, h2, h3, h4⟩ := h.ex
  refine (rwaits_any w G rb lr pr S2 R n v h2 hok hrel (by rw [h2.len]; exact hlen)).mono ?_
  rintro e w' ⟨rfl, rfl⟩
  exact ⟨rfl, Below.refl _ _⟩
/-! ### the plain data go on alike -/
theorem RelS.dropM (h : RelS T R) (n v : Int) : RelS (dropM T n v).1 R := by
  unfold Ytfejhekoijemdaa.dropM
  split
  · exact h
  · split
    · exact h
    · split
      · exact h
      · exact h.mod _ _ fun o sl ho => ho.take v
theorem RelS.voteM (h : RelS T R) (n v : Int) (id : ID) : RelS (voteM T n v id).1 R := by
  unfold Ytfejhekoijemdaa.voteM
  split
  · exact h
  · split
    · exact h
    · split
      · exact h
      · split
        · exact h.mod _ _ fun o sl ho => ho.take v
        · exact h.mod _ _ fun o sl ho => ho.vote v id
theorem RelS.open (h : RelS T R) (xs : List Int) : RelS (ropenM T xs).1 (ropenR T R xs) := by
  unfold ropenM ropenR
  split
  · exact h.add xs
  · exact h
theorem SetOK.open (h : SetOK T) (xs : List Int) : SetOK (ropenM T xs).1 := by
  unfold ropenM
  split
  · rename_i ho; exact h.add ho
  · exact h
theorem modS_size (i : Nat) (f : OneM → OneM) : (modS T i f).l.length = T.l.length ∧ (modS T i f).last = T.last := by
  unfold modS; simp
theorem dropM_size (n v : Int) : (dropM T n v).1.l.length = T.l.length ∧ (dropM T n v).1.last = T.last := by
  unfold dropM
  split
  · exact ⟨rfl, rfl⟩
  · split
    · exact ⟨rfl, rfl⟩
    · split
      · exact ⟨rfl, rfl⟩
      · exact modS_size _ _
theorem voteM_size (n v : Int) (id : ID) : (voteM T n v id).1.l.length = T.l.length ∧ (voteM T n v id).1.last = T.last := by
  unfold voteM
  split
  · exact ⟨rfl, rfl⟩
  · split
    · exact ⟨rfl, rfl⟩
    · split
      · exact ⟨rfl, rfl⟩
      · split
        · exact modS_size _ _
        · exact modS_size _ _
theorem ropenM_size (xs : List Int) : (ropenM T xs).1.l.length ≤ T.l.length + 1 ∧ (ropenM T xs).1.last ≤ T.last + 1 := by
  unfold ropenM
  split
  · unfold addS; simp
  · exact ⟨by simp, by simp; omega⟩
/-- both stand at the same -/
structure Both (w : World) (X : Nat → Prop) (b rb : Nat) (S : SetM) (R : List (List Int)) (k : Nat) : Prop where
  d : Duo w X b rb S S R
  ok : SetOK S
  rel : RelS S R
  len : S.l.length ≤ k
  last : S.last ≤ k
theorem Both.below {S : SetM} {k : Nat} (h : Both w X b rb S R k) (hb : Below w.heap.size w w') : Both w' X b rb S R k := ⟨h.d.below hb, h.ok, h.rel, h.len, h.last⟩
theorem Both.mono {S : SetM} {k : Nat} (h : Both w X b rb S R k) (hX : ∀ n, Y n → X n) : Both w Y b rb S R k := ⟨h.d.mono hX, h.ok, h.rel, h.len, h.last⟩
theorem Both.next {S : SetM} {k : Nat} (h : Both w X b rb S R k) : Both w X b rb S R (k + 1) := ⟨h.d, h.ok, h.rel, by have := h.len; omega, by have := h.last; omega⟩
/-- what an act of both leaves -/
def BothR (w : World) (X : Nat → Prop) (b rb k : Nat) (w' : World) : Prop := (∃ S' R', Both w' X b rb S' R' k) ∧ Keeps (NX X) w w'
end Go.Proofs.Ytfejhekoijemdaa
