import Derived.Test.YtagpclgappcnbaaEndP
import Derived.Test.YtagpclgappcnbaaBeT
namespace Go.Proofs.Ytagpclgappcnbaa.Be
open Go.RowKit
theorem share_zero (r : Rul) (l : List Vd) (hm : mayE r l (List.replicate l.length ⟨0, 0, 0⟩) = 0) : ShareI r l (List.replicate l.length ⟨0, 0, 0⟩) 0 := by
  have hb : ∀ n i, blF 0 (List.replicate n (⟨0, 0, 0⟩ : St)) i = [] := by
    intro n
    induction n with
    | zero => intro i; rfl
    | succ n ih => intro i; rw [List.replicate_succ, blF_cons, if_neg (by decide), ih]
  obtain ⟨hr, hc, hl, _⟩ := mayE_0 hm
  obtain ⟨_, _, _, hw⟩ := chk_32 hc
  obtain ⟨s0, _, _⟩ := wtsF_sum _ _ hw (by decide)
  have h2 := ruleE_n hr
  unfold ShareI stkI
  rw [if_pos ⟨hc, hl⟩]
  unfold blL
  rw [hb]
  have ht : tot l = sumW l := if_pos hc
  rw [ht]
  simp only [stkF, Int.zero_mul]
  exact Int.mul_nonneg s0 h2.2.2.2.2.2.2.2.1
theorem share_bd {r : Rul} {l : List Vd} {s : List St} (hm : mayE r l s = 0) (n : Int) (h : ShareI r l s n) : 0 ≤ r.nu ∧ r.nu ≤ r.de ∧ 0 ≤ stkI l s n ∧ stkI l s n ≤ 4611686018427387903 ∧ 1 ≤ tot l ∧ tot l ≤ 4611686018427387903 ∧ r.de * stkI l s n ≤ r.nu * tot l := by
  obtain ⟨hr, hc, hl, _⟩ := mayE_0 hm
  obtain ⟨hl1, _, _, hw⟩ := chk_32 hc
  obtain ⟨s0, s1, s2⟩ := wtsF_sum _ _ hw (by decide)
  have h2 := ruleE_n hr
  have ht : tot l = sumW l := if_pos hc
  have hs : stkI l s n = stkF l (blL s n) := if_pos ⟨hc, hl⟩
  have k0 := stkF_pos s2 (blL s n)
  have k1 := stkF_le s2 hl (List.prefix_refl (blL s n))
  have t1 : 1 ≤ sumW l := by
    match l, hl1, s2 with
    | x :: r, _, s2 =>
      have hx := s2 x (by simp)
      have hd := sumW_drop (x :: r) 1 s2
      simp only [List.drop_one, List.tail_cons] at hd
      simp only [sumW]; omega
  unfold ShareI at h
  refine ⟨h2.2.2.2.2.2.2.2.1, h2.2.2.2.2.2.2.2.2, by omega, by omega, by omega, by omega, ?_⟩
  rw [Int.mul_comm r.de, Int.mul_comm r.nu]; exact h

/-! ### rows of failures -/
def incR (R : List Int) (i : Nat) : List Int := R.set i (R.getD i 0 + 1)
theorem incR_len (R : List Int) (i : Nat) : (incR R i).length = R.length := by simp [incR]
theorem getD_set (R : List Int) (i v : Nat) (x : Int) : (R.set i x).getD v 0 = if i = v ∧ v < R.length then x else R.getD v 0 := by
  simp only [List.getD_eq_getElem?_getD, List.getElem?_set]
  by_cases e : i = v
  · subst e
    by_cases h : i < R.length
    · simp [h]
    · simp [h]
  · simp [e]
theorem incR_get (R : List Int) (i v : Nat) : (incR R i).getD v 0 = if i = v ∧ v < R.length then R.getD v 0 + 1 else R.getD v 0 := by
  unfold incR
  rw [getD_set]
  by_cases e : i = v
  · subst e; rfl
  · simp [e]
theorem incR_ge (R : List Int) (i v : Nat) : R.getD v 0 ≤ (incR R i).getD v 0 := by
  rw [incR_get]; split <;> omega
def uOf (s : List St) (v : Nat) : Int := (s.getD v ⟨0, 0, 0⟩).u
theorem uOf_set (s : List St) (i v : Nat) (y : St) : uOf (s.set i y) v = if i = v ∧ v < s.length then y.u else uOf s v := by
  unfold uOf
  simp only [List.getD_eq_getElem?_getD, List.getElem?_set]
  by_cases e : i = v
  · subst e
    by_cases h : i < s.length
    · simp [h]
    · simp [h]
  · simp [e]
theorem uOf_at {s : List St} {v : Nat} (h : v < s.length) : uOf s v = s[v].u := by simp [uOf, List.getD, h]
theorem stepF_fair {r : Rul} {l : List Vd} {s : List St} {i : Nat} {now : Int} {R : List Int} (hm : mayE r l s = 0) (hi : i < s.length) (hR : RowsI s R) (hp : ∀ v, 0 ≤ R.getD v 0) :
    RowsI (stepF r l s i now) (incR R i) ∧ ∀ v, uOf (stepF r l s i now) v = uOf s v ∨ r.f ≤ (incR R i).getD v 0 := by
  have hiR : i < R.length := by rw [← hR.1]; exact hi
  have hle := hR.2 i hi hiR
  have hRi : R.getD i 0 = R[i] := by simp [List.getD, hiR]
  have hp0 := hp i
  unfold stepF
  split
  · refine ⟨hR.mono (incR_len R i) fun j h h' => ?_, fun v => .inl rfl⟩
    have := incR_ge R i j
    simpa [List.getD, h, h'] using this
  · have hg : s.getD i ⟨0, 0, 0⟩ = s[i] := by simp [List.getD, hi]
    rw [hg]
    have hx := nSeat_f (r := r) (now := now) (room := roomF r l s i now) (mayE_at hm hi)
    obtain ⟨hu1, hu2⟩ := nSeat_u r s[i] now (roomF r l s i now)
    cases hst : stays r s[i] now (roomF r l s i now) with
    | true =>
      have h1 := hx.1 hst
      refine ⟨hR.set i (by rw [hRi]; omega), fun v => .inl ?_⟩
      rw [uOf_set]
      split
      · rename_i e; obtain ⟨rfl, h2⟩ := e; rw [hu1 hst, uOf_at hi]
      · rfl
    | false =>
      obtain ⟨h1, h2⟩ := hx.2 hst
      refine ⟨hR.set i (by rw [hRi]; omega), fun v => ?_⟩
      rw [uOf_set]
      by_cases e : i = v
      · subst e
        refine .inr ?_
        rw [incR_get, if_pos ⟨rfl, hiR⟩, hRi]
        omega
      · rw [if_neg (fun h => e h.1)]; exact .inl rfl
theorem rowsI_zero (n : Nat) : RowsI (List.replicate n ⟨0, 0, 0⟩) (List.replicate n 0) := ⟨by simp, fun i h h' => by simp⟩
theorem isB_iff {s : List St} {v : Nat} {now : Int} (hv : v < s.length) (hn : 0 ≤ now) : isB s (v : Int) now = decide (now < uOf s v) := by
  rw [isB_lt hv hn, uOf_at hv]
/-- the stake of those benched, from number j on -/
def stkFrom (l : List Vd) (s : List St) (now : Int) (j : Nat) : Int := stkF l (blF now (s.drop j) j)
theorem stkFrom_end (l : List Vd) (s : List St) (now : Int) : stkFrom l s now s.length = 0 := by
  unfold stkFrom
  rw [List.drop_length]
  rfl
theorem stkFrom_step (l : List Vd) (s : List St) (now : Int) {j : Nat} (hj : j < s.length) (hjl : j < l.length) : stkFrom l s now j = (if isB s (j : Int) now = true then l[j].wt else 0) + stkFrom l s now (j + 1) := by
  unfold stkFrom
  rw [List.drop_eq_getElem_cons hj, blF_cons, isB_at s j hj]
  have hw : wtA l (j : Int) = l[j].wt := by simp [wtA, List.getD, hjl]
  by_cases h : 0 ≤ now ∧ now < s[j].u
  · rw [if_pos h, if_pos (by simpa using h)]
    show wtA l (j : Int) + _ = _
    rw [hw]
  · rw [if_neg h, if_neg (by simpa using h)]
    omega
end Go.Proofs.Ytagpclgappcnbaa.Be
namespace Go.Proofs.Ytagpclgappcnbaa
open Go.RowKit

def incAll (R : List Int) (fl : List Ak.AskD) : List Int := fl.foldl (fun R a => Be.incR R a.node.toNat) R
theorem incAll_len (fl : List Ak.AskD) : ∀ R, (incAll R fl).length = R.length := by
  induction fl with
  | nil => intro R; rfl
  | cons a r ih => intro R; show (incAll (Be.incR R a.node.toNat) r).length = _; rw [ih, Be.incR_len]
theorem incAll_ge (fl : List Ak.AskD) : ∀ R v, R.getD v 0 ≤ (incAll R fl).getD v 0 := by
  induction fl with
  | nil => intro R v; exact Int.le_refl _
  | cons a r ih => intro R v; exact Int.le_trans (Be.incR_ge R a.node.toNat v) (ih _ v)
structure FairI (M : PM) (R : List Int) : Prop where
  rows : Be.RowsI M.seats R
  share : Be.ShareI M.cfg.q M.l M.seats M.now
  pos : ∀ v, 0 ≤ R.getD v 0
theorem tickF_fair : ∀ {D : List Al.Al} {M : PM} {U : List Al.Al} {R : List Int}, PInvW M (D ++ U) → FairI M R →
    FairI (tickF M D) (incAll R (outF M D)) ∧ ∀ v, Be.uOf (tickF M D).seats v = Be.uOf M.seats v ∨ M.cfg.q.f ≤ (incAll R (outF M D)).getD v 0
  | [], _, _, _, _, hf => ⟨hf, fun _ => .inl rfl⟩
  | x :: r, M, U, R, h, hf => by
    obtain ⟨h1, h2, -, -⟩ := PInvW.tickA (x := x) (r := r ++ U) h
    have n0 := h1.n0
    have n1 := h1.n1
    have hi : (Ak.expA M.A x.2).node.toNat < M.seats.length := by omega
    obtain ⟨g1, g2⟩ := Be.stepF_fair (now := M.now) h.may hi hf.rows hf.pos
    have hF : FairI (tickA M x) (Be.incR R (Ak.expA M.A x.2).node.toNat) := ⟨g1, Be.stepF_share h.may hi hf.share, fun v => Int.le_trans (hf.pos v) (Be.incR_ge _ _ _)⟩
    obtain ⟨k1, k2⟩ := tickF_fair h2 hF
    refine ⟨k1, fun v => ?_⟩
    rcases k2 v with e | e
    · rcases g2 v with e2 | e2
      · exact .inl (e.trans e2)
      · exact .inr (Int.le_trans e2 (incAll_ge _ _ v))
    · exact .inr e
/-- the time goes on -/
theorem FairI.later {M : PM} {R : List Int} (h : FairI M R) (hI : PInv M) {T : Int} (hT : M.now ≤ T) : Be.ShareI M.cfg.q M.l M.seats T :=
  Be.share_later (PInvW.may hI) (PInvW.now0 hI) hT h.share
theorem fair_ask {M : PM} {R : List Int} (h : FairI M R) (hI : PInv M) {v kind T : Int} (hT : M.now ≤ T) (hc : comesE M T = 0) : FairI (askP M v kind T).1 R := by
  obtain ⟨e1, e2, e3, -, e5⟩ := askP_same M v kind T
  have hs := h.later hI hT
  refine ⟨by rw [e3]; exact h.rows, ?_, h.pos⟩
  rw [e1, e2, e3, e5 hc]
  exact hs
theorem fair_gotno {M : PM} {R : List Int} (h : FairI M R) (hI : PInv M) {v id kind T : Int} (hT : M.now ≤ T) (hc : comesE M T = 0) (he : (gotP M v id kind T).2.2 ≠ 0) : FairI (gotP M v id kind T).1 R := by
  obtain ⟨e1, e2, e5⟩ := gotP_same M v id kind T
  have e3 := (got_no he).2
  have hs := h.later hI hT
  refine ⟨by rw [e3]; exact h.rows, ?_, h.pos⟩
  rw [e1, e2, e3, e5 hc]
  exact hs
theorem fair_got {M : PM} {R : List Int} (h : FairI M R) (hI : PInv M) {v id kind T : Int} (hT : M.now ≤ T) (hc : comesE M T = 0) (he : (gotP M v id kind T).2.2 = 0) :
    FairI (gotP M v id kind T).1 (R.set v.toNat 0) ∧ ∀ j, Be.uOf (gotP M v id kind T).1.seats j = Be.uOf M.seats j := by
  obtain ⟨e1, e2, e5⟩ := gotP_same M v id kind T
  obtain ⟨-, -, -, -, e3, h0, h1⟩ := got_yes hI hc he
  have hs := h.later hI hT
  have hsl := PInvW.seats_len hI
  have hi : v.toNat < M.seats.length := by omega
  have hv : ((v.toNat : Nat) : Int) = v := by omega
  have hrep : repS M.seats v = M.seats.set v.toNat ⟨0, 0, M.seats[v.toNat].u⟩ := by rw [← repS_at hi, hv]
  refine ⟨⟨?_, ?_, fun j => ?_⟩, fun j => ?_⟩
  · rw [e3, hrep]; exact h.rows.set _ (Int.le_refl _)
  · rw [e1, e2, e3, e5 hc, hrep]; exact Be.share_same _ hi rfl hs
  · rw [Be.getD_set]; split
    · exact Int.le_refl _
    · exact h.pos j
  · rw [e3, hrep, Be.uOf_set]
    split
    · rename_i e; obtain ⟨rfl, -⟩ := e; rw [Be.uOf_at hi]
    · rfl
theorem fair_tick {M : PM} {R : List Int} (h : FairI M R) (hI : PInv M) {T : Int} (hT : M.now ≤ T) (hc : comesE M T = 0) :
    FairI (tickP M T).1 (incAll R (tickP M T).2.1) ∧ ∀ v, Be.uOf (tickP M T).1.seats v = Be.uOf M.seats v ∨ M.cfg.q.f ≤ (incAll R (tickP M T).2.1).getD v 0 := by
  have e : tickP M T = (tickF { M with now := T, W := Al.leftL T M.W } (Al.dueL T M.W), outF { M with now := T, W := Al.leftL T M.W } (Al.dueL T M.W), 0) := by unfold tickP; rw [if_neg (fun hh => hh hc)]
  rw [e]
  have hF : FairI { M with now := T, W := Al.leftL T M.W } R := ⟨h.rows, h.later hI hT, h.pos⟩
  exact tickF_fair (hI.tick0 hc) hF
/-- behind an act: who is benched was so, or failed so often -/
theorem bench_was {M M' : PM} {R' : List Int} (hI : PInv M) (hI' : PInv M') (hl : M'.l = M.l) {T : Int} (hT : M.now ≤ T) (hu : ∀ v, Be.uOf M'.seats v = Be.uOf M.seats v ∨ M.cfg.q.f ≤ R'.getD v 0) {v : Nat} (hv : v < M.l.length) (hb : Be.isB M'.seats (v : Int) T = true) :
    Be.isB M.seats (v : Int) M.now = true ∨ M.cfg.q.f ≤ R'.getD v 0 := by
  have n0 := PInvW.now0 hI
  have s1 := PInvW.seats_len hI
  have s2 := PInvW.seats_len hI'
  rw [hl] at s2
  rw [Be.isB_iff (by omega) (by omega)] at hb
  rcases hu v with e | e
  · refine .inl ?_
    rw [Be.isB_iff (by omega) n0]
    rw [e] at hb
    have := of_decide_eq_true hb
    exact decide_eq_true (by omega)
  · exact .inr e
theorem incAll_le (fl : List Ak.AskD) : ∀ R v, (incAll R fl).getD v 0 ≤ R.getD v 0 + fl.length := by
  induction fl with
  | nil => intro R v; simp [incAll]
  | cons a r ih =>
    intro R v
    have h1 := ih (Be.incR R a.node.toNat) v
    have h2 := Be.incR_get R a.node.toNat v
    show (incAll (Be.incR R a.node.toNat) r).getD v 0 ≤ _
    rw [h2] at h1
    simp only [List.length_cons]
    split at h1 <;> omega
theorem incAll_take (fl : List Ak.AskD) (R : List Int) {j : Nat} (hj : j < fl.length) : incAll R (fl.take (j + 1)) = Be.incR (incAll R (fl.take j)) fl[j].node.toNat := by
  unfold incAll
  rw [List.take_succ_eq_append_getElem hj, List.foldl_append]
  rfl
theorem fair_new {c : CfgD} {l : List Be.Vd} (h : newE c l 0 = 0) (hde : c.q.de < 9223372036854775808) : FairI (newM c l 0) (List.replicate l.length 0) :=
  ⟨Be.rowsI_zero _, Be.share_zero _ _ (PInvW.may (PInv.new h hde)), fun v => by simp only [List.getD_eq_getElem?_getD, List.getElem?_replicate]; split <;> simp⟩
end Go.Proofs.Ytagpclgappcnbaa
namespace Go.Proofs.Ytagpclgappcnbaa
open Go.RowKit

def boolC (R : List Bool) : Array Value := (R.map fun x => Value.bool x).toArray
theorem info4 : (Try.prog.info? 4).map (fun i => (i.zero, i.size, i.bytes)) = some (some (.bool false), 1, 1) := by kernel_rfl
set_option maxRecDepth 100000 in
theorem makeBools (W : World) (n : Nat) (hn : n ≤ 4096) : ∃ W', (Instr.makeSlice 42 (.int .i64 (n : Int)) (.int .i64 (n : Int))).run Try.prog W = .ok (.slice (some ⟨W.heap.size, 0, none⟩) n n) W' ∧ obj W' W.heap.size = some (.cells (boolC (List.replicate n false)) 4 (0, 0)) ∧ Below W.heap.size W W' := by
  obtain ⟨i0, hi, hz0, hz1, hz2⟩ := info_parts info4
  obtain ⟨W', hm, hown, hg⟩ := run_makeSlice_full (P := Try.prog) W W.heap.size 42 4 i0 _ 1 Try.underlying42 hi hz0 hz1 .i64 .i64 n (by omega) (by rw [hz2]; omega) (by unfold maxLen; omega) (Nat.le_refl _)
  refine ⟨W', hm, ?_, (Below.refl _ W).grown hg (Nat.le_refl _) (fun k e => by cases e)⟩
  rcases hown.2 with ⟨h, _⟩ | ⟨g, cap, cur, h, _, ho, h1, _, h3, h4⟩
  · cases h
  · simp only [Value.slice.injEq, Option.some.injEq, Addr.mk.injEq, and_true] at h
    obtain ⟨rfl, _, rfl⟩ := h
    have e : cur = boolC (List.replicate n false) := by
      apply Array.ext'
      rw [← List.take_of_length_le (l := cur.toList) (i := n * 1) (by simp; omega), h4]
      unfold boolC
      simp only [List.map_replicate]
      rw [List.eq_replicate_iff]
      refine ⟨by simp [madeCells], fun b hb => ?_⟩
      change b ∈ (madeCells #[.bool false] (n * 1)).toList at hb
      unfold madeCells at hb
      rw [Array.toList_map, List.mem_map] at hb
      obtain ⟨i, _, rfl⟩ := hb
      have : i % 1 = 0 := by omega
      change (#[Value.bool false] : Array Value)[i % 1]! = _
      rw [this]; rfl
    rw [← e]
    exact ho
theorem boolC_get (R : List Bool) {i : Nat} (h : i < R.length) : (boolC R)[i]? = some (.bool R[i]) := by simp [boolC, h]
theorem boolC_set (R : List Bool) (i : Nat) (x : Bool) : (boolC R).setIfInBounds i (.bool x) = boolC (R.set i x) := by
  unfold boolC
  simp [List.map_set]
/-- who is benched, told of each -/
def wasL (s : List Be.St) (now : Int) (n j : Nat) : List Bool := (List.range n).map fun v => if v < j then Be.isB s (v : Int) now else false
theorem wasL_zero (s : List Be.St) (now : Int) (n : Nat) : wasL s now n 0 = List.replicate n false := by
  unfold wasL
  rw [List.eq_replicate_iff]
  refine ⟨by simp, fun b hb => ?_⟩
  obtain ⟨i, _, e⟩ := List.mem_map.1 hb
  rw [← e, if_neg (by omega)]
theorem wasL_len (s : List Be.St) (now : Int) (n j : Nat) : (wasL s now n j).length = n := by simp [wasL]
theorem wasL_step (s : List Be.St) (now : Int) (n j : Nat) : (wasL s now n j).set j (Be.isB s (j : Int) now) = wasL s now n (j + 1) := by
  apply List.ext_getElem
  · simp [wasL]
  · intro i h1 h2
    rw [List.getElem_set]
    by_cases e : j = i
    · subst e; rw [if_pos rfl]; simp [wasL]
    · rw [if_neg e]
      simp only [wasL, List.getElem_map, List.getElem_range]
      by_cases e2 : i < j
      · rw [if_pos e2, if_pos (by omega)]
      · rw [if_neg e2, if_neg (by omega)]
theorem wasL_get (s : List Be.St) (now : Int) (n : Nat) {v : Nat} (h : v < n) : (wasL s now n n)[v]'(by rw [wasL_len]; exact h) = Be.isB s (v : Int) now := by
  simp only [wasL, List.getElem_map, List.getElem_range]
  rw [if_pos h]
/-! ### within -/
set_option maxRecDepth 100000 in
theorem within_any (w : World) (sum tt : Int) (q : Be.Rul) (hs0 : 0 ≤ sum) (hs1 : sum < 9223372036854775808) (ht0 : 0 ≤ tt) (ht1 : tt < 9223372036854775808) (hn0 : 0 ≤ q.de) (hn1 : q.de < 9223372036854775808) (hd0 : 1 ≤ q.nu) (hd1 : q.nu < 9223372036854775808) :
    Calls Try.prog 16 #[.int .i64 sum, .int .i64 tt, .agg #[.int .i64 q.f, .int .i64 q.lo, .int .i64 q.fo, .int .i64 q.nu, .int .i64 q.de]] w fun e w' => e = .returned (.bool (decide (sum * q.de ≤ tt * q.nu))) ∧ Below w.heap.size w w' := by
  have b1 : Below w.heap.size w (w.alloc (.cells #[.int .i64 q.f, .int .i64 q.lo, .int .i64 q.fo, .int .i64 q.nu, .int .i64 q.de] 25)) := (Below.refl _ _).alloc (Nat.le_refl _) _
  have B1 := Lib.hid b1
  have HL := Lib.hid (fun W => Be.leastB W tt sum q.de q.nu ht0 ht1 hs0 hs1 hn0 hn1 hd0 hd1)
  clear b1
  generalize decide (sum * q.de ≤ tt * q.nu) = R at *
  go_enter Try.func16, Try.ntmps16
  go_wp2_with fail
  refine (HL.out _).mono ?_
  rintro e w2 ⟨rfl, b2⟩
  have B2 := Lib.hid (B1.out.trans (b2.mono B1.out.size))
  clear b2
  go_wp2_with fail
  go_ret
  exact ⟨rfl, B2.out⟩
end Go.Proofs.Ytagpclgappcnbaa
