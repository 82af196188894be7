import Derived.Test.YtggpmepiggnnnaaRise
namespace Go.Proofs.Ytggpmepiggnnnaa
open Go.RowKit

/-- the least of the first so many of a place and both below it -/
def lstF (L : List Al) (i : Nat) : Nat → Nat
  | 0 => i
  | n + 1 => if 2 * i + 1 + n < L.length ∧ alLt (at' L (2 * i + 1 + n)) (at' L (lstF L i n)) = true then 2 * i + 1 + n else lstF L i n
theorem lstF_two (L : List Al) (i : Nat) : lstF L i 2 = leastF L i := rfl
theorem lstF_lt {L : List Al} {i : Nat} (hi : i < L.length) : ∀ n, lstF L i n < L.length
  | 0 => hi
  | n + 1 => by
    unfold lstF
    split
    · rename_i h; exact h.1
    · exact lstF_lt hi n
set_option maxRecDepth 100000 in
set_option maxHeartbeats 1000000 in
theorem least_any (w : World) (sv : Value) (L : List Al) (pb i : Nat) (h : w.ownsRow 0 32 2 sv L.length (L.flatMap alL)) (hi : i < L.length) (hlen : L.length ≤ 100000)
    (hp : obj w pb = some (.cells #[.int .i64 i, .int .i64 (2 * i + 1 : Nat), .int .i64 (2 * i + 2 : Nat)] 3 (0, 0))) :
    Calls Try.prog 65 #[sv, .func (.func 52) #[] #[], .slice (some ⟨pb, 0, none⟩) 3 3] w fun e w' => e = .returned (.int .i64 (leastF L i)) ∧ Below w.heap.size w w' := by
  obtain ⟨oa, cap, rfl, q1, q2, q3⟩ := row_sub h
  obtain ⟨g, cur, rfl, _, _, hg, hcs, htk⟩ := q3 (by omega)
  unfold maxLen at q2
  have hgz := lt_of_obj hg
  have hpz := lt_of_obj hp
  have p0 : w.cell? ⟨pb, 0, none⟩ = some (.int .i64 i) := cell_at hp 0
  have HP1 := Lib.hid (show ∀ k, k < 2 → w.cell? ⟨pb, 1 + k, none⟩ = some (.int .i64 ((2 * i + 1 + k : Nat) : Int)) from fun k hk => by
    have : k = 0 ∨ k = 1 := by omega
    rcases this with rfl | rfl
    · exact cell_at hp 1
    · exact cell_at hp 2)
  have HT := Lib.hid (And.intro htk (And.intro hcs q1))
  have HG := Lib.hid hg
  have HPO := Lib.hid hp
  clear h q3 htk hcs hg hp
  go_enter Try.func65, Try.ntmps65
  go_wp2
  go_loopw [7, 16] (fun v7 v16 wr => ∃ k : Nat, k ≤ 2 ∧ v16 = .int .i64 k ∧ v7 = .int .i64 (lstF L i k) ∧ Below w.heap.size w wr) (fun _ v _ => 2 - (intOf v).toNat)
  case atStart => exact ⟨0, by omega, rfl, rfl, Below.refl _ _⟩
  case round =>
    obtain ⟨k, hk, rfl, rfl, hb⟩ := hrel
    have hz := hb.size
    by_cases hlt : k < 2
    · have HL1 := Lib.hid (lstF_lt (L := L) hi k)
      have HST : Hid (lstF L i (k + 1) = if 2 * i + 1 + k < L.length ∧ alLt (at' L (2 * i + 1 + k)) (at' L (lstF L i k)) = true then 2 * i + 1 + k else lstF L i k) := Lib.hid rfl
      have cp : wr.cell? ⟨pb, 1 + k, none⟩ = some (.int .i64 ((2 * i + 1 + k : Nat) : Int)) := (hb.cell (p := ⟨pb, 1 + k, none⟩) hpz).trans (HP1.out k hlt)
      have hpr : pb < wr.heap.size := by omega
      have hgr : g < wr.heap.size := by omega
      generalize hpq : 2 * i + 1 + k = p at *
      have hbest := HL1.out
      generalize lstF L i k = q at *
      have s2 := row_get HT.out.1 HT.out.2.1 HT.out.2.2 hbest
      rw [← HG.out, ← obj_below hb hgz] at s2
      by_cases hpl : p < L.length
      · have d1 : decide ((p : Int) < (L.length : Int)) = true := by simpa using hpl
        have s1 := row_get HT.out.1 HT.out.2.1 HT.out.2.2 hpl
        rw [← HG.out, ← obj_below hb hgz] at s1
        have he := HST.out
        rw [at'_eq hpl, at'_eq hbest] at he
        have HLS := Lib.hid fun v : Later wr => Calls.later (x := v) (less_any v.w L[p] L[q])
        generalize L[p] = x at *
        generalize L[q] = y at *
        generalize alLt x y = c at *
        have HE := Lib.hid he
        obtain ⟨x1, x2⟩ := x
        obtain ⟨y1, y2⟩ := y
        clear he HST
        go_wp2
        refine wp_region_later wr (Below.refl _ _) (by kernel_rfl) (by kernel_rfl) ?_
        repeat (go_big_quiet_step ((go_at_call 52; with_reducible exact HLS.out _)))
        refine wpQuiet_nil ?_
        rintro w2 ⟨v, rfl⟩
        have b2 := hb.trans (v.h.mono hz)
        cases c
        · go_wp2
          go_roundw
          case rel => exact ⟨k + 1, by omega, by go_num, by rw [HE.out]; simp, b2⟩
          case measure => simp [intOf]; omega
        · go_wp2
          go_roundw
          case rel => exact ⟨k + 1, by omega, by go_num, by rw [HE.out]; simp [hpl], b2⟩
          case measure => simp [intOf]; omega
      · have d1 : decide ((p : Int) < (L.length : Int)) = false := by simpa using hpl
        have HE := Lib.hid HST.out
        clear HST
        go_wp2
        refine wp_region_later wr (Below.refl _ _) (by kernel_rfl) (by kernel_rfl) ?_
        repeat (go_big_quiet_step (fail))
        refine wpQuiet_nil ?_
        rintro w2 ⟨v, rfl⟩
        have b2 := hb.trans (v.h.mono hz)
        go_wp2
        go_roundw
        case rel => exact ⟨k + 1, by omega, by go_num, by rw [HE.out, if_neg (fun e => hpl e.1)], b2⟩
        case measure => simp [intOf]; omega
    · have hk2 : k = 2 := by omega
      subst hk2
      rw [lstF_two] 
      go_wp2
      go_ret
      exact ⟨rfl, hb⟩
end Go.Proofs.Ytggpmepiggnnnaa
