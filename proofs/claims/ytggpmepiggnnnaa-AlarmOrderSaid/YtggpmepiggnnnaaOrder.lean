import Derived.Test.YtggpmepiggnnnaaBegun
import Derived.Test.YtggpmepiggnnnaaSlices
import Derived.Test.YtggpmepiggnnnaaClone
namespace Go.Proofs.Ytggpmepiggnnnaa
open Go.RowKit

theorem eg14 : ∀ args w, (callFunc 14 args).run Try.prog w = .ok (.enter 14 args) w := enters_of Try.func14 (by kernel_rfl) rfl
set_option maxRecDepth 100000 in
theorem key_clo (w : World) (b : Nat) (x y : Al) (h : obj w b = some (.cells #[.int .i64 x.1, .int .i64 x.2] 32 (0, 0))) :
    Calls Try.prog 14 #[.agg (alL y).toArray, .pointer (some ⟨b, 0, none⟩)] w fun e w' => e = .returned (.bool (y.2 == x.2)) ∧ Below w.heap.size w w' := by
  have c1 : w.cell? ⟨b, 1, none⟩ = some (.int .i64 x.2) := cell_at h 1
  have hb := lt_of_obj h
  obtain ⟨x1, x2⟩ := x
  obtain ⟨y1, y2⟩ := y
  simp only at c1
  clear h
  go_enter Try.func14, Try.ntmps14
  go_wp2
  go_ret
  exact ⟨rfl, (Below.refl _ w).alloc (Nat.le_refl _) _⟩
def stepR (R : List Al) (a : Al) : List Al := if mayB a.1 = true ∧ hasK R a.2 = false then R ++ [a] else R
def rightL (xs : List Al) : List Al := xs.foldl stepR []
theorem rightL_snoc (xs : List Al) (a : Al) : rightL (xs ++ [a]) = stepR (rightL xs) a := by simp [rightL]
theorem rightL_ok (xs : List Al) (h : xs.length ≤ 4096) : OfOK (rightL xs) := by
  have key : ∀ (n : Nat), n ≤ xs.length → (∀ a ∈ rightL (xs.take n), mayB a.1 = true) ∧ (keysL (rightL (xs.take n))).Nodup ∧ (rightL (xs.take n)).length ≤ n := by
    intro n
    induction n with
    | zero => intro _; simp [rightL, keysL]
    | succ n ih =>
      intro hn
      obtain ⟨h1, h2, h3⟩ := ih (by omega)
      rw [take_snoc' (by omega), rightL_snoc]
      unfold stepR
      split
      · rename_i hc
        refine ⟨fun a ha => ?_, ?_, by simp; omega⟩
        · rcases List.mem_append.1 ha with ha | ha
          · exact h1 a ha
          · simp at ha; subst ha; exact hc.1
        · unfold keysL at *
          rw [List.map_append, List.nodup_append]
          refine ⟨h2, by simp, fun a ha b hb e => ?_⟩
          simp at hb
          subst hb
          subst e
          obtain ⟨x, hx, e⟩ := List.mem_map.1 ha
          have := hc.2
          unfold hasK at this
          rw [List.any_eq_false] at this
          exact this x hx (by simpa using e)
      · exact ⟨h1, h2, by omega⟩
  obtain ⟨h1, h2, h3⟩ := key xs.length (Nat.le_refl _)
  rw [List.take_length] at h1 h2 h3
  exact ⟨h1, h2, by omega⟩
theorem rightL_length (xs : List Al) : (rightL xs).length ≤ xs.length := by
  have key : ∀ (xs R : List Al), (xs.foldl stepR R).length ≤ R.length + xs.length := by
    intro xs
    induction xs with
    | nil => intro R; simp
    | cons a r ih =>
      intro R
      have := ih (stepR R a)
      have h2 : (stepR R a).length ≤ R.length + 1 := by unfold stepR; split <;> simp
      simp only [List.foldl_cons, List.length_cons]
      omega
  simpa [rightL] using key xs []
theorem OfOK.perm {A B : List Al} (h : OfOK A) (p : B.Perm A) : OfOK B := by
  refine ⟨fun a ha => h.may a (p.mem_iff.1 ha), ?_, by rw [p.length_eq]; exact h.len⟩
  have := h.keys
  unfold keysL at *
  exact (List.Perm.nodup_iff (p.map (fun x : Al => x.2))).2 this
theorem ordL_sorted {xs : List Al} (h : OfOK xs) : SortedL (ordL xs) := by
  have key : ∀ n, n ≤ xs.length → SortedL (ordL (xs.take n)) := by
    intro n
    induction n with
    | zero => intro _; exact List.Pairwise.nil
    | succ n ih =>
      intro hn
      rw [take_snoc' (by omega), ordL_snoc]
      refine insL_sorted (ih (by omega)) (fun hm => ?_)
      have h1 := (ordL_perm _).mem_iff.1 hm
      have := pushE_zero (h.push (k := n) (by omega))
      have h2 := hasK_false this.2.1 xs[n].1
      rw [(ordL_perm _).mem_iff] at h2
      exact h2 h1
  have := key xs.length (Nat.le_refl _)
  rwa [List.take_length] at this
theorem ordL_unique {A B : List Al} (h : OfOK A) (p : B.Perm A) : ordL B = ordL A :=
  sorted_unique ((ordL_perm B).trans (p.trans (ordL_perm A).symm)) (ordL_sorted (h.perm p)) (ordL_sorted h)
set_option maxRecDepth 100000 in
set_option maxHeartbeats 4000000 in
theorem order_any (w : World) (v1 v2 : Value) (xs : List Al) (us : List Int) (h1 : SlIn w v1 2 alL xs) (h2 : SlIn w v2 1 (fun n => [Value.int .u16 n]) us) (hus : ∀ u ∈ us, 0 ≤ u ∧ u ≤ 65535) :
    Calls Try.prog 4 #[v1, v2] w fun e w' => e = .returned (.bool true) ∧ Below w.heap.size w w' := by
  have HB := Lib.hid (begun_any w)
  obtain ⟨oa, cap, rfl, g1, g2, g3⟩ := h1
  obtain ⟨ob, cap', rfl, g1', g2', g3'⟩ := h2
  unfold maxLen at g2 g2'
  have H3 := Lib.hid g3
  have H3' := Lib.hid g3'
  have HU := Lib.hid hus
  clear g3 g3' hus
  have hmf : ∀ (fn : Fn) (first cap : Array Value) (w : World), (Instr.makeFunc fn first cap).run Try.prog w = .ok (.func fn first cap) w := fun _ _ _ _ => rfl
  have hrow29 := run_row29
  by_cases hbig : xs.length ≤ 100 ∧ us.length ≤ 300
  · obtain ⟨hx100, hu300⟩ := hbig
    have d100 : decide ((100 : Int) < (xs.length : Int)) = false := by simp; omega
    have d300 : decide ((300 : Int) < (us.length : Int)) = false := by simp; omega
    go_enter Try.func4, Try.ntmps4
    go_wp2_with fail
    refine HB.out.mono ?_
    rintro e w1 ⟨rfl, b1⟩
    have B1 := Lib.hid b1
    clear b1
    go_wp2
    go_loopw [5, 38] (fun v5 v38 wr => ∃ k : Nat, k ≤ xs.length ∧ v38 = .int .i64 k ∧ Hid (OwnS wr w.heap.size 32 2 alL v5 (rightL (xs.take k))) ∧ Hid (Below w.heap.size w wr)) (fun _ i _ => xs.length - (intOf i).toNat)
    case atStart => exact ⟨0, Nat.zero_le _, rfl, Lib.hid (OwnS.nil _ _ _ _ _), B1⟩
    case round =>
      obtain ⟨k, hk, rfl, HO, HBr⟩ := hrel
      by_cases hlt : k < xs.length
      · obtain ⟨b, off, hoa, hbb, hrow⟩ := H3.out (by omega)
        subst hoa
        have hs1 := hrow k hlt
        rw [← obj_below HBr.out hbb] at hs1
        have hbl : b < wr.heap.size := Nat.lt_of_lt_of_le hbb HBr.out.size
        have HTS := Lib.hid (take_snoc' hlt)
        have HRL : Hid ((rightL (xs.take k)).length ≤ 100) := Lib.hid (by have := rightL_length (xs.take k); have := List.length_take_le k xs; omega)
        generalize hR : rightL (xs.take k) = R at *
        have HST : Hid (rightL (xs.take (k + 1)) = stepR R xs[k]) := Lib.hid (by rw [HTS.out, rightL_snoc, hR])
        generalize xs[k] = x at *
        obtain ⟨x1, x2⟩ := x
        simp only [alL] at hs1
        clear hrow hR
        have b4 : Below wr.heap.size wr (wr.alloc (.cells #[.int .i64 x1, .int .i64 x2] 32)) := (Below.refl _ wr).alloc (Nat.le_refl _) _
        have O4 := Lib.hid (HO.out.alloc (.cells #[.int .i64 x1, .int .i64 x2] 32))
        have B4 := Lib.hid (HBr.out.trans (b4.mono HBr.out.size))
        have HM : Hid (mayB x1 = (decide (0 ≤ x1) && decide (x1 ≤ 4611686018427387903))) := Lib.hid rfl
        by_cases hm1 : 0 ≤ x1
        · by_cases hm2 : x1 ≤ 4611686018427387903
          · have HM' : Hid (mayB x1 = true) := Lib.hid (by rw [HM.out]; simp [hm1, hm2])
            have HC := Lib.hid (containsFunc_al (wr.alloc (.cells #[.int .i64 x1, .int .i64 x2] 32)) u5 R 14 #[.pointer (some ⟨wr.heap.size, 0, none⟩)] (fun y => y.2 == x2) eg14 (fun W y hb => key_clo W _ (x1, x2) y ((obj_below hb (by simp)).trans (obj_alloc_at _ _ _ rfl))) (O4.out.slIn alL_length))
            have HK : Hid (hasK R x2 = R.any fun y => y.2 == x2) := Lib.hid rfl
            generalize R.any (fun y => y.2 == x2) = r at *
            go_wp2_with fail
            refine HC.out.mono ?_
            rintro e w5 ⟨rfl, b5⟩
            have O5 := Lib.hid (O4.out.below b5)
            have B5 := Lib.hid (B4.out.trans (b5.mono B4.out.size))
            have z5 : wr.heap.size + 1 ≤ w5.heap.size := by have := b5.size; simpa using this
            have o5 : obj w5 wr.heap.size = some (.cells #[.int .i64 x1, .int .i64 x2] 32 (0, 0)) := (obj_below b5 (by simp)).trans (obj_alloc_at _ _ _ rfl)
            clear b5
            cases r
            · have HN : Hid (rightL (xs.take (k + 1)) = R ++ [(x1, x2)]) := Lib.hid (by rw [HST.out]; unfold stepR; rw [if_pos ⟨HM'.out, HK.out⟩])
              have hbase : w.heap.size ≤ (w5.alloc (.cells #[.int .i64 x1, .int .i64 x2] 32)).heap.size := by have := B5.out.size; simp; omega
              have hrl : R.length ≤ 1048576 := by have := HRL.out; omega
              go_wp2_with (at_builtin; refine push32 rfl _ _ rfl w.heap.size _ R (x1, x2) rfl (O5.out.alloc _) w5.heap.size rfl (obj_alloc_at _ _ _ rfl) hrl hbase ?_; intro v' w6 hown6 hb6 _)
              go_roundw
              case rel => exact ⟨k + 1, by omega, by go_num, Lib.hid (by rw [HN.out]; exact hown6), Lib.hid ((B5.out.alloc B5.out.size _).trans hb6)⟩
              case measure => simp [intOf]; omega
            · have HN : Hid (rightL (xs.take (k + 1)) = R) := Lib.hid (by rw [HST.out]; unfold stepR; rw [if_neg (by simp [HK.out])])
              go_wp2
              go_roundw
              case rel => exact ⟨k + 1, by omega, by go_num, Lib.hid (by rw [HN.out]; exact O5.out), B5⟩
              case measure => simp [intOf]; omega
          · have HM' : Hid (mayB x1 = false) := Lib.hid (by rw [HM.out]; simp [hm2])
            have HN : Hid (rightL (xs.take (k + 1)) = R) := Lib.hid (by rw [HST.out]; unfold stepR; rw [if_neg (by simp [HM'.out])])
            go_wp2
            go_roundw
            case rel => exact ⟨k + 1, by omega, by go_num, Lib.hid (by rw [HN.out]; exact O4.out), B4⟩
            case measure => simp [intOf]; omega
        · have HM' : Hid (mayB x1 = false) := Lib.hid (by rw [HM.out]; simp [hm1])
          have HN : Hid (rightL (xs.take (k + 1)) = R) := Lib.hid (by rw [HST.out]; unfold stepR; rw [if_neg (by simp [HM'.out])])
          go_wp2
          go_roundw
          case rel => exact ⟨k + 1, by omega, by go_num, Lib.hid (by rw [HN.out]; exact O4.out), B4⟩
          case measure => simp [intOf]; omega
      · have hk' : k = xs.length := by omega
        subst hk'
        rw [List.take_length] at HO
        have HRL : Hid ((rightL xs).length ≤ 100) := Lib.hid (by have := rightL_length xs; omega)
        have HOK := Lib.hid (rightL_ok xs (by omega))
        generalize rightL xs = R at *
        have HCL := Lib.hid (clone_any wr w.heap.size u5 R HO.out (by have := HRL.out; omega))
        go_wp2_with fail
        refine HCL.out.mono ?_
        rintro e w2 ⟨v8, rfl, o8, b2⟩
        have B2 := Lib.hid (HBr.out.trans (b2.mono HBr.out.size))
        have O5 := Lib.hid (HO.out.below b2)
        have O8 := Lib.hid o8
        have N58 : Hid (∀ n, u5.ownBlock = some n → n < wr.heap.size) := Lib.hid (fun n hn => (HO.out.1.lt n hn).2)
        have ZR := HBr.out.size
        clear b2 o8 HCL HBr HO
        generalize hB8 : wr.heap.size = B8 at *
        clear hB8
        go_wp2
        go_loopw [65] (fun v65 ws => ∃ k : Nat, k ≤ us.length ∧ v65 = .int .i64 k ∧ Hid (∃ L : List Al, OwnS ws B8 32 2 alL v8 L ∧ L.Perm R) ∧ Hid (OwnS ws w.heap.size 32 2 alL u5 R) ∧ Hid (Below w.heap.size w ws)) (fun i _ => us.length - (intOf i).toNat)
        case atStart => exact ⟨0, Nat.zero_le _, rfl, Lib.hid ⟨R, O8.out, List.Perm.refl _⟩, O5, B2⟩
        case round =>
          obtain ⟨k, hk, rfl, HL, H5, HBs⟩ := hrel
          obtain ⟨L, hL, hp⟩ := HL.out
          have HLL := hp.length_eq
          rw [← HLL] at HRL
          have HP := Lib.hid hp
          have HLS := Lib.hid hL
          by_cases hlt : k < us.length
          · obtain ⟨b, off, hob, hbb, hrow⟩ := H3'.out (by omega)
            subst hob
            have hs1 := hrow k hlt
            rw [← obj_below HBs.out hbb] at hs1
            have hbl : b < wr.heap.size := Nat.lt_of_lt_of_le hbb HBs.out.size
            have HUK := HU.out us[k] (List.getElem_mem hlt)
            generalize us[k] = u at *
            obtain ⟨hu1, hu2⟩ := HUK
            have hc1 : wr.cell? ⟨b, off + k, none⟩ = some (.int .u16 u) := by have := subOf_cell hs1 (j := 0) (by decide); simpa using this
            clear hs1
            clear hrow hp HLL hL
            by_cases hl0 : 0 < L.length
            · obtain ⟨oa, cp, rfl, q1, q2, q3⟩ := row_sub HLS.out.1
              obtain ⟨g, cur, rfl, _, hgB, hg, hcs, htk⟩ := q3 hl0
              unfold maxLen at q2
              have hl0' : (0 : Int) < (L.length : Int) := by omega
              obtain ⟨c, rfl⟩ : ∃ c : Nat, u = (c : Int) := ⟨u.toNat, by omega⟩
              have hm1 : ((k : Int)).tmod (L.length : Int) = ((k % L.length : Nat) : Int) := by rw [Int.tmod_eq_emod_of_nonneg (by omega)]; simp
              have hm2 : ((c : Int)).tmod (L.length : Int) = ((c % L.length : Nat) : Int) := by rw [Int.tmod_eq_emod_of_nonneg (by omega)]; simp
              have hi1 : k % L.length < L.length := Nat.mod_lt _ hl0
              have hi2 : c % L.length < L.length := Nat.mod_lt _ hl0
              generalize k % L.length = i1 at *
              generalize c % L.length = i2 at *
              go_wp2
              go_quiet (fail)
              have s1 := row_get htk hcs q1 hi1
              have s2 := row_get htk hcs q1 hi2
              have hgz := lt_of_obj hg
              have r1 := row_set htk hcs q1 hi1 L[i2]
              have r2 := row_set (L := L.set i1 L[i2]) (by rw [List.length_set]; exact r1.2) r1.1 (by rw [List.length_set]; exact q1) (i := i2) (by rw [List.length_set]; exact hi2) L[i1]
              have HSW : Hid (swapL L i1 i2 = (L.set i1 L[i2]).set i2 L[i1]) := Lib.hid (by simp [swapL, hi1, hi2])
              generalize L[i1] = x at *
              generalize L[i2] = y at *
              obtain ⟨x1, x2⟩ := x
              obtain ⟨y1, y2⟩ := y
              clear hm1 hm2
              have p1 : putOf (some (.cells cur 32 (0, 0))) (i1 * 2) 2 #[.int .i64 y1, .int .i64 y2] = some (.cells (spliceA cur (i1 * 2) #[.int .i64 y1, .int .i64 y2]) 32 (0, 0)) := putOf_cells (by omega) rfl rfl
              generalize spliceA cur (i1 * 2) #[.int .i64 y1, .int .i64 y2] = cur1 at *
              have p2 : putOf (some (.cells cur1 32 (0, 0))) (i2 * 2) 2 #[.int .i64 x1, .int .i64 x2] = some (.cells (spliceA cur1 (i2 * 2) #[.int .i64 x1, .int .i64 x2]) 32 (0, 0)) := putOf_cells (by omega) rfl rfl
              generalize spliceA cur1 (i2 * 2) #[.int .i64 x1, .int .i64 x2] = cur2 at *
              have R2 := Lib.hid r2
              clear htk r1 r2 hcs
              go_wp2
              go_region
              have OL : Hid (OwnS ((putObj wr g (.cells cur2 32)).drewN (nq + 1)) B8 32 2 alL (.slice (some ⟨g, 0, none⟩) L.length cp) (swapL L i1 i2)) := Lib.hid (by
                refine ⟨⟨by rw [flatMap_len alL_length], .inr ⟨g, cp, cur2, by rw [swapL_length], hgB, obj_putObj_eq _ _ _ hgz, by rw [swapL_length]; exact q1, by unfold maxLen; exact q2, R2.out.1, ?_⟩⟩, ?_⟩
                · rw [HSW.out, List.length_set]; exact R2.out.2
                · constructor
                  · intro e; cases e
                  · intro e
                    have := congrArg List.length e
                    rw [swapL_length] at this
                    simp at this
                    subst this
                    simp at hl0)
              have OP : Hid ((swapL L i1 i2).Perm R) := Lib.hid ((swapL_perm hi1 hi2).trans HP.out)
              have O5' : Hid (OwnS ((putObj wr g (.cells cur2 32)).drewN (nq + 1)) w.heap.size 32 2 alL u5 R) := Lib.hid (H5.out.keeps (fun n hn => obj_putObj_ne _ _ _ _ (by have := N58.out n hn; omega)))
              have BS : Hid (Below w.heap.size w ((putObj wr g (.cells cur2 32)).drewN (nq + 1))) := Lib.hid (below_drewN (below_putObj HBs.out (by omega) _) _)
              go_wp2
              go_roundw
              case rel => exact ⟨k + 1, by omega, by go_num, Lib.hid ⟨_, OL.out, OP.out⟩, O5', BS⟩
              case measure => simp [intOf]; omega
            · have hL0 : L = [] := List.eq_nil_of_length_eq_zero (by omega)
              subst hL0
              obtain rfl := HLS.out.2.2 rfl
              go_wp2
              go_roundw
              case rel => exact ⟨k + 1, by omega, by go_num, HL, H5, HBs⟩
              case measure => simp [intOf]; omega
          · have hk' : k = us.length := by omega
            subst hk'
            have HC1 := Lib.hid (of_hp wr u5 R (H5.out.slIn alL_length) HOK.out)
            go_wp2_with fail
            refine HC1.out.mono ?_
            rintro e w3 ⟨⟨hx, F, rfl, hp1, hf1⟩, b3⟩
            have HC2 := Lib.hid (of_hp w3 v8 L ((HLS.out.below b3).slIn alL_length) (HOK.out.perm HP.out))
            have B3 := Lib.hid (HBs.out.trans (b3.mono HBs.out.size))
            have P3 := Lib.hid hp1
            have F3 : Hid (∀ n, F n → w.heap.size ≤ n) := Lib.hid (fun n hn => Nat.le_trans HBs.out.size (hf1 n hn))
            have O53 := Lib.hid (H5.out.below b3)
            have FW : Hid (∀ n, F n → wr.heap.size ≤ n) := Lib.hid hf1
            clear b3 hp1 hf1
            go_wp2_with fail
            refine HC2.out.mono ?_
            rintro e w4 ⟨⟨hy, G, rfl, hp2, hf2⟩, b4⟩
            rw [ordL_unique HOK.out HP.out] at hp2
            have P4 := Lib.hid (P3.out.below b4)
            have Y4 := Lib.hid hp2
            have G4 : Hid (∀ n, G n → w3.heap.size ≤ n) := Lib.hid hf2
            have B4 := Lib.hid (B3.out.trans (b4.mono B3.out.size))
            have O54 := Lib.hid (O53.out.below b4)
            have FG : Hid (∀ n, F n → ¬ G n) := Lib.hid (fun n h1 h2 => by have := P3.out.old n h1; have := hf2 n h2; omega)
            have N5 : Hid (∀ n, u5.ownBlock = some n → ¬ F n ∧ ¬ G n) := Lib.hid (fun n hn => ⟨fun hf => by have := FW.out n hf; have := (H5.out.1.lt n hn).2; omega, fun hg => by have := hf2 n hg; have := (O53.out.1.lt n hn).2; omega⟩)
            clear b4 hp2 hf2
            have SRT := Lib.hid (ordL_sorted HOK.out)
            have SLN : Hid ((ordL R).length = R.length) := Lib.hid (ordL_perm R).length_eq
            have SMM : Hid (∀ a, a ∈ ordL R → a ∈ R) := Lib.hid (fun a h => (ordL_perm R).mem_iff.1 h)
            generalize ordL R = S at *
            obtain ⟨oa5, cp5, hu5, _, hm5, _⟩ := row_sub O54.out.1
            unfold maxLen at hm5
            subst hu5
            have NB : Hid (∀ n, (Value.slice oa5 R.length cp5).ownBlock = some n → n < w4.heap.size) := Lib.hid (fun n hn => (O54.out.1.lt n hn).2)
            have fb1 : ¬ F w4.heap.size := P4.out.new (Nat.le_refl _)
            have fb2 : ¬ G w4.heap.size := Y4.out.new (Nat.le_refl _)
            have bA : Below w4.heap.size w4 (w4.alloc (.cells #[.int .i64 0, .int .i64 0] 32)) := (Below.refl _ w4).alloc (Nat.le_refl _) _
            have HI0 : Hid (∃ l : Al, obj (w4.alloc (.cells #[.int .i64 0, .int .i64 0] 32)) w4.heap.size = some (.cells #[.int .i64 l.1, .int .i64 l.2] 32 (0, 0)) ∧ ((0 : Nat) = 0 ∨ l = at' S (0 - 1))) := Lib.hid ⟨(0, 0), obj_alloc_at _ _ _ rfl, .inl rfl⟩
            have P5 := Lib.hid (P4.out.below bA)
            have Y5 := Lib.hid (Y4.out.below bA)
            have O55 := Lib.hid (O54.out.below bA)
            have B5 := Lib.hid (B4.out.trans (bA.mono B4.out.size))
            have BW : Hid (w.heap.size ≤ w4.heap.size) := Lib.hid B4.out.size
            have hnw : Hid (∀ n, G n → w.heap.size ≤ n) := Lib.hid (fun n hn => Nat.le_trans B3.out.size (G4.out n hn))
            clear bA
            clear HC1 HC2 B3 B4 P3 P4 Y4 O53 O54 FW
            go_wp2
            generalize w4.alloc (.cells #[.int .i64 0, .int .i64 0] 32) = w5 at *
            generalize w4.heap.size = bl at *
            go_loopw [123] (fun v123 ws => ∃ k : Nat, k ≤ R.length ∧ v123 = .int .i64 k ∧ Hid (∃ l : Al, obj ws bl = some (.cells #[.int .i64 l.1, .int .i64 l.2] 32 (0, 0)) ∧ (k = 0 ∨ l = at' S (k - 1))) ∧ Hid (Hp ws F hx (S.drop k)) ∧ Hid (Hp ws G hy (S.drop k)) ∧ Hid (OwnS ws w.heap.size 32 2 alL (.slice oa5 R.length cp5) R) ∧ Hid (Below w.heap.size w ws)) (fun i _ => R.length - (intOf i).toNat)
            case atStart => exact ⟨0, Nat.zero_le _, rfl, Lib.hid (by obtain ⟨l, h, _⟩ := HI0.out; exact ⟨l, h, .inl rfl⟩), Lib.hid (by simpa using P5.out), Lib.hid (by simpa using Y5.out), O55, B5⟩
            case round =>
              obtain ⟨k, hk, rfl, HLC, HX, HY, HR, HBq⟩ := hrel
              by_cases hlt : k < R.length
              · obtain ⟨l, ol, hl⟩ := HLC.out
                have HLK := Lib.hid hl
                obtain ⟨l1, l2⟩ := l
                have hkS : k < S.length := by have := SLN.out; omega
                have hdr : S.drop k = S[k] :: S.drop (k + 1) := List.drop_eq_getElem_cons hkS
                have HSK : Hid (S[k] ∈ R) := Lib.hid (SMM.out _ (List.getElem_mem hkS))
                have HLT : Hid (0 < k → alLt (l1, l2) S[k] = true) := Lib.hid (fun h0 => by
                  rcases HLK.out with h | h
                  · omega
                  · rw [h, at'_eq (by omega)]
                    have := SRT.out
                    unfold SortedL at this
                    rw [List.pairwise_iff_getElem] at this
                    exact this (k - 1) k (by omega) hkS (by omega))
                rw [hdr] at HX HY
                have HNX : Hid (k + 1 = 0 ∨ S[k] = at' S (k + 1 - 1)) := Lib.hid (.inr (by rw [Nat.add_sub_cancel, at'_eq hkS]))
                generalize S[k] = s at *
                obtain ⟨s1, s2⟩ := s
                have HC1 := Lib.hid (pop_hp wr F hx _ HX.out)
                have e1 : at' ((s1, s2) :: S.drop (k + 1)) 0 = (s1, s2) := rfl
                have e2 : peekE ((s1, s2) :: S.drop (k + 1)) = 0 := rfl
                rw [e1, e2] at HC1
                clear hl hdr e1 e2
                go_wp2_with fail
                refine HC1.out.mono ?_
                rintro e w6 ⟨rfl, h6, k6⟩
                have bl6 := (k6.block bl (lt_of_obj ol) fb1).trans ol
                have X6 := Lib.hid h6
                have Y6 := Lib.hid (HY.out.other k6 (fun n _ hg hf => FG.out n hf hg))
                have R6 := Lib.hid (HR.out.keepsNot k6 (fun n hn => (N5.out n hn).1))
                have B6 := Lib.hid (HBq.out.trans (k6.below F3.out HBq.out.size))
                have b7 : Below w6.heap.size w6 (w6.alloc (.cells #[.int .i64 s1, .int .i64 s2] 32)) := (Below.refl _ w6).alloc (Nat.le_refl _) _
                have X7 := Lib.hid (X6.out.below b7)
                have Y7 := Lib.hid (Y6.out.below b7)
                have R7 := Lib.hid (R6.out.below b7)
                have B7 := Lib.hid (B6.out.trans (b7.mono B6.out.size))
                have bl7 := (obj_below b7 (lt_of_obj bl6)).trans bl6
                have oa7 : obj (w6.alloc (.cells #[.int .i64 s1, .int .i64 s2] 32)) w6.heap.size = some (.cells #[.int .i64 s1, .int .i64 s2] 32 (0, 0)) := obj_alloc_at _ _ _ rfl
                have fa1 : ¬ F w6.heap.size := X6.out.new (Nat.le_refl _)
                have fa2 : ¬ G w6.heap.size := Y6.out.new (Nat.le_refl _)
                have HC2 := Lib.hid (pop_hp _ G hy _ Y7.out)
                have e1 : at' ((s1, s2) :: S.drop (k + 1)) 0 = (s1, s2) := rfl
                have e2 : peekE ((s1, s2) :: S.drop (k + 1)) = 0 := rfl
                rw [e1, e2] at HC2
                have za : bl < w6.heap.size := lt_of_obj bl6
                clear h6 k6 e1 e2 ol bl6 X6 Y6 R6 B6 HC1 b7
                go_wp2_with fail
                generalize hw7 : w6.alloc (.cells #[.int .i64 s1, .int .i64 s2] 32) = w7 at *
                refine HC2.out.mono ?_
                rintro e w8 ⟨rfl, h8, k8⟩
                have bl8 := (k8.block bl (lt_of_obj bl7) fb2).trans bl7
                have oa8 := (k8.block w6.heap.size (lt_of_obj oa7) fa2).trans oa7
                have X8 := Lib.hid (X7.out.other k8 (fun n _ hf hg => FG.out n hf hg))
                have Y8 := Lib.hid h8
                have R8 := Lib.hid (R7.out.keepsNot k8 (fun n hn => (N5.out n hn).2))
                have B8' := Lib.hid (B7.out.trans (k8.below hnw.out B7.out.size))
                have b9 : Below w8.heap.size w8 (w8.alloc (.cells #[.int .i64 s1, .int .i64 s2] 32)) := (Below.refl _ w8).alloc (Nat.le_refl _) _
                have zo : w6.heap.size < w8.heap.size := lt_of_obj oa8
                have X9 := Lib.hid (X8.out.below b9)
                have Y9 := Lib.hid (Y8.out.below b9)
                have R9 := Lib.hid (R8.out.below b9)
                have B9 := Lib.hid (B8'.out.trans (b9.mono B8'.out.size))
                have bl9 := (obj_below b9 (lt_of_obj bl8)).trans bl8
                have oa9 := (obj_below b9 (lt_of_obj oa8)).trans oa8
                have ob9 : obj (w8.alloc (.cells #[.int .i64 s1, .int .i64 s2] 32)) w8.heap.size = some (.cells #[.int .i64 s1, .int .i64 s2] 32 (0, 0)) := obj_alloc_at _ _ _ rfl
                have HCC := Lib.hid (contains_any _ _ R (s1, s2) (R9.out.slIn alL_length))
                have hz9 : w6.heap.size < (w8.alloc (.cells #[.int .i64 s1, .int .i64 s2] 32)).heap.size := lt_of_obj oa9
                have hy9 : w8.heap.size < (w8.alloc (.cells #[.int .i64 s1, .int .i64 s2] 32)).heap.size := lt_of_obj ob9
                have hb9 : bl < (w8.alloc (.cells #[.int .i64 s1, .int .i64 s2] 32)).heap.size := lt_of_obj bl9
                rw [show decide ((s1, s2) ∈ R) = true by simpa using HSK.out] at HCC
                have e1 : (s1 == s1) = true := by simp
                have e2 : (s2 == s2) = true := by simp
                clear h8 k8 bl8 oa8 bl7 oa7 b9 HC2 X8 Y8 R8 B8' X7 Y7 R7 B7 hw7
                go_wp2_with fail
                generalize w8.alloc (.cells #[.int .i64 s1, .int .i64 s2] 32) = w9 at *
                refine HCC.out.mono ?_
                rintro e wa ⟨rfl, ba⟩
                have Xa := Lib.hid (X9.out.below ba)
                have Ya := Lib.hid (Y9.out.below ba)
                have Ra := Lib.hid (R9.out.below ba)
                have Ba := Lib.hid (B9.out.trans (ba.mono B9.out.size))
                have bla := (obj_below ba hb9).trans bl9
                have oaa := (obj_below ba hz9).trans oa9
                have oba := (obj_below ba hy9).trans ob9
                have ca0 : wa.cell? ⟨w6.heap.size, 0, none⟩ = some (.int .i64 s1) := cell_at oaa 0
                have ca1 : wa.cell? ⟨w6.heap.size, 1, none⟩ = some (.int .i64 s2) := cell_at oaa 1
                have cl0 : wa.cell? ⟨bl, 0, none⟩ = some (.int .i64 l1) := cell_at bla 0
                have cl1 : wa.cell? ⟨bl, 1, none⟩ = some (.int .i64 l2) := cell_at bla 1
                clear ba bl9 oa9 ob9 HCC X9 Y9 R9 B9 oba
                have hab : bl ≠ w6.heap.size := by omega
                have zbl := lt_of_obj bla
                have fin : Hid (∀ wq, wq = putObj wa bl (.cells #[.int .i64 s1, .int .i64 s2] 32) → (∃ l : Al, obj wq bl = some (.cells #[.int .i64 l.1, .int .i64 l.2] 32 (0, 0)) ∧ (k + 1 = 0 ∨ l = at' S (k + 1 - 1))) ∧ Hp wq F hx (S.drop (k + 1)) ∧ Hp wq G hy (S.drop (k + 1)) ∧ OwnS wq w.heap.size 32 2 alL (.slice oa5 R.length cp5) R ∧ Below w.heap.size w wq) := Lib.hid (by
                  rintro wq rfl
                  exact ⟨⟨(s1, s2), obj_putObj_eq _ _ _ zbl, HNX.out⟩, Xa.out.putNew fb1 _, Ya.out.putNew fb2 _, Ra.out.keeps (fun n hn => obj_putObj_ne _ _ _ _ (by have := NB.out n hn; omega)), below_putObj Ba.out BW.out _⟩)
                by_cases hk0 : k = 0
                · have hkz : ¬ (0 : Int) < (k : Int) := by omega
                  clear hk0
                  go_wp2
                  obtain ⟨f1, f2, f3, f4, f5⟩ := fin.out _ rfl
                  go_roundw
                  case rel => exact ⟨k + 1, by omega, by go_num, Lib.hid f1, Lib.hid f2, Lib.hid f3, Lib.hid f4, Lib.hid f5⟩
                  case measure => simp [intOf]; omega
                · have hkz : (0 : Int) < (k : Int) := by omega
                  have hlt2 := alLt_iff.1 (HLT.out (by omega))
                  simp only at hlt2
                  clear hk0
                  rcases hlt2 with hq | ⟨hq1, hq2⟩
                  · have d1 : ¬ s1 < l1 := by omega
                    have d2 : (s1 == l1) = false := by simp; omega
                    go_wp2
                    obtain ⟨f1, f2, f3, f4, f5⟩ := fin.out _ rfl
                    go_roundw
                    case rel => exact ⟨k + 1, by omega, by go_num, Lib.hid f1, Lib.hid f2, Lib.hid f3, Lib.hid f4, Lib.hid f5⟩
                    case measure => simp [intOf]; omega
                  · subst hq1
                    have d1 : ¬ s2 ≤ l2 := by omega
                    go_wp2
                    obtain ⟨f1, f2, f3, f4, f5⟩ := fin.out _ rfl
                    go_roundw
                    case rel => exact ⟨k + 1, by omega, by go_num, Lib.hid f1, Lib.hid f2, Lib.hid f3, Lib.hid f4, Lib.hid f5⟩
                    case measure => simp [intOf]; omega
              · have hk' : k = R.length := by omega
                have hS0 : S.drop k = [] := List.drop_eq_nil_of_le (by have := SLN.out; omega)
                rw [hS0] at HX HY
                subst hk'
                have HC1 := Lib.hid (pop_hp wr F hx _ HX.out)
                have e2 : peekE [] = 4 := rfl
                rw [e2] at HC1
                clear hS0 e2
                go_wp2_with fail
                refine HC1.out.mono ?_
                rintro e w6 ⟨rfl, h6, k6⟩
                have Y6 := Lib.hid (HY.out.other k6 (fun n _ hg hf => FG.out n hf hg))
                have B6 := Lib.hid (HBq.out.trans (k6.below F3.out HBq.out.size))
                have HC2 := Lib.hid (len_hp w6 G hy _ Y6.out)
                clear h6 k6
                go_wp2_with fail
                refine HC2.out.mono ?_
                rintro e w7 ⟨rfl, rfl⟩
                go_wp2
                go_ret
                exact ⟨rfl, B6.out⟩
  · by_cases hx : xs.length ≤ 100
    · have d100 : decide ((100 : Int) < (xs.length : Int)) = false := by simp; omega
      have d300 : decide ((300 : Int) < (us.length : Int)) = true := by simp; omega
      clear hbig hx
      go_enter Try.func4, Try.ntmps4
      go_wp2_with fail
      refine HB.out.mono ?_
      rintro e w1 ⟨rfl, b1⟩
      have HB2 := Lib.hid (begun_any w1)
      go_wp2_with fail
      refine HB2.out.mono ?_
      rintro e w2 ⟨rfl, b2⟩
      go_wp2
      go_ret
      exact ⟨rfl, b1.trans (b2.mono b1.size)⟩
    · have d100 : decide ((100 : Int) < (xs.length : Int)) = true := by simp; omega
      clear hbig hx
      go_enter Try.func4, Try.ntmps4
      go_wp2_with fail
      refine HB.out.mono ?_
      rintro e w1 ⟨rfl, b1⟩
      have HB2 := Lib.hid (begun_any w1)
      go_wp2_with fail
      refine HB2.out.mono ?_
      rintro e w2 ⟨rfl, b2⟩
      go_wp2
      go_ret
      exact ⟨rfl, b1.trans (b2.mono b1.size)⟩
end Go.Proofs.Ytggpmepiggnnnaa
