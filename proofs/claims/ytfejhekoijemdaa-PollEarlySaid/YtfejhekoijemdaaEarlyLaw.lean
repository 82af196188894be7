import Derived.Test.YtfejhekoijemdaaWin
import Derived.Test.YtfejhekoijemdaaOps
namespace Go.Proofs.Ytfejhekoijemdaa
open Go.RowKit

def byteL (n : Int) : List Value := [.int .u8 n]
theorem info3 : (Try.prog.info? 3).map (fun i => (i.zero, i.size, i.bytes)) = some (some (.int .i64 0), 1, 8) := by kernel_rfl
theorem intL_one' (n : Int) : allOne (intL n).toArray = true := rfl
theorem push22 {ops : Array Oper} {rest : List Oper} {o : Oper} {a : Act} {w : World} {Q : Exit → Act → World → Prop} (hgd : o.guard = none) (s x : Operand) (ho : o.op = .call { callee := .builtin .append, args := #[s, x], argTypes := #[22, 22] })
    (base : Nat) (v : Value) (xs : List Int) (y : Int) (hs : a.eval s = v) (hown : OwnS w base 3 1 intL v xs) (g : Nat) (hx : a.eval x = .slice (some ⟨g, 0, none⟩) 1 1) (hg : obj w g = some (.cells (intL y).toArray 3 (0, 0)))
    (hlen : xs.length ≤ 1048576) (hbase : base ≤ w.heap.size)
    (h : ∀ v' w', OwnS w' base 3 1 intL v' (xs ++ [y]) → Below base w w' → (∀ k, k < w.heap.size → v.ownBlock ≠ some k → obj w' k = obj w k) → wpList Try.prog ops Q rest (a.put o.dst v') w') : wpList Try.prog ops Q (o :: rest) a w := by
  obtain ⟨i0, hi, hz0, hz1, hz2⟩ := info_parts info3
  exact wpList_push Try.underlying22 hi hz0 hz1 hz2 (by simp [Value.cells]) (by decide) intL intL_length intL_one' hgd s x ho base v xs y hs hown g hx hg hlen (by decide) hbase h
/-- the cell of an own row of integers -/
theorem own_int {w : World} {base : Nat} {oa : Option Addr} {len cap : Nat} {xs : List Int} (h : OwnS w base 3 1 intL (.slice oa len cap) xs) {k : Nat} (hk : k < xs.length) : ∃ g, oa = some ⟨g, 0, none⟩ ∧ base ≤ g ∧ g < w.heap.size ∧ w.cell? ⟨g, k, none⟩ = some (.int .i64 xs[k]) := by
  obtain ⟨oa', cap', e', _, _, h3⟩ := h.slIn intL_length
  obtain ⟨b', off', e2, hgl, hrow⟩ := h3 (by omega)
  simp only [Value.slice.injEq] at e'
  obtain ⟨rfl, _, rfl⟩ := e'
  subst e2
  have h0 : off' = 0 := by
    rcases h.1.2 with ⟨e, e0⟩ | ⟨g, cap, cur, e, _⟩
    · cases e
    · simp only [Value.slice.injEq, Option.some.injEq, Addr.mk.injEq] at e; exact e.1.2.1
  subst h0
  have hs1 := hrow k hk
  refine ⟨b', rfl, (h.1.lt b' rfl).1, hgl, ?_⟩
  have := subOf_cell hs1 (j := 0) (by decide)
  simpa [intL] using this
theorem run_many {w : World} {m : Nat} {L : List (Int × Int)} (h : MapI w m intV L) (v : Int) : (Instr.lookup 31 (.map (some m)) (.int .i64 v) false).run Try.prog w = .ok (.int .i64 ((aGet v L).getD 0)) w := by
  rw [run_lookup1_int (enc := intV) Try.underlying31 Try.underlying3 (z := .int .i64 0) (fun w => by kernel_rfl) h v]
  unfold intV
  cases aGet v L <;> rfl
theorem MapI.blk {ν : Type} {enc : ν → Value} {w W : World} {m : Nat} {L : List (Int × ν)} (h : MapI w m enc L) (e : obj W m = obj w m) : MapI W m enc L := by
  obtain ⟨es, clk, h1, h2⟩ := h
  exact ⟨es, clk, e.trans h1, h2⟩
theorem MapI.lt' {ν : Type} {enc : ν → Value} {w : World} {m : Nat} {L : List (Int × ν)} (h : MapI w m enc L) : m < w.heap.size := by
  obtain ⟨es, clk, h1, h2⟩ := h
  exact lt_of_obj h1
theorem dropM_pq (S : SetM) (n v : Int) : (dropM S n v).1.pref = S.pref ∧ (dropM S n v).1.conf = S.conf := by
  unfold dropM
  cases findI n S.l with
  | none => exact ⟨rfl, rfl⟩
  | some i =>
    simp only
    cases S.l[i]? with
    | none => exact ⟨rfl, rfl⟩
    | some o => simp only; split <;> exact ⟨rfl, rfl⟩
theorem voteM_pq (S : SetM) (n v : Int) (id : ID) : (voteM S n v id).1.pref = S.pref ∧ (voteM S n v id).1.conf = S.conf := by
  unfold voteM
  cases findI n S.l with
  | none => exact ⟨rfl, rfl⟩
  | some i =>
    simp only
    cases S.l[i]? with
    | none => exact ⟨rfl, rfl⟩
    | some o =>
      simp only
      split
      · exact ⟨rfl, rfl⟩
      · split <;> exact ⟨rfl, rfl⟩
set_option maxRecDepth 100000 in
set_option maxHeartbeats 4000000 in
theorem earlyLaw_any (w : World) (c f : Int) (bc : 0 ≤ c ∧ c ≤ 255) (bf : 0 ≤ f ∧ f ≤ 255) (sv : Value) (slots : List Int) (hs : SlIn w sv 1 intL slots) (vv : Value) (vs : List Int) (hv : SlIn w vv 1 byteL vs) (hvb : ∀ x ∈ vs, 0 ≤ x ∧ x ≤ 255) (rv : Value) (rs : List Int) (hr : SlIn w rv 1 byteL rs) (hrb : ∀ x ∈ rs, 0 ≤ x ∧ x ≤ 255) :
    Calls Try.prog 3 #[.int .u8 c, .int .u8 f, sv, vv, rv] w fun e w' => e = .returned (.bool true) ∧ Below w.heap.size w w' := by
  have HB := fun W => Lib.hid (begun_any W)
  have HVB := Lib.hid hvb
  have HRB := Lib.hid hrb
  obtain ⟨sa, sc, rfl, s1, s2, s3⟩ := hs
  obtain ⟨va, vc, rfl, t1, t2, t3⟩ := hv
  obtain ⟨ra, rc, rfl, u1, u2, u3⟩ := hr
  have S3 := Lib.hid s3
  have V3 := Lib.hid t3
  have R3 := Lib.hid u3
  unfold maxLen at s2 t2 u2
  obtain ⟨c0, c1⟩ := bc
  obtain ⟨f0, f1⟩ := bf
  have e1 : c.tmod 20 = c % 20 := Int.tmod_eq_emod_of_nonneg c0
  have e2 : f.tmod 20 = f % 20 := Int.tmod_eq_emod_of_nonneg f0
  have e3 : IntKind.u8.wrap (c % 20) = c % 20 := by simp [IntKind.wrap, IntKind.signed, IntKind.bits]; omega
  have e4 : IntKind.u8.wrap (f % 20) = f % 20 := by simp [IntKind.wrap, IntKind.signed, IntKind.bits]; omega
  have e5 : IntKind.i64.wrap (c % 20) = c % 20 := by simp [IntKind.wrap, IntKind.signed, IntKind.bits]; omega
  have e6 : IntKind.i64.wrap (f % 20) = f % 20 := by simp [IntKind.wrap, IntKind.signed, IntKind.bits]; omega
  obtain ⟨p, hp⟩ : ∃ p, p = 1 + c % 20 := ⟨_, rfl⟩
  obtain ⟨q, hq⟩ : ∃ q, q = p + f % 20 := ⟨_, rfl⟩
  have e7 : IntKind.i64.wrap (1 + c % 20) = p := by simp [IntKind.wrap, IntKind.signed, IntKind.bits]; omega
  have e8 : IntKind.i64.wrap (p + f % 20) = q := by simp [IntKind.wrap, IntKind.signed, IntKind.bits]; omega
  have e9 : IntKind.i64.wrap (2 * p) = 2 * p := by simp [IntKind.wrap, IntKind.signed, IntKind.bits]; omega
  have d1 : 1 ≤ p := by omega
  have d2 : p ≤ q := by omega
  have d3 : q ≤ 64 := by omega
  have HSW := Lib.hid (fun W => new_yes W p q d1 d2 d3)
  have HOK0 := Lib.hid (SetOK.new d1 d2 d3)
  clear hvb hrb s3 t3 u3 hp hq
  by_cases hbig : 100 < slots.length ∨ 200 < vs.length
  · by_cases hb1 : 100 < slots.length
    · have hi1 : (100 : Int) < slots.length := by omega
      go_enter Try.func3, Try.ntmps3
      go_wp2_with fail
      refine (HB _).out.mono ?_
      rintro e w1 ⟨rfl, b1⟩
      have B1 := Lib.hid b1
      clear b1
      go_wp2_with fail
      refine (HB _).out.mono ?_
      rintro e w2 ⟨rfl, b2⟩
      have B2 := Lib.hid (B1.out.trans (b2.mono B1.out.size))
      clear b2
      go_wp2_with fail
      go_ret
      exact ⟨rfl, B2.out⟩
    · have hi1 : ¬ (100 : Int) < slots.length := by omega
      have hi2 : (200 : Int) < vs.length := by omega
      go_enter Try.func3, Try.ntmps3
      go_wp2_with fail
      refine (HB _).out.mono ?_
      rintro e w1 ⟨rfl, b1⟩
      have B1 := Lib.hid b1
      clear b1
      go_wp2_with fail
      refine (HB _).out.mono ?_
      rintro e w2 ⟨rfl, b2⟩
      have B2 := Lib.hid (B1.out.trans (b2.mono B1.out.size))
      clear b2
      go_wp2_with fail
      go_ret
      exact ⟨rfl, B2.out⟩
  have hi1 : ¬ (100 : Int) < slots.length := by omega
  have hi2 : ¬ (200 : Int) < vs.length := by omega
  go_enter Try.func3, Try.ntmps3
  go_wp2_with fail
  refine (HB _).out.mono ?_
  rintro e w1 ⟨rfl, b1⟩
  have B1 := Lib.hid b1
  have SL1 : Hid (SlIn w1 (.slice sa slots.length sc) 1 intL slots) := Lib.hid ((show SlIn w (.slice sa slots.length sc) 1 intL slots from ⟨_, _, rfl, s1, by unfold maxLen; omega, S3.out⟩).below b1)
  have VL1 : Hid (SlIn w1 (.slice va vs.length vc) 1 byteL vs) := Lib.hid ((show SlIn w (.slice va vs.length vc) 1 byteL vs from ⟨_, _, rfl, t1, by unfold maxLen; omega, V3.out⟩).below b1)
  have RL1 : Hid (SlIn w1 (.slice ra rs.length rc) 1 byteL rs) := Lib.hid ((show SlIn w (.slice ra rs.length rc) 1 byteL rs from ⟨_, _, rfl, u1, by unfold maxLen; omega, R3.out⟩).below b1)
  have hz1 := b1.size
  clear b1
  go_wp2_with fail
  refine (HSW.out _).mono ?_
  rintro e w2 ⟨rfl, hw2⟩
  have S0 : Hid (SetW w2 (fun n => n = w1.heap.size) (fun _ => False) w1.heap.size (.slice none 0 0) [] ⟨p, q, 0, []⟩) := Lib.hid (by rw [hw2]; exact new_set w1 p q)
  have B2 : Hid (Below w1.heap.size w1 w2) := Lib.hid (by rw [hw2]; exact (Below.refl _ _).alloc (Nat.le_refl _) _)
  clear hw2 HSW
  generalize hb : w1.heap.size = b at *
  have hsl : RdAt w2 (fun n => n = b) (.slice sa slots.length sc) slots := ⟨SL1.out.below (by rw [hb]; exact B2.out), fun bb off len cap e h0 hm => by
    obtain ⟨b', off', e', hb', _⟩ := S3.out h0
    subst e'
    simp at e <;> omega⟩
  by_cases ho : openC ⟨p, q, 0, []⟩ slots = 0
  case neg =>
    have ho1 : openC ⟨p, q, 0, []⟩ slots = 1 := by
      unfold openC at *
      split
      · rfl
      · rename_i h1
        rw [if_neg h1] at ho
        exact absurd rfl ho
    have HOP := Lib.hid (open_no w2 _ _ b _ _ ⟨p, q, 0, []⟩ S0.out d1 _ _ hsl.1 ho)
    rw [ho1] at HOP
    clear hsl ho ho1
    go_wp2_with fail
    refine HOP.out.mono ?_
    rintro e w4 ⟨rfl, hw4⟩
    cases hw4
    go_wp2_with fail
    go_ret
    exact ⟨rfl, B1.out.trans (B2.out.mono hz1)⟩
  have HOP := Lib.hid (open_yes w2 _ _ b _ _ ⟨p, q, 0, []⟩ S0.out HOK0.out (by show (0:Int) < _; decide) _ _ hsl ho)
  have h64 := (openC_0 ho).2.1
  have HON : Hid (OnceI slots [] 0 (addS ⟨p, q, 0, []⟩ slots) (newO ⟨p, q, 0, []⟩ slots)) := Lib.hid ⟨HOK0.out.add ho, rfl, rfl, rfl, fun v => by rw [waits_new]; rfl, rfl⟩
  have HPQ : Hid ((addS ⟨p, q, 0, []⟩ slots).pref = p ∧ (addS ⟨p, q, 0, []⟩ slots).conf = q) := Lib.hid ⟨rfl, rfl⟩
  have ht0 : (⟨p, q, 0, []⟩ : SetM).last + 1 = 1 := rfl
  rw [ht0] at HOP
  clear hsl ho
  go_wp2_with fail
  refine HOP.out.mono ?_
  rintro e w4 ⟨rfl, M4, lv4, ps4, q1, q2, q3, q4⟩
  have S4 := Lib.hid q1
  have MM : Hid (∀ n, M4 n → b ≤ n) := Lib.hid (fun n hn => by rcases q3 n hn with h | h; exact (by omega); have := B2.out.size; omega)
  have B4 : Hid (Below b w1 w4) := Lib.hid (B2.out.trans (q4.below (fun n hn => (by omega)) (by have := B2.out.size; omega)))
  clear q1 q2 q3 q4 S0 B2 HOP
  generalize addS ⟨p, q, 0, []⟩ slots = T4 at *
  generalize newO ⟨p, q, 0, []⟩ slots = o4 at *
  by_cases h2p : 2 * p ≤ slots.length
  · go_wp2_with fail
    go_ret
    exact ⟨rfl, B1.out.trans (B4.out.mono hz1)⟩
  have hz4 : b ≤ w4.heap.size := by have := B4.out.size; omega
  have hmm := @run_makeMap Try.prog
  go_wp2_with fail
  have MI : Hid (MapI (w4.alloc (.map #[] 0)) w4.heap.size intV ([] : List (Int × Int))) := Lib.hid ⟨#[], 0, obj_alloc_at _ _ _ rfl, trivial⟩
  have BB : Hid (Below w4.heap.size w4 (w4.alloc (.map #[] 0))) := Lib.hid ((Below.refl _ _).alloc (Nat.le_refl _) _)
  go_loopw [16, 19, 92] (fun v16 _ v92 wr => ∃ k : Nat, k ≤ slots.length ∧ v92 = .int .i64 k ∧ Hid (OwnS wr (w4.heap.size + 1) 3 1 intL v16 (ordW (slots.take k))) ∧ Hid (MapI wr w4.heap.size intV (countW [] (slots.take k))) ∧ Hid (Below w4.heap.size w4 wr)) (fun _ _ i _ => slots.length - (intOf i).toNat)
  case atStart => exact ⟨0, Nat.zero_le _, rfl, Lib.hid (OwnS.nil _ _ _ _ _), MI, BB⟩
  case round =>
    clear MI BB
    obtain ⟨k, hk, rfl, HO, HM, HBr⟩ := hrel
    obtain ⟨oa16, cap16, rfl⟩ := HO.out.slice
    have hmr := HM.out.lt'
    by_cases hlt : k < slots.length
    case pos =>
      have HSR := Lib.hid (SL1.out.below (W := wr) (by rw [hb]; exact B4.out.trans (HBr.out.mono hz4)))
      obtain ⟨sa', sc', es', _, _, h3⟩ := HSR.out
      simp only [Value.slice.injEq] at es'
      obtain ⟨rfl, _, rfl⟩ := es'
      obtain ⟨bs, os, rfl, hbs, hrow⟩ := h3 (by omega)
      have hs1 := hrow k hlt
      have cx : wr.cell? ⟨bs, os + k * 1, none⟩ = some (.int .i64 slots[k]) := by
        have := subOf_cell hs1 (j := 0) (by decide)
        simpa [intL] using this
      rw [Nat.mul_one] at cx
      obtain ⟨es, clk, hm, hrep⟩ := HM.out
      have hlk := run_many HM.out slots[k]
      rw [get_count] at hlk
      simp only [aGet, Option.getD_none, Int.zero_add] at hlk
      have hcn := cntI_nn slots[k] (slots.take k)
      have hcl := cntI_le slots[k] (slots.take k)
      have hcl2 : (slots.take k).length = k := by simp; omega
      rw [hcl2] at hcl
      obtain ⟨es', clk', hup, hrep'⟩ := run_mapUpdate_int (enc := intV) (P := Try.prog) (clk := clk) Try.underlying31 Try.underlying3 hrep w4.heap.size slots[k] (cntI slots[k] (slots.take k) + 1)
      have hwc : IntKind.i64.wrap (cntI slots[k] (slots.take k) + 1) = cntI slots[k] (slots.take k) + 1 := by simp [IntKind.wrap, IntKind.signed, IntKind.bits]; omega
      have HN2 : Hid (countW [] (slots.take (k + 1)) = aPut slots[k] (cntI slots[k] (slots.take k) + 1) (countW [] (slots.take k))) := Lib.hid (by
        rw [countW_take hlt, get_count]; simp [aGet])
      have HOS := Lib.hid (ordW_snoc hlt)
      have hol : (ordW (slots.take k)).length ≤ 1048576 := by have := ordW_len (slots.take k); omega
      have HUP := Lib.hid hup
      have HRP := Lib.hid hrep'
      have HMO := Lib.hid hm
      clear hs1 hrow h3 hcl2 hup hrep hrep' hm
      generalize slots[k] = x at *
      generalize hcq : cntI x (slots.take k) = cn at *
      have HCQ := Lib.hid hcq
      clear hcq
      by_cases hc : cn = 0
      · have hcd : (cn == 0) = true := by simpa using hc
        have HC := Lib.hid hc
        clear hc
        have hOL := HO.out.alloc (.cells #[.int .i64 x] 3)
        go_wp2_with (at_builtin; have oo : obj (wr.alloc (.cells #[.int .i64 x] 3)) wr.heap.size = some (.cells (intL x).toArray 3 (0, 0)) := obj_alloc_at _ _ _ rfl; refine push22 rfl _ _ rfl (w4.heap.size + 1) (.slice oa16 (ordW (slots.take k)).length cap16) (ordW (slots.take k)) x rfl hOL wr.heap.size rfl oo hol (by simp; omega) ?_; intro v5 w5 r5 b5 g5; have R5 : Hid (OwnS w5 (w4.heap.size + 1) 3 1 intL v5 (ordW (slots.take (k + 1)))) := Lib.hid (by rw [HOS.out, if_pos HC.out]; exact r5); have M5 := Lib.hid (((g5 w4.heap.size (by simp; omega) (fun e => by have := (HO.out.1.lt _ e).1; omega)).trans (obj_alloc_past _ _ _ hmr)).trans HMO.out); have hlk5 := run_many (HM.out.blk (M5.out.trans HMO.out.symm)) x; have B5 := Lib.hid (HBr.out.trans (((Below.refl w4.heap.size wr).alloc (by omega) (.cells #[.int .i64 x] 3)).trans (b5.mono (by omega)))); rw [get_count] at hlk5; simp only [aGet, Option.getD_none, Int.zero_add] at hlk5; rw [HCQ.out] at hlk5; have hup5 : (Instr.mapUpdate 31 (.map (some w4.heap.size)) (.int .i64 x) (.int .i64 (cn + 1))).run Try.prog w5 = .ok () (putObj w5 w4.heap.size (.map es' clk')) := HUP.out w5 M5.out; clear r5 b5 g5 oo)
        have hm5 := lt_of_obj M5.out
        have R6 : Hid (OwnS (putObj w5 w4.heap.size (.map es' clk')) (w4.heap.size + 1) 3 1 intL v5 (ordW (slots.take (k + 1)))) := Lib.hid (R5.out.keeps fun g hg => obj_putObj_ne _ _ _ _ (by have := (R5.out.1.lt g hg).1; omega))
        have M6 : Hid (MapI (putObj w5 w4.heap.size (.map es' clk')) w4.heap.size intV (countW [] (slots.take (k + 1)))) := Lib.hid ⟨es', clk', obj_putObj_eq _ _ _ hm5, by rw [HN2.out]; exact HRP.out⟩
        have B6 := Lib.hid (B5.out.trans (((Keeps.refl (fun n => n = w4.heap.size) w5).putObj rfl (.map es' clk')).below (B := w4.heap.size) (fun n hn => by omega) (by omega)))
        go_wp2_with fail
        go_roundw
        case rel => exact ⟨k + 1, by omega, by go_num, R6, M6, B6⟩
        case measure => simp [intOf]; omega
      · have hcd : (cn == 0) = false := by simpa using hc
        have HC := Lib.hid hc
        clear hc
        have hup5 : (Instr.mapUpdate 31 (.map (some w4.heap.size)) (.int .i64 x) (.int .i64 (cn + 1))).run Try.prog wr = .ok () (putObj wr w4.heap.size (.map es' clk')) := HUP.out wr HMO.out
        have R6 : Hid (OwnS (putObj wr w4.heap.size (.map es' clk')) (w4.heap.size + 1) 3 1 intL (.slice oa16 (ordW (slots.take k)).length cap16) (ordW (slots.take (k + 1)))) := Lib.hid (by rw [HOS.out, if_neg HC.out]; exact HO.out.keeps fun g hg => obj_putObj_ne _ _ _ _ (by have := (HO.out.1.lt g hg).1; omega))
        have M6 : Hid (MapI (putObj wr w4.heap.size (.map es' clk')) w4.heap.size intV (countW [] (slots.take (k + 1)))) := Lib.hid ⟨es', clk', obj_putObj_eq _ _ _ hmr, by rw [HN2.out]; exact HRP.out⟩
        have B6 := Lib.hid (HBr.out.trans (((Keeps.refl (fun n => n = w4.heap.size) wr).putObj rfl (.map es' clk')).below (B := w4.heap.size) (fun n hn => by omega) (by omega)))
        go_wp2_with fail
        go_roundw
        case rel => exact ⟨k + 1, by omega, by go_num, R6, M6, B6⟩
        case measure => simp [intOf]; omega
    have hk' : k = slots.length := by omega
    subst hk'
    rw [List.take_of_length_le (Nat.le_refl _)] at HO HM
    have hol := ordW_len slots
    have HOL := Lib.hid hol
    obtain ⟨ol, hol2⟩ : ∃ ol, ol = (ordW slots).length := ⟨_, rfl⟩
    have HOE := Lib.hid hol2
    rw [List.take_of_length_le (Nat.le_refl _), ← hol2]
    have ho64 : ol ≤ 64 := by omega
    clear hol hol2
    obtain ⟨w5, rfl⟩ : ∃ w5 : World, w5 = wr := ⟨_, rfl⟩
    have HR0 : Hid (OwnS w5 (w4.heap.size + 1) 3 1 intL (.slice oa16 ol cap16) (ordW slots)) := Lib.hid (by have := HO.out; rw [← HOE.out] at this; exact this)
    have MM5 := HM
    have S5 := Lib.hid (S4.out.below HBr.out)
    have B5 : Hid (Below b w1 w5) := Lib.hid (B4.out.trans (HBr.out.mono hz4))
    clear HO HM HBr
    go_wp2_with fail
    have hm15 := MM5.out.lt'
    have SS : Hid (SetW (w5.alloc (.map #[] 0)) M4 (fun _ => False) b lv4 ps4 T4) := Lib.hid (S5.out.alloc _)
    have MI : Hid (MapI (w5.alloc (.map #[] 0)) w5.heap.size boolV ([] : List (Int × Bool))) := Lib.hid ⟨#[], 0, obj_alloc_at _ _ _ rfl, trivial⟩
    have HR1 : Hid (OwnS (w5.alloc (.map #[] 0)) (w4.heap.size + 1) 3 1 intL (.slice oa16 ol cap16) (ordW slots)) := Lib.hid (HR0.out.alloc _)
    have MM6 : Hid (MapI (w5.alloc (.map #[] 0)) w4.heap.size intV (countW [] slots)) := Lib.hid (MM5.out.blk (obj_alloc_past _ _ _ hm15))
    have B6 : Hid (Below b w1 (w5.alloc (.map #[] 0))) := Lib.hid (B5.out.alloc (by have := B5.out.size; omega) _)
    have PM : Hid (∀ n, M4 n → n < w4.heap.size) := Lib.hid (fun n hn => S4.out.mlt n hn)
    have hz6 : (w5.alloc (.map #[] 0)).heap.size = w5.heap.size + 1 := by simp
    have GI : Hid (GotI ([] : List (Int × Bool)) slots 0) := Lib.hid (fun v => by simp [votedB, aGet])
    have hr1 : ∀ g, (Value.slice oa16 ol cap16).ownBlock = some g → w4.heap.size + 1 ≤ g ∧ g < w5.heap.size := fun g hg => HR0.out.1.lt g hg
    have HRO := Lib.hid hr1
    generalize hm2 : w5.heap.size = m2 at *
    have hm24 : w4.heap.size < m2 := hm15
    generalize w5.alloc (.map #[] 0) = w6 at *
    clear S4 B4 hmm S5 B5 HR0 MM5 hr1
    go_loopw [21, 22, 23, 112] (fun _ _ _ v112 wr => ∃ i : Nat, i ≤ ol ∧ v112 = .int .i64 i ∧ Hid (∃ n V S o Vp, SetW wr M4 Vp b lv4 ps4 S ∧ OnceI slots V n S o ∧ (S.pref = p ∧ S.conf = q) ∧ MapI wr m2 boolV V ∧ GotI V slots i ∧ (∀ n, Vp n → m2 < n)) ∧ Hid (Keeps (fun n => M4 n ∨ n = m2) w6 wr)) (fun _ _ _ i _ => ol - (intOf i).toNat)
    case atStart => exact ⟨0, Nat.zero_le _, rfl, Lib.hid ⟨_, _, _, _, _, SS.out, HON.out, HPQ.out, MI.out, GI.out, fun n h => h.elim⟩, Lib.hid (Keeps.refl _ _)⟩
    case round =>
      clear SS MI HON GI
      obtain ⟨i, hi, rfl, HR, HK⟩ := hrel
      obtain ⟨n, V, S, o, Vp, r1, r2, r5, r3, r6, r4⟩ := HR.out
      have hzr := HK.out.size
      have RO := Lib.hid r2
      have BR : Hid (Below b w1 wr) := Lib.hid (B6.out.trans (HK.out.below (fun n hn => by
        rcases hn with h | h
        · exact MM.out n h
        · omega) (by omega)))
      have RW : Hid (OwnS wr (w4.heap.size + 1) 3 1 intL (.slice oa16 ol cap16) (ordW slots)) := Lib.hid (HR1.out.keeps fun g hg => HK.out.block g (by have := HRO.out g hg; omega) (fun h => by
        have h1 := HRO.out g hg
        rcases h with h | h
        · have := PM.out g h; omega
        · omega))
      have MR : Hid (MapI wr w4.heap.size intV (countW [] slots)) := Lib.hid (MM6.out.blk (HK.out.block _ (by omega) (fun h => by
        rcases h with h | h
        · have := PM.out _ h; omega
        · omega)))
      have HNV := Lib.hid r4
      have RM := Lib.hid r3
      have RS := Lib.hid r1
      have RPQ := Lib.hid r5
      by_cases hlt : i < ol
      case neg =>
        have hi' : ol = i := by omega
        have hdn : isDone S o = true := r2.all_done (by rw [← HOE.out, hi']; exact r6)
        have HDN := Lib.hid hdn
        clear r1 r2 r3 r4 r5 r6 HR hdn
        subst hi'
        have HDO := Lib.hid (doneS_any wr M4 Vp b lv4 ps4 S RS.out RO.out.ok (by rw [RO.out.l]; simp))
        have HDT : Hid (S.l.take (doneN S) = [o]) := Lib.hid (RO.out.done1 HDN.out).2
        go_wp2_with fail
        refine HDO.out.mono ?_
        rintro e w10 ⟨ve, es, lv6, ps6, rfl, o6, s6, e6, k6⟩
        rw [HDT.out] at e6
        obtain ⟨en, rfl⟩ : ∃ en, es = [en] := List.length_eq_one_iff.1 e6.1
        have hie := e6.2 0 en o rfl rfl
        obtain ⟨ea, ec, rfl, g1, g2, g3⟩ := o6.slIn endL_length
        obtain ⟨be, oe, rfl, hbe, hre⟩ := g3 (by simp)
        have hse := hre 0 (by simp)
        have HSE : Hid (subOf (obj w10 be) (oe + 0 * 3) 3 = some (endL en).toArray) := Lib.hid hse
        obtain ⟨eid, eva, evn, evc, esl⟩ := en
        have hi1 := hie.id
        have hi2 := hie.slots
        have hvt := hie.vt.1
        simp only at hi1 hi2
        rw [RO.out.id] at hi1
        rw [RO.out.sl] at hi2
        subst hi1 hi2
        obtain ⟨va', vc', e', u1', u2', u3'⟩ := hvt
        simp only [EndM.v, Value.slice.injEq] at e'
        obtain ⟨rfl, rfl, rfl⟩ := e'
        have HVT : Hid (SlIn w10 (.slice eva o.votes.length evc) 33 vtL o.votes) := Lib.hid ⟨_, _, rfl, u1', u2', u3'⟩
        have h10 := k6.size
        have noM : ∀ g, w4.heap.size ≤ g → ¬ M4 g := fun g hg h => by have := PM.out g h; omega
        have RWx := Lib.hid (RW.out.keeps (W := w10) fun g hg => k6.block g (RW.out.1.lt g hg).2 (noM g (by have := (RW.out.1.lt g hg).1; omega)))
        have MRx := Lib.hid (MR.out.blk (k6.block _ MR.out.lt' (noM _ (Nat.le_refl _))))
        have RMx := Lib.hid (RM.out.blk (k6.block _ RM.out.lt' (noM _ (by omega))))
        have B10 : Hid (Below b w1 w10) := Lib.hid (BR.out.trans (k6.below MM.out (by have := BR.out.size; omega)))
        have f0 : w10.cell? ⟨be, oe, none⟩ = some (.int .i64 1) := by have := subOf_cell HSE.out (j := 0) (by decide); simpa [endL] using this
        have f1 : w10.cell? ⟨be, oe + 1, none⟩ = some (.slice eva o.votes.length evc) := by have := subOf_cell HSE.out (j := 1) (by decide); simpa [endL] using this
        have f2 : w10.cell? ⟨be, oe + 2, none⟩ = some (.int .i64 slots.length) := by have := subOf_cell HSE.out (j := 2) (by decide); simpa [endL] using this
        have F1 := Lib.hid f1
        unfold maxLen at u2'
        have h2pp : ¬ 2 * p ≤ slots.length := by omega
        have HRL : Hid (LeftR o slots 0 o.votes) := Lib.hid (LeftR.start RO.out.one slots)
        have HLE2 := Lib.hid (LeftR.le RO.out.one slots)
        clear o6 s6 e6 k6 g3 hre hse hie u3' HDO RW MR RM RS BR noM
        simp only [List.length_singleton] at g1 g2
        go_wp2_with fail
        go_loopw [25, 26, 28, 29, 174] (fun v25 v26 _ _ v174 wr => ∃ (kk ii : Nat) (all : List Vt), kk ≤ ol ∧ v174 = .int .i64 kk ∧ v26 = .int .i64 ii ∧ ii ≤ kk ∧ Hid (SlIn wr v25 33 vtL all) ∧ Hid (LeftR o slots kk all) ∧ Hid (Below w10.heap.size w10 wr)) (fun _ _ _ _ i _ => ol - (intOf i).toNat)
        case atStart => exact ⟨0, 0, _, Nat.zero_le _, rfl, rfl, Nat.le_refl _, HVT, HRL, Lib.hid (Below.refl _ _)⟩
        case round =>
          obtain ⟨kk, ii, all, hkk, rfl, rfl, hik, HSA, HLR, HBx⟩ := hrel
          have hzx := HBx.out.size
          have RWy := Lib.hid (RWx.out.keeps (W := wr) fun g hg => obj_below HBx.out (RWx.out.1.lt g hg).2)
          have MRx := Lib.hid (MRx.out.blk (obj_below HBx.out MRx.out.lt'))
          have RMx := Lib.hid (RMx.out.blk (obj_below HBx.out RMx.out.lt'))
          have BRx : Hid (Below b w1 wr) := Lib.hid (B10.out.trans (HBx.out.mono (by have := B10.out.size; omega)))
          by_cases hkl : kk < ol
          case neg =>
            have hkk' : ol = kk := by omega
            subst hkk'
            have hR := HLR.out.1
            have hmain := early_main RO.out.ok RO.out.one (by rw [RO.out.sl, RPQ.out.1]; omega) HDN.out hR (HLE2.out _)
            rw [RPQ.out.1, RPQ.out.2] at hmain
            obtain ⟨hm1, hm2⟩ := hmain
            have HM1 := Lib.hid hm1
            have HM2 := Lib.hid hm2
            have HW1 := Lib.hid (winner_any wr (.slice eva o.votes.length evc) o.votes p (HVT.out.below HBx.out))
            have HW2 := fun W (hW : Below wr.heap.size wr W) => winner_any W u25 all p (HSA.out.below hW)
            have HW2 := Lib.hid HW2
            have f1 := (HBx.out.cell (p := ⟨be, oe + 1, none⟩) hbe).trans F1.out
            have hbew : be < wr.heap.size := by omega
            clear hR hm1 hm2 HLR
            generalize winV o.votes p = W1 at *
            generalize winV all p = W2 at *
            obtain ⟨x1, n1⟩ := W1
            obtain ⟨x2, n2⟩ := W2
            have hx : x1 = x2 := HM1.out
            subst hx
            have hq := HM2.out
            simp only at hq
            go_wp2_with fail
            refine HW1.out.mono ?_
            rintro e w12 ⟨rfl, b12⟩
            have B12 := Lib.hid b12
            have hz12 := b12.size
            have oz : obj (w12.alloc (.cells (idL x1).toArray 37)) w12.heap.size = some (.cells (idL x1).toArray 37 (0, 0)) := obj_alloc_at _ _ _ rfl
            have OZ := Lib.hid oz
            have BA : Hid (Below wr.heap.size wr (w12.alloc (.cells (idL x1).toArray 37))) := Lib.hid (B12.out.alloc (by omega) _)
            have hza : (w12.alloc (.cells (idL x1).toArray 37)).heap.size = w12.heap.size + 1 := by simp
            clear b12 oz
            go_wp2_with fail
            generalize w12.alloc (.cells (idL x1).toArray 37) = w13 at *
            refine (HW2.out w13 BA.out).mono ?_
            rintro e w14 ⟨rfl, b14⟩
            have hz14 := b14.size
            have o14 := (obj_below b14 (by omega)).trans OZ.out
            have BB14 : Hid (Below b w1 w14) := Lib.hid (BRx.out.trans ((BA.out.trans (b14.mono (by omega))).mono (by have := BRx.out.size; omega)))
            clear b14 HW2 HW1
            have oz1 : obj (w14.alloc (.cells (idL x1).toArray 37)) w14.heap.size = some (.cells (idL x1).toArray 37 (0, 0)) := obj_alloc_at _ _ _ rfl
            have oz2 : obj (w14.alloc (.cells (idL x1).toArray 37)) w12.heap.size = some (.cells (idL x1).toArray 37 (0, 0)) := (obj_alloc_past _ _ _ (by omega)).trans o14
            have p1 : subOf (obj (w14.alloc (.cells (idL x1).toArray 37)) w14.heap.size) 0 32 = some (idL x1).toArray := by rw [oz1, subOf_cells (by simp), subA_all (by simp)]
            have p2 : subOf (obj (w14.alloc (.cells (idL x1).toArray 37)) w12.heap.size) 0 32 = some (idL x1).toArray := by rw [oz2, subOf_cells (by simp), subA_all (by simp)]
            have BC : Hid (Below b w1 (w14.alloc (.cells (idL x1).toArray 37))) := Lib.hid (BB14.out.alloc (by have := BB14.out.size; omega) _)
            clear oz1 oz2 o14
            by_cases hq1 : q ≤ n1
            · have hq2 : q ≤ n2 := by
                rw [decide_eq_true hq1] at hq
                exact of_decide_eq_true hq.symm
              go_wp2_with fail
              go_ret
              exact ⟨rfl, B1.out.trans (BC.out.mono hz1)⟩
            · have hq2 : ¬ q ≤ n2 := by
                rw [decide_eq_false hq1] at hq
                exact of_decide_eq_false hq.symm
              go_wp2_with fail
              go_ret
              exact ⟨rfl, B1.out.trans (BC.out.mono hz1)⟩
          have hlo2 : kk < (ordW slots).length := by have := HOE.out; omega
          obtain ⟨gs, hgs, hgb2, hgl2, cx2⟩ := own_int RWy.out hlo2
          cases hgs
          have hlk := run_voted RMx.out (ordW slots)[kk]
          have hw := RO.out.w (ordW slots)[kk]
          have hmany : (aGet (ordW slots)[kk] (countW [] slots)).getD 0 = cntI (ordW slots)[kk] slots := by rw [get_count]; simp [aGet]
          have hc0 := cntI_nn (ordW slots)[kk] slots
          have hc1 := cntI_le (ordW slots)[kk] slots
          cases hvb : votedB V (ordW slots)[kk] with
          | true =>
            rw [hvb] at hlk
            clear hw hmany hvb
            generalize (ordW slots)[kk] = y at *
            go_wp2_with fail
            go_roundw
            case rel => exact ⟨kk + 1, ii, all, by omega, by go_num, rfl, by omega, HSA, Lib.hid (HLR.out.skip RO.out.one hlo2), HBx⟩
            case measure => simp [intOf]; omega
          | false =>
            rw [hvb] at hlk
            rw [hvb, if_neg (by simp)] at hw
            obtain ⟨m, hm⟩ : ∃ m, m = cntI (ordW slots)[kk] slots := ⟨_, rfl⟩
            have HWM : Hid (waitsOf o (ordW slots)[kk] = m) := Lib.hid (by rw [hw, hm])
            have HMV : Hid ((aGet (ordW slots)[kk] (countW [] slots)).getD 0 = m) := Lib.hid (by rw [hmany, hm])
            have hm0 : 0 ≤ m := by omega
            have hm1 : m ≤ 1048576 := by omega
            obtain ⟨y, hy⟩ : ∃ y, y = (ordW slots)[kk] := ⟨_, rfl⟩
            have HYE := Lib.hid hy
            rw [← hy] at hlk HMV cx2
            clear hw hmany hvb hc0 hc1 hm hy
            obtain ⟨kr, hkb0, hkb1, hkb2⟩ : ∃ kb : Int, 0 ≤ kb ∧ kb ≤ 255 ∧ Hid ((rs.length ≤ ii ∧ kb = 0) ∨ (∃ bv ov, ra = some ⟨bv, ov, none⟩ ∧ bv < wr.heap.size ∧ ii < rs.length ∧ wr.cell? ⟨bv, ov + ii, none⟩ = some (.int .u8 kb))) := by
              by_cases hvi : ii < rs.length
              · have HVR := RL1.out.below (W := wr) (by rw [hb]; exact BRx.out)
                obtain ⟨va', vc', es', _, _, h3⟩ := HVR
                simp only [Value.slice.injEq] at es'
                obtain ⟨rfl, _, rfl⟩ := es'
                obtain ⟨bv, ov, rfl, hbv, hrow⟩ := h3 (by omega)
                have hs1 := hrow ii hvi
                have h5 := HRB.out rs[ii] (List.getElem_mem hvi)
                refine ⟨rs[ii], h5.1, h5.2, Lib.hid (.inr ⟨bv, ov, rfl, hbv, hvi, ?_⟩)⟩
                have := subOf_cell hs1 (j := 0) (by decide)
                simpa [byteL] using this
              · exact ⟨0, by omega, by omega, Lib.hid (.inl ⟨by omega, rfl⟩)⟩
            have hk7 : kr.tmod 6 = kr % 6 := Int.tmod_eq_emod_of_nonneg hkb0
            have hk7' : IntKind.u8.wrap (kr % 6) = kr % 6 := by simp [IntKind.wrap, IntKind.signed, IntKind.bits]; omega
            have hwi : IntKind.i64.wrap ((ii : Int) + 1) = (ii : Int) + 1 := by simp [IntKind.wrap, IntKind.signed, IntKind.bits]; omega
            rcases hkb2.out with ⟨hri, rfl⟩ | ⟨bv2, ov2, rfl, hbv2, hri, cv2⟩
            · have hri2 : ¬ (ii : Int) < rs.length := by omega
              have HNA := fun W => Lib.hid (name_any W 0 hkb0 hkb1)
              have HLK : Hid (∀ y' : Later wr, (Instr.lookup 31 (.map (some w4.heap.size)) (.int .i64 y) false).run Try.prog y'.w = .ok (.int .i64 m) y'.w) := Lib.hid (fun y' => by
                have := run_many (MRx.out.blk (obj_below y'.h MRx.out.lt')) y
                rw [HMV.out] at this
                exact this)
              have HLKK := HLK.out
              go_wp2_with fail
              refine wp_region_later_tail wr (Below.refl _ _) 6 (by kernel_rfl) (by kernel_rfl) ?_
              simp only [List.take_succ_cons, List.take_zero, List.drop_succ_cons, List.drop_zero]
              repeat (go_big_quiet_step (first | (go_at_call 15; with_reducible exact Calls.later (HNA _).out)))
              refine wpQuiet_nil ?_
              intro _ hxx
              obtain ⟨⟨w11, b11⟩, hxx⟩ := hxx
              subst hxx
              rename_i w11
              have hz11 := b11.size
              have HWI := Lib.hid (with_any w11 u25 all (nameP 0) m (HSA.out.below b11) HLR.out.1.nn (by have := HLR.out.1.sum; have := LeftR.le RO.out.one slots kk; have := RO.out.one.tot; have := RO.out.sl; omega) hm0 hm1 HLR.out.1.len)
              have HB11 : Hid (Below w10.heap.size w10 w11) := Lib.hid (HBx.out.trans (b11.mono (by omega)))
              have HLW := Lib.hid (HLR.out.with RO.out.one hlo2 h64 (nameP 0))
              rw [HWM.out] at HLW
              clear b11
              go_wp2_with fail
              refine HWI.out.mono ?_
              rintro e w12 ⟨v12, rfl, o12, b12⟩
              have HSA2 := Lib.hid (o12.slIn vtL_length)
              have HB12 : Hid (Below w10.heap.size w10 w12) := Lib.hid (HB11.out.trans (b12.mono (by have := HB11.out.size; omega)))
              obtain ⟨xa, xc, e12⟩ := o12.slice
              clear o12 b12 HWI
              generalize List.length _ = xn at e12
              subst e12
              go_wp2_with fail
              go_roundw
              case rel => exact ⟨kk + 1, ii + 1, _, by omega, by go_num, by go_num, by omega, HSA2, HLW, HB12⟩
              case measure => simp [intOf]; omega
            · have hri2 : (ii : Int) < rs.length := by omega
              by_cases h67 : kr % 6 = 5
              · go_wp2_with fail
                go_roundw
                case rel => exact ⟨kk + 1, ii + 1, all, by omega, by go_num, by go_num, by omega, HSA, Lib.hid (HLR.out.skip RO.out.one hlo2), HBx⟩
                case measure => simp [intOf]; omega
              · have HNA := fun W => Lib.hid (name_any W kr hkb0 hkb1)
                have HLK : Hid (∀ y' : Later wr, (Instr.lookup 31 (.map (some w4.heap.size)) (.int .i64 y) false).run Try.prog y'.w = .ok (.int .i64 m) y'.w) := Lib.hid (fun y' => by
                  have := run_many (MRx.out.blk (obj_below y'.h MRx.out.lt')) y
                  rw [HMV.out] at this
                  exact this)
                have HLKK := HLK.out
                go_wp2_with fail
                refine wp_region_later_tail wr (Below.refl _ _) 6 (by kernel_rfl) (by kernel_rfl) ?_
                simp only [List.take_succ_cons, List.take_zero, List.drop_succ_cons, List.drop_zero]
                repeat (go_big_quiet_step (first | (go_at_call 15; with_reducible exact Calls.later (HNA _).out)))
                refine wpQuiet_nil ?_
                intro _ hxx
                obtain ⟨⟨w11, b11⟩, hxx⟩ := hxx
                subst hxx
                rename_i w11
                have hz11 := b11.size
                have HWI := Lib.hid (with_any w11 u25 all (nameP kr) m (HSA.out.below b11) HLR.out.1.nn (by have := HLR.out.1.sum; have := LeftR.le RO.out.one slots kk; have := RO.out.one.tot; have := RO.out.sl; omega) hm0 hm1 HLR.out.1.len)
                have HB11 : Hid (Below w10.heap.size w10 w11) := Lib.hid (HBx.out.trans (b11.mono (by omega)))
                have HLW := Lib.hid (HLR.out.with RO.out.one hlo2 h64 (nameP kr))
                rw [HWM.out] at HLW
                clear b11
                go_wp2_with fail
                refine HWI.out.mono ?_
                rintro e w12 ⟨v12, rfl, o12, b12⟩
                have HSA2 := Lib.hid (o12.slIn vtL_length)
                have HB12 : Hid (Below w10.heap.size w10 w12) := Lib.hid (HB11.out.trans (b12.mono (by have := HB11.out.size; omega)))
                obtain ⟨xa, xc, e12⟩ := o12.slice
                clear o12 b12 HWI
                generalize List.length _ = xn at e12
                subst e12
                go_wp2_with fail
                go_roundw
                case rel => exact ⟨kk + 1, ii + 1, _, by omega, by go_num, by go_num, by omega, HSA2, HLW, HB12⟩
                case measure => simp [intOf]; omega
      have hlo : i < (ordW slots).length := by have := HOE.out; omega
      obtain ⟨gr, rfl, hgb, hgl, cx⟩ := own_int RW.out hlo
      have hfresh := r6.fresh hlo
      have hcnt : cntI (ordW slots)[i] slots ≠ 0 := (ordW_mem slots _).1 (List.getElem_mem hlo)
      have GN := Lib.hid (r6.next hlo)
      have HWT := Lib.hid (waits_any wr M4 Vp b lv4 ps4 S r1 r2.ok 1 (ordW slots)[i])
      rw [r2.waitsR hfresh hcnt] at HWT
      obtain ⟨kb, hkb0, hkb1, hkb⟩ : ∃ kb : Int, 0 ≤ kb ∧ kb ≤ 255 ∧ Hid ((vs.length ≤ i ∧ kb = 0) ∨ (∃ bv ov, va = some ⟨bv, ov, none⟩ ∧ bv < wr.heap.size ∧ i < vs.length ∧ wr.cell? ⟨bv, ov + i, none⟩ = some (.int .u8 kb))) := by
        by_cases hvi : i < vs.length
        · have HVR := VL1.out.below (W := wr) (by rw [hb]; exact BR.out)
          obtain ⟨va', vc', es', _, _, h3⟩ := HVR
          simp only [Value.slice.injEq] at es'
          obtain ⟨rfl, _, rfl⟩ := es'
          obtain ⟨bv, ov, rfl, hbv, hrow⟩ := h3 (by omega)
          have hs1 := hrow i hvi
          have h5 := HVB.out vs[i] (List.getElem_mem hvi)
          refine ⟨vs[i], h5.1, h5.2, Lib.hid (.inr ⟨bv, ov, rfl, hbv, hvi, ?_⟩)⟩
          have := subOf_cell hs1 (j := 0) (by decide)
          simpa [byteL] using this
        · exact ⟨0, by omega, by omega, Lib.hid (.inl ⟨by omega, rfl⟩)⟩
      have hk6 : kb.tmod 6 = kb % 6 := Int.tmod_eq_emod_of_nonneg hkb0
      have hk6' : IntKind.u8.wrap (kb % 6) = kb % 6 := by simp [IntKind.wrap, IntKind.signed, IntKind.bits]; omega
      have VY := fun hd id => Lib.hid (r2.voteY hfresh hcnt hd id)
      have DY := fun hd => Lib.hid (r2.dropY hfresh hcnt hd)
      have hok := Lib.hid r2.ok
      clear r1 r2 r3 r4 r5 r6 HR hfresh hcnt
      generalize (ordW slots)[i] = x at *
      rcases hkb.out with ⟨hvi, rfl⟩ | ⟨bv, ov, rfl, hbv, hvi, cv⟩
      · have hvi2 : ¬ (i : Int) < vs.length := by omega
        cases hd : isDone S o with
        | true =>
          rw [hd] at HWT
          have HDN := Lib.hid hd
          clear VY DY hd
          go_wp2_with fail
          refine HWT.out.mono ?_
          rintro e w7 ⟨rfl, b7⟩
          have hz7 := b7.size
          have RW := Lib.hid (RW.out.keeps (W := w7) fun g hg => obj_below b7 (RW.out.1.lt g hg).2)
          have MR := Lib.hid (MR.out.blk (obj_below b7 MR.out.lt'))
          have RM := Lib.hid (RM.out.blk (obj_below b7 RM.out.lt'))
          have RS := Lib.hid (RS.out.below b7)
          have BR := Lib.hid (BR.out.trans (b7.mono (by omega)))
          have hzr : w6.heap.size ≤ w7.heap.size := by omega
          obtain ⟨wr, rfl⟩ : ∃ wr : World, wr = w7 := ⟨_, rfl⟩
          clear b7 HK
          have HDO := Lib.hid (doneS_any wr M4 Vp b lv4 ps4 S RS.out RO.out.ok (by rw [RO.out.l]; simp))
          have HDT : Hid (S.l.take (doneN S) = [o]) := Lib.hid (RO.out.done1 HDN.out).2
          go_wp2_with fail
          refine HDO.out.mono ?_
          rintro e w10 ⟨ve, es, lv6, ps6, rfl, o6, s6, e6, k6⟩
          rw [HDT.out] at e6
          obtain ⟨en, rfl⟩ : ∃ en, es = [en] := List.length_eq_one_iff.1 e6.1
          have hie := e6.2 0 en o rfl rfl
          obtain ⟨ea, ec, rfl, g1, g2, g3⟩ := o6.slIn endL_length
          obtain ⟨be, oe, rfl, hbe, hre⟩ := g3 (by simp)
          have hse := hre 0 (by simp)
          have HSE : Hid (subOf (obj w10 be) (oe + 0 * 3) 3 = some (endL en).toArray) := Lib.hid hse
          obtain ⟨eid, eva, evn, evc, esl⟩ := en
          have hi1 := hie.id
          have hi2 := hie.slots
          have hvt := hie.vt.1
          simp only at hi1 hi2
          rw [RO.out.id] at hi1
          rw [RO.out.sl] at hi2
          subst hi1 hi2
          obtain ⟨va', vc', e', u1', u2', u3'⟩ := hvt
          simp only [EndM.v, Value.slice.injEq] at e'
          obtain ⟨rfl, rfl, rfl⟩ := e'
          have HVT : Hid (SlIn w10 (.slice eva o.votes.length evc) 33 vtL o.votes) := Lib.hid ⟨_, _, rfl, u1', u2', u3'⟩
          have h10 := k6.size
          have noM : ∀ g, w4.heap.size ≤ g → ¬ M4 g := fun g hg h => by have := PM.out g h; omega
          have RWx := Lib.hid (RW.out.keeps (W := w10) fun g hg => k6.block g (RW.out.1.lt g hg).2 (noM g (by have := (RW.out.1.lt g hg).1; omega)))
          have MRx := Lib.hid (MR.out.blk (k6.block _ MR.out.lt' (noM _ (Nat.le_refl _))))
          have RMx := Lib.hid (RM.out.blk (k6.block _ RM.out.lt' (noM _ (by omega))))
          have B10 : Hid (Below b w1 w10) := Lib.hid (BR.out.trans (k6.below MM.out (by have := BR.out.size; omega)))
          have f0 : w10.cell? ⟨be, oe, none⟩ = some (.int .i64 1) := by have := subOf_cell HSE.out (j := 0) (by decide); simpa [endL] using this
          have f1 : w10.cell? ⟨be, oe + 1, none⟩ = some (.slice eva o.votes.length evc) := by have := subOf_cell HSE.out (j := 1) (by decide); simpa [endL] using this
          have f2 : w10.cell? ⟨be, oe + 2, none⟩ = some (.int .i64 slots.length) := by have := subOf_cell HSE.out (j := 2) (by decide); simpa [endL] using this
          have F1 := Lib.hid f1
          unfold maxLen at u2'
          have h2pp : ¬ 2 * p ≤ slots.length := by omega
          have HRL : Hid (LeftR o slots 0 o.votes) := Lib.hid (LeftR.start RO.out.one slots)
          have HLE2 := Lib.hid (LeftR.le RO.out.one slots)
          clear o6 s6 e6 k6 g3 hre hse hie u3' HDO RW MR RM RS BR noM
          simp only [List.length_singleton] at g1 g2
          go_wp2_with fail
          go_loopw [25, 26, 28, 29, 174] (fun v25 v26 _ _ v174 wr => ∃ (kk ii : Nat) (all : List Vt), kk ≤ ol ∧ v174 = .int .i64 kk ∧ v26 = .int .i64 ii ∧ ii ≤ kk ∧ Hid (SlIn wr v25 33 vtL all) ∧ Hid (LeftR o slots kk all) ∧ Hid (Below w10.heap.size w10 wr)) (fun _ _ _ _ i _ => ol - (intOf i).toNat)
          case atStart => exact ⟨0, 0, _, Nat.zero_le _, rfl, rfl, Nat.le_refl _, HVT, HRL, Lib.hid (Below.refl _ _)⟩
          case round =>
            obtain ⟨kk, ii, all, hkk, rfl, rfl, hik, HSA, HLR, HBx⟩ := hrel
            have hzx := HBx.out.size
            have RWy := Lib.hid (RWx.out.keeps (W := wr) fun g hg => obj_below HBx.out (RWx.out.1.lt g hg).2)
            have MRx := Lib.hid (MRx.out.blk (obj_below HBx.out MRx.out.lt'))
            have RMx := Lib.hid (RMx.out.blk (obj_below HBx.out RMx.out.lt'))
            have BRx : Hid (Below b w1 wr) := Lib.hid (B10.out.trans (HBx.out.mono (by have := B10.out.size; omega)))
            by_cases hkl : kk < ol
            case neg =>
              have hkk' : ol = kk := by omega
              subst hkk'
              have hR := HLR.out.1
              have hmain := early_main RO.out.ok RO.out.one (by rw [RO.out.sl, RPQ.out.1]; omega) HDN.out hR (HLE2.out _)
              rw [RPQ.out.1, RPQ.out.2] at hmain
              obtain ⟨hm1, hm2⟩ := hmain
              have HM1 := Lib.hid hm1
              have HM2 := Lib.hid hm2
              have HW1 := Lib.hid (winner_any wr (.slice eva o.votes.length evc) o.votes p (HVT.out.below HBx.out))
              have HW2 := fun W (hW : Below wr.heap.size wr W) => winner_any W u25 all p (HSA.out.below hW)
              have HW2 := Lib.hid HW2
              have f1 := (HBx.out.cell (p := ⟨be, oe + 1, none⟩) hbe).trans F1.out
              have hbew : be < wr.heap.size := by omega
              clear hR hm1 hm2 HLR
              generalize winV o.votes p = W1 at *
              generalize winV all p = W2 at *
              obtain ⟨x1, n1⟩ := W1
              obtain ⟨x2, n2⟩ := W2
              have hx : x1 = x2 := HM1.out
              subst hx
              have hq := HM2.out
              simp only at hq
              go_wp2_with fail
              refine HW1.out.mono ?_
              rintro e w12 ⟨rfl, b12⟩
              have B12 := Lib.hid b12
              have hz12 := b12.size
              have oz : obj (w12.alloc (.cells (idL x1).toArray 37)) w12.heap.size = some (.cells (idL x1).toArray 37 (0, 0)) := obj_alloc_at _ _ _ rfl
              have OZ := Lib.hid oz
              have BA : Hid (Below wr.heap.size wr (w12.alloc (.cells (idL x1).toArray 37))) := Lib.hid (B12.out.alloc (by omega) _)
              have hza : (w12.alloc (.cells (idL x1).toArray 37)).heap.size = w12.heap.size + 1 := by simp
              clear b12 oz
              go_wp2_with fail
              generalize w12.alloc (.cells (idL x1).toArray 37) = w13 at *
              refine (HW2.out w13 BA.out).mono ?_
              rintro e w14 ⟨rfl, b14⟩
              have hz14 := b14.size
              have o14 := (obj_below b14 (by omega)).trans OZ.out
              have BB14 : Hid (Below b w1 w14) := Lib.hid (BRx.out.trans ((BA.out.trans (b14.mono (by omega))).mono (by have := BRx.out.size; omega)))
              clear b14 HW2 HW1
              have oz1 : obj (w14.alloc (.cells (idL x1).toArray 37)) w14.heap.size = some (.cells (idL x1).toArray 37 (0, 0)) := obj_alloc_at _ _ _ rfl
              have oz2 : obj (w14.alloc (.cells (idL x1).toArray 37)) w12.heap.size = some (.cells (idL x1).toArray 37 (0, 0)) := (obj_alloc_past _ _ _ (by omega)).trans o14
              have p1 : subOf (obj (w14.alloc (.cells (idL x1).toArray 37)) w14.heap.size) 0 32 = some (idL x1).toArray := by rw [oz1, subOf_cells (by simp), subA_all (by simp)]
              have p2 : subOf (obj (w14.alloc (.cells (idL x1).toArray 37)) w12.heap.size) 0 32 = some (idL x1).toArray := by rw [oz2, subOf_cells (by simp), subA_all (by simp)]
              have BC : Hid (Below b w1 (w14.alloc (.cells (idL x1).toArray 37))) := Lib.hid (BB14.out.alloc (by have := BB14.out.size; omega) _)
              clear oz1 oz2 o14
              by_cases hq1 : q ≤ n1
              · have hq2 : q ≤ n2 := by
                  rw [decide_eq_true hq1] at hq
                  exact of_decide_eq_true hq.symm
                go_wp2_with fail
                go_ret
                exact ⟨rfl, B1.out.trans (BC.out.mono hz1)⟩
              · have hq2 : ¬ q ≤ n2 := by
                  rw [decide_eq_false hq1] at hq
                  exact of_decide_eq_false hq.symm
                go_wp2_with fail
                go_ret
                exact ⟨rfl, B1.out.trans (BC.out.mono hz1)⟩
            have hlo2 : kk < (ordW slots).length := by have := HOE.out; omega
            obtain ⟨gs, hgs, hgb2, hgl2, cx2⟩ := own_int RWy.out hlo2
            cases hgs
            have hlk := run_voted RMx.out (ordW slots)[kk]
            have hw := RO.out.w (ordW slots)[kk]
            have hmany : (aGet (ordW slots)[kk] (countW [] slots)).getD 0 = cntI (ordW slots)[kk] slots := by rw [get_count]; simp [aGet]
            have hc0 := cntI_nn (ordW slots)[kk] slots
            have hc1 := cntI_le (ordW slots)[kk] slots
            cases hvb : votedB V (ordW slots)[kk] with
            | true =>
              rw [hvb] at hlk
              clear hw hmany hvb
              generalize (ordW slots)[kk] = y at *
              go_wp2_with fail
              go_roundw
              case rel => exact ⟨kk + 1, ii, all, by omega, by go_num, rfl, by omega, HSA, Lib.hid (HLR.out.skip RO.out.one hlo2), HBx⟩
              case measure => simp [intOf]; omega
            | false =>
              rw [hvb] at hlk
              rw [hvb, if_neg (by simp)] at hw
              obtain ⟨m, hm⟩ : ∃ m, m = cntI (ordW slots)[kk] slots := ⟨_, rfl⟩
              have HWM : Hid (waitsOf o (ordW slots)[kk] = m) := Lib.hid (by rw [hw, hm])
              have HMV : Hid ((aGet (ordW slots)[kk] (countW [] slots)).getD 0 = m) := Lib.hid (by rw [hmany, hm])
              have hm0 : 0 ≤ m := by omega
              have hm1 : m ≤ 1048576 := by omega
              obtain ⟨y, hy⟩ : ∃ y, y = (ordW slots)[kk] := ⟨_, rfl⟩
              have HYE := Lib.hid hy
              rw [← hy] at hlk HMV cx2
              clear hw hmany hvb hc0 hc1 hm hy
              obtain ⟨kr, hkb0, hkb1, hkb2⟩ : ∃ kb : Int, 0 ≤ kb ∧ kb ≤ 255 ∧ Hid ((rs.length ≤ ii ∧ kb = 0) ∨ (∃ bv ov, ra = some ⟨bv, ov, none⟩ ∧ bv < wr.heap.size ∧ ii < rs.length ∧ wr.cell? ⟨bv, ov + ii, none⟩ = some (.int .u8 kb))) := by
                by_cases hvi : ii < rs.length
                · have HVR := RL1.out.below (W := wr) (by rw [hb]; exact BRx.out)
                  obtain ⟨va', vc', es', _, _, h3⟩ := HVR
                  simp only [Value.slice.injEq] at es'
                  obtain ⟨rfl, _, rfl⟩ := es'
                  obtain ⟨bv, ov, rfl, hbv, hrow⟩ := h3 (by omega)
                  have hs1 := hrow ii hvi
                  have h5 := HRB.out rs[ii] (List.getElem_mem hvi)
                  refine ⟨rs[ii], h5.1, h5.2, Lib.hid (.inr ⟨bv, ov, rfl, hbv, hvi, ?_⟩)⟩
                  have := subOf_cell hs1 (j := 0) (by decide)
                  simpa [byteL] using this
                · exact ⟨0, by omega, by omega, Lib.hid (.inl ⟨by omega, rfl⟩)⟩
              have hk7 : kr.tmod 6 = kr % 6 := Int.tmod_eq_emod_of_nonneg hkb0
              have hk7' : IntKind.u8.wrap (kr % 6) = kr % 6 := by simp [IntKind.wrap, IntKind.signed, IntKind.bits]; omega
              have hwi : IntKind.i64.wrap ((ii : Int) + 1) = (ii : Int) + 1 := by simp [IntKind.wrap, IntKind.signed, IntKind.bits]; omega
              rcases hkb2.out with ⟨hri, rfl⟩ | ⟨bv2, ov2, rfl, hbv2, hri, cv2⟩
              · have hri2 : ¬ (ii : Int) < rs.length := by omega
                have HNA := fun W => Lib.hid (name_any W 0 hkb0 hkb1)
                have HLK : Hid (∀ y' : Later wr, (Instr.lookup 31 (.map (some w4.heap.size)) (.int .i64 y) false).run Try.prog y'.w = .ok (.int .i64 m) y'.w) := Lib.hid (fun y' => by
                  have := run_many (MRx.out.blk (obj_below y'.h MRx.out.lt')) y
                  rw [HMV.out] at this
                  exact this)
                have HLKK := HLK.out
                go_wp2_with fail
                refine wp_region_later_tail wr (Below.refl _ _) 6 (by kernel_rfl) (by kernel_rfl) ?_
                simp only [List.take_succ_cons, List.take_zero, List.drop_succ_cons, List.drop_zero]
                repeat (go_big_quiet_step (first | (go_at_call 15; with_reducible exact Calls.later (HNA _).out)))
                refine wpQuiet_nil ?_
                intro _ hxx
                obtain ⟨⟨w11, b11⟩, hxx⟩ := hxx
                subst hxx
                rename_i w11
                have hz11 := b11.size
                have HWI := Lib.hid (with_any w11 u25 all (nameP 0) m (HSA.out.below b11) HLR.out.1.nn (by have := HLR.out.1.sum; have := LeftR.le RO.out.one slots kk; have := RO.out.one.tot; have := RO.out.sl; omega) hm0 hm1 HLR.out.1.len)
                have HB11 : Hid (Below w10.heap.size w10 w11) := Lib.hid (HBx.out.trans (b11.mono (by omega)))
                have HLW := Lib.hid (HLR.out.with RO.out.one hlo2 h64 (nameP 0))
                rw [HWM.out] at HLW
                clear b11
                go_wp2_with fail
                refine HWI.out.mono ?_
                rintro e w12 ⟨v12, rfl, o12, b12⟩
                have HSA2 := Lib.hid (o12.slIn vtL_length)
                have HB12 : Hid (Below w10.heap.size w10 w12) := Lib.hid (HB11.out.trans (b12.mono (by have := HB11.out.size; omega)))
                obtain ⟨xa, xc, e12⟩ := o12.slice
                clear o12 b12 HWI
                generalize List.length _ = xn at e12
                subst e12
                go_wp2_with fail
                go_roundw
                case rel => exact ⟨kk + 1, ii + 1, _, by omega, by go_num, by go_num, by omega, HSA2, HLW, HB12⟩
                case measure => simp [intOf]; omega
              · have hri2 : (ii : Int) < rs.length := by omega
                by_cases h67 : kr % 6 = 5
                · go_wp2_with fail
                  go_roundw
                  case rel => exact ⟨kk + 1, ii + 1, all, by omega, by go_num, by go_num, by omega, HSA, Lib.hid (HLR.out.skip RO.out.one hlo2), HBx⟩
                  case measure => simp [intOf]; omega
                · have HNA := fun W => Lib.hid (name_any W kr hkb0 hkb1)
                  have HLK : Hid (∀ y' : Later wr, (Instr.lookup 31 (.map (some w4.heap.size)) (.int .i64 y) false).run Try.prog y'.w = .ok (.int .i64 m) y'.w) := Lib.hid (fun y' => by
                    have := run_many (MRx.out.blk (obj_below y'.h MRx.out.lt')) y
                    rw [HMV.out] at this
                    exact this)
                  have HLKK := HLK.out
                  go_wp2_with fail
                  refine wp_region_later_tail wr (Below.refl _ _) 6 (by kernel_rfl) (by kernel_rfl) ?_
                  simp only [List.take_succ_cons, List.take_zero, List.drop_succ_cons, List.drop_zero]
                  repeat (go_big_quiet_step (first | (go_at_call 15; with_reducible exact Calls.later (HNA _).out)))
                  refine wpQuiet_nil ?_
                  intro _ hxx
                  obtain ⟨⟨w11, b11⟩, hxx⟩ := hxx
                  subst hxx
                  rename_i w11
                  have hz11 := b11.size
                  have HWI := Lib.hid (with_any w11 u25 all (nameP kr) m (HSA.out.below b11) HLR.out.1.nn (by have := HLR.out.1.sum; have := LeftR.le RO.out.one slots kk; have := RO.out.one.tot; have := RO.out.sl; omega) hm0 hm1 HLR.out.1.len)
                  have HB11 : Hid (Below w10.heap.size w10 w11) := Lib.hid (HBx.out.trans (b11.mono (by omega)))
                  have HLW := Lib.hid (HLR.out.with RO.out.one hlo2 h64 (nameP kr))
                  rw [HWM.out] at HLW
                  clear b11
                  go_wp2_with fail
                  refine HWI.out.mono ?_
                  rintro e w12 ⟨v12, rfl, o12, b12⟩
                  have HSA2 := Lib.hid (o12.slIn vtL_length)
                  have HB12 : Hid (Below w10.heap.size w10 w12) := Lib.hid (HB11.out.trans (b12.mono (by have := HB11.out.size; omega)))
                  obtain ⟨xa, xc, e12⟩ := o12.slice
                  clear o12 b12 HWI
                  generalize List.length _ = xn at e12
                  subst e12
                  go_wp2_with fail
                  go_roundw
                  case rel => exact ⟨kk + 1, ii + 1, _, by omega, by go_num, by go_num, by omega, HSA2, HLW, HB12⟩
                  case measure => simp [intOf]; omega
        | false =>
          rw [hd] at HWT
          obtain ⟨es, clk, hm, hrep⟩ := RM.out
          obtain ⟨es', clk', hup, hrep'⟩ := run_mapUpdate_int (enc := boolV) (P := Try.prog) (clk := clk) Try.underlying32 Try.underlying3 hrep m2 x true
          have HUP := Lib.hid hup
          have HRP := Lib.hid hrep'
          have HMO := Lib.hid hm
          clear hm hrep hup hrep'
          go_wp2_with fail
          refine HWT.out.mono ?_
          rintro e w7 ⟨rfl, b7⟩
          have hz7 := b7.size
          have hm7 := (obj_below b7 (lt_of_obj HMO.out)).trans HMO.out
          have hmz := lt_of_obj hm7
          have hup7 : (Instr.mapUpdate 32 (.map (some m2)) (.int .i64 x) (.bool true)).run Try.prog w7 = .ok () (putObj w7 m2 (.map es' clk')) := HUP.out w7 hm7
          have S8 : Hid (SetW (putObj w7 m2 (.map es' clk')) M4 Vp b lv4 ps4 S) := Lib.hid ((RS.out.below b7).frame (by simp) fun n _ hn => obj_putObj_ne _ _ _ _ (by rintro rfl; rcases hn with h | h; (have := PM.out _ h; omega); (have := HNV.out _ h; omega)))
          have M8 : Hid (MapI (putObj w7 m2 (.map es' clk')) m2 boolV (aPut x true V)) := Lib.hid ⟨es', clk', obj_putObj_eq _ _ _ hmz, HRP.out⟩
          have K8 : Hid (Keeps (fun n => M4 n ∨ n = m2) w6 (putObj w7 m2 (.map es' clk'))) := Lib.hid ((HK.out.trans (Keeps.of_below b7)).putObj (.inr rfl) _)
          have hz8 : (putObj w7 m2 (.map es' clk')).heap.size = w7.heap.size := by simp
          have HNA := fun W => Lib.hid (name_any W 0 hkb0 hkb1)
          obtain ⟨n', o', hI⟩ := (VY hd (nameP 0)).out
          have OI := Lib.hid hI
          clear b7 hI VY DY hd HUP
          go_wp2_with fail
          refine (HNA _).out.mono ?_
          rintro e w8 ⟨rfl, b8⟩
          have hzb := b8.size
          have S9 := Lib.hid (S8.out.below b8)
          have M9 := Lib.hid (M8.out.blk (obj_below b8 (by omega)))
          have K9 := Lib.hid (K8.out.trans (Keeps.of_below (F := fun n => M4 n ∨ n = m2) b8))
          have HVO := Lib.hid (vote_any w8 M4 Vp b lv4 ps4 S S9.out hok.out 1 x (nameP 0))
          clear b8 S8 M8 K8
          go_wp2_with fail
          refine HVO.out.mono ?_
          rintro e w9 ⟨rfl, V9, s9, g1, g2, k9⟩
          have HP9 : Hid ((voteM S 1 x (nameP 0)).1.pref = p ∧ (voteM S 1 x (nameP 0)).1.conf = q) := Lib.hid (by rw [(voteM_pq S 1 x (nameP 0)).1, (voteM_pq S 1 x (nameP 0)).2]; exact RPQ.out)
          have HR9 : Hid (∃ n V S o Vp, SetW w9 M4 Vp b lv4 ps4 S ∧ OnceI slots V n S o ∧ (S.pref = p ∧ S.conf = q) ∧ MapI w9 m2 boolV V ∧ GotI V slots (i + 1) ∧ (∀ n, Vp n → m2 < n)) := Lib.hid ⟨_, _, _, _, _, s9, OI.out, HP9.out, M9.out.blk (k9.block m2 (by omega) (fun h => by have := PM.out _ h; omega)), GN.out, fun n hn => by
            rcases g2 n hn with h | h
            · exact HNV.out n h
            · omega⟩
          have K10 : Hid (Keeps (fun n => M4 n ∨ n = m2) w6 w9) := Lib.hid (K9.out.trans (k9.mono fun n h => .inl h))
          clear s9 g1 g2 k9 HVO
          go_wp2_with fail
          go_roundw
          case rel => exact ⟨i + 1, by omega, by go_num, HR9, K10⟩
          case measure => simp [intOf]; omega
      · have hvi2 : (i : Int) < vs.length := by omega
        cases hd : isDone S o with
        | true =>
          rw [hd] at HWT
          have HDN := Lib.hid hd
          clear VY DY hd
          go_wp2_with fail
          refine HWT.out.mono ?_
          rintro e w7 ⟨rfl, b7⟩
          have hz7 := b7.size
          have RW := Lib.hid (RW.out.keeps (W := w7) fun g hg => obj_below b7 (RW.out.1.lt g hg).2)
          have MR := Lib.hid (MR.out.blk (obj_below b7 MR.out.lt'))
          have RM := Lib.hid (RM.out.blk (obj_below b7 RM.out.lt'))
          have RS := Lib.hid (RS.out.below b7)
          have BR := Lib.hid (BR.out.trans (b7.mono (by omega)))
          have hzr : w6.heap.size ≤ w7.heap.size := by omega
          obtain ⟨wr, rfl⟩ : ∃ wr : World, wr = w7 := ⟨_, rfl⟩
          clear b7 HK
          have HDO := Lib.hid (doneS_any wr M4 Vp b lv4 ps4 S RS.out RO.out.ok (by rw [RO.out.l]; simp))
          have HDT : Hid (S.l.take (doneN S) = [o]) := Lib.hid (RO.out.done1 HDN.out).2
          go_wp2_with fail
          refine HDO.out.mono ?_
          rintro e w10 ⟨ve, es, lv6, ps6, rfl, o6, s6, e6, k6⟩
          rw [HDT.out] at e6
          obtain ⟨en, rfl⟩ : ∃ en, es = [en] := List.length_eq_one_iff.1 e6.1
          have hie := e6.2 0 en o rfl rfl
          obtain ⟨ea, ec, rfl, g1, g2, g3⟩ := o6.slIn endL_length
          obtain ⟨be, oe, rfl, hbe, hre⟩ := g3 (by simp)
          have hse := hre 0 (by simp)
          have HSE : Hid (subOf (obj w10 be) (oe + 0 * 3) 3 = some (endL en).toArray) := Lib.hid hse
          obtain ⟨eid, eva, evn, evc, esl⟩ := en
          have hi1 := hie.id
          have hi2 := hie.slots
          have hvt := hie.vt.1
          simp only at hi1 hi2
          rw [RO.out.id] at hi1
          rw [RO.out.sl] at hi2
          subst hi1 hi2
          obtain ⟨va', vc', e', u1', u2', u3'⟩ := hvt
          simp only [EndM.v, Value.slice.injEq] at e'
          obtain ⟨rfl, rfl, rfl⟩ := e'
          have HVT : Hid (SlIn w10 (.slice eva o.votes.length evc) 33 vtL o.votes) := Lib.hid ⟨_, _, rfl, u1', u2', u3'⟩
          have h10 := k6.size
          have noM : ∀ g, w4.heap.size ≤ g → ¬ M4 g := fun g hg h => by have := PM.out g h; omega
          have RWx := Lib.hid (RW.out.keeps (W := w10) fun g hg => k6.block g (RW.out.1.lt g hg).2 (noM g (by have := (RW.out.1.lt g hg).1; omega)))
          have MRx := Lib.hid (MR.out.blk (k6.block _ MR.out.lt' (noM _ (Nat.le_refl _))))
          have RMx := Lib.hid (RM.out.blk (k6.block _ RM.out.lt' (noM _ (by omega))))
          have B10 : Hid (Below b w1 w10) := Lib.hid (BR.out.trans (k6.below MM.out (by have := BR.out.size; omega)))
          have f0 : w10.cell? ⟨be, oe, none⟩ = some (.int .i64 1) := by have := subOf_cell HSE.out (j := 0) (by decide); simpa [endL] using this
          have f1 : w10.cell? ⟨be, oe + 1, none⟩ = some (.slice eva o.votes.length evc) := by have := subOf_cell HSE.out (j := 1) (by decide); simpa [endL] using this
          have f2 : w10.cell? ⟨be, oe + 2, none⟩ = some (.int .i64 slots.length) := by have := subOf_cell HSE.out (j := 2) (by decide); simpa [endL] using this
          have F1 := Lib.hid f1
          unfold maxLen at u2'
          have h2pp : ¬ 2 * p ≤ slots.length := by omega
          have HRL : Hid (LeftR o slots 0 o.votes) := Lib.hid (LeftR.start RO.out.one slots)
          have HLE2 := Lib.hid (LeftR.le RO.out.one slots)
          clear o6 s6 e6 k6 g3 hre hse hie u3' HDO RW MR RM RS BR noM
          simp only [List.length_singleton] at g1 g2
          go_wp2_with fail
          go_loopw [25, 26, 28, 29, 174] (fun v25 v26 _ _ v174 wr => ∃ (kk ii : Nat) (all : List Vt), kk ≤ ol ∧ v174 = .int .i64 kk ∧ v26 = .int .i64 ii ∧ ii ≤ kk ∧ Hid (SlIn wr v25 33 vtL all) ∧ Hid (LeftR o slots kk all) ∧ Hid (Below w10.heap.size w10 wr)) (fun _ _ _ _ i _ => ol - (intOf i).toNat)
          case atStart => exact ⟨0, 0, _, Nat.zero_le _, rfl, rfl, Nat.le_refl _, HVT, HRL, Lib.hid (Below.refl _ _)⟩
          case round =>
            obtain ⟨kk, ii, all, hkk, rfl, rfl, hik, HSA, HLR, HBx⟩ := hrel
            have hzx := HBx.out.size
            have RWy := Lib.hid (RWx.out.keeps (W := wr) fun g hg => obj_below HBx.out (RWx.out.1.lt g hg).2)
            have MRx := Lib.hid (MRx.out.blk (obj_below HBx.out MRx.out.lt'))
            have RMx := Lib.hid (RMx.out.blk (obj_below HBx.out RMx.out.lt'))
            have BRx : Hid (Below b w1 wr) := Lib.hid (B10.out.trans (HBx.out.mono (by have := B10.out.size; omega)))
            by_cases hkl : kk < ol
            case neg =>
              have hkk' : ol = kk := by omega
              subst hkk'
              have hR := HLR.out.1
              have hmain := early_main RO.out.ok RO.out.one (by rw [RO.out.sl, RPQ.out.1]; omega) HDN.out hR (HLE2.out _)
              rw [RPQ.out.1, RPQ.out.2] at hmain
              obtain ⟨hm1, hm2⟩ := hmain
              have HM1 := Lib.hid hm1
              have HM2 := Lib.hid hm2
              have HW1 := Lib.hid (winner_any wr (.slice eva o.votes.length evc) o.votes p (HVT.out.below HBx.out))
              have HW2 := fun W (hW : Below wr.heap.size wr W) => winner_any W u25 all p (HSA.out.below hW)
              have HW2 := Lib.hid HW2
              have f1 := (HBx.out.cell (p := ⟨be, oe + 1, none⟩) hbe).trans F1.out
              have hbew : be < wr.heap.size := by omega
              clear hR hm1 hm2 HLR
              generalize winV o.votes p = W1 at *
              generalize winV all p = W2 at *
              obtain ⟨x1, n1⟩ := W1
              obtain ⟨x2, n2⟩ := W2
              have hx : x1 = x2 := HM1.out
              subst hx
              have hq := HM2.out
              simp only at hq
              go_wp2_with fail
              refine HW1.out.mono ?_
              rintro e w12 ⟨rfl, b12⟩
              have B12 := Lib.hid b12
              have hz12 := b12.size
              have oz : obj (w12.alloc (.cells (idL x1).toArray 37)) w12.heap.size = some (.cells (idL x1).toArray 37 (0, 0)) := obj_alloc_at _ _ _ rfl
              have OZ := Lib.hid oz
              have BA : Hid (Below wr.heap.size wr (w12.alloc (.cells (idL x1).toArray 37))) := Lib.hid (B12.out.alloc (by omega) _)
              have hza : (w12.alloc (.cells (idL x1).toArray 37)).heap.size = w12.heap.size + 1 := by simp
              clear b12 oz
              go_wp2_with fail
              generalize w12.alloc (.cells (idL x1).toArray 37) = w13 at *
              refine (HW2.out w13 BA.out).mono ?_
              rintro e w14 ⟨rfl, b14⟩
              have hz14 := b14.size
              have o14 := (obj_below b14 (by omega)).trans OZ.out
              have BB14 : Hid (Below b w1 w14) := Lib.hid (BRx.out.trans ((BA.out.trans (b14.mono (by omega))).mono (by have := BRx.out.size; omega)))
              clear b14 HW2 HW1
              have oz1 : obj (w14.alloc (.cells (idL x1).toArray 37)) w14.heap.size = some (.cells (idL x1).toArray 37 (0, 0)) := obj_alloc_at _ _ _ rfl
              have oz2 : obj (w14.alloc (.cells (idL x1).toArray 37)) w12.heap.size = some (.cells (idL x1).toArray 37 (0, 0)) := (obj_alloc_past _ _ _ (by omega)).trans o14
              have p1 : subOf (obj (w14.alloc (.cells (idL x1).toArray 37)) w14.heap.size) 0 32 = some (idL x1).toArray := by rw [oz1, subOf_cells (by simp), subA_all (by simp)]
              have p2 : subOf (obj (w14.alloc (.cells (idL x1).toArray 37)) w12.heap.size) 0 32 = some (idL x1).toArray := by rw [oz2, subOf_cells (by simp), subA_all (by simp)]
              have BC : Hid (Below b w1 (w14.alloc (.cells (idL x1).toArray 37))) := Lib.hid (BB14.out.alloc (by have := BB14.out.size; omega) _)
              clear oz1 oz2 o14
              by_cases hq1 : q ≤ n1
              · have hq2 : q ≤ n2 := by
                  rw [decide_eq_true hq1] at hq
                  exact of_decide_eq_true hq.symm
                go_wp2_with fail
                go_ret
                exact ⟨rfl, B1.out.trans (BC.out.mono hz1)⟩
              · have hq2 : ¬ q ≤ n2 := by
                  rw [decide_eq_false hq1] at hq
                  exact of_decide_eq_false hq.symm
                go_wp2_with fail
                go_ret
                exact ⟨rfl, B1.out.trans (BC.out.mono hz1)⟩
            have hlo2 : kk < (ordW slots).length := by have := HOE.out; omega
            obtain ⟨gs, hgs, hgb2, hgl2, cx2⟩ := own_int RWy.out hlo2
            cases hgs
            have hlk := run_voted RMx.out (ordW slots)[kk]
            have hw := RO.out.w (ordW slots)[kk]
            have hmany : (aGet (ordW slots)[kk] (countW [] slots)).getD 0 = cntI (ordW slots)[kk] slots := by rw [get_count]; simp [aGet]
            have hc0 := cntI_nn (ordW slots)[kk] slots
            have hc1 := cntI_le (ordW slots)[kk] slots
            cases hvb : votedB V (ordW slots)[kk] with
            | true =>
              rw [hvb] at hlk
              clear hw hmany hvb
              generalize (ordW slots)[kk] = y at *
              go_wp2_with fail
              go_roundw
              case rel => exact ⟨kk + 1, ii, all, by omega, by go_num, rfl, by omega, HSA, Lib.hid (HLR.out.skip RO.out.one hlo2), HBx⟩
              case measure => simp [intOf]; omega
            | false =>
              rw [hvb] at hlk
              rw [hvb, if_neg (by simp)] at hw
              obtain ⟨m, hm⟩ : ∃ m, m = cntI (ordW slots)[kk] slots := ⟨_, rfl⟩
              have HWM : Hid (waitsOf o (ordW slots)[kk] = m) := Lib.hid (by rw [hw, hm])
              have HMV : Hid ((aGet (ordW slots)[kk] (countW [] slots)).getD 0 = m) := Lib.hid (by rw [hmany, hm])
              have hm0 : 0 ≤ m := by omega
              have hm1 : m ≤ 1048576 := by omega
              obtain ⟨y, hy⟩ : ∃ y, y = (ordW slots)[kk] := ⟨_, rfl⟩
              have HYE := Lib.hid hy
              rw [← hy] at hlk HMV cx2
              clear hw hmany hvb hc0 hc1 hm hy
              obtain ⟨kr, hkb0, hkb1, hkb2⟩ : ∃ kb : Int, 0 ≤ kb ∧ kb ≤ 255 ∧ Hid ((rs.length ≤ ii ∧ kb = 0) ∨ (∃ bv ov, ra = some ⟨bv, ov, none⟩ ∧ bv < wr.heap.size ∧ ii < rs.length ∧ wr.cell? ⟨bv, ov + ii, none⟩ = some (.int .u8 kb))) := by
                by_cases hvi : ii < rs.length
                · have HVR := RL1.out.below (W := wr) (by rw [hb]; exact BRx.out)
                  obtain ⟨va', vc', es', _, _, h3⟩ := HVR
                  simp only [Value.slice.injEq] at es'
                  obtain ⟨rfl, _, rfl⟩ := es'
                  obtain ⟨bv, ov, rfl, hbv, hrow⟩ := h3 (by omega)
                  have hs1 := hrow ii hvi
                  have h5 := HRB.out rs[ii] (List.getElem_mem hvi)
                  refine ⟨rs[ii], h5.1, h5.2, Lib.hid (.inr ⟨bv, ov, rfl, hbv, hvi, ?_⟩)⟩
                  have := subOf_cell hs1 (j := 0) (by decide)
                  simpa [byteL] using this
                · exact ⟨0, by omega, by omega, Lib.hid (.inl ⟨by omega, rfl⟩)⟩
              have hk7 : kr.tmod 6 = kr % 6 := Int.tmod_eq_emod_of_nonneg hkb0
              have hk7' : IntKind.u8.wrap (kr % 6) = kr % 6 := by simp [IntKind.wrap, IntKind.signed, IntKind.bits]; omega
              have hwi : IntKind.i64.wrap ((ii : Int) + 1) = (ii : Int) + 1 := by simp [IntKind.wrap, IntKind.signed, IntKind.bits]; omega
              rcases hkb2.out with ⟨hri, rfl⟩ | ⟨bv2, ov2, rfl, hbv2, hri, cv2⟩
              · have hri2 : ¬ (ii : Int) < rs.length := by omega
                have HNA := fun W => Lib.hid (name_any W 0 hkb0 hkb1)
                have HLK : Hid (∀ y' : Later wr, (Instr.lookup 31 (.map (some w4.heap.size)) (.int .i64 y) false).run Try.prog y'.w = .ok (.int .i64 m) y'.w) := Lib.hid (fun y' => by
                  have := run_many (MRx.out.blk (obj_below y'.h MRx.out.lt')) y
                  rw [HMV.out] at this
                  exact this)
                have HLKK := HLK.out
                go_wp2_with fail
                refine wp_region_later_tail wr (Below.refl _ _) 6 (by kernel_rfl) (by kernel_rfl) ?_
                simp only [List.take_succ_cons, List.take_zero, List.drop_succ_cons, List.drop_zero]
                repeat (go_big_quiet_step (first | (go_at_call 15; with_reducible exact Calls.later (HNA _).out)))
                refine wpQuiet_nil ?_
                intro _ hxx
                obtain ⟨⟨w11, b11⟩, hxx⟩ := hxx
                subst hxx
                rename_i w11
                have hz11 := b11.size
                have HWI := Lib.hid (with_any w11 u25 all (nameP 0) m (HSA.out.below b11) HLR.out.1.nn (by have := HLR.out.1.sum; have := LeftR.le RO.out.one slots kk; have := RO.out.one.tot; have := RO.out.sl; omega) hm0 hm1 HLR.out.1.len)
                have HB11 : Hid (Below w10.heap.size w10 w11) := Lib.hid (HBx.out.trans (b11.mono (by omega)))
                have HLW := Lib.hid (HLR.out.with RO.out.one hlo2 h64 (nameP 0))
                rw [HWM.out] at HLW
                clear b11
                go_wp2_with fail
                refine HWI.out.mono ?_
                rintro e w12 ⟨v12, rfl, o12, b12⟩
                have HSA2 := Lib.hid (o12.slIn vtL_length)
                have HB12 : Hid (Below w10.heap.size w10 w12) := Lib.hid (HB11.out.trans (b12.mono (by have := HB11.out.size; omega)))
                obtain ⟨xa, xc, e12⟩ := o12.slice
                clear o12 b12 HWI
                generalize List.length _ = xn at e12
                subst e12
                go_wp2_with fail
                go_roundw
                case rel => exact ⟨kk + 1, ii + 1, _, by omega, by go_num, by go_num, by omega, HSA2, HLW, HB12⟩
                case measure => simp [intOf]; omega
              · have hri2 : (ii : Int) < rs.length := by omega
                by_cases h67 : kr % 6 = 5
                · go_wp2_with fail
                  go_roundw
                  case rel => exact ⟨kk + 1, ii + 1, all, by omega, by go_num, by go_num, by omega, HSA, Lib.hid (HLR.out.skip RO.out.one hlo2), HBx⟩
                  case measure => simp [intOf]; omega
                · have HNA := fun W => Lib.hid (name_any W kr hkb0 hkb1)
                  have HLK : Hid (∀ y' : Later wr, (Instr.lookup 31 (.map (some w4.heap.size)) (.int .i64 y) false).run Try.prog y'.w = .ok (.int .i64 m) y'.w) := Lib.hid (fun y' => by
                    have := run_many (MRx.out.blk (obj_below y'.h MRx.out.lt')) y
                    rw [HMV.out] at this
                    exact this)
                  have HLKK := HLK.out
                  go_wp2_with fail
                  refine wp_region_later_tail wr (Below.refl _ _) 6 (by kernel_rfl) (by kernel_rfl) ?_
                  simp only [List.take_succ_cons, List.take_zero, List.drop_succ_cons, List.drop_zero]
                  repeat (go_big_quiet_step (first | (go_at_call 15; with_reducible exact Calls.later (HNA _).out)))
                  refine wpQuiet_nil ?_
                  intro _ hxx
                  obtain ⟨⟨w11, b11⟩, hxx⟩ := hxx
                  subst hxx
                  rename_i w11
                  have hz11 := b11.size
                  have HWI := Lib.hid (with_any w11 u25 all (nameP kr) m (HSA.out.below b11) HLR.out.1.nn (by have := HLR.out.1.sum; have := LeftR.le RO.out.one slots kk; have := RO.out.one.tot; have := RO.out.sl; omega) hm0 hm1 HLR.out.1.len)
                  have HB11 : Hid (Below w10.heap.size w10 w11) := Lib.hid (HBx.out.trans (b11.mono (by omega)))
                  have HLW := Lib.hid (HLR.out.with RO.out.one hlo2 h64 (nameP kr))
                  rw [HWM.out] at HLW
                  clear b11
                  go_wp2_with fail
                  refine HWI.out.mono ?_
                  rintro e w12 ⟨v12, rfl, o12, b12⟩
                  have HSA2 := Lib.hid (o12.slIn vtL_length)
                  have HB12 : Hid (Below w10.heap.size w10 w12) := Lib.hid (HB11.out.trans (b12.mono (by have := HB11.out.size; omega)))
                  obtain ⟨xa, xc, e12⟩ := o12.slice
                  clear o12 b12 HWI
                  generalize List.length _ = xn at e12
                  subst e12
                  go_wp2_with fail
                  go_roundw
                  case rel => exact ⟨kk + 1, ii + 1, _, by omega, by go_num, by go_num, by omega, HSA2, HLW, HB12⟩
                  case measure => simp [intOf]; omega
        | false =>
          rw [hd] at HWT
          obtain ⟨es, clk, hm, hrep⟩ := RM.out
          obtain ⟨es', clk', hup, hrep'⟩ := run_mapUpdate_int (enc := boolV) (P := Try.prog) (clk := clk) Try.underlying32 Try.underlying3 hrep m2 x true
          have HUP := Lib.hid hup
          have HRP := Lib.hid hrep'
          have HMO := Lib.hid hm
          clear hm hrep hup hrep'
          go_wp2_with fail
          refine HWT.out.mono ?_
          rintro e w7 ⟨rfl, b7⟩
          have hz7 := b7.size
          have hm7 := (obj_below b7 (lt_of_obj HMO.out)).trans HMO.out
          have hmz := lt_of_obj hm7
          have hup7 : (Instr.mapUpdate 32 (.map (some m2)) (.int .i64 x) (.bool true)).run Try.prog w7 = .ok () (putObj w7 m2 (.map es' clk')) := HUP.out w7 hm7
          have S8 : Hid (SetW (putObj w7 m2 (.map es' clk')) M4 Vp b lv4 ps4 S) := Lib.hid ((RS.out.below b7).frame (by simp) fun n _ hn => obj_putObj_ne _ _ _ _ (by rintro rfl; rcases hn with h | h; (have := PM.out _ h; omega); (have := HNV.out _ h; omega)))
          have M8 : Hid (MapI (putObj w7 m2 (.map es' clk')) m2 boolV (aPut x true V)) := Lib.hid ⟨es', clk', obj_putObj_eq _ _ _ hmz, HRP.out⟩
          have K8 : Hid (Keeps (fun n => M4 n ∨ n = m2) w6 (putObj w7 m2 (.map es' clk'))) := Lib.hid ((HK.out.trans (Keeps.of_below b7)).putObj (.inr rfl) _)
          have hz8 : (putObj w7 m2 (.map es' clk')).heap.size = w7.heap.size := by simp
          by_cases h65 : kb % 6 = 5
          · have HDR := Lib.hid (drop_any _ M4 Vp b lv4 ps4 S S8.out hok.out 1 x)
            obtain ⟨n', o', hI⟩ := (DY hd).out
            have OI := Lib.hid hI
            clear b7 hI VY DY hd HUP
            go_wp2_with fail
            refine HDR.out.mono ?_
            rintro e w9 ⟨rfl, V9, s9, g1, g2, k9⟩
            have HP9 : Hid ((dropM S 1 x).1.pref = p ∧ (dropM S 1 x).1.conf = q) := Lib.hid (by rw [(dropM_pq S 1 x).1, (dropM_pq S 1 x).2]; exact RPQ.out)
            have HR9 : Hid (∃ n V S o Vp, SetW w9 M4 Vp b lv4 ps4 S ∧ OnceI slots V n S o ∧ (S.pref = p ∧ S.conf = q) ∧ MapI w9 m2 boolV V ∧ GotI V slots (i + 1) ∧ (∀ n, Vp n → m2 < n)) := Lib.hid ⟨_, _, _, _, _, s9, OI.out, HP9.out, M8.out.blk (k9.block m2 (by omega) (fun h => by have := PM.out _ h; omega)), GN.out, fun n hn => by
              rcases g2 n hn with h | h
              · exact HNV.out n h
              · omega⟩
            have K9 : Hid (Keeps (fun n => M4 n ∨ n = m2) w6 w9) := Lib.hid (K8.out.trans (k9.mono fun n h => .inl h))
            clear s9 g1 g2 k9
            go_wp2_with fail
            go_roundw
            case rel => exact ⟨i + 1, by omega, by go_num, HR9, K9⟩
            case measure => simp [intOf]; omega
          · have HNA := fun W => Lib.hid (name_any W kb hkb0 hkb1)
            obtain ⟨n', o', hI⟩ := (VY hd (nameP kb)).out
            have OI := Lib.hid hI
            clear b7 hI VY DY hd HUP
            go_wp2_with fail
            refine (HNA _).out.mono ?_
            rintro e w8 ⟨rfl, b8⟩
            have hzb := b8.size
            have S9 := Lib.hid (S8.out.below b8)
            have M9 := Lib.hid (M8.out.blk (obj_below b8 (by omega)))
            have K9 := Lib.hid (K8.out.trans (Keeps.of_below (F := fun n => M4 n ∨ n = m2) b8))
            have HVO := Lib.hid (vote_any w8 M4 Vp b lv4 ps4 S S9.out hok.out 1 x (nameP kb))
            clear b8 S8 M8 K8
            go_wp2_with fail
            refine HVO.out.mono ?_
            rintro e w9 ⟨rfl, V9, s9, g1, g2, k9⟩
            have HP9 : Hid ((voteM S 1 x (nameP kb)).1.pref = p ∧ (voteM S 1 x (nameP kb)).1.conf = q) := Lib.hid (by rw [(voteM_pq S 1 x (nameP kb)).1, (voteM_pq S 1 x (nameP kb)).2]; exact RPQ.out)
            have HR9 : Hid (∃ n V S o Vp, SetW w9 M4 Vp b lv4 ps4 S ∧ OnceI slots V n S o ∧ (S.pref = p ∧ S.conf = q) ∧ MapI w9 m2 boolV V ∧ GotI V slots (i + 1) ∧ (∀ n, Vp n → m2 < n)) := Lib.hid ⟨_, _, _, _, _, s9, OI.out, HP9.out, M9.out.blk (k9.block m2 (by omega) (fun h => by have := PM.out _ h; omega)), GN.out, fun n hn => by
              rcases g2 n hn with h | h
              · exact HNV.out n h
              · omega⟩
            have K10 : Hid (Keeps (fun n => M4 n ∨ n = m2) w6 w9) := Lib.hid (K9.out.trans (k9.mono fun n h => .inl h))
            clear s9 g1 g2 k9 HVO
            go_wp2_with fail
            go_roundw
            case rel => exact ⟨i + 1, by omega, by go_num, HR9, K10⟩
            case measure => simp [intOf]; omega
end Go.Proofs.Ytfejhekoijemdaa
