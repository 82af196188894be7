import Derived.Test.YtmenfbfekfljbaaRange
import Derived.Test.YtmenfbfekfljbaaFact
namespace Go.Proofs.Ytmenfbfekfljbaa
open Go.RowKit Go.Shelf
attribute [local go_sem] Oper.semAt_some

theorem eg66 : ∀ args w, (callFunc 66 args).run Try.prog w = .ok (.enter 66 args) w := enters_of Try.func66 (by kernel_rfl) rfl
set_option maxRecDepth 100000 in
theorem mkBack (w : World) (oa : Option Addr) (len cap : Nat) : Calls Try.prog 52 #[.slice oa len cap] w fun e w' => e = .returned (.func (.func 66) #[] #[.pointer (some ⟨w.heap.size, 0, none⟩)]) ∧ w' = w.alloc (.cells #[.slice oa len cap] 22) := by
  have hmf : ∀ (fn : Fn) (first cap : Array Value) (w : World), (Instr.makeFunc fn first cap).run Try.prog w = .ok (.func fn first cap) w := fun _ _ _ _ => rfl
  go_enter Try.func52, Try.ntmps52
  go_wp2
  go_ret
  exact ⟨rfl, rfl⟩
/-- a row from its end, with the places -/
def backL (xs : List FactD) : List (Nat × FactD) := (List.range xs.length).map fun k => (xs.length - 1 - k, xs.getD (xs.length - 1 - k) FactD.zero)
theorem backL_len (xs : List FactD) : (backL xs).length = xs.length := by simp [backL]
theorem backL_get (xs : List FactD) (k : Nat) (h : k < (backL xs).length) (h' : xs.length - 1 - k < xs.length) : (backL xs)[k] = (xs.length - 1 - k, xs[xs.length - 1 - k]) := by
  unfold backL
  simp [h']
def bkV (p : Nat × FactD) : Array Value := #[.int .i64 (p.1 : Int), .agg (factL p.2).toArray]
/-- a slice in a box, both among the blocks D; of an empty one nothing is asked -/
structure ValZ {α : Type} (T k : Nat) (enc : α → List Value) (D : Nat → Prop) (w : World) (Bs : Nat) (v : Value) (xs : List α) : Prop where
  box : obj w Bs = some (.cells #[v] T (0, 0))
  sl : SlIn w v k enc xs
  db : D Bs
  dv : ∀ a l c, 0 < xs.length → v = .slice (some a) l c → D a.block
theorem ValZ.agree {α : Type} {T k : Nat} {enc : α → List Value} {D : Nat → Prop} {w W : World} {Bs : Nat} {v : Value} {xs : List α} (h : ValZ T k enc D w Bs v xs) (hb : Agree D w W) : ValZ T k enc D W Bs v xs := by
  refine ⟨(hb.block _ h.db).trans h.box, ?_, h.db, h.dv⟩
  obtain ⟨oa, cap, h1, h2, h3, h4⟩ := h.sl
  refine ⟨oa, cap, h1, h2, h3, fun hl => ?_⟩
  obtain ⟨b, off, e, hb1, hr⟩ := h4 hl
  exact ⟨b, off, e, Nat.lt_of_lt_of_le hb1 hb.size, hr.of_obj (hb.block _ (h.dv ⟨b, off, none⟩ xs.length cap hl (by rw [h1, e])))⟩
set_option maxRecDepth 100000 in
set_option maxHeartbeats 2000000 in
/-- slices.Backward's iterator: the slice's box lies at Bs -/
theorem back_seq (n : Nat) (hn : 1 ≤ n) {D : Nat → Prop} {w0 : World} (hD : ∀ k, D k → k < w0.heap.size) {Bs : Nat} {v : Value} {xs : List FactD} (hV : ValZ 22 72 factL D w0 Bs v xs) : SeqG Fence.wide n Try.prog 66 #[.pointer (some ⟨Bs, 0, none⟩)] bkV (backL xs) D w0 := by
  intro l J Jx W G0 hb hJo hJ hJx hY h0
  refine callsIn_of_wp Try.func66 rfl trivial ?_ rfl
  simp only [Try.ntmps66, List.size_toArray, List.length_cons, List.length_nil, Nat.reduceAdd, Nat.reduceSub, Array.replicate_succ, Array.replicate_zero, List.push_toArray, List.append_toArray, List.nil_append, List.cons_append]
  have hVW := hV.agree hb
  have c0 : W.cell? ⟨Bs, 0, none⟩ = some v := cell_at hVW.box 0
  obtain ⟨oa, cap, rfl, q1, q2, q3⟩ := hVW.sl
  unfold maxLen at q2
  have hG0 := Lib.hid (hJo _ _ _ h0)
  have HJO := Lib.hid hJo
  have HJ := Lib.hid hJ
  have HY := Lib.hid hY
  have HV := Lib.hid hV
  have HB := Lib.hid hb
  have H0 := Lib.hid h0
  have HLB := Lib.hid (backL_len xs)
  have hw1 : IntKind.i64.wrap ((xs.length : Int) - 1) = (xs.length : Int) - 1 := by simp [IntKind.wrap, IntKind.signed, IntKind.bits]; omega
  clear q3 hVW hV hJo hJ hJx hY h0 hb
  gi_wp2
  gi_loopw [3] (fun v3 wr => ∃ k : Nat, k ≤ xs.length ∧ v3 = .int .i64 ((xs.length : Int) - 1 - k) ∧ Hid (∃ G, J ((backL xs).take k) G wr ∧ Keeps G0 W wr ∧ GrowsG W G0 G)) (fun i _ => (intOf i + 1).toNat)
  case atStart => exact ⟨0, Nat.zero_le _, by simp, Lib.hid ⟨G0, H0.out, Keeps.refl _ _, GrowsG.refl _ _⟩⟩
  case round =>
    obtain ⟨k, hk, rfl, HK⟩ := hrel
    obtain ⟨G, hJk, hkp, hgr⟩ := HK.out
    have hbr := HB.out.keeps hD (fun k hk => (hG0.out k hk).1) hkp
    have hVr := HV.out.agree hbr
    by_cases hlt : k < xs.length
    · obtain ⟨oa', cap', e', _, _, q3'⟩ := hVr.sl
      simp only [Value.slice.injEq] at e'
      obtain ⟨rfl, _, rfl⟩ := e'
      obtain ⟨b, off, hoa, hbb, hrow⟩ := q3' (by omega)
      subst hoa
      have hkb : k < (backL xs).length := by rw [HLB.out]; exact hlt
      have hgt := backL_get xs k hkb (by omega)
      obtain ⟨i, hi⟩ : ∃ i : Nat, i = xs.length - 1 - k := ⟨_, rfl⟩
      have hil : i < xs.length := by omega
      have hie : (xs.length : Int) - 1 - k = (i : Int) := by omega
      have hs1 := hrow i hil
      have hmulk : off + i * 72 + 72 ≤ off + i * 72 + 72 := Nat.le_refl _
      have c1 : wr.cell? ⟨Bs, 0, none⟩ = some (.slice (some ⟨b, off, none⟩) xs.length cap) := cell_at hVr.box 0
      have hBs := lt_of_obj hVr.box
      have HTS : Hid ((backL xs).take (k + 1) = (backL xs).take k ++ [(i, xs[i])]) := Lib.hid (by subst hi; rw [take_snocA hkb, hgt])
      have HPX : Hid ((backL xs).take k ++ [(i, xs[i])] <+: backL xs) := Lib.hid (by rw [← HTS.out]; exact List.take_prefix _ _)
      clear hgt
      rw [hie]
      have HIE := Lib.hid hie
      clear hie hi
      generalize xs[i] = x at *
      obtain ⟨fn, tmps, assign, body, hy, hR⟩ := HY.out _ G (i, x) _ hJk HPX.out
      simp only [bkV] at hy
      have HRR := Lib.hid hR
      have HKP := Lib.hid hkp
      have HGR := Lib.hid hgr
      have hzw : W.heap.size ≤ wr.heap.size := hkp.size
      have HJO2 := Lib.hid (HJO.out _ _ _ hJk)
      have hw2 : IntKind.i64.wrap ((i : Int) - 1) = (i : Int) - 1 := by simp [IntKind.wrap, IntKind.signed, IntKind.bits]; omega
      have hi0 : decide ((0 : Int) ≤ (i : Int)) = true := by simp
      clear hrow hJk hkp hgr hbr hVr q3' hR c0
      gi_wp2
      refine HRR.out.mono ?_
      rintro e W3 ⟨G', t, rfl, hW3, hk3, hg3⟩
      have HG3 := Lib.hid hg3
      have HK3 := Lib.hid hk3
      have H3 := Lib.hid hW3
      clear hg3 hk3 hW3 HRR hy
      have fin : Hid (Keeps G0 W W3 ∧ GrowsG W G0 G') := Lib.hid (by
        have hs3 := HK3.out.size
        have hk0 := HKP.out
        have hk3 := HK3.out
        refine ⟨?_, fun k hk => ?_⟩
        · refine ⟨hk3.os.trans hk0.os, hk3.tape.trans hk0.tape, hk3.output.trans hk0.output, Nat.le_trans hk0.size (by omega), fun j hj hg => ?_⟩
          refine (hk3.block j (by omega) (fun h => ?_)).trans (hk0.block j hj hg)
          rcases HGR.out j h with h | h
          · exact hg h
          · omega
        · rcases HG3.out k hk with h | h
          · exact HGR.out k h
          · exact .inr (by omega))
      cases t
      · gi_wp2
        go_end0
        refine ⟨⟨_, rfl⟩, G', .inr ⟨_, HPX.out, ?_⟩, fin.out.1, fin.out.2⟩
        rcases H3.out with ⟨h, _⟩ | ⟨_, h⟩
        · cases h
        · exact h
      · have HJ3 : Hid (J ((backL xs).take (k + 1)) G' W3) := Lib.hid (by
          rw [HTS.out]
          rcases H3.out with ⟨_, h⟩ | ⟨h, _⟩
          · exact h
          · cases h)
        gi_wp2
        go_roundw
        case rel => exact ⟨k + 1, by omega, by have := HIE.out; congr 1 <;> omega, Lib.hid ⟨G', HJ3.out, fin.out.1, fin.out.2⟩⟩
        case measure => simp [intOf] <;> omega
    · have hk' : k = xs.length := by omega
      have hj2 : (backL xs).take k = backL xs := List.take_of_length_le (by rw [HLB.out]; omega)
      rw [hj2] at hJk
      have HJ4 := Lib.hid hJk
      have HKP := Lib.hid hkp
      have HGR := Lib.hid hgr
      have hneg : decide ((0 : Int) ≤ (xs.length : Int) - 1 - k) = false := decide_eq_false (by omega)
      clear hJk hkp hgr hbr hVr
      gi_wp2
      go_end0
      exact ⟨⟨_, rfl⟩, G, .inl HJ4.out, HKP.out, HGR.out⟩
end Go.Proofs.Ytmenfbfekfljbaa
