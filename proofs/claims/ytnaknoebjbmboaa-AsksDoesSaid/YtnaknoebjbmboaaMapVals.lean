import Derived.Test.YtnaknoebjbmboaaRow
import Derived.Test.YtnaknoebjbmboaaRangeP
import Derived.Test.YtnaknoebjbmboaaMapIn
namespace Go.Proofs.Ytnaknoebjbmboaa
open Go.RowKit Go.Shelf
attribute [local go_sem] Oper.semAt_some

@[reducible] def ekI (n : Int) : Value := .int .i64 n
theorem cons_erase {α : Type} : ∀ (l : List α) (i : Nat) (hi : i < l.length), (l[i] :: l.eraseIdx i).Perm l := by
  intro l
  induction l with
  | nil => intro i hi; exact absurd hi (Nat.not_lt_zero _)
  | cons a l ih =>
    intro i hi
    cases i with
    | zero => exact List.Perm.refl _
    | succ i =>
      have := ih i (by simpa using hi)
      simp only [List.getElem_cons_succ, List.eraseIdx_cons_succ]
      exact (List.Perm.swap _ _ _).trans (this.cons a)
/-- what a range has still to come -/
def leftN (w : World) (r m : Nat) : Nat :=
  match obj w m, obj w r with
  | some (.map es _), some (.mapIter _ _ seen _) => (leftOf es seen).size
  | _, _ => 0
theorem RngB.left {α ν : Type} {ek : α → Value} {enc : ν → Value} {w : World} {r m : Nat} {L todo : List (α × ν)} (h : RngB w r m ek enc L todo) : leftN w r m = todo.length := by
  obtain ⟨es, clk, since, seen, c0, h1, _, _, _, _, _, h6, h7⟩ := h
  unfold leftN
  rw [h1, h6]
  simpa using h7.length
/-- lists that a range over a map may hand over, as far as it has come -/
def SomeOf (L : List (Int × AskD)) (ys : List AskD) : Prop := ∃ rest, (ys ++ rest).Perm (L.map (·.2))
set_option maxRecDepth 100000 in
set_option maxHeartbeats 2000000 in
/-- maps.Values's iterator: the map's box lies at Bs -/
theorem mapvals_seq (n : Nat) (hn : 1 ≤ n) {D : Nat → Prop} {w0 : World} (hD : ∀ k, D k → k < w0.heap.size) {Bs m : Nat} {L : List (Int × AskD)} (hbox : obj w0 Bs = some (.cells #[.map (some m)] 43 (0, 0))) (hdB : D Bs) (hdm : D m) (hM : MapB w0 m ekI akV L) :
    SeqP Fence.wide n Try.prog 40 #[.pointer (some ⟨Bs, 0, none⟩)] (fun x : AskD => #[akV x]) (SomeOf L) (fun ys => ys.Perm (L.map (·.2))) D w0 := by
  intro l J Jx W G0 hb hJo hJ hJx hY h0
  refine callsIn_of_wp Try.func40 rfl trivial ?_ rfl
  simp only [Try.ntmps40, List.size_toArray, List.length_cons, List.length_nil, Nat.reduceAdd, Nat.reduceSub, Array.replicate_succ, Array.replicate_zero, List.push_toArray, List.append_toArray, List.nil_append, List.cons_append]
  have oW := (hb.block _ hdB).trans hbox
  have c0 : W.cell? ⟨Bs, 0, none⟩ = some (.map (some m)) := cell_at oW 0
  have hMW : MapB W m ekI akV L := hM.of_obj (hb.block _ hdm)
  have hG0 := Lib.hid (hJo _ _ _ h0)
  have HJO := Lib.hid hJo
  have HJ := Lib.hid hJ
  have HY := Lib.hid hY
  have HB := Lib.hid hb
  have H0 := Lib.hid h0
  have HMW := Lib.hid hMW
  have hbz := lt_of_obj oW
  have hDB := Lib.hid (And.intro hdB hdm)
  have hmz := hMW.lt
  clear hM hMW hJo hJ hJx hY h0 hb hbox oW hdB hdm
  gi_wp2_with (refine wpListIn_rangeB (t := 43) (kt := 2) (et := 32) rfl _ rfl Try.underlying43 rfl HMW.out ?_; intro w1 hr1 hw1)
  have hb1 : Below W.heap.size W w1 ∧ w1.heap.size = W.heap.size + 1 := by
    obtain ⟨s, c0, rfl⟩ := hw1
    exact ⟨(Below.refl _ W).alloc (Nat.le_refl _) _, by simp⟩
  obtain ⟨hb1, hz1⟩ := hb1
  generalize hr : W.heap.size = r at *
  have HR1 := Lib.hid hr1
  have HJ1 := HJ.out _ _ _ _ H0.out (Keeps.of_below (by rw [hr]; exact hb1))
  have HJ1' := Lib.hid HJ1
  have HB1 := Lib.hid hb1
  have HRE := Lib.hid hr
  clear hr1 hb1 hw1 HJ1
  try simp only [Act.put, List.setIfInBounds_toArray, List.set_cons_zero, List.set_cons_succ]
  gi_loopw [4] (fun _ wr => ∃ (ys : List AskD) (todo : List (Int × AskD)), Hid (∃ G, J ys G wr ∧ Keeps G0 W wr ∧ GrowsG W G0 G ∧ ¬ G r) ∧ Hid (RngB wr r m ekI akV L todo) ∧ r < wr.heap.size ∧ Hid ((ys ++ todo.map (·.2)).Perm (L.map (·.2)))) (fun _ wr => leftN wr r m)
  case atStart => exact ⟨[], L, Lib.hid ⟨G0, HJ1'.out, Keeps.of_below (by rw [HRE.out]; exact HB1.out), GrowsG.refl _ _, fun h => by have := (hG0.out _ h).2; have := HRE.out; omega⟩, HR1, by omega, Lib.hid (List.Perm.refl _)⟩
  case round =>
    obtain ⟨ys, todo, HG, HR, hzr, HP⟩ := hrel
    by_cases h0 : todo = []
    · subst h0
      have hfin := HP.out
      rw [List.map_nil, List.append_nil] at hfin
      have HF := Lib.hid hfin
      clear hfin
      gi_wp2_with (refine wpListIn_nextB rfl _ rfl rfl HR.out (fun _ => ?_) (fun i hi => absurd hi (by simp)))
      go_end0
      obtain ⟨G, g1, g2, g3, _⟩ := HG.out
      exact ⟨⟨_, rfl⟩, G, .inl ⟨ys, HF.out, g1⟩, g2, g3⟩
    · have hLM := HR.out.left
      have HT := Lib.hid h0
      obtain ⟨G, g1, g2, g3, g4⟩ := HG.out
      have HJG := Lib.hid g1
      have HKP := Lib.hid g2
      have HGR := Lib.hid g3
      have hzw : W.heap.size ≤ wr.heap.size := g2.size
      have HE := Lib.hid (fun (i : Nat) (hi : i < todo.length) => cons_erase todo i hi)
      have HNR := Lib.hid g4
      have HRL := Lib.hid hLM
      clear h0 g1 g2 g3 g4 hLM
      gi_wp2_with (refine wpListIn_nextB rfl _ rfl rfl HR.out (fun h => absurd h HT.out) (fun i hi w2 hrg hk2 hz2 hen => ?_))
      have hpm := HE.out i hi
      have HRG := Lib.hid hrg
      have HLT := Lib.hid (show (todo.eraseIdx i).length < todo.length by rw [List.length_eraseIdx_of_lt hi]; omega)
      clear hrg hen
      generalize todo.eraseIdx i = rest at *
      generalize todo[i] = kv at *
      obtain ⟨kk, x⟩ := kv
      have HPN : Hid ((ys ++ [x] ++ rest.map (·.2)).Perm (L.map (·.2))) := Lib.hid (by
        refine List.Perm.trans ?_ HP.out
        rw [List.append_assoc]
        exact (hpm.map (·.2)).append_left ys)
      have HPX : Hid (SomeOf L (ys ++ [x])) := Lib.hid ⟨_, HPN.out⟩
      have ba : Below w2.heap.size w2 (w2.alloc (.cells #[.int .i64 x.id, .int .i64 x.node, .int .i64 x.kind] 32)) := (Below.refl _ w2).alloc (Nat.le_refl _) _
      have hJ2 : J ys G w2 := HJ.out ys G wr w2 HJG.out (hk2.mono (fun k hk => ⟨by have := HRE.out; omega, by rw [hk]; exact HNR.out⟩))
      have hJa : J ys G (w2.alloc (.cells #[.int .i64 x.id, .int .i64 x.node, .int .i64 x.kind] 32)) := HJ.out ys G w2 _ hJ2 (Keeps.of_below ba)
      have HOG := Lib.hid (HJO.out _ _ _ hJ2)
      obtain ⟨fn, tmps, assign, body, hy, hR⟩ := HY.out ys G x _ hJa HPX.out
      simp only [akV] at hy
      have HRR := Lib.hid hR
      have HK2 := Lib.hid hk2
      have hz3 : r < w2.heap.size := by omega
      clear hpm hJ2 hJa hR ba hk2
      gi_wp2
      refine HRR.out.mono ?_
      rintro e W3 ⟨G', t, rfl, hW3, hk3, hg3⟩
      have HG3 := Lib.hid hg3
      have HK3 := Lib.hid hk3
      have H3 := Lib.hid hW3
      clear hg3 hk3 hW3 HRR hy
      have fin : Hid (Keeps G0 W W3 ∧ GrowsG W G0 G' ∧ ¬ G' r ∧ r < W3.heap.size) := Lib.hid (by
        have hs3 : w2.heap.size + 1 ≤ W3.heap.size := by have := HK3.out.size; simpa using this
        have hk0 := HKP.out
        have hk3 := HK3.out
        have hkk := HK2.out
        have hre := HRE.out
        refine ⟨⟨hk3.os.trans (hkk.os.trans hk0.os), hk3.tape.trans (hkk.tape.trans hk0.tape), hk3.output.trans (hkk.output.trans hk0.output), by omega, fun j hj hg => ?_⟩, fun k hk => ?_, fun hg => ?_, by omega⟩
        · refine (hk3.block j (by simp; omega) (fun h => ?_)).trans ((obj_alloc_past _ _ _ (by omega)).trans ((hkk.block j (by omega) (by omega)).trans (hk0.block j hj hg)))
          rcases HGR.out j h with h | h
          · exact hg h
          · omega
        · rcases HG3.out k hk with h | h
          · exact HGR.out k h
          · exact .inr (by simp at h; omega)
        · rcases HG3.out r hg with h | h
          · exact HNR.out h
          · simp at h; omega)
      cases t
      · gi_wp2
        go_end0
        refine ⟨⟨_, rfl⟩, G', .inr ⟨_, HPX.out, ?_⟩, fin.out.1, fin.out.2.1⟩
        rcases H3.out with ⟨h, _⟩ | ⟨_, h⟩
        · cases h
        · exact h
      · have HJ3 : Hid (J (ys ++ [x]) G' W3) := Lib.hid (by
          rcases H3.out with ⟨_, h⟩ | ⟨h, _⟩
          · exact h
          · cases h)
        have HRR3 : Hid (RngB W3 r m ekI akV L rest) := Lib.hid (by
          have hl := HRG.out.lts
          exact HRG.out.of_obj ((HK3.out.block m (by simp; omega) (fun h => (HOG.out m h).1 hDB.out.2)).trans (obj_alloc_past _ _ _ hl.1)) ((HK3.out.block r (by simp; omega) HNR.out).trans (obj_alloc_past _ _ _ hl.2.1)))
        have hl3 := HRR3.out.left
        have hzz3 := fin.out.2.2.2
        gi_wp2
        go_roundw
        case rel => exact ⟨ys ++ [x], rest, Lib.hid ⟨G', HJ3.out, fin.out.1, fin.out.2.1, fin.out.2.2.1⟩, HRR3, hzz3, HPN⟩
        case measure => rw [hl3, HRL.out]; exact HLT.out
end Go.Proofs.Ytnaknoebjbmboaa
