import Derived.Test.YtagpclgappcnbaaGreatBkJJ
import Derived.WalkMore
import Derived.LoopTactic
import Derived.Deep.RegionHeld3
namespace Go.Proofs.YtagpclgappcnbaaGreat
open Go.RowKit

/-! ### Tick, walked -/
def akL (a : Ak.AskD) : List Value := [.int .i64 a.id, .int .i64 a.node, .int .i64 a.kind]
theorem akL_length (a : Ak.AskD) : (akL a).length = 3 := rfl
theorem akL_one (a : Ak.AskD) : allOne (akL a).toArray = true := rfl
theorem info47 : (Tryz.prog.info? 66).map (fun i => (i.zero, i.size, i.bytes)) = some (some (.agg #[.int .i64 0, .int .i64 0, .int .i64 0]), 3, 24) := by kernel_rfl
theorem hide_row50 (a : Ak.AskD) (w : World) : (Instr.buildSlice 59 1 #[(0, .agg #[.int .i64 a.id, .int .i64 a.node, .int .i64 a.kind])]).run Tryz.prog w = .ok (.slice (some ⟨w.heap.size, 0, none⟩) 1 1) (w.alloc (.cells #[.int .i64 a.id, .int .i64 a.node, .int .i64 a.kind] 66)) := by kernel_rfl
theorem push50 {ops : Array Oper} {rest : List Oper} {o : Oper} {a : Act} {w : World} {Q : Exit → Act → World → Prop} (hgd : o.guard = none) (s x : Operand) (ho : o.op = .call { callee := .builtin .append, args := #[s, x], argTypes := #[59, 59] })
    (base : Nat) (v : Value) (xs : List Ak.AskD) (y : Ak.AskD) (hs : a.eval s = v) (hown : OwnS w base 66 3 akL v xs) (g : Nat) (hx : a.eval x = .slice (some ⟨g, 0, none⟩) 1 1) (hg : obj w g = some (.cells #[.int .i64 y.id, .int .i64 y.node, .int .i64 y.kind] 66 (0, 0)))
    (hlen : xs.length ≤ 1048576) (hbase : base ≤ w.heap.size)
    (h : ∀ v' w', OwnS w' base 66 3 akL v' (xs ++ [y]) → Below base w w' → (∀ k, k < w.heap.size → v.ownBlock ≠ some k → obj w' k = obj w k) → wpList Tryz.prog ops Q rest (a.put o.dst v') w') : wpList Tryz.prog ops Q (o :: rest) a w := by
  obtain ⟨i0, hi, hz0, hz1, hz2⟩ := info_parts info47
  exact wpList_push (i := i0) (z := .agg #[.int .i64 0, .int .i64 0, .int .i64 0]) (bytes := 24) Tryz.underlying59 hi hz0 hz1 hz2 (by simp [Value.cells]) (by decide) akL akL_length akL_one hgd s x ho base v xs y hs hown g hx hg hlen (by decide) hbase h
theorem OwnS.typ {α : Type} {w : World} {base E k : Nat} {enc : α → List Value} {v : Value} {xs : List α} (h : OwnS w base E k enc v xs) {g : Nat} (e : v.ownBlock = some g) : ∃ cur, obj w g = some (.cells cur E (0, 0)) := by
  rcases h.1.2 with ⟨rfl, _⟩ | ⟨g', cap, cur, rfl, _, h2, _⟩
  · cases e
  · simp [Value.ownBlock] at e
    subst e
    exact ⟨cur, h2⟩
theorem sl_row {α : Type} {w : World} {oa : Option Addr} {n cap k : Nat} {enc : α → List Value} {xs : List α} (h : SlIn w (.slice oa n cap) k enc xs) (h0 : 0 < xs.length) : ∃ b off, oa = some ⟨b, off, none⟩ ∧ b < w.heap.size ∧ RowAt w b off k enc xs := by
  obtain ⟨oa', cap', e, h2, h3, h4⟩ := h
  simp only [Value.slice.injEq] at e
  obtain ⟨rfl, rfl, rfl⟩ := e
  exact h4 h0
structure TK (w : World) (F : Nat → Prop) (b : Nat) (p : PD) (D : List Al.Al) (dv : Value) (W : World) (pk : PD) (M : PM) (ov : Value) (out : List Ak.AskD) : Prop where
  at_ : PeerAt W F b pk M
  sp : SameP p pk
  sn : ∀ a, pk.sa = some a → p.sa = some a ∨ w.heap.size ≤ a.block
  kp : Keeps (Own F b p) w W
  ds : OwnS W w.heap.size 114 2 Al.alL dv D
  os : OwnS W w.heap.size 66 3 akL ov out
  sa : ∀ a, pk.sa = some a → a.block < w.heap.size ∨ ∃ cs, obj W a.block = some (.cells cs 138 (0, 0))
section
variable {w : World} {F : Nat → Prop} {b : Nat} {p : PD} {D : List Al.Al} {dv : Value} {W : World} {pk : PD} {M : PM} {ov : Value} {out : List Ak.AskD}
theorem SameP.own {p p' : PD} (h : SameP p p') {F : Nat → Prop} {b n : Nat} : Own F b p' n ↔ Own F b p n := by
  obtain ⟨h1, h2, h3, -, h5, -, -⟩ := h
  unfold Own
  rw [h1, h2, h3, h5]
theorem TK.below (h : TK w F b p D dv W pk M ov out) {W' : World} (hb : Below W.heap.size W W') : TK w F b p D dv W' pk M ov out :=
  ⟨h.at_.below hb, h.sp, h.sn, h.kp.trans (Keeps.of_below hb), h.ds.below hb, h.os.below hb, fun a e => (h.sa a e).imp (fun h => h) fun ⟨cs, hc⟩ => ⟨cs, (obj_below hb (lt_of_obj hc)).trans hc⟩⟩
/-- what the book's own blocks hold may change -/
theorem TK.keeps (h0 : ∀ n, Own F b p n → n < w.heap.size) (h : TK w F b p D dv W pk M ov out) {W' : World} {M' : PM} (ha : PeerAt W' F b pk M') (hk : Keeps (Own F b p) W W') : TK w F b p D dv W' pk M' ov out := by
  have q : ∀ g, w.heap.size ≤ g → g < W.heap.size → obj W' g = obj W g := fun g h1 h2 => hk.block g h2 (fun hh => by have := h0 g hh; omega)
  refine ⟨ha, h.sp, h.sn, h.kp.trans hk, h.ds.keeps fun g e => ?_, h.os.keeps fun g e => ?_, fun a e => ?_⟩
  · exact q g (h.ds.1.lt g e).1 (h.ds.1.lt g e).2
  · exact q g (h.os.1.lt g e).1 (h.os.1.lt g e).2
  · rcases h.sa a e with h1 | ⟨cs, hc⟩
    · exact .inl h1
    · by_cases hlt : a.block < w.heap.size
      · exact .inl hlt
      · exact .inr ⟨cs, (q _ (by omega) (lt_of_obj hc)).trans hc⟩
theorem TK.seats (h0 : ∀ n, Own F b p n → n < w.heap.size) (h : TK w F b p D dv W pk M ov out) {oa : Option Addr} {cap : Nat} {s' : List Be.St} {B : Nat} (hB : w.heap.size ≤ B) (hs : OwnS W B 138 3 Be.stL (.slice oa s'.length cap) s') :
    TK w F b p D dv (W.setCell ⟨b, 16, none⟩ (.slice oa s'.length cap)) { pk with sa := oa, sc := cap } { M with seats := s' } ov out := by
  have hbz : b < w.heap.size := h0 b (.inr (.inl rfl))
  have q : ∀ n, n ≠ b → obj (W.setCell ⟨b, 16, none⟩ (.slice oa s'.length cap)) n = obj W n := fun n hn => obj_setCell_ne _ ⟨b, 16, none⟩ _ _ hn
  have hlo : ∀ a, oa = some a → w.heap.size ≤ a.block := fun a e => by have := (hs.1.lt a.block (by rw [e]; rfl)).1; omega
  refine ⟨h.at_.setSeats (hs.slIn Be.stL_length) fun a e => ?_, h.sp, fun a e => .inr (hlo a e), h.kp.setCell (a := ⟨b, 16, none⟩) (.inl (.inr (.inl rfl))) _, h.ds.keeps fun g e => ?_, h.os.keeps fun g e => ?_, fun a e => ?_⟩
  · have hge := hlo a e
    have hno : ∀ n, Own F b p n → a.block ≠ n := fun n hn e2 => by have := h0 n hn; omega
    have hno' : ∀ n, Own F b pk n → a.block ≠ n := fun n hn => hno n (h.sp.own.1 hn)
    exact ⟨fun hf => hno' _ (.inl hf) rfl, hno' _ (.inr (.inl rfl)), hno' _ (.inr (.inr (.inl rfl))), hno' _ (.inr (.inr (.inr (.inl rfl)))), hno' _ (.inr (.inr (.inr (.inr (.inl rfl))))), hno' _ (.inr (.inr (.inr (.inr (.inr rfl)))))⟩
  · exact q g (by have := (h.ds.1.lt g e).1; omega)
  · exact q g (by have := (h.os.1.lt g e).1; omega)
  · have e' : oa = some a := e
    have hge := hlo a e'
    obtain ⟨cur, hc⟩ := hs.typ (g := a.block) (by rw [e']; rfl)
    exact .inr ⟨cur, (q _ (by omega)).trans hc⟩
theorem TK.push (h0 : ∀ n, Own F b p n → n < w.heap.size) (hl0 : ∀ a, p.la = some a → a.block < w.heap.size) (h : TK w F b p D dv W pk M ov out) {W' : World} {ov' : Value} {out' : List Ak.AskD}
    (h1 : OwnS W' w.heap.size 66 3 akL ov' out') (h2 : Below w.heap.size W W') (h3 : ∀ k, k < W.heap.size → ov.ownBlock ≠ some k → obj W' k = obj W k) (hl : 0 < M.l.length) (hs : 0 < M.seats.length) : TK w F b p D dv W' pk M ov' out' := by
  have hz := h.kp.size
  have qo : ∀ n, n < w.heap.size → obj W' n = obj W n := fun n hn => h3 n (by omega) (fun e => by have := (h.os.1.lt n e).1; omega)
  have hla : pk.la = p.la := h.sp.2.2.2.2.2.1
  have hk : Keeps (fun n => ov.ownBlock = some n) W W' := ⟨h2.os, h2.tape, h2.output, h2.size, fun k hk hf => h3 k hk hf⟩
  have hge : ∀ n, ov.ownBlock = some n → w.heap.size ≤ n := fun n e => (h.os.1.lt n e).1
  have nsa : ∀ a, pk.sa = some a → ¬ ov.ownBlock = some a.block := fun a e e2 => by
    rcases h.sa a e with h4 | ⟨cs, hc⟩
    · have := hge _ e2; omega
    · exact h.os.ne hc (fun cur hcur => by cases hcur) e2
  refine ⟨h.at_.keep hk (fun n hn ho => ?_) (fun a e => ?_) nsa (fun a e => ?_) (fun a e => h.at_.seats.blk hs e), h.sp, h.sn, ⟨h2.os.trans h.kp.os, h2.tape.trans h.kp.tape, h2.output.trans h.kp.output, Nat.le_trans hz h2.size, fun k hk hf => (qo k hk).trans (h.kp.block k hk hf)⟩, h.ds.keeps fun g e => ?_, h1, fun a e => ?_⟩
  · have := hge n hn
    have := h0 n (h.sp.own.1 ho)
    omega
  · intro e2
    have := hge _ e2
    have := hl0 a (by rw [← hla]; exact e)
    omega
  · exact h.at_.l.blk hl e
  · obtain ⟨cur, hc⟩ := h.ds.typ e
    exact h3 g (h.ds.1.lt g e).2 (fun e2 => h.os.ne hc (fun cur hcur => by cases hcur) e2)
  · rcases h.sa a e with h4 | ⟨cs, hc⟩
    · exact .inl h4
    · exact .inr ⟨cs, (h3 _ (lt_of_obj hc) (nsa a e)).trans hc⟩
end
theorem below_alloc' {w W : World} {o : Obj} (h : Below w.heap.size w W) : Below w.heap.size w (W.alloc o) := h.alloc h.size o
section
variable {w : World} {F : Nat → Prop} {b : Nat} {p : PD} {D : List Al.Al} {dv : Value} {W : World} {pk : PD} {M : PM} {ov : Value} {out : List Ak.AskD}
theorem TK.asks (h0 : ∀ n, Own F b p n → n < w.heap.size) (h : TK w F b p D dv W pk M ov out) {W' : World} {A : Ak.BookD} (h1 : Ak.BookAt W' pk.ab pk.am A) (h2 : Ak.StampM W' pk.am) (hk : Keeps (Ak.Kp pk.ab pk.am) W W') : TK w F b p D dv W' pk { M with A := A } ov out :=
  h.keeps h0 (h.at_.setAsks h1 h2 hk) (hk.mono fun n hn => h.sp.own.1 (by rcases hn with e | e; exact .inr (.inr (.inr (.inl e))); exact .inr (.inr (.inr (.inr (.inl e))))))
theorem TK.asks3 (h0 : ∀ n, Own F b p n → n < w.heap.size) (h : TK w F b p D dv W pk M ov out) {w3 : World} {A : Ak.BookD} (h1 : Ak.BookAt w3 pk.ab pk.am A) (h2 : Ak.StampM w3 pk.am) (hk : Keeps (Ak.Kp pk.ab pk.am) W w3) (v0 v1 v2 : Value) :
    TK w F b p D dv (((w3.setCell ⟨W.heap.size, 0, none⟩ v0).setCell ⟨W.heap.size, 1, none⟩ v1).setCell ⟨W.heap.size, 2, none⟩ v2) pk { M with A := A } ov out := by
  have na : pk.ab ≠ W.heap.size := by have := h.at_.own_lt (n := pk.ab) (.inr (.inr (.inr (.inl rfl)))); omega
  have nm : pk.am ≠ W.heap.size := by have := h.at_.own_lt (n := pk.am) (.inr (.inr (.inr (.inr (.inl rfl))))); omega
  have q : ∀ k, k ≠ W.heap.size → obj (((w3.setCell ⟨W.heap.size, 0, none⟩ v0).setCell ⟨W.heap.size, 1, none⟩ v1).setCell ⟨W.heap.size, 2, none⟩ v2) k = obj w3 k := fun k hk => (obj_setCell_ne _ ⟨W.heap.size, 2, none⟩ _ _ hk).trans ((obj_setCell_ne _ ⟨W.heap.size, 1, none⟩ _ _ hk).trans (obj_setCell_ne _ ⟨W.heap.size, 0, none⟩ _ _ hk))
  exact h.asks h0 ⟨(q _ na).trans h1.cells, h1.map.of_heap (q _ nm)⟩ (h2.of_obj (q _ nm)) (keeps_set3 hk (Nat.le_refl _) _ _ _)
theorem TK.kept (h0 : ∀ n, Own F b p n → n < w.heap.size) {W W' : World} (hk : Keeps (Own F b p) W W') {n : Nat} {o : Obj} (hn : w.heap.size ≤ n) (ho : obj W n = some o) : obj W' n = some o :=
  (hk.block n (lt_of_obj ho) (fun hh => by have := h0 n hh; omega)).trans ho
end
def TickO (w : World) (F : Nat → Prop) (b : Nat) (p : PD) (r : PM × List Ak.AskD × Int) (e : Ending) (w' : World) : Prop :=
  ∃ v, e = .returned (.tuple #[v, .int .i64 r.2.2]) ∧ OwnS w' w.heap.size 66 3 akL v r.2.1 ∧ (∃ p', SameN w p p' ∧ PeerAt w' F b p' r.1) ∧ Keeps (Own F b p) w w'
set_option maxRecDepth 100000 in
set_option maxHeartbeats 4000000 in
theorem tick_any (w : World) (F : Nat → Prop) (b : Nat) (p : PD) (M : PM) (now : Int) (h : PeerAt w F b p M) (hr : comesE M now = 0 → TickR { M with now := now, W := Al.leftL now M.W } (Al.dueL now M.W)) (hl0 : 0 < M.l.length) (hs0 : 0 < M.seats.length) :
    Calls Tryz.prog 15 #[.pointer (some ⟨b, 0, none⟩), .int .i64 now] w (TickO w F b p (tickP M now)) := by
  have HH := Lib.hid h
  have HRD := Lib.hid hr
  have H0 : Hid (∀ n, Own F b p n → n < w.heap.size) := Lib.hid (fun n hn => h.own_lt hn)
  have HLA : Hid (∀ a, p.la = some a → a.block < w.heap.size) := Lib.hid (fun a e => h.l.blk hl0 e)
  have HSA : Hid (∀ a, p.sa = some a → a.block < w.heap.size) := Lib.hid (fun a e => h.seats.blk hs0 e)
  have HC := Lib.hid (comes_any w F b p M now h)
  have HP0 : Hid (comesE M now ≠ 0 → tickP M now = (M, [], comesE M now)) := Lib.hid (fun h => by unfold tickP; rw [if_pos h])
  have HP1 : Hid (comesE M now = 0 → tickP M now = (tickF { M with now := now, W := Al.leftL now M.W } (Al.dueL now M.W), outF { M with now := now, W := Al.leftL now M.W } (Al.dueL now M.W), 0)) := Lib.hid (fun h => by unfold tickP; rw [if_neg (fun hh => hh h)])
  have HDL : Hid ((Al.dueL now M.W).length ≤ 4096) := Lib.hid (by have h1 := h.heap.len; have h2 := congrArg List.length (Al.due_left now M.W); rw [List.length_append] at h2; omega)
  have hbw := h.lt
  generalize tickP M now = R at *
  clear h hr
  go_enter Tryz.func15, Tryz.ntmps15
  go_wp2_with fail
  apply wp_scope_straight
  go_wp2_with fail
  refine HC.out.mono ?_
  rintro e w1 ⟨rfl, h1, k1⟩
  have K1 : Hid (Keeps (Own F b p) w w1) := Lib.hid (k1.mono fun n hn => .inr (.inl hn))
  have H1 := Lib.hid h1
  clear h1 k1 HC
  by_cases hE : comesE M now = 0
  case neg =>
    have HR := Lib.hid (HP0.out hE)
    have HM1 : Hid (comesM M now = M) := Lib.hid (by unfold comesM; rw [if_neg hE])
    generalize comesE M now = E at *
    go_wp2_with fail
    simp only [Exit.noGoto]
    refine bodyPost_ret (v := .tuple #[.slice none 0 0, .int .i64 E]) (by simp [results, Tryz.results15, go_sem]) rfl ⟨_, by rw [HR.out], by rw [HR.out]; exact OwnS.nil _ _ _ _ _, ⟨p, SameN.refl _ p, by rw [HR.out, ← HM1.out]; exact H1.out⟩, K1.out⟩
  have HM1 : Hid (comesM M now = { M with now := now }) := Lib.hid (by unfold comesM; rw [if_pos hE])
  have HR := Lib.hid (HP1.out hE)
  have HRDY := Lib.hid (HRD.out hE)
  have HEE := Lib.hid hE
  rw [HM1.out] at H1
  rw [hE]
  clear hE HM1 HP0 HP1 HRD
  obtain ⟨c0, -, -, -, -, -, d1⟩ := H1.out.cells
  have HD := Lib.hid (Al.due_hp w1 F p.hb M.W now H1.out.heap)
  go_wp2_with fail
  apply wp_label
  go_wp2_with fail
  refine HD.out.mono ?_
  rintro e w2 ⟨⟨dv, rfl, own2, nof2⟩, hp2, k2⟩
  have K2 : Hid (Keeps (Own F b p) w w2) := Lib.hid (K1.out.trans (k2.mono fun n hn => .inl hn))
  have H2 : Hid (PeerAt w2 F b p { M with now := now, W := Al.leftL now M.W }) := Lib.hid (H1.out.setHeap hp2 (fun n hn => .inl hn) k2 hl0 hs0)
  have HDV : Hid (OwnS w2 w.heap.size 114 2 Al.alL dv (Al.dueL now M.W)) := Lib.hid (by
    have hz := K1.out.size
    exact ⟨⟨own2.1.1, by
      rcases own2.1.2 with h | ⟨g, cap, cur, e, hb, h⟩
      · exact .inl h
      · exact .inr ⟨g, cap, cur, e, by omega, h⟩⟩, own2.2⟩)
  obtain ⟨oad, capd, rfl⟩ := own2.slice
  have TK0 : Hid (TK w F b p (Al.dueL now M.W) (.slice oad (Al.dueL now M.W).length capd) w2 p { M with now := now, W := Al.leftL now M.W } (.slice none 0 0) []) := Lib.hid ⟨H2.out, SameP.refl p, fun _ e => .inl e, K2.out, HDV.out, OwnS.nil _ _ _ _ _, fun a e => .inl (HSA.out a e)⟩
  have HM0 : Hid (({ M with now := now, W := Al.leftL now M.W } : PM).now = now ∧ ({ M with now := now, W := Al.leftL now M.W } : PM).l = M.l ∧ ({ M with now := now, W := Al.leftL now M.W } : PM).cfg = M.cfg) := Lib.hid ⟨rfl, rfl, rfl⟩
  clear own2 nof2 hp2 k2 HD H1 H2 HDV K1 K2 c0 d1
  generalize ({ M with now := now, W := Al.leftL now M.W } : PM) = M0 at *
  generalize Al.dueL now M.W = D at *
  have hdl := HDL.out
  go_wp2_with fail
  go_loopw [7, 9, 10, 11, 12, 13, 14, 31] (fun v7 _ _ _ _ _ _ v31 wr => ∃ (k : Nat) (Mk : PM) (pk : PD) (outk : List Ak.AskD), k ≤ D.length ∧ v31 = .int .i64 k ∧ Hid (TK w F b p D (.slice oad D.length capd) wr pk Mk v7 outk) ∧ Hid (tickF Mk (D.drop k) = R.1 ∧ outk ++ outF Mk (D.drop k) = R.2.1 ∧ TickR Mk (D.drop k)) ∧ Hid (Mk.now = now ∧ Mk.l = M.l ∧ Mk.cfg = M.cfg) ∧ Hid (outk.length = k)) (fun _ _ _ _ _ _ _ i _ => D.length - (intOf i).toNat)
  case atStart => exact ⟨0, M0, p, [], Nat.zero_le _, rfl, TK0, Lib.hid ⟨by rw [HR.out]; rfl, by rw [HR.out]; rfl, HRDY.out⟩, HM0, Lib.hid rfl⟩
  case round =>
    obtain ⟨k, Mk, pk, outk, hk, rfl, HTK, HF, HMk, HO⟩ := hrel
    obtain ⟨oa7, cap7, e7⟩ := HTK.out.os.slice
    subst e7
    by_cases hlt : k < D.length
    case neg =>
      obtain rfl : D.length = k := by omega
      have HFF := HF.out
      rw [List.drop_length] at HFF
      obtain ⟨f1, f2, -⟩ := HFF
      have FIN : Hid (R.2.2 = 0 ∧ outk = R.2.1 ∧ Mk = R.1) := Lib.hid ⟨by rw [HR.out], by rw [← f2]; simp [outF], by rw [← f1]; rfl⟩
      have hkk : ¬ (D.length : Int) < D.length := by omega
      clear f1 f2 HF HO
      go_wp2_with fail
      (try simp only [Exit.noGoto])
      refine bodyPost_ret (v := .tuple #[.slice oa7 outk.length cap7, .int .i64 0]) (by simp [results, Tryz.results15, go_sem]) rfl ⟨_, by rw [FIN.out.1], by rw [← FIN.out.2.1]; exact HTK.out.os, ⟨pk, ⟨HTK.out.sp, HTK.out.sn⟩, by rw [← FIN.out.2.2]; exact HTK.out.at_⟩, HTK.out.kp⟩
    obtain ⟨b0, off, rfl, hbb, hrow⟩ := sl_row (HTK.out.ds.slIn Al.alL_length) (by omega)
    have hs := hrow k hlt
    have hdk : D.drop k = D[k] :: D.drop (k + 1) := List.drop_eq_getElem_cons hlt
    obtain ⟨hf1, hf2, hf3⟩ := HF.out
    rw [hdk] at hf1 hf2 hf3
    clear hrow hdk
    generalize D[k] = x at *
    obtain ⟨xt, xk⟩ := x
    have c0 : wr.cell? ⟨b0, off + k * 2, none⟩ = some (.int .i64 xt) := by have := subOf_cell hs (j := 0) (by decide); simpa [Al.alL] using this
    have c1 : wr.cell? ⟨b0, off + k * 2 + 1, none⟩ = some (.int .i64 xk) := by have := subOf_cell hs (j := 1) (by decide); simpa [Al.alL] using this
    have b1 : Below wr.heap.size wr (wr.alloc (.cells #[.int .i64 xt, .int .i64 xk] 114)) := (Below.refl _ _).alloc (Nat.le_refl _) _
    have T0 := Lib.hid (HTK.out.below b1)
    have X0 := Lib.hid (show obj (wr.alloc (.cells #[.int .i64 xt, .int .i64 xk] 114)) wr.heap.size = some (.cells #[.int .i64 xt, .int .i64 xk] 114 (0, 0)) from obj_alloc_at _ _ _ rfl)
    have ZX : Hid (w.heap.size ≤ wr.heap.size) := Lib.hid HTK.out.kp.size
    have hki : (k : Int) < D.length := by omega
    have RD := Lib.hid hf3.1
    have R3 := Lib.hid hf3.2
    have R1 : Hid (tickF (tickA Mk (xt, xk)) (D.drop (k + 1)) = R.1) := Lib.hid hf1
    have R2 : Hid (outk ++ (Ak.expA Mk.A xk :: outF (tickA Mk (xt, xk)) (D.drop (k + 1))) = R.2.1) := Lib.hid hf2
    have hs' : subOf (obj wr b0) (off + k * 2) 2 = some #[.int .i64 xt, .int .i64 xk] := hs
    clear hf1 hf2 hf3 hs b1 HTK HF
    have HE0 : Hid (Ak.expE Mk.A xk = 0) := Lib.hid (by unfold Ak.expE; rw [if_pos RD.out.got])
    have HX := Lib.hid (fun W (hW : Below (wr.alloc (.cells #[.int .i64 xt, .int .i64 xk] 114)).heap.size (wr.alloc (.cells #[.int .i64 xt, .int .i64 xk] 114)) W) => Ak.expire_all W pk.ab pk.am Mk.A xk (T0.out.at_.below hW).asks (T0.out.at_.below hW).stamp RD.out.exp)
    have RDN := Lib.hid (And.intro RD.out.n0 RD.out.n1)
    have HMA : Hid (tickA Mk (xt, xk) = { tookM { Mk with A := Ak.expS Mk.A xk } (Ak.expA Mk.A xk).id with seats := Be.stepF Mk.cfg.q Mk.l Mk.seats (Ak.expA Mk.A xk).node.toNat Mk.now }) := Lib.hid rfl
    rw [HE0.out] at HX
    simp only at RDN
    generalize tickA Mk (xt, xk) = MN at *
    generalize Ak.expS Mk.A xk = A2 at *
    generalize Ak.expA Mk.A xk = ax at *
    obtain ⟨ai, an, ak⟩ := ax
    unfold Ak.askV at HX
    simp only at HX HMA RDN
    go_wp2_with fail
    clear c0 c1 hbb hs'
    generalize wr.alloc (.cells #[.int .i64 xt, .int .i64 xk] 114) = W0 at *
    have cells0 : W0.cell? ⟨b, 0, none⟩ = some (.pointer (some ⟨pk.ib, 0, none⟩)) ∧ W0.cell? ⟨pk.ib, 0, none⟩ = some (.pointer (some ⟨pk.ab, 0, none⟩)) ∧ W0.cell? ⟨wr.heap.size, 1, none⟩ = some (.int .i64 xk) := ⟨T0.out.at_.cells.1, T0.out.at_.cells.2.2.2.2.2.1, cell_at X0.out 1⟩
    have SK : Hid (∀ W, Keeps (Ak.Kp pk.ab pk.am) W0 W → W.cell? ⟨b, 0, none⟩ = some (.pointer (some ⟨pk.ib, 0, none⟩)) ∧ W.cell? ⟨pk.ib, 0, none⟩ = some (.pointer (some ⟨pk.ab, 0, none⟩)) ∧ W.cell? ⟨wr.heap.size, 1, none⟩ = some (.int .i64 xk)) := Lib.hid (fun W hk => by
      obtain ⟨n1, n2, n3, n4, n5, n6, n7, n8, n9⟩ := T0.out.at_.bne
      have hx : ¬ Own F b p wr.heap.size := fun hh => by have h1 := H0.out _ hh; have h2 := ZX.out; omega
      have hx' : ¬ Own F b pk wr.heap.size := fun hh => hx (T0.out.sp.own.1 hh)
      have q : ∀ n, n < W0.heap.size → n ≠ pk.ab → n ≠ pk.am → obj W n = obj W0 n := fun n hn ha hm => hk.block n hn (fun hh => by rcases hh with e | e; exact ha e; exact hm e)
      have e1 := (q _ (lt_of_obj T0.out.at_.box) n2 n3).trans T0.out.at_.box
      have e2 := (q _ (lt_of_obj T0.out.at_.inn) n5 n6).trans T0.out.at_.inn
      have e3 := (q _ (lt_of_obj X0.out) (fun e => hx' (.inr (.inr (.inr (.inl e))))) (fun e => hx' (.inr (.inr (.inr (.inr (.inl e))))))).trans X0.out
      exact ⟨cell_at e1 0, cell_at e2 0, cell_at e3 1⟩)
    have HNK : Hid (¬ Ak.Kp pk.ab pk.am W0.heap.size) := Lib.hid (fun hh => by
      have h1 := T0.out.at_.own_lt (n := pk.ab) (.inr (.inr (.inr (.inl rfl))))
      have h2 := T0.out.at_.own_lt (n := pk.am) (.inr (.inr (.inr (.inr (.inl rfl)))))
      rcases hh with e | e <;> omega)
    go_region_held3 (fun W => W.cell? ⟨b, 0, none⟩ = some (.pointer (some ⟨pk.ib, 0, none⟩)) ∧ W.cell? ⟨pk.ib, 0, none⟩ = some (.pointer (some ⟨pk.ab, 0, none⟩)) ∧ W.cell? ⟨wr.heap.size, 1, none⟩ = some (.int .i64 xk))
      (first | exact cells0 | assumption | ((try dsimp only); refine SK.out _ ?_; repeat (first | exact k3 | exact Keeps.refl _ _ | refine Keeps.alloc ?_ _ | refine Keeps.drew ?_ | (refine Keeps.setCell ?_ (.inr (by first | exact k3.size | exact Nat.le_refl _)) _))))
      (first
        | (go_at_call 56; (with_reducible refine (HX.out _ (by repeat (first | exact Below.refl _ _ | refine below_alloc' ?_ | refine Below.drew ?_))).mono ?_); rintro e w3 ⟨rfl, a1, a2, a3⟩; have k3 : Keeps (Ak.Kp pk.ab pk.am) W0 w3 := (by refine Keeps.trans (Keeps.of_below ?_) a3; repeat (first | exact Below.refl _ _ | refine below_alloc' ?_ | refine Below.drew ?_)); have s3 := SK.out _ k3; have hz3 := k3.size; try (have k0 : obj w3 W0.heap.size = some (.cells #[.int .i64 0, .int .i64 0, .int .i64 0] 66 (0, 0)) := (a3.block _ (by simp) HNK.out).trans (obj_alloc_at _ _ _ (by simp)); have k1 : w3.cell? ⟨W0.heap.size, 0, none⟩ = some (.int .i64 0) := cell_at k0 0; have k2 : w3.cell? ⟨W0.heap.size, 1, none⟩ = some (.int .i64 0) := cell_at k0 1; have k4 : w3.cell? ⟨W0.heap.size, 2, none⟩ = some (.int .i64 0) := cell_at k0 2; have k5 : ∀ i, w3.frozen? ⟨W0.heap.size, i, none⟩ = false := frozen_at k0; have k6 : W0.heap.size < w3.heap.size := lt_of_obj k0)))
    · have T4 := Lib.hid ((T0.out.asks H0.out a1 a2 k3).below (below_alloc' (o := .cells #[.int .i64 ai, .int .i64 an, .int .i64 ak] 66) (Below.refl _ w3)))
      have O4 := Lib.hid (show obj (w3.alloc (.cells #[.int .i64 ai, .int .i64 an, .int .i64 ak] 66)) w3.heap.size = some (.cells #[.int .i64 ai, .int .i64 an, .int .i64 ak] 66 (0, 0)) from obj_alloc_at _ _ _ rfl)
      have ZT : Hid (w.heap.size ≤ w3.heap.size) := Lib.hid (Nat.le_trans T0.out.kp.size hz3)
      clear cells0 SK HNK a1 a2 a3 k3 s3 hz3 HX T0 X0 ZX
      generalize w3.alloc (.cells #[.int .i64 ai, .int .i64 an, .int .i64 ak] 66) = W4 at *
      generalize w3.heap.size = tb at *
      have HT := Lib.hid (took_any W4 F b pk _ ai T4.out.at_)
      obtain ⟨i, rfl⟩ : ∃ i : Nat, an = i := ⟨an.toNat, by have := RDN.out.1; omega⟩
      have t0 := cell_at O4.out 0
      simp at t0
      go_wp2_with fail
      refine HT.out.mono ?_
      rintro e w5 ⟨rfl, h5, k5⟩
      have hsp := T4.out.sp
      have k5' : Keeps (Own F b p) W4 w5 := k5.mono fun n hn => hsp.own.1 (by rcases hn with e | e; exact .inr (.inl e); exact .inr (.inr (.inr (.inr (.inr e)))))
      have T5 := Lib.hid (T4.out.keeps H0.out h5 k5')
      have O5 := Lib.hid (TK.kept H0.out k5' ZT.out O4.out)
      have e1 : (tookM { Mk with A := A2 } ai).cfg = Mk.cfg := rfl
      have e2 : (tookM { Mk with A := A2 } ai).l = Mk.l := rfl
      have e3 : (tookM { Mk with A := A2 } ai).seats = Mk.seats := rfl
      have e5 : (tookM { Mk with A := A2 } ai).now = Mk.now := rfl
      clear h5 k5 k5' HT T4 O4 t0 hsp
      generalize tookM { Mk with A := A2 } ai = M5 at *
      obtain ⟨b7, b8, b9, b10, b11⟩ := T5.out.at_.bench
      obtain ⟨-, c12, -, c16, -, -, -⟩ := T5.out.at_.cells
      have HL5 := T5.out.at_.l
      have HS5 := T5.out.at_.seats
      rw [e1] at b7 b8 b9 b10 b11
      rw [e2] at c12 HL5
      rw [e3] at c16 HS5
      have E2 := Lib.hid e2
      have HN5 : Hid (M5.now = Mk.now ∧ M5.cfg = Mk.cfg) := Lib.hid ⟨e5, e1⟩
      have hil : i < Mk.seats.length := by have := RDN.out.2; omega
      have HRP := Lib.hid (fun W (hW : Below w5.heap.size w5 W) => Be.failed_step W Mk.cfg.q (.slice pk.la Mk.l.length pk.lc) (.slice pk.sa Mk.seats.length pk.sc) Mk.l Mk.seats i now (HL5.below hW) (HS5.below hW) RD.out.may hil (HMk.out.1 ▸ RD.out.now0) (HMk.out.1 ▸ RD.out.now1) RD.out.de)
      have t1 := cell_at O5.out 1
      simp at t1
      clear e1 e2 e3 e5 HL5 HS5
      unfold Be.ruV at HRP
      have hb5 := T5.out.at_.lt
      have ht5 := lt_of_obj O5.out
      have hsw0 : (w5.cell? ⟨b, 7, none⟩ = some (.int .i64 Mk.cfg.q.f) ∧ w5.cell? ⟨b, 8, none⟩ = some (.int .i64 Mk.cfg.q.lo) ∧ w5.cell? ⟨b, 9, none⟩ = some (.int .i64 Mk.cfg.q.fo) ∧ w5.cell? ⟨b, 10, none⟩ = some (.int .i64 Mk.cfg.q.nu) ∧ w5.cell? ⟨b, 11, none⟩ = some (.int .i64 Mk.cfg.q.de) ∧ w5.cell? ⟨b, 12, none⟩ = some (.slice pk.la Mk.l.length pk.lc) ∧ w5.cell? ⟨b, 16, none⟩ = some (.slice pk.sa Mk.seats.length pk.sc) ∧ w5.cell? ⟨tb, 1, none⟩ = some (.int .i64 i)) := ⟨b7, b8, b9, b10, b11, c12, c16, t1⟩
      have HSW : Hid (∀ W, Below w5.heap.size w5 W → (W.cell? ⟨b, 7, none⟩ = some (.int .i64 Mk.cfg.q.f) ∧ W.cell? ⟨b, 8, none⟩ = some (.int .i64 Mk.cfg.q.lo) ∧ W.cell? ⟨b, 9, none⟩ = some (.int .i64 Mk.cfg.q.fo) ∧ W.cell? ⟨b, 10, none⟩ = some (.int .i64 Mk.cfg.q.nu) ∧ W.cell? ⟨b, 11, none⟩ = some (.int .i64 Mk.cfg.q.de) ∧ W.cell? ⟨b, 12, none⟩ = some (.slice pk.la Mk.l.length pk.lc) ∧ W.cell? ⟨b, 16, none⟩ = some (.slice pk.sa Mk.seats.length pk.sc) ∧ W.cell? ⟨tb, 1, none⟩ = some (.int .i64 i))) := Lib.hid (fun W hW => ⟨(hW.cell (p := ⟨b, 7, none⟩) hb5).trans b7, (hW.cell (p := ⟨b, 8, none⟩) hb5).trans b8, (hW.cell (p := ⟨b, 9, none⟩) hb5).trans b9, (hW.cell (p := ⟨b, 10, none⟩) hb5).trans b10, (hW.cell (p := ⟨b, 11, none⟩) hb5).trans b11, (hW.cell (p := ⟨b, 12, none⟩) hb5).trans c12, (hW.cell (p := ⟨b, 16, none⟩) hb5).trans c16, (hW.cell (p := ⟨tb, 1, none⟩) ht5).trans t1⟩)
      go_wp2_with fail
      go_region_held3 (fun W => W.cell? ⟨b, 7, none⟩ = some (.int .i64 Mk.cfg.q.f) ∧ W.cell? ⟨b, 8, none⟩ = some (.int .i64 Mk.cfg.q.lo) ∧ W.cell? ⟨b, 9, none⟩ = some (.int .i64 Mk.cfg.q.fo) ∧ W.cell? ⟨b, 10, none⟩ = some (.int .i64 Mk.cfg.q.nu) ∧ W.cell? ⟨b, 11, none⟩ = some (.int .i64 Mk.cfg.q.de) ∧ W.cell? ⟨b, 12, none⟩ = some (.slice pk.la Mk.l.length pk.lc) ∧ W.cell? ⟨b, 16, none⟩ = some (.slice pk.sa Mk.seats.length pk.sc) ∧ W.cell? ⟨tb, 1, none⟩ = some (.int .i64 i))
        (first | exact hsw0 | assumption)
        (first
          | (go_at_call 61; (with_reducible refine (HRP.out w5.drew (Below.refl _ w5).drew).mono ?_); rintro e w6 ⟨sv, rfl, own6, b6⟩; have G6 : Hid (Below w5.heap.size w5 w6) := Lib.hid ((Below.refl _ w5).drew.trans b6); obtain ⟨oa6, cap6, e6⟩ := own6.slice; subst e6; have s6 := HSW.out w6 G6.out; have OW6 := Lib.hid own6; clear own6 b6))
      have hsl : (Be.stepF Mk.cfg.q Mk.l Mk.seats i now).length = Mk.seats.length := Be.stepF_len _ _ _ _ _
      rw [show (↑i : Int).toNat = i by omega, HMk.out.1] at HMA
      generalize Be.stepF Mk.cfg.q Mk.l Mk.seats i now = s9 at *
      generalize Be.benF Mk.cfg.q Mk.l Mk.seats i now = ben at *
      have zw5 := T5.out.kp.size
      have T6 := Lib.hid (T5.out.below G6.out)
      have T7 := Lib.hid (T6.out.seats H0.out (B := w5.heap.size) zw5 OW6.out)
      rw [← HMA.out] at T7
      have O6 := Lib.hid ((obj_below G6.out ht5).trans O5.out)
      have hbt : tb ≠ b := by have := ZT.out; omega
      have O7 := Lib.hid ((show obj (w6.setCell ⟨b, 16, none⟩ (.slice oa6 s9.length cap6)) tb = obj w6 tb from obj_setCell_ne _ ⟨b, 16, none⟩ _ _ hbt).trans O6.out)
      have zf := frozen_at T6.out.at_.box
      have c16' := T6.out.at_.cells.2.2.2.1
      have hb6 := T6.out.at_.lt
      have e9 : MN.l = Mk.l := by rw [HMA.out]; exact E2.out
      have e8 : MN.seats.length = Mk.seats.length := by rw [HMA.out]; exact hsl
      have LN : Hid (0 < MN.l.length ∧ 0 < MN.seats.length) := Lib.hid ⟨by rw [e9]; exact RD.out.l0, by rw [e8]; exact RD.out.s0⟩
      have HMN : Hid (MN.now = now ∧ MN.l = M.l ∧ MN.cfg = M.cfg) := Lib.hid ⟨by rw [HMA.out]; exact HN5.out.1.trans HMk.out.1, e9.trans HMk.out.2.1, by rw [HMA.out]; exact HN5.out.2.trans HMk.out.2.2⟩
      have z0 := cell_at O7.out 0
      have z1 := cell_at O7.out 1
      have z2 := cell_at O7.out 2
      simp at z0 z1 z2
      have hz7 : w.heap.size ≤ (w6.setCell ⟨b, 16, none⟩ (.slice oa6 s9.length cap6)).heap.size := T7.out.kp.size
      clear b7 b8 b9 b10 b11 c12 c16 t1 hsw0 HSW s6 HRP e9 e8 T5 O5 G6 O6 OW6 hsl
      have T8 := Lib.hid (T7.out.below (below_alloc' (o := .cells #[.int .i64 ai, .int .i64 i, .int .i64 ak] 66) (Below.refl _ _)))
      have hrow := hide_row50 ⟨ai, i, ak⟩ (w6.setCell ⟨b, 16, none⟩ (.slice oa6 s9.length cap6))
      simp only at hrow
      have hol : outk.length ≤ 1048576 := by rw [HO.out]; omega
      have hz8 : w.heap.size ≤ ((w6.setCell ⟨b, 16, none⟩ (.slice oa6 s9.length cap6)).alloc (.cells #[.int .i64 ai, .int .i64 i, .int .i64 ak] 66)).heap.size := T8.out.kp.size
      have HOL := Lib.hid hol
      have HZ8 := Lib.hid hz8
      have HG := Lib.hid (show obj ((w6.setCell ⟨b, 16, none⟩ (.slice oa6 s9.length cap6)).alloc (.cells #[.int .i64 ai, .int .i64 i, .int .i64 ak] 66)) w6.heap.size = some (.cells #[.int .i64 ai, .int .i64 i, .int .i64 ak] 66 (0, 0)) from obj_alloc_at _ _ _ (by simp))
      clear hol hz8
      go_wp2_with (at_builtin; refine push50 rfl _ _ rfl w.heap.size (.slice oa7 outk.length cap7) outk ⟨ai, i, ak⟩ rfl T8.out.os w6.heap.size rfl HG.out HOL.out HZ8.out ?_; intro v9 W9 q1 q2 q3)
      exact ⟨⟨k + 1, MN, _, outk ++ [⟨ai, i, ak⟩], by omega, by simp, Lib.hid (T8.out.push H0.out HLA.out q1 q2 q3 LN.out.1 LN.out.2), Lib.hid ⟨R1.out, by rw [List.append_assoc]; exact R2.out, R3.out⟩, HMN, Lib.hid (by simp [HO.out])⟩, by simp [intOf]; omega⟩
    · have T4 := Lib.hid (T0.out.asks3 H0.out a1 a2 k3 (.int .i64 ai) (.int .i64 an) (.int .i64 ak))
      have O4 := Lib.hid (obj_setCell_at (.int .i64 ak) (i := 2) (obj_setCell_at (.int .i64 an) (i := 1) (obj_setCell_at (.int .i64 ai) (i := 0) k0)))
      simp at O4
      have ZT : Hid (w.heap.size ≤ W0.heap.size) := Lib.hid T0.out.kp.size
      clear cells0 SK HNK a1 a2 a3 k3 s3 hz3 HX T0 X0 ZX k0 k1 k2 k4 k5 k6
      generalize ((w3.setCell ⟨W0.heap.size, 0, none⟩ (.int .i64 ai)).setCell ⟨W0.heap.size, 1, none⟩ (.int .i64 an)).setCell ⟨W0.heap.size, 2, none⟩ (.int .i64 ak) = W4 at *
      generalize W0.heap.size = tb at *
      have HT := Lib.hid (took_any W4 F b pk _ ai T4.out.at_)
      obtain ⟨i, rfl⟩ : ∃ i : Nat, an = i := ⟨an.toNat, by have := RDN.out.1; omega⟩
      have t0 := cell_at O4.out 0
      simp at t0
      go_wp2_with fail
      refine HT.out.mono ?_
      rintro e w5 ⟨rfl, h5, k5⟩
      have hsp := T4.out.sp
      have k5' : Keeps (Own F b p) W4 w5 := k5.mono fun n hn => hsp.own.1 (by rcases hn with e | e; exact .inr (.inl e); exact .inr (.inr (.inr (.inr (.inr e)))))
      have T5 := Lib.hid (T4.out.keeps H0.out h5 k5')
      have O5 := Lib.hid (TK.kept H0.out k5' ZT.out O4.out)
      have e1 : (tookM { Mk with A := A2 } ai).cfg = Mk.cfg := rfl
      have e2 : (tookM { Mk with A := A2 } ai).l = Mk.l := rfl
      have e3 : (tookM { Mk with A := A2 } ai).seats = Mk.seats := rfl
      have e5 : (tookM { Mk with A := A2 } ai).now = Mk.now := rfl
      clear h5 k5 k5' HT T4 O4 t0 hsp
      generalize tookM { Mk with A := A2 } ai = M5 at *
      obtain ⟨b7, b8, b9, b10, b11⟩ := T5.out.at_.bench
      obtain ⟨-, c12, -, c16, -, -, -⟩ := T5.out.at_.cells
      have HL5 := T5.out.at_.l
      have HS5 := T5.out.at_.seats
      rw [e1] at b7 b8 b9 b10 b11
      rw [e2] at c12 HL5
      rw [e3] at c16 HS5
      have E2 := Lib.hid e2
      have HN5 : Hid (M5.now = Mk.now ∧ M5.cfg = Mk.cfg) := Lib.hid ⟨e5, e1⟩
      have hil : i < Mk.seats.length := by have := RDN.out.2; omega
      have HRP := Lib.hid (fun W (hW : Below w5.heap.size w5 W) => Be.failed_step W Mk.cfg.q (.slice pk.la Mk.l.length pk.lc) (.slice pk.sa Mk.seats.length pk.sc) Mk.l Mk.seats i now (HL5.below hW) (HS5.below hW) RD.out.may hil (HMk.out.1 ▸ RD.out.now0) (HMk.out.1 ▸ RD.out.now1) RD.out.de)
      have t1 := cell_at O5.out 1
      simp at t1
      clear e1 e2 e3 e5 HL5 HS5
      unfold Be.ruV at HRP
      have hb5 := T5.out.at_.lt
      have ht5 := lt_of_obj O5.out
      have hsw0 : (w5.cell? ⟨b, 7, none⟩ = some (.int .i64 Mk.cfg.q.f) ∧ w5.cell? ⟨b, 8, none⟩ = some (.int .i64 Mk.cfg.q.lo) ∧ w5.cell? ⟨b, 9, none⟩ = some (.int .i64 Mk.cfg.q.fo) ∧ w5.cell? ⟨b, 10, none⟩ = some (.int .i64 Mk.cfg.q.nu) ∧ w5.cell? ⟨b, 11, none⟩ = some (.int .i64 Mk.cfg.q.de) ∧ w5.cell? ⟨b, 12, none⟩ = some (.slice pk.la Mk.l.length pk.lc) ∧ w5.cell? ⟨b, 16, none⟩ = some (.slice pk.sa Mk.seats.length pk.sc) ∧ w5.cell? ⟨tb, 1, none⟩ = some (.int .i64 i)) := ⟨b7, b8, b9, b10, b11, c12, c16, t1⟩
      have HSW : Hid (∀ W, Below w5.heap.size w5 W → (W.cell? ⟨b, 7, none⟩ = some (.int .i64 Mk.cfg.q.f) ∧ W.cell? ⟨b, 8, none⟩ = some (.int .i64 Mk.cfg.q.lo) ∧ W.cell? ⟨b, 9, none⟩ = some (.int .i64 Mk.cfg.q.fo) ∧ W.cell? ⟨b, 10, none⟩ = some (.int .i64 Mk.cfg.q.nu) ∧ W.cell? ⟨b, 11, none⟩ = some (.int .i64 Mk.cfg.q.de) ∧ W.cell? ⟨b, 12, none⟩ = some (.slice pk.la Mk.l.length pk.lc) ∧ W.cell? ⟨b, 16, none⟩ = some (.slice pk.sa Mk.seats.length pk.sc) ∧ W.cell? ⟨tb, 1, none⟩ = some (.int .i64 i))) := Lib.hid (fun W hW => ⟨(hW.cell (p := ⟨b, 7, none⟩) hb5).trans b7, (hW.cell (p := ⟨b, 8, none⟩) hb5).trans b8, (hW.cell (p := ⟨b, 9, none⟩) hb5).trans b9, (hW.cell (p := ⟨b, 10, none⟩) hb5).trans b10, (hW.cell (p := ⟨b, 11, none⟩) hb5).trans b11, (hW.cell (p := ⟨b, 12, none⟩) hb5).trans c12, (hW.cell (p := ⟨b, 16, none⟩) hb5).trans c16, (hW.cell (p := ⟨tb, 1, none⟩) ht5).trans t1⟩)
      go_wp2_with fail
      go_region_held3 (fun W => W.cell? ⟨b, 7, none⟩ = some (.int .i64 Mk.cfg.q.f) ∧ W.cell? ⟨b, 8, none⟩ = some (.int .i64 Mk.cfg.q.lo) ∧ W.cell? ⟨b, 9, none⟩ = some (.int .i64 Mk.cfg.q.fo) ∧ W.cell? ⟨b, 10, none⟩ = some (.int .i64 Mk.cfg.q.nu) ∧ W.cell? ⟨b, 11, none⟩ = some (.int .i64 Mk.cfg.q.de) ∧ W.cell? ⟨b, 12, none⟩ = some (.slice pk.la Mk.l.length pk.lc) ∧ W.cell? ⟨b, 16, none⟩ = some (.slice pk.sa Mk.seats.length pk.sc) ∧ W.cell? ⟨tb, 1, none⟩ = some (.int .i64 i))
        (first | exact hsw0 | assumption)
        (first
          | (go_at_call 61; (with_reducible refine (HRP.out w5.drew (Below.refl _ w5).drew).mono ?_); rintro e w6 ⟨sv, rfl, own6, b6⟩; have G6 : Hid (Below w5.heap.size w5 w6) := Lib.hid ((Below.refl _ w5).drew.trans b6); obtain ⟨oa6, cap6, e6⟩ := own6.slice; subst e6; have s6 := HSW.out w6 G6.out; have OW6 := Lib.hid own6; clear own6 b6))
      have hsl : (Be.stepF Mk.cfg.q Mk.l Mk.seats i now).length = Mk.seats.length := Be.stepF_len _ _ _ _ _
      rw [show (↑i : Int).toNat = i by omega, HMk.out.1] at HMA
      generalize Be.stepF Mk.cfg.q Mk.l Mk.seats i now = s9 at *
      generalize Be.benF Mk.cfg.q Mk.l Mk.seats i now = ben at *
      have zw5 := T5.out.kp.size
      have T6 := Lib.hid (T5.out.below G6.out)
      have T7 := Lib.hid (T6.out.seats H0.out (B := w5.heap.size) zw5 OW6.out)
      rw [← HMA.out] at T7
      have O6 := Lib.hid ((obj_below G6.out ht5).trans O5.out)
      have hbt : tb ≠ b := by have := ZT.out; omega
      have O7 := Lib.hid ((show obj (w6.setCell ⟨b, 16, none⟩ (.slice oa6 s9.length cap6)) tb = obj w6 tb from obj_setCell_ne _ ⟨b, 16, none⟩ _ _ hbt).trans O6.out)
      have zf := frozen_at T6.out.at_.box
      have c16' := T6.out.at_.cells.2.2.2.1
      have hb6 := T6.out.at_.lt
      have e9 : MN.l = Mk.l := by rw [HMA.out]; exact E2.out
      have e8 : MN.seats.length = Mk.seats.length := by rw [HMA.out]; exact hsl
      have LN : Hid (0 < MN.l.length ∧ 0 < MN.seats.length) := Lib.hid ⟨by rw [e9]; exact RD.out.l0, by rw [e8]; exact RD.out.s0⟩
      have HMN : Hid (MN.now = now ∧ MN.l = M.l ∧ MN.cfg = M.cfg) := Lib.hid ⟨by rw [HMA.out]; exact HN5.out.1.trans HMk.out.1, e9.trans HMk.out.2.1, by rw [HMA.out]; exact HN5.out.2.trans HMk.out.2.2⟩
      have z0 := cell_at O7.out 0
      have z1 := cell_at O7.out 1
      have z2 := cell_at O7.out 2
      simp at z0 z1 z2
      have hz7 : w.heap.size ≤ (w6.setCell ⟨b, 16, none⟩ (.slice oa6 s9.length cap6)).heap.size := T7.out.kp.size
      clear b7 b8 b9 b10 b11 c12 c16 t1 hsw0 HSW s6 HRP e9 e8 T5 O5 G6 O6 OW6 hsl
      have T8 := Lib.hid (T7.out.below (below_alloc' (o := .cells #[.int .i64 ai, .int .i64 i, .int .i64 ak] 66) (Below.refl _ _)))
      have hrow := hide_row50 ⟨ai, i, ak⟩ (w6.setCell ⟨b, 16, none⟩ (.slice oa6 s9.length cap6))
      simp only at hrow
      have hol : outk.length ≤ 1048576 := by rw [HO.out]; omega
      have hz8 : w.heap.size ≤ ((w6.setCell ⟨b, 16, none⟩ (.slice oa6 s9.length cap6)).alloc (.cells #[.int .i64 ai, .int .i64 i, .int .i64 ak] 66)).heap.size := T8.out.kp.size
      have HOL := Lib.hid hol
      have HZ8 := Lib.hid hz8
      have HG := Lib.hid (show obj ((w6.setCell ⟨b, 16, none⟩ (.slice oa6 s9.length cap6)).alloc (.cells #[.int .i64 ai, .int .i64 i, .int .i64 ak] 66)) w6.heap.size = some (.cells #[.int .i64 ai, .int .i64 i, .int .i64 ak] 66 (0, 0)) from obj_alloc_at _ _ _ (by simp))
      clear hol hz8
      go_wp2_with (at_builtin; refine push50 rfl _ _ rfl w.heap.size (.slice oa7 outk.length cap7) outk ⟨ai, i, ak⟩ rfl T8.out.os w6.heap.size rfl HG.out HOL.out HZ8.out ?_; intro v9 W9 q1 q2 q3)
      exact ⟨⟨k + 1, MN, _, outk ++ [⟨ai, i, ak⟩], by omega, by simp, Lib.hid (T8.out.push H0.out HLA.out q1 q2 q3 LN.out.1 LN.out.2), Lib.hid ⟨R1.out, by rw [List.append_assoc]; exact R2.out, R3.out⟩, HMN, Lib.hid (by simp [HO.out])⟩, by simp [intOf]; omega⟩
end Go.Proofs.YtagpclgappcnbaaGreat
