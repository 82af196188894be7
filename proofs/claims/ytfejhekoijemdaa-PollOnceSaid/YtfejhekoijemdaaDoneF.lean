import Derived.Test.YtfejhekoijemdaaDel
namespace Go.Proofs.Ytfejhekoijemdaa
open Go.RowKit

structure EndM where
  id : Int
  oa : Option Addr
  len : Nat
  cap : Nat
  slots : Int
instance : Inhabited EndM := ⟨⟨0, none, 0, 0, 0⟩⟩
def EndM.v (e : EndM) : Value := .slice e.oa e.len e.cap
def endL (e : EndM) : List Value := [.int .i64 e.id, .slice e.oa e.len e.cap, .int .i64 e.slots]
theorem endL_length (e : EndM) : (endL e).length = 3 := rfl
theorem endL_one (e : EndM) : allOne (endL e).toArray = true := rfl
structure IsEnd (w : World) (V : Nat → Prop) (e : EndM) (o : OneM) : Prop where
  id : e.id = o.id
  slots : e.slots = o.slots
  vt : VoteAt w V e.v o.votes
/-- what is handed out: of each poll its end -/
def EndsAt (w : World) (V : Nat → Prop) (es : List EndM) (l : List OneM) : Prop :=
  es.length = l.length ∧ ∀ (i : Nat) (e : EndM) (o : OneM), es[i]? = some e → l[i]? = some o → IsEnd w V e o
theorem EndsAt.frame {w W : World} {V V' : Nat → Prop} {es : List EndM} {l : List OneM} (h : EndsAt w V es l) (hz : w.heap.size ≤ W.heap.size) (hk : ∀ n, n < w.heap.size → V n → obj W n = obj w n) (hV : ∀ n, V n → V' n) : EndsAt W V' es l :=
  ⟨h.1, fun i e o h1 h2 => ⟨(h.2 i e o h1 h2).id, (h.2 i e o h1 h2).slots, (h.2 i e o h1 h2).vt.frame hz hk hV⟩⟩
theorem EndsAt.snoc {w : World} {V : Nat → Prop} {es : List EndM} {l : List OneM} (h : EndsAt w V es l) {e : EndM} {o : OneM} (he : IsEnd w V e o) : EndsAt w V (es ++ [e]) (l ++ [o]) := by
  refine ⟨by simp [h.1], fun i e' o' h1 h2 => ?_⟩
  rcases get_snoc h1 with ⟨i1, g1⟩ | ⟨i1, g1⟩
  · rcases get_snoc h2 with ⟨i2, g2⟩ | ⟨i2, g2⟩
    · exact h.2 i e' o' g1 g2
    · have := h.1; omega
  · rcases get_snoc h2 with ⟨i2, g2⟩ | ⟨i2, g2⟩
    · have := h.1; omega
    · subst g1 g2; exact he
theorem info43 : (Try.prog.info? 43).map (fun i => (i.zero, i.size, i.bytes)) = some (some (.agg #[.int .i64 0, .slice none 0 0, .int .i64 0]), 3, 40) := by kernel_rfl
theorem push39 {ops : Array Oper} {rest : List Oper} {o : Oper} {a : Act} {w : World} {Q : Exit → Act → World → Prop} (hgd : o.guard = none) (s x : Operand) (ho : o.op = .call { callee := .builtin .append, args := #[s, x], argTypes := #[39, 39] })
    (base : Nat) (v : Value) (xs : List EndM) (y : EndM) (hs : a.eval s = v) (hown : OwnS w base 43 3 endL v xs) (g : Nat) (hx : a.eval x = .slice (some ⟨g, 0, none⟩) 1 1) (hg : obj w g = some (.cells (endL y).toArray 43 (0, 0)))
    (hlen : xs.length ≤ 1048576) (hbase : base ≤ w.heap.size)
    (h : ∀ v' w', OwnS w' base 43 3 endL v' (xs ++ [y]) → Below base w w' → (∀ k, k < w.heap.size → v.ownBlock ≠ some k → obj w' k = obj w k) → wpList Try.prog ops Q rest (a.put o.dst v') w') : wpList Try.prog ops Q (o :: rest) a w := by
  obtain ⟨i0, hi, hz0, hz1, hz2⟩ := info_parts info43
  exact wpList_push Try.underlying39 hi hz0 hz1 hz2 (by simp [Value.cells]) (by decide) endL endL_length endL_one hgd s x ho base v xs y hs hown g hx hg hlen (by decide) hbase h
theorem tw_all {α : Type} {p : α → Bool} : ∀ {l : List α} {x : α}, x ∈ l.takeWhile p → p x = true
  | [], x, h => by simp at h
  | y :: r, x, h => by
    by_cases hy : p y = true
    · rw [List.takeWhile_cons_of_pos hy] at h
      rcases List.mem_cons.1 h with e | e
      · rw [e]; exact hy
      · exact tw_all e
    · rw [List.takeWhile_cons_of_neg hy] at h; simp at h
def dropS (S : SetM) (k : Nat) : SetM := { S with l := S.l.drop k }
theorem doneN_le (S : SetM) : doneN S ≤ S.l.length := by
  unfold doneN
  exact (List.takeWhile_sublist _).length_le
theorem doneN_at {S : SetM} {k : Nat} {o : OneM} {r : List OneM} (hk : k ≤ doneN S) (h : S.l.drop k = o :: r) : (isDone S o = true → k + 1 ≤ doneN S) ∧ (isDone S o = false → k = doneN S) := by
  have e : S.l = S.l.take k ++ o :: r := by rw [← h, List.take_append_drop]
  have hkl : k ≤ S.l.length := Nat.le_trans hk (doneN_le S)
  have ha : ∀ x ∈ S.l.take k, isDone S x = true := by
    intro x hx
    have h1 : S.l.take k = (S.l.takeWhile (isDone S)).take k := by
      have h2 := List.takeWhile_append_dropWhile (p := isDone S) (l := S.l)
      have : S.l.take k = (S.l.takeWhile (isDone S) ++ S.l.dropWhile (isDone S)).take k := by rw [h2]
      rw [this, List.take_append_of_le_length hk]
    rw [h1] at hx
    exact tw_all (List.mem_of_mem_take hx)
  have hl : (S.l.take k).length = k := by simp; omega
  have h3 : S.l.takeWhile (isDone S) = S.l.take k ++ (o :: r).takeWhile (isDone S) := by
    conv => lhs; rw [e]
    exact List.takeWhile_append_of_pos ha
  constructor
  · intro hd
    unfold doneN
    rw [h3, List.takeWhile_cons_of_pos hd]
    simp [hl]
  · intro hd
    unfold doneN
    rw [h3, List.takeWhile_cons_of_neg (by simp [hd])]
    simp [hl]
theorem SetW.pop {w W : World} {M V : Nat → Prop} {b : Nat} {lv nv : Value} {p : Nat × Nat} {ps : List (Nat × Nat)} {S S' : SetM} {o : OneM} (h : SetW w M V b lv (p :: ps) S) (hl : S.l = o :: S'.l) (h1 : S'.pref = S.pref) (h2 : S'.conf = S.conf) (h3 : S'.last = S.last)
    (hb : obj W b = some (.cells #[.int .i64 S.pref, .int .i64 S.conf, .int .i64 S.last, nv] 78 (0, 0))) (hr : RowP W nv ps) (hz : w.heap.size ≤ W.heap.size)
    (hk : ∀ k, k < w.heap.size → k ≠ b → lv.ownBlock ≠ some k → obj W k = obj w k) (hq : nv.ownBlock = lv.ownBlock) : SetW W M V b nv ps S' := by
  refine ⟨by rw [h1, h2, h3]; exact hb, hr, ?_, fun i q o' g1 g2 => ?_, ?_, ?_, h.mb, fun g hg => h.ml g (hq ▸ hg), fun q hq => h.mp q (List.mem_cons_of_mem _ hq), h.dis, fun n hn => Nat.lt_of_lt_of_le (h.mlt n hn) hz, fun n hn => Nat.lt_of_lt_of_le (h.vlt n hn) hz⟩
  · have := h.len; rw [hl] at this; simpa using this
  · obtain ⟨v, ho⟩ := h.one (i + 1) q o' (by simpa using g1) (by rw [hl]; simpa using g2)
    obtain ⟨es, clk, hm1, hr1⟩ := ho.map
    have hb1 : q.1 ≠ b := fun e => by have := h.box; rw [← e, ho.at_] at this; simp at this
    have hb2 : q.2 ≠ b := fun e => by have := h.box; rw [← e, hm1] at this; simp at this
    exact ⟨v, (hk _ (lt_of_obj ho.at_) hb1 (h.row.ne ho.at_ fun cur e => by simp at e)).trans ho.at_, ⟨es, clk, (hk _ (lt_of_obj hm1) hb2 (h.row.ne hm1 fun cur e => by simp at e)).trans hm1, hr1⟩, ho.vt.frame hz (fun n hn hv => hk n hn (fun e => h.dis n (by rw [e]; exact h.mb) hv) (fun e => h.dis n (h.ml n e) hv)) fun _ h => h⟩
  · exact (List.nodup_cons.1 h.nd1).2
  · exact (List.nodup_cons.1 h.nd2).2
end Go.Proofs.Ytfejhekoijemdaa
