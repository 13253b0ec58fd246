/-
  An agreement's node: what winning is; a range over votes that may be none. No statement of a claim stands here; each lemma names what it asks.
-/
import Derived.Test.YtnpmjpdndhedgaaG8
set_option linter.unusedSimpArgs false
namespace Go.Proofs.Ytnpmjpdndhedgaa
open Go Go.RowKit Go.ChangeMaps

def wins (s : NodeS) (r : Int) (v : ByteArray) : Prop := v ≠ ⟨#[]⟩ ∧ s.n - s.t ≤ (cnt (s.hd (2, r)) v : Int)
instance (s : NodeS) (r : Int) (v : ByteArray) : Decidable (wins s r v) := inferInstanceAs (Decidable (_ ∧ _))

theorem wonS_lose {s : NodeS} {r : Int} {v : ByteArray} (h : ¬ wins s r v) : wonS s r v = (s, []) := by
  unfold wonS
  rw [if_pos]
  unfold wins at h
  by_cases hv : v = ⟨#[]⟩
  · exact .inl hv
  · exact .inr (by
      have := not_and.1 h hv
      omega)
theorem wonS_win {s : NodeS} {r : Int} {v : ByteArray} (h : wins s r v) : wonS s r v = if s.round ≠ r then (lockS s r v, []) else sayS (lockS s r v) 3 v := by
  unfold wonS
  rw [if_neg]
  rintro (h1 | h1)
  · exact h.1 h1
  · have := h.2; omega
theorem wonS_same (s : NodeS) (r : Int) (v : ByteArray) : (wonS s r v).1.hd = s.hd ∧ (wonS s r v).1.n = s.n ∧ (wonS s r v).1.t = s.t ∧ (wonS s r v).1.me = s.me ∧ (wonS s r v).1.input = s.input ∧ (wonS s r v).1.choice = s.choice ∧ (wonS s r v).1.done = s.done ∧ (wonS s r v).1.round = s.round := by
  obtain ⟨h1, h2, h3, h4, h5, h6, h7, h8, h9⟩ := lockS_hd s r v
  unfold wonS
  split
  · simp
  · split
    · exact ⟨h1, h4, h5, h6, h7, h8, h9, h3⟩
    · rw [(sayS_same _ _ _).1]; exact ⟨h1, h4, h5, h6, h7, h8, h9, h3⟩
theorem wins_won (s : NodeS) (r : Int) (u : ByteArray) (r' : Int) (v : ByteArray) : wins (wonS s r u).1 r' v ↔ wins s r' v := by
  obtain ⟨h1, h2, h3, -⟩ := wonS_same s r u
  unfold wins; rw [h1, h2, h3]
theorem lockS_lr (s : NodeS) (r : Int) (v : ByteArray) : r ≤ (lockS s r v).lr := by
  unfold lockS; split
  · exact Int.le_refl _
  · omega
theorem wonS_twice {s : NodeS} {r : Int} {v : ByteArray} (hr : s.round = r) : wonS (wonS s r v).1 r v = ((wonS s r v).1, []) := by
  by_cases hw : wins s r v
  · have h2 := (wins_won s r v r v).2 hw
    have e1 := wonS_win hw
    have hrr := (wonS_same s r v).2.2.2.2.2.2.2
    rw [wonS_win h2, if_neg (by rw [hrr]; simpa using hr)]
    rw [if_neg (by simpa using hr)] at e1
    have hl : r ≤ (wonS s r v).1.lr := by rw [e1, (sayS_same _ _ _).1]; exact lockS_lr s r v
    have e2 : lockS (wonS s r v).1 r v = (wonS s r v).1 := by unfold lockS; rw [if_neg (by omega)]
    rw [e2]
    have hs : (wonS s r v).1.sent (3, (wonS s r v).1.round) = true := by
      rw [hrr, e1]
      unfold sayS
      split
      · rename_i h; rw [(lockS_hd s r v).2.2.1] at h; exact h
      · simp only; rw [(lockS_hd s r v).2.2.1, upd_same]
    unfold sayS
    rw [if_pos hs]
  · rw [wonS_lose hw, wonS_lose hw]

/-- Two values can't both be wanted by so many. -/
theorem cnt_two (l : Votes) {u v : ByteArray} (h : u ≠ v) : cnt l u + cnt l v ≤ l.length := by
  induction l with
  | nil => simp [cnt]
  | cons e l ih =>
    simp only [cnt, List.countP_cons, List.length_cons] at ih ⊢
    by_cases h1 : e.2.1 = u
    · have h2 : e.2.1 ≠ v := fun h2 => h (h1.symm.trans h2)
      simp only [h1, h2, decide_true, if_true]
      have : decide (u = v) = false := decide_eq_false h
      simp only [this]
      simp
      omega
    · simp only [h1, decide_false]
      by_cases h2 : e.2.1 = v <;> simp [h2] <;> omega
theorem wins_one {s : NodeS} (h : NOk s) {r : Int} {u v : ByteArray} (hu : wins s r u) (hv : wins s r v) : u = v := by
  by_cases e : u = v
  · exact e
  · have h1 := cnt_two (s.hd (2, r)) e
    have h2 := keys_few (h.vok (2, r)) (h.frm (2, r))
    have := hu.2; have := hv.2
    have := h.n0; have := h.t1; have := h.t0
    omega
theorem winner_of {s : NodeS} {r : Int} {v : ByteArray} (h : winner s r = some v) : wins s r v ∧ ∃ e ∈ s.hd (2, r), e.2.1 = v := by
  unfold winner at h
  obtain ⟨e, he, rfl⟩ := Option.map_eq_some_iff.1 h
  have h1 := List.find?_some he
  simp only [Bool.and_eq_true, decide_eq_true_eq] at h1
  exact ⟨h1, e, List.mem_of_find?_eq_some he, rfl⟩
theorem winner_is {s : NodeS} (h : NOk s) {r : Int} {v : ByteArray} (hw : wins s r v) : winner s r = some v := by
  cases hh : winner s r with
  | some u => rw [wins_one h (winner_of hh).1 hw]
  | none =>
    exfalso
    unfold winner at hh
    have h0 := Option.map_eq_none_iff.1 hh
    rw [List.find?_eq_none] at h0
    have hpos : 0 < cnt (s.hd (2, r)) v := by have := hw.2; have := h.t1; have := h.t0; have := h.n0; omega
    obtain ⟨e, he, hev⟩ := List.countP_pos_iff.1 hpos
    have hev : e.2.1 = v := by simpa using hev
    refine h0 e he ?_
    rw [hev]
    simp only [Bool.and_eq_true, decide_eq_true_eq]
    exact hw
theorem winS_won {s : NodeS} (h : NOk s) {r : Int} {v : ByteArray} (hw : wins s r v) : winS s r = wonS s r v := by
  unfold winS; rw [winner_is h hw]
theorem winS_none {s : NodeS} {r : Int} (hw : ∀ e ∈ s.hd (2, r), ¬ wins s r e.2.1) : winS s r = (s, []) := by
  unfold winS
  cases hh : winner s r with
  | none => rfl
  | some v =>
    obtain ⟨h1, e, he, rfl⟩ := winner_of hh
    exact absurd h1 (hw e he)

/-- While the votes of a round are gone through: those that are left, the node, what it said. -/
structure WinSt (s : NodeS) (r : Int) (left : Votes) (st : NodeS) (out : List Msg) : Prop where
  go : ((st, out) = (s, []) ∧ ∀ e ∈ s.hd (2, r), wins s r e.2.1 → e ∈ left) ∨ (∃ v, wins s r v ∧ (st, out) = wonS s r v)
theorem WinSt.start (s : NodeS) (r : Int) : WinSt s r (s.hd (2, r)) s [] := ⟨.inl ⟨rfl, fun _ h _ => h⟩⟩
theorem WinSt.stop {s : NodeS} (h : NOk s) {r : Int} {st : NodeS} {out : List Msg} (g : WinSt s r [] st out) : (st, out) = winS s r := by
  rcases g.go with ⟨h1, h2⟩ | ⟨v, h1, h2⟩
  · rw [h1, winS_none]
    intro e he hw
    cases h2 e he hw
  · rw [h2, winS_won h h1]
theorem WinSt.next {s : NodeS} (h : NOk s) {r : Int} (hr : s.round = r) {left : Votes} {st : NodeS} {out : List Msg} (g : WinSt s r left st out) (e : Int × ByteArray × Nat) :
    WinSt s r (left.filter fun x => x.2.2 != e.2.2) (wonS st r e.2.1).1 (out ++ (wonS st r e.2.1).2) ∨ (∃ e' ∈ s.hd (2, r), wins s r e'.2.1 ∧ e'.2.2 = e.2.2 ∧ e' ≠ e) := by
  rcases g.go with ⟨h1, h2⟩ | ⟨v, h1, h2⟩
  · obtain ⟨rfl, rfl⟩ := Prod.mk.inj h1
    by_cases hw : wins st r e.2.1
    · refine .inl ⟨.inr ⟨e.2.1, hw, by simp⟩⟩
    · rw [wonS_lose hw]
      by_cases hx : ∃ e' ∈ st.hd (2, r), wins st r e'.2.1 ∧ e'.2.2 = e.2.2
      · obtain ⟨e', h3, h4, h5⟩ := hx
        exact .inr ⟨e', h3, h4, h5, fun h6 => hw (by rw [← h6]; exact h4)⟩
      · refine .inl ⟨.inl ⟨rfl, fun x hx' hxw => List.mem_filter.2 ⟨h2 x hx' hxw, ?_⟩⟩⟩
        simp only [bne_iff_ne]
        exact fun h6 => hx ⟨x, hx', hxw, h6⟩
  · left
    refine ⟨.inr ⟨v, h1, ?_⟩⟩
    have hst : st = (wonS s r v).1 := congrArg Prod.fst h2
    have hout : out = (wonS s r v).2 := congrArg Prod.snd h2
    by_cases hw : wins st r e.2.1
    · have hw' : wins s r e.2.1 := by rw [hst] at hw; exact (wins_won s r v r _).1 hw
      have := wins_one h hw' h1
      rw [this, hst, wonS_twice hr, hout]
      simp
    · rw [wonS_lose hw, hst, hout]
      simp
theorem nodup_stamp {l : Votes} (hn : (l.map (·.2.2)).Nodup) {e e' : Int × ByteArray × Nat} (he : e ∈ l) (he' : e' ∈ l) (h : e'.2.2 = e.2.2) : e' = e := by
  induction l with
  | nil => cases he
  | cons x l ih =>
    simp only [List.map_cons, List.nodup_cons] at hn
    rcases List.mem_cons.1 he with rfl | h1 <;> rcases List.mem_cons.1 he' with rfl | h2
    · rfl
    · exact absurd (List.mem_map.2 ⟨e', h2, h⟩) hn.1
    · exact absurd (List.mem_map.2 ⟨e, h1, h.symm⟩) hn.1
    · exact ih hn.2 h1 h2
theorem WinSt.step {s : NodeS} (h : NOk s) {r : Int} (hr : s.round = r) {left : Votes} {st : NodeS} {out : List Msg} (g : WinSt s r left st out) {e : Int × ByteArray × Nat} (he : e ∈ s.hd (2, r)) :
    WinSt s r (left.filter fun x => x.2.2 != e.2.2) (wonS st r e.2.1).1 (out ++ (wonS st r e.2.1).2) := by
  rcases g.next h hr e with h1 | ⟨e', h2, h3, h4, h5⟩
  · exact h1
  · exact absurd (nodup_stamp (h.vok (2, r)).born he h2 h4) h5
theorem WinSt.few {s : NodeS} {r : Int} {left : Votes} {st : NodeS} {out : List Msg} (g : WinSt s r left st out) : out.length ≤ 1 := by
  rcases g.go with ⟨h1, -⟩ | ⟨v, -, h2⟩
  · rw [(Prod.mk.inj h1).2]; simp
  · rw [show out = (wonS s r v).2 from congrArg Prod.snd h2]; exact wonS_len _ _ _
theorem WinSt.same {s : NodeS} {r : Int} {left : Votes} {st : NodeS} {out : List Msg} (g : WinSt s r left st out) : st.round = s.round ∧ st.hd = s.hd := by
  rcases g.go with ⟨h1, -⟩ | ⟨v, -, h2⟩
  · rw [(Prod.mk.inj h1).1]; exact ⟨rfl, rfl⟩
  · rw [show st = (wonS s r v).1 from congrArg Prod.fst h2]; exact ⟨wonS_round _ _ _, (wonS_same _ _ _).1⟩
theorem WinSt.ok {s : NodeS} (h : NOk s) {r : Int} (h0 : 0 ≤ r) (h1 : r ≤ 63) {left : Votes} {st : NodeS} {out : List Msg} (g : WinSt s r left st out) : NOk st := by
  rcases g.go with ⟨h1, -⟩ | ⟨v, -, h2⟩
  · rw [(Prod.mk.inj h1).1]; exact h
  · rw [show st = (wonS s r v).1 from congrArg Prod.fst h2]; exact wonS_ok h _ _ h0 h1

/-! ### a range over votes that may be none -/
def RangeAt (w : World) (r : Nat) (o : Option Nat) (l left : Votes) : Prop := match o with
  | some b => IterAt w r b l.length l left ∧ w.heap[b]? = some (votesObj l) ∧ b ≠ r
  | none => l = [] ∧ left = [] ∧ w.heap[r]? = some (.mapIter none 0 #[] 0)
theorem RangeAt.mod {w w' : World} {r : Nat} {o : Option Nat} {l left : Votes} {S : List Nat} (h : RangeAt w r o l left) (m : Mod S w w') (hr : r ∉ S) (ho : ∀ b, o = some b → b ∉ S) : RangeAt w' r o l left := by
  cases o with
  | some b => exact ⟨h.1.mod m hr, m.get h.2.1 (ho b rfl), h.2.2⟩
  | none => exact ⟨h.1, h.2.1, m.get h.2.2 hr⟩
theorem RangeAt.lt {w : World} {r : Nat} {o : Option Nat} {l left : Votes} (h : RangeAt w r o l left) : r < w.heap.size := by
  cases o with
  | some b => exact h.1.lt
  | none => exact lt_of_block h.2.2

theorem wp_range_any {P : Program} {o : Oper} {a : Act} {w : World} {K : Act → World → Prop} {Q : Exit → Act → World → Prop} (d : Nat) (hd : o.dst = some d) (m : Operand) (t kt et : TypeId) (hop : o.op = Op.range t m) (ht : P.underlying t = some (.map kt et)) (ov : Option Nat) (l : Votes)
    (hm : a.eval m = .map ov) (hb : match ov with | some b => w.heap[b]? = some (votesObj l) | none => l = [])
    (h : ∀ w', RangeAt w' w.heap.size ov l l → Mod [] w w' → w'.heap.size = w.heap.size + 1 → K (a.put (some d) (.pointer (some ⟨w.heap.size, 0, none⟩))) w') : o.wp P a w K Q := by
  rw [← hd] at h
  cases ov with
  | some b =>
    obtain ⟨hr, hi⟩ := iter_new (P := P) (f := fun k : Int => Value.int .i64 k) (g := Value.string) w b l.length l ht hb
    unfold Oper.wp
    simp [execOp, hop, hm, hr, Result.andThen]
    refine h _ ⟨hi, get_alloc hb _, ?_⟩ ((Mod.refl _ _).alloc _) (by simp)
    have := lt_of_block hb
    omega
  | none =>
    have hr := run_range_nilMap (P := P) w t kt et ht
    unfold Oper.wp
    simp [execOp, hop, hm, hr, Result.andThen]
    exact h _ ⟨hb, hb, get_new w _⟩ ((Mod.refl _ _).alloc _) (by simp)

theorem wpList_next_any {P : Program} {ops : Array Oper} {rest : List Oper} {o : Oper} {a : Act} {w : World} {Q : Exit → Act → World → Prop} (hg : o.guard = none) (it : Operand) (hop : o.op = Op.next it false) (r : Nat) (ov : Option Nat) (l left : Votes) (hit : a.eval it = .pointer (some ⟨r, 0, none⟩))
    (hv : VOk l) (hl : ∀ e ∈ left, e ∈ l) (h : RangeAt w r ov l left)
    (h0 : left = [] → wpList P ops Q rest (a.put o.dst (.tuple #[.bool false])) w)
    (h1 : ∀ ek ev eb w', (ek, ev, eb) ∈ left → RangeAt w' r ov l (left.filter fun x => x.2.2 != eb) → Mod [r] w w' → w'.heap.size = w.heap.size →
      (Instr.entry (.pointer (some ⟨r, 0, none⟩))).run P w' = .ok (.tuple #[.int .i64 ek, .string ev]) w' → wpList P ops Q rest (a.put o.dst (.tuple #[.bool true, .int .i64 ek, .string ev])) w') :
    wpList P ops Q (o :: rest) a w := by
  cases ov with
  | some b =>
    refine wpList_next_at (f := fun k : Int => Value.int .i64 k) (g := Value.string) hg it hop r b l.length l left hit h.2.1 hv.lt hv.born hl h.2.2 h.1 h0 ?_
    rintro ⟨ek, ev, eb⟩ w' he hon hm hs hb hent
    exact h1 ek ev eb w' he ⟨hon.at, hb, h.2.2⟩ hm hs hent
  | none =>
    refine wpList_plain hg fun K' hK' => ?_
    have hr : (Instr.next (.pointer (some ⟨r, 0, none⟩)) false o.type).run P w = .ok (.tuple #[.bool false]) w := by
      have hh := h.2.2
      simp only [Instr.next, getObj, Sem.run_bind, Sem.run, hh, Result.andThen]
      rfl
    unfold Oper.wp
    simp [execOp, hop, hit, hr, Result.andThen]
    exact hK' _ _ (h0 h.2.1)
end Go.Proofs.Ytnpmjpdndhedgaa
