/-
  Rows of messages of one's own; NetOrders in plain words. No statement of a claim stands here; each lemma names what it asks.
-/
import Derived.Test.YtbjgjagbepopfaaNP
import Derived.Test.YtbjgjagbepopfaaNC
import Derived.Test.YtbjgjagbepopfaaND
set_option linter.unusedSimpArgs false
namespace Go.Proofs.Ytbjgjagbepopfaa
open Go Go.RowKit Go.ChangeMaps

abbrev msgCells (l : List Msg) : List Value := l.flatMap Msg.cells
theorem msgCells_len (l : List Msg) : (msgCells l).length = l.length * 4 := by
  induction l with
  | nil => rfl
  | cons m l ih => simp only [msgCells, List.flatMap_cons, List.length_append, List.length_cons] at ih ⊢; rw [ih]; simp [Msg.cells]; omega
theorem msgCells_at {l : List Msg} {i : Nat} {m : Msg} (h : l[i]? = some m) (j : Nat) (u : Value) (hu : m.cells[j]? = some u) : (msgCells l)[i * 4 + j]? = some u := by
  induction l generalizing i with
  | nil => simp at h
  | cons x l ih =>
    have hj : j < 4 := by have := (List.getElem?_eq_some_iff.1 hu).1; simpa [Msg.cells] using this
    have hx : x.cells.length = 4 := rfl
    simp only [msgCells, List.flatMap_cons]
    cases i with
    | zero =>
      simp at h
      subst h
      rw [List.getElem?_append_left (by omega)]
      simpa using hu
    | succ i =>
      rw [List.getElem?_append_right (by omega)]
      have := ih (i := i) (by simpa using h)
      rw [show (i + 1) * 4 + j - x.cells.length = i * 4 + j from by omega]
      exact this

/-- A row of messages of one's own, in a new block. -/
structure MsgsAt (B : Nat) (w : World) (v : Value) (l : List Msg) : Prop where
  row : w.ownsRow 0 29 4 v l.length (msgCells l)
  own : ∀ k, v.ownBlock = some k → B ≤ k
theorem MsgsAt.mod {B : Nat} {w w' : World} {v : Value} {l : List Msg} {S : List Nat} (h : MsgsAt B w v l) (m : Mod S w w') (hS : ∀ k, v.ownBlock = some k → k ∉ S) : MsgsAt B w' v l := ⟨row_mod h.row m hS, h.own⟩
theorem MsgsAt.mod0 {B : Nat} {w w' : World} {v : Value} {l : List Msg} (h : MsgsAt B w v l) (m : Mod [] w w') : MsgsAt B w' v l := h.mod m (fun _ _ => by simp)

theorem elemMsg : Elem Try.prog 22 29 4 40 :=
  Elem.of (z := Msg.zero.v) Try.underlying22 (by kernel_rfl) rfl (by decide)

/-- One more message. -/
theorem MsgsAt.app {B : Nat} {w : World} {v : Value} {l : List Msg} (h : MsgsAt B w v l) (hB : B ≤ w.heap.size) (x : Msg) (hl : l.length ≤ 5000) :
    ∃ v' w', (Builtin.append_ #[22, 22] 22 #[v, .slice (some ⟨w.heap.size, 0, none⟩) 1 1]).run Try.prog (w.alloc (msgObj x)) = .ok v' w' ∧
      MsgsAt B w' v' (l ++ [x]) ∧ Mod v.ownBlock.toList w w' ∧ (∀ k, v'.ownBlock = some k → v.ownBlock = some k ∨ w.heap.size ≤ k) := by
  have hr := row_mod h.row (Mod.alloc (Mod.refl [] w) (msgObj x)) (fun _ _ => by simp)
  obtain ⟨v', w', e, ho, hm, hk, -⟩ := elemMsg.app (w.alloc (msgObj x)) 22 v l.length (msgCells l) hr w.heap.size 1 #[.int .i64 x.frm, .int .i64 x.to, .int .i64 x.kind, .string x.body] 29 (0, 0) (get_new _ _) rfl (by simp [Value.oneCell']) (by unfold maxLen; omega) (by omega)
  have hk' : ∀ k, v'.ownBlock = some k → v.ownBlock = some k ∨ w.heap.size ≤ k := fun k hkk => by
    rcases hk k hkk with h1 | h1
    · exact .inl h1
    · right; simp at h1; omega
  refine ⟨v', w', e, ⟨?_, fun k hkk => ?_⟩, ?_, hk'⟩
  · have e1 : msgCells (l ++ [x]) = msgCells l ++ x.cells := by simp [msgCells]
    rw [e1, List.length_append]
    exact ho
  · rcases hk' k hkk with h1 | h1
    · exact h.own k h1
    · omega
  · exact ((Mod.refl _ _).alloc _).trans hm
theorem MsgsAt.form {B : Nat} {w : World} {v : Value} {l : List Msg} (h : MsgsAt B w v l) : ∃ a c, v = .slice a l.length c := row_slice h.row
theorem MsgsAt.at {B : Nat} {w : World} {v : Value} {l : List Msg} (h : MsgsAt B w v l) {i : Nat} {m : Msg} (hi : l[i]? = some m) : ∃ g c, v = .slice (some ⟨g, 0, none⟩) l.length c ∧ ∀ (j : Nat) (u : Value), m.cells[j]? = some u → w.cell? ⟨g, i * 4 + j, none⟩ = some u := by
  have hil := (List.getElem?_eq_some_iff.1 hi).1
  obtain ⟨g, c, e, hc⟩ := row_pos h.row (by omega)
  exact ⟨g, c, e, fun j u hu => hc _ u (msgCells_at hi j u hu)⟩
theorem MsgsAt.not_foot {B : Nat} {w : World} {v : Value} {l : List Msg} (h : MsgsAt B w v l) {p : Loc} {s : NetS} (hn : NetAt w p s) (k : Nat) (hk : v.ownBlock = some k) : k ∉ p.foot := by
  obtain ⟨c, hc⟩ := row_block h.row hk
  exact hn.ne hc (by decide)

/-- Numbered from k on. -/
def numbered : Nat → List Msg → List (Int × Msg)
  | _, [] => []
  | k, m :: l => ((k : Int), m) :: numbered (k + 1) l
theorem numbered_snoc (l : List Msg) (m : Msg) : ∀ k, numbered k (l ++ [m]) = numbered k l ++ [(((k + l.length : Nat) : Int), m)] := by
  induction l with
  | nil => intro k; rfl
  | cons x l ih =>
    intro k
    simp only [List.cons_append, numbered, ih, List.length_cons]
    rw [show k + 1 + l.length = k + (l.length + 1) from by omega]

/-- What holds of the net, with what was sent, and how many came. -/
structure Ord (s : NetS) (sent : List Msg) (g : Nat) : Prop where
  ok : s.Ok
  parties : s.parties = 3
  room : s.room = 200
  cuts : s.cuts = []
  downs : s.downs = []
  way : s.way.map (fun e => (e.1, e.2.1)) = numbered (g + 1) (sent.drop g)
  last : s.last = sent.length
  sum : s.sent = sent.length
  le : g ≤ sent.length
  to2 : ∀ m ∈ sent, m.to = 2

theorem Ord.send {s : NetS} {sent : List Msg} {g : Nat} (h : Ord s sent g) {m : Msg} (h2 : m.to = 2) (hf : 1 ≤ m.frm ∧ m.frm ≤ 3) (hk : 0 ≤ m.kind) :
    ((s.send m).2.2 = 0 ∧ Ord (s.send m).1 (sent ++ [m]) g) ∨ ((s.send m).2.2 ≠ 0 ∧ (s.send m).1 = s) := by
  have hp : (s.party m.frm && s.party m.to) = true := by
    unfold NetS.party
    rw [h.parties, h2]
    simp
    omega
  have hd : ∀ k, s.down k = false := fun k => by unfold NetS.down; rw [h.downs]; rfl
  have ho := NetS.send_ok h.ok m
  unfold NetS.send at ho ⊢
  rw [hp, if_pos rfl, if_neg (by omega)] at ho ⊢
  by_cases hl : 4096 < m.body.size
  · rw [if_pos hl]; exact .inr ⟨by simp, rfl⟩
  · rw [if_neg hl] at ho ⊢
    rw [hd, hd, if_neg (by simp), if_neg (by simp)] at ho ⊢
    unfold NetS.put at ho ⊢
    by_cases hr : (s.way.length : Int) = s.room
    · rw [if_pos hr]; exact .inr ⟨by simp, rfl⟩
    · rw [if_neg hr] at ho ⊢
      refine .inl ⟨rfl, ho, h.parties, h.room, h.cuts, h.downs, ?_, ?_, ?_, ?_, ?_⟩
      · have hle := h.le
        show (s.way ++ [(s.last + 1, m, s.cw)]).map _ = _
        rw [List.map_append, h.way, List.drop_append_of_le_length hle, numbered_snoc, h.last, List.length_drop]
        simp only [List.map_cons, List.map_nil]
        rw [show ((g + 1 + (sent.length - g) : Nat) : Int) = (sent.length : Int) + 1 from by omega]
      · show s.last + 1 = _; rw [h.last, List.length_append]; simp
      · show s.sent + 1 = _; rw [h.sum, List.length_append]; simp
      · rw [List.length_append]; have := h.le; omega
      · intro x hx
        rcases List.mem_append.1 hx with hx | hx
        · exact h.to2 x hx
        · rw [List.mem_singleton.1 hx]; exact h2

theorem numbered_len (l : List Msg) : ∀ k, (numbered k l).length = l.length := by
  induction l with
  | nil => intro k; rfl
  | cons x l ih => intro k; simp [numbered, ih]

theorem Ord.cut {s : NetS} {sent : List Msg} {g : Nat} (h : Ord s sent g) (k : Seat) : s.cut k = false := by unfold NetS.cut; rw [h.cuts]; rfl
theorem Ord.free {s : NetS} {sent : List Msg} {g : Nat} (h : Ord s sent g) (k : Int) : s.free k = look s.way k := by
  unfold NetS.free
  cases look s.way k with
  | none => rfl
  | some m => simp [h.cut]
theorem Ord.wait {s : NetS} {sent : List Msg} {g : Nat} (h : Ord s sent g) : s.waiting 2 = s.way.map (·.1) := by
  unfold NetS.waiting
  rw [List.filter_eq_self.2]
  intro e he
  have h1 : (e.1, e.2.1) ∈ numbered (g + 1) (sent.drop g) := by rw [← h.way]; exact List.mem_map.2 ⟨e, he, rfl⟩
  have h2 : ∀ (l : List Msg) (k : Nat), (e.1, e.2.1) ∈ numbered k l → e.2.1 ∈ l := by
    intro l
    induction l with
    | nil => intro k h; cases h
    | cons x l ih =>
      intro k h
      rcases List.mem_cons.1 h with h | h
      · rw [Prod.mk.injEq] at h; rw [h.2]; exact .head _
      · exact .tail _ (ih _ h)
  simpa using h.to2 _ (List.mem_of_mem_drop (h2 _ _ h1))
theorem Ord.wait_len {s : NetS} {sent : List Msg} {g : Nat} (h : Ord s sent g) : (s.waiting 2).length = sent.length - g := by
  have := congrArg List.length h.way
  rw [List.length_map, numbered_len, List.length_drop] at this
  rw [h.wait, List.length_map, this]

theorem Ord.take {s : NetS} {sent : List Msg} {g : Nat} (h : Ord s sent g) :
    (s.oldest 2 = (0, 300) ∧ s.take 0 = (s, Msg.zero, 300)) ∨ ∃ m, sent[g]? = some m ∧ s.oldest 2 = (((g + 1 : Nat) : Int), 0) ∧ (s.take ((g + 1 : Nat) : Int)).2 = (m, 0) ∧ Ord (s.take ((g + 1 : Nat) : Int)).1 sent (g + 1) := by
  have hw := h.way
  have hp : s.party 2 = true := by unfold NetS.party; rw [h.parties]; simp
  cases hs : sent.drop g with
  | nil =>
    left
    rw [hs] at hw
    have hw0 : s.way = [] := by simpa [numbered] using hw
    refine ⟨?_, ?_⟩
    · unfold NetS.oldest; rw [hp, if_pos rfl, h.wait, hw0]; rfl
    · unfold NetS.take; rw [h.free, hw0]; rfl
  | cons m l =>
    right
    have hg : sent[g]? = some m := by
      have := List.head?_drop (l := sent) (i := g)
      rw [hs] at this
      exact this.symm
    rw [hs] at hw
    have hgl : g < sent.length := (List.getElem?_eq_some_iff.1 hg).1
    have hd1 : sent.drop (g + 1) = l := by rw [← List.drop_drop, hs]; rfl
    match hwe : s.way, hw with
    | (k, m', st) :: r, hw =>
      simp only [List.map_cons, numbered, List.cons.injEq, Prod.mk.injEq] at hw
      obtain ⟨⟨rfl, rfl⟩, hr⟩ := hw
      have hlk : look s.way ((g + 1 : Nat) : Int) = some m' := by rw [hwe, look_cons, if_pos rfl]
      have hfr : s.free ((g + 1 : Nat) : Int) = some m' := by rw [h.free, hlk]
      have htk : s.take ((g + 1 : Nat) : Int) = (s.gone ((g + 1 : Nat) : Int), m', 0) := by unfold NetS.take; rw [hfr]
      refine ⟨m', hg, ?_, ?_, ?_⟩
      · unfold NetS.oldest
        rw [hp, if_pos rfl, h.wait, hwe, List.map_cons, List.find?_cons]
        dsimp only
        rw [hfr]
        rfl
      · rw [htk]
      · rw [htk]
        have hrs := h.ok.rising
        rw [hwe, List.map_cons, List.pairwise_cons] at hrs
        refine ⟨NetS.gone_ok h.ok hlk, h.parties, h.room, h.cuts, h.downs, ?_, h.last, h.sum, hgl, h.to2⟩
        show (s.way.filter _).map _ = _
        rw [hwe, List.filter_cons, if_neg (by simp), List.filter_eq_self.2, hr, hd1]
        intro e he
        have := hrs.1 e.1 (List.mem_map.2 ⟨e, he, rfl⟩)
        simp
        omega

theorem made_ord (s : NetS) (ho : s.Ok) (h1 : s.parties = 3) (h2 : s.room = 200) (h3 : s.cuts = []) (h4 : s.downs = []) (h5 : s.way = []) (h6 : s.last = 0) (h7 : s.sent = 0) : Ord s [] 0 :=
  ⟨ho, h1, h2, h3, h4, by rw [h5]; rfl, by rw [h6]; rfl, by rw [h7]; rfl, by simp, by simp⟩
end Go.Proofs.Ytbjgjagbepopfaa
