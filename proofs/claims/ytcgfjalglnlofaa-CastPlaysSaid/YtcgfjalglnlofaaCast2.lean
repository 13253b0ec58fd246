/-
  A broadcast's node, walked further: is, send, Take. No statement of a claim stands here; each contract names what it asks.
-/
import Derived.Test.YtcgfjalglnlofaaCast1
set_option linter.unusedSimpArgs false
namespace Go.Proofs.Ytcgfjalglnlofaa
open Go Go.RowKit

def nodeCells (s : NodeS) (be br : Nat) : Array Value := #[.int .i64 s.n, .int .i64 s.t, .int .i64 s.me, .int .i64 s.dealer, .map (some be), .map (some br), .bool s.began, .bool s.heard,
  .string s.ev, .bool s.ei, .string s.rv, .bool s.ri, .string s.sv, .bool s.si]

/-- Block x is a node, its votes in the blocks be and br. -/
structure NodeAt (w : World) (x be br : Nat) (s : NodeS) : Prop where
  cells : w.heap[x]? = some (.cells (nodeCells s be br) 66 (0, 0))
  e : w.heap[be]? = some (votesObj s.E)
  r : w.heap[br]? = some (votesObj s.R)
  er : be ≠ br
  xe : x ≠ be
  xr : x ≠ br

theorem NodeAt.mod {w w' : World} {x be br : Nat} {s : NodeS} {S : List Nat} (h : NodeAt w x be br s) (m : Mod S w w') (h1 : x ∉ S) (h2 : be ∉ S) (h3 : br ∉ S) : NodeAt w' x be br s :=
  ⟨m.get h.cells h1, m.get h.e h2, m.get h.r h3, h.er, h.xe, h.xr⟩

theorem is_some (b : Nat) (n : Int) (w : World) (hn : 0 < n) (hc : w.cell? ⟨b, 0, none⟩ = some (.int .i64 n)) :
    Calls Try.prog 27 #[.pointer (some ⟨b, 0, none⟩)] w fun e w' => e = .returned (.bool true) ∧ w' = w := by
  have e : decide (n > 0) = true := by simp; omega
  go_enter Try.func27, Try.ntmps27
  go_wp2
  go_ret
  exact ⟨rfl, rfl⟩
theorem is_zero (b : Nat) (n : Int) (w : World) (hn : n ≤ 0) (hc : w.cell? ⟨b, 0, none⟩ = some (.int .i64 n)) :
    Calls Try.prog 27 #[.pointer (some ⟨b, 0, none⟩)] w fun e w' => e = .returned (.bool false) ∧ w' = w := by
  have e : decide (n > 0) = false := by simp; omega
  go_enter Try.func27, Try.ntmps27
  go_wp2
  go_ret
  exact ⟨rfl, rfl⟩
theorem is_nil (w : World) :
    Calls Try.prog 27 #[.pointer none] w fun e w' => e = .returned (.bool false) ∧ w' = w := by
  go_enter Try.func27, Try.ntmps27
  go_wp2
  go_ret
  exact ⟨rfl, rfl⟩

theorem send_not (x b off : Nat) (kind : Int) (v : ByteArray) (w : World) (hc : w.cell? ⟨b, off + 1, none⟩ = some (.bool true)) :
    Calls Try.prog 29 #[.pointer (some ⟨x, 0, none⟩), .pointer (some ⟨b, off, none⟩), .int .i64 kind, .string v] w fun e w' => e = .returned (.slice none 0 0) ∧ w' = w := by
  go_enter Try.func29, Try.ntmps29
  go_wp2
  go_ret
  exact ⟨rfl, rfl⟩

theorem send_yes (x off : Nat) (kind me : Int) (v ov : ByteArray) (w : World) (h0 : w.cell? ⟨x, off, none⟩ = some (.string ov)) (hc : w.cell? ⟨x, off + 1, none⟩ = some (.bool false))
   (hm : w.cell? ⟨x, 2, none⟩ = some (.int .i64 me)) (hf : ∀ i, w.frozen? ⟨x, i, none⟩ = false) (hoff : 2 < off) :
    Calls Try.prog 29 #[.pointer (some ⟨x, 0, none⟩), .pointer (some ⟨x, off, none⟩), .int .i64 kind, .string v] w fun e w' => e = .returned (.slice (some ⟨w.heap.size, 0, none⟩) 1 1) ∧
      w' = ((w.setCell ⟨x, off, none⟩ (.string v)).setCell ⟨x, off + 1, none⟩ (.bool true)).alloc (.cells #[.int .i64 kind, .int .i64 me, .string v] 36) := by
  go_enter Try.func29, Try.ntmps29
  go_wp2
  go_ret
  exact ⟨rfl, rfl⟩

theorem send_mod (x off : Nat) (kind me : Int) (v ov : ByteArray) (w : World) (h0 : w.cell? ⟨x, off, none⟩ = some (.string ov)) (hc : w.cell? ⟨x, off + 1, none⟩ = some (.bool false))
   (hm : w.cell? ⟨x, 2, none⟩ = some (.int .i64 me)) (hf : ∀ i, w.frozen? ⟨x, i, none⟩ = false) (hoff : 2 < off) :
    Calls Try.prog 29 #[.pointer (some ⟨x, 0, none⟩), .pointer (some ⟨x, off, none⟩), .int .i64 kind, .string v] w fun e w' => e = .returned (.slice (some ⟨w.heap.size, 0, none⟩) 1 1) ∧
      Hid (w' = ((w.setCell ⟨x, off, none⟩ (.string v)).setCell ⟨x, off + 1, none⟩ (.bool true)).alloc (.cells #[.int .i64 kind, .int .i64 me, .string v] 36)) ∧ Mod [x] w w' :=
  (send_yes x off kind me v ov w h0 hc hm hf hoff).mono fun e w' ⟨h1, h2⟩ => ⟨h1, h2, by rw [h2]; exact (by repeat' (first | exact Mod.refl _ _ | assumption | refine Mod.drewN ?_ _ | refine Mod.drew ?_ | refine Mod.alloc ?_ _ | refine Mod.setCell ?_ (by simp) _ | refine Mod.setBlock ?_ (by simp) _))⟩

/-- What is handed back: nothing, or one message in a new block. -/
def MsgsAt (B : Nat) (w : World) (v : Value) (out : List Msg) : Prop :=
  (out = [] ∧ v = .slice none 0 0) ∨ ∃ m b, out = [m] ∧ v = .slice (some ⟨b, 0, none⟩) 1 1 ∧ B ≤ b ∧ w.heap[b]? = some (.cells m.cells.toArray 36 (0, 0))

def TakePost (w : World) (x be br : Nat) (s : NodeS) (m : Msg) (e : Ending) (w' : World) : Prop :=
  ∃ v, e = .returned v ∧ NodeAt w' x be br (takeS s m).1 ∧ MsgsAt w.heap.size w' v (takeS s m).2 ∧ Mod [x, be, br] w w'


theorem take_idle {w : World} {x be br : Nat} {s : NodeS} {m : Msg} (h : NodeAt w x be br s) (ht : takeS s m = (s, [])) :
    ∀ w', Mod [] w w' → TakePost w x be br s m (.returned (.slice none 0 0)) w' := fun w' hm =>
  ⟨_, rfl, by rw [ht]; exact h.mod hm (by simp) (by simp) (by simp), .inl ⟨by rw [ht], rfl⟩, hm.mono (by simp)⟩

theorem take_bad (w : World) (x be br : Nat) (s : NodeS) (m : Msg) (h : NodeAt w x be br s) (hn : 0 < s.n) (hb : mayBe s m = false) :
    Calls Try.prog 22 #[.pointer (some ⟨x, 0, none⟩), .agg m.cells.toArray] w (TakePost w x be br s m) := by
  have c0 : w.cell? ⟨x, 0, none⟩ = some (.int .i64 s.n) := by rw [cell_at h.cells]; rfl
  have hx := lt_of_block h.cells
  have hpost := take_idle (m := m) h (by simp [takeS, hb])
  obtain ⟨kind, from_, val⟩ := m
  simp only [Msg.cells, mayBe] at *
  have HP := hid hpost
  clear hpost h
  by_cases h1 : from_ < 1
  · have d1 : decide (from_ < 1) = true := by simpa using h1
    go_enter Try.func22, Try.ntmps22
    go_wp2_with fail
    go_quiet ((go_at_call 27; exact Calls.quiet_of_same (is_some _ _ _ hn (by go_simp))))
    go_wp2
    go_ret
    exact HP.out _ (by repeat' (first | exact Mod.refl _ _ | assumption | refine Mod.drewN ?_ _ | refine Mod.drew ?_ | refine Mod.alloc ?_ _ | refine Mod.setCell ?_ (by simp) _ | refine Mod.setBlock ?_ (by simp) _))
  · have d1 : decide (from_ < 1) = false := by simpa using h1
    by_cases h2 : s.n < from_
    · have d2 : decide (s.n < from_) = true := by simpa using h2
      go_enter Try.func22, Try.ntmps22
      go_wp2_with fail
      go_quiet ((go_at_call 27; exact Calls.quiet_of_same (is_some _ _ _ hn (by go_simp))))
      go_wp2
      go_ret
      exact HP.out _ (by repeat' (first | exact Mod.refl _ _ | assumption | refine Mod.drewN ?_ _ | refine Mod.drew ?_ | refine Mod.alloc ?_ _ | refine Mod.setCell ?_ (by simp) _ | refine Mod.setBlock ?_ (by simp) _))
    · have d2 : decide (s.n < from_) = false := by simpa using h2
      have h3 : 4096 < val.size := by simp at hb; omega
      have d3 : decide ((4096 : Int) < (val.size : Int)) = true := by simp; omega
      go_enter Try.func22, Try.ntmps22
      go_wp2_with fail
      go_quiet ((go_at_call 27; exact Calls.quiet_of_same (is_some _ _ _ hn (by go_simp))))
      go_wp2
      go_ret
      exact HP.out _ (by repeat' (first | exact Mod.refl _ _ | assumption | refine Mod.drewN ?_ _ | refine Mod.drew ?_ | refine Mod.alloc ?_ _ | refine Mod.setCell ?_ (by simp) _ | refine Mod.setBlock ?_ (by simp) _))

/-- Another kind of message. -/
theorem take_other (w : World) (x be br : Nat) (s : NodeS) (m : Msg) (h : NodeAt w x be br s) (hn : 0 < s.n) (hb : mayBe s m = true) (k1 : m.kind ≠ 1) (k2 : m.kind ≠ 2) (k3 : m.kind ≠ 3) :
    Calls Try.prog 22 #[.pointer (some ⟨x, 0, none⟩), .agg m.cells.toArray] w (TakePost w x be br s m) := by
  have c0 : w.cell? ⟨x, 0, none⟩ = some (.int .i64 s.n) := by rw [cell_at h.cells]; rfl
  have hx := lt_of_block h.cells
  have hpost := take_idle (m := m) h (by simp [takeS, k1, k2, k3])
  obtain ⟨kind, from_, val⟩ := m
  simp only [Msg.cells, mayBe] at *
  have HP := hid hpost
  simp only [Bool.and_eq_true, decide_eq_true_eq] at hb
  have d1 : decide (from_ < 1) = false := by simp; omega
  have d2 : decide (s.n < from_) = false := by simp; omega
  have d3 : decide ((4096 : Int) < (val.size : Int)) = false := by simp; omega
  have e1 : (kind == 1) = false := by simpa using k1
  have e2 : (kind == 2) = false := by simpa using k2
  have e3 : (kind == 3) = false := by simpa using k3
  clear hpost h hb k1 k2 k3
  go_enter Try.func22, Try.ntmps22
  go_wp2_with fail
  go_quiet ((go_at_call 27; exact Calls.quiet_of_same (is_some _ _ _ hn (by go_simp))))
  go_wp2
  go_ret
  exact HP.out _ (by repeat' (first | exact Mod.refl _ _ | assumption | refine Mod.drewN ?_ _ | refine Mod.drew ?_ | refine Mod.alloc ?_ _ | refine Mod.setCell ?_ (by simp) _ | refine Mod.setBlock ?_ (by simp) _))

/-- A start that is let go. -/
theorem take_start_no (w : World) (x be br : Nat) (s : NodeS) (m : Msg) (h : NodeAt w x be br s) (hn : 0 < s.n) (hb : mayBe s m = true) (k1 : m.kind = 1) (hd : ¬ (m.from_ = s.dealer ∧ s.heard = false)) :
    Calls Try.prog 22 #[.pointer (some ⟨x, 0, none⟩), .agg m.cells.toArray] w (TakePost w x be br s m) := by
  have c0 : w.cell? ⟨x, 0, none⟩ = some (.int .i64 s.n) := by rw [cell_at h.cells]; rfl
  have c3 : w.cell? ⟨x, 3, none⟩ = some (.int .i64 s.dealer) := by rw [cell_at h.cells]; rfl
  have c7 : w.cell? ⟨x, 7, none⟩ = some (.bool s.heard) := by rw [cell_at h.cells]; rfl
  have hx := lt_of_block h.cells
  have hpost := take_idle (m := m) h (by simp [takeS, hb, k1]; intro h1 h2; exact absurd ⟨h1, h2⟩ hd)
  obtain ⟨kind, from_, val⟩ := m
  simp only [Msg.cells, mayBe] at *
  have HP := hid hpost
  simp only [Bool.and_eq_true, decide_eq_true_eq] at hb
  have d1 : decide (from_ < 1) = false := by simp; omega
  have d2 : decide (s.n < from_) = false := by simp; omega
  have d3 : decide ((4096 : Int) < (val.size : Int)) = false := by simp; omega
  subst k1
  by_cases hf : from_ = s.dealer
  · have hh : s.heard = true := by simpa [hf] using hd
    rw [hh] at c7
    have e1 : (from_ != s.dealer) = false := by simpa using hf
    clear hpost h hb hd hf hh
    go_enter Try.func22, Try.ntmps22
    go_wp2_with fail
    go_quiet ((go_at_call 27; exact Calls.quiet_of_same (is_some _ _ _ hn (by go_simp))))
    go_wp2_with fail
    go_quiet (fail)
    go_wp2
    go_ret
    exact HP.out _ (by repeat' (first | exact Mod.refl _ _ | assumption | refine Mod.drewN ?_ _ | refine Mod.drew ?_ | refine Mod.alloc ?_ _ | refine Mod.setCell ?_ (by simp) _ | refine Mod.setBlock ?_ (by simp) _))
  · have e1 : (from_ != s.dealer) = true := by simpa using hf
    clear hpost h hb hd hf
    go_enter Try.func22, Try.ntmps22
    go_wp2_with fail
    go_quiet ((go_at_call 27; exact Calls.quiet_of_same (is_some _ _ _ hn (by go_simp))))
    go_wp2_with fail
    go_quiet (fail)
    go_wp2
    go_ret
    exact HP.out _ (by repeat' (first | exact Mod.refl _ _ | assumption | refine Mod.drewN ?_ _ | refine Mod.drew ?_ | refine Mod.alloc ?_ _ | refine Mod.setCell ?_ (by simp) _ | refine Mod.setBlock ?_ (by simp) _))


theorem NodeAt.all {w : World} {x be br : Nat} {s : NodeS} (h : NodeAt w x be br s) :
    w.cell? ⟨x, 0, none⟩ = some (.int .i64 s.n) ∧ w.cell? ⟨x, 1, none⟩ = some (.int .i64 s.t) ∧ w.cell? ⟨x, 2, none⟩ = some (.int .i64 s.me) ∧ w.cell? ⟨x, 3, none⟩ = some (.int .i64 s.dealer) ∧
    w.cell? ⟨x, 4, none⟩ = some (.map (some be)) ∧ w.cell? ⟨x, 5, none⟩ = some (.map (some br)) ∧ w.cell? ⟨x, 6, none⟩ = some (.bool s.began) ∧ w.cell? ⟨x, 7, none⟩ = some (.bool s.heard) ∧
    w.cell? ⟨x, 8, none⟩ = some (.string s.ev) ∧ w.cell? ⟨x, 9, none⟩ = some (.bool s.ei) ∧ w.cell? ⟨x, 10, none⟩ = some (.string s.rv) ∧ w.cell? ⟨x, 11, none⟩ = some (.bool s.ri) ∧
    w.cell? ⟨x, 12, none⟩ = some (.string s.sv) ∧ w.cell? ⟨x, 13, none⟩ = some (.bool s.si) ∧ (∀ i, w.frozen? ⟨x, i, none⟩ = false) ∧ x < w.heap.size := by
  simp only [cell_at h.cells, nodeCells]
  exact ⟨rfl, rfl, rfl, rfl, rfl, rfl, rfl, rfl, rfl, rfl, rfl, rfl, rfl, rfl, free_at h.cells, lt_of_block h.cells⟩

theorem NodeAt.set {w : World} {x be br : Nat} {s : NodeS} (h : NodeAt w x be br s) (o : Nat) (u : Value) (s' : NodeS) (hc : (nodeCells s be br).setIfInBounds o u = nodeCells s' be br) (hE : s'.E = s.E) (hR : s'.R = s.R) :
    NodeAt (w.setCell ⟨x, o, none⟩ u) x be br s' :=
  ⟨by rw [← hc]; exact get_setCell_self h.cells o u, by rw [hE]; exact get_setCell h.e h.xe.symm u, by rw [hR]; exact get_setCell h.r h.xr.symm u, h.er, h.xe, h.xr⟩

theorem NodeAt.alloc {w : World} {x be br : Nat} {s : NodeS} (h : NodeAt w x be br s) (o : Obj) : NodeAt (w.alloc o) x be br s :=
  ⟨get_alloc h.cells o, get_alloc h.e o, get_alloc h.r o, h.er, h.xe, h.xr⟩
theorem NodeAt.drewN {w : World} {x be br : Nat} {s : NodeS} (h : NodeAt w x be br s) (n : Nat) : NodeAt (w.drewN n) x be br s := ⟨h.cells, h.e, h.r, h.er, h.xe, h.xr⟩
theorem NodeAt.drew {w : World} {x be br : Nat} {s : NodeS} (h : NodeAt w x be br s) : NodeAt w.drew x be br s := ⟨h.cells, h.e, h.r, h.er, h.xe, h.xr⟩

/-- The world in which a message that may be has been looked at: its box lies at B. -/
structure Seen (w W : World) (x be br B : Nat) (s : NodeS) (m : Msg) : Prop where
  node : NodeAt W x be br s
  box : W.heap[B]? = some (.cells m.cells.toArray 36 (0, 0))
  mod : Mod [x, be, br] w W
  new : w.heap.size ≤ B
  lx : x < w.heap.size
  le : be < w.heap.size
  lr : br < w.heap.size

theorem Seen.of {w : World} {x be br : Nat} {s : NodeS} {m : Msg} (h : NodeAt w x be br s) (n : Nat) : Seen w ((w.alloc (.cells m.cells.toArray 36)).drewN n) x be br w.heap.size s m :=
  ⟨(h.alloc _).drewN n, get_new w _, (by repeat' (first | exact Mod.refl _ _ | assumption | refine Mod.drewN ?_ _ | refine Mod.drew ?_ | refine Mod.alloc ?_ _ | refine Mod.setCell ?_ (by simp) _ | refine Mod.setBlock ?_ (by simp) _)), Nat.le_refl _, lt_of_block h.cells, lt_of_block h.e, lt_of_block h.r⟩

theorem Seen.put {w W : World} {x be br B : Nat} {s : NodeS} {m : Msg} (h : Seen w W x be br B s m) (o : Nat) (u : Value) (s' : NodeS) (hc : (nodeCells s be br).setIfInBounds o u = nodeCells s' be br) (hE : s'.E = s.E) (hR : s'.R = s.R) : Seen w (W.setCell ⟨x, o, none⟩ u) x be br B s' m :=
  ⟨h.node.set o u s' hc hE hR, get_setCell h.box (by have := h.new; have := h.lx; simp; omega) u, h.mod.setCell (by simp) u, h.new, h.lx, h.le, h.lr⟩
theorem Seen.drewN {w W : World} {x be br B : Nat} {s : NodeS} {m : Msg} (h : Seen w W x be br B s m) (n : Nat) : Seen w (W.drewN n) x be br B s m := ⟨h.node.drewN n, h.box, h.mod.drewN n, h.new, h.lx, h.le, h.lr⟩
theorem Seen.drew {w W : World} {x be br B : Nat} {s : NodeS} {m : Msg} (h : Seen w W x be br B s m) : Seen w W.drew x be br B s m := ⟨h.node.drew, h.box, h.mod.drew, h.new, h.lx, h.le, h.lr⟩

theorem Seen.addE {w W W1 : World} {x be br B : Nat} {s : NodeS} {m : Msg} (h : Seen w W x be br B s m) {L : Votes} (hL : W1.heap[be]? = some (votesObj L)) (hm : Mod [be] W W1) : Seen w W1 x be br B { s with E := L } m :=
  ⟨⟨hm.get h.node.cells (by simp; exact h.node.xe), hL, hm.get h.node.r (by simp; exact h.node.er.symm), h.node.er, h.node.xe, h.node.xr⟩, hm.get h.box (by have := h.new; have := h.le; simp; omega), h.mod.trans' hm (by simp), h.new, h.lx, h.le, h.lr⟩
theorem Seen.addR {w W W1 : World} {x be br B : Nat} {s : NodeS} {m : Msg} (h : Seen w W x be br B s m) {L : Votes} (hL : W1.heap[br]? = some (votesObj L)) (hm : Mod [br] W W1) : Seen w W1 x be br B { s with R := L } m :=
  ⟨⟨hm.get h.node.cells (by simp; exact h.node.xr), hm.get h.node.e (by simp; exact h.node.er), hL, h.node.er, h.node.xe, h.node.xr⟩, hm.get h.box (by have := h.new; have := h.lr; simp; omega), h.mod.trans' hm (by simp), h.new, h.lx, h.le, h.lr⟩

/-- .. and what send leaves, where something is sent. -/
theorem Seen.sent {w W : World} {x be br B : Nat} {s s1 s2 : NodeS} {m : Msg} {o : Nat} {k : Int} (h : Seen w W x be br B s1 m) (ho : (o = 8 ∧ k = 2 ∧ s2 = { s1 with ev := m.val, ei := true }) ∨ (o = 10 ∧ k = 3 ∧ s2 = { s1 with rv := m.val, ri := true }))
    (ht : takeS s m = (s2, [⟨k, s1.me, m.val⟩])) (n : Nat) :
    TakePost w x be br s m (.returned (.slice (some ⟨W.heap.size, 0, none⟩) 1 1)) ((((W.setCell ⟨x, o, none⟩ (.string m.val)).setCell ⟨x, o + 1, none⟩ (.bool true)).alloc (.cells #[.int .i64 k, .int .i64 s1.me, .string m.val] 36)).drewN n) := by
  refine ⟨_, rfl, ?_, ?_, ?_⟩
  · rw [ht]
    refine NodeAt.drewN (NodeAt.alloc ?_ _) _
    rcases ho with ⟨rfl, _, rfl⟩ | ⟨rfl, _, rfl⟩
    · exact (h.node.set 8 _ { s1 with ev := m.val } rfl rfl rfl).set 9 _ _ rfl rfl rfl
    · exact (h.node.set 10 _ { s1 with rv := m.val } rfl rfl rfl).set 11 _ _ rfl rfl rfl
  · rw [ht]
    refine .inr ⟨_, W.heap.size, rfl, rfl, h.mod.size, ?_⟩
    have := get_new ((W.setCell ⟨x, o, none⟩ (.string m.val)).setCell ⟨x, o + 1, none⟩ (.bool true)) (.cells #[.int .i64 k, .int .i64 s1.me, .string m.val] 36)
    simpa [Msg.cells] using this
  · refine Mod.drewN (Mod.alloc (Mod.setCell (Mod.setCell h.mod ?_ _) ?_ _) _) _ <;> simp

/-- .. and where nothing is sent. -/
theorem Seen.idle {w W : World} {x be br B : Nat} {s s1 : NodeS} {m : Msg} (h : Seen w W x be br B s1 m) (ht : takeS s m = (s1, [])) (n : Nat) : TakePost w x be br s m (.returned (.slice none 0 0)) (W.drewN n) :=
  ⟨_, rfl, by rw [ht]; exact h.node.drewN n, .inl ⟨by rw [ht], rfl⟩, h.mod.drewN n⟩
end Go.Proofs.Ytcgfjalglnlofaa
