/-
  CacheOnce: the plain side: what was seen right stays, as long as it is not old. No program is in sight here.
-/
import Derived.Test.YteifjbfojjjacaaKa5
import Derived.Test.YteifjbfojjjacaaKaT
set_option linter.unusedSimpArgs false
namespace Go.Proofs.Yteifjbfojjjacaa
open Go

/-- What was seen right, and is not old by now, is there. -/
def HInv (had : List SightS) (s : RepS) (now : Int) : Prop := ∀ h ∈ had, now ≤ h.time + s.window → ∃ e ∈ s.l, e.1 = h.id ∧ e.2.1 = h.time

theorem HInv.kept {had : List SightS} {s : RepS} {now now' : Int} (h : HInv had s now) (hn : now ≤ now') : ∀ x ∈ had, now' ≤ x.time + s.window → ∃ e ∈ kept s now', e.1 = x.id ∧ e.2.1 = x.time := fun x hx ht => by
  obtain ⟨e, he, h1, h2⟩ := h x hx (by omega)
  exact ⟨e, List.mem_filter.2 ⟨he, by simp only [fresh, decide_eq_true_eq]; omega⟩, h1, h2⟩

/-- It is seen with times that may be, and no text too long: three ways. -/
theorem see_three {s : RepS} {id : ByteArray} {time now : Int} (h1 : id.size ≤ 4096) (h2 : timeOk time = true) (h3 : timeOk now = true) :
    ((look (kept s now) id).isSome = true ∧ seeS s id time now = ({ s with l := kept s now }, 34, 0)) ∨
    (look (kept s now) id = none ∧ seeS s id time now = ({ s with l := kept s now }, 60, 0)) ∨
    (look (kept s now) id = none ∧ seeS s id time now = ({ s with l := kept s now ++ [(id, time, s.clk)], clk := s.clk + 1 }, 0, 0)) := by
  unfold seeS
  rw [if_neg (by omega), h2, h3]
  simp only [Bool.and_self, Bool.true_eq_false, if_false]
  cases hl : look (kept s now) id with
  | some v => exact .inl ⟨by simp, by simp⟩
  | none =>
    right
    simp only [Option.isSome_none, Bool.false_eq_true, if_false]
    split
    · exact .inl ⟨by simp, by simp⟩
    · exact .inr ⟨by simp, by simp⟩

theorem HInv.same {had : List SightS} {s : RepS} {now now' : Int} (h : HInv had s now) (hn : now ≤ now') : HInv had { s with l := Go.Proofs.Yteifjbfojjjacaa.kept s now' } now' := fun x hx ht => h.kept hn x hx ht
theorem HInv.more {had : List SightS} {s : RepS} {now now' time : Int} {id : ByteArray} (h : HInv had s now) (hn : now ≤ now') :
    HInv (had ++ [⟨id, time, 0⟩]) { s with l := Go.Proofs.Yteifjbfojjjacaa.kept s now' ++ [(id, time, s.clk)], clk := s.clk + 1 } now' := fun x hx ht => by
  rcases List.mem_append.1 hx with hx | hx
  · obtain ⟨e, he, h1⟩ := h.kept hn x hx ht
    exact ⟨e, List.mem_append_left _ he, h1⟩
  · rw [List.mem_singleton.1 hx]
    exact ⟨_, List.mem_append_right _ (List.mem_singleton.2 rfl), rfl, rfl⟩
/-- So one that is seen right was not seen right before. -/
theorem HInv.none {had : List SightS} {s : RepS} {now now' : Int} {id : ByteArray} (h : HInv had s now) (hn : now ≤ now') (hl : look (Go.Proofs.Yteifjbfojjjacaa.kept s now') id = none) : ∀ x ∈ had, x.id = id → x.time + s.window < now' := fun x hx hid => by
  by_cases ht : now' ≤ x.time + s.window
  · obtain ⟨e, he, h1, _⟩ := h.kept hn x hx ht
    exact absurd (h1.trans hid) (look_none.1 hl e he)
  · omega
end Go.Proofs.Yteifjbfojjjacaa
