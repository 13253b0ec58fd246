/-
  The reference's node of a broadcast: how its block lies, beside the pure node; count and ready walked. No statement of a claim stands here; each contract names what it asks.
-/
import Derived.Test.YtcgfjalglnlofaaCast2
import Derived.Deep.MidRow
set_option linter.unusedSimpArgs false
namespace Go.Proofs.Ytcgfjalglnlofaa
open Go Go.RowKit

def flags (l : Votes) : List Value := (List.range 17).map fun i : Nat => .bool (look l (i : Int)).isSome
def texts (l : Votes) : List Value := (List.range 17).map fun i : Nat => .string ((look l (i : Int)).getD ByteArray.empty)

def refCells (s : NodeS) : List Value :=
  [.int .i64 s.n, .int .i64 s.t, .int .i64 s.me, .int .i64 s.dealer] ++ (texts s.E ++ (texts s.R ++ (flags s.E ++ (flags s.R ++
  [.string s.ev, .string s.rv, .string s.sv, .bool s.ei, .bool s.ri, .bool s.si, .bool s.began, .bool s.heard]))))

/-- Block y is the reference's node. -/
def RefAt (w : World) (y : Nat) (s : NodeS) : Prop := w.heap[y]? = some (.cells (refCells s).toArray 59 (0, 0))

theorem RefAt.mod {w w' : World} {y : Nat} {s : NodeS} {S : List Nat} (h : RefAt w y s) (m : Mod S w w') (hy : y ∉ S) : RefAt w' y s := m.get h hy

/-- Each sender is one of n nodes. -/
def KOk (n : Int) (l : Votes) : Prop := ∀ e ∈ l, 1 ≤ e.1 ∧ e.1 ≤ n

/-- Those that say v, of numbers below i. -/
def cntTo (l : Votes) (v : ByteArray) (i : Int) : Nat := l.countP fun e => decide (e.2.1 = v) && decide (e.1 < i)

theorem cntTo_one {l : Votes} {n : Int} (h : KOk n l) (v : ByteArray) : cntTo l v 1 = 0 := by
  unfold cntTo
  rw [List.countP_eq_zero]
  intro e he
  have := h e he
  simp only [Bool.and_eq_true, decide_eq_true_eq, not_and]
  intro _; omega
theorem cntTo_all {l : Votes} {n : Int} (h : KOk n l) (v : ByteArray) : cntTo l v (n + 1) = cnt l v := by
  unfold cntTo cnt
  apply List.countP_congr
  intro e he
  have := h e he
  simp only [Bool.and_eq_true, decide_eq_true_eq]
  constructor
  · exact fun h => h.1
  · exact fun h => ⟨h, by omega⟩
theorem cntTo_le (l : Votes) (v : ByteArray) (i : Int) : cntTo l v i ≤ l.length := List.countP_le_length

theorem cntTo_step {l : Votes} (hk : (l.map (·.1)).Nodup) (v : ByteArray) (i : Int) :
    cntTo l v (i + 1) = cntTo l v i + (if look l i = some v then 1 else 0) := by
  unfold cntTo
  induction l with
  | nil => rfl
  | cons e l ih =>
    simp only [List.map_cons, List.nodup_cons] at hk
    have ih := ih hk.2
    rw [List.countP_cons, List.countP_cons, ih, look_cons]
    by_cases he : e.1 = i
    · have h0 : look l i = none := look_none.2 fun x hx hxi => hk.1 (List.mem_map.2 ⟨x, hx, by rw [hxi, he]⟩)
      rw [h0, if_pos he]
      by_cases hv : e.2.1 = v
      · have e1 : (decide (e.2.1 = v) && decide (e.1 < i + 1)) = true := by simp; exact ⟨hv, by omega⟩
        have e2 : (decide (e.2.1 = v) && decide (e.1 < i)) = false := by simp; intro _; omega
        rw [e1, e2]; simp [hv]
      · have e1 : (decide (e.2.1 = v) && decide (e.1 < i + 1)) = false := by simp [hv]
        have e2 : (decide (e.2.1 = v) && decide (e.1 < i)) = false := by simp [hv]
        rw [e1, e2]; simp [hv]
    · rw [if_neg he]
      have e1 : (decide (e.2.1 = v) && decide (e.1 < i + 1)) = (decide (e.2.1 = v) && decide (e.1 < i)) := by
        congr 1
        rw [Bool.eq_iff_iff]
        simp only [decide_eq_true_eq]
        omega
      rw [e1]; omega

theorem flag_at (l : Votes) (i : Nat) (h : i < 17) : (flags l)[i]? = some (.bool (look l (i : Int)).isSome) := by
  simp [flags, List.getElem?_map, List.getElem?_range h]
theorem text_at (l : Votes) (i : Nat) (h : i < 17) : (texts l)[i]? = some (.string ((look l (i : Int)).getD ByteArray.empty)) := by
  simp [texts, List.getElem?_map, List.getElem?_range h]
theorem flags_len (l : Votes) : (flags l).length = 17 := by simp [flags]
theorem texts_len (l : Votes) : (texts l).length = 17 := by simp [texts]

theorem add_look {l : Votes} {k : Int} {v : ByteArray} (hk : look l k = none) (i : Int) : look (addL l k v) i = if k = i then some v else look l i := by
  unfold addL
  rw [hk]
  simp only [Option.isSome_none, Bool.false_eq_true, if_false]
  rw [look_append]
  by_cases h : k = i
  · subst h; simp only [hk, if_true]
  · rw [if_neg h, if_neg h]
    cases look l i <;> rfl

theorem flags_add {l : Votes} {k : Nat} {v : ByteArray} (hk : look l (k : Int) = none) : flags (addL l k v) = (flags l).set k (.bool true) := by
  apply List.ext_getElem?
  intro i
  rw [List.getElem?_set]
  by_cases hi : i < 17
  · rw [flag_at _ _ hi, add_look hk]
    by_cases h : k = i
    · subst h; simp [flags_len, hi]
    · rw [if_neg (by omega), if_neg h, flag_at _ _ hi]
  · rw [List.getElem?_eq_none (by rw [flags_len]; omega)]
    split
    · rw [if_neg (by rw [flags_len]; omega)]
    · rw [List.getElem?_eq_none (by rw [flags_len]; omega)]
theorem texts_add {l : Votes} {k : Nat} {v : ByteArray} (hk : look l (k : Int) = none) : texts (addL l k v) = (texts l).set k (.string v) := by
  apply List.ext_getElem?
  intro i
  rw [List.getElem?_set]
  by_cases hi : i < 17
  · rw [text_at _ _ hi, add_look hk]
    by_cases h : k = i
    · subst h; simp [texts_len, hi]
    · rw [if_neg (by omega), if_neg h, text_at _ _ hi]
  · rw [List.getElem?_eq_none (by rw [texts_len]; omega)]
    split
    · rw [if_neg (by rw [texts_len]; omega)]
    · rw [List.getElem?_eq_none (by rw [texts_len]; omega)]

/-- The two stores of one vote more. -/
theorem refCells_addE {s : NodeS} {k : Nat} {v : ByteArray} (hk : look s.E (k : Int) = none) (h17 : k < 17) :
    ((refCells s).set (38 + k) (.bool true)).set (4 + k) (.string v) = refCells { s with E := addL s.E k v } := by
  unfold refCells
  dsimp only
  rw [flags_add hk, texts_add hk]
  have a := texts_len s.E
  have b := texts_len s.R
  have c := flags_len s.E
  generalize texts s.E = A at *
  generalize texts s.R = B at *
  generalize flags s.E = C at *
  generalize flags s.R = D at *
  apply List.ext_getElem?
  intro i
  simp only [List.getElem?_set, List.getElem?_append, List.length_append, List.length_set, List.length_cons, List.length_nil, a, b, c]
  repeat' split
  all_goals first | rfl | omega | (congr 1; omega) | skip
theorem refCells_addR {s : NodeS} {k : Nat} {v : ByteArray} (hk : look s.R (k : Int) = none) (h17 : k < 17) :
    ((refCells s).set (55 + k) (.bool true)).set (21 + k) (.string v) = refCells { s with R := addL s.R k v } := by
  unfold refCells
  dsimp only
  rw [flags_add hk, texts_add hk]
  have a := texts_len s.E
  have b := texts_len s.R
  have c := flags_len s.E
  have d := flags_len s.R
  generalize texts s.E = A at *
  generalize texts s.R = B at *
  generalize flags s.E = C at *
  generalize flags s.R = D at *
  apply List.ext_getElem?
  intro i
  simp only [List.getElem?_set, List.getElem?_append, List.length_append, List.length_set, List.length_cons, List.length_nil, a, b, c, d]
  repeat' split
  all_goals first | rfl | omega | (congr 1; omega) | skip

theorem refCells_len (s : NodeS) : (refCells s).length = 80 := by
  simp [refCells, texts_len, flags_len]
end Go.Proofs.Ytcgfjalglnlofaa
