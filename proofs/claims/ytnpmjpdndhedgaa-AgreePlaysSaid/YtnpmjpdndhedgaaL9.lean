/-
  The statements' world, walked further: Make, made. No statement of a claim stands here; each contract names what it asks.
-/
import Derived.Test.YtnpmjpdndhedgaaL8
set_option linter.unusedSimpArgs false
namespace Go.Proofs.Ytnpmjpdndhedgaa
open Go Go.RowKit Go.ChangeMaps

theorem emp_false {v : ByteArray} (h : v ≠ ⟨#[]⟩) : v.toList.isEmpty = false ∧ (v.toList == []) = false := by
  have e1 : v.toList.isEmpty = false := by
    cases hh : v.toList with
    | nil => exact absurd ((emp_iff v).1 (by simp [hh])) h
    | cons => rfl
  refine ⟨e1, ?_⟩
  rw [← e1]
  cases v.toList <;> rfl

theorem new_node (_ w' : World) (b : Nat) (n t me : Int) (input : ByteArray) (h0 : w'.heap[b]? = some (.map #[] 0)) (h1 : w'.heap[b + 1]? = some (.map #[] 0))
    (h2 : w'.heap[b + 2]? = some (.cells #[.int .i64 n, .int .i64 t, .int .i64 me, .string input, .int .i64 (-1), .map (some b), .string ⟨#[]⟩, .int .i64 (-1), .map (some (b + 1)), .string ⟨#[]⟩, .bool false] 78 (0, 0))) :
    NodeAt w' ⟨b + 2, b, b + 1, [], []⟩ (makeS n t me input) :=
  ⟨h2, ⟨h0, by simp, by simp, by simp, fun _ _ => rfl, by simp⟩, h1, fun k => rfl, by simp, by simp⟩

theorem make_yes (n t me : Int) (input : ByteArray) (w : World) (ht : 0 ≤ t) (ht5 : t ≤ 5) (hn : 3 * t + 1 ≤ n) (hn16 : n ≤ 16) (hme : 1 ≤ me) (hme2 : me ≤ n) (hi : input ≠ ⟨#[]⟩) (hi2 : input.size ≤ 4096) :
    Calls Try.prog 15 #[.int .i64 n, .int .i64 t, .int .i64 me, .string input] w fun e w' => ∃ p : Loc, e = .returned (.tuple #[.pointer (some ⟨p.x, 0, none⟩), .int .i64 0]) ∧
      NodeAt w' p (makeS n t me input) ∧ Mod [] w w' ∧ ∀ k ∈ p.foot, w.heap.size ≤ k := by
  have d1 : decide (t < 0) = false := by simp; omega
  have d2 : decide (5 < t) = false := by simp; omega
  have d3 : decide (n < 3 * t + 1) = false := by simp; omega
  have d4 : decide (16 < n) = false := by simp; omega
  have d5 : decide (me < 1) = false := by simp; omega
  have d6 : decide (n < me) = false := by simp; omega
  have d7 : decide ((4096 : Int) < (input.size : Int)) = false := by simp; omega
  have d8 : decide (4096 < input.size) = false := by simp; omega
  obtain ⟨e1, e2⟩ := emp_false hi
  have q1 : IntKind.i64.wrap (3 * t) = 3 * t := IntWalk.i64_in _ (by omega)
  have q2 : IntKind.i64.wrap (3 * t + 1) = 3 * t + 1 := IntWalk.i64_in _ (by omega)
  have hmm := @run_makeMap Try.prog
  clear hi hi2 ht ht5 hn hn16 hme hme2
  go_enter Try.func15, Try.ntmps15
  go_wp2_with fail
  go_ret2
  refine ⟨⟨w.heap.size + 2, w.heap.size, w.heap.size + 1, [], []⟩, rfl, new_node w _ w.heap.size n t me input ?_ ?_ ?_, (by repeat' (first | exact Mod.refl _ _ | assumption | refine Mod.drewN ?_ _ | refine Mod.drew ?_ | refine Mod.alloc ?_ _ | refine Mod.setCell ?_ (by simp) _ | refine Mod.setBlock ?_ (by simp) _)), by simp [Loc.foot]⟩
  · exact get_alloc (get_alloc (get_new w (.map #[] 0)) (.map #[] 0)) _
  · have := get_alloc (get_new (w.alloc (.map #[] 0)) (.map #[] 0)) (.cells #[.int .i64 n, .int .i64 t, .int .i64 me, .string input, .int .i64 (-1), .map (some w.heap.size), .string ⟨#[]⟩, .int .i64 (-1), .map (some (w.heap.size + 1)), .string ⟨#[]⟩, .bool false] 78)
    simp only [World.size_alloc] at this
    exact this
  · have := get_new ((w.alloc (.map #[] 0)).alloc (.map #[] 0)) (.cells #[.int .i64 n, .int .i64 t, .int .i64 me, .string input, .int .i64 (-1), .map (some w.heap.size), .string ⟨#[]⟩, .int .i64 (-1), .map (some (w.heap.size + 1)), .string ⟨#[]⟩, .bool false] 78)
    simp only [World.size_alloc] at this
    exact this

/-- Strings as a slice lays them. -/
structure StrsAt (W : World) (a : Option Addr) (l : List ByteArray) : Prop where
  cell : ∀ (i : Nat) (v : ByteArray), l[i]? = some v → ∃ b o, a = some ⟨b, o, none⟩ ∧ b < W.heap.size ∧ W.cell? ⟨b, o + i, none⟩ = some (.string v)
theorem StrsAt.mod0 {W W' : World} {a : Option Addr} {l : List ByteArray} (h : StrsAt W a l) (m : Mod [] W W') : StrsAt W' a l :=
  ⟨fun i v hi => by obtain ⟨b, o, h1, h2, h3⟩ := h.cell i v hi; exact ⟨b, o, h1, Nat.lt_of_lt_of_le h2 m.size, m.cell h3 (by simp)⟩⟩

/-- The input of the node k. -/
def inp0 (ins : List ByteArray) (k : Nat) : ByteArray := if 0 < ins.length then ins.getD (k % ins.length) ⟨#[]⟩ else ⟨#[105]⟩
def inp1 (v : ByteArray) : ByteArray := if v = ⟨#[]⟩ then ⟨#[101]⟩ else v
def inpS (ins : List ByteArray) (k : Nat) : ByteArray := (inp1 (inp0 ins k)).extract 0 (min (inp1 (inp0 ins k)).size 50)
def newL (t bad : Nat) (ins : List ByteArray) (j : Nat) : LawS :=
  ⟨3 * t + 1, t, 3 * t + 1 - bad, (List.range j).map fun (i : Nat) => makeS (3 * (t : Int) + 1) (t : Int) ((i : Int) + 1) (inpS ins (i + 1)), [], [], []⟩
theorem inp1_ne (v : ByteArray) : inp1 v ≠ ⟨#[]⟩ := by
  unfold inp1; split
  · decide
  · assumption
theorem extract_ne {v : ByteArray} (h : v ≠ ⟨#[]⟩) (n : Nat) (hn : 1 ≤ n) : v.extract 0 (min v.size n) ≠ ⟨#[]⟩ := fun e => by
  have h1 : (v.extract 0 (min v.size n)).size = 0 := by rw [e]; rfl
  rw [ByteArray.size_extract] at h1
  have h2 : v.size = 0 := by omega
  refine h ?_
  cases v with
  | mk d => 
    have : d.size = 0 := h2
    rw [Array.eq_empty_of_size_eq_zero this]
theorem inpS_ok (ins : List ByteArray) (k : Nat) : inpS ins k ≠ ⟨#[]⟩ ∧ (inpS ins k).size ≤ 50 := by
  refine ⟨extract_ne (inp1_ne _) 50 (by omega), ?_⟩
  unfold inpS
  rw [ByteArray.size_extract]
  omega

/-- One node more. -/
theorem LawIn.more {W0 W w1 w2 : World} {lw t bad j : Nat} {ins : List ByteArray} {p : Loc} {vn v2 : Value} {pl : List Loc} (h : LawIn W0 W lw vn (.slice none 0 0) (.slice none 0 0) (.slice none 0 0) pl (newL t bad ins j)) (hm1 : Mod [] W w1)
    (hn1 : NodeAt w1 p (makeS (3 * (t : Int) + 1) (t : Int) ((j : Int) + 1) (inpS ins (j + 1)))) (hx : ∀ k ∈ p.foot, W.heap.size ≤ k) (hm2 : Mod vn.ownBlock.toList w1 w2)
    (ho2 : w2.ownsRow 0 36 1 v2 (pl.length + 1) ((pl.map fun p => .pointer (some ⟨p.x, 0, none⟩)) ++ [.pointer (some ⟨p.x, 0, none⟩)])) (hl2 : ∀ k, v2.ownBlock = some k → vn.ownBlock = some k ∨ w1.heap.size ≤ k) :
    LawIn W0 (w2.setCell ⟨lw, 3, none⟩ v2) lw v2 (.slice none 0 0) (.slice none 0 0) (.slice none 0 0) (pl ++ [p]) (newL t bad ins (j + 1)) := by
  have h1 := h.law.mod0 hm1
  have hc2 := hm2.get h1.cells (own_not h1.set.1)
  have hset : Mod [lw] w2 (w2.setCell ⟨lw, 3, none⟩ v2) := Mod.setCell (Mod.refl _ _) (by simp) _
  have hall : Mod (lw :: vn.ownBlock.toList) w1 (w2.setCell ⟨lw, 3, none⟩ v2) := (hm2.mono (fun x hx => .inl (List.mem_cons_of_mem _ hx))).trans (hset.mono (by simp))
  have hfar : ∀ {q : Loc} {s : NodeS}, NodeAt w1 q s → NodeAt (w2.setCell ⟨lw, 3, none⟩ v2) q s := fun {q s} hn => hn.mod hall (fun b hb hx => by
    simp only [List.mem_cons, Option.mem_toList] at hx
    rcases hx with rfl | hx
    · exact hn.ne h1.cells (by decide) hb
    · obtain ⟨c, hc⟩ := row_block h1.nodes hx; exact hn.ne hc (by decide) hb)
  have hbl : pl.length = j := by rw [h.law.len]; simp [newL]
  have hz := h.old.size
  refine ⟨⟨?_, ?_, ⟨rfl, .inl ⟨rfl, rfl⟩⟩, ⟨rfl, .inl ⟨rfl, rfl⟩⟩, ⟨rfl, .inl ⟨rfl, rfl⟩⟩, (by simp [Value.ownBlock]), by simp [newL, hbl], ?_, ?_⟩, ?_, h.lw, ?_, h.t, h.w, h.a, ?_⟩
  · exact get_setCell_self hc2 3 v2
  · have := row_mod ho2 hset (fun k hk => ?_)
    · simpa using this
    · rcases hl2 k hk with h2 | h2
      · simpa using h1.set.1 k h2
      · have := lt_of_block h1.cells; simp; omega
  · intro i q s hp hs
    by_cases hi : i < pl.length
    · rw [List.getElem?_append_left hi] at hp
      refine hfar (h1.node i q s hp ?_)
      simp only [newL] at hs ⊢
      rw [List.getElem?_map, List.getElem?_range (by omega)] at hs
      rw [List.getElem?_map, List.getElem?_range (by omega)]
      exact hs
    · have hlt : i < j + 1 := by have := (List.getElem?_eq_some_iff.1 hs).1; simpa [newL] using this
      have hij : i = j := by omega
      subst hij
      rw [← hbl] at hp
      simp only [List.getElem?_concat_length, Option.some.injEq] at hp
      subst hp
      simp only [newL] at hs
      rw [List.getElem?_map, List.getElem?_range (by omega)] at hs
      simp only [Option.map_some, Option.some.injEq] at hs
      subst hs
      exact hfar hn1
  · intro i k a b hik ha hb x hxa hxb
    by_cases hi : i < pl.length <;> by_cases hk : k < pl.length
    · rw [List.getElem?_append_left hi] at ha
      rw [List.getElem?_append_left hk] at hb
      exact h.law.apart i k a b hik ha hb x hxa hxb
    · have : k = pl.length := by have := (List.getElem?_eq_some_iff.1 hb).1; simp at this; omega
      subst this
      rw [List.getElem?_append_left hi] at ha
      simp only [List.getElem?_concat_length, Option.some.injEq] at hb
      subst hb
      have := h.law.foot_lt (foot_mem ha hxa)
      have := hx x hxb
      omega
    · have : i = pl.length := by have := (List.getElem?_eq_some_iff.1 ha).1; simp at this; omega
      subst this
      rw [List.getElem?_append_left hk] at hb
      simp only [List.getElem?_concat_length, Option.some.injEq] at ha
      subst ha
      have := h.law.foot_lt (foot_mem hb hxb)
      have := hx x hxa
      omega
    · have h2 := (List.getElem?_eq_some_iff.1 ha).1
      have h3 := (List.getElem?_eq_some_iff.1 hb).1
      simp at h2 h3
      omega
  · refine (h.old.trans hm1).trans' hall (fun x hx => .inr ?_)
    simp only [List.mem_cons, Option.mem_toList] at hx
    rcases hx with rfl | hx
    · exact h.lw
    · exact h.n x hx
  · intro k hk
    rcases hl2 k hk with h2 | h2
    · exact h.n k h2
    · have := hm1.size; omega
  · intro k hk
    simp only [footsB, List.flatMap_append, List.mem_append, List.flatMap_cons, List.flatMap_nil, List.append_nil] at hk
    rcases hk with hk | hk
    · exact h.foot k hk
    · have := hx k hk; omega
end Go.Proofs.Ytnpmjpdndhedgaa
