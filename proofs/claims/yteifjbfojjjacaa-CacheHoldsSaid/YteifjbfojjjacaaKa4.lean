/-
  The reference's replay cache, walked: Make, Has. No statement of a claim stands here; each contract names what it asks.
-/
import Derived.Test.YteifjbfojjjacaaKa3
import Derived.Test.YteifjbfojjjacaaApp
set_option linter.unusedSimpArgs false
namespace Go.Proofs.Yteifjbfojjjacaa
open Go Go.RowKit Go.ChangeMaps

def entCells (l : Seen) : List Value := l.flatMap fun e => [.string e.1, .int .i64 e.2.1]
theorem entCells_len (l : Seen) : (entCells l).length = l.length * 2 := by
  induction l with
  | nil => rfl
  | cons e l ih => simp only [entCells, List.flatMap_cons, List.length_append, List.length_cons, List.length_nil] at ih ⊢; omega
theorem ent_at : ∀ {l : Seen} {i : Nat} {e : ByteArray × Int × Nat}, l[i]? = some e → (entCells l)[i * 2]? = some (.string e.1) ∧ (entCells l)[i * 2 + 1]? = some (.int .i64 e.2.1)
  | [], i, e, h => by simp at h
  | x :: l, 0, e, h => by
    simp only [List.getElem?_cons_zero, Option.some.injEq] at h
    subst h
    exact ⟨rfl, rfl⟩
  | x :: l, i + 1, e, h => by
    rw [List.getElem?_cons_succ] at h
    have := ent_at h
    rw [show (i + 1) * 2 = i * 2 + 1 + 1 by omega]
    exact this
theorem entCells_append (l m : Seen) : entCells (l ++ m) = entCells l ++ entCells m := by simp [entCells]

/-- Block y is the reference's replay cache. -/
structure RRepAt (w : World) (y : Nat) (vl : Value) (s : RepS) : Prop where
  cells : w.heap[y]? = some (.cells #[.int .i64 s.room, .int .i64 s.window, vl] 38 (0, 0))
  row : w.ownsRow 0 74 2 vl s.l.length (entCells s.l)

theorem row_slice {w : World} {e : TypeId} {size n : Nat} {v : Value} {xs : List Value} {base : Nat} (h : w.ownsRow base e size v n xs) : ∃ a c, v = .slice a n c := by
  rcases h.2 with ⟨rfl, rfl⟩ | ⟨g, cap, cur, rfl, _⟩
  · exact ⟨none, 0, rfl⟩
  · exact ⟨_, _, rfl⟩
theorem row_pos {w : World} {e : TypeId} {size n : Nat} {v : Value} {xs : List Value} {base : Nat} (h : w.ownsRow base e size v n xs) (hn : 0 < n) : ∃ g c, v = .slice (some ⟨g, 0, none⟩) n c ∧ ∀ (i : Nat) (u : Value), xs[i]? = some u → w.cell? ⟨g, i, none⟩ = some u := by
  rcases h.2 with ⟨_, h0⟩ | ⟨g, cap, cur, rfl, _⟩
  · omega
  · refine ⟨g, cap, rfl, fun i u hu => ?_⟩
    have := h.cells (g := g) rfl i u hu
    rwa [Addr.add_lit, Nat.zero_add] at this

theorem RRepAt.mod {w w' : World} {y : Nat} {vl : Value} {s : RepS} {S : List Nat} (h : RRepAt w y vl s) (m : Mod S w w') (hy : y ∉ S) (hv : ∀ k, vl.ownBlock = some k → k ∉ S) : RRepAt w' y vl s := ⟨m.get h.cells hy, row_mod h.row m hv⟩
theorem RRepAt.ne {w : World} {y : Nat} {vl : Value} {s : RepS} (h : RRepAt w y vl s) : ∀ k, vl.ownBlock = some k → k ≠ y := fun k hk => by
  obtain ⟨c, hc⟩ := row_block h.row hk
  exact ne_ty hc h.cells (by decide)

theorem rroom_any (n : Int) (w : World) : Calls Try.prog 31 #[.int .i64 n] w fun e w' => e = .returned (.bool (roomOk n)) ∧ w = w' := by
  by_cases h1 : 1 ≤ n
  · have d1 : decide (1 ≤ n) = true := by simpa using h1
    go_enter Try.func31, Try.ntmps31
    go_wp2
    go_ret
    exact ⟨by simp [roomOk, h1], rfl⟩
  · have d1 : decide (1 ≤ n) = false := by simpa using h1
    go_enter Try.func31, Try.ntmps31
    go_wp2
    go_ret
    exact ⟨by simp [roomOk]; omega, rfl⟩
theorem rtime_any (n : Int) (w : World) : Calls Try.prog 32 #[.int .i64 n] w fun e w' => e = .returned (.bool (timeOk n)) ∧ w = w' := by
  by_cases h1 : 0 ≤ n
  · have d1 : decide (0 ≤ n) = true := by simpa using h1
    go_enter Try.func32, Try.ntmps32
    go_wp2
    go_ret
    exact ⟨by simp [timeOk, h1], rfl⟩
  · have d1 : decide (0 ≤ n) = false := by simpa using h1
    go_enter Try.func32, Try.ntmps32
    go_wp2
    go_ret
    exact ⟨by simp [timeOk]; omega, rfl⟩

theorem rMakeRep_yes (room window : Int) (w : World) (h1 : roomOk room = true) (h2 : timeOk window = true) :
    Calls Try.prog 10 #[.int .i64 room, .int .i64 window] w fun e w' => ∃ y, e = .returned (.tuple #[.pointer (some ⟨y, 0, none⟩), .int .i64 0]) ∧ RRepAt w' y (.slice none 0 0) (newRep room window) ∧ Mod [] w w' ∧ w.heap.size ≤ y := by
  have H1 := hid h1
  have H2 := hid h2
  clear h1 h2
  go_enter Try.func10, Try.ntmps10
  go_wp2_with (first
    | (go_at_call 31; refine (rroom_any _ _).mono ?_; rw [H1.out]; rintro e w' ⟨rfl, rfl⟩)
    | (go_at_call 32; refine (rtime_any _ _).mono ?_; rw [H2.out]; rintro e w' ⟨rfl, rfl⟩))
  go_ret2
  exact ⟨w.heap.size, rfl, ⟨get_new w _, ⟨rfl, .inl ⟨rfl, rfl⟩⟩⟩, (by repeat' (first | exact Mod.refl _ _ | assumption | refine Mod.drewN ?_ _ | refine Mod.drew ?_ | refine Mod.alloc ?_ _ | refine Mod.setCell ?_ (by simp) _ | refine Mod.setBlock ?_ (by simp) _)), Nat.le_refl _⟩

theorem rMakeRep_no (room window : Int) (w : World) (h : (roomOk room && timeOk window) = false) :
    Calls Try.prog 10 #[.int .i64 room, .int .i64 window] w fun e w' => e = .returned (.tuple #[.pointer none, .int .i64 2]) ∧ Mod [] w w' := by
  cases h1 : roomOk room with
  | false =>
    have H1 := hid h1
    clear h h1
    go_enter Try.func10, Try.ntmps10
    go_wp2_with (first
      | (go_at_call 31; refine (rroom_any _ _).mono ?_; rw [H1.out]; rintro e w' ⟨rfl, rfl⟩))
    go_ret2
    exact ⟨rfl, Mod.refl _ _⟩
  | true =>
    have H1 := hid h1
    have H2 := hid (show timeOk window = false by simpa [h1] using h)
    clear h h1
    go_enter Try.func10, Try.ntmps10
    go_wp2_with (first
      | (go_at_call 31; refine (rroom_any _ _).mono ?_; rw [H1.out]; rintro e w' ⟨rfl, rfl⟩)
      | (go_at_call 32; refine (rtime_any _ _).mono ?_; rw [H2.out]; rintro e w' ⟨rfl, rfl⟩))
    go_ret2
    exact ⟨rfl, (by repeat' (first | exact Mod.refl _ _ | assumption | refine Mod.drewN ?_ _ | refine Mod.drew ?_ | refine Mod.alloc ?_ _ | refine Mod.setCell ?_ (by simp) _ | refine Mod.setBlock ?_ (by simp) _))⟩

theorem look_isSome {l : Seen} {k : ByteArray} : (look l k).isSome = l.any fun e => decide (e.1 = k) := by
  induction l with
  | nil => rfl
  | cons e l ih => rw [look_cons, List.any_cons]; by_cases h : e.1 = k <;> simp [h, ih]

theorem rHas_any (w : World) (y : Nat) (vl : Value) (s : RepS) (id : ByteArray) (h : RRepAt w y vl s) (hl : s.l.length ≤ 1000) :
    Calls Try.prog 16 #[.pointer (some ⟨y, 0, none⟩), .string id] w fun e w' => e = .returned (.bool (look s.l id).isSome) ∧ w' = w := by
  have c2 : w.cell? ⟨y, 2, none⟩ = some vl := cell_at h.cells 2
  obtain ⟨a, c, rfl⟩ := row_slice h.row
  have H := hid h
  clear h
  go_enter Try.func16, Try.ntmps16
  go_wp2_with fail
  go_loopg [5] s.l.length (fun gk i W' => ∃ j : Nat, i = .int .i64 (j : Int) ∧ gk + j = s.l.length ∧ (∀ e ∈ s.l.take j, e.1 ≠ id) ∧ W' = w)
  case atStart => exact ⟨0, rfl, rfl, by simp, rfl⟩
  case round =>
    obtain ⟨j, rfl, hj, hall, rfl⟩ := hrel
    have HA := hid hall
    clear hall
    by_cases hjn : j < s.l.length
    · have hp : s.l[j]? = some s.l[j] := List.getElem?_eq_getElem hjn
      generalize s.l[j] = e at hp
      obtain ⟨g, c', hg, hc⟩ := row_pos H.out.row (by omega)
      cases hg
      have e0 := hc _ _ (ent_at hp).1
      have j0 : (0 : Int) ≤ (j : Int) := Int.natCast_nonneg _
      have j1 : (j : Int) < (s.l.length : Int) := by omega
      have HP := hid hp
      clear hc hp
      have hq := chars_eq e.1 id
      by_cases hk : e.1 = id
      · rw [decide_eq_true hk] at hq
        have HK := hid hk
        clear hk
        go_wp2_with fail
        go_ret
        refine ⟨?_, rfl⟩
        rw [look_isSome, List.any_eq_true.2 ⟨e, List.mem_of_getElem? HP.out, by simpa using HK.out⟩]
        rfl
      · rw [decide_eq_false hk] at hq
        have HK := hid hk
        clear hk
        go_wp2_with fail
        go_roundg (gk - 1)
        case measure => omega
        case rel => exact ⟨j + 1, by go_num, by omega, fun x hx => by
          rw [List.take_add_one, HP.out] at hx
          rcases List.mem_append.1 hx with hx | hx
          · exact HA.out x hx
          · simp at hx; rw [hx]; exact HK.out, rfl⟩
    · have d1 : decide ((j : Int) < (s.l.length : Int)) = false := by rw [decide_eq_false_iff_not]; omega
      have d2 : decide (j < s.l.length) = false := by rw [decide_eq_false_iff_not]; omega
      go_wp2_with fail
      go_ret
      refine ⟨?_, rfl⟩
      have : (look s.l id).isSome = false := by
        rw [look_isSome, List.any_eq_false]
        intro x hx
        have := HA.out x (by rw [List.take_of_length_le (by omega)]; exact hx)
        simpa using this
      rw [this]; rfl
end Go.Proofs.Yteifjbfojjjacaa
