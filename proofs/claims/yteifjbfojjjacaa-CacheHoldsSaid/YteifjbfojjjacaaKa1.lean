/-
  A replay cache: the pure side, and how it lies; Make, Has, Len walked. No statement of a claim stands here; each contract names what it asks.
-/
import Derived.Test.YteifjbfojjjacaaKa0
set_option linter.unusedSimpArgs false
namespace Go.Proofs.Yteifjbfojjjacaa
open Go Go.RowKit Go.ChangeMaps

/-- What was seen, in the order in which it came; each with its stamp. -/
abbrev Seen := List (ByteArray × Int × Nat)
structure RepS where
  room : Int
  window : Int
  l : Seen
  clk : Nat

structure ROk (s : RepS) : Prop where
  r1 : 1 ≤ s.room
  r2 : s.room ≤ 256
  w0 : 0 ≤ s.window
  w1 : s.window ≤ 1099511627776
  keys : (s.l.map (·.1)).Nodup
  borns : (s.l.map (·.2.2)).Nodup
  lt : ∀ e ∈ s.l, e.2.2 < s.clk
  len : (s.l.length : Int) ≤ s.room

abbrev seenObj (l : Seen) (clk : Nat) : Obj := mapObj .string (.int .i64) l clk

/-- Block x is a replay cache, what it saw in block b. -/
structure RepAt (w : World) (x b : Nat) (s : RepS) : Prop where
  cells : w.heap[x]? = some (.cells #[.int .i64 s.room, .int .i64 s.window, .map (some b)] 67 (0, 0))
  map : w.heap[b]? = some (seenObj s.l s.clk)

theorem RepAt.mod {w w' : World} {x b : Nat} {s : RepS} {S : List Nat} (h : RepAt w x b s) (m : Mod S w w') (hx : x ∉ S) (hb : b ∉ S) : RepAt w' x b s := ⟨m.get h.cells hx, m.get h.map hb⟩
theorem RepAt.ne {w : World} {x b : Nat} {s : RepS} (h : RepAt w x b s) : x ≠ b := by
  rintro rfl
  have := h.cells
  rw [h.map] at this
  cases this

def newRep (room window : Int) : RepS := ⟨room, window, [], 0⟩
/-- Those that are not old. -/
def fresh (now window : Int) (e : ByteArray × Int × Nat) : Bool := decide (now - window ≤ e.2.1)
def kept (s : RepS) (now : Int) : Seen := s.l.filter (fresh now s.window)
/-- See (21.1). -/
def seeS (s : RepS) (id : ByteArray) (time now : Int) : RepS × Int × Int :=
  if 4096 < id.size then (s, 0, 3)
  else if (timeOk time && timeOk now) = false then (s, 0, 2)
  else if (look (kept s now) id).isSome then ({ s with l := kept s now }, 34, 0)
  else if ((kept s now).length : Int) = s.room then ({ s with l := kept s now }, 60, 0)
  else ({ s with l := kept s now ++ [(id, time, s.clk)], clk := s.clk + 1 }, 0, 0)

theorem newRep_ok {room window : Int} (h1 : roomOk room = true) (h2 : timeOk window = true) : ROk (newRep room window) := by
  simp only [roomOk, timeOk, Bool.and_eq_true, decide_eq_true_eq] at h1 h2
  exact ⟨h1.1, h1.2, h2.1, h2.2, List.nodup_nil, List.nodup_nil, fun e he => (by cases he), by simp only [newRep, List.length_nil]; omega⟩

theorem kept_ok {s : RepS} (h : ROk s) (now : Int) : ROk { s with l := kept s now } :=
  ⟨h.r1, h.r2, h.w0, h.w1, (List.filter_sublist.map _).nodup h.keys, (List.filter_sublist.map _).nodup h.borns, fun e he => h.lt e (List.mem_filter.1 he).1, by
    have := List.length_filter_le (fresh now s.window) s.l
    have := h.len
    simp only [kept]; omega⟩

theorem seeS_ok {s : RepS} (h : ROk s) (id : ByteArray) (time now : Int) : ROk (seeS s id time now).1 := by
  unfold seeS
  have hk := kept_ok h now
  split
  · exact h
  · split
    · exact h
    · split
      · exact hk
      · rename_i hl
        split
        · exact hk
        · rename_i hr
          have hn : look (kept s now) id = none := by simpa using hl
          refine ⟨h.r1, h.r2, h.w0, h.w1, ?_, ?_, ?_, ?_⟩
          · rw [List.map_append, List.nodup_append]
            refine ⟨hk.keys, by simp, fun a ha b hb => ?_⟩
            simp only [List.map_cons, List.map_nil, List.mem_singleton] at hb
            subst hb
            obtain ⟨e, he, rfl⟩ := List.mem_map.1 ha
            exact look_none.1 hn e he
          · rw [List.map_append, List.nodup_append]
            refine ⟨hk.borns, by simp, fun a ha b hb => ?_⟩
            simp only [List.map_cons, List.map_nil, List.mem_singleton] at hb
            subst hb
            obtain ⟨e, he, rfl⟩ := List.mem_map.1 ha
            have := hk.lt e he
            simp only at this; omega
          · intro e he
            rcases List.mem_append.1 he with he | he
            · have := hk.lt e he; simp only at this ⊢; omega
            · rw [List.mem_singleton.1 he]; simp
          · have := hk.len
            simp only [List.length_append, List.length_cons, List.length_nil] at this ⊢
            omega

theorem kStr : KeyT Try.prog 9 ByteArray .string := KeyT.ofString Try.underlying9
theorem zInt (w : World) : (zeroValue 3).run Try.prog w = .ok (.int .i64 0) w := by kernel_rfl

/-! ### while old ones are let go -/
structure Sweep (l : Seen) (ok : ByteArray × Int × Nat → Bool) (L left : Seen) : Prop where
  keys : (L.map (·.1)).Nodup
  borns : (L.map (·.2.2)).Nodup
  sub : ∀ e ∈ left, e ∈ L
  same : L.filter ok = l.filter ok
  done : ∀ e ∈ L, e ∉ left → ok e = true
  lsub : ∀ e ∈ L, e ∈ l

theorem Sweep.begin {l : Seen} {ok : ByteArray × Int × Nat → Bool} (hk : (l.map (·.1)).Nodup) (hb : (l.map (·.2.2)).Nodup) : Sweep l ok l l :=
  ⟨hk, hb, fun _ h => h, rfl, fun e h1 h2 => absurd h1 h2, fun _ h => h⟩
theorem Sweep.end_ {l L : Seen} {ok : ByteArray × Int × Nat → Bool} (h : Sweep l ok L []) : L = l.filter ok := by
  rw [← h.same, List.filter_eq_self.2 (fun e he => h.done e he (by simp))]

theorem same_of_born {L : Seen} (hb : (L.map (·.2.2)).Nodup) {x e : ByteArray × Int × Nat} (hx : x ∈ L) (he : e ∈ L) (h : x.2.2 = e.2.2) : x = e := by
  induction L with
  | nil => cases hx
  | cons a L ih =>
    simp only [List.map_cons, List.nodup_cons] at hb
    rcases List.mem_cons.1 hx with rfl | hx' <;> rcases List.mem_cons.1 he with rfl | he'
    · rfl
    · exact absurd (List.mem_map.2 ⟨e, he', h.symm⟩) hb.1
    · exact absurd (List.mem_map.2 ⟨x, hx', h⟩) hb.1
    · exact ih hb.2 hx' he'
theorem same_of_key {L : Seen} (hb : (L.map (·.1)).Nodup) {x e : ByteArray × Int × Nat} (hx : x ∈ L) (he : e ∈ L) (h : x.1 = e.1) : x = e := by
  induction L with
  | nil => cases hx
  | cons a L ih =>
    simp only [List.map_cons, List.nodup_cons] at hb
    rcases List.mem_cons.1 hx with rfl | hx' <;> rcases List.mem_cons.1 he with rfl | he'
    · rfl
    · exact absurd (List.mem_map.2 ⟨e, he', h.symm⟩) hb.1
    · exact absurd (List.mem_map.2 ⟨x, hx', h⟩) hb.1
    · exact ih hb.2 hx' he'

theorem Sweep.keep {l L left : Seen} {ok : ByteArray × Int × Nat → Bool} (h : Sweep l ok L left) {e : ByteArray × Int × Nat} (he : e ∈ left) (ho : ok e = true) : Sweep l ok L (left.filter fun x => x.2.2 != e.2.2) := by
  refine ⟨h.keys, h.borns, fun x hx => h.sub x (List.mem_filter.1 hx).1, h.same, fun x hx hn => ?_, h.lsub⟩
  by_cases hl : x ∈ left
  · have : x.2.2 = e.2.2 := by
      by_cases hb : x.2.2 = e.2.2
      · exact hb
      · exact absurd (List.mem_filter.2 ⟨hl, by simpa using hb⟩) hn
    rw [same_of_born h.borns hx (h.sub e he) this]; exact ho
  · exact h.done x hx hl

theorem Sweep.drop {l L left : Seen} {ok : ByteArray × Int × Nat → Bool} (h : Sweep l ok L left) {e : ByteArray × Int × Nat} (he : e ∈ left) (ho : ok e = false) :
    Sweep l ok (L.filter fun x => decide (x.1 ≠ e.1)) (left.filter fun x => x.2.2 != e.2.2) ∧
    ∀ seen : Array Nat, (left.filter fun x => x.2.2 != e.2.2) = L.filter (fun x => !seen.contains x.2.2) → (left.filter fun x => x.2.2 != e.2.2) = (L.filter fun x => decide (x.1 ≠ e.1)).filter fun x => !seen.contains x.2.2 := by
  have heL := h.sub e he
  have hne : ∀ x ∈ left.filter (fun x => x.2.2 != e.2.2), x.1 ≠ e.1 := fun x hx hk => by
    obtain ⟨h1, h2⟩ := List.mem_filter.1 hx
    have := same_of_key h.keys (h.sub x h1) heL hk
    rw [this] at h2
    simp at h2
  refine ⟨⟨(List.filter_sublist.map _).nodup h.keys, (List.filter_sublist.map _).nodup h.borns, fun x hx => List.mem_filter.2 ⟨h.sub x (List.mem_filter.1 hx).1, by simpa using hne x hx⟩, ?_, fun x hx hn => ?_, fun x hx => h.lsub x (List.mem_filter.1 hx).1⟩, fun seen hs => ?_⟩
  · rw [← h.same, List.filter_filter]
    refine List.filter_congr fun x hx => ?_
    by_cases hk : x.1 = e.1
    · rw [same_of_key h.keys hx heL hk, ho]; simp
    · simp [hk]
  · obtain ⟨h1, h2⟩ := List.mem_filter.1 hx
    by_cases hl : x ∈ left
    · exfalso
      have : x.2.2 = e.2.2 := by
        by_cases hb : x.2.2 = e.2.2
        · exact hb
        · exact absurd (List.mem_filter.2 ⟨hl, by simpa using hb⟩) hn
      rw [same_of_born h.borns h1 heL this] at h2
      simp at h2
    · exact h.done x h1 hl
  · rw [List.filter_filter]
    have : (L.filter fun x => !seen.contains x.2.2 && decide (x.1 ≠ e.1)) = (L.filter fun x => !seen.contains x.2.2).filter fun x => decide (x.1 ≠ e.1) := by
      rw [List.filter_filter]
      exact List.filter_congr fun x _ => Bool.and_comm _ _
    rw [this, ← hs]
    exact (List.filter_eq_self.2 (fun x hx => by simpa using hne x hx)).symm
end Go.Proofs.Yteifjbfojjjacaa
