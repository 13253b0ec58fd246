/-
  A net, in plain words: what each of its calls does to it. No statement of a claim stands here.
-/
import Derived.Test.YtbjgjagbepopfaaN0
set_option linter.unusedSimpArgs false
namespace Go.Proofs.Ytbjgjagbepopfaa
open Go Go.RowKit Go.ChangeMaps

/-- A message. -/
structure Msg where
  frm : Int
  to : Int
  kind : Int
  body : ByteArray

def Msg.v (m : Msg) : Value := .agg #[.int .i64 m.frm, .int .i64 m.to, .int .i64 m.kind, .string m.body]
def Msg.zero : Msg := ⟨0, 0, 0, ⟨#[]⟩⟩

abbrev Seat := Int × Int
abbrev Way := List (Int × Msg × Nat)

/-- A net: its numbers, what is on its way, what is cut, who is down; the clocks of its maps. -/
structure NetS where
  parties : Int
  room : Int
  last : Int
  sent : Int
  taken : Int
  lost : Int
  way : Way
  cuts : List (Seat × Bool × Nat)
  downs : List (Int × Bool × Nat)
  cw : Nat
  cc : Nat
  cd : Nat

namespace NetS

/-- Is a link cut? -/
def cut (s : NetS) (k : Seat) : Bool := (look s.cuts k).getD false
/-- Is a party down? -/
def down (s : NetS) (k : Int) : Bool := (look s.downs k).getD false
/-- Is it a party? -/
def party (s : NetS) (k : Int) : Bool := decide (1 ≤ k ∧ k ≤ s.parties)

structure Ok (s : NetS) : Prop where
  parties : 1 ≤ s.parties ∧ s.parties ≤ 64
  room : 1 ≤ s.room ∧ s.room ≤ 4096
  rising : (s.way.map (·.1)).Pairwise (· < ·)
  upto : ∀ e ∈ s.way, 1 ≤ e.1 ∧ e.1 ≤ s.last
  born : (s.way.map (·.2.2)).Nodup
  lt : ∀ e ∈ s.way, e.2.2 < s.cw
  fits : (s.way.length : Int) ≤ s.room
  cuts : (s.cuts.map (·.1)).Nodup
  downs : (s.downs.map (·.1)).Nodup
  last : 0 ≤ s.last ∧ s.last ≤ s.sent
  taken : 0 ≤ s.taken
  lost : 0 ≤ s.lost
  sum : s.sent = s.taken + s.lost + s.way.length

theorem Ok.nodup {s : NetS} (h : s.Ok) : (s.way.map (·.1)).Nodup := by
  rw [List.nodup_iff_pairwise_ne]
  exact h.rising.imp fun h => by omega

/-- A message is let on its way. -/
def put (s : NetS) (m : Msg) : NetS × Int × Int :=
  if (s.way.length : Int) = s.room then (s, 0, 4)
  else ({ s with last := s.last + 1, sent := s.sent + 1, way := s.way ++ [(s.last + 1, m, s.cw)], cw := s.cw + 1 }, s.last + 1, 0)

theorem look_fresh {s : NetS} (h : s.Ok) : look s.way (s.last + 1) = none := by
  rw [look_none]
  intro e he
  have := h.upto e he
  omega

theorem put_ok {s : NetS} (h : s.Ok) (m : Msg) : (s.put m).1.Ok := by
  unfold put
  split
  · exact h
  · rename_i hn
    have hf := h.fits
    refine ⟨h.parties, h.room, ?_, ?_, ?_, ?_, ?_, h.cuts, h.downs, ?_, h.taken, h.lost, ?_⟩
    · simp only [List.map_append, List.map_cons, List.map_nil]
      rw [List.pairwise_append]
      refine ⟨h.rising, by simp, fun a ha b hb => ?_⟩
      obtain ⟨e, he, rfl⟩ := List.mem_map.1 ha
      have := h.upto e he
      simp at hb
      omega
    · intro e he
      rcases List.mem_append.1 he with he | he
      · have := h.upto e he
        refine ⟨this.1, ?_⟩
        have := this.2
        show e.1 ≤ s.last + 1
        omega
      · simp at he
        subst he
        have := h.last
        exact ⟨by dsimp only; omega, by dsimp only; omega⟩
    · simp only [List.map_append, List.map_cons, List.map_nil]
      rw [List.nodup_append]
      refine ⟨h.born, by simp, ?_⟩
      intro a ha b hb
      obtain ⟨e, he, rfl⟩ := List.mem_map.1 ha
      have := h.lt e he
      simp at hb
      omega
    · intro e he
      show e.2.2 < s.cw + 1
      rcases List.mem_append.1 he with he | he
      · have := h.lt e he; omega
      · simp at he; subst he; dsimp only; omega
    · simp only [List.length_append, List.length_cons, List.length_nil]; omega
    · have := h.last; dsimp only; omega
    · have := h.sum; simp only [List.length_append, List.length_cons, List.length_nil]; omega

/-- Send. -/
def send (s : NetS) (m : Msg) : NetS × Int × Int :=
  if s.party m.frm && s.party m.to then
    if m.kind < 0 then (s, 0, 2)
    else if 4096 < m.body.size then (s, 0, 3)
    else if s.down m.frm then (s, 0, 8)
    else if s.down m.to then ({ s with sent := s.sent + 1, lost := s.lost + 1 }, 0, 0)
    else s.put m
  else (s, 0, 2)

theorem send_ok {s : NetS} (h : s.Ok) (m : Msg) : (s.send m).1.Ok := by
  unfold send
  repeat' split
  all_goals first
    | exact h
    | exact put_ok h m
    | exact ⟨h.parties, h.room, h.rising, h.upto, h.born, h.lt, h.fits, h.cuts, h.downs, by have := h.last; dsimp only; omega, h.taken, by have := h.lost; dsimp only; omega, by have := h.sum; dsimp only; omega⟩

/-- The message of a number that may be taken. -/
def free (s : NetS) (k : Int) : Option Msg := (look s.way k).bind fun m => if s.cut (m.frm, m.to) then none else some m

/-- What is behind a taking. -/
def gone (s : NetS) (k : Int) : NetS := { s with way := s.way.filter (fun e => decide (e.1 ≠ k)), taken := s.taken + 1 }

theorem gone_len {l : Way} {k : Int} {m : Msg} (hn : (l.map (·.1)).Nodup) (h : look l k = some m) : (l.filter (fun e => decide (e.1 ≠ k))).length + 1 = l.length := by
  obtain ⟨i, n, _, h2⟩ := idx_some h
  rw [← erase_filter hn h2, List.length_eraseIdx]
  have := (List.getElem?_eq_some_iff.1 h2).1
  rw [if_pos this]
  omega

theorem gone_ok {s : NetS} (h : s.Ok) {k : Int} {m : Msg} (hl : look s.way k = some m) : (s.gone k).Ok := by
  have hlen := gone_len h.nodup hl
  have hsub : (s.way.filter (fun e => decide (e.1 ≠ k))).Sublist s.way := List.filter_sublist
  refine ⟨h.parties, h.room, h.rising.sublist (hsub.map _), fun e he => h.upto e (hsub.subset he), h.born.sublist (hsub.map _), fun e he => h.lt e (hsub.subset he), ?_, h.cuts, h.downs, h.last, ?_, h.lost, ?_⟩
  · have := h.fits; show ((s.way.filter _).length : Int) ≤ s.room; omega
  · have := h.taken; show 0 ≤ s.taken + 1; omega
  · have := h.sum; show s.sent = s.taken + 1 + s.lost + ((s.way.filter (fun e => decide (e.1 ≠ k))).length : Nat); omega

/-- Take. -/
def take (s : NetS) (k : Int) : NetS × Msg × Int :=
  match s.free k with
  | none => (s, Msg.zero, 300)
  | some m => (s.gone k, m, 0)

theorem free_look {s : NetS} {k : Int} {m : Msg} (h : s.free k = some m) : look s.way k = some m ∧ s.cut (m.frm, m.to) = false := by
  unfold free at h
  cases hl : look s.way k with
  | none => rw [hl] at h; cases h
  | some m' =>
    rw [hl] at h
    simp only [Option.bind_some] at h
    split at h
    · cases h
    · rename_i hc
      cases h
      exact ⟨rfl, by simpa using hc⟩

theorem take_ok {s : NetS} (h : s.Ok) (k : Int) : (s.take k).1.Ok := by
  unfold take
  split
  · exact h
  · rename_i m hf
    exact gone_ok h (free_look hf).1

/-- Copy. -/
def copy (s : NetS) (k : Int) : NetS × Int × Int :=
  match s.free k with
  | none => (s, 0, 300)
  | some m => s.put m

theorem copy_ok {s : NetS} (h : s.Ok) (k : Int) : (s.copy k).1.Ok := by
  unfold copy
  split
  · exact h
  · exact put_ok h _

/-- What waits for a party. -/
def waiting (s : NetS) (to : Int) : List Int := (s.way.filter (fun e => decide (e.2.1.to = to))).map (·.1)

/-- The oldest one to a party. -/
def oldest (s : NetS) (to : Int) : Int × Int :=
  if s.party to then
    match (s.waiting to).find? (fun k => (s.free k).isSome) with
    | none => (0, 300)
    | some k => (k, 0)
  else (0, 2)

/-- A link is cut, or made whole. -/
def cutting (s : NetS) (k : Seat) (on : Bool) : NetS × Int :=
  if s.party k.1 && s.party k.2 then
    if on then ({ s with cuts := s.cuts.filter (fun e => decide (e.1 ≠ k)) ++ [(k, true, s.cc)], cc := s.cc + 1 }, 0)
    else ({ s with cuts := s.cuts.filter (fun e => decide (e.1 ≠ k)) }, 0)
  else (s, 2)

theorem nodup_put {α β : Type} [DecidableEq α] {l : List (α × β × Nat)} (hn : (l.map (·.1)).Nodup) (k : α) (v : β) (c : Nat) : ((l.filter (fun e => decide (e.1 ≠ k)) ++ [(k, v, c)]).map (·.1)).Nodup := by
  simp only [List.map_append, List.map_cons, List.map_nil]
  rw [List.nodup_append]
  refine ⟨hn.sublist (List.filter_sublist.map _), by simp, ?_⟩
  intro a ha b hb
  obtain ⟨e, he, rfl⟩ := List.mem_map.1 ha
  have := (List.mem_filter.1 he).2
  simp at hb this
  subst hb
  exact this

theorem cutting_ok {s : NetS} (h : s.Ok) (k : Seat) (on : Bool) : (s.cutting k on).1.Ok := by
  unfold cutting
  repeat' split
  · exact ⟨h.parties, h.room, h.rising, h.upto, h.born, h.lt, h.fits, nodup_put h.cuts _ _ _, h.downs, h.last, h.taken, h.lost, h.sum⟩
  · exact ⟨h.parties, h.room, h.rising, h.upto, h.born, h.lt, h.fits, h.cuts.sublist (List.filter_sublist.map _), h.downs, h.last, h.taken, h.lost, h.sum⟩
  · exact h

end NetS
end Go.Proofs.Ytbjgjagbepopfaa
