/-
  The pure side of an agreement's node: votes as a list, what counting them gives, and what a node does. No statement of a claim stands here.
-/
import Derived.Test.YtnpmjpdndhedgaaMap
set_option linter.unusedSimpArgs false
namespace Go.Proofs.Ytnpmjpdndhedgaa
open Go

/-- Who said what, in the order in which it came. -/
abbrev Votes := List (Int × ByteArray × Nat)

/-- Votes as a map lays them: no sender twice, stamps from 0 on. -/
structure VOk (l : Votes) : Prop where
  keys : (l.map (·.1)).Nodup
  stamps : l.map (·.2.2) = List.range l.length

theorem VOk.nil : VOk [] := ⟨by simp, rfl⟩
theorem VOk.born {l : Votes} (h : VOk l) : (l.map (·.2.2)).Nodup := by rw [h.stamps]; exact List.nodup_range
theorem VOk.lt {l : Votes} (h : VOk l) : ∀ e ∈ l, e.2.2 < l.length := fun e he => by
  have : e.2.2 ∈ l.map (·.2.2) := List.mem_map.2 ⟨e, he, rfl⟩
  rw [h.stamps] at this
  exact List.mem_range.1 this
theorem VOk.add {l : Votes} (h : VOk l) (k : Int) (v : ByteArray) (hk : look l k = none) : VOk (l ++ [(k, v, l.length)]) :=
  ⟨by
    rw [List.map_append, List.nodup_append]
    refine ⟨h.keys, by simp, fun a ha b hb => ?_⟩
    simp only [List.map_cons, List.map_nil, List.mem_singleton] at hb
    subst hb
    obtain ⟨e, he, rfl⟩ := List.mem_map.1 ha
    exact look_none.1 hk e he, by simp [h.stamps, List.range_succ]⟩

/-- How many say a value. -/
def cnt (l : Votes) (v : ByteArray) : Nat := l.countP fun e => decide (e.2.1 = v)
theorem cnt_le (l : Votes) (v : ByteArray) : cnt l v ≤ l.length := List.countP_le_length
theorem cnt_perm {l m : Votes} (v : ByteArray) (h : l.Perm m) : cnt l v = cnt m v := h.countP_eq _

/-- One vote more, and how many say so then; 0: that sender said something already. -/
def addL (l : Votes) (k : Int) (v : ByteArray) : Votes := if (look l k).isSome then l else l ++ [(k, v, l.length)]
def addN (l : Votes) (k : Int) (v : ByteArray) : Nat := if (look l k).isSome then 0 else cnt (l ++ [(k, v, l.length)]) v

theorem addL_ok {l : Votes} (h : VOk l) (k : Int) (v : ByteArray) : VOk (addL l k v) := by
  unfold addL
  split
  · exact h
  · rename_i hk; exact h.add k v (by simpa using hk)

/-- One entry taken out of those that are left. -/
theorem cnt_strike {l : Votes} (hn : (l.map (·.2.2)).Nodup) {e : Int × ByteArray × Nat} (he : e ∈ l) (v : ByteArray) :
    cnt l v = (if e.2.1 = v then 1 else 0) + cnt (l.filter fun x => x.2.2 != e.2.2) v ∧ (l.filter fun x => x.2.2 != e.2.2).length < l.length ∧ ((l.filter fun x => x.2.2 != e.2.2).map (·.2.2)).Nodup := by
  induction l with
  | nil => cases he
  | cons x l ih =>
    simp only [List.map_cons, List.nodup_cons] at hn
    have hsub : ∀ m : Votes, ((m.filter fun y => y.2.2 != e.2.2).map (·.2.2)).Sublist (m.map (·.2.2)) := fun m => List.Sublist.map _ List.filter_sublist
    cases he with
    | head =>
      have hl : l.filter (fun y => y.2.2 != e.2.2) = l := by
        rw [List.filter_eq_self]
        intro y hy
        simp only [bne_iff_ne]
        intro h
        exact hn.1 (List.mem_map.2 ⟨y, hy, h⟩)
      simp only [List.filter_cons, bne_self_eq_false, Bool.false_eq_true, if_false, hl]
      refine ⟨?_, by simp, hn.2⟩
      simp [cnt, List.countP_cons]
      omega
    | tail _ he =>
      obtain ⟨h1, h2, h3⟩ := ih hn.2 he
      have hx : (x.2.2 != e.2.2) = true := by
        simp only [bne_iff_ne]
        intro h
        exact hn.1 (List.mem_map.2 ⟨e, he, h.symm⟩)
      simp only [List.filter_cons, hx, if_true]
      refine ⟨?_, by simpa using h2, ?_⟩
      · simp only [cnt, List.countP_cons] at h1 ⊢
        omega
      · have h4 : ((x :: l).map (·.2.2)).Nodup := by simp [hn]
        have := List.Nodup.sublist (hsub (x :: l)) h4
        simpa only [List.filter_cons, hx, if_true] using this

/-- A kind of messages of a round. -/
abbrev Seat := Int × Int
def upd {β : Type} (f : Seat → β) (k : Seat) (v : β) : Seat → β := fun x => if x = k then v else f x
theorem upd_same {β : Type} (f : Seat → β) (k : Seat) (v : β) : upd f k v k = v := if_pos rfl
theorem upd_ne {β : Type} (f : Seat → β) {k x : Seat} (v : β) (h : x ≠ k) : upd f k v x = f x := if_neg h
theorem upd_self {β : Type} (f : Seat → β) (k : Seat) : upd f k (f k) = f := by
  funext x; unfold upd; split
  · rename_i h; rw [h]
  · rfl

structure Msg where
  kind : Int
  from_ : Int
  round : Int
  val : ByteArray
def Msg.cells (m : Msg) : List Value := [.int .i64 m.kind, .int .i64 m.from_, .int .i64 m.round, .string m.val]
def Msg.seat (m : Msg) : Seat := (m.kind, m.round)

/-- A node of an agreement. -/
structure NodeS where
  n : Int
  t : Int
  me : Int
  input : ByteArray
  round : Int
  hd : Seat → Votes
  lv : ByteArray
  lr : Int
  sent : Seat → Bool
  choice : ByteArray
  done : Bool

/-- What is to be known of a node: its numbers, its votes. -/
structure NOk (s : NodeS) : Prop where
  n0 : 1 ≤ s.n
  n1 : s.n ≤ 16
  t0 : 0 ≤ s.t
  t1 : 3 * s.t + 1 ≤ s.n
  me0 : 1 ≤ s.me
  me1 : s.me ≤ s.n
  r0 : -1 ≤ s.round
  r1 : s.round ≤ 63
  lr0 : -1 ≤ s.lr
  lr1 : s.lr ≤ 63
  vok : ∀ k, VOk (s.hd k)
  frm : ∀ k, ∀ e ∈ s.hd k, 1 ≤ e.1 ∧ e.1 ≤ s.n

theorem keys_few {l : Votes} (h : VOk l) {n : Int} (hf : ∀ e ∈ l, 1 ≤ e.1 ∧ e.1 ≤ n) : (l.length : Int) ≤ max n 0 := by
  have h2 : ((l.map fun e => (e.1 - 1).toNat)).Nodup := by
    have hk := h.keys
    rw [show (l.map fun e : Int × ByteArray × Nat => (e.1 - 1).toNat) = (l.map (·.1)).map (fun k : Int => (k - 1).toNat) by rw [List.map_map]; rfl]
    refine List.Pairwise.map _ ?_ (List.Pairwise.and_mem.1 hk)
    intro a b ⟨ha, hb, hne⟩ e
    obtain ⟨x, hx, rfl⟩ := List.mem_map.1 ha
    obtain ⟨y, hy, rfl⟩ := List.mem_map.1 hb
    have := hf x hx
    have := hf y hy
    exact hne (by omega)
  have h3 : (l.map fun e : Int × ByteArray × Nat => (e.1 - 1).toNat) ⊆ List.range n.toNat := by
    intro x hx
    obtain ⟨e, he, rfl⟩ := List.mem_map.1 hx
    have := hf e he
    rw [List.mem_range]; omega
  have := h2.length_le_of_subset h3
  simp only [List.length_map, List.length_range] at this
  omega
theorem NOk.few {s : NodeS} (h : NOk s) (k : Seat) : (s.hd k).length ≤ 16 := by
  have := keys_few (h.vok k) (h.frm k)
  have := h.n0; have := h.n1
  omega

def leaderS (s : NodeS) (r : Int) : Int := r % s.n + 1
def sayS (s : NodeS) (kind : Int) (v : ByteArray) : NodeS × List Msg :=
  if s.sent (kind, s.round) then (s, []) else ({ s with sent := upd s.sent (kind, s.round) true }, [⟨kind, s.me, s.round, v⟩])
def propS (s : NodeS) : NodeS × List Msg := if leaderS s s.round = s.me then sayS s 1 (if 0 ≤ s.lr then s.lv else s.input) else (s, [])
def voteS (s : NodeS) : NodeS × List Msg := match look (s.hd (1, s.round)) (leaderS s s.round) with
  | some v => sayS s 2 (if 0 ≤ s.lr ∧ s.lv ≠ v then ⟨#[]⟩ else v)
  | none => (s, [])
def hereS (s : NodeS) : NodeS × List Msg := ((voteS (propS s).1).1, (propS s).2 ++ (voteS (propS s).1).2)
def lockS (s : NodeS) (r : Int) (v : ByteArray) : NodeS := if s.lr < r then { s with lv := v, lr := r } else s
def wonS (s : NodeS) (r : Int) (v : ByteArray) : NodeS × List Msg :=
  if v = ⟨#[]⟩ ∨ (cnt (s.hd (2, r)) v : Int) < s.n - s.t then (s, [])
  else if s.round ≠ r then (lockS s r v, []) else sayS (lockS s r v) 3 v
def mayS (s : NodeS) (m : Msg) : Bool :=
  decide (1 ≤ m.from_) && decide (m.from_ ≤ s.n) && decide (0 ≤ m.round) && decide (m.round < 64) && decide (m.val.size ≤ 4096) &&
    (decide (m.kind = 2) || ((decide (m.kind = 1) && decide (m.from_ = leaderS s m.round) || decide (m.kind = 3)) && decide (m.val ≠ ⟨#[]⟩)))
def addS (s : NodeS) (m : Msg) : NodeS := { s with hd := upd s.hd m.seat (addL (s.hd m.seat) m.from_ m.val) }
def actS (s : NodeS) (m : Msg) (k : Nat) : NodeS × List Msg :=
  if m.kind = 2 then wonS s m.round m.val
  else if m.kind = 3 ∧ s.n - s.t ≤ (k : Int) ∧ s.done = false then ({ s with choice := m.val, done := true }, [])
  else (s, [])
def takeS (s : NodeS) (m : Msg) : NodeS × List Msg :=
  if s.round < 0 ∨ mayS s m = false then (s, [])
  else if (look (s.hd m.seat) m.from_).isSome then (s, [])
  else ((hereS (actS (addS s m) m (addN (s.hd m.seat) m.from_ m.val)).1).1, (actS (addS s m) m (addN (s.hd m.seat) m.from_ m.val)).2 ++ (hereS (actS (addS s m) m (addN (s.hd m.seat) m.from_ m.val)).1).2)
/-- The value with enough votes in a round, if there is one. -/
def winner (s : NodeS) (r : Int) : Option ByteArray := ((s.hd (2, r)).find? fun e => decide (e.2.1 ≠ ⟨#[]⟩) && decide (s.n - s.t ≤ (cnt (s.hd (2, r)) e.2.1 : Int))).map (·.2.1)
def winS (s : NodeS) (r : Int) : NodeS × List Msg := match winner s r with
  | some v => wonS s r v
  | none => (s, [])
def timeoutS (s : NodeS) : NodeS × List Msg :=
  if s.round < 0 ∨ s.round = 63 then (s, [])
  else ((hereS (winS { s with round := s.round + 1 } (s.round + 1)).1).1, (winS { s with round := s.round + 1 } (s.round + 1)).2 ++ (hereS (winS { s with round := s.round + 1 } (s.round + 1)).1).2)
def beginS (s : NodeS) : NodeS × List Msg := if 0 ≤ s.round then (s, []) else hereS { s with round := 0 }
def makeS (n t me : Int) (input : ByteArray) : NodeS := ⟨n, t, me, input, -1, fun _ => [], ⟨#[]⟩, -1, fun _ => false, ⟨#[]⟩, false⟩
end Go.Proofs.Ytnpmjpdndhedgaa
