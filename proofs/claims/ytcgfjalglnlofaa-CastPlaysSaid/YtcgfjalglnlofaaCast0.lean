/-
  The pure side of a broadcast's node: votes as a list, and what counting them gives. No statement of a claim stands here.
-/
import Derived.Test.YtcgfjalglnlofaaMap
set_option linter.unusedSimpArgs false
namespace Go.Proofs.Ytcgfjalglnlofaa
open Go

/-- Who said what, in the order in which it came. -/
abbrev Votes := List (Int × ByteArray × Nat)

/-- Votes as a map lays them: no sender twice, stamps from 0 on. -/
structure VOk (l : Votes) : Prop where
  keys : (l.map (·.1)).Nodup
  stamps : l.map (·.2.2) = List.range l.length

theorem VOk.nil : VOk [] := ⟨by simp, rfl⟩
theorem VOk.born {l : Votes} (h : VOk l) : (l.map (·.2.2)).Nodup := by rw [h.stamps]; exact List.nodup_range
theorem VOk.lt {l : Votes} (h : VOk l) : ∀ e ∈ l, e.2.2 < l.length := fun e he => by
  have : e.2.2 ∈ l.map (·.2.2) := List.mem_map.2 ⟨e, he, rfl⟩
  rw [h.stamps] at this
  exact List.mem_range.1 this
theorem VOk.add {l : Votes} (h : VOk l) (k : Int) (v : ByteArray) (hk : look l k = none) : VOk (l ++ [(k, v, l.length)]) :=
  ⟨by
    rw [List.map_append, List.nodup_append]
    refine ⟨h.keys, by simp, fun a ha b hb => ?_⟩
    simp only [List.map_cons, List.map_nil, List.mem_singleton] at hb
    subst hb
    obtain ⟨e, he, rfl⟩ := List.mem_map.1 ha
    exact look_none.1 hk e he, by simp [h.stamps, List.range_succ]⟩

/-- How many say a value. -/
def cnt (l : Votes) (v : ByteArray) : Nat := l.countP fun e => decide (e.2.1 = v)
theorem cnt_le (l : Votes) (v : ByteArray) : cnt l v ≤ l.length := List.countP_le_length
theorem cnt_perm {l m : Votes} (v : ByteArray) (h : l.Perm m) : cnt l v = cnt m v := h.countP_eq _

/-- One vote more, and how many say so then; 0: that sender said something already. -/
def addL (l : Votes) (k : Int) (v : ByteArray) : Votes := if (look l k).isSome then l else l ++ [(k, v, l.length)]
def addN (l : Votes) (k : Int) (v : ByteArray) : Nat := if (look l k).isSome then 0 else cnt (l ++ [(k, v, l.length)]) v

theorem addL_ok {l : Votes} (h : VOk l) (k : Int) (v : ByteArray) : VOk (addL l k v) := by
  unfold addL
  split
  · exact h
  · rename_i hk; exact h.add k v (by simpa using hk)

/-- One entry taken out of those that are left. -/
theorem cnt_strike {l : Votes} (hn : (l.map (·.2.2)).Nodup) {e : Int × ByteArray × Nat} (he : e ∈ l) (v : ByteArray) :
    cnt l v = (if e.2.1 = v then 1 else 0) + cnt (l.filter fun x => x.2.2 != e.2.2) v ∧ (l.filter fun x => x.2.2 != e.2.2).length < l.length ∧ ((l.filter fun x => x.2.2 != e.2.2).map (·.2.2)).Nodup := by
  induction l with
  | nil => cases he
  | cons x l ih =>
    simp only [List.map_cons, List.nodup_cons] at hn
    have hsub : ∀ m : Votes, ((m.filter fun y => y.2.2 != e.2.2).map (·.2.2)).Sublist (m.map (·.2.2)) := fun m => List.Sublist.map _ List.filter_sublist
    cases he with
    | head =>
      have hl : l.filter (fun y => y.2.2 != e.2.2) = l := by
        rw [List.filter_eq_self]
        intro y hy
        simp only [bne_iff_ne]
        intro h
        exact hn.1 (List.mem_map.2 ⟨y, hy, h⟩)
      simp only [List.filter_cons, bne_self_eq_false, Bool.false_eq_true, if_false, hl]
      refine ⟨?_, by simp, hn.2⟩
      simp [cnt, List.countP_cons]
      omega
    | tail _ he =>
      obtain ⟨h1, h2, h3⟩ := ih hn.2 he
      have hx : (x.2.2 != e.2.2) = true := by
        simp only [bne_iff_ne]
        intro h
        exact hn.1 (List.mem_map.2 ⟨e, he, h.symm⟩)
      simp only [List.filter_cons, hx, if_true]
      refine ⟨?_, by simpa using h2, ?_⟩
      · simp only [cnt, List.countP_cons] at h1 ⊢
        omega
      · have h4 : ((x :: l).map (·.2.2)).Nodup := by simp [hn]
        have := List.Nodup.sublist (hsub (x :: l)) h4
        simpa only [List.filter_cons, hx, if_true] using this

/-- A node of a broadcast. -/
structure NodeS where
  n : Int
  t : Int
  me : Int
  dealer : Int
  E : Votes
  R : Votes
  began : Bool
  heard : Bool
  ev : ByteArray
  ei : Bool
  rv : ByteArray
  ri : Bool
  sv : ByteArray
  si : Bool

structure Msg where
  kind : Int
  from_ : Int
  val : ByteArray

def Msg.cells (m : Msg) : List Value := [.int .i64 m.kind, .int .i64 m.from_, .string m.val]

/-- What a node does with a message that may be (15.1). -/
def sendE (s : NodeS) (v : ByteArray) : NodeS × List Msg := if s.ei then (s, []) else ({ s with ev := v, ei := true }, [⟨2, s.me, v⟩])
def sendR (s : NodeS) (v : ByteArray) : NodeS × List Msg := if s.ri then (s, []) else ({ s with rv := v, ri := true }, [⟨3, s.me, v⟩])
def settle (s : NodeS) (v : ByteArray) : NodeS := if s.si then s else { s with sv := v, si := true }

def mayBe (s : NodeS) (m : Msg) : Bool := decide (1 ≤ m.from_) && decide (m.from_ ≤ s.n) && decide (m.val.size ≤ 4096)

def takeS (s : NodeS) (m : Msg) : NodeS × List Msg :=
  if mayBe s m then
    if m.kind = 1 then
      if m.from_ = s.dealer ∧ s.heard = false then sendE { s with heard := true } m.val else (s, [])
    else if m.kind = 2 then
      if 2 * (addN s.E m.from_ m.val : Int) > s.n + s.t then sendR { s with E := addL s.E m.from_ m.val } m.val else ({ s with E := addL s.E m.from_ m.val }, [])
    else if m.kind = 3 then
      if (addN s.R m.from_ m.val : Int) > 2 * s.t then sendR (settle { s with R := addL s.R m.from_ m.val } m.val) m.val
      else if (addN s.R m.from_ m.val : Int) > s.t then sendR { s with R := addL s.R m.from_ m.val } m.val
      else ({ s with R := addL s.R m.from_ m.val }, [])
    else (s, [])
  else (s, [])
end Go.Proofs.Ytcgfjalglnlofaa
