/-
  An agreement's node, walked: is, leader, many. No statement of a claim stands here; each contract names what it asks.
-/
import Derived.Test.YtnpmjpdndhedgaaG1
import Derived.Deep.QuietTactic
import Derived.BigQuiet
import Derived.Deep.LoopGhost
import Derived.Deep.RegionHeld3
import Derived.Laws.IdiomRangeMap
set_option linter.unusedSimpArgs false
namespace Go.Proofs.Ytnpmjpdndhedgaa
open Go Go.RowKit Go.ChangeMaps

theorem kInt : KeyT Try.prog 3 Int (.int .i64) := KeyT.ofInt Try.underlying3
theorem zStr (w : World) : (zeroValue 9).run Try.prog w = .ok (.string ByteArray.empty) w := by kernel_rfl
theorem zMap (w : World) : (zeroValue 79).run Try.prog w = .ok (.map none) w := by kernel_rfl
theorem zBool (w : World) : (zeroValue 4).run Try.prog w = .ok (.bool false) w := by kernel_rfl

abbrev votesObj (l : Votes) : Obj := mapObj (.int .i64) .string l l.length
abbrev Heard := List (Seat × Nat × Nat)
abbrev heardObj (l : Heard) : Obj := mapObj seatV (fun b : Nat => .map (some b)) l l.length

/-- Block bh is who said what. -/
structure HdAt (w : World) (bh : Nat) (lh : Heard) (hd : Seat → Votes) : Prop where
  map : w.heap[bh]? = some (heardObj lh)
  keys : (lh.map (·.1)).Nodup
  blks : (lh.map (·.2.1)).Nodup
  inner : ∀ e ∈ lh, w.heap[e.2.1]? = some (votesObj (hd e.1))
  other : ∀ k, look lh k = none → hd k = []
  apart : ∀ e ∈ lh, e.2.1 ≠ bh

theorem HdAt.mod {w w' : World} {bh : Nat} {lh : Heard} {hd : Seat → Votes} {S : List Nat} (h : HdAt w bh lh hd) (m : Mod S w w') (h1 : bh ∉ S) (h2 : ∀ e ∈ lh, e.2.1 ∉ S) : HdAt w' bh lh hd :=
  ⟨m.get h.map h1, h.keys, h.blks, fun e he => m.get (h.inner e he) (h2 e he), h.other, h.apart⟩
theorem HdAt.mod0 {w w' : World} {bh : Nat} {lh : Heard} {hd : Seat → Votes} (h : HdAt w bh lh hd) (m : Mod [] w w') : HdAt w' bh lh hd := h.mod m (by simp) (by simp)
theorem HdAt.find {w : World} {bh : Nat} {lh : Heard} {hd : Seat → Votes} (h : HdAt w bh lh hd) (k : Seat) : (look lh k = none ∧ hd k = []) ∨ ∃ b, look lh k = some b ∧ w.heap[b]? = some (votesObj (hd k)) ∧ b ≠ bh := by
  cases hl : look lh k with
  | none => exact .inl ⟨rfl, h.other k hl⟩
  | some b =>
    obtain ⟨n, hn⟩ := look_some_mem hl
    exact .inr ⟨b, rfl, h.inner _ hn, h.apart _ hn⟩

theorem is_some (b : Nat) (n : Int) (w : World) (hn : 0 < n) (hc : w.cell? ⟨b, 0, none⟩ = some (.int .i64 n)) :
    Calls Try.prog 28 #[.pointer (some ⟨b, 0, none⟩)] w fun e w' => e = .returned (.bool true) ∧ w' = w := by
  have e : decide (n > 0) = true := by simp; omega
  go_enter Try.func28, Try.ntmps28
  go_wp2
  go_ret
  exact ⟨rfl, rfl⟩

theorem leader_any (x : Nat) (n r : Int) (w : World) (hn : 1 ≤ n) (hn2 : n ≤ 16) (hr : 0 ≤ r) (_ : r ≤ 63) (hc : w.cell? ⟨x, 0, none⟩ = some (.int .i64 n)) :
    Calls Try.prog 36 #[.pointer (some ⟨x, 0, none⟩), .int .i64 r] w fun e w' => e = .returned (.int .i64 (r % n + 1)) ∧ w' = w := by
  have h1 := Int.emod_nonneg r (show n ≠ 0 by omega)
  have h2 := Int.emod_lt_of_pos r (show 0 < n by omega)
  have e1 : r.tmod n = r % n := Int.tmod_eq_emod_of_nonneg hr
  have e2 : IntKind.i64.wrap (r % n) = r % n := IntWalk.i64_in _ (by omega)
  have e3 : IntKind.i64.wrap (r % n + 1) = r % n + 1 := IntWalk.i64_in _ (by omega)
  have ne : (n == 0) = false := by rw [beq_eq_false_iff_ne]; omega
  generalize r % n = q at *
  go_enter Try.func36, Try.ntmps36
  go_wp2
  go_ret
  exact ⟨rfl, rfl⟩

/-- While the votes are counted: n so far, of those that are left. -/
def ManyRel (b : Nat) (l : Votes) (v : ByteArray) (w0 : World) (r : Nat) (gk : Nat) (n : Value) (wr : World) : Prop :=
  ∃ (left : Votes) (m : Nat), gk = left.length ∧ n = .int .i64 m ∧ m + cnt left v = cnt l v ∧ (∀ e ∈ left, e ∈ l) ∧ (left.map (·.2.2)).Nodup ∧ IterAt wr r b l.length l left ∧ wr.heap[b]? = some (votesObj l) ∧ Mod [] w0 wr ∧ w0.heap.size ≤ r

set_option maxHeartbeats 400000 in
theorem many_some (w : World) (bh : Nat) (lh : Heard) (hd : Seat → Votes) (p q : Int) (v : ByteArray) (h : HdAt w bh lh hd) (hv : VOk (hd (p, q))) (hs : (hd (p, q)).length ≤ 16) (b : Nat) (hl : look lh (p, q) = some b) (hb : w.heap[b]? = some (votesObj (hd (p, q)))) :
    Calls Try.prog 39 #[.map (some bh), .agg #[.int .i64 p, .int .i64 q], .string v] w fun e w' => e = .returned (.int .i64 (cnt (hd (p, q)) v : Nat)) ∧ Mod [] w w' := by
  generalize hd (p, q) = l at *
  have hl2 := run_look_v (t := 73) (w := w.alloc (.cells #[.int .i64 p, .int .i64 q] 81)) kSeat Try.underlying73 (get_alloc h.map _) (p, q) hl
  simp only [seatV] at hl2
  have hb2 : (w.alloc (.cells #[.int .i64 p, .int .i64 q] 81)).heap[b]? = some (votesObj l) := get_alloc hb _
  have hlt := lt_of_block hb
  have hc : cnt l v ≤ 16 := by have := cnt_le l v; omega
  have HV := hid hv
  have HC := hid hc
  clear h hl hb hv hs
  go_enter Try.func39, Try.ntmps39
  go_wp2_with (first
    | (at_range; refine wpList_range_at rfl _ _ _ rfl Try.underlying79 b l.length l rfl hb2 ?_; intro w2 hi2 hm2 hb3 hs2; clear hb2))
  have hm3 : Mod [] w w2 := (Mod.alloc (Mod.refl _ _) _).trans hm2
  have hr : w.heap.size ≤ (w.alloc (.cells #[.int .i64 p, .int .i64 q] 81)).heap.size := by simp
  generalize (w.alloc (.cells #[.int .i64 p, .int .i64 q] 81)).heap.size = r at *
  clear hm2 hs2 hl2
  go_frame
  go_loopg [7] l.length (fun gk n wr => ManyRel b l v w r gk n wr)
  case atStart => exact ⟨l, 0, rfl, rfl, by omega, fun _ h => h, HV.out.born, hi2, hb3, hm3, hr⟩
  case round =>
    obtain ⟨left, m, e0, e1, hcnt, hsub, hnd, hit, hbr, hmr, _⟩ := hrel
    subst e0 e1
    have hne : b ≠ r := by omega
    have HLT := hid HV.out.lt
    have HB := hid HV.out.born
    have HS := hid hsub
    have HN := hid hnd
    have HCN := hid hcnt
    have hm : m ≤ 16 := by omega
    clear hsub hnd hcnt hi2 hb3
    go_wp2_with (first
      | (at_next; refine wpList_next_at rfl _ rfl r b l.length l left rfl hbr HLT.out HB.out HS.out hne hit ?_ ?_))
    · intro hl
      subst hl
      go_wp2
      go_ret
      have hC := HCN.out
      simp only [cnt, List.countP_nil] at hC
      rw [show (m : Int) = (cnt l v : Nat) from by simp only [cnt]; omega]
      exact ⟨rfl, hmr⟩
    · intro ek ev eb w' he hon hm' hs' hb' hent
      obtain ⟨q1, q2, q3⟩ := cnt_strike HN.out he v
      dsimp only at q1 q2 q3 hon
      have hmod : Mod [] w w' := hmr.trans' hm' (by simp; omega)
      have hsub : ∀ x ∈ left.filter (fun x => x.2.2 != eb), x ∈ l := fun x hx => HS.out x ((List.mem_filter.1 hx).1)
      have HE := hid he
      have HSub := hid hsub
      clear he hsub
      by_cases hv : ev = v
      · have hq := chars_eq ev v
        rw [decide_eq_true hv] at hq
        rw [if_pos hv] at q1
        have HQ := hid q1
        clear q1 hv
        go_wp2
        go_roundg (left.filter fun x => x.2.2 != eb).length
        case measure => exact q2
        case rel => exact ⟨_, m + 1, rfl, by go_num, by have := HCN.out; have := HQ.out; omega, HSub.out, q3, hon.at, hb', hmod, by omega⟩
      · have hq := chars_eq ev v
        rw [decide_eq_false hv] at hq
        rw [if_neg hv] at q1
        have HQ := hid q1
        clear q1 hv
        go_wp2
        go_roundg (left.filter fun x => x.2.2 != eb).length
        case measure => exact q2
        case rel => exact ⟨_, m, rfl, rfl, by have := HCN.out; have := HQ.out; omega, HSub.out, q3, hon.at, hb', hmod, by omega⟩

theorem many_none (w : World) (bh : Nat) (lh : Heard) (hd : Seat → Votes) (p q : Int) (v : ByteArray) (h : HdAt w bh lh hd) (hl : look lh (p, q) = none) :
    Calls Try.prog 39 #[.map (some bh), .agg #[.int .i64 p, .int .i64 q], .string v] w fun e w' => e = .returned (.int .i64 0) ∧ Mod [] w w' := by
  have hl2 := run_look_z (t := 73) (w := w.alloc (.cells #[.int .i64 p, .int .i64 q] 81)) kSeat Try.underlying73 (zMap _) (get_alloc h.map _) (p, q) hl
  simp only [seatV] at hl2
  have hrg := run_range_nilMap (P := Try.prog) (w.alloc (.cells #[.int .i64 p, .int .i64 q] 81)) 79 3 9 Try.underlying79
  have hnx : ∀ ty, (Instr.next (.pointer (some ⟨(w.alloc (.cells #[.int .i64 p, .int .i64 q] 81)).heap.size, 0, none⟩)) false ty).run Try.prog ((w.alloc (.cells #[.int .i64 p, .int .i64 q] 81)).alloc (.mapIter none 0 #[] 0)) = _ := fun ty => run_next_nilMap _ ty 0 0 #[]
  have hm : Mod [] w ((w.alloc (.cells #[.int .i64 p, .int .i64 q] 81)).alloc (.mapIter none 0 #[] 0)) := (Mod.alloc (Mod.refl _ _) _).alloc _
  have HM := hid hm
  clear h hl hm
  rw [World.size_alloc] at hrg hnx
  go_enter Try.func39, Try.ntmps39
  go_wp2
  refine wp_loop_rounds 1 ?_
  rw [rounds_succ]
  go_wp2
  go_ret
  exact ⟨rfl, HM.out⟩

theorem many_any (w : World) (bh : Nat) (lh : Heard) (hd : Seat → Votes) (k : Seat) (v : ByteArray) (h : HdAt w bh lh hd) (hv : VOk (hd k)) (hs : (hd k).length ≤ 16) :
    Calls Try.prog 39 #[.map (some bh), .agg #[.int .i64 k.1, .int .i64 k.2], .string v] w fun e w' => e = .returned (.int .i64 (cnt (hd k) v : Nat)) ∧ Mod [] w w' := by
  obtain ⟨p, q⟩ := k
  rcases h.find (p, q) with ⟨hl, he⟩ | ⟨b, hl, hb, -⟩
  · have := many_none w bh lh hd p q v h hl
    rw [he]
    exact this
  · exact many_some w bh lh hd p q v h hv hs b hl hb
end Go.Proofs.Ytnpmjpdndhedgaa
