/-
  A broadcast's node, walked: is, add, send, Value, Echoed, Readied, Make, Start. No statement of a claim stands here; each contract names what it asks.
-/
import Derived.Test.YtcgfjalglnlofaaCast0
import Derived.Test.YtcgfjalglnlofaaRows
import Derived.Deep.QuietTactic
import Derived.BigQuiet
import Derived.Deep.LoopGhost
import Derived.Deep.RegionHeld3
set_option linter.unusedSimpArgs false
namespace Go.Proofs.Ytcgfjalglnlofaa
open Go Go.RowKit

theorem kInt : KeyT Try.prog 3 Int (.int .i64) := KeyT.ofInt Try.underlying3
theorem zStr (w : World) : (zeroValue 9).run Try.prog w = .ok (.string ByteArray.empty) w := by kernel_rfl

abbrev votesObj (l : Votes) : Obj := mapObj (.int .i64) .string l l.length

def AddPost (b : Nat) (l : Votes) (k : Int) (v : ByteArray) (w : World) (e : Ending) (w' : World) : Prop :=
  e = .returned (.int .i64 (addN l k v)) ∧ w'.heap[b]? = some (votesObj (addL l k v)) ∧ Mod [b] w w'

theorem add_old (b : Nat) (l : Votes) (k : Int) (v y : ByteArray) (w : World) (hb : w.heap[b]? = some (votesObj l)) (hk : look l k = some y) :
    Calls Try.prog 30 #[.map (some b), .int .i64 k, .string v] w (AddPost b l k v w) := by
  have hl := run_look_ok kInt Try.underlying62 hb k hk
  have hpost : AddPost b l k v w (.returned (.int .i64 0)) w := ⟨by simp [addN, hk], by simp [addL, hk, hb], Mod.refl _ _⟩
  have H := hid hk
  clear hk
  go_enter Try.func30, Try.ntmps30
  go_wp2
  go_ret
  exact hpost

/-- While the votes are counted: n so far, of those that are left. -/
def AddRel (b : Nat) (l : Votes) (v : ByteArray) (w0 : World) (r : Nat) (gk : Nat) (n : Value) (wr : World) : Prop :=
  ∃ (left : Votes) (m : Nat), gk = left.length ∧ n = .int .i64 m ∧ m + cnt left v = cnt l v ∧ (∀ e ∈ left, e ∈ l) ∧ (left.map (·.2.2)).Nodup ∧ IterAt wr r b l.length l left ∧ wr.heap[b]? = some (votesObj l) ∧ Mod [b] w0 wr ∧ w0.heap.size ≤ r

set_option maxHeartbeats 400000 in
theorem add_new (b : Nat) (l : Votes) (k : Int) (v : ByteArray) (w : World) (h : VOk l) (hs : l.length ≤ 1000) (hb : w.heap[b]? = some (votesObj l)) (hk : look l k = none) :
    Calls Try.prog 30 #[.map (some b), .int .i64 k, .string v] w (AddPost b l k v w) := by
  have hl := run_look_no kInt Try.underlying62 (zStr w) hb k hk
  have hv := h.add k v hk
  have hbw := lt_of_block hb
  have hpost : ∀ w', w'.heap[b]? = some (votesObj (l ++ [(k, v, l.length)])) → Mod [b] w w' → AddPost b l k v w (.returned (.int .i64 (cnt (l ++ [(k, v, l.length)]) v))) w' := fun w' h1 h2 => ⟨by simp [addN, hk], by simp [addL, hk, h1], h2⟩
  have hlen : (l ++ [(k, v, l.length)]).length = l.length + 1 := by simp
  have hc : cnt (l ++ [(k, v, l.length)]) v ≤ l.length + 1 := by have := cnt_le (l ++ [(k, v, l.length)]) v; omega
  generalize hL : l ++ [(k, v, l.length)] = L at *
  have HK := hid hk
  have HLe := hid hlen
  have HL := hid hL
  have HV := hid hv
  have HP := hid hpost
  clear hk hlen hL hv hpost
  go_enter Try.func30, Try.ntmps30
  go_wp2_with (first
    | (at_mapUpdate; refine wpList_put_new kInt rfl _ _ _ _ _ rfl Try.underlying62 b l.length l k v rfl rfl rfl hb HK.out ?_; rw [HL.out]; intro w1 hb1 hm1 hs1; clear hl hb)
    | (at_range; refine wpList_range_at rfl _ _ _ rfl Try.underlying62 b (l.length + 1) L rfl hb1 ?_; intro w2 hi2 hm2 hb2 hs2; clear hb1))
  have hm3 : Mod [b] w w2 := hm1.trans (hm2.mono (by simp))
  have hr : w.heap.size ≤ w1.heap.size := by omega
  generalize w1.heap.size = r at *
  clear hm1 hm2 hs1 hs2
  go_frame
  go_loopg [9] L.length (fun gk n wr => AddRel b L v w r gk n wr)
  case atStart => exact ⟨L, 0, rfl, rfl, by omega, fun _ h => h, HV.out.born, by rw [HLe.out]; exact hi2, by unfold votesObj; rw [HLe.out]; exact hb2, hm3, hr⟩
  case round =>
    obtain ⟨left, m, e0, e1, hcnt, hsub, hnd, hit, hbr, hmr, _⟩ := hrel
    subst e0 e1
    have hne : b ≠ r := by omega
    have HLT := hid HV.out.lt
    have HB := hid HV.out.born
    have HS := hid hsub
    have HN := hid hnd
    have HC := hid hcnt
    have hm : m ≤ l.length + 1 := by omega
    clear hsub hnd hcnt hi2 hb2
    go_wp2_with (first
      | (at_next; refine wpList_next_at rfl _ rfl r b L.length L left rfl hbr HLT.out HB.out HS.out hne hit ?_ ?_))
    · intro hl
      subst hl
      go_wp2
      go_ret
      have hC := HC.out
      simp only [cnt, List.countP_nil] at hC
      rw [show (m : Int) = (cnt L v : Nat) from by simp only [cnt]; omega]
      exact HP.out wr hbr hmr
    · intro ek ev eb w' he hon hm' hs' hb' hent
      obtain ⟨q1, q2, q3⟩ := cnt_strike HN.out he v
      dsimp only at q1 q2 q3 hon
      have hmod : Mod [b] w w' := hmr.trans' hm' (by simp; omega)
      have hsub : ∀ x ∈ left.filter (fun x => x.2.2 != eb), x ∈ L := fun x hx => HS.out x ((List.mem_filter.1 hx).1)
      have HE := hid he
      have HSub := hid hsub
      clear he hsub
      by_cases hv : ev = v
      · have hq := chars_eq ev v
        rw [decide_eq_true hv] at hq
        rw [if_pos hv] at q1
        have HQ := hid q1
        clear q1 hv
        go_wp2
        go_roundg (left.filter fun x => x.2.2 != eb).length
        case measure => exact q2
        case rel => exact ⟨_, m + 1, rfl, by go_num, by have := HC.out; have := HQ.out; omega, HSub.out, q3, hon.at, hb', hmod, by omega⟩
      · have hq := chars_eq ev v
        rw [decide_eq_false hv] at hq
        rw [if_neg hv] at q1
        have HQ := hid q1
        clear q1 hv
        go_wp2
        go_roundg (left.filter fun x => x.2.2 != eb).length
        case measure => exact q2
        case rel => exact ⟨_, m, rfl, rfl, by have := HC.out; have := HQ.out; omega, HSub.out, q3, hon.at, hb', hmod, by omega⟩

theorem add_any (b : Nat) (l : Votes) (k : Int) (v : ByteArray) (w : World) (h : VOk l) (hs : l.length ≤ 1000) (hb : w.heap[b]? = some (votesObj l)) :
    Calls Try.prog 30 #[.map (some b), .int .i64 k, .string v] w (AddPost b l k v w) := by
  cases hk : look l k with
  | none => exact add_new b l k v w h hs hb hk
  | some y => exact add_old b l k v y w hb hk
end Go.Proofs.Ytcgfjalglnlofaa
