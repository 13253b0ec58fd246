/-
  The chapter's example 'works', walked. No statement of a claim stands here; each contract names what it asks.
-/
import Derived.Test.YtcgfjalglnlofaaCast4
import Derived.Test.YtcgfjalglnlofaaCast3
import Derived.Test.YtcgfjalglnlofaaReg
set_option linter.unusedSimpArgs false
namespace Go.Proofs.Ytcgfjalglnlofaa
open Go Go.RowKit

theorem addL_len (l : Votes) (k : Int) (v : ByteArray) : (addL l k v).length ≤ l.length + 1 := by unfold addL; split <;> simp

/-- What taking a message does with the votes. -/
theorem takeS_votes (s : NodeS) (m : Msg) : ((takeS s m).1.E = s.E ∨ (takeS s m).1.E = addL s.E m.from_ m.val) ∧ ((takeS s m).1.R = s.R ∨ (takeS s m).1.R = addL s.R m.from_ m.val) := by
  have hE : ∀ s' v, (sendE s' v).1.E = s'.E ∧ (sendE s' v).1.R = s'.R := fun s' v => by unfold sendE; split <;> simp
  have hR : ∀ s' v, (sendR s' v).1.E = s'.E ∧ (sendR s' v).1.R = s'.R := fun s' v => by unfold sendR; split <;> simp
  have hS : ∀ s' v, (settle s' v).E = s'.E ∧ (settle s' v).R = s'.R := fun s' v => by unfold settle; split <;> simp
  unfold takeS
  (repeat' split) <;> simp [hE, hR, hS]

theorem takeS_VOk {s : NodeS} (m : Msg) (hE : VOk s.E) (hR : VOk s.R) : VOk (takeS s m).1.E ∧ VOk (takeS s m).1.R := by
  obtain ⟨h1 | h1, h2 | h2⟩ := takeS_votes s m <;> rw [h1, h2] <;> exact ⟨by first | exact hE | exact addL_ok hE _ _, by first | exact hR | exact addL_ok hR _ _⟩
theorem takeS_len (s : NodeS) (m : Msg) : (takeS s m).1.E.length ≤ s.E.length + 1 ∧ (takeS s m).1.R.length ≤ s.R.length + 1 := by
  obtain ⟨h1 | h1, h2 | h2⟩ := takeS_votes s m <;> rw [h1, h2] <;> have := addL_len s.E m.from_ m.val <;> have := addL_len s.R m.from_ m.val <;> omega

/-- What a walk needs of a node that takes. -/
structure CanTake (s : NodeS) (k : Nat) : Prop where
  n0 : 0 < s.n
  n1 : s.n ≤ 16
  t0 : 0 ≤ s.t
  t1 : s.t ≤ 5
  E : VOk s.E
  R : VOk s.R
  lE : s.E.length ≤ k
  lR : s.R.length ≤ k

theorem takeS_same (s : NodeS) (m : Msg) : (takeS s m).1.n = s.n ∧ (takeS s m).1.t = s.t := by
  have hE : ∀ s' v, (sendE s' v).1.n = s'.n ∧ (sendE s' v).1.t = s'.t := fun s' v => by unfold sendE; split <;> simp
  have hR : ∀ s' v, (sendR s' v).1.n = s'.n ∧ (sendR s' v).1.t = s'.t := fun s' v => by unfold sendR; split <;> simp
  have hS : ∀ s' v, (settle s' v).n = s'.n ∧ (settle s' v).t = s'.t := fun s' v => by unfold settle; split <;> simp
  unfold takeS
  (repeat' split) <;> simp [hE, hR, hS]

theorem CanTake.take {s : NodeS} {k : Nat} (h : CanTake s k) (m : Msg) : CanTake (takeS s m).1 (k + 1) := by
  have h1 := takeS_same s m
  have h2 := takeS_VOk m h.E h.R
  have h3 := takeS_len s m
  exact ⟨by rw [h1.1]; exact h.n0, by rw [h1.1]; exact h.n1, by rw [h1.2]; exact h.t0, by rw [h1.2]; exact h.t1, h2.1, h2.2, by have := h.lE; omega, by have := h.lR; omega⟩

def workV : ByteArray := ⟨#[118]⟩
def workE : Nat → NodeS × List Msg
  | 0 => takeS (newNode 4 1 2 1) ⟨1, 1, workV⟩
  | k + 1 => takeS (workE k).1 ⟨2, (k : Int) + 1, workV⟩
def workR : Nat → NodeS × List Msg
  | 0 => workE 3
  | k + 1 => takeS (workR k).1 ⟨3, (k : Int) + 1, workV⟩
theorem workE_can : ∀ k, CanTake (workE k).1 (k + 1)
  | 0 => CanTake.take (s := newNode 4 1 2 1) ⟨by decide, by decide, by decide, by decide, VOk.nil, VOk.nil, by decide, by decide⟩ _
  | k + 1 => (workE_can k).take _
theorem workR_can : ∀ k, CanTake (workR k).1 (k + 4)
  | 0 => workE_can 3
  | k + 1 => (workR_can k).take _
theorem workE_out : (workE 0).2 = [⟨2, 2, workV⟩] := rfl
theorem workE_out3 : (workE 3).2 = [⟨3, 2, workV⟩] := rfl
theorem workR_end : (workR 3).1.sv = ⟨#[118]⟩ ∧ (workR 3).1.si = true := ⟨rfl, rfl⟩

theorem MsgsAt.one {B : Nat} {w : World} {v : Value} {out : List Msg} (h : MsgsAt B w v out) (m : Msg) (ho : out = [m]) : ∃ b, v = .slice (some ⟨b, 0, none⟩) 1 1 ∧ B ≤ b ∧ w.heap[b]? = some (.cells m.cells.toArray 36 (0, 0)) := by
  rcases h with ⟨h0, _⟩ | ⟨m', b, h0, rfl, hb, hmb⟩
  · rw [ho] at h0; cases h0
  · rw [ho] at h0; cases h0; exact ⟨b, rfl, hb, hmb⟩

set_option maxHeartbeats 1000000 in
theorem works_any (W : World) : Calls Try.prog 9 #[] W fun e W' => e = .returned (.bool true) ∧ Mod [] W W' := by
  go_enter Try.func9, Try.ntmps9
  go_wp2_with (first
    | (go_at_call 19; refine (make_yes 4 1 2 1 W rfl).mono ?_; rintro e w1 ⟨x, be, br, rfl, hn1, hm1, hx1, hx2, hx3⟩; have H1 := hid (And.intro hn1 (And.intro hm1 (And.intro hx1 (And.intro hx2 hx3)))); clear hn1 hm1 hx1 hx2 hx3)
    | (go_at_call 22; refine (take_any w1 x be br (newNode 4 1 2 1) ⟨1, 1, workV⟩ H1.out.1 (by decide) (by decide) (by decide) (by decide) VOk.nil VOk.nil (by decide) (by decide)).mono ?_; rintro e w2 ⟨v, rfl, hn2, hms, hm2⟩; obtain ⟨b, rfl, hb, hmb⟩ := MsgsAt.one hms ⟨2, 2, workV⟩ workE_out; have b0 : w2.cell? ⟨b, 0, none⟩ = some (.int .i64 2) := (cell_at hmb 0).trans rfl; have b1 : w2.cell? ⟨b, 1, none⟩ = some (.int .i64 2) := (cell_at hmb 1).trans rfl; have b2 : w2.cell? ⟨b, 2, none⟩ = some (.string ⟨#[118]⟩) := (cell_at hmb 2).trans rfl; have H2 := hid (And.intro hn2 (And.intro hm2 (And.intro hb hmb))); clear hn2 hm2 hb hmb hms))
  have hfar : ∀ (A B : World), Mod [] W A → Mod [x, be, br] A B → Mod [] W B := fun A B h1 h2 => h1.trans' h2 (fun y hy => .inr (by
    obtain ⟨_, _, g1, g2, g3⟩ := H1.out
    simp only [List.mem_cons, List.not_mem_nil, or_false] at hy
    rcases hy with rfl | rfl | rfl <;> assumption))
  have FAR := hid hfar
  clear hfar b0 b1 b2
  have h0 : Hid (NodeAt w2 x be br (workE 0).1 ∧ Mod [] W w2 ∧ MsgsAt W.heap.size w2 (.slice (some ⟨b, 0, none⟩) 1 1) (workE 0).2) :=
    hid ⟨H2.out.1, FAR.out _ _ H1.out.2.1 H2.out.2.1, .inr ⟨⟨2, 2, workV⟩, b, rfl, rfl, by have := H1.out.2.1.size; have := H2.out.2.2.1; omega, H2.out.2.2.2⟩⟩
  go_loopg [3, 4] 3 (fun gk l i W' => ∃ (j : Nat), i = .int .i64 ((j : Int) + 1) ∧ gk + j = 3 ∧ NodeAt W' x be br (workE j).1 ∧ Mod [] W W' ∧ MsgsAt W.heap.size W' l (workE j).2)
  case atStart => exact ⟨0, rfl, rfl, h0.out.1, h0.out.2.1, h0.out.2.2⟩
  case round =>
    obtain ⟨j, rfl, hj, hn, hm, hms⟩ := hrel
    have HN := hid hn
    have HM := hid hm
    by_cases hj3 : j < 3
    · clear hn hm hms
      go_wp2_with (first
        | (go_at_call 22; have ct := workE_can j; refine (take_any wr x be br (workE j).1 ⟨2, (j : Int) + 1, workV⟩ HN.out ct.n0 ct.n1 ct.t0 ct.t1 ct.E ct.R (by have := ct.lE; omega) (by have := ct.lR; omega)).mono ?_; rintro e w3 ⟨v, rfl, hn3, hms, hm3⟩; have H3 := hid (And.intro hn3 (And.intro hms hm3)); clear hn3 hms hm3 ct))
      go_roundg (gk - 1)
      case measure => omega
      case rel => exact ⟨j + 1, by go_num, by omega, H3.out.1, FAR.out _ _ HM.out H3.out.2.2, H3.out.2.1.imp id (fun ⟨m, b', h1, h2, h3, h4⟩ => ⟨m, b', h1, h2, Nat.le_trans HM.out.size h3, h4⟩)⟩
    · have hj' : j = 3 := by omega
      subst hj'
      obtain ⟨b3, rfl, hb3, hmb3⟩ := MsgsAt.one hms ⟨3, 2, workV⟩ workE_out3
      have HB := hid hmb3
      clear hn hm hms hmb3
      go_wp2_with fail
      go_loopg [5] 3 (fun gk i W' => ∃ (j : Nat), i = .int .i64 ((j : Int) + 1) ∧ gk + j = 3 ∧ NodeAt W' x be br (workR j).1 ∧ Mod [] W W' ∧ W'.heap[b3]? = some (.cells (Msg.mk 3 2 workV).cells.toArray 36 (0, 0)))
      case atStart => exact ⟨0, rfl, rfl, HN.out, HM.out, HB.out⟩
      case round =>
        rename_i wr2 _ _ _
        obtain ⟨j, rfl, hj, hn, hm, hms⟩ := hrel
        by_cases hj3 : j < 3
        · have HN := hid hn
          have HM := hid hm
          have HB := hid hms
          clear hn hm hms
          go_wp2_with (first
            | (go_at_call 22; have ct := workR_can j; refine (take_any _ x be br (workR j).1 ⟨3, (j : Int) + 1, workV⟩ HN.out ct.n0 ct.n1 ct.t0 ct.t1 ct.E ct.R (by have := ct.lE; omega) (by have := ct.lR; omega)).mono ?_; rintro e w3 ⟨v, rfl, hn3, hms, hm3⟩; have H3 := hid (And.intro hn3 hm3); clear hn3 hms hm3 ct))
          go_roundg (gk - 1)
          case measure => omega
          case rel => exact ⟨j + 1, by go_num, by omega, H3.out.1, FAR.out _ _ HM.out H3.out.2, H3.out.2.get HB.out (by simp only [List.mem_cons, List.not_mem_nil, or_false, not_or]; exact ⟨ne_ty HB.out HN.out.cells (by decide), ne_map HB.out HN.out.e, ne_map HB.out HN.out.r⟩)⟩
        · have hj' : j = 3 := by omega
          subst hj'
          have HN := hid hn
          have HM := hid hm
          have c0 : wr.cell? ⟨b3, 0, none⟩ = some (.int .i64 3) := (cell_at hms 0).trans rfl
          clear hn hm hms
          go_wp2_with (first
            | (go_at_call 18; refine (value_any _ x be br (workR 3).1 HN.out (workR_can 3).n0).mono ?_; rw [workR_end.1, workR_end.2]; rintro e w4 ⟨rfl, hm4⟩; have c1 : w4.cell? ⟨b3, 0, none⟩ = some (.int .i64 3) := hm4.cell c0 (by simp); have H4 := hid hm4; clear hm4))
          go_ret
          exact ⟨rfl, HM.out.trans H4.out⟩
end Go.Proofs.Ytcgfjalglnlofaa
