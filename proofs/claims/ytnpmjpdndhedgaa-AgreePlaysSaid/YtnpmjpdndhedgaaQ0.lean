/-
  The reference's node of an agreement: what it has counted is what the node has (LE); how its node lies (RefAt). No statement of a claim stands here; each lemma names what it asks.
-/
import Derived.Test.YtnpmjpdndhedgaaLC
set_option linter.unusedSimpArgs false
namespace Go.Proofs.Ytnpmjpdndhedgaa
open Go Go.RowKit

/-! ### what was counted, as a row -/
structure LE (s : NodeS) (L : List Msg) : Prop where
  eq : ∀ k : Seat, (s.hd k).map (fun e => (e.1, e.2.1)) = (L.filter fun m => decide (m.seat = k)).map fun m => (m.from_, m.val)
  ldr : ∀ m ∈ L, m.kind = 1 → m.from_ = leaderS s m.round
  rnd : ∀ m ∈ L, 0 ≤ m.round ∧ m.round ≤ 63

def propL (L : List Msg) (r : Int) : Option ByteArray := (L.find? fun m => decide (m.kind = 1) && decide (m.round = r)).map (·.val)
def cntL (L : List Msg) (m : Msg) : Nat := L.countP fun x => (decide (x.kind = m.kind) && decide (x.round = m.round)) && decide (x.val = m.val)
def hasL (L : List Msg) (m : Msg) : Bool := L.any fun x => (decide (x.kind = m.kind) && decide (x.from_ = m.from_)) && decide (x.round = m.round)

theorem seat_dec (x : Msg) (k r : Int) : decide (x.seat = (k, r)) = (decide (x.kind = k) && decide (x.round = r)) := by
  unfold Msg.seat
  by_cases h1 : x.kind = k <;> by_cases h2 : x.round = r <;> simp [h1, h2]

theorem LE.cnt {s : NodeS} {L : List Msg} (h : LE s L) (m : Msg) : cntL L m = Go.Proofs.Ytnpmjpdndhedgaa.cnt (s.hd m.seat) m.val := by
  have e1 : Go.Proofs.Ytnpmjpdndhedgaa.cnt (s.hd m.seat) m.val = ((s.hd m.seat).map (fun e => (e.1, e.2.1))).countP (fun p => decide (p.2 = m.val)) := by
    rw [List.countP_map]; rfl
  have e2 : cntL L m = (L.filter fun x => decide (x.seat = m.seat)).countP fun x => decide (x.val = m.val) := by
    rw [List.countP_filter]
    unfold cntL
    congr 1
    funext x
    rw [show m.seat = (m.kind, m.round) from rfl, seat_dec, Bool.and_comm]
  rw [e1, h.eq, List.countP_map, e2]
  rfl

theorem LE.prop {s : NodeS} {L : List Msg} (h : LE s L) (r : Int) : propL L r = look (s.hd (1, r)) (leaderS s r) := by
  have e1 : propL L r = ((L.filter fun x => decide (x.seat = ((1, r) : Seat))).map fun m => (m.from_, m.val)).head?.map (·.2) := by
    rw [List.head?_map, List.head?_filter, Option.map_map]
    unfold propL
    congr 2
    funext x
    rw [seat_dec]
  rw [e1, ← h.eq (1, r)]
  have hk : ∀ e ∈ s.hd (1, r), e.1 = leaderS s r := fun e he => by
    have hm : (e.1, e.2.1) ∈ (s.hd (1, r)).map (fun e => (e.1, e.2.1)) := List.mem_map.2 ⟨e, he, rfl⟩
    rw [h.eq] at hm
    obtain ⟨m, hm, e2⟩ := List.mem_map.1 hm
    simp only [List.mem_filter, decide_eq_true_eq] at hm
    obtain ⟨hm, hs⟩ := hm
    have h1 : m.kind = 1 := congrArg Prod.fst hs
    have h2 : m.round = r := congrArg Prod.snd hs
    have := h.ldr m hm h1
    rw [h2] at this
    simp only [Prod.mk.injEq] at e2
    rw [← e2.1]; exact this
  unfold look
  generalize s.hd (1, r) = l at hk
  cases l with
  | nil => rfl
  | cons e l =>
    have := hk e (by simp)
    simp [List.find?_cons, this]

theorem LE.has {s : NodeS} {L : List Msg} (h : LE s L) (m : Msg) : hasL L m = (look (s.hd m.seat) m.from_).isSome := by
  rw [Bool.eq_iff_iff, look_isSome]
  unfold hasL
  rw [List.any_eq_true]
  constructor
  · rintro ⟨x, hx, e⟩
    simp only [Bool.and_eq_true, decide_eq_true_eq] at e
    have hm : (x.from_, x.val) ∈ (L.filter fun y => decide (y.seat = m.seat)).map fun m => (m.from_, m.val) :=
      List.mem_map.2 ⟨x, List.mem_filter.2 ⟨hx, by simp [Msg.seat, e.1.1, e.2]⟩, rfl⟩
    rw [← h.eq] at hm
    obtain ⟨y, hy, e2⟩ := List.mem_map.1 hm
    simp only [Prod.mk.injEq] at e2
    exact ⟨y, hy, by rw [e2.1, e.1.2]⟩
  · rintro ⟨y, hy, e⟩
    have hm : (y.1, y.2.1) ∈ (s.hd m.seat).map (fun e => (e.1, e.2.1)) := List.mem_map.2 ⟨y, hy, rfl⟩
    rw [h.eq] at hm
    obtain ⟨x, hx, e2⟩ := List.mem_map.1 hm
    simp only [List.mem_filter, decide_eq_true_eq] at hx
    simp only [Prod.mk.injEq] at e2
    refine ⟨x, hx.1, ?_⟩
    have h1 : x.kind = m.kind := congrArg Prod.fst hx.2
    have h2 : x.round = m.round := congrArg Prod.snd hx.2
    simp [h1, h2, e2.1, e]

theorem LE.nil {s : NodeS} (h : ∀ k, s.hd k = []) : LE s [] := ⟨fun k => by rw [h k]; rfl, (fun m hm => by cases hm), (fun m hm => by cases hm)⟩
theorem LE.same {s s' : NodeS} {L : List Msg} (h : LE s L) (hh : s'.hd = s.hd) (hn : s'.n = s.n) : LE s' L :=
  ⟨fun k => by rw [hh]; exact h.eq k, fun m hm hk => by have := h.ldr m hm hk; unfold leaderS at this ⊢; rw [hn]; exact this, h.rnd⟩
theorem LE.run {s s' : NodeS} {out L : List Msg} (h : LE s L) (R : Run s s' out) : LE s' L := h.same R.same.2.2.2.2.2 R.same.1
theorem mayS_lead {s : NodeS} {m : Msg} (h : mayS s m = true) (hk : m.kind = 1) : m.from_ = leaderS s m.round := by
  unfold mayS at h
  simp only [Bool.and_eq_true, decide_eq_true_eq, Bool.or_eq_true] at h
  rcases h.2 with h1 | ⟨⟨_, h1⟩ | h1, _⟩
  · omega
  · exact h1
  · omega
theorem LE.add {s : NodeS} {L : List Msg} (h : LE s L) {m : Msg} (hm : mayS s m = true) (hk : look (s.hd m.seat) m.from_ = none) : LE (addS s m) (L ++ [m]) := by
  refine ⟨fun k => ?_, fun x hx hk1 => ?_, fun x hx => ?_⟩
  · rw [List.filter_append, List.map_append, ← h.eq k]
    simp only [addS, upd]
    split
    · rename_i e
      subst e
      unfold addL
      rw [hk]
      simp
    · rename_i e
      have : decide (m.seat = k) = false := decide_eq_false (fun h => e h.symm)
      simp [this]
  · rcases List.mem_append.1 hx with h1 | h1
    · exact h.ldr x h1 hk1
    · simp only [List.mem_singleton] at h1
      subst h1
      exact mayS_lead hm hk1
  · rcases List.mem_append.1 hx with h1 | h1
    · exact h.rnd x h1
    · simp only [List.mem_singleton] at h1
      subst h1
      have := may_spec hm
      exact ⟨this.2.2.1, this.2.2.2⟩

/-! ### how it lies -/
def arr (s : NodeS) (k : Int) : List Value := (List.range 64).map fun (i : Nat) => .bool (s.sent (k, (i : Int)))
def refHead (s : NodeS) (vL : Value) : List Value := [.int .i64 s.n, .int .i64 s.t, .int .i64 s.me, .string s.input, vL, .int .i64 s.round, .string s.lv, .int .i64 s.lr]
def refList (s : NodeS) (vL : Value) : List Value := refHead s vL ++ (arr s 2 ++ (arr s 3 ++ (arr s 1 ++ [.string s.choice, .bool s.done])))
theorem arr_len (s : NodeS) (k : Int) : (arr s k).length = 64 := by simp [arr]
theorem arr_get (s : NodeS) (k : Int) {i : Nat} (hi : i < 64) : (arr s k)[i]? = some (.bool (s.sent (k, (i : Int)))) := by
  simp only [arr]
  rw [List.getElem?_map, List.getElem?_range hi]
  rfl
theorem arr_set (s : NodeS) (k q : Int) {i : Nat} (hi : i < 64) (b : Bool) : (arr { s with sent := upd s.sent (q, (i : Int)) b } k) = if k = q then (arr s k).set i (.bool b) else arr s k := by
  split
  · rename_i h
    subst h
    apply List.ext_getElem?
    intro j
    by_cases hj : j < 64
    · rw [arr_get _ _ hj]
      by_cases hji : i = j
      · subst hji
        rw [List.getElem?_set_self (by rw [arr_len]; exact hi)]
        simp [upd]
      · rw [List.getElem?_set_ne hji, arr_get _ _ hj]
        simp only [upd]
        rw [if_neg (by simp; omega)]
    · rw [List.getElem?_eq_none (by rw [arr_len]; omega), List.getElem?_eq_none (by rw [List.length_set, arr_len]; omega)]
  · rename_i h
    unfold arr
    congr 1
    funext j
    simp only [upd]
    rw [if_neg (by simp [h])]

structure RefAt (w : World) (b : Nat) (vL : Value) (s : NodeS) (L : List Msg) : Prop where
  cells : w.heap[b]? = some (.cells (refList s vL).toArray 64 (0, 0))
  row : w.ownsRow 0 59 4 vL L.length (msgCells L)

theorem ref_get2 (s : NodeS) (vL : Value) {i : Nat} (hi : i < 64) : (refList s vL)[8 + i]? = some (.bool (s.sent (2, (i : Int)))) := by
  unfold refList
  rw [List.getElem?_append_right (by simp [refHead]), show 8 + i - (refHead s vL).length = i by simp [refHead], List.getElem?_append_left (by rw [arr_len]; exact hi), arr_get s 2 hi]
theorem ref_get3 (s : NodeS) (vL : Value) {i : Nat} (hi : i < 64) : (refList s vL)[72 + i]? = some (.bool (s.sent (3, (i : Int)))) := by
  unfold refList
  rw [List.getElem?_append_right (by simp [refHead]; omega), show 72 + i - (refHead s vL).length = 64 + i by simp [refHead]; omega, List.getElem?_append_right (by rw [arr_len]; omega), arr_len, show 64 + i - 64 = i by omega, List.getElem?_append_left (by rw [arr_len]; exact hi), arr_get s 3 hi]
theorem ref_get1 (s : NodeS) (vL : Value) {i : Nat} (hi : i < 64) : (refList s vL)[136 + i]? = some (.bool (s.sent (1, (i : Int)))) := by
  unfold refList
  rw [List.getElem?_append_right (by simp [refHead]; omega), show 136 + i - (refHead s vL).length = 128 + i by simp [refHead]; omega, List.getElem?_append_right (by rw [arr_len]; omega), arr_len, List.getElem?_append_right (by rw [arr_len]; omega), arr_len, show 128 + i - 64 - 64 = i by omega, List.getElem?_append_left (by rw [arr_len]; exact hi), arr_get s 1 hi]
theorem ref_tail (s : NodeS) (vL : Value) (j : Nat) : (refList s vL)[200 + j]? = [Value.string s.choice, .bool s.done][j]? := by
  unfold refList
  rw [List.getElem?_append_right (by simp [refHead]; omega), show 200 + j - (refHead s vL).length = 192 + j by simp [refHead]; omega, List.getElem?_append_right (by rw [arr_len]; omega), arr_len, List.getElem?_append_right (by rw [arr_len]; omega), arr_len, List.getElem?_append_right (by rw [arr_len]; omega), arr_len, show 192 + j - 64 - 64 - 64 = j by omega]

theorem RefAt.all {w : World} {b : Nat} {vL : Value} {s : NodeS} {L : List Msg} (h : RefAt w b vL s L) : w.cell? ⟨b, 0, none⟩ = some (.int .i64 s.n) ∧ w.cell? ⟨b, 1, none⟩ = some (.int .i64 s.t) ∧ w.cell? ⟨b, 2, none⟩ = some (.int .i64 s.me) ∧ w.cell? ⟨b, 3, none⟩ = some (.string s.input) ∧
    w.cell? ⟨b, 4, none⟩ = some vL ∧ w.cell? ⟨b, 5, none⟩ = some (.int .i64 s.round) ∧ w.cell? ⟨b, 6, none⟩ = some (.string s.lv) ∧ w.cell? ⟨b, 7, none⟩ = some (.int .i64 s.lr) ∧
    w.cell? ⟨b, 200, none⟩ = some (.string s.choice) ∧ w.cell? ⟨b, 201, none⟩ = some (.bool s.done) ∧ (∀ i, w.frozen? ⟨b, i, none⟩ = false) := by
  have hc : ∀ i, w.cell? ⟨b, i, none⟩ = (refList s vL)[i]? := fun i => by rw [cell_at h.cells]; simp
  exact ⟨(hc 0).trans rfl, (hc 1).trans rfl, (hc 2).trans rfl, (hc 3).trans rfl, (hc 4).trans rfl, (hc 5).trans rfl, (hc 6).trans rfl, (hc 7).trans rfl, (hc 200).trans (ref_tail s vL 0), (hc 201).trans (ref_tail s vL 1), free_at h.cells⟩
theorem RefAt.arrs {w : World} {b : Nat} {vL : Value} {s : NodeS} {L : List Msg} (h : RefAt w b vL s L) {i : Nat} (hi : i < 64) : w.cell? ⟨b, 8 + i, none⟩ = some (.bool (s.sent (2, (i : Int)))) ∧ w.cell? ⟨b, 72 + i, none⟩ = some (.bool (s.sent (3, (i : Int)))) ∧ w.cell? ⟨b, 136 + i, none⟩ = some (.bool (s.sent (1, (i : Int)))) := by
  have hc : ∀ i, w.cell? ⟨b, i, none⟩ = (refList s vL)[i]? := fun i => by rw [cell_at h.cells]; simp
  exact ⟨(hc _).trans (ref_get2 s vL hi), (hc _).trans (ref_get3 s vL hi), (hc _).trans (ref_get1 s vL hi)⟩
theorem RefAt.rowNe {w : World} {b : Nat} {vL : Value} {s : NodeS} {L : List Msg} (h : RefAt w b vL s L) : ∀ k, vL.ownBlock = some k → k ≠ b := fun k hk => by
  obtain ⟨c, hc⟩ := row_block h.row hk
  exact ne_ty hc h.cells (by decide)
theorem RefAt.mod {w w' : World} {b : Nat} {vL : Value} {s : NodeS} {L : List Msg} {S : List Nat} (h : RefAt w b vL s L) (m : Mod S w w') (hb : b ∉ S) (hv : ∀ k, vL.ownBlock = some k → k ∉ S) : RefAt w' b vL s L :=
  ⟨m.get h.cells hb, row_mod h.row m hv⟩
theorem RefAt.mod0 {w w' : World} {b : Nat} {vL : Value} {s : NodeS} {L : List Msg} (h : RefAt w b vL s L) (m : Mod [] w w') : RefAt w' b vL s L := h.mod m (by simp) (by simp)
/-- One cell is set. -/
theorem RefAt.set {w : World} {b : Nat} {vL : Value} {s : NodeS} {L : List Msg} (h : RefAt w b vL s L) (o : Nat) (u : Value) (s' : NodeS) (hc : (refList s vL).set o u = refList s' vL) : RefAt (w.setCell ⟨b, o, none⟩ u) b vL s' L := by
  have m : Mod [b] w (w.setCell ⟨b, o, none⟩ u) := (Mod.refl _ _).setCell (by simp) _
  refine ⟨?_, row_mod h.row m (fun k hk => by simpa using h.rowNe k hk)⟩
  have := get_setCell_self h.cells o u
  rw [List.setIfInBounds_toArray, hc] at this
  exact this

theorem set_lr (s : NodeS) (vL : Value) (v : ByteArray) (r : Int) : ((refList s vL).set 6 (.string v)).set 7 (.int .i64 r) = refList { s with lv := v, lr := r } vL := rfl
theorem set_round (s : NodeS) (vL : Value) (r : Int) : (refList s vL).set 5 (.int .i64 r) = refList { s with round := r } vL := rfl
theorem set_arr2 (s : NodeS) (vL : Value) {i : Nat} (hi : i < 64) : (refList s vL).set (8 + i) (.bool true) = refList { s with sent := upd s.sent (2, (i : Int)) true } vL := by
  unfold refList
  rw [List.set_append_right _ _ (by simp [refHead]), show 8 + i - (refHead s vL).length = i by simp [refHead], List.set_append_left _ _ (by rw [arr_len]; exact hi), arr_set s 2 2 hi, arr_set s 3 2 hi, arr_set s 1 2 hi]
  rfl
theorem set_arr3 (s : NodeS) (vL : Value) {i : Nat} (hi : i < 64) : (refList s vL).set (72 + i) (.bool true) = refList { s with sent := upd s.sent (3, (i : Int)) true } vL := by
  unfold refList
  rw [List.set_append_right _ _ (by simp [refHead]; omega), show 72 + i - (refHead s vL).length = 64 + i by simp [refHead]; omega, List.set_append_right _ _ (by rw [arr_len]; omega), arr_len, show 64 + i - 64 = i by omega, List.set_append_left _ _ (by rw [arr_len]; exact hi), arr_set s 2 3 hi, arr_set s 3 3 hi, arr_set s 1 3 hi]
  rfl
theorem set_arr1 (s : NodeS) (vL : Value) {i : Nat} (hi : i < 64) : (refList s vL).set (136 + i) (.bool true) = refList { s with sent := upd s.sent (1, (i : Int)) true } vL := by
  unfold refList
  rw [List.set_append_right _ _ (by simp [refHead]; omega), show 136 + i - (refHead s vL).length = 128 + i by simp [refHead]; omega, List.set_append_right _ _ (by rw [arr_len]; omega), arr_len, List.set_append_right _ _ (by rw [arr_len]; omega), arr_len, show 128 + i - 64 - 64 = i by omega, List.set_append_left _ _ (by rw [arr_len]; exact hi), arr_set s 2 1 hi, arr_set s 3 1 hi, arr_set s 1 1 hi]
  rfl
theorem set_done (s : NodeS) (vL : Value) (v : ByteArray) : ((refList s vL).set 201 (.bool true)).set 200 (.string v) = refList { s with choice := v, done := true } vL := by
  have e : ∀ (o : Nat) (u : Value) (t : List Value), (refHead s vL ++ (arr s 2 ++ (arr s 3 ++ (arr s 1 ++ t)))).set (200 + o) u = refHead s vL ++ (arr s 2 ++ (arr s 3 ++ (arr s 1 ++ t.set o u))) := fun o u t => by
    rw [List.set_append_right _ _ (by simp [refHead]; omega), show 200 + o - (refHead s vL).length = 192 + o by simp [refHead]; omega, List.set_append_right _ _ (by rw [arr_len]; omega), arr_len, List.set_append_right _ _ (by rw [arr_len]; omega), arr_len, List.set_append_right _ _ (by rw [arr_len]; omega), arr_len, show 192 + o - 64 - 64 - 64 = o by omega]
  unfold refList
  rw [e 1, e 0]
  rfl

/-! ### messages of the reference -/
theorem elemRef : Elem Try.prog 51 59 4 40 :=
  Elem.of (z := .agg #[.int .i64 0, .int .i64 0, .int .i64 0, .string ⟨#[]⟩]) Try.underlying51 (by kernel_rfl) rfl (by decide)
structure RMsgs (B : Nat) (w : World) (v : Value) (out : List Msg) : Prop where
  row : w.ownsRow 0 59 4 v out.length (msgCells out)
  own : ∀ k, v.ownBlock = some k → B ≤ k
theorem RMsgs.nil (B : Nat) (w : World) : RMsgs B w (.slice none 0 0) [] := ⟨⟨rfl, .inl ⟨rfl, rfl⟩⟩, fun k hk => by cases hk⟩
theorem RMsgs.mod {B : Nat} {w w' : World} {v : Value} {out : List Msg} {S : List Nat} (h : RMsgs B w v out) (m : Mod S w w') (hS : ∀ k, v.ownBlock = some k → k ∉ S) : RMsgs B w' v out := ⟨row_mod h.row m hS, h.own⟩
theorem RMsgs.mod0 {B : Nat} {w w' : World} {v : Value} {out : List Msg} (h : RMsgs B w v out) (m : Mod [] w w') : RMsgs B w' v out := h.mod m (by simp)
theorem RMsgs.one {B : Nat} {w : World} {b : Nat} {m : Msg} (hb : w.heap[b]? = some (.cells m.cells.toArray 59 (0, 0))) (hB : B ≤ b) : RMsgs B w (.slice (some ⟨b, 0, none⟩) 1 1) [m] :=
  ⟨⟨by simp [msgCells, Msg.cells], .inr ⟨b, 1, _, rfl, Nat.zero_le _, hb, Nat.le_refl _, by unfold maxLen; omega, by simp [Msg.cells], by simp [msgCells, Msg.cells]⟩⟩, fun k hk => by cases hk; exact hB⟩
theorem RMsgs.lower {B B' : Nat} {w : World} {v : Value} {out : List Msg} (h : RMsgs B w v out) (hB : B' ≤ B) : RMsgs B' w v out := ⟨h.row, fun k hk => Nat.le_trans hB (h.own k hk)⟩
theorem RMsgs.app {B : Nat} {w : World} {v u : Value} {out more : List Msg} (h : RMsgs B w v out) (g : RMsgs B w u more) (hl : out.length + more.length ≤ 1000) (hB : B ≤ w.heap.size) :
    ∃ v' w', (Builtin.append_ #[51, 51] 51 #[v, u]).run Try.prog w = .ok v' w' ∧ RMsgs B w' v' (out ++ more) ∧ Mod v.ownBlock.toList w w' ∧ ∀ k, v'.ownBlock = some k → v.ownBlock = some k ∨ k = w.heap.size := by
  obtain ⟨i, z, hi, hz, hs, hy, hzs⟩ := elemRef.info
  rcases g.row.2 with ⟨rfl, hm⟩ | ⟨gb, cap, cur, rfl, _, hg, hnc, _, _, htake⟩
  · have : more = [] := List.length_eq_zero_iff.1 hm
    subst this
    refine ⟨v, w, run_append_owned_none (P := Try.prog) (w := w) 0 51 51 59 i 4 elemRef.under hi v out.length _ h.row, ?_, Mod.refl _ _, fun _ h => .inl h⟩
    rw [List.append_nil]; exact h
  · obtain ⟨v', w', hr, ho, hmd, hk, -⟩ := run_app (P := Try.prog) w 51 51 59 i z 4 40 elemRef.under hi hz hs hy hzs elemRef.pos v out.length _ h.row ⟨gb, 0, none⟩ more.length cap (msgCells more) (msgCells_length more) (fun j x hx => g.row.cells (g := gb) rfl j x hx) (msgCells_one more) (by unfold maxLen; omega) (by omega)
    refine ⟨v', w', hr, ⟨by rw [msgCells_append, List.length_append]; exact ho, fun k hkk => ?_⟩, hmd, hk⟩
    rcases hk k hkk with h1 | h1
    · exact h.own k h1
    · omega

/-- One of its messages. -/
theorem ref_msg {W : World} {g : Nat} {n c : Nat} {l : List Msg} (h : W.ownsRow 0 59 4 (.slice (some ⟨g, 0, none⟩) n c) n (msgCells l)) {j : Nat} {m : Msg} (hj : l[j]? = some m) :
    W.cell? ⟨g, j * 4, none⟩ = some (.int .i64 m.kind) ∧ W.cell? ⟨g, j * 4 + 1, none⟩ = some (.int .i64 m.from_) ∧ W.cell? ⟨g, j * 4 + 2, none⟩ = some (.int .i64 m.round) ∧ W.cell? ⟨g, j * 4 + 3, none⟩ = some (.string m.val) := by
  have hq : ∀ (q : Nat) (u : Value), m.cells[q]? = some u → W.cell? ⟨g, j * 4 + q, none⟩ = some u := fun q u hu => by
    have := h.cells (g := g) rfl (j * 4 + q) u (msgCells_at hj hu)
    rwa [Addr.add_lit, Nat.zero_add] at this
  exact ⟨hq 0 _ rfl, hq 1 _ rfl, hq 2 _ rfl, hq 3 _ rfl⟩
end Go.Proofs.Ytnpmjpdndhedgaa
