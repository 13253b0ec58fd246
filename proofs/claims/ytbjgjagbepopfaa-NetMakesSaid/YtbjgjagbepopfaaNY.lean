/-
  NetMakes in plain words; HasInt walked. No statement of a claim stands here; each lemma names what it asks.
-/
import Derived.Test.YtbjgjagbepopfaaNQ
set_option linter.unusedSimpArgs false
namespace Go.Proofs.Ytbjgjagbepopfaa
open Go Go.RowKit Go.ChangeMaps

set_option maxHeartbeats 1000000 in
theorem has_any (w : World) (B : Nat) (v : Value) (l : List Int) (k : Int) (h : IntsAt B w v l) (hl : l.length ≤ 5000) :
    Calls Try.prog 18 #[v, .int .i64 k] w fun e w' => e = .returned (.bool (decide (k ∈ l))) ∧ w' = w := by
  obtain ⟨a0, c0, rfl⟩ := row_slice h.row
  have H := hid h
  clear h
  go_enter Try.func18, Try.ntmps18
  go_wp2_with fail
  go_loopg [5] l.length (fun gk i W' => ∃ (j : Nat), i = nat j ∧ gk + j = l.length ∧ decide (k ∈ l.drop j) = decide (k ∈ l) ∧ W' = w)
  case atStart => exact ⟨0, rfl, by omega, rfl, rfl⟩
  case round =>
    obtain ⟨j, rfl, hj, hp, rfl⟩ := hrel
    by_cases hjn : j < l.length
    · obtain ⟨x, hx⟩ : ∃ x, l[j]? = some x := ⟨_, List.getElem?_eq_getElem hjn⟩
      obtain ⟨g, c', e0, hcells⟩ := row_pos H.out.row (by omega)
      cases e0
      have x0 := hcells j (.int .i64 x) (by simp [intCells, hx])
      have hd : l.drop j = x :: l.drop (j + 1) := by rw [List.drop_eq_getElem_cons hjn]; rw [(List.getElem?_eq_some_iff.1 hx).2]
      rw [hd] at hp
      have j0 : (0 : Int) ≤ (j : Int) := Int.natCast_nonneg _
      have j1 : (j : Int) < (l.length : Int) := by omega
      by_cases hk : x = k
      · have hq : decide (k ∈ l) = true := by rw [← hp, hk]; simp
        have HQ := hid hq
        subst hk
        clear hp hd hx hq hcells
        go_wp2_with fail
        go_ret
        exact ⟨by rw [HQ.out]; rfl, rfl⟩
      · have hq : decide (k ∈ l.drop (j + 1)) = decide (k ∈ l) := by
          rw [← hp]
          simp only [List.mem_cons, decide_eq_decide]
          exact ⟨.inr, fun h => h.resolve_left (fun e => hk e.symm)⟩
        have HQ := hid hq
        have hk' : (x == k) = false := by simpa using hk
        clear hp hd hx hq hk hcells
        go_wp2_with fail
        go_roundg (gk - 1)
        case measure => omega
        case rel => exact ⟨j + 1, by go_num, by omega, HQ.out, rfl⟩
    · have hd : l.drop j = [] := List.drop_eq_nil_of_le (by omega)
      have hq : decide (k ∈ l) = false := by rw [← hp, hd]; rfl
      have j1 : ¬ (j : Int) < (l.length : Int) := by omega
      have HQ := hid hq
      clear hq hd hp
      go_wp2_with fail
      go_ret
      exact ⟨by rw [HQ.out]; rfl, rfl⟩

/-- What holds of the net, what was sent, what was taken. -/
structure Made (s : NetS) (had : List Msg) (taken : List Int) : Prop where
  ok : s.Ok
  parties : s.parties = 4
  cuts : s.cuts = []
  downs : s.downs = []
  last : s.last + 1 = had.length
  way : ∀ k m, look s.way k = some m → 0 ≤ k ∧ had[k.toNat]? = some m
  took : ∀ k ∈ taken, look s.way k = none ∧ k ≤ s.last

theorem Made.made (s : NetS) (ho : s.Ok) (h1 : s.parties = 4) (h3 : s.cuts = []) (h4 : s.downs = []) (h5 : s.way = []) (h6 : s.last = 0) : Made s [Msg.zero] [] :=
  ⟨ho, h1, h3, h4, by rw [h6]; rfl, (by rw [h5]; intro k m h; cases h), by simp⟩

theorem Made.put {s : NetS} {had : List Msg} {taken : List Int} (h : Made s had taken) (m : Msg) (ho : (s.put m).1.Ok) :
    ((s.put m).2.2 = 0 ∧ (s.put m).2.1 = had.length ∧ Made (s.put m).1 (had ++ [m]) taken) ∨ ((s.put m).2.2 ≠ 0 ∧ (s.put m).1 = s) := by
  unfold NetS.put at ho ⊢
  by_cases hr : (s.way.length : Int) = s.room
  · rw [if_pos hr]; exact .inr ⟨by simp, rfl⟩
  · rw [if_neg hr] at ho ⊢
    have hl := h.last
    have h0 := h.ok.last
    refine .inl ⟨rfl, hl, ho, h.parties, h.cuts, h.downs, ?_, ?_, ?_⟩
    · show s.last + 1 + 1 = _; rw [List.length_append]; simp; omega
    · intro k x hk
      rw [show (({ s with last := s.last + 1, sent := s.sent + 1, way := s.way ++ [(s.last + 1, m, s.cw)], cw := s.cw + 1 } : NetS), s.last + 1, (0 : Int)).1.way = s.way ++ [(s.last + 1, m, s.cw)] from rfl, look_append] at hk
      cases hk2 : look s.way k with
      | some y =>
        rw [hk2] at hk
        cases hk
        have := h.way k x hk2
        refine ⟨this.1, ?_⟩
        rw [List.getElem?_append_left (List.getElem?_eq_some_iff.1 this.2).1]
        exact this.2
      | none =>
        rw [hk2] at hk
        dsimp only at hk
        by_cases he : s.last + 1 = k
        · rw [if_pos he] at hk
          cases hk
          refine ⟨by omega, ?_⟩
          rw [show k.toNat = had.length from by omega, List.getElem?_append_right (Nat.le_refl _)]
          simp
        · rw [if_neg he] at hk; cases hk
    · intro k hk
      have := h.took k hk
      refine ⟨?_, by show k ≤ s.last + 1; omega⟩
      show look (s.way ++ [(s.last + 1, m, s.cw)]) k = none
      rw [look_append, this.1]
      dsimp only
      rw [if_neg (by omega)]

theorem Made.send {s : NetS} {had : List Msg} {taken : List Int} (h : Made s had taken) (m : Msg) :
    ((s.send m).2.2 = 0 ∧ (s.send m).2.1 = had.length ∧ Made (s.send m).1 (had ++ [m]) taken) ∨ ((s.send m).2.2 ≠ 0 ∧ (s.send m).1 = s) := by
  have hd : ∀ k, s.down k = false := fun k => by unfold NetS.down; rw [h.downs]; rfl
  have ho := NetS.put_ok h.ok m
  unfold NetS.send
  by_cases hp : (s.party m.frm && s.party m.to) = true
  · rw [if_pos hp]
    by_cases hk : m.kind < 0
    · rw [if_pos hk]; exact .inr ⟨by simp, rfl⟩
    · rw [if_neg hk]
      by_cases hl : 4096 < m.body.size
      · rw [if_pos hl]; exact .inr ⟨by simp, rfl⟩
      · rw [if_neg hl, hd, hd, if_neg (by simp), if_neg (by simp)]
        exact h.put m ho
  · rw [if_neg hp]; exact .inr ⟨by simp, rfl⟩

theorem Made.free {s : NetS} {had : List Msg} {taken : List Int} (h : Made s had taken) (k : Int) : s.free k = look s.way k := by
  unfold NetS.free
  cases look s.way k with
  | none => rfl
  | some m =>
    have : s.cut (m.frm, m.to) = false := by unfold NetS.cut; rw [h.cuts]; rfl
    simp [this]

theorem Made.copy {s : NetS} {had : List Msg} {taken : List Int} (h : Made s had taken) (k : Int) :
    ((s.copy k).2.2 = 0 ∧ (s.copy k).2.1 = had.length ∧ k ∉ taken ∧ 0 ≤ k ∧ ∃ m, had[k.toNat]? = some m ∧ Made (s.copy k).1 (had ++ [m]) taken) ∨ ((s.copy k).2.2 ≠ 0 ∧ (s.copy k).1 = s) := by
  unfold NetS.copy
  rw [h.free]
  cases hl : look s.way k with
  | none => exact .inr ⟨by simp, rfl⟩
  | some m =>
    dsimp only
    rcases h.put m (NetS.put_ok h.ok m) with ⟨h1, h2, h3⟩ | h1
    · have hw := h.way k m hl
      refine .inl ⟨h1, h2, fun hk => ?_, hw.1, m, hw.2, h3⟩
      rw [(h.took k hk).1] at hl
      cases hl
    · exact .inr h1

theorem Made.take {s : NetS} {had : List Msg} {taken : List Int} (h : Made s had taken) (k : Int) :
    ((s.take k).2.2 = 0 ∧ k ∉ taken ∧ 0 ≤ k ∧ had[k.toNat]? = some (s.take k).2.1 ∧ Made (s.take k).1 had (taken ++ [k])) ∨ ((s.take k).2.2 ≠ 0 ∧ (s.take k).1 = s) := by
  unfold NetS.take
  rw [h.free]
  cases hl : look s.way k with
  | none => exact .inr ⟨by simp, rfl⟩
  | some m =>
    dsimp only
    have hw := h.way k m hl
    obtain ⟨st, hst⟩ := look_some_mem hl
    have hlook : ∀ x m', look (s.gone k).way x = some m' → look s.way x = some m' := fun x m' hx => by
      obtain ⟨n, hn⟩ := look_some_mem hx
      exact look_mem h.ok.nodup (List.mem_filter.1 hn).1
    refine .inl ⟨rfl, fun hk => ?_, hw.1, hw.2, NetS.gone_ok h.ok hl, h.parties, h.cuts, h.downs, h.last, fun x m' hx => h.way x m' (hlook x m' hx), fun x hx => ?_⟩
    · rw [(h.took k hk).1] at hl
      cases hl
    · rcases List.mem_append.1 hx with hx | hx
      · have := h.took x hx
        refine ⟨?_, this.2⟩
        cases hx2 : look (s.gone k).way x with
        | none => rfl
        | some m' => rw [hlook x m' hx2] at this; cases this.1
      · rw [List.mem_singleton.1 hx]
        exact ⟨look_drop s.way k, (h.ok.upto _ hst).2⟩
end Go.Proofs.Ytbjgjagbepopfaa
