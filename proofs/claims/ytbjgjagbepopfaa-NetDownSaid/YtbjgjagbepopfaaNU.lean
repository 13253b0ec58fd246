/-
  NetDown in plain words. No statement of a claim stands here; each lemma names what it asks.
-/
import Derived.Test.YtbjgjagbepopfaaNQ
set_option linter.unusedSimpArgs false
namespace Go.Proofs.Ytbjgjagbepopfaa
open Go Go.RowKit Go.ChangeMaps

/-- What holds before the party is down: k messages were sent to it. -/
structure Up (s : NetS) (party : Int) (n : Nat) (j : Nat) : Prop where
  ok : s.Ok
  parties : s.parties = 3
  room : s.room = 200
  downs : s.downs = []
  lost : s.lost = 0
  taken : s.taken = 0
  len : s.way.length ≤ j
  goes : (s.waiting party).length = n

theorem Up.made (s : NetS) (party : Int) (ho : s.Ok) (h1 : s.parties = 3) (h2 : s.room = 200) (h4 : s.downs = []) (h5 : s.way = []) (h6 : s.lost = 0) (h7 : s.taken = 0) : Up s party 0 0 :=
  ⟨ho, h1, h2, h4, h6, h7, by rw [h5]; simp, by unfold NetS.waiting; rw [h5]; rfl⟩

theorem Up.mono {s : NetS} {party : Int} {n j j' : Nat} (h : Up s party n j) (hj : j ≤ j') : Up s party n j' :=
  ⟨h.ok, h.parties, h.room, h.downs, h.lost, h.taken, Nat.le_trans h.len hj, h.goes⟩

theorem Up.send {s : NetS} {party : Int} {n j : Nat} (h : Up s party n j) {m : Msg} (hf : 1 ≤ m.frm ∧ m.frm ≤ 3) (ht : 1 ≤ m.to ∧ m.to ≤ 3) (hk : 0 ≤ m.kind) :
    ((s.send m).2.2 = 0 ∧ Up (s.send m).1 party (if m.to = party then n + 1 else n) (j + 1)) ∨ ((s.send m).2.2 ≠ 0 ∧ (s.send m).1 = s) := by
  have hp : (s.party m.frm && s.party m.to) = true := by
    unfold NetS.party
    rw [h.parties]
    simp
    omega
  have hd : ∀ k, s.down k = false := fun k => by unfold NetS.down; rw [h.downs]; rfl
  have ho := NetS.send_ok h.ok m
  unfold NetS.send at ho ⊢
  rw [hp, if_pos rfl, if_neg (by omega)] at ho ⊢
  by_cases hl : 4096 < m.body.size
  · rw [if_pos hl]; exact .inr ⟨by simp, rfl⟩
  · rw [if_neg hl] at ho ⊢
    rw [hd, hd, if_neg (by simp), if_neg (by simp)] at ho ⊢
    unfold NetS.put at ho ⊢
    by_cases hr : (s.way.length : Int) = s.room
    · rw [if_pos hr]; exact .inr ⟨by simp, rfl⟩
    · rw [if_neg hr] at ho ⊢
      refine .inl ⟨rfl, ho, h.parties, h.room, h.downs, h.lost, h.taken, ?_, ?_⟩
      · show (s.way ++ [_]).length ≤ _
        have := h.len
        simp
        omega
      · have := h.goes
        unfold NetS.waiting at this ⊢
        simp only [List.length_map] at this ⊢
        rw [List.filter_append, List.length_append, this]
        by_cases hh : m.to = party
        · rw [if_pos hh]; simp [hh]
        · rw [if_neg hh]; simp [hh]

/-- The end: down, two sends, up, a send. -/
structure Ends (s : NetS) (party : Int) (n : Nat) : Prop where
  ex : ∃ s1 s2 s3 : NetS, s.downing party true = (s1, 0) ∧ s1.Ok ∧ s1.sent ≤ 1000000 ∧ s1.waiting party = [] ∧ s1.send ⟨party, 1, 0, ⟨#[]⟩⟩ = (s1, 0, 8) ∧
    s1.send ⟨party.tmod 3 + 1, party, 0, ⟨#[]⟩⟩ = (s2, 0, 0) ∧ s2.Ok ∧ s2.sent ≤ 1000000 ∧ s2.lost = (n : Int) + 1 ∧ s2.downing party false = (s3, 0) ∧ s3.Ok ∧ s3.sent ≤ 1000000 ∧
    ∃ s4 k, s3.send ⟨party, party, 0, ⟨#[]⟩⟩ = (s4, k, 0) ∧ s4.Ok ∧ s4.sent ≤ 1000000 ∧ (s4.waiting party).length = 1

theorem Up.ends {s : NetS} {party : Int} {n j : Nat} (h : Up s party n j) (hp : 1 ≤ party ∧ party ≤ 3) (hj : j ≤ 60) : Ends s party n := by
  have hP : ∀ k, 1 ≤ k ∧ k ≤ 3 → s.party k = true := fun k hk => by unfold NetS.party; rw [h.parties]; simpa using hk
  have ho1 := NetS.downing_ok h.ok party true
  have hway : s.way.filter (fun e => decide (e.1 ∉ (s.waiting party).take (s.waiting party).length)) = s.way.filter (fun e => decide (e.2.1.to ≠ party)) := NetS.losing_way s party h.ok.nodup
  have hd1 : s.downing party true = ((s.marking party true).losing (s.waiting party) (s.waiting party).length, 0) := by
    unfold NetS.downing; rw [hP party hp, if_pos rfl, if_pos rfl]
  have hsum := h.ok.sum
  have hlen := h.len
  have hl0 := h.lost
  have ht0 := h.taken
  rw [hd1] at ho1
  obtain ⟨s1, hs1⟩ : ∃ s1, s1 = (s.marking party true).losing (s.waiting party) (s.waiting party).length := ⟨_, rfl⟩
  have e1 : s1.parties = 3 := by rw [hs1]; exact h.parties
  have e2 : s1.downs = [(party, true, s.cd)] := by
    rw [hs1]; show putL s.downs party true s.cd = _; rw [h.downs]; rfl
  have e3 : s1.way = s.way.filter (fun e => decide (e.2.1.to ≠ party)) := by rw [hs1]; exact hway
  have e4 : s1.lost = n := by rw [hs1]; show s.lost + ((s.waiting party).length : Nat) = _; rw [h.lost, h.goes]; omega
  have e5 : s1.sent = s.sent := by rw [hs1]; rfl
  have e6 : s1.room = 200 := by rw [hs1]; exact h.room
  rw [← hs1] at hd1 ho1
  clear hs1
  have hP1 : ∀ k, 1 ≤ k ∧ k ≤ 3 → s1.party k = true := fun k hk => by unfold NetS.party; rw [e1]; simpa using hk
  have hdn : ∀ k, s1.down k = decide (k = party) := fun k => by
    unfold NetS.down; rw [e2, look_cons, look_nil]
    by_cases hk : party = k
    · rw [if_pos hk]; simp [hk]
    · rw [if_neg hk]; simp; exact fun h => hk h.symm
  have hlen1 : s1.way.length ≤ s.way.length := by rw [e3]; exact List.length_filter_le _ _
  have hm : party.tmod 3 = party % 3 := Int.tmod_eq_emod_of_nonneg (by omega)
  have hm1 : 1 ≤ party.tmod 3 + 1 ∧ party.tmod 3 + 1 ≤ 3 := by omega
  have hm2 : party.tmod 3 + 1 ≠ party := by omega
  have w1 : s1.waiting party = [] := by
    unfold NetS.waiting; rw [e3, List.filter_filter]
    rw [List.filter_eq_nil_iff.2]
    · rfl
    · intro e _; simp
  have se1 : s1.send ⟨party, 1, 0, ⟨#[]⟩⟩ = (s1, 0, 8) := by
    unfold NetS.send
    dsimp only
    rw [hP1 party hp, hP1 1 (by omega), hdn, decide_eq_true rfl]
    rfl
  have se2 : s1.send ⟨party.tmod 3 + 1, party, 0, ⟨#[]⟩⟩ = ({ s1 with sent := s1.sent + 1, lost := s1.lost + 1 }, 0, 0) := by
    unfold NetS.send
    dsimp only
    rw [hP1 party hp, hP1 _ hm1, hdn, hdn, decide_eq_true rfl, decide_eq_false hm2]
    rfl
  have ho2 := NetS.send_ok ho1 ⟨party.tmod 3 + 1, party, 0, ⟨#[]⟩⟩
  rw [se2] at ho2
  obtain ⟨s2, hs2⟩ : ∃ s2 : NetS, s2 = { s1 with sent := s1.sent + 1, lost := s1.lost + 1 } := ⟨_, rfl⟩
  rw [← hs2] at se2 ho2
  have f1 : s2.parties = 3 := by rw [hs2]; exact e1
  have f2 : s2.downs = [(party, true, s.cd)] := by rw [hs2]; exact e2
  have f3 : s2.way = s.way.filter (fun e => decide (e.2.1.to ≠ party)) := by rw [hs2]; exact e3
  have f4 : s2.lost = (n : Int) + 1 := by rw [hs2]; show s1.lost + 1 = _; rw [e4]
  have f5 : s2.sent = s.sent + 1 := by rw [hs2]; show s1.sent + 1 = _; rw [e5]
  have f6 : s2.room = 200 := by rw [hs2]; exact e6
  clear hs2
  have hP2 : ∀ k, 1 ≤ k ∧ k ≤ 3 → s2.party k = true := fun k hk => by unfold NetS.party; rw [f1]; simpa using hk
  have hd2 : s2.downing party false = (s2.marking party false, 0) := by
    unfold NetS.downing; rw [hP2 party hp, if_pos rfl, if_neg (by simp)]
  have ho3 := NetS.marking_ok ho2 party false
  have g2 : ∀ k, (s2.marking party false).down k = false := fun k => by
    unfold NetS.down NetS.marking
    dsimp only
    rw [look_putL, f2]
    by_cases hk : k = party
    · rw [if_pos hk]; rfl
    · rw [if_neg hk, look_cons, if_neg (fun h => hk h.symm)]; rfl
  have hP3 : ∀ k, 1 ≤ k ∧ k ≤ 3 → (s2.marking party false).party k = true := fun k hk => by unfold NetS.party; show decide (1 ≤ k ∧ k ≤ s2.parties) = true; rw [f1]; simpa using hk
  have g3 : (s2.marking party false).way = s.way.filter (fun e => decide (e.2.1.to ≠ party)) := f3
  have g6 : (s2.marking party false).room = 200 := f6
  have g5 : (s2.marking party false).sent = s.sent + 1 := f5
  have se3 : (s2.marking party false).send ⟨party, party, 0, ⟨#[]⟩⟩ = (s2.marking party false).put ⟨party, party, 0, ⟨#[]⟩⟩ := by
    unfold NetS.send
    dsimp only
    rw [hP3 party hp, g2]
    rfl
  have ho4 := NetS.send_ok ho3 ⟨party, party, 0, ⟨#[]⟩⟩
  generalize s2.marking party false = s3 at *
  have hr : ¬ (s3.way.length : Int) = s3.room := by rw [g3, g6, ← e3]; omega
  have se4 : s3.put ⟨party, party, 0, ⟨#[]⟩⟩ = ({ s3 with last := s3.last + 1, sent := s3.sent + 1, way := s3.way ++ [(s3.last + 1, ⟨party, party, 0, ⟨#[]⟩⟩, s3.cw)], cw := s3.cw + 1 }, s3.last + 1, 0) := by
    unfold NetS.put; rw [if_neg hr]
  rw [se3, se4] at ho4
  refine ⟨s1, s2, s3, hd1, ho1, by omega, w1, se1, se2, ho2, by omega, f4, hd2, ho3, by omega, _, _, by rw [se3, se4], ho4, ?_, ?_⟩
  · show s3.sent + 1 ≤ 1000000; omega
  · unfold NetS.waiting
    show (((s3.way ++ [_]).filter _).map _).length = 1
    rw [List.length_map, List.filter_append, List.length_append, g3, List.filter_filter]
    rw [List.filter_eq_nil_iff.2 (fun e _ => by simp)]
    simp
end Go.Proofs.Ytbjgjagbepopfaa
