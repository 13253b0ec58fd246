/-
  The plain side of reliable broadcast: the invariant is closed under what the walks do (Closed), and what it says at the end. No program is in sight here; no statement of a claim stands here.
-/
import Derived.Test.YtcgfjalglnlofaaInv5
import Derived.Test.YtcgfjalglnlofaaCast9
set_option linter.unusedSimpArgs false
namespace Go.Proofs.Ytcgfjalglnlofaa
open Go

theorem Inv.hand {d : Nat} {v0 : Option ByteArray} {L : LawS} (I : Inv d v0 none L) {k : Nat} (hk : k < L.wait.length) : Inv d v0 none (handS L k) ∧ pot (handS L k) < pot L := by
  have hm : L.wait[k]? = some L.wait[k] := List.getElem?_eq_getElem hk
  have hkt : k < L.to.length := by rw [I.tl]; exact hk
  have ht : L.to[k]? = some L.to[k] := List.getElem?_eq_getElem hkt
  have hb := I.tos _ (List.getElem_mem hkt)
  have hmok := I.msg _ (List.getElem_mem hk)
  generalize L.wait[k] = m at *
  generalize L.to[k] = j at *
  obtain ⟨i, rfl⟩ : ∃ i, j = i + 1 := ⟨j - 1, by omega⟩
  have e : handS L k = giveS (cutS L k) (i + 1) m := by simp [handS, ht, hm]
  have hs : L.nodes[i]? = some (L.nodes[i]'(by rw [I.len]; omega)) := List.getElem?_eq_getElem _
  have C := I.cut ht hm
  have G := C.give (m := m) (s := L.nodes[i]'(by rw [I.len]; omega)) hs (show L.bad ≤ i by omega) (.inr hmok) (.inr rfl)
  rw [e]
  refine ⟨G.1, Nat.lt_of_le_of_lt G.2 ?_⟩
  simp only [pot, cutS]
  rw [List.length_eraseIdx_of_lt hk]
  omega

/-- Any two that deliver, deliver one value. -/
theorem Inv.same {d : Nat} {v0 : Option ByteArray} {L : LawS} (I : Inv d v0 none L) {i j : Nat} {s u : NodeS} (hs : L.nodes[i]? = some s) (hu : L.nodes[j]? = some u) (h1 : s.si = true) (h2 : u.si = true) : s.sv = u.sv := by
  have ns := I.node i s hs
  have nu := I.node j u hu
  have c1 := ns.si h1
  have c2 := nu.si h2
  have hn := I.n
  have hb := I.bad
  obtain ⟨x, hx1, hx2, ⟨e, he, he1, he2⟩, f, hf, hf1, hf2⟩ := two_good (b := L.bad) (by omega) ns.R ns.kR nu.R nu.kR s.sv u.sv (by omega)
  have hx : L.nodes[x]? = some (L.nodes[x]'(by rw [I.len]; omega)) := List.getElem?_eq_getElem _
  have r1 := (I.vR i s hs e he x _ hx1 hx he1).2
  have r2 := (I.vR j u hu f hf x _ hx1 hx hf1).2
  rw [← he2, ← hf2, ← r1, ← r2]

theorem agreeStep_true : ∀ (l : List NodeS) (v : ByteArray) (any : Bool), (any = true → ∀ s ∈ l, s.si = true → s.sv = v) → (∀ s ∈ l, ∀ u ∈ l, s.si = true → u.si = true → s.sv = u.sv) → agreeStep v any l = true
  | [], _, _, _, _ => rfl
  | s :: l, v, any, h1, h2 => by
    have hl : ∀ a ∈ l, ∀ b ∈ l, a.si = true → b.si = true → a.sv = b.sv := fun a ha b hb => h2 a (by simp [ha]) b (by simp [hb])
    rw [agreeStep]
    cases hs : s.si with
    | false =>
      simp only [Bool.false_and, Bool.false_eq_true, if_false]
      exact agreeStep_true l v any (fun ha x hx => h1 ha x (by simp [hx])) hl
    | true =>
      have hnot : ¬ ((true && any && !(s.sv.toList == v.toList)) = true) := by
        cases any with
        | false => simp
        | true => rw [h1 rfl s (by simp) hs]; simp
      rw [if_neg hnot, if_pos rfl]
      exact agreeStep_true l s.sv true (fun _ x hx hxs => h2 x (by simp [hx]) s (by simp) hxs hs) hl

theorem Inv.agree {d : Nat} {v0 : Option ByteArray} {L : LawS} (I : Inv d v0 none L) : agreeS L = true := by
  refine agreeStep_true _ _ _ (fun h => by cases h) (fun s hs u hu h1 h2 => ?_)
  obtain ⟨i, hi⟩ := List.mem_iff_getElem?.1 (List.mem_of_mem_drop hs)
  obtain ⟨j, hj⟩ := List.mem_iff_getElem?.1 (List.mem_of_mem_drop hu)
  exact I.same hi hj h1 h2

theorem sum_zero {α : Type} (f : α → Nat) : ∀ l : List α, 0 ≤ (l.map f).sum := fun _ => Nat.zero_le _

theorem inv_closed (d : Nat) (v0 : Option ByteArray) : Closed (Inv d v0 none) pot := by
  refine ⟨fun L I => by have := I.n; omega, fun L I => by have := I.n; have := I.t; omega, fun L I => by have := I.n; have := I.bad; omega, fun L I => I.len, fun L I s hs => ?_, fun L I => I.tl, fun L I => ?_, fun L I k hk => by have := I.tos k hk; omega, fun L I => I.agree,
    fun L I i s m hs => ?_, fun L k I hk => I.hand hk, fun L i m I hi h1 h2 h3 => ?_, fun L k _ => ?_⟩
  · obtain ⟨i, hi⟩ := List.mem_iff_getElem?.1 hs
    rw [(I.node i s hi).n]
    have := I.n; omega
  · have := I.mu
    simp only [pot, Option.isSome_none, Bool.false_eq_true, if_false] at this
    omega
  · have N := I.node i s hs
    have hn := I.n
    have ht := I.t
    have hb := I.bad
    have hin : i < L.n := by rw [← I.len]; exact (List.getElem?_eq_some_iff.1 hs).1
    have hmu := I.mu
    simp only [pot, Option.isSome_none, Bool.false_eq_true, if_false] at hmu
    have htl := I.tl
    refine ⟨by rw [N.n]; omega, by rw [N.n]; omega, by rw [N.t]; omega, by rw [N.t]; omega, N.E, N.R, by have := votes_len N.E N.kE; omega, by have := votes_len N.R N.kR; omega, by rw [N.me]; omega, by rw [N.me]; omega, fun k h1 h2 => ?_, by omega, by omega, by omega, by omega, by rw [I.len]; omega⟩
    rcases (show k = 2 ∨ k = 3 by omega) with rfl | rfl
    · refine ⟨if s.ei = true then 1 else 0, ?_, ?_⟩
      · rw [show (2 * s.me + 2 - 2).toNat = 2 * (i + 1) by rw [N.me]; omega]; exact N.sE
      · split <;> omega
    · refine ⟨if s.ri = true then 1 else 0, ?_, ?_⟩
      · rw [show (2 * s.me + 3 - 2).toNat = 2 * (i + 1) + 1 by rw [N.me]; omega]; exact N.sR
      · split <;> omega
  · have hs : L.nodes[L.bad + i]? = some (L.nodes[L.bad + i]'(by rw [I.len]; omega)) := List.getElem?_eq_getElem _
    have := (I.give hs (by omega) (.inl ⟨h1, h2⟩) (.inl rfl)).1
    rw [show L.bad + 1 + i = L.bad + i + 1 by omega]
    exact this
  · unfold handS
    split
    · rename_i j m _ _
      unfold giveS
      split
      · exact ⟨rfl, rfl⟩
      · have hall : ∀ (l : List Msg) (L : LawS), (allL L l).n = L.n ∧ (allL L l).bad = L.bad := by
          intro l
          induction l with
          | nil => exact fun L => ⟨rfl, rfl⟩
          | cons m l ih => intro L; exact ih (allS L m)
        exact hall _ _
    · exact ⟨rfl, rfl⟩

/-- When nothing is on its way, and one delivered, all do. -/
theorem Inv.total {d : Nat} {v0 : Option ByteArray} {L : LawS} (I : Inv d v0 none L) (hbt : L.bad = L.t) (hw : L.wait = []) {i : Nat} {s : NodeS} (hi : L.bad ≤ i) (hs : L.nodes[i]? = some s) (hsi : s.si = true) :
    ∀ (j : Nat) (u : NodeS), L.bad ≤ j → L.nodes[j]? = some u → u.si = true := by
  have hn := I.n
  have hnf : ∀ {j : Nat} {x : Msg}, ¬ Flight L none j x := fun {j x} h => by
    rcases h with ⟨k, _, h⟩ | h
    · rw [hw] at h; simp at h
    · cases h
  have N := I.node i s hs
  have c1 := N.si hsi
  -- an honest ready of the value
  obtain ⟨x, hx1, hx2, e, he, he1, he2⟩ := one_good (b := L.bad) N.R N.kR s.sv (by omega)
  have hx : L.nodes[x]? = some (L.nodes[x]'(by rw [I.len]; omega)) := List.getElem?_eq_getElem _
  -- all readies of those that are not corrupt are of one value
  have hone : ∀ (a b : Nat) (p q : NodeS), L.nodes[a]? = some p → L.nodes[b]? = some q → p.ri = true → q.ri = true → p.rv = q.rv := fun a b p q ha hb hp hq => by
    obtain ⟨y, sy, y1, y2, y3⟩ := I.wit a p ha hp
    obtain ⟨z, sz, z1, z2, z3⟩ := I.wit b q hb hq
    have ny := I.node y sy y2
    have nz := I.node z sz z2
    obtain ⟨g, hg1, hg2, ⟨e, he, he1, he2⟩, f, hf, hf1, hf2⟩ := two_good (b := L.bad) (by omega) ny.E ny.kE nz.E nz.kE p.rv q.rv (by omega)
    have hg : L.nodes[g]? = some (L.nodes[g]'(by rw [I.len]; omega)) := List.getElem?_eq_getElem _
    have r1 := (I.vE y sy y2 e he g _ hg1 hg he1).2
    have r2 := (I.vE z sz z2 f hf g _ hg1 hg hf1).2
    rw [← he2, ← hf2, ← r1, ← r2]
  -- each has the readies that this one has
  have hmoved : ∀ (j : Nat) (u : NodeS), L.bad ≤ j → L.nodes[j]? = some u → u.ri = true ∧ u.rv = s.sv := fun j u hj hu => by
    have nu := I.node j u hu
    have hc := good_moved (b := L.bad) (l' := u.R) N.R N.kR s.sv (fun y hy1 hy2 ⟨e, he, he1, he2⟩ => by
      have hy : L.nodes[y]? = some (L.nodes[y]'(by rw [I.len]; omega)) := List.getElem?_eq_getElem _
      have r1 := I.vR i s hs e he y _ hy1 hy he1
      rcases I.f3 y _ hy1 hy r1.1 j u hj hu with ⟨f, hf, hf1⟩ | h
      · exact ⟨f, hf, hf1, by rw [← (I.vR j u hu f hf y _ hy1 hy hf1).2, r1.2, he2]⟩
      · exact absurd h hnf)
    have hr := nu.thrR s.sv (by omega)
    have r1 := I.vR i s hs e he x _ hx1 hx he1
    exact ⟨hr, by rw [hone j x u _ hu hx hr r1.1, r1.2, he2]⟩
  intro j u hj hu
  have nu := I.node j u hu
  refine nu.thrS s.sv ?_
  have := all_good (n := L.n) (b := L.bad) (l := u.R) s.sv (fun y hy1 hy2 => by
    have hy : L.nodes[y]? = some (L.nodes[y]'(by rw [I.len]; omega)) := List.getElem?_eq_getElem _
    have r1 := hmoved y _ hy1 hy
    rcases I.f3 y _ hy1 hy r1.1 j u hj hu with ⟨f, hf, hf1⟩ | h
    · exact ⟨f, hf, hf1, by rw [← (I.vR j u hu f hf y _ hy1 hy hf1).2, r1.2]⟩
    · exact absurd h hnf)
  omega

/-- When nothing is on its way, and the dealer is not corrupt and began, all deliver its value. -/
theorem Inv.told {d : Nat} {v : ByteArray} {L : LawS} (I : Inv d (some v) none L) (hbt : L.bad = L.t) (hw : L.wait = []) :
    ∀ (j : Nat) (u : NodeS), L.bad ≤ j → L.nodes[j]? = some u → u.si = true ∧ u.sv = v := by
  have hn := I.n
  have hnf : ∀ {j : Nat} {x : Msg}, ¬ Flight L none j x := fun {j x} h => by
    rcases h with ⟨k, _, h⟩ | h
    · rw [hw] at h; simp at h
    · cases h
  have hei : ∀ (j : Nat) (u : NodeS), L.bad ≤ j → L.nodes[j]? = some u → u.ei = true ∧ u.ev = v := fun j u hj hu => by
    rcases I.f1 v rfl j u hj hu with h | h
    · have he := (I.node j u hu).heard h
      exact ⟨he, I.ev v rfl j u hu he⟩
    · exact absurd h hnf
  have hri : ∀ (j : Nat) (u : NodeS), L.bad ≤ j → L.nodes[j]? = some u → u.ri = true ∧ u.rv = v := fun j u hj hu => by
    have nu := I.node j u hu
    have hc := all_good (n := L.n) (b := L.bad) (l := u.E) v (fun y hy1 hy2 => by
      have hy : L.nodes[y]? = some (L.nodes[y]'(by rw [I.len]; omega)) := List.getElem?_eq_getElem _
      have r1 := hei y _ hy1 hy
      rcases I.f2 y _ hy1 hy r1.1 j u hj hu with ⟨f, hf, hf1⟩ | h
      · exact ⟨f, hf, hf1, by rw [← (I.vE j u hu f hf y _ hy1 hy hf1).2, r1.2]⟩
      · exact absurd h hnf)
    have hr := nu.thrE v (by omega)
    refine ⟨hr, ?_⟩
    obtain ⟨z, sz, z1, z2, z3⟩ := I.wit j u hu hr
    have nz := I.node z sz z2
    obtain ⟨g, hg1, hg2, e, he, he1, he2⟩ := one_good (b := L.bad) nz.E nz.kE u.rv (by omega)
    have hg : L.nodes[g]? = some (L.nodes[g]'(by rw [I.len]; omega)) := List.getElem?_eq_getElem _
    rw [← he2, ← (I.vE z sz z2 e he g _ hg1 hg he1).2, (hei g _ hg1 hg).2]
  intro j u hj hu
  have nu := I.node j u hu
  have hsi : u.si = true := by
    refine nu.thrS v ?_
    have := all_good (n := L.n) (b := L.bad) (l := u.R) v (fun y hy1 hy2 => by
      have hy : L.nodes[y]? = some (L.nodes[y]'(by rw [I.len]; omega)) := List.getElem?_eq_getElem _
      have r1 := hri y _ hy1 hy
      rcases I.f3 y _ hy1 hy r1.1 j u hj hu with ⟨f, hf, hf1⟩ | h
      · exact ⟨f, hf, hf1, by rw [← (I.vR j u hu f hf y _ hy1 hy hf1).2, r1.2]⟩
      · exact absurd h hnf)
    omega
  refine ⟨hsi, ?_⟩
  have c1 := nu.si hsi
  obtain ⟨g, hg1, hg2, e, he, he1, he2⟩ := one_good (b := L.bad) nu.R nu.kR u.sv (by omega)
  have hg : L.nodes[g]? = some (L.nodes[g]'(by rw [I.len]; omega)) := List.getElem?_eq_getElem _
  rw [← he2, ← (I.vR j u hu e he g _ hg1 hg he1).2, (hri g _ hg1 hg).2]
end Go.Proofs.Ytcgfjalglnlofaa
