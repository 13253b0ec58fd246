/-
  The chapter's example 'works', walked. No statement of a claim stands here; each contract names what it asks.
-/
import Derived.Test.YtnpmjpdndhedgaaI7
set_option linter.unusedSimpArgs false
namespace Go.Proofs.Ytnpmjpdndhedgaa
open Go Go.RowKit Go.ChangeMaps

def vIns : List ByteArray := [⟨#[118]⟩]
theorem vIns_inp : inpS vIns 1 = ⟨#[118]⟩ := rfl
def endL : LawS := finishN 4000 (madeL 1 0 vIns)
theorem endL_ok : LOk endL := finishN_ok (madeL_ok 1 0 vIns (by omega) (by omega)) 4000
theorem finishN_same (k : Nat) (L : LawS) : (finishN k L).n = L.n ∧ (finishN k L).t = L.t ∧ (finishN k L).good = L.good := by
  induction k generalizing L with
  | zero => exact ⟨rfl, rfl, rfl⟩
  | succ k ih =>
    unfold finishN; split
    · exact ⟨rfl, rfl, rfl⟩
    · obtain ⟨h1, h2, h3⟩ := ih (handS L 0)
      obtain ⟨g1, g2, g3⟩ := handS_same L 0
      exact ⟨h1.trans g1, h2.trans g2, h3.trans g3⟩
theorem endL_all : ∀ s ∈ endL.nodes, s.done = true ∧ s.choice = ⟨#[118]⟩ := (ends_all 1 0 vIns (by omega) (by omega) []).2.2
theorem endL_good : endL.good = 4 := (finishN_same 4000 (madeL 1 0 vIns)).2.2.trans (madeL_same 1 0 vIns).2.2

theorem made_law (W : World) (t bad : Nat) (a : Option Addr) (c : Nat) (ins : List ByteArray) (ht : t ≤ 2) (hb : bad ≤ t) (hI : StrsAt W a ins) (hl : ins.length ≤ 8) :
    Calls Try.prog 10 #[nat t, nat bad, .slice a ins.length c] W fun e W' => ∃ lw, e = .returned (.pointer (some ⟨lw, 0, none⟩)) ∧ LawAny W W' lw (madeL t bad ins) := made_any W t bad a c ins ht hb hI hl

set_option maxHeartbeats 1000000 in
theorem works_any (W : World) : Calls Try.prog 8 #[] W fun e W' => e = .returned (.bool true) ∧ Mod [] W W' := by
  have hb := get_new W (.cells #[.string ⟨#[118]⟩] 9)
  have hI : StrsAt (W.alloc (.cells #[.string ⟨#[118]⟩] 9)) (some ⟨W.heap.size, 0, none⟩) vIns := ⟨fun i v hi => by
    match i, hi with
    | 0, hi => cases hi; exact ⟨W.heap.size, 0, rfl, by simp, cell_at hb 0⟩
    | i + 1, hi => simp [vIns] at hi⟩
  have hma : Mod [] W (W.alloc (.cells #[.string ⟨#[118]⟩] 9)) := Mod.alloc (Mod.refl _ _) _
  have hmade := made_law (W.alloc (.cells #[.string ⟨#[118]⟩] 9)) 1 0 (some ⟨W.heap.size, 0, none⟩) 1 vIns (by omega) (by omega) hI (by decide)
  have hfin := fun W1 lw h => finish_any (W.alloc (.cells #[.string ⟨#[118]⟩] 9)) W1 lw (madeL 1 0 vIns) h (madeL_ok 1 0 vIns (by omega) (by omega)) (madeL_fits 1 0 vIns (by omega) (by omega)) (by omega)
  have HMADE := hid hmade
  have HFIN := hid hfin
  have HMA := hid hma
  clear hb hI hma hmade hfin
  go_enter Try.func8, Try.ntmps8
  go_wp2_with (first
    | (go_at_call 10; refine HMADE.out.mono ?_; rintro e w1 ⟨lw, rfl, h1⟩; have H1 := hid h1; clear h1)
    | (go_at_call 12; refine (HFIN.out _ _ H1.out).mono ?_; rintro e w2 ⟨rfl, h2⟩; have H2 := hid h2; clear h2))
  have h2 : LawAny (W.alloc (.cells #[.string ⟨#[118]⟩] 9)) w2 lw endL := H2.out
  have H3 := hid h2
  clear h2 H2 H1
  go_loopg [2] 4 (fun gk i W' => ∃ (j : Nat), i = nat j ∧ gk + j = 4 ∧ LawAny (W.alloc (.cells #[.string ⟨#[118]⟩] 9)) W' lw endL)
  case atStart => exact ⟨0, rfl, rfl, H3.out⟩
  case round =>
    obtain ⟨j, rfl, hj, hLA⟩ := hrel
    have HLA := hid hLA
    by_cases hj4 : j < 4
    · obtain ⟨vn, vt, vw, va, pl, hI⟩ := hLA
      have hok := endL_ok
      have hgd := endL_good
      have hall := endL_all
      generalize endL = L at *
      have hlen : pl.length = 4 := by rw [hI.law.len, hok.len, hgd]
      obtain ⟨nb, nc, rfl⟩ := hI.law.form (by omega)
      obtain ⟨p, hp⟩ : ∃ p, pl[j]? = some p := ⟨_, List.getElem?_eq_getElem (by omega)⟩
      obtain ⟨s, hs⟩ : ∃ s, L.nodes[j]? = some s := ⟨_, List.getElem?_eq_getElem (by rw [hok.len, hgd]; omega)⟩
      have n1 := hI.law.at hp
      have l3 : wr.cell? ⟨lw, 3, none⟩ = some (.slice (some ⟨nb, 0, none⟩) pl.length nc) := by rw [cell_at hI.law.cells]; rfl
      have hdec := decided_any wr p s (hI.law.node j p s hp hs) (hok.nodes s (List.mem_of_getElem? hs))
      rw [(hall s (List.mem_of_getElem? hs)).1, (hall s (List.mem_of_getElem? hs)).2] at hdec
      have HDEC := hid hdec
      have j0 : (0 : Int) ≤ (j : Int) := Int.natCast_nonneg _
      have j1 : (j : Int) < (pl.length : Int) := by omega
      have j2 : decide ((j : Int) < 4) = true := decide_eq_true (by omega)
      clear hdec hI hp hs hall hok hgd hlen
      go_wp2_with (first
        | (go_at_call 14; refine HDEC.out.mono ?_; rintro e w3 ⟨rfl, hm3⟩; have HM3 := hid hm3; clear hm3))
      go_roundg (gk - 1)
      case measure => omega
      case rel => exact ⟨j + 1, by go_num, by omega, HLA.out.mod0 HM3.out⟩
    · have hj' : j = 4 := by omega
      subst hj'
      clear hLA
      go_wp2_with fail
      go_ret
      obtain ⟨vn, vt, vw, va, pl, hI⟩ := HLA.out
      exact ⟨rfl, HMA.out.trans hI.old⟩
end Go.Proofs.Ytnpmjpdndhedgaa
