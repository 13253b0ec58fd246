/-
  A credential cache: how it lies; its first steps walked. No statement of a claim stands here; each contract names what it asks.
-/
import Derived.Test.YteifjbfojjjacaaKa2
import Derived.Test.YteifjbfojjjacaaApp
import Derived.Deep.MidRow
import Derived.Test.YteifjbfojjjacaaKa4
set_option linter.unusedSimpArgs false
namespace Go.Proofs.Yteifjbfojjjacaa
open Go Go.RowKit Go.ChangeMaps

structure TkS where
  client : ByteArray
  service : ByteArray
  key : List Nat
  from_ : Int
  until_ : Int
  renew : Int
  flags : Int

def keyCells (k : List Nat) : List Value := k.map fun (b : Nat) => .int .u8 (b : Int)
def TkS.cells (t : TkS) (kv : Value) : List Value := [.string t.client, .string t.service, kv, .int .i64 t.from_, .int .i64 t.until_, .int .i64 t.renew, .int .i64 t.flags]
abbrev Tks := List (Value × TkS)
def tkCells (l : Tks) : List Value := l.flatMap fun p => p.2.cells p.1
theorem tkCells_append (l m : Tks) : tkCells (l ++ m) = tkCells l ++ tkCells m := by simp [tkCells]
theorem tk_at : ∀ {l : Tks} {i : Nat} {p : Value × TkS}, l[i]? = some p → ∀ j u, (p.2.cells p.1)[j]? = some u → (tkCells l)[i * 7 + j]? = some u
  | [], i, p, h, _, _, _ => by simp at h
  | x :: l, 0, p, h, j, u, hu => by
    simp only [List.getElem?_cons_zero, Option.some.injEq] at h
    subst h
    have hj : j < (x.2.cells x.1).length := (List.getElem?_eq_some_iff.1 hu).1
    simp only [tkCells, List.flatMap_cons, Nat.zero_mul, Nat.zero_add]
    rw [List.getElem?_append_left hj]; exact hu
  | x :: l, i + 1, p, h, j, u, hu => by
    rw [List.getElem?_cons_succ] at h
    have := tk_at h j u hu
    simp only [tkCells, List.flatMap_cons] at this ⊢
    rw [List.getElem?_append_right (by simp [TkS.cells]; omega)]
    simp only [TkS.cells, List.length_cons, List.length_nil] at this ⊢
    rw [show (i + 1) * 7 + j - (0 + 1 + 1 + 1 + 1 + 1 + 1 + 1) = i * 7 + j by omega]
    exact this

theorem his_some (w : World) (x : Nat) (n : Int) (hn : 0 < n) (hc : w.cell? ⟨x, 0, none⟩ = some (.int .i64 n)) :
    Calls Try.prog 34 #[.pointer (some ⟨x, 0, none⟩)] w fun e w' => e = .returned (.bool true) ∧ w' = w := by
  have d : decide (0 < n) = true := by simpa using hn
  go_enter Try.func34, Try.ntmps34
  go_wp2
  go_ret
  exact ⟨rfl, rfl⟩
theorem his_zero (w : World) (x : Nat) (hc : w.cell? ⟨x, 0, none⟩ = some (.int .i64 0)) :
    Calls Try.prog 34 #[.pointer (some ⟨x, 0, none⟩)] w fun e w' => e = .returned (.bool false) ∧ w' = w := by
  go_enter Try.func34, Try.ntmps34
  go_wp2
  go_ret
  exact ⟨rfl, rfl⟩
theorem his_nil (w : World) : Calls Try.prog 34 #[.pointer none] w fun e w' => e = .returned (.bool false) ∧ w' = w := by
  go_enter Try.func34, Try.ntmps34
  go_wp2
  go_ret
  exact ⟨rfl, rfl⟩

theorem makeHeld_yes (room : Int) (w : World) (h1 : roomOk room = true) :
    Calls Try.prog 18 #[.int .i64 room] w fun e w' => e = .returned (.tuple #[.pointer (some ⟨w.heap.size, 0, none⟩), .int .i64 0]) ∧ w'.heap[w.heap.size]? = some (.cells #[.int .i64 room, .slice none 0 0] 69 (0, 0)) ∧ Mod [] w w' := by
  have H1 := hid h1
  clear h1
  go_enter Try.func18, Try.ntmps18
  go_wp2_with (first
    | (go_at_call 29; refine (right_any _ _).mono ?_; rw [H1.out]; rintro e w' ⟨rfl, rfl⟩))
  go_ret2
  exact ⟨rfl, get_new w _, (by repeat' (first | exact Mod.refl _ _ | assumption | refine Mod.drewN ?_ _ | refine Mod.drew ?_ | refine Mod.alloc ?_ _ | refine Mod.setCell ?_ (by simp) _ | refine Mod.setBlock ?_ (by simp) _))⟩

def TkS.is (t : TkS) (c s : ByteArray) : Bool := decide (t.client = c) && decide (t.service = s)

theorem atfn_any (w : World) (t : TkS) (kv : Value) (c s : ByteArray) (bc bs : Nat) (hc : w.cell? ⟨bc, 0, none⟩ = some (.string c)) (hs : w.cell? ⟨bs, 0, none⟩ = some (.string s)) :
    Calls Try.prog 47 #[.agg (t.cells kv).toArray, .pointer (some ⟨bc, 0, none⟩), .pointer (some ⟨bs, 0, none⟩)] w fun e w' => e = .returned (.bool (t.is c s)) ∧ Mod [] w w' := by
  obtain ⟨client, service, key, from_, until_, renew, flags⟩ := t
  simp only [TkS.cells]
  have hc' := (Mod.alloc (Mod.refl [] w) (.cells #[.string client, .string service, kv, .int .i64 from_, .int .i64 until_, .int .i64 renew, .int .i64 flags] 50)).cell hc (by simp)
  have hs' := (Mod.alloc (Mod.refl [] w) (.cells #[.string client, .string service, kv, .int .i64 from_, .int .i64 until_, .int .i64 renew, .int .i64 flags] 50)).cell hs (by simp)
  have hq1 := chars_eq client c
  have hq2 := chars_eq service s
  by_cases h1 : client = c
  · rw [decide_eq_true h1] at hq1
    have H1 := hid h1
    clear h1
    go_enter Try.func47, Try.ntmps47
    go_wp2_with fail
    go_ret
    exact ⟨by simp [TkS.is, H1.out], (by repeat' (first | exact Mod.refl _ _ | assumption | refine Mod.drewN ?_ _ | refine Mod.drew ?_ | refine Mod.alloc ?_ _ | refine Mod.setCell ?_ (by simp) _ | refine Mod.setBlock ?_ (by simp) _))⟩
  · rw [decide_eq_false h1] at hq1
    have H1 := hid h1
    clear h1
    go_enter Try.func47, Try.ntmps47
    go_wp2_with fail
    go_ret
    have h1 := H1.out
    exact ⟨by simp [TkS.is, h1], (by repeat' (first | exact Mod.refl _ _ | assumption | refine Mod.drewN ?_ _ | refine Mod.drew ?_ | refine Mod.alloc ?_ _ | refine Mod.setCell ?_ (by simp) _ | refine Mod.setBlock ?_ (by simp) _))⟩

def atS (l : Tks) (c s : ByteArray) : Int := match l.findIdx? (fun p => p.2.is c s) with | some i => (i : Int) | none => -1

theorem tidx_any (w : World) (l : Tks) (v : Value) (c s : ByteArray) (bc bs : Nat) (hr : w.ownsRow 0 50 7 v l.length (tkCells l)) (hl : l.length ≤ 1000) (hc : w.cell? ⟨bc, 0, none⟩ = some (.string c)) (hs : w.cell? ⟨bs, 0, none⟩ = some (.string s)) :
    Calls Try.prog 46 #[v, .func (.func 47) #[] #[.pointer (some ⟨bc, 0, none⟩), .pointer (some ⟨bs, 0, none⟩)]] w fun e w' => e = .returned (.int .i64 (atS l c s)) ∧ Mod [] w w' := by
  obtain ⟨a, cc, rfl⟩ := row_slice hr
  have H := hid hr
  have HL := hid hl
  have HC := hid hc
  have HS := hid hs
  clear hr hl hc hs
  go_enter Try.func46, Try.ntmps46
  go_wp2_with fail
  go_loopg [8] l.length (fun gk i W' => ∃ j : Nat, i = .int .i64 (j : Int) ∧ gk + j = l.length ∧ (∀ p ∈ l.take j, p.2.is c s = false) ∧ Mod [] w W')
  case atStart => exact ⟨0, rfl, rfl, by simp, Mod.refl _ _⟩
  case round =>
    obtain ⟨j, rfl, hj, hall, hm⟩ := hrel
    have HA := hid hall
    clear hall
    by_cases hjn : j < l.length
    · have hp : l[j]? = some l[j] := List.getElem?_eq_getElem hjn
      generalize l[j] = p at hp
      obtain ⟨g, c', hg, hcell⟩ := row_pos (row_mod H.out hm (by simp)) (by omega)
      cases hg
      obtain ⟨kv, t⟩ := p
      have ht := tk_at hp
      have e0 := hcell _ _ (ht 0 _ rfl)
      have e1 := hcell _ _ (ht 1 _ rfl)
      have e2 := hcell _ _ (ht 2 _ rfl)
      have e3 := hcell _ _ (ht 3 _ rfl)
      have e4 := hcell _ _ (ht 4 _ rfl)
      have e5 := hcell _ _ (ht 5 _ rfl)
      have e6 := hcell _ _ (ht 6 _ rfl)
      dsimp only at e0 e1 e2 e3 e4 e5 e6
      rw [Nat.add_zero] at e0
      have j0 : (0 : Int) ≤ (j : Int) := Int.natCast_nonneg _
      have j1 : (j : Int) < (l.length : Int) := by omega
      have d1 : decide ((j : Int) < (l.length : Int)) = true := by rw [decide_eq_true_eq]; omega
      have d2 : decide (j < l.length) = true := by rw [decide_eq_true_eq]; omega
      have hj100 : j < 1000 := by have := HL.out; omega
      have HP := hid hp
      have hfn := atfn_any wr t kv c s bc bs (hm.cell HC.out (by simp)) (hm.cell HS.out (by simp))
      simp only [TkS.cells] at hfn
      have HM := hid hm
      clear hp ht hcell hm
      cases ht : t.is c s with
      | false =>
        rw [ht] at hfn
        have HT := hid ht
        have HFN := hid hfn
        clear ht hfn
        go_wp2_with (first
          | (go_at_call 47; refine HFN.out.mono ?_; rintro e w' ⟨rfl, hm'⟩; have HM' := hid hm'; clear hm'))
        go_roundg (gk - 1)
        case measure => omega
        case rel => exact ⟨j + 1, by go_num, by omega, fun x hx => by
          rw [List.take_add_one, HP.out] at hx
          rcases List.mem_append.1 hx with hx | hx
          · exact HA.out x hx
          · simp at hx; rw [hx]; exact HT.out, HM.out.trans HM'.out⟩
      | true =>
        rw [ht] at hfn
        have HT := hid ht
        have HFN := hid hfn
        clear ht hfn
        go_wp2_with (first
          | (go_at_call 47; refine HFN.out.mono ?_; rintro e w' ⟨rfl, hm'⟩; have HM' := hid hm'; clear hm'))
        go_ret
        refine ⟨?_, HM.out.trans HM'.out⟩
        have hidx : l.findIdx? (fun p => p.2.is c s) = some j := by
          rw [List.findIdx?_eq_some_iff_getElem]
          refine ⟨hjn, ?_, fun i hi => ?_⟩
          · have := HP.out
            rw [List.getElem?_eq_getElem hjn, Option.some.injEq] at this
            rw [this]; exact HT.out
          · have := HA.out l[i] (List.mem_take_iff_getElem.2 ⟨i, by omega, rfl⟩)
            simp [this]
        simp only [atS, hidx]
        rfl
    · have d1 : decide ((j : Int) < (l.length : Int)) = false := by rw [decide_eq_false_iff_not]; omega
      have d2 : decide (j < l.length) = false := by rw [decide_eq_false_iff_not]; omega
      go_wp2_with fail
      go_ret
      refine ⟨?_, hm⟩
      have hidx : l.findIdx? (fun p => p.2.is c s) = none := by
        rw [List.findIdx?_eq_none_iff]
        exact fun x hx => HA.out x (by rw [List.take_of_length_le (by omega)]; exact hx)
      simp only [atS, hidx]
      rfl

theorem at_any (w : World) (x : Nat) (room : Int) (l : Tks) (v : Value) (c s : ByteArray) (hx : w.heap[x]? = some (.cells #[.int .i64 room, v] 69 (0, 0))) (hr : w.ownsRow 0 50 7 v l.length (tkCells l)) (hl : l.length ≤ 1000) :
    Calls Try.prog 35 #[.pointer (some ⟨x, 0, none⟩), .string c, .string s] w fun e w' => e = .returned (.int .i64 (atS l c s)) ∧ Mod [] w w' := by
  have hx1 : ((w.alloc (.cells #[.string c] 9)).alloc (.cells #[.string s] 9)).cell? ⟨x, 1, none⟩ = some v := cell_at (get_alloc (get_alloc hx _) _) 1
  go_enter Try.func35, Try.ntmps35
  have hrr := row_mod hr (Mod.alloc (Mod.alloc (Mod.refl [] w) (.cells #[.string c] 9)) (.cells #[.string s] 9)) (by simp)
  have hb1 := cell_at (get_alloc (get_new w (.cells #[.string c] 9)) (.cells #[.string s] 9)) 0
  have hb2 := get_new (w.alloc (.cells #[.string c] 9)) (.cells #[.string s] 9)
  rw [World.size_alloc] at hb2
  have hb2' := cell_at hb2 0
  have HI := hid (tidx_any _ l v c s _ _ hrr hl hb1 hb2')
  clear hrr hb1 hb2 hb2'
  go_wp2_with (first | (go_at_call 46; refine HI.out.mono ?_; rintro e w' ⟨rfl, hm'⟩))
  go_ret
  exact ⟨rfl, (Mod.alloc (Mod.alloc (Mod.refl [] w) _) _).trans hm'⟩
end Go.Proofs.Yteifjbfojjjacaa
