/-
  CacheRoom: what the two caches hold, plainly. No statement of a claim stands here.
-/
import Derived.Test.YteifjbfojjjacaaKa1
import Derived.Test.YteifjbfojjjacaaKaI
import Derived.Test.YteifjbfojjjacaaKaG
set_option linter.unusedSimpArgs false
namespace Go.Proofs.Yteifjbfojjjacaa
open Go

def num (l : List UInt8) : Int := l.foldl (fun (a : Int) c => a * 10 + ((c.toNat : Int) - 48)) 0
def dec (s : ByteArray) : Int := match s.data.toList with
  | [] => 0
  | c :: r => if c = 45 then -(num r) else num (c :: r)
theorem dec_all : ∀ i : Fin 141, dec (itoaS ((i.val : Int) - 70)) = (i.val : Int) - 70 := by decide +kernel
theorem size_all : ∀ i : Fin 141, (itoaS ((i.val : Int) - 70)).size ≤ 10 := by decide +kernel
theorem dec_itoa {n : Int} (h1 : -70 ≤ n) (h2 : n ≤ 70) : dec (itoaS n) = n := by
  have := dec_all ⟨(n + 70).toNat, by omega⟩
  have e : (((n + 70).toNat : Nat) : Int) - 70 = n := by omega
  simp only [e] at this
  exact this
theorem size_itoa {n : Int} (h1 : -70 ≤ n) (h2 : n ≤ 70) : (itoaS n).size ≤ 10 := by
  have := size_all ⟨(n + 70).toNat, by omega⟩
  have e : (((n + 70).toNat : Nat) : Int) - 70 = n := by omega
  simp only [e] at this
  exact this
theorem itoa_ne {a b : Int} (h1 : -70 ≤ a) (h2 : a ≤ 70) (h3 : -70 ≤ b) (h4 : b ≤ 70) (h : a ≠ b) : itoaS a ≠ itoaS b := fun e => h (by
  rw [← dec_itoa h1 h2, ← dec_itoa h3 h4, e])

def repOf (rm : Int) (k : Nat) : RepS := ⟨rm, 10, (List.range k).map (fun (j : Nat) => (itoaS (j : Int), 5, j)), k⟩
theorem repOf_in {rm : Int} {k : Nat} {e : ByteArray × Int × Nat} (h : e ∈ (repOf rm k).l) : ∃ j : Nat, j < k ∧ e = (itoaS (j : Int), 5, j) := by
  obtain ⟨j, hj, rfl⟩ := List.mem_map.1 h
  exact ⟨j, List.mem_range.1 hj, rfl⟩
theorem repOf_len (rm : Int) (k : Nat) : (repOf rm k).l.length = k := by simp [repOf]
theorem kept_all (rm : Int) (k : Nat) : kept (repOf rm k) 5 = (repOf rm k).l :=
  List.filter_eq_self.2 fun e he => by
    obtain ⟨j, _, rfl⟩ := repOf_in he
    simp [fresh, repOf]
theorem kept_nil (rm : Int) (k : Nat) : kept (repOf rm k) 16 = [] :=
  List.filter_eq_nil_iff.2 fun e he => by
    obtain ⟨j, _, rfl⟩ := repOf_in he
    simp [fresh, repOf]
theorem look_new {rm : Int} {k i : Nat} (hk : k ≤ i) (hi : i ≤ 70) : look (repOf rm k).l (itoaS (i : Int)) = none :=
  look_none.2 fun e he => by
    obtain ⟨j, hj, rfl⟩ := repOf_in he
    exact itoa_ne (by omega) (by omega) (by omega) (by omega) (by omega)
theorem timeOk_small {t : Int} (h1 : 0 ≤ t) (h2 : t ≤ 1000) : timeOk t = true := by simp only [timeOk, Bool.and_eq_true, decide_eq_true_eq]; omega
theorem see_room {rm : Int} {k : Nat} (hk : (k : Int) < rm) (hi : k ≤ 70) : seeS (repOf rm k) (itoaS (k : Int)) 5 5 = (repOf rm (k + 1), 0, 0) := by
  unfold seeS
  rw [if_neg (by have := size_itoa (n := (k : Int)) (by omega) (by omega); omega), if_neg (by rw [timeOk_small (by omega) (by omega)]; simp), kept_all, look_new (Nat.le_refl _) hi, if_neg (by simp), if_neg (by rw [repOf_len]; show ¬ (k : Int) = rm; omega)]
  simp [repOf, List.range_succ]
theorem repOf_ok {rm : Int} (h1 : roomOk rm = true) : ∀ k : Nat, (k : Int) ≤ rm → k ≤ 70 → ROk (repOf rm k)
  | 0, _, _ => newRep_ok h1 (by decide)
  | k + 1, hk, h7 => by
    have := seeS_ok (repOf_ok h1 k (by omega) (by omega)) (itoaS (k : Int)) 5 5
    rw [see_room (by omega) (by omega)] at this
    exact this
theorem see_full {rm : Int} {k i : Nat} (hk : (k : Int) = rm) (h : k ≤ i) (hi : i ≤ 70) : seeS (repOf rm k) (itoaS (i : Int)) 5 5 = (repOf rm k, 60, 0) := by
  unfold seeS
  rw [if_neg (by have := size_itoa (n := (i : Int)) (by omega) (by omega); omega), if_neg (by rw [timeOk_small (by omega) (by omega)]; simp), kept_all, look_new h hi, if_neg (by simp), if_pos (by rw [repOf_len]; show (k : Int) = rm; omega)]
theorem see_x {rm : Int} {k : Nat} (hr : 1 ≤ rm) : seeS (repOf rm k) ⟨#[120]⟩ 16 16 = (⟨rm, 10, [(⟨#[120]⟩, 16, k)], k + 1⟩, 0, 0) := by
  unfold seeS
  rw [if_neg (by decide), if_neg (by rw [timeOk_small (by omega) (by omega)]; simp), kept_nil, if_neg (by simp [look]), if_neg (by show ¬ ((0 : Nat) : Int) = rm; omega)]
  rfl

def tkOf (j : Nat) : TkS := ⟨itoaS (j : Int), ⟨#[115]⟩, [], 0, 10 + (j : Int), 0, 0⟩
def TksFrom (a m : Nat) (l : Tks) : Prop := l.map (·.2) = (List.range' a m).map tkOf
theorem TksFrom.len {a m : Nat} {l : Tks} (h : TksFrom a m l) : l.length = m := by
  have := congrArg List.length h
  simpa using this
theorem TksFrom.at_ {a m : Nat} {l : Tks} (h : TksFrom a m l) {j : Nat} (hj : j < m) : (l[j]?).map (·.2) = some (tkOf (a + j)) := by
  have := congrArg (·[j]?) h
  simp only [List.getElem?_map] at this
  rw [this, List.getElem?_range' hj]
  simp
theorem TksFrom.absent {a m : Nat} {l : Tks} (h : TksFrom a m l) (hm : a + m ≤ 70) {c : Int} (h1 : -70 ≤ c) (h2 : c ≤ 70) (hc : c < a ∨ (a : Int) + m ≤ c) : atS l (itoaS c) ⟨#[115]⟩ = -1 := by
  have : l.findIdx? (fun p => p.2.is (itoaS c) ⟨#[115]⟩) = none := by
    rw [List.findIdx?_eq_none_iff]
    intro p hp
    have hp2 : p.2 ∈ (List.range' a m).map tkOf := by rw [← h]; exact List.mem_map_of_mem hp
    obtain ⟨j, hj, he⟩ := List.mem_map.1 hp2
    rw [List.mem_range'_1] at hj
    have hne : itoaS (j : Int) ≠ itoaS c := itoa_ne (by omega) (by omega) h1 h2 (by omega)
    rw [← he]
    simp [TkS.is, tkOf, hne]
  rw [atS, this]
theorem TksFrom.until {a m : Nat} {l : Tks} (h : TksFrom a m l) {j : Nat} (hj : j < m) : untilAt l j = 10 + ((a + j : Nat) : Int) := by
  have := h.at_ hj
  unfold untilAt
  cases hl : l[j]? with
  | none => rw [hl] at this; simp at this
  | some p =>
    rw [hl] at this
    simp only [Option.map_some, Option.some.injEq] at this
    simp [this, tkOf]
theorem TksFrom.first {a m : Nat} {l : Tks} (h : TksFrom a m l) : firstS l = 0 := by
  have hj : ∀ j, j ≤ m → firstTo l j = 0 := by
    intro j
    induction j with
    | zero => exact fun _ => rfl
    | succ j ih =>
      intro hj
      show (if untilAt l j < untilAt l (firstTo l j) then j else firstTo l j) = 0
      rw [ih (by omega), h.until (by omega), h.until (by omega), if_neg (by omega)]
  exact hj _ (Nat.le_of_eq h.len)
theorem TksFrom.nil : TksFrom 0 0 [] := rfl
theorem TksFrom.more {a m : Nat} {l : Tks} (h : TksFrom a m l) (kv : Value) : TksFrom a (m + 1) (l ++ [(kv, tkOf (a + m))]) := by
  unfold TksFrom at h ⊢
  rw [List.map_append, h, List.range'_concat, List.map_append]
  simp
theorem TksFrom.turn {a m : Nat} {l : Tks} (h : TksFrom a (m + 1) l) (kv : Value) : TksFrom (a + 1) (m + 1) (l.eraseIdx 0 ++ [(kv, tkOf (a + 1 + m))]) := by
  refine TksFrom.more ?_ kv
  unfold TksFrom at h ⊢
  cases l with
  | nil => simp at h
  | cons p l =>
    rw [List.range'_succ] at h
    simp only [List.map_cons, List.cons.injEq] at h
    simpa using h.2
end Go.Proofs.Yteifjbfojjjacaa
