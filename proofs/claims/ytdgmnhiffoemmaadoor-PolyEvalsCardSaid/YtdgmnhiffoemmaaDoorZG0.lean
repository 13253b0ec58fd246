/-
  Numbers as rows of digits of 32 bits, and a product digit by digit, as the reference has it; in plain words. No statement of a claim stands here; each lemma names what it asks.
-/
import Derived.Test.YtdgmnhiffoemmaaDoorZ7
namespace Go.Proofs.YtdgmnhiffoemmaaDoor

theorem HB_pos : 0 < HB := by decide
/-- A row's number, by digits of 32 bits; the lowest comes first. -/
def hval : List Nat → Nat
  | [] => 0
  | x :: l => x + HB * hval l
theorem hval_append (l m : List Nat) : hval (l ++ m) = hval l + HB ^ l.length * hval m := by
  induction l with
  | nil => simp [hval]
  | cons x l ih =>
    rw [List.cons_append, hval, hval, ih, List.length_cons, Nat.pow_succ, Nat.mul_add, Nat.mul_comm (HB ^ l.length) HB, Nat.mul_assoc]
    omega
theorem hval_zeros (k : Nat) : hval (List.replicate k 0) = 0 := by
  induction k with
  | zero => rfl
  | succ k ih => rw [List.replicate_succ, hval, ih]; rfl
theorem hval_set {l : List Nat} {t x y : Nat} (h : l[t]? = some y) : hval (l.set t x) + y * HB ^ t = hval l + x * HB ^ t := by
  induction l generalizing t with
  | nil => simp at h
  | cons z l ih =>
    cases t with
    | zero =>
      simp at h
      subst h
      rw [List.set_cons_zero, hval, hval, Nat.pow_zero]
      omega
    | succ t =>
      have h2 := ih (t := t) (by simpa using h)
      rw [List.set_cons_succ, hval, hval, Nat.pow_succ]
      have h3 : HB * (hval (l.set t x) + y * HB ^ t) = HB * (hval l + x * HB ^ t) := by rw [h2]
      rw [Nat.mul_add, Nat.mul_add] at h3
      have e1 : y * (HB ^ t * HB) = HB * (y * HB ^ t) := by rw [← Nat.mul_assoc, Nat.mul_comm]
      have e2 : x * (HB ^ t * HB) = HB * (x * HB ^ t) := by rw [← Nat.mul_assoc, Nat.mul_comm]
      rw [e1, e2]
      omega
theorem hval_take_succ {m : List Nat} {i x : Nat} (hx : m[i]? = some x) : hval (m.take (i + 1)) = hval (m.take i) + x * HB ^ i := by
  have hi := (List.getElem?_eq_some_iff.1 hx).1
  rw [List.take_add_one, hx, hval_append, List.length_take, Nat.min_eq_left (by omega)]
  have : hval (some x).toList = x := by
    show hval [x] = x
    rw [hval, hval, Nat.mul_zero, Nat.add_zero]
  rw [this, Nat.mul_comm]
theorem hmul_pow (a i : Nat) : a * HB ^ (i + 1) = (HB * a) * HB ^ i := by
  rw [Nat.pow_succ, Nat.mul_comm HB a, Nat.mul_assoc, Nat.mul_comm HB]

theorem hmul_step {W b : List Nat} {a i k x y c V : Nat} (hx : W[i + k]? = some x) (hy : b[k]? = some y) (h : hval W + c * HB ^ (i + k) = V + a * hval (b.take k) * HB ^ i) :
    hval (W.set (i + k) ((a * y + x + c) % HB)) + (a * y + x + c) / HB * HB ^ (i + k + 1) = V + a * hval (b.take (k + 1)) * HB ^ i := by
  have h1 := hval_set (x := (a * y + x + c) % HB) hx
  have hd := Nat.div_add_mod (a * y + x + c) HB
  rw [hval_take_succ hy, hmul_pow]
  have e1 : a * (hval (b.take k) + y * HB ^ k) * HB ^ i = a * hval (b.take k) * HB ^ i + a * y * HB ^ (i + k) := by
    rw [Nat.mul_add, Nat.add_mul, Nat.pow_add, Nat.mul_comm (HB ^ i), ← Nat.mul_assoc, ← Nat.mul_assoc]
  rw [e1]
  have e2 := congrArg (fun n => n * HB ^ (i + k)) hd
  simp only [Nat.add_mul] at e2
  generalize a * y * HB ^ (i + k) = A at *
  generalize a * hval (b.take k) * HB ^ i = C at *
  omega
theorem hmul_end {W : List Nat} {i c V n : Nat} (hx : W[i + n]? = some 0) (h : hval W + c * HB ^ (i + n) = V) : hval (W.set (i + n) c) = V := by
  have h1 := hval_set (x := c) hx
  rw [Nat.zero_mul] at h1
  omega
theorem hmul_carry {a x y c : Nat} (ha : a < HB) (hy : y < HB) (hx : x < HB) (hc : c < HB) : (a * y + x + c) / HB < HB := by
  rw [Nat.div_lt_iff_lt_mul HB_pos]
  have h1 : a * y ≤ (HB - 1) * (HB - 1) := Nat.mul_le_mul (by omega) (by omega)
  have h2 : (HB - 1) * (HB - 1) + (HB - 1) + (HB - 1) < HB * HB := by decide
  omega

theorem hval_dig : ∀ l : List Nat, hval (dig l) = val l
  | [] => rfl
  | x :: l => by
    rw [dig, hval, hval, hval_dig l, val, Nat.mul_add, ← Nat.mul_assoc, HB_sq]
    have := Nat.mod_add_div x HB
    omega
theorem val_comb : ∀ (D : List Nat) (n : Nat), D.length = 2 * n → val (comb D) = hval D
  | [], n, _ => rfl
  | [a], n, h => by simp at h; omega
  | a :: b :: l, n, h => by
    simp at h
    rw [comb, val, val_comb l (n - 1) (by omega), hval, hval, Nat.mul_add, ← Nat.mul_assoc, HB_sq, Nat.mul_comm b HB]
    omega
theorem comb_small : ∀ (D : List Nat), (∀ d ∈ D, d < HB) → Small (comb D)
  | [], _ => fun x hx => by cases hx
  | [a], _ => fun x hx => by cases hx
  | a :: b :: l, h => by
    intro x hx
    rcases List.mem_cons.1 hx with rfl | hx
    · have h1 := h a (by simp)
      have h2 := h b (by simp)
      unfold HB at h1 h2 ⊢
      unfold BB
      omega
    · exact comb_small l (fun d hd => h d (by simp [hd])) x hx
end Go.Proofs.YtdgmnhiffoemmaaDoor
