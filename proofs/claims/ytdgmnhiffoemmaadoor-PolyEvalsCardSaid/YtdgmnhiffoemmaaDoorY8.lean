/-
  What limb.Divide does, place by place; in plain words. No statement of a claim stands here; each lemma names what it asks.
-/
import Derived.Test.YtdgmnhiffoemmaaDoorGB
namespace Go.Proofs.YtdgmnhiffoemmaaDoor

theorem val_split (A : List Nat) (i : Nat) (hi : i ≤ A.length) : val A = val (A.take i) + BB ^ i * val (A.drop i) := by
  have h := val_append (A.take i) (A.drop i)
  rw [List.take_append_drop, List.length_take, Nat.min_eq_left hi] at h
  exact h
theorem cut3 (A : List Nat) (i k : Nat) : A = A.take i ++ (A.drop i).take k ++ A.drop (i + k) := by
  rw [List.append_assoc, ← List.drop_drop, List.take_append_drop, List.take_append_drop]

/-- At a place: nothing stands above it, and what is to be divided there is less than the divisor and one part more. -/
theorem div_place {A : List Nat} {D i n : Nat} (sA : Small A) (hA : i + (n + 1) ≤ A.length) (hD : D ≤ BB ^ n) (h : val A < D * BB ^ (i + 1)) :
    val (A.drop (i + (n + 1))) = 0 ∧ val ((A.drop i).take (n + 1)) < D * BB ∧ val A = val (A.take i) + BB ^ i * val ((A.drop i).take (n + 1)) ∧ val (A.take i) < BB ^ i := by
  have h1 := val_split A i (by omega)
  have h2 := val_split (A.drop i) (n + 1) (by rw [List.length_drop]; omega)
  rw [List.drop_drop] at h2
  have h3 := val_lt (sA.take i)
  rw [List.length_take, Nat.min_eq_left (by omega)] at h3
  have hR : val (A.drop (i + (n + 1))) = 0 := by
    apply Nat.eq_zero_of_not_pos
    intro hp
    have e1 : D * BB ^ (i + 1) ≤ BB ^ n * BB ^ (i + 1) := Nat.mul_le_mul_right _ hD
    have e2 : BB ^ n * BB ^ (i + 1) = BB ^ i * (BB ^ (n + 1) * 1) := by
      rw [← Nat.pow_add, Nat.mul_one, ← Nat.pow_add]
      congr 1
      omega
    have e3 : BB ^ i * (BB ^ (n + 1) * 1) ≤ BB ^ i * val (A.drop i) := by
      apply Nat.mul_le_mul_left
      rw [h2]
      exact Nat.le_trans (Nat.mul_le_mul_left _ hp) (Nat.le_add_left _ _)
    omega
  rw [hR, Nat.mul_zero, Nat.add_zero] at h2
  rw [h2] at h1
  exact ⟨hR, place_lt h1 h, h1, h3⟩

/-- Behind a place. -/
theorem div_next {A B K : List Nat} {N D i n V : Nat} (hA : i + (n + 1) ≤ A.length) (hD : 0 < D) (hN : N = D * val B + val A) (hB : B[i]? = some 0) (hR : val (A.drop (i + (n + 1))) = 0) (hv : val A = val (A.take i) + BB ^ i * V) (hl : val (A.take i) < BB ^ i)
    (hK : K.length = n + 1) (vK : val K = V % D) : N = D * val (B.set i (V / D)) + val (A.take i ++ K ++ A.drop (i + (n + 1))) ∧ val (A.take i ++ K ++ A.drop (i + (n + 1))) < D * BB ^ i := by
  have e1 : val (A.take i ++ K ++ A.drop (i + (n + 1))) = val (A.take i) + BB ^ i * (V % D) := by
    rw [List.append_assoc, val_append, val_append, hR, Nat.mul_zero, Nat.add_zero, vK, List.length_take, Nat.min_eq_left (by omega)]
  have e2 := val_set (x := V / D) hB
  rw [Nat.zero_mul, Nat.add_zero] at e2
  have h1 := Nat.div_add_mod V D
  have h2 := Nat.mod_lt V hD
  rw [e1, e2]
  constructor
  · rw [hN, hv, Nat.mul_add]
    have e3 : D * (V / D * BB ^ i) + BB ^ i * (V % D) = BB ^ i * V := by
      rw [← Nat.mul_assoc, Nat.mul_comm _ (BB ^ i), ← Nat.mul_add, h1]
    omega
  · have : BB ^ i * (V % D) + BB ^ i ≤ BB ^ i * D := by
      rw [← Nat.mul_succ]
      exact Nat.mul_le_mul_left _ h2
    rw [Nat.mul_comm D]
    omega

/-- The highest part is a part of the whole. -/
theorem top_le {M : List Nat} {n t : Nat} (h : M[n]? = some t) : BB ^ n * t ≤ val M := by
  have hn := (List.getElem?_eq_some_iff.1 h).1
  have h1 := val_split M n (by omega)
  rw [List.drop_eq_getElem_cons hn, (List.getElem?_eq_some_iff.1 h).2, val, Nat.mul_add] at h1
  omega

/-- The guess at a place is not too small. -/
theorem guess_ge {L M : List Nat} {n h low t : Nat} (sL : Small L) (hL : L.length = n + 2) (hh : L[n + 1]? = some h) (hlow : L[n]? = some low) (ht : M[n]? = some t) (ht0 : 0 < t) (hV : val L < val M * BB) : val L / val M ≤ (if t ≤ h then BB - 1 else (h * BB + low) / t) := by
  have hD0 : 0 < val M := Nat.lt_of_lt_of_le (Nat.mul_pos (Nat.pow_pos BB_pos) ht0) (top_le ht)
  split
  · have h1 : val L / val M < BB := (Nat.div_lt_iff_lt_mul hD0).2 (by rw [Nat.mul_comm]; exact hV)
    omega
  · have h1 := val_split L n (by omega)
    have h2 := val_lt (sL.take n)
    rw [List.length_take, Nat.min_eq_left (by omega)] at h2
    rw [List.drop_eq_getElem_cons (by omega), (List.getElem?_eq_some_iff.1 hlow).2, List.drop_eq_getElem_cons (by omega), (List.getElem?_eq_some_iff.1 hh).2, List.drop_eq_nil_of_le (by omega)] at h1
    have e : val (low :: [h]) = low + BB * h := by rw [val, val, val, Nat.mul_zero, Nat.add_zero]
    rw [e] at h1
    exact guess_le h1 h2 (top_le ht) ht0

/-- A shift down, part by part. -/
theorem right_step {A Rw : List Nat} {j x y S T c : Nat} (hST : T * S = BB) (hx : A[j]? = some x) (hR : Rw[j]? = some 0) (h : val Rw * S + c = val (A.take j) + x % S * BB ^ j) :
    val (Rw.set j (x / S + y % S * T)) * S + c = val (A.take (j + 1)) + y % S * BB ^ (j + 1) := by
  have e2 := val_set (x := x / S + y % S * T) hR
  rw [Nat.zero_mul, Nat.add_zero] at e2
  rw [e2, val_take_succ hx, mul_pow]
  have h1 := Nat.div_add_mod x S
  have e3 : (x / S + y % S * T) * BB ^ j * S = S * (x / S) * BB ^ j + BB * (y % S) * BB ^ j := by
    rw [Nat.mul_right_comm, Nat.add_mul, Nat.mul_assoc (y % S), hST, Nat.add_mul, Nat.mul_comm (x / S), Nat.mul_comm (y % S)]
  have e4 := congrArg (fun n => n * BB ^ j) h1
  simp only [Nat.add_mul] at e4
  rw [Nat.add_mul, e3]
  omega

/-- The first step: what is divided is less than the divisor at its first place. -/
theorem div_start {w D s n t : Nat} (hw : w < BB ^ 8) (hs : s < 64) (hn : 1 ≤ n) (hn4 : n ≤ 8) (hD : BB ^ (n - 1) * t ≤ D) (ht : 9223372036854775808 ≤ t) : w * 2 ^ s < D * BB ^ (9 - n) := by
  have h1 : 2 ^ s ≤ 2 ^ 63 := Nat.pow_le_pow_right (by decide) (by omega)
  have h2 : w * 2 ^ s < BB ^ 8 * 2 ^ 63 := by
    refine Nat.lt_of_le_of_lt (Nat.mul_le_mul_left w h1) ?_
    exact Nat.mul_lt_mul_of_pos_right hw (by decide)
  have h3 : BB ^ (n - 1) * t * BB ^ (9 - n) ≤ D * BB ^ (9 - n) := Nat.mul_le_mul_right _ hD
  have h4 : BB ^ (n - 1) * t * BB ^ (9 - n) = BB ^ 8 * t := by
    rw [Nat.mul_right_comm, ← Nat.pow_add]
    congr 2
    omega
  have h5 : BB ^ 8 * 2 ^ 63 ≤ BB ^ 8 * t := Nat.mul_le_mul_left _ ht
  omega
end Go.Proofs.YtdgmnhiffoemmaaDoor
