/-
  Polynomials modulo a prime, in plain words: their values, their roots, and what points of one come to (Lagrange). No statement of a claim stands here; each lemma names what it asks.
-/
import GoSem.Core.Next
namespace Go.Proofs.YtdgmnhiffoemmaaDoor

/-- A prime. -/
structure Prim (p : Int) : Prop where
  two : 2 ≤ p
  split : ∀ a b : Int, p ∣ a * b → p ∣ a ∨ p ∣ b

/-- The same modulo p. -/
def Cg (p a b : Int) : Prop := p ∣ a - b

section
variable {p a b c d : Int}
theorem Cg.refl (p a : Int) : Cg p a a := by unfold Cg; rw [Int.sub_self]; exact Int.dvd_zero p
theorem Cg.of_eq (h : a = b) : Cg p a b := h ▸ Cg.refl p a
theorem Cg.symm (h : Cg p a b) : Cg p b a := by unfold Cg at *; have := Int.dvd_neg.2 h; rwa [Int.neg_sub] at this
theorem Cg.trans (h : Cg p a b) (k : Cg p b c) : Cg p a c := by
  unfold Cg at *
  have := Int.dvd_add h k
  rwa [show a - b + (b - c) = a - c by omega] at this
theorem Cg.add (h : Cg p a b) (k : Cg p c d) : Cg p (a + c) (b + d) := by
  unfold Cg at *
  have := Int.dvd_add h k
  rwa [show a - b + (c - d) = a + c - (b + d) by omega] at this
theorem Cg.sub (h : Cg p a b) (k : Cg p c d) : Cg p (a - c) (b - d) := by
  unfold Cg at *
  have := Int.dvd_sub h k
  rwa [show a - b - (c - d) = a - c - (b - d) by omega] at this
theorem Cg.mul (h : Cg p a b) (k : Cg p c d) : Cg p (a * c) (b * d) := by
  unfold Cg at *
  have h1 : p ∣ (a - b) * c := Int.dvd_trans h (Int.dvd_mul_right _ _)
  have h2 : p ∣ b * (c - d) := Int.dvd_trans k (Int.dvd_mul_left _ _)
  have := Int.dvd_add h1 h2
  rwa [show (a - b) * c + b * (c - d) = a * c - b * d by rw [Int.sub_mul, Int.mul_sub]; omega] at this
theorem Cg.mod (p a : Int) : Cg p (a % p) a := by
  unfold Cg
  refine ⟨-(a / p), ?_⟩
  have := Int.mul_ediv_add_emod a p
  rw [Int.mul_neg]
  omega
theorem Cg.zero (h : p ∣ a) : Cg p a 0 := by unfold Cg; rwa [Int.sub_zero]
theorem Cg.dvd (h : Cg p a 0) : p ∣ a := by unfold Cg at h; rwa [Int.sub_zero] at h
/-- Residues that are the same modulo p are the same. -/
theorem Cg.eq (h : Cg p a b) (ha : 0 ≤ a ∧ a < p) (hb : 0 ≤ b ∧ b < p) : a = b := by
  obtain ⟨k, hk⟩ := h
  have hp : 0 < p := by omega
  have h1 : k < 1 := by
    refine Int.lt_of_mul_lt_mul_left (a := p) ?_ (by omega)
    rw [← hk]; omega
  have h2 : -1 < k := by
    refine Int.lt_of_mul_lt_mul_left (a := p) ?_ (by omega)
    rw [← hk]; omega
  have : k = 0 := by omega
  rw [this, Int.mul_zero] at hk
  omega
theorem Prim.cancel (hp : Prim p) (hc : ¬ p ∣ c) (h : Cg p (c * a) (c * b)) : Cg p a b := by
  unfold Cg at *
  rw [← Int.mul_sub] at h
  exact (hp.split _ _ h).resolve_left hc
end

/-! ### polynomials -/
/-- A polynomial's value; the constant coefficient comes first. -/
def ev : List Int → Int → Int
  | [], _ => 0
  | c :: l, x => c + x * ev l x
/-- A sum. -/
def addP : List Int → List Int → List Int
  | [], m => m
  | l, [] => l
  | a :: l, b :: m => (a + b) :: addP l m
def scaleP (c : Int) (l : List Int) : List Int := l.map (c * ·)
/-- Times X - r. -/
def linP (r : Int) (l : List Int) : List Int := addP (0 :: l) (scaleP (-r) l)
/-- What is left of a polynomial when its value at r is taken away and it is divided by X - r. -/
def quoP : List Int → Int → List Int
  | [], _ => []
  | _ :: l, r => addP l (scaleP r (quoP l r))

theorem ev_add (l m : List Int) (x : Int) : ev (addP l m) x = ev l x + ev m x := by
  induction l generalizing m with
  | nil => simp [addP, ev]
  | cons a l ih =>
    cases m with
    | nil => simp [addP, ev]
    | cons b m =>
      simp only [addP, ev, ih, Int.mul_add]
      omega
theorem len_add (l m : List Int) : (addP l m).length = max l.length m.length := by
  induction l generalizing m with
  | nil => simp [addP]
  | cons a l ih =>
    cases m with
    | nil => simp [addP]
    | cons b m => simp only [addP, List.length_cons, ih]; omega
theorem ev_scale (c : Int) (l : List Int) (x : Int) : ev (scaleP c l) x = c * ev l x := by
  induction l with
  | nil => simp [scaleP, ev]
  | cons a l ih =>
    have : scaleP c (a :: l) = (c * a) :: scaleP c l := rfl
    rw [this, ev, ev, ih, Int.mul_add, Int.mul_left_comm]
theorem len_scale (c : Int) (l : List Int) : (scaleP c l).length = l.length := by simp [scaleP]
theorem ev_lin (r : Int) (l : List Int) (x : Int) : ev (linP r l) x = (x - r) * ev l x := by
  unfold linP
  rw [ev_add, ev_scale, ev, Int.sub_mul, Int.neg_mul]
  omega
theorem len_lin (r : Int) (l : List Int) : (linP r l).length = l.length + 1 := by
  unfold linP
  rw [len_add, len_scale]
  simp
theorem len_quo (l : List Int) (r : Int) : (quoP l r).length = l.length - 1 := by
  induction l with
  | nil => rfl
  | cons a l ih =>
    rw [quoP, len_add, len_scale, ih, List.length_cons]
    omega
theorem ev_quo (l : List Int) (r x : Int) : ev l x = ev l r + (x - r) * ev (quoP l r) x := by
  induction l with
  | nil => simp [quoP, ev]
  | cons a l ih =>
    rw [quoP, ev_add, ev_scale, ev, ev]
    have h : (x - r) * (ev l x + r * ev (quoP l r) x) = (x - r) * ev l x + r * (ev l x - ev l r) := by
      have e : (x - r) * ev (quoP l r) x = ev l x - ev l r := by omega
      rw [Int.mul_add, ← Int.mul_assoc, Int.mul_comm (x - r) r, Int.mul_assoc, e]
    rw [h, Int.sub_mul, Int.mul_sub]
    omega

/-- Different modulo p. -/
def Apart (p : Int) (xs : List Int) : Prop := xs.Pairwise fun a b => ¬ p ∣ a - b
theorem Apart.symm_of {p a b : Int} (h : ¬ p ∣ a - b) : ¬ p ∣ b - a := fun hh => h (by have := Int.dvd_neg.2 hh; rwa [Int.neg_sub] at this)

/-- A polynomial with as many roots as coefficients vanishes. -/
theorem roots {p : Int} (hp : Prim p) : ∀ (xs l : List Int), l.length ≤ xs.length → Apart p xs → (∀ x ∈ xs, p ∣ ev l x) → ∀ x, p ∣ ev l x := by
  intro xs
  induction xs with
  | nil =>
    intro l hl _ _ x
    rw [List.eq_nil_of_length_eq_zero (Nat.le_zero.1 hl)]
    exact Int.dvd_zero p
  | cons r xs ih =>
    intro l hl ha hr x
    obtain ⟨ha1, ha2⟩ := List.pairwise_cons.1 ha
    have h0 := hr r (.head _)
    have hq := ih (quoP l r) (by rw [len_quo]; simp at hl; omega) ha2 (fun y hy => by
      have h1 := hr y (.tail _ hy)
      rw [ev_quo l r y] at h1
      have h2 : p ∣ (y - r) * ev (quoP l r) y := by
        have := Int.dvd_sub h1 h0
        rwa [show ev l r + (y - r) * ev (quoP l r) y - ev l r = (y - r) * ev (quoP l r) y by omega] at this
      exact (hp.split _ _ h2).resolve_left (Apart.symm_of (ha1 y hy))) x
    rw [ev_quo l r x]
    exact Int.dvd_add h0 (Int.dvd_trans hq (Int.dvd_mul_left _ _))

/-! ### products without one -/
/-- The product of x - xs over all places but the i-th. -/
def topN (xs : List Int) (i : Nat) (x : Int) : Int := (xs.eraseIdx i).foldr (fun r a => (x - r) * a) 1
/-- The polynomial of that product. -/
def topP (xs : List Int) (i : Nat) : List Int := (xs.eraseIdx i).foldr linP [1]
theorem ev_top (xs : List Int) (i : Nat) (x : Int) : ev (topP xs i) x = topN xs i x := by
  unfold topP topN
  induction xs.eraseIdx i with
  | nil => simp [ev]
  | cons r l ih => rw [List.foldr_cons, List.foldr_cons, ev_lin, ih]
theorem len_top (xs : List Int) (i : Nat) : (topP xs i).length = (xs.eraseIdx i).length + 1 := by
  unfold topP
  induction xs.eraseIdx i with
  | nil => rfl
  | cons r l ih => rw [List.foldr_cons, len_lin, ih, List.length_cons]
theorem prod_zero {x : Int} : ∀ {l : List Int}, x ∈ l → l.foldr (fun r a => (x - r) * a) 1 = 0 := by
  intro l h
  induction l with
  | nil => cases h
  | cons r l ih =>
    rw [List.foldr_cons]
    rcases List.mem_cons.1 h with rfl | h
    · rw [Int.sub_self, Int.zero_mul]
    · rw [ih h, Int.mul_zero]
theorem prod_not {p x : Int} (hp : Prim p) : ∀ {l : List Int}, (∀ r ∈ l, ¬ p ∣ x - r) → ¬ p ∣ l.foldr (fun r a => (x - r) * a) 1 := by
  intro l h
  induction l with
  | nil =>
    intro hh
    have h1 := Int.le_of_dvd (by decide : (0 : Int) < 1) hh
    have := hp.two
    omega
  | cons r l ih =>
    rw [List.foldr_cons]
    intro hh
    rcases hp.split _ _ hh with h1 | h1
    · exact h r (.head _) h1
    · exact ih (fun r hr => h r (.tail _ hr)) h1
/-- At another one of the places, the product is 0. -/
theorem top_other {xs : List Int} {i j : Nat} {x : Int} (hj : xs[j]? = some x) (hij : j ≠ i) : topN xs i x = 0 := by
  unfold topN
  refine prod_zero ?_
  exact List.mem_eraseIdx_iff_getElem?.2 ⟨j, hij, hj⟩
theorem Apart.get {p : Int} {xs : List Int} (h : Apart p xs) {i j : Nat} {a b : Int} (hi : xs[i]? = some a) (hj : xs[j]? = some b) (hij : i ≠ j) : ¬ p ∣ a - b := by
  have hp := List.pairwise_iff_getElem.1 h
  obtain ⟨hi1, rfl⟩ := List.getElem?_eq_some_iff.1 hi
  obtain ⟨hj1, rfl⟩ := List.getElem?_eq_some_iff.1 hj
  rcases Nat.lt_or_gt_of_ne hij with h1 | h1
  · exact hp i j hi1 hj1 h1
  · exact Apart.symm_of (hp j i hj1 hi1 h1)
/-- At its own place, it is not. -/
theorem top_own {p : Int} (hp : Prim p) {xs : List Int} (h : Apart p xs) {i : Nat} {x : Int} (hi : xs[i]? = some x) : ¬ p ∣ topN xs i x := by
  unfold topN
  refine prod_not hp fun r hr => ?_
  obtain ⟨j, hij, hj⟩ := List.mem_eraseIdx_iff_getElem?.1 hr
  exact h.get hi hj (fun e => hij e.symm)

/-- What the points (xs, ys) come to at a place, by factors f. -/
def sumF (f ys : List Int) : Int := (f.zipWith (· * ·) ys).foldr (· + ·) 0
/-- The polynomial of that sum, out of the factors' parts that do not hang on the place. -/
def sumP (xs g ys : List Int) : Nat → List Int
  | 0 => []
  | n + 1 => addP (sumP xs g ys n) (scaleP (g.getD n 0 * ys.getD n 0) (topP xs n))
def sumN (t g ys : Nat → Int) : Nat → Int
  | 0 => 0
  | n + 1 => sumN t g ys n + g n * ys n * t n
theorem ev_sum (xs g ys : List Int) (n : Nat) (x : Int) : ev (sumP xs g ys n) x = sumN (fun i => topN xs i x) (fun i => g.getD i 0) (fun i => ys.getD i 0) n := by
  induction n with
  | zero => rfl
  | succ n ih => rw [sumP, ev_add, ev_scale, ih, ev_top]; rfl
theorem len_sum (xs g ys : List Int) (n : Nat) (hn : n ≤ xs.length) : (sumP xs g ys n).length ≤ xs.length := by
  induction n with
  | zero => simp [sumP]
  | succ n ih =>
    rw [sumP, len_add, len_scale, len_top, List.length_eraseIdx_of_lt (by omega)]
    have := ih (by omega)
    omega
/-- Where all terms but one are 0. -/
theorem sumN_one {p : Int} (t g ys : Nat → Int) (n j : Nat) (hj : j < n) (h0 : ∀ i, i < n → i ≠ j → t i = 0) : sumN t g ys n = g j * ys j * t j := by
  induction n with
  | zero => omega
  | succ n ih =>
    rw [sumN]
    by_cases h : j = n
    · subst h
      have : ∀ m, m ≤ j → sumN t g ys m = 0 := by
        intro m hm
        induction m with
        | zero => rfl
        | succ m ihm => rw [sumN, ihm (by omega), h0 m (by omega) (by omega), Int.mul_zero, Int.add_zero]
      rw [this j (Nat.le_refl _), Int.zero_add]
    · rw [ih (by omega) (fun i hi hij => h0 i (by omega) hij), h0 n (by omega) (fun e => h e.symm), Int.mul_zero, Int.add_zero]

/-- LAGRANGE: g are the inverses of the products at their own places; then the sum at any place is the polynomial's value there. -/
theorem lagrange {p : Int} (hp : Prim p) {xs g ys l : List Int} (ha : Apart p xs) (hl : l.length ≤ xs.length) (hg : ∀ (i : Nat) (x : Int), xs[i]? = some x → Cg p (g.getD i 0 * topN xs i x) 1)
    (hy : ∀ (i : Nat) (x : Int), xs[i]? = some x → Cg p (ys.getD i 0) (ev l x)) (at_ : Int) :
    Cg p (sumN (fun i => topN xs i at_) (fun i => g.getD i 0) (fun i => ys.getD i 0) xs.length) (ev l at_) := by
  have h := roots hp xs (addP (sumP xs g ys xs.length) (scaleP (-1) l)) (by
    rw [len_add, len_scale]
    have := len_sum xs g ys xs.length (Nat.le_refl _)
    omega) ha (fun x hx => by
      obtain ⟨j, hj⟩ := List.mem_iff_getElem?.1 hx
      have hjl := (List.getElem?_eq_some_iff.1 hj).1
      rw [ev_add, ev_scale, ev_sum, sumN_one (p := p) _ _ _ xs.length j hjl (fun i hi hij => top_other hj (fun e => hij e.symm))]
      have h1 : Cg p (g.getD j 0 * ys.getD j 0 * topN xs j x) (ev l x) := by
        have h2 := (hg j x hj).mul (hy j x hj)
        rw [Int.one_mul] at h2
        refine Cg.trans (Cg.of_eq ?_) h2
        rw [Int.mul_assoc, Int.mul_assoc, Int.mul_comm (ys.getD j 0)]
      have := h1
      unfold Cg at this
      rwa [show g.getD j 0 * ys.getD j 0 * topN xs j x + -1 * ev l x = g.getD j 0 * ys.getD j 0 * topN xs j x - ev l x by omega]) at_
  rw [ev_add, ev_scale, ev_sum] at h
  unfold Cg
  rwa [show ∀ a b : Int, a + -1 * b = a - b from fun a b => by omega] at h
end Go.Proofs.YtdgmnhiffoemmaaDoor
/-
  Numbers as rows of parts of 64 bits, in plain words. No statement of a claim stands here; each lemma names what it asks.
-/
namespace Go.Proofs.YtdgmnhiffoemmaaDoor

/-- 2 to the 64. -/
def BB : Nat := 18446744073709551616
theorem BB_pos : 0 < BB := by decide
/-- A row's number; the lowest part comes first. -/
def val : List Nat → Nat
  | [] => 0
  | x :: l => x + BB * val l
/-- The k lowest parts of a number. -/
def parts (n : Nat) : Nat → List Nat
  | 0 => []
  | k + 1 => (n % BB) :: parts (n / BB) k
/-- All parts are parts. -/
def Small (l : List Nat) : Prop := ∀ x ∈ l, x < BB

theorem parts_len (n k : Nat) : (parts n k).length = k := by
  induction k generalizing n with
  | zero => rfl
  | succ k ih => simp [parts, ih]
theorem parts_small (n k : Nat) : Small (parts n k) := by
  induction k generalizing n with
  | zero => intro x h; cases h
  | succ k ih =>
    intro x h
    rcases List.mem_cons.1 h with rfl | h
    · exact Nat.mod_lt _ (by decide)
    · exact ih _ x h
theorem val_lt {l : List Nat} (h : Small l) : val l < BB ^ l.length := by
  induction l with
  | nil => simp [val]
  | cons x l ih =>
    have h1 := h x (.head _)
    have h2 := ih (fun y hy => h y (.tail _ hy))
    rw [val, List.length_cons, Nat.pow_succ, Nat.mul_comm]
    have : BB * val l + BB ≤ BB * BB ^ l.length := by
      rw [← Nat.mul_succ]
      exact Nat.mul_le_mul_left _ h2
    rw [Nat.mul_comm (BB ^ l.length), Nat.mul_comm (val l)]
    omega
theorem val_parts (n k : Nat) : val (parts n k) = n % BB ^ k := by
  induction k generalizing n with
  | zero => simp [parts, val, Nat.mod_one]
  | succ k ih =>
    rw [parts, val, ih, Nat.pow_succ, Nat.mul_comm (BB ^ k), Nat.mod_mul]
theorem parts_val {l : List Nat} (h : Small l) : parts (val l) l.length = l := by
  induction l with
  | nil => rfl
  | cons x l ih =>
    have h1 := h x (.head _)
    have h2 := ih (fun y hy => h y (.tail _ hy))
    rw [val, List.length_cons, parts]
    have e1 : (x + BB * val l) % BB = x := by rw [Nat.add_mul_mod_self_left, Nat.mod_eq_of_lt h1]
    have e2 : (x + BB * val l) / BB = val l := by rw [Nat.add_mul_div_left _ _ (by decide), Nat.div_eq_of_lt h1, Nat.zero_add]
    rw [e1, e2, h2]
theorem val_inj {l m : List Nat} (hl : Small l) (hm : Small m) (hlen : l.length = m.length) (h : val l = val m) : l = m := by
  rw [← parts_val hl, ← parts_val hm, h, hlen]
theorem val_append (l m : List Nat) : val (l ++ m) = val l + BB ^ l.length * val m := by
  induction l with
  | nil => simp [val]
  | cons x l ih =>
    rw [List.cons_append, val, val, ih, List.length_cons, Nat.pow_succ, Nat.mul_add, Nat.mul_comm (BB ^ l.length) BB, Nat.mul_assoc]
    omega
theorem val_zeros (k : Nat) : val (List.replicate k 0) = 0 := by
  induction k with
  | zero => rfl
  | succ k ih => rw [List.replicate_succ, val, ih]; rfl
theorem val_set {l : List Nat} {t x y : Nat} (h : l[t]? = some y) : val (l.set t x) + y * BB ^ t = val l + x * BB ^ t := by
  induction l generalizing t with
  | nil => simp at h
  | cons z l ih =>
    cases t with
    | zero =>
      simp at h
      subst h
      rw [List.set_cons_zero, val, val, Nat.pow_zero]
      omega
    | succ t =>
      have h2 := ih (t := t) (by simpa using h)
      rw [List.set_cons_succ, val, val, Nat.pow_succ]
      have h3 : BB * (val (l.set t x) + y * BB ^ t) = BB * (val l + x * BB ^ t) := by rw [h2]
      rw [Nat.mul_add, Nat.mul_add] at h3
      have e1 : y * (BB ^ t * BB) = BB * (y * BB ^ t) := by rw [← Nat.mul_assoc, Nat.mul_comm]
      have e2 : x * (BB ^ t * BB) = BB * (x * BB ^ t) := by rw [← Nat.mul_assoc, Nat.mul_comm]
      rw [e1, e2]
      omega
theorem Small.set {l : List Nat} (h : Small l) (t : Nat) {x : Nat} (hx : x < BB) : Small (l.set t x) := by
  intro y hy
  rcases List.mem_or_eq_of_mem_set hy with h1 | h1
  · exact h y h1
  · rw [h1]; exact hx
theorem Small.append {l m : List Nat} (h : Small l) (k : Small m) : Small (l ++ m) := by
  intro x hx
  rcases List.mem_append.1 hx with hx | hx
  · exact h x hx
  · exact k x hx
theorem Small.take {l : List Nat} (h : Small l) (k : Nat) : Small (l.take k) := fun x hx => h x (List.mem_of_mem_take hx)
theorem Small.drop {l : List Nat} (h : Small l) (k : Nat) : Small (l.drop k) := fun x hx => h x (List.mem_of_mem_drop hx)
theorem Small.get {l : List Nat} (h : Small l) {i x : Nat} (hx : l[i]? = some x) : x < BB := h x (List.mem_of_getElem? hx)
theorem Small.zeros (k : Nat) : Small (List.replicate k 0) := fun x hx => by rw [(List.mem_replicate.1 hx).2]; decide

/-! ### rows added, and taken away -/
def addC : List Nat → List Nat → Nat → List Nat × Nat
  | x :: a, y :: b, c => (((x + y + c) % BB) :: (addC a b ((x + y + c) / BB)).1, (addC a b ((x + y + c) / BB)).2)
  | _, _, c => ([], c)
def subC : List Nat → List Nat → Nat → List Nat × Nat
  | x :: a, y :: b, c => (((x + BB - y - c) % BB) :: (subC a b (if x < y + c then 1 else 0)).1, (subC a b (if x < y + c then 1 else 0)).2)
  | _, _, c => ([], c)
theorem addC_val : ∀ (a b : List Nat) (c : Nat), a.length = b.length → val (addC a b c).1 + BB ^ a.length * (addC a b c).2 = val a + val b + c
  | [], [], c, _ => by simp [addC, val]
  | [], _ :: _, _, h => by simp at h
  | _ :: _, [], _, h => by simp at h
  | x :: a, y :: b, c, h => by
    have ih := addC_val a b ((x + y + c) / BB) (by simpa using h)
    simp only [addC, val, List.length_cons, Nat.pow_succ]
    have e : BB * (val (addC a b ((x + y + c) / BB)).1 + BB ^ a.length * (addC a b ((x + y + c) / BB)).2) = BB * (val a + val b + (x + y + c) / BB) := by rw [ih]
    rw [Nat.mul_add, Nat.mul_add, Nat.mul_add, ← Nat.mul_assoc] at e
    rw [Nat.mul_comm (BB ^ a.length) BB]
    have := Nat.div_add_mod (x + y + c) BB
    omega
theorem addC_carry : ∀ (a b : List Nat) (c : Nat), Small a → Small b → c ≤ 1 → (addC a b c).2 ≤ 1
  | [], [], c, _, _, h => h
  | [], _ :: _, _, _, _, h => h
  | _ :: _, [], _, _, _, h => h
  | x :: a, y :: b, c, ha, hb, h => by
    have h1 := ha x (.head _)
    have h2 := hb y (.head _)
    exact addC_carry a b _ (fun z hz => ha z (.tail _ hz)) (fun z hz => hb z (.tail _ hz)) (by unfold BB at *; omega)
theorem addC_small : ∀ (a b : List Nat) (c : Nat), Small (addC a b c).1
  | [], [], _ => fun _ h => by cases h
  | [], _ :: _, _ => fun _ h => by cases h
  | _ :: _, [], _ => fun _ h => by cases h
  | x :: a, y :: b, c => fun z hz => by
    rcases List.mem_cons.1 hz with rfl | hz
    · exact Nat.mod_lt _ (by decide)
    · exact addC_small a b _ z hz
theorem addC_len : ∀ (a b : List Nat) (c : Nat), a.length = b.length → (addC a b c).1.length = a.length
  | [], [], _, _ => rfl
  | [], _ :: _, _, h => by simp at h
  | _ :: _, [], _, h => by simp at h
  | x :: a, y :: b, c, h => by simp [addC, addC_len a b _ (by simpa using h)]
theorem subC_val : ∀ (a b : List Nat) (c : Nat), a.length = b.length → Small a → Small b → c ≤ 1 → val (subC a b c).1 + val b + c = val a + BB ^ a.length * (subC a b c).2
  | [], [], c, _, _, _, _ => by simp [subC, val]
  | [], _ :: _, _, h, _, _, _ => by simp at h
  | _ :: _, [], _, h, _, _, _ => by simp at h
  | x :: a, y :: b, c, h, ha, hb, hc => by
    have h1 := ha x (.head _)
    have h2 := hb y (.head _)
    have ih := subC_val a b (if x < y + c then 1 else 0) (by simpa using h) (fun z hz => ha z (.tail _ hz)) (fun z hz => hb z (.tail _ hz)) (by split <;> omega)
    simp only [subC, val, List.length_cons, Nat.pow_succ]
    have e : BB * (val (subC a b (if x < y + c then 1 else 0)).1 + val b + (if x < y + c then 1 else 0)) = BB * (val a + BB ^ a.length * (subC a b (if x < y + c then 1 else 0)).2) := by rw [ih]
    rw [Nat.mul_add, Nat.mul_add, Nat.mul_add, ← Nat.mul_assoc] at e
    rw [Nat.mul_comm (BB ^ a.length) BB]
    by_cases hlt : x < y + c
    · rw [if_pos hlt] at e ⊢
      generalize subC a b 1 = r at *
      have hm : (x + BB - y - c) % BB = x + BB - y - c := Nat.mod_eq_of_lt (by omega)
      rw [hm]
      omega
    · rw [if_neg hlt] at e ⊢
      generalize subC a b 0 = r at *
      have hm : (x + BB - y - c) % BB = x - y - c := by
        rw [show x + BB - y - c = x - y - c + BB from by omega, Nat.add_mod_right]
        exact Nat.mod_eq_of_lt (by omega)
      rw [hm]
      omega
theorem subC_borrow : ∀ (a b : List Nat) (c : Nat), c ≤ 1 → (subC a b c).2 ≤ 1
  | [], [], c, h => h
  | [], _ :: _, _, h => h
  | _ :: _, [], _, h => h
  | x :: a, y :: b, c, h => subC_borrow a b _ (by split <;> omega)
theorem subC_small : ∀ (a b : List Nat) (c : Nat), Small (subC a b c).1
  | [], [], _ => fun _ h => by cases h
  | [], _ :: _, _ => fun _ h => by cases h
  | _ :: _, [], _ => fun _ h => by cases h
  | x :: a, y :: b, c => fun z hz => by
    rcases List.mem_cons.1 hz with rfl | hz
    · exact Nat.mod_lt _ (by decide)
    · exact subC_small a b _ z hz
theorem subC_len : ∀ (a b : List Nat) (c : Nat), a.length = b.length → (subC a b c).1.length = a.length
  | [], [], _, _ => rfl
  | [], _ :: _, _, h => by simp at h
  | _ :: _, [], _, h => by simp at h
  | x :: a, y :: b, c, h => by simp [subC, subC_len a b _ (by simpa using h)]
end Go.Proofs.YtdgmnhiffoemmaaDoor
/-
  A row's multiple taken away from a row, and given back: what a step of the division by parts does, in plain words. No statement of a claim stands here; each lemma names what it asks.
-/
namespace Go.Proofs.YtdgmnhiffoemmaaDoor

/-- q times m is taken away from l, which has one part more: the carry c, the borrow b. -/
def takeC : List Nat → List Nat → Nat → Nat → Nat → List Nat × Nat
  | y :: l, x :: m, q, c, b => (((y + BB - (q * x + c) % BB - b) % BB) :: (takeC l m q ((q * x + c) / BB) (if y < (q * x + c) % BB + b then 1 else 0)).1, (takeC l m q ((q * x + c) / BB) (if y < (q * x + c) % BB + b then 1 else 0)).2)
  | y :: l, [], _, c, b => (((y + BB - c - b) % BB) :: l, if y < c + b then 1 else 0)
  | [], _, _, _, b => ([], b)

theorem sub_part {y t b : Nat} (hy : y < BB) (ht : t < BB) (hb : b ≤ 1) : (y + BB - t - b) % BB + t + b = y + BB * (if y < t + b then 1 else 0) := by
  by_cases h : y < t + b
  · rw [if_pos h, Nat.mod_eq_of_lt (by omega)]
    omega
  · rw [if_neg h, show y + BB - t - b = y - t - b + BB from by omega, Nat.add_mod_right, Nat.mod_eq_of_lt (by omega)]
    omega
theorem carry_lt {q x c : Nat} (hq : q < BB) (hx : x < BB) (hc : c < BB) : (q * x + c) / BB < BB := by
  rw [Nat.div_lt_iff_lt_mul BB_pos]
  have h1 : q * x ≤ (BB - 1) * (BB - 1) := Nat.mul_le_mul (by omega) (by omega)
  have h2 : (BB - 1) * (BB - 1) + (BB - 1) < BB * BB := by decide
  omega

theorem takeC_val : ∀ (l m : List Nat) (q c b : Nat), l.length = m.length + 1 → Small l → Small m → q < BB → c < BB → b ≤ 1 →
    val (takeC l m q c b).1 + q * val m + c + b = val l + BB ^ l.length * (takeC l m q c b).2 ∧ (takeC l m q c b).1.length = l.length ∧ Small (takeC l m q c b).1 ∧ (takeC l m q c b).2 ≤ 1
  | [], m, q, c, b, h, _, _, _, _, _ => by simp at h
  | [y], [], q, c, b, h, hl, _, hq, hc, hb => by
    have hy := hl y (.head _)
    have h1 := sub_part hy hc hb
    have e : takeC [y] [] q c b = ([(y + BB - c - b) % BB], if y < c + b then 1 else 0) := by rw [takeC]
    have e1 : BB ^ [y].length = BB := Nat.pow_one BB
    have e2 : ∀ z, val [z] = z := fun z => by rw [val, val, Nat.mul_zero, Nat.add_zero]
    have e3 : val [] = 0 := rfl
    rw [e, e1]
    dsimp only
    rw [e2, e2, e3, Nat.mul_zero, Nat.add_zero]
    have h3 : (if y < c + b then 1 else 0) ≤ 1 := by split <;> decide
    generalize (if y < c + b then 1 else 0) = v at *
    generalize hz : (y + BB - c - b) % BB = z at *
    refine ⟨by omega, by simp only [List.length_cons], ?_, h3⟩
    intro x hx
    rw [List.mem_singleton.1 hx, ← hz]
    exact Nat.mod_lt _ BB_pos
  | _ :: _ :: _, [], q, c, b, h, _, _, _, _, _ => by simp at h
  | y :: l, x :: m, q, c, b, h, hl, hm, hq, hc, hb => by
    have hy := hl y (.head _)
    have hx := hm x (.head _)
    have hcc := carry_lt hq hx hc
    have hs := sub_part hy (Nat.mod_lt (q * x + c) BB_pos) hb
    have hd := Nat.div_add_mod (q * x + c) BB
    have ih := takeC_val l m q ((q * x + c) / BB) (if y < (q * x + c) % BB + b then 1 else 0) (by simpa using h) (fun z hz => hl z (.tail _ hz)) (fun z hz => hm z (.tail _ hz)) hq hcc (by split <;> omega)
    simp only [takeC]
    generalize takeC l m q ((q * x + c) / BB) (if y < (q * x + c) % BB + b then 1 else 0) = r at ih ⊢
    obtain ⟨ih1, ih2, ih3, ih4⟩ := ih
    refine ⟨?_, by simp [ih2], ?_, ih4⟩
    · simp only [val, List.length_cons, Nat.pow_succ]
      have e := congrArg (fun n => BB * n) ih1
      simp only [Nat.mul_add] at e
      have e1 : BB * (q * val m) = q * (BB * val m) := Nat.mul_left_comm _ _ _
      have e2 : BB * (BB ^ l.length * r.2) = BB ^ l.length * BB * r.2 := by rw [Nat.mul_comm (BB ^ l.length) BB, Nat.mul_assoc]
      rw [e1, e2] at e
      rw [Nat.mul_add]
      generalize (q * x + c) % BB = t at *
      generalize (q * x + c) / BB = u at *
      generalize (if y < t + b then 1 else 0) = v at *
      generalize (y + BB - t - b) % BB = z at *
      generalize BB ^ l.length * BB * r.2 = A at *
      generalize q * (BB * val m) = C at *
      generalize q * x = D at *
      omega
    · intro z hz
      rcases List.mem_cons.1 hz with rfl | hz
      · exact Nat.mod_lt _ BB_pos
      · exact ih3 z hz

/-- m is given back: the top part wraps. -/
def giveC (l m : List Nat) : List Nat := (addC (l.take m.length) m 0).1 ++ [((l.getD m.length 0) + (addC (l.take m.length) m 0).2) % BB]
theorem giveC_val {l m : List Nat} (h : l.length = m.length + 1) (hl : Small l) (hm : Small m) :
    (giveC l m).length = l.length ∧ Small (giveC l m) ∧ ∃ o, o ≤ 1 ∧ val (giveC l m) + BB ^ l.length * o = val l + val m ∧ (o = 0 ↔ l.getD m.length 0 ≤ (giveC l m).getD m.length 0) := by
  have hlt : (l.take m.length).length = m.length := by rw [List.length_take]; omega
  have hv := addC_val (l.take m.length) m 0 hlt
  have hc := addC_carry (l.take m.length) m 0 (hl.take _) hm (by omega)
  have hn := addC_len (l.take m.length) m 0 hlt
  have hsm := addC_small (l.take m.length) m 0
  obtain ⟨t, ht⟩ : ∃ t, l[m.length]? = some t := ⟨_, List.getElem?_eq_getElem (by omega)⟩
  have htb := hl.get ht
  have hg : l.getD m.length 0 = t := by rw [List.getD_eq_getElem?_getD, ht]; rfl
  have hl2 : l = l.take m.length ++ [t] := by
    have h1 := List.take_append_drop m.length l
    rw [List.drop_eq_getElem_cons (by omega), (List.getElem?_eq_some_iff.1 ht).2, List.drop_eq_nil_of_le (by omega)] at h1
    exact h1.symm
  have hvl : val l = val (l.take m.length) + BB ^ m.length * t := by
    conv => lhs; rw [hl2]
    rw [val_append, hlt]
    simp [val]
  unfold giveC
  rw [hg]
  generalize addC (l.take m.length) m 0 = r at *
  rw [hlt] at hv hn
  have hgg : (r.1 ++ [(t + r.2) % BB]).getD m.length 0 = (t + r.2) % BB := by
    rw [List.getD_eq_getElem?_getD, List.getElem?_append_right (by omega), hn]
    simp
  rw [hgg]
  refine ⟨by simp [hn, h], hsm.append (fun x hx => by rw [List.mem_singleton.1 hx]; exact Nat.mod_lt _ BB_pos), (t + r.2) / BB, ?_, ?_, ?_⟩
  · unfold BB at *; omega
  · rw [val_append, hn, hvl, h, Nat.pow_succ]
    simp only [val, Nat.mul_zero, Nat.add_zero]
    have hd := Nat.div_add_mod (t + r.2) BB
    have e := congrArg (fun n => BB ^ m.length * n) hd
    simp only [Nat.mul_add] at e
    rw [← Nat.mul_assoc] at e
    omega
  · unfold BB at *
    omega

/-- One step of the division: x, at least the quotient, is tried; while it is too much, the divisor is given back. -/
structure Tried (V D M x r o : Nat) : Prop where
  sum : r + x * D = V + M * o
  top : V / D ≤ x
  one : o ≤ 1
  lt : r < M
theorem Tried.more {V D M x r : Nat} (h : Tried V D M x r 1) (hD : 0 < D) : 1 ≤ x ∧ V / D ≤ x - 1 := by
  have h1 := h.sum
  have h2 := h.lt
  have h3 : V < x * D := by omega
  have h4 : V / D < x := (Nat.div_lt_iff_lt_mul hD).2 h3
  generalize V / D = e at *
  exact ⟨by omega, by omega⟩
theorem Tried.give {V D M x r r' o : Nat} (h : Tried V D M x r 1) (hD : 0 < D) (hs : r' + M * o = r + D) (ho : o ≤ 1) (hr : r' < M) : Tried V D M (x - 1) r' (1 - o) := by
  obtain ⟨h1, h2⟩ := h.more hD
  refine ⟨?_, h2, by omega, hr⟩
  have h3 := h.sum
  have h4 : x * D = (x - 1) * D + D := by
    obtain ⟨k, rfl⟩ : ∃ k, x = k + 1 := ⟨x - 1, by omega⟩
    rw [Nat.succ_mul, Nat.add_sub_cancel]
  have h5 : o = 0 ∨ o = 1 := by omega
  rcases h5 with rfl | rfl
  · simp at hs ⊢; omega
  · simp at hs ⊢; omega
theorem Tried.done {V D M x r : Nat} (h : Tried V D M x r 0) (hD : 0 < D) : x = V / D ∧ r = V % D := by
  have h1 := h.sum
  rw [Nat.mul_zero, Nat.add_zero] at h1
  have h2 : x ≤ V / D := (Nat.le_div_iff_mul_le hD).2 (by omega)
  have h3 := h.top
  have e : x = V / D := by omega
  refine ⟨e, ?_⟩
  have := Nat.div_add_mod V D
  rw [← e, Nat.mul_comm] at this
  omega

/-- The guess is at least the quotient. -/
theorem guess_le {V D h low t n u : Nat} (hV : V = u + BB ^ n * (low + BB * h)) (hu : u < BB ^ n) (hD : BB ^ n * t ≤ D) (ht : 0 < t) : V / D ≤ (h * BB + low) / t := by
  have hp : 0 < BB ^ n := Nat.pow_pos BB_pos
  have hD0 : 0 < D := Nat.lt_of_lt_of_le (Nat.mul_pos hp ht) hD
  rw [Nat.le_div_iff_mul_le ht]
  have h1 : V / D * (BB ^ n * t) ≤ V := Nat.le_trans (Nat.mul_le_mul_left _ hD) (Nat.div_mul_le_self _ _)
  have h2 : BB ^ n * (V / D * t) < BB ^ n * (low + BB * h + 1) := by
    rw [← Nat.mul_left_comm, Nat.mul_add]
    omega
  have h3 := Nat.lt_of_mul_lt_mul_left h2
  rw [Nat.mul_comm h]
  omega
end Go.Proofs.YtdgmnhiffoemmaaDoor
/-
  Products, quotients and shifts of rows of parts, step by step as loops take them; in plain words. No statement of a claim stands here; each lemma names what it asks.
-/
namespace Go.Proofs.YtdgmnhiffoemmaaDoor

theorem val_take_succ {m : List Nat} {i x : Nat} (hx : m[i]? = some x) : val (m.take (i + 1)) = val (m.take i) + x * BB ^ i := by
  have hi := (List.getElem?_eq_some_iff.1 hx).1
  rw [List.take_add_one, hx, val_append, List.length_take, Nat.min_eq_left (by omega)]
  have : val (some x).toList = x := by
    show val [x] = x
    rw [val, val, Nat.mul_zero, Nat.add_zero]
  rw [this, Nat.mul_comm]
theorem mul_pow (a i : Nat) : a * BB ^ (i + 1) = (BB * a) * BB ^ i := by
  rw [Nat.pow_succ, Nat.mul_comm BB a, Nat.mul_assoc, Nat.mul_comm BB]

/-- A product's inner step. -/
theorem mul_step {W b : List Nat} {a i k x y c V : Nat} (hx : W[i + k]? = some x) (hy : b[k]? = some y) (h : val W + c * BB ^ (i + k) = V + a * val (b.take k) * BB ^ i) :
    val (W.set (i + k) ((a * y + x + c) % BB)) + (a * y + x + c) / BB * BB ^ (i + k + 1) = V + a * val (b.take (k + 1)) * BB ^ i := by
  have h1 := val_set (x := (a * y + x + c) % BB) hx
  have hd := Nat.div_add_mod (a * y + x + c) BB
  rw [val_take_succ hy, mul_pow]
  have e1 : a * (val (b.take k) + y * BB ^ k) * BB ^ i = a * val (b.take k) * BB ^ i + a * y * BB ^ (i + k) := by
    rw [Nat.mul_add, Nat.add_mul, Nat.pow_add, Nat.mul_comm (BB ^ i), ← Nat.mul_assoc, ← Nat.mul_assoc]
  rw [e1]
  have e2 := congrArg (fun n => n * BB ^ (i + k)) hd
  simp only [Nat.add_mul] at e2
  generalize a * y * BB ^ (i + k) = A at *
  generalize a * val (b.take k) * BB ^ i = C at *
  omega
/-- A product's row's end. -/
theorem mul_end {W : List Nat} {i c V n : Nat} (hx : W[i + n]? = some 0) (h : val W + c * BB ^ (i + n) = V) : val (W.set (i + n) c) = V := by
  have h1 := val_set (x := c) hx
  rw [Nat.zero_mul] at h1
  omega
theorem mul_carry {a x y c : Nat} (ha : a < BB) (hy : y < BB) (hx : x < BB) (hc : c < BB) : (a * y + x + c) / BB < BB := by
  rw [Nat.div_lt_iff_lt_mul BB_pos]
  have h1 : a * y ≤ (BB - 1) * (BB - 1) := Nat.mul_le_mul (by omega) (by omega)
  have h2 : (BB - 1) * (BB - 1) + (BB - 1) + (BB - 1) < BB * BB := by decide
  omega

/-- A taking away's step. -/
theorem take_step {L m : List Nat} {i y x q c b V : Nat} (hy : L[i]? = some y) (hyb : y < BB) (hx : m[i]? = some x) (hb : b ≤ 1) (h : val L + q * val (m.take i) = V + (c + b) * BB ^ i) :
    val (L.set i ((y + BB - (q * x + c) % BB - b) % BB)) + q * val (m.take (i + 1)) = V + ((q * x + c) / BB + if y < (q * x + c) % BB + b then 1 else 0) * BB ^ (i + 1) := by
  have h1 := val_set (x := (y + BB - (q * x + c) % BB - b) % BB) hy
  have hs := sub_part hyb (Nat.mod_lt (q * x + c) BB_pos) hb
  have hd := Nat.div_add_mod (q * x + c) BB
  rw [val_take_succ hx, mul_pow, Nat.mul_add, ← Nat.mul_assoc]
  have e1 := congrArg (fun n => n * BB ^ i) hs
  have e2 := congrArg (fun n => n * BB ^ i) hd
  simp only [Nat.add_mul] at e1 e2 h
  rw [Nat.mul_add, Nat.add_mul]
  generalize (y + BB - (q * x + c) % BB - b) % BB = z at *
  generalize (if y < (q * x + c) % BB + b then 1 else 0) = v at *
  generalize (q * x + c) % BB = t at *
  generalize (q * x + c) / BB = u at *
  generalize q * x * BB ^ i = A at *
  generalize q * val (m.take i) = C at *
  omega
/-- A taking away's end. -/
theorem take_end {L m : List Nat} {y q c b V : Nat} (hy : L[m.length]? = some y) (hyb : y < BB) (hc : c < BB) (hb : b ≤ 1) (h : val L + q * val m = V + (c + b) * BB ^ m.length) :
    val (L.set m.length ((y + BB - c - b) % BB)) + q * val m = V + (if y < c + b then 1 else 0) * BB ^ (m.length + 1) := by
  have h1 := val_set (x := (y + BB - c - b) % BB) hy
  have hs := sub_part hyb hc hb
  rw [mul_pow]
  have e1 := congrArg (fun n => n * BB ^ m.length) hs
  simp only [Nat.add_mul] at e1 h
  generalize (y + BB - c - b) % BB = z at *
  generalize (if y < c + b then 1 else 0) = v at *
  omega

/-- One place of a quotient: behind it, the rest is less than the divisor, at that place. -/
theorem place {N D Q U V low i : Nat} (hD : 0 < D) (hU : U = low + BB ^ i * V) (hl : low < BB ^ i) (hN : N = D * (Q * BB ^ (i + 1)) + U) :
    N = D * ((Q * BB + V / D) * BB ^ i) + (low + BB ^ i * (V % D)) ∧ low + BB ^ i * (V % D) < D * BB ^ i := by
  have h1 := Nat.div_add_mod V D
  have h2 := Nat.mod_lt V hD
  constructor
  · rw [hN, hU, Nat.add_mul, Nat.mul_add]
    have e1 : Q * BB ^ (i + 1) = Q * BB * BB ^ i := by rw [Nat.pow_succ, Nat.mul_assoc, Nat.mul_comm BB]
    have e2 : D * (V / D * BB ^ i) + BB ^ i * (V % D) = BB ^ i * V := by
      rw [← Nat.mul_assoc, Nat.mul_comm _ (BB ^ i), ← Nat.mul_add, h1]
    rw [e1]
    omega
  · have : BB ^ i * (V % D) + BB ^ i ≤ BB ^ i * D := by
      rw [← Nat.mul_succ]
      exact Nat.mul_le_mul_left _ h2
    rw [Nat.mul_comm D]
    omega
/-- The highest part of what is to be divided is less than the divisor, at each place. -/
theorem place_lt {D U V low i : Nat} (hU : U = low + BB ^ i * V) (h : U < D * BB ^ (i + 1)) : V < D * BB := by
  have h1 : BB ^ i * V < BB ^ i * (D * BB) := by
    rw [Nat.pow_succ, ← Nat.mul_assoc, Nat.mul_comm (D * BB ^ i), ← Nat.mul_assoc, Nat.mul_comm BB D] at h
    rw [Nat.mul_comm (BB ^ i) (D * BB)]
    omega
  exact Nat.lt_of_mul_lt_mul_left h1
end Go.Proofs.YtdgmnhiffoemmaaDoor
/-
  The prime of the chapter's statements; inverses. No statement of a claim stands here; each lemma names what it asks.
-/
namespace Go.Proofs.YtdgmnhiffoemmaaDoor

/-- None of the 2^k numbers from lo on, but 0 and 1, divides p. -/
def noneIn (p : Nat) : Nat → Nat → Bool
  | 0, lo => Nat.ble lo 1 || !(Nat.beq (p % lo) 0)
  | k + 1, lo => noneIn p k lo && noneIn p k (lo + 2 ^ k)
theorem noneIn_spec (p : Nat) : ∀ (k lo : Nat), noneIn p k lo = true → ∀ d, lo ≤ d → d < lo + 2 ^ k → 2 ≤ d → ¬ d ∣ p
  | 0, lo, h, d, h1, h2, h3 => by
    have e : d = lo := by rw [Nat.pow_zero] at h2; omega
    subst e
    rw [noneIn, Bool.or_eq_true] at h
    rcases h with h | h
    · have := Nat.le_of_ble_eq_true h
      omega
    · intro hd
      rw [Nat.mod_eq_zero_of_dvd hd] at h
      cases h
  | k + 1, lo, h, d, h1, h2, h3 => by
    rw [noneIn, Bool.and_eq_true] at h
    rw [Nat.pow_succ] at h2
    by_cases hd : d < lo + 2 ^ k
    · exact noneIn_spec p k lo h.1 d h1 hd h3
    · exact noneIn_spec p k (lo + 2 ^ k) h.2 d (by omega) (by omega) h3

/-- Without a divisor up to its root, a number has none but 1 and itself. -/
theorem only_two {p k : Nat} (h : noneIn p k 0 = true) (hk : p < 2 ^ k * 2 ^ k) (hp : 1 < p) : ∀ d, d ∣ p → d = 1 ∨ d = p := by
  intro d hd
  obtain ⟨e, he⟩ := hd
  have h0 := noneIn_spec p k 0 h
  by_cases h1 : d < 2 ^ k
  · by_cases h2 : 2 ≤ d
    · exact absurd ⟨e, he⟩ (h0 d (Nat.zero_le _) (by omega) h2)
    · left
      have : d ≠ 0 := by rintro rfl; rw [Nat.zero_mul] at he; omega
      omega
  · by_cases h3 : e < 2 ^ k
    · by_cases h2 : 2 ≤ e
      · exact absurd ⟨d, by rw [he, Nat.mul_comm]⟩ (h0 e (Nat.zero_le _) (by omega) h2)
      · right
        have : e ≠ 0 := by rintro rfl; rw [Nat.mul_zero] at he; omega
        have : e = 1 := by omega
        rw [he, this, Nat.mul_one]
    · have : 2 ^ k * 2 ^ k ≤ d * e := Nat.mul_le_mul (by omega) (by omega)
      omega

theorem prim_of {p : Nat} (hp : 1 < p) (h : ∀ d, d ∣ p → d = 1 ∨ d = p) : Prim (p : Int) where
  two := by omega
  split a b hab := by
    have h1 : p ∣ a.natAbs * b.natAbs := by
      rw [← Int.natAbs_mul]
      exact Int.ofNat_dvd_left.1 hab
    rcases h _ (Nat.gcd_dvd_left p a.natAbs) with h2 | h2
    · right
      exact Int.ofNat_dvd_left.2 (Nat.Coprime.dvd_of_dvd_mul_left h2 h1)
    · left
      have h3 := Nat.gcd_dvd_right p a.natAbs
      rw [h2] at h3
      exact Int.ofNat_dvd_left.2 h3

/-- The chapter's prime. -/
def order : Nat := 581039633
set_option maxRecDepth 100000 in
theorem order_prim : Prim (order : Int) :=
  prim_of (by decide) (only_two (k := 15) (by decide +kernel) (by decide) (by decide))

/-- Nothing but multiples of a prime shares a divisor with it. -/
theorem gcd_prim {p a : Nat} (h : ∀ d, d ∣ p → d = 1 ∨ d = p) (ha : ¬ p ∣ a) : Nat.gcd a p = 1 := by
  rcases h _ (Nat.gcd_dvd_right a p) with h1 | h1
  · exact h1
  · exact absurd (h1 ▸ Nat.gcd_dvd_left a p) ha
theorem order_two : ∀ d, d ∣ order → d = 1 ∨ d = order := only_two (k := 15) (by decide +kernel) (by decide) (by decide)
end Go.Proofs.YtdgmnhiffoemmaaDoor
/-
  The quotient of two parts by one, as bits.Div64 finds it: half by half; in plain words. No statement of a claim stands here; each lemma names what it asks.
-/
namespace Go.Proofs.YtdgmnhiffoemmaaDoor

/-- A half's quotient is looked for: q is at least it, r is what is left of u by the divisor's upper half alone. b is 2 to the 32; y = h * b + l is the divisor, u < y what is divided, d the next half. -/
structure Half (h l u d q r : Nat) : Prop where
  sum : q * h + r = u
  top : (u * 4294967296 + d) / (h * 4294967296 + l) ≤ q

section
variable {h l u d q r : Nat}
theorem half_start (hh : 2147483648 ≤ h) (hl : l < 4294967296) (hd : d < 4294967296) (hu : u < h * 4294967296 + l) : Half h l u d (u / h) (u - u / h * h) ∧ u / h ≤ 4294967297 ∧ u - u / h * h < h := by
  have h1 := Nat.div_add_mod u h
  have h2 := Nat.mod_lt u (show h > 0 by omega)
  rw [Nat.mul_comm] at h1
  refine ⟨⟨by omega, ?_⟩, ?_, by omega⟩
  · -- what the whole divisor goes into u so often, its upper half does too
    have h0 : 0 < h * 4294967296 + l := by omega
    rw [Nat.le_div_iff_mul_le (by omega)]
    have h3 := Nat.div_mul_le_self (u * 4294967296 + d) (h * 4294967296 + l)
    generalize (u * 4294967296 + d) / (h * 4294967296 + l) = e at *
    rw [Nat.mul_add, ← Nat.mul_assoc] at h3
    generalize e * h = f at *
    generalize e * l = g at *
    omega
  · have h3 : u / h < 4294967298 := by
      rw [Nat.div_lt_iff_lt_mul (by omega)]
      omega
    omega
/-- The test says that q is too great. -/
theorem Half.more (k : Half h l u d q r) (hl : l < 4294967296) (hd : d < 4294967296) (hu : u < h * 4294967296 + l) (ht : 4294967296 ≤ q ∨ 4294967296 * r + d < q * l) : 1 ≤ q ∧ Half h l u d (q - 1) (r + h) := by
  have h0 : 0 < h * 4294967296 + l := by omega
  have h1 : (u * 4294967296 + d) / (h * 4294967296 + l) < q := by
    rcases ht with ht | ht
    · refine Nat.lt_of_lt_of_le ?_ ht
      rw [Nat.div_lt_iff_lt_mul h0]
      omega
    · rw [Nat.div_lt_iff_lt_mul h0, Nat.mul_add, ← Nat.mul_assoc]
      have := k.sum
      generalize q * h = f at *
      generalize q * l = g at *
      omega
  generalize he : (u * 4294967296 + d) / (h * 4294967296 + l) = e at *
  obtain ⟨q', rfl⟩ : ∃ q', q = q' + 1 := ⟨q - 1, by omega⟩
  refine ⟨by omega, ⟨?_, by omega⟩⟩
  have := k.sum
  rw [Nat.succ_mul] at this
  rw [Nat.add_sub_cancel]
  omega
/-- The test says that it is not. -/
theorem Half.done (k : Half h l u d q r) (hl : l < 4294967296) (hh : 0 < h) (ht : ¬ (4294967296 ≤ q ∨ 4294967296 * r + d < q * l)) : q = (u * 4294967296 + d) / (h * 4294967296 + l) := by
  have h1 : q ≤ (u * 4294967296 + d) / (h * 4294967296 + l) := by
    rw [Nat.le_div_iff_mul_le (by omega), Nat.mul_add, ← Nat.mul_assoc]
    have := k.sum
    generalize q * h = f at *
    generalize q * l = g at *
    omega
  exact Nat.le_antisymm h1 k.top
/-- Where the rest is no half any more, the test need not be asked. -/
theorem Half.out (k : Half h l u d q r) (hl : l < 4294967296) (hh : 0 < h) (hq : q ≤ 4294967296) (hr : 4294967296 ≤ r) : q = (u * 4294967296 + d) / (h * 4294967296 + l) := by
  have h1 : q ≤ (u * 4294967296 + d) / (h * 4294967296 + l) := by
    rw [Nat.le_div_iff_mul_le (by omega), Nat.mul_add, ← Nat.mul_assoc]
    have := k.sum
    have h2 : q * l ≤ 4294967296 * 4294967295 := Nat.mul_le_mul hq (by omega)
    generalize q * h = f at *
    generalize q * l = g at *
    omega
  exact Nat.le_antisymm h1 k.top
end

/-- Two halves make the whole. -/
theorem halves {y n d0 b : Nat} (hy : 0 < y) : (n * b + d0) / y = n / y * b + (n % y * b + d0) / y := by
  have h1 := Nat.div_add_mod n y
  have e2 : y * (n / y * b) = y * (n / y) * b := (Nat.mul_assoc _ _ _).symm
  have e3 : n * b = y * (n / y) * b + n % y * b := by rw [← Nat.add_mul, h1]
  have e : n * b + d0 = (n % y * b + d0) + y * (n / y * b) := by omega
  rw [e, Nat.add_mul_div_left _ _ hy, Nat.add_comm]
/-- A shifted divisor has the same quotient. -/
theorem shifted {n y s : Nat} : (n * 2 ^ s) / (y * 2 ^ s) = n / y := Nat.mul_div_mul_right n y (Nat.pow_pos (by decide))
end Go.Proofs.YtdgmnhiffoemmaaDoor
/-
  Inverses by Euclid's steps; products without one, factor by factor; in plain words. No statement of a claim stands here; each lemma names what it asks.
-/
namespace Go.Proofs.YtdgmnhiffoemmaaDoor

/-- One step: what is left, and what of a it is. -/
theorem inv_step {m a xn xo yn yo q r p f : Int} (h1 : Cg m (xo * a) xn) (h2 : Cg m (yo * a) yn) (hq : xn = yn * q + r) (hp : Cg m p (q * yo)) (hf : Cg m f (xo - p)) : Cg m (f * a) r := by
  have e1 : Cg m (f * a) (xo * a - q * yo * a) := by
    rw [← Int.sub_mul]
    exact (hf.trans ((Cg.refl m xo).sub hp)).mul (Cg.refl m a)
  have e2 : Cg m (xo * a - q * yo * a) (xn - q * yn) := by
    rw [Int.mul_assoc]
    exact h1.sub ((Cg.refl m q).mul h2)
  refine (e1.trans e2).trans (Cg.of_eq ?_)
  rw [hq, Int.mul_comm yn q]
  omega

/-- The product of x - r over a row. -/
def prodL (x : Int) (l : List Int) : Int := l.foldr (fun r a => (x - r) * a) 1
theorem prodL_nil (x : Int) : prodL x [] = 1 := rfl
theorem prodL_snoc (x r : Int) (l : List Int) : prodL x (l ++ [r]) = prodL x l * (x - r) := by
  induction l with
  | nil => simp [prodL]
  | cons y l ih =>
    show (x - y) * prodL x (l ++ [r]) = (x - y) * prodL x l * (x - r)
    rw [ih, Int.mul_assoc]
theorem topN_prod (xs : List Int) (i : Nat) (x : Int) : topN xs i x = prodL x (xs.eraseIdx i) := rfl

/-- The product over the first k of a row, but the i-th. -/
def runN (xs : List Int) (i : Nat) (x : Int) (k : Nat) : Int := prodL x ((xs.take k).eraseIdx i)
theorem runN_zero (xs : List Int) (i : Nat) (x : Int) : runN xs i x 0 = 1 := rfl
theorem runN_all (xs : List Int) (i : Nat) (x : Int) : runN xs i x xs.length = topN xs i x := by unfold runN; rw [List.take_length]; rfl
theorem runN_skip {xs : List Int} {i : Nat} {x r : Int} (hr : xs[i]? = some r) : runN xs i x (i + 1) = runN xs i x i := by
  have hi := (List.getElem?_eq_some_iff.1 hr).1
  have hl : (xs.take i).length = i := by rw [List.length_take]; omega
  unfold runN
  rw [List.take_add_one, hr, List.eraseIdx_of_length_le (l := xs.take i) (by omega)]
  rw [List.eraseIdx_append_of_length_le (by omega), hl, Nat.sub_self]
  simp
theorem runN_step {xs : List Int} {i k : Nat} {x r : Int} (hr : xs[k]? = some r) (hk : k ≠ i) : runN xs i x (k + 1) = runN xs i x k * (x - r) := by
  have hkl := (List.getElem?_eq_some_iff.1 hr).1
  have hl : (xs.take k).length = k := by rw [List.length_take]; omega
  unfold runN
  rw [List.take_add_one, hr]
  show prodL x ((xs.take k ++ [r]).eraseIdx i) = _
  by_cases h : i < k
  · rw [List.eraseIdx_append_of_lt_length (by omega), prodL_snoc]
  · rw [List.eraseIdx_append_of_length_le (by omega), hl, List.eraseIdx_of_length_le (l := xs.take k) (by omega), List.eraseIdx_of_length_le (l := [r]) (by simp; omega), prodL_snoc]

/-- A polynomial's value by Horner's way, from the highest coefficient down. -/
theorem ev_drop {l : List Int} {i : Nat} {c x : Int} (hc : l[i]? = some c) : ev (l.drop i) x = ev (l.drop (i + 1)) x * x + c := by
  have hi := (List.getElem?_eq_some_iff.1 hc).1
  rw [List.drop_eq_getElem_cons hi, (List.getElem?_eq_some_iff.1 hc).2, ev, Int.mul_comm]
  omega
theorem ev_end (l : List Int) (x : Int) : ev (l.drop l.length) x = 0 := by rw [List.drop_length]; rfl
/-- And power by power. -/
theorem ev_take {l : List Int} {i : Nat} {c x : Int} (hc : l[i]? = some c) : ev (l.take (i + 1)) x = ev (l.take i) x + c * x ^ i := by
  induction l generalizing i with
  | nil => simp at hc
  | cons a l ih =>
    cases i with
    | zero =>
      simp at hc
      subst hc
      simp [ev]
    | succ i =>
      have := ih (i := i) (by simpa using hc)
      have e : x * (c * x ^ i) = c * x ^ (i + 1) := by rw [Int.pow_succ, Int.mul_left_comm, Int.mul_comm x]
      rw [List.take_succ_cons, List.take_succ_cons, ev, ev, this, Int.mul_add, e]
      omega
/-- A constant's value. -/
theorem ev_const (c x : Int) : ev [c] x = c := by simp [ev]
end Go.Proofs.YtdgmnhiffoemmaaDoor
/-
  What points come to, as the program sums it up; in plain words. No statement of a claim stands here; each lemma names what it asks.
-/
namespace Go.Proofs.YtdgmnhiffoemmaaDoor

/-- A sum that runs along, modulo p. -/
theorem run_sum {p : Int} {t g ys f : Nat → Int} {s : Nat → Int} {n : Nat} (h0 : Cg p (s 0) 0) (hf : ∀ i, i < n → Cg p (f i) (t i * g i)) (hs : ∀ i, i < n → Cg p (s (i + 1)) (s i + f i * ys i)) :
    ∀ k, k ≤ n → Cg p (s k) (sumN t g ys k) := by
  intro k
  induction k with
  | zero => intro _; exact h0
  | succ k ih =>
    intro hk
    refine (hs k (by omega)).trans ?_
    rw [sumN]
    refine (ih (by omega)).add ?_
    refine ((hf k (by omega)).mul (Cg.refl p (ys k))).trans (Cg.of_eq ?_)
    rw [Int.mul_assoc, Int.mul_comm (t k), Int.mul_assoc, Int.mul_comm (ys k), ← Int.mul_assoc]

/-- LAGRANGE, as a running sum: s is what n points of a polynomial come to at a place. -/
theorem combine_eval {p : Int} (hp : Prim p) {xs g l : List Int} (ha : Apart p xs) (hl : l.length ≤ xs.length) (hg : ∀ (i : Nat) (x : Int), xs[i]? = some x → Cg p (g.getD i 0 * topN xs i x) 1) (at_ : Int)
    {ys : List Int} (hy : ∀ (i : Nat) (x : Int), xs[i]? = some x → Cg p (ys.getD i 0) (ev l x)) {f s : Nat → Int} (h0 : Cg p (s 0) 0) (hf : ∀ i, i < xs.length → Cg p (f i) (topN xs i at_ * g.getD i 0))
    (hs : ∀ i, i < xs.length → Cg p (s (i + 1)) (s i + f i * ys.getD i 0)) : Cg p (s xs.length) (ev l at_) :=
  (run_sum h0 hf hs xs.length (Nat.le_refl _)).trans (lagrange hp ha hl hg hy at_)

/-- Factors at one of the places: 1 for it, 0 for the others. -/
theorem factor_own {p : Int} {xs g : List Int} {i : Nat} {x f : Int} (hx : xs[i]? = some x) (hg : Cg p (g.getD i 0 * topN xs i x) 1) (hf : Cg p f (topN xs i x * g.getD i 0)) : Cg p f 1 := by
  refine hf.trans (Cg.trans (Cg.of_eq (Int.mul_comm _ _)) hg)
theorem factor_other {p : Int} {xs g : List Int} {i j : Nat} {x f : Int} (hx : xs[j]? = some x) (hij : j ≠ i) (hf : Cg p f (topN xs i x * g.getD i 0)) : Cg p f 0 := by
  rw [top_other hx hij, Int.zero_mul] at hf
  exact hf

/-- One point turned by d: what all come to, at a further place of the polynomial, is its value there just if d is nothing. -/
theorem turned {p : Int} (hp : Prim p) {xs : List Int} (ha : Apart p xs) {i : Nat} {x at_ f d a b : Int} {g : List Int} (hx : xs[i]? = some x) (hat : ∀ r ∈ xs, ¬ p ∣ at_ - r) (hg : Cg p (g.getD i 0 * topN xs i x) 1)
    (hf : Cg p f (topN xs i at_ * g.getD i 0)) (h : Cg p a (b + f * d)) : Cg p a b ↔ p ∣ d := by
  have ht : ¬ p ∣ topN xs i at_ := by
    unfold topN
    exact prod_not hp fun r hr => hat r (List.mem_of_mem_eraseIdx hr)
  have hgi : ¬ p ∣ g.getD i 0 := fun hh => by
    have h1 : Cg p (g.getD i 0 * topN xs i x) 0 := Cg.zero (Int.dvd_trans hh (Int.dvd_mul_right _ _))
    have h2 : Cg p (1 : Int) 0 := hg.symm.trans h1
    have h3 := Int.le_of_dvd (by decide) h2.dvd
    have := hp.two
    omega
  have hff : ¬ p ∣ f := fun hh => by
    have h1 := (hf.symm.trans (Cg.zero hh)).dvd
    rcases hp.split _ _ h1 with h2 | h2
    · exact ht h2
    · exact hgi h2
  constructor
  · intro hab
    have h1 : Cg p (b + f * d) b := h.symm.trans hab
    unfold Cg at h1
    rw [show b + f * d - b = f * d by omega] at h1
    exact (hp.split _ _ h1).resolve_left hff
  · intro hd
    refine h.trans ?_
    unfold Cg
    rw [show b + f * d - b = f * d by omega]
    exact Int.dvd_trans hd (Int.dvd_mul_left _ _)
end Go.Proofs.YtdgmnhiffoemmaaDoor
/-
  A division bit by bit; a row shifted; in plain words. No statement of a claim stands here; each lemma names what it asks.
-/
namespace Go.Proofs.YtdgmnhiffoemmaaDoor

/-- One bit more: the rest doubled, and the divisor taken away where it fits. -/
theorem bit_fits {m N Q r c : Nat} (h : N = m * Q + r) (hr : r < m) (hc : c ≤ 1) (hf : m ≤ 2 * r + c) : 2 * N + c = m * (2 * Q + 1) + (2 * r + c - m) ∧ 2 * r + c - m < m := by
  have e : m * (2 * Q + 1) = 2 * (m * Q) + m := by rw [Nat.mul_add, Nat.mul_one, Nat.mul_left_comm]
  rw [e]
  generalize m * Q = A at *
  omega
theorem bit_not {m N Q r c : Nat} (h : N = m * Q + r) (hf : ¬ m ≤ 2 * r + c) : 2 * N + c = m * (2 * Q) + (2 * r + c) ∧ 2 * r + c < m := by
  have e : m * (2 * Q) = 2 * (m * Q) := Nat.mul_left_comm _ _ _
  rw [e]
  generalize m * Q = A at *
  omega
/-- What stands above a bit. -/
theorem above (w t : Nat) : w / 2 ^ t = 2 * (w / 2 ^ (t + 1)) + w / 2 ^ t % 2 := by
  rw [Nat.pow_succ, ← Nat.div_div_eq_div_mul]
  omega
/-- A quotient and a rest are the only ones. -/
theorem div_unique {n m q r : Nat} (h : n = m * q + r) (hr : r < m) : q = n / m ∧ r = n % m := by
  have h1 : n / m = q := by rw [h, Nat.mul_add_div (by omega), Nat.div_eq_of_lt hr, Nat.add_zero]
  have h2 : n % m = r := by rw [h, Nat.mul_add_mod, Nat.mod_eq_of_lt hr]
  exact ⟨h1.symm, h2.symm⟩

/-- A shift's step: a part's lower half is laid upon what is there, its upper half into the next part. -/
theorem left_step {L l : List Nat} {i x y s : Nat} (hx : l[i]? = some x) (hy : L[i]? = some y) (hz : L[i + 1]? = some 0) (h : val L = val (l.take i) * s) :
    val ((L.set i (x * s % BB + y)).set (i + 1) (x * s / BB)) = val (l.take (i + 1)) * s := by
  have h1 := val_set (x := x * s % BB + y) hy
  have hz2 : (L.set i (x * s % BB + y))[i + 1]? = some 0 := by
    rw [List.getElem?_set]
    rw [if_neg (by omega)]
    exact hz
  have h2 := val_set (x := x * s / BB) hz2
  have hd := Nat.div_add_mod (x * s) BB
  rw [val_take_succ hx, Nat.add_mul]
  rw [Nat.zero_mul, mul_pow (x * s / BB)] at h2
  have e1 := congrArg (fun n => n * BB ^ i) hd
  simp only [Nat.add_mul] at e1 h1
  have e2 : x * BB ^ i * s = x * s * BB ^ i := Nat.mul_right_comm _ _ _
  rw [e2]
  generalize x * s * BB ^ i = A at *
  generalize BB * (x * s / BB) * BB ^ i = C at *
  generalize x * s % BB * BB ^ i = D at *
  generalize y * BB ^ i = F at *
  omega
end Go.Proofs.YtdgmnhiffoemmaaDoor
/-
  A row divided bit by bit, as the document's answer does; sums and differences part by part, as it does; in plain words. No statement of a claim stands here; each lemma names what it asks.
-/
namespace Go.Proofs.YtdgmnhiffoemmaaDoor

theorem BB_two : BB = 2 ^ 64 := by decide
theorem val_drop {W : List Nat} {k x : Nat} (h : W[k]? = some x) : val (W.drop k) = x + BB * val (W.drop (k + 1)) := by
  obtain ⟨hk, e⟩ := List.getElem?_eq_some_iff.1 h
  rw [List.drop_eq_getElem_cons hk, e, val]

/-- A division so far: what is above part kk is divided. -/
structure RD (W Q : List Nat) (m kk r : Nat) : Prop where
  len : Q.length = 8
  small : Small Q
  zeros : ∀ i, i < kk → Q[i]? = some 0
  eq : val (W.drop kk) = m * val (Q.drop kk) + r
  lt : r < m
theorem RD.start {W : List Nat} {m : Nat} (hW : W.length = 8) (hm : 0 < m) : RD W (List.replicate 8 0) m 8 0 := by
  refine ⟨by simp, Small.zeros 8, fun i hi => by rw [List.getElem?_replicate]; simp [hi], ?_, hm⟩
  rw [List.drop_eq_nil_of_le (by omega), List.drop_eq_nil_of_le (by simp)]
  simp [val]
/-- Nothing has begun, and a part is less than the divisor. -/
theorem RD.skip {W Q : List Nat} {m k r x : Nat} (h : RD W Q m (k + 1) r) (hz : val (W.drop (k + 1)) = 0) (hx : W[k]? = some x) (hl : x < m) : RD W Q m k x ∧ val (W.drop k) = x := by
  have e := h.eq
  rw [hz] at e
  have hQ : val (Q.drop (k + 1)) = 0 := by
    rcases Nat.eq_zero_or_pos (val (Q.drop (k + 1))) with h0 | h0
    · exact h0
    · have := Nat.mul_pos (show 0 < m by omega) h0
      omega
  have hw : val (W.drop k) = x := by rw [val_drop hx, hz, Nat.mul_zero, Nat.add_zero]
  refine ⟨⟨h.len, h.small, fun i hi => h.zeros i (by omega), ?_, hl⟩, hw⟩
  rw [hw, val_drop (h.zeros k (by omega)), hQ]
  simp
theorem RD.fin {W Q : List Nat} {m r : Nat} (h : RD W Q m 0 r) : val Q = val W / m ∧ r = val W % m := by
  have e := h.eq
  rw [List.drop_zero, List.drop_zero] at e
  exact div_unique e h.lt

/-- A part's division so far: t bits are left. -/
structure RB (W Q : List Nat) (m k x t q r : Nat) : Prop where
  len : Q.length = 8
  small : Small Q
  zeros : ∀ i, i < k → Q[i]? = some 0
  at_ : Q[k]? = some q
  eq : ∃ c, q = c * 2 ^ t ∧ val (W.drop (k + 1)) * 2 ^ (64 - t) + x / 2 ^ t = m * (val (Q.drop (k + 1)) * 2 ^ (64 - t) + c) + r
  lt : r < m
theorem RB.start {W Q : List Nat} {m k r x : Nat} (h : RD W Q m (k + 1) r) (hx : x < BB) : RB W Q m k x 64 0 r := by
  refine ⟨h.len, h.small, fun i hi => h.zeros i (by omega), h.zeros k (by omega), ⟨0, by simp, ?_⟩, h.lt⟩
  rw [← BB_two, Nat.div_eq_of_lt hx, Nat.sub_self, Nat.pow_zero, Nat.mul_one, Nat.mul_one, Nat.add_zero, Nat.add_zero]
  exact h.eq
theorem drop_set_lt {Q : List Nat} {k q : Nat} : (Q.set k q).drop (k + 1) = Q.drop (k + 1) := by
  rw [List.drop_set]
  simp
theorem RB.qlt {W Q : List Nat} {m k x s q r : Nat} (h : RB W Q m k x (s + 1) q r) (hs : s < 64) : q + 2 ^ s < BB := by
  obtain ⟨c, hq, -⟩ := h.eq
  have hb := h.small.get h.at_
  rw [BB_two] at hb ⊢
  have e1 : 2 ^ 64 = 2 ^ (63 - s) * 2 ^ (s + 1) := by rw [← Nat.pow_add]; congr 1; omega
  have e2 : 2 ^ (s + 1) = 2 * 2 ^ s := by rw [Nat.pow_succ, Nat.mul_comm]
  have hp : 0 < 2 ^ s := Nat.pos_of_ne_zero (by simp)
  generalize 2 ^ (63 - s) = A at *
  generalize 2 ^ 64 = B at *
  generalize 2 ^ s = D at *
  generalize 2 ^ (s + 1) = E at *
  have hc : c < A := by
    rcases Nat.lt_or_ge c A with h1 | h1
    · exact h1
    · have := Nat.mul_le_mul_right E h1
      omega
  have := Nat.mul_le_mul_right E (show c + 1 ≤ A from hc)
  rw [Nat.add_mul] at this
  omega
theorem two_pow_step {s : Nat} (hs : s < 64) : 2 ^ (64 - s) = 2 * 2 ^ (64 - (s + 1)) := by
  rw [show 64 - s = (64 - (s + 1)) + 1 by omega, Nat.pow_succ, Nat.mul_comm]
theorem RB.step {W Q : List Nat} {m k x s q r : Nat} (h : RB W Q m k x (s + 1) q r) (hs : s < 64) :
    (m ≤ 2 * r + x / 2 ^ s % 2 → RB W (Q.set k (q + 2 ^ s)) m k x s (q + 2 ^ s) (2 * r + x / 2 ^ s % 2 - m)) ∧
    (¬ m ≤ 2 * r + x / 2 ^ s % 2 → RB W Q m k x s q (2 * r + x / 2 ^ s % 2)) := by
  have hq2 := h.qlt hs
  obtain ⟨hl, hsm, hz, hat, ⟨c, hq, he⟩, hlt⟩ := h
  have hb : x / 2 ^ s % 2 ≤ 1 := by omega
  have hab := above x s
  have hkl : k < Q.length := (List.getElem?_eq_some_iff.1 hat).1
  have hN : val (W.drop (k + 1)) * 2 ^ (64 - s) + x / 2 ^ s = 2 * (val (W.drop (k + 1)) * 2 ^ (64 - (s + 1)) + x / 2 ^ (s + 1)) + x / 2 ^ s % 2 := by
    rw [two_pow_step hs, Nat.mul_left_comm]
    omega
  have hG : val (Q.drop (k + 1)) * 2 ^ (64 - s) = 2 * (val (Q.drop (k + 1)) * 2 ^ (64 - (s + 1))) := by
    rw [two_pow_step hs, Nat.mul_left_comm]
  have hp : 2 ^ (s + 1) = 2 * 2 ^ s := by rw [Nat.pow_succ, Nat.mul_comm]
  constructor
  · intro hf
    obtain ⟨h1, h2⟩ := bit_fits he hlt hb hf
    refine ⟨by rw [List.length_set]; exact hl, hsm.set k hq2, fun i hi => ?_, ?_, ⟨2 * c + 1, ?_, ?_⟩, h2⟩
    · rw [List.getElem?_set_ne (by omega)]
      exact hz i hi
    · rw [List.getElem?_set_self hkl]
    · rw [hq, hp, Nat.add_mul, Nat.one_mul, Nat.mul_left_comm, Nat.mul_assoc]
    · rw [drop_set_lt, hN, hG, h1]
      congr 2
      omega
  · intro hf
    obtain ⟨h1, h2⟩ := bit_not (c := x / 2 ^ s % 2) he hf
    refine ⟨hl, hsm, hz, hat, ⟨2 * c, ?_, ?_⟩, h2⟩
    · rw [hq, hp, Nat.mul_left_comm, Nat.mul_assoc]
    · rw [hN, hG, h1]
      congr 2
      omega
theorem RB.done {W Q : List Nat} {m k x q r : Nat} (h : RB W Q m k x 0 q r) (hx : W[k]? = some x) : RD W Q m k r := by
  obtain ⟨hl, hsm, hz, hat, ⟨c, hq, he⟩, hlt⟩ := h
  refine ⟨hl, hsm, hz, ?_, hlt⟩
  rw [val_drop hx, val_drop hat]
  rw [Nat.pow_zero, Nat.mul_one] at hq
  subst hq
  rw [Nat.pow_zero, Nat.div_one, Nat.sub_zero, ← BB_two] at he
  rw [Nat.mul_comm BB (val (W.drop (k + 1))), Nat.mul_comm BB (val (Q.drop (k + 1))), Nat.add_comm x, he, Nat.add_comm q]
end Go.Proofs.YtdgmnhiffoemmaaDoor
