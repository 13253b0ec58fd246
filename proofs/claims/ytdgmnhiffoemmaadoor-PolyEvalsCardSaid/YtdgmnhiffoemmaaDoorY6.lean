/-
  bits.Div64. No statement of a claim stands here; each contract names what it asks.
-/
import Derived.Test.YtdgmnhiffoemmaaDoorGC
import Derived.Test.YtdgmnhiffoemmaaDoorGB
import Derived.Deep.CutBlock
import Derived.Lib.ItoaNum
set_option linter.unusedSimpArgs false
namespace Go.Proofs.YtdgmnhiffoemmaaDoor
open Go Go.RowKit Go.ChangeMaps

theorem lead64_any (x : Nat) (hx : x < BB) (w : World) :
    Calls Tryd.prog 70 #[.int .u64 x] w fun e w' => e = .returned (.int .i64 (64 - (Lib.bitLen x : Int))) ∧ w' = w := by
  have h1 : (x : Int) ≤ 18446744073709551615 := by unfold BB at hx; omega
  exact Any.bits_LeadingZeros64 Go.Proofs.YtdgmnhiffoemmaaDoor.lead64A (x : Int) w (by omega) h1
/-- A divisor, shifted until its highest bit is 1. -/
theorem lead_facts {x : Nat} (hx : x < BB) (h0 : x ≠ 0) : ∃ s : Nat, s < 64 ∧ (64 - (Lib.bitLen x : Int)) = (s : Int) ∧ x * 2 ^ s < BB ∧ 9223372036854775808 ≤ x * 2 ^ s := by
  have hx2 : x < 2 ^ 64 := by rw [← BB_pow]; exact hx
  obtain ⟨h1, h2, h3⟩ := Lib.bitLenAux_bounds 64 x hx2 h0
  have h4 : Lib.bitLenAux 64 x ≤ 64 := by
    by_cases h : Lib.bitLenAux 64 x ≤ 64
    · exact h
    · exfalso
      have h5 : 2 ^ 64 ≤ 2 ^ (Lib.bitLenAux 64 x - 1) := Nat.pow_le_pow_right (by decide) (by omega)
      omega
  unfold Lib.bitLen
  generalize Lib.bitLenAux 64 x = k at *
  refine ⟨64 - k, by omega, by omega, ?_, ?_⟩
  · have h5 : x * 2 ^ (64 - k) < 2 ^ k * 2 ^ (64 - k) := Nat.mul_lt_mul_of_pos_right h3 (Nat.pow_pos (by decide))
    rw [← Nat.pow_add, show k + (64 - k) = 64 by omega] at h5
    rw [BB_pow]
    exact h5
  · have h5 : 2 ^ (k - 1) * 2 ^ (64 - k) ≤ x * 2 ^ (64 - k) := Nat.mul_le_mul_right _ h2
    rw [← Nat.pow_add, show k - 1 + (64 - k) = 63 by omega] at h5
    exact h5

theorem wrap_nat {n m : Nat} (h : n % BB = m) : IntKind.u64.wrap (n : Int) = (m : Int) := by
  rw [IntKind.wrap_u64]
  unfold BB at h
  omega
theorem mask_nat {a : Nat} (ha : a < BB) : bits .and .u64 (a : Int) 4294967295 = ((a % 4294967296 : Nat) : Int) := by
  unfold BB at ha
  exact Mul64.maskN a ha

/-- What Div64 makes of its numbers before it divides. -/
structure DivPre (hi lo y s Y h l hs lt u v d1 d0 : Nat) : Prop where
  Y_eq : Y = y * 2 ^ s
  Yh : Y = h * 4294967296 + l
  hh : 2147483648 ≤ h
  hb : h < 4294967296
  lb : l < 4294967296
  ulo : u < Y
  d1b : d1 < 4294967296
  d0b : d0 < 4294967296
  tot : (hi * BB + lo) * 2 ^ s = (u * 4294967296 + d1) * 4294967296 + d0
  Yb : Y < BB
  e1 : IntKind.u64.wrap ((y : Int) * 2 ^ s) = (Y : Int)
  e2 : (Y : Int) / 4294967296 = (h : Int)
  e3 : bits .and .u64 (Y : Int) 4294967295 = (l : Int)
  e4 : IntKind.u64.wrap ((hi : Int) * 2 ^ s) = (hs : Int)
  e5 : (lo : Int) / 2 ^ (64 - s) = (lt : Int)
  e6 : bits .or .u64 (hs : Int) (lt : Int) = (u : Int)
  e7 : IntKind.u64.wrap ((lo : Int) * 2 ^ s) = (v : Int)
  e8 : (v : Int) / 4294967296 = (d1 : Int)
  e9 : bits .and .u64 (v : Int) 4294967295 = (d0 : Int)

theorem div_pre {hi lo y s : Nat} (hh : hi < y) (hlo : lo < BB) (hy : y < BB) (hs : s < 64) (hyb : y * 2 ^ s < BB) (hyt : 9223372036854775808 ≤ y * 2 ^ s) : ∃ Y h l hs lt u v d1 d0, DivPre hi lo y s Y h l hs lt u v d1 d0 := by
  have hp : 0 < 2 ^ s := Nat.pow_pos (by decide)
  have h1 : hi * 2 ^ s < BB := Nat.lt_of_le_of_lt (Nat.mul_le_mul_right _ (Nat.le_of_lt hh)) hyb
  have hm : hi * 2 ^ s % BB = hi * 2 ^ s := Nat.mod_eq_of_lt h1
  obtain ⟨-, -, f3, f4⟩ := shift_parts (y := 0) hlo hs hp
  obtain ⟨g1, g2, -, -⟩ := shift_parts (x := hi) (y := lo * 2 ^ s / BB) (by omega) hs f4
  rw [hm] at g1 g2
  have hd := Nat.div_add_mod (lo * 2 ^ s) BB
  have hml := Nat.mod_lt (lo * 2 ^ s) BB_pos
  refine ⟨y * 2 ^ s, y * 2 ^ s / 4294967296, y * 2 ^ s % 4294967296, hi * 2 ^ s, lo * 2 ^ s / BB, hi * 2 ^ s + lo * 2 ^ s / BB, lo * 2 ^ s % BB, lo * 2 ^ s % BB / 4294967296, lo * 2 ^ s % BB % 4294967296, ?_⟩
  have hu : hi * 2 ^ s + 2 ^ s ≤ y * 2 ^ s := by
    rw [← Nat.succ_mul]
    exact Nat.mul_le_mul_right _ hh
  constructor
  · rfl
  · omega
  · omega
  · unfold BB at hyb; omega
  · omega
  · omega
  · unfold BB at hml ⊢; omega
  · omega
  · rw [Nat.add_mul, Nat.mul_right_comm]
    generalize hi * 2 ^ s = A at *
    generalize lo * 2 ^ s = C at *
    unfold BB at *
    omega
  · exact hyb
  · rw [wrap_shl, Nat.mod_eq_of_lt hyb]
  · omega
  · exact mask_nat hyb
  · rw [wrap_shl, hm]
  · rw [← f3]
    simp only [Int.natCast_ediv, Int.natCast_pow]
    rfl
  · rw [← g1, Nat.or_comm]
    have h3 : lo * 2 ^ s / BB < BB := Nat.lt_of_lt_of_le f4 (pow_le hs)
    unfold BB at h1 h3 ⊢
    exact bits_or_u64_nat _ _ h1 h3
  · rw [wrap_shl]
  · omega
  · exact mask_nat hml

theorem half_pre {h l u d Y : Nat} (hY : Y = h * 4294967296 + l) (hYb : Y < BB) (hh : 2147483648 ≤ h) (hl : l < 4294967296) (hd : d < 4294967296) (hu : u < Y) : ∃ q qh r : Nat, IntKind.u64.wrap ((u : Int) / (h : Int)) = (q : Int) ∧ IntKind.u64.wrap ((q : Int) * (h : Int)) = (qh : Int) ∧
    IntKind.u64.wrap ((u : Int) - (qh : Int)) = (r : Int) ∧ Half h l u d q r ∧ q ≤ 4294967297 ∧ r < h := by
  obtain ⟨h1, h2, h3⟩ := half_start (u := u) hh hl hd (by omega)
  have h4 := Nat.div_mul_le_self u h
  refine ⟨u / h, u / h * h, u - u / h * h, ?_, ?_, ?_, h1, h2, h3⟩
  · rw [← Int.natCast_ediv]
    exact wrap_small (n := u / h) (Nat.lt_of_le_of_lt (Nat.div_le_self u h) (by omega))
  · rw [← Int.natCast_mul]
    exact wrap_small (n := u / h * h) (by omega)
  · rw [← Int.natCast_sub h4]
    exact wrap_small (n := u - u / h * h) (by omega)
/-- What a step of the search works out. -/
theorem half_nums {h l d q r : Nat} (hh : h < 4294967296) (hl : l < 4294967296) (hd : d < 4294967296) (hq : q < 4294967296) (hr : r < 4294967296) : ∃ ql rr rd : Nat, ql = q * l ∧ rd = 4294967296 * r + d ∧ IntKind.u64.wrap ((q : Int) * (l : Int)) = (ql : Int) ∧ IntKind.u64.wrap (4294967296 * (r : Int)) = (rr : Int) ∧ IntKind.u64.wrap ((rr : Int) + (d : Int)) = (rd : Int) := by
  have h1 : q * l ≤ 4294967295 * 4294967295 := Nat.mul_le_mul (by omega) (by omega)
  refine ⟨q * l, 4294967296 * r, 4294967296 * r + d, rfl, rfl, ?_, ?_, ?_⟩
  · rw [← Int.natCast_mul]
    exact wrap_small (by unfold BB; omega)
  · exact wrap_small (n := 4294967296 * r) (by unfold BB; omega)
  · rw [← Int.natCast_add]
    exact wrap_small (by unfold BB; omega)

theorem wrap_ex (x : Int) : ∃ n : Nat, IntKind.u64.wrap x = (n : Int) ∧ n < BB := by
  refine ⟨(IntKind.u64.wrap x).toNat, ?_, ?_⟩ <;> rw [IntKind.wrap_u64]
  · omega
  · unfold BB; omega
/-- Between the two searches. -/
theorem half_mid {u d1 Y q : Nat} (hY : 0 < Y) (hYb : Y < BB) (hq : q = (u * 4294967296 + d1) / Y) : ∃ a1 a2 a3 u2 : Nat, IntKind.u64.wrap ((u : Int) * 4294967296) = (a1 : Int) ∧ IntKind.u64.wrap ((a1 : Int) + (d1 : Int)) = (a2 : Int) ∧ IntKind.u64.wrap ((q : Int) * (Y : Int)) = (a3 : Int) ∧
    IntKind.u64.wrap ((a2 : Int) - (a3 : Int)) = (u2 : Int) ∧ u2 = (u * 4294967296 + d1) % Y ∧ u2 < Y := by
  have h1 := Nat.div_add_mod (u * 4294967296 + d1) Y
  have h2 := Nat.mod_lt (u * 4294967296 + d1) hY
  rw [← hq] at h1
  generalize (u * 4294967296 + d1) % Y = u2 at *
  obtain ⟨a1, e1, -⟩ := wrap_ex ((u : Int) * 4294967296)
  obtain ⟨a2, e2, -⟩ := wrap_ex ((a1 : Int) + (d1 : Int))
  obtain ⟨a3, e3, -⟩ := wrap_ex ((q : Int) * (Y : Int))
  refine ⟨a1, a2, a3, u2, e1, e2, e3, ?_, rfl, h2⟩
  rw [← Int.natCast_mul, Nat.mul_comm] at e3
  generalize Y * q = p at *
  rw [IntKind.wrap_u64] at *
  unfold BB at hYb
  omega
theorem half_end {hi lo y s Y u d1 d0 q q2 : Nat} (hh : hi < y) (hlo : lo < BB) (hY : Y = y * 2 ^ s) (tot : (hi * BB + lo) * 2 ^ s = (u * 4294967296 + d1) * 4294967296 + d0) (hY0 : 0 < Y) (hq : q = (u * 4294967296 + d1) / Y) (hq2 : q2 = ((u * 4294967296 + d1) % Y * 4294967296 + d0) / Y) : ∃ a : Nat,
    IntKind.u64.wrap ((q : Int) * 4294967296) = (a : Int) ∧ IntKind.u64.wrap ((a : Int) + (q2 : Int)) = (((hi * BB + lo) / y : Nat) : Int) := by
  have h1 : (hi * BB + lo) / y = q * 4294967296 + q2 := by
    rw [← shifted (s := s), tot, ← hY, halves hY0, ← hq, ← hq2]
  have h2 : (hi * BB + lo) / y < BB := by
    rw [Nat.div_lt_iff_lt_mul (by omega)]
    have h9 : hi + 1 ≤ y := hh
    have := Nat.mul_le_mul_right BB h9
    rw [Nat.add_mul, Nat.one_mul] at this
    rw [Nat.mul_comm BB]
    omega
  rw [h1] at h2 ⊢
  refine ⟨q * 4294967296, ?_, ?_⟩
  · have h9 := wrap_small (n := q * 4294967296) (Nat.lt_of_le_of_lt (Nat.le_add_right _ _) h2)
    have h8 : ((q * 4294967296 : Nat) : Int) = (q : Int) * 4294967296 := by rw [Int.natCast_mul]; rfl
    rw [← h8]
    exact h9
  · rw [← Int.natCast_add]
    exact wrap_small h2

/-- The search by the divisor's upper half. -/
def HalfRel (h l u d : Nat) (W : World) (gk : Nat) (q r : Value) (w : World) : Prop :=
  ∃ qn rn : Nat, q = .int .u64 qn ∧ r = .int .u64 rn ∧ gk = qn ∧ Half h l u d qn rn ∧ rn < 4294967296 ∧ qn ≤ 4294967297 ∧ w = W

set_option maxRecDepth 100000 in
theorem div64_any (hi lo y : Nat) (hh : hi < y) (hlo : lo < BB) (hy : y < BB) (w : World) :
    Calls Tryd.prog 79 #[.int .u64 hi, .int .u64 lo, .int .u64 y] w fun e w' => ∃ r : Nat, e = .returned (.tuple #[.int .u64 (((hi * BB + lo) / y : Nat) : Int), .int .u64 r]) ∧ Mod [] w w' := by
  have y0 : ¬ (y : Int) = 0 := by omega
  have yh : ¬ (y : Int) ≤ (hi : Int) := by omega
  by_cases hi0 : hi = 0
  · subst hi0
    have hq : IntKind.u64.wrap ((lo : Int) / (y : Int)) = ((lo / y : Nat) : Int) := by
      rw [← Int.natCast_ediv]
      exact wrap_small (Nat.lt_of_le_of_lt (Nat.div_le_self _ _) hlo)
    go_enter Tryd.func79, Tryd.ntmps79
    go_wp2
    go_quiet (fail)
    go_wp2
    exact bodyPost_ret (v := .tuple #[.int .u64 (((0 * BB + lo) / y : Nat) : Int), .int .u64 ((lo % y : Nat) : Int)]) (by simp [results, Tryd.results79, go_sem]) rfl ⟨_, rfl, (Mod.refl _ _).drewN _⟩
  · have hi1 : ¬ (hi : Int) = 0 := by omega
    obtain ⟨s, hs, hlz, hyb, hyt⟩ := lead_facts hy (by omega)
    have hlead : ∀ W : World, Calls Tryd.prog 70 #[.int .u64 y] W fun e w' => e = .returned (.int .i64 (s : Int)) ∧ w' = W := fun W => by
      rw [← hlz]
      exact lead64_any y hy W
    clear hlz
    obtain ⟨Y, h, l, hss, lt, u, v, d1, d0, D⟩ := div_pre hh hlo hy hs hyb hyt
    have hh0 : ¬ (h : Int) = 0 := by have := D.hh; omega
    obtain ⟨-, -, -, -, -, -, -, -, -, -, e1, e2, e3, e4, e5, e6, e7, e8, e9⟩ := id D
    have HD := hid D
    have HY := hid (And.intro hh (And.intro hlo (And.intro hy (And.intro hyb hyt))))
    clear D hh hlo hy hyb hyt hi0
    obtain ⟨q0, qh, r0, f1, f2, f3, hHalf, hq0, hr0⟩ := half_pre HD.out.Yh HD.out.Yb HD.out.hh HD.out.lb HD.out.d1b HD.out.ulo
    have HH := hid (And.intro hHalf (And.intro hq0 hr0))
    clear hHalf hq0 hr0
    go_enter Tryd.func79, Tryd.ntmps79
    go_upto_block 0 with (first | (go_at_call 70; refine (hlead _).mono ?_; rintro e w' ⟨rfl, hw'⟩; subst hw'))
    go_cut [15] (fun qv wx => ∃ qn : Nat, qv = .int .u64 qn ∧ qn = (u * 4294967296 + d1) / Y ∧ wx = w')
    case first =>
      go_wp2_with fail
      go_loopg [15, 16] q0 (fun gk a b W' => HalfRel h l u d1 w' gk a b W')
      case atStart =>
        exact ⟨q0, r0, rfl, rfl, rfl, HH.out.1, by have := HH.out.2.2; have := HD.out.hb; omega, HH.out.2.1, rfl⟩
      case round =>
        obtain ⟨q, r, rfl, rfl, hgq, hHalf, hr, hq, rfl⟩ := hrel
        by_cases hbig : 4294967296 ≤ q
        · have hb1 : (4294967296 : Int) ≤ (q : Int) := by omega
          obtain ⟨hqp, hHalf'⟩ := hHalf.more HD.out.lb HD.out.d1b (by have h9 := HD.out.ulo; rw [HD.out.Yh] at h9; exact h9) (.inl hbig)
          clear hHalf
          have hqm : IntKind.u64.wrap ((q : Int) - 1) = ((q - 1 : Nat) : Int) := by rw [show (q : Int) - 1 = ((q - 1 : Nat) : Int) by omega]; exact wrap_small (by unfold BB; omega)
          have hrh : IntKind.u64.wrap ((r : Int) + (h : Int)) = ((r + h : Nat) : Int) := by rw [← Int.natCast_add]; exact wrap_small (by have := HD.out.hb; unfold BB; omega)
          generalize hq1 : q - 1 = qq at *
          generalize hr1 : r + h = rh at *
          have HB := hid (And.intro hHalf' (And.intro hq1 hr1))
          clear hq1 hr1 hHalf'
          by_cases hex : 4294967296 ≤ rh
          · have hex1 : (4294967296 : Int) ≤ (rh : Int) := by omega
            go_wp2
            go_meet
            exact ⟨qq, rfl, by rw [HD.out.Yh]; exact HB.out.1.out HD.out.lb (by have := HD.out.hh; omega) (by have := HB.out.2.1; omega) hex, rfl⟩
          · have hex1 : ¬ (4294967296 : Int) ≤ (rh : Int) := by omega
            go_wp2
            go_roundg qq
            case measure => have := HB.out.2.1; omega
            case rel => exact ⟨qq, rh, rfl, rfl, rfl, HB.out.1, by omega, by have := HB.out.2.1; omega, rfl⟩

        · have hb1 : ¬ (4294967296 : Int) ≤ (q : Int) := by omega
          obtain ⟨ql, rr, rd, g1, g2, g3, g4, g5⟩ := half_nums (h := h) (l := l) (d := d1) (q := q) (r := r) HD.out.hb HD.out.lb HD.out.d1b (by omega) hr
          by_cases hc : rd < ql
          · have hc1 : (rd : Int) < (ql : Int) := by omega
            obtain ⟨hqp, hHalf'⟩ := hHalf.more HD.out.lb HD.out.d1b (by have h9 := HD.out.ulo; rw [HD.out.Yh] at h9; exact h9) (.inr (by rw [← g1, ← g2]; exact hc))
            clear hHalf g1 g2
            have hqm : IntKind.u64.wrap ((q : Int) - 1) = ((q - 1 : Nat) : Int) := by rw [show (q : Int) - 1 = ((q - 1 : Nat) : Int) by omega]; exact wrap_small (by unfold BB; omega)
            have hrh : IntKind.u64.wrap ((r : Int) + (h : Int)) = ((r + h : Nat) : Int) := by rw [← Int.natCast_add]; exact wrap_small (by have := HD.out.hb; unfold BB; omega)
            generalize hq1 : q - 1 = qq at *
            generalize hr1 : r + h = rh at *
            have HB := hid (And.intro hHalf' (And.intro hq1 hr1))
            clear hq1 hr1 hHalf'
            by_cases hex : 4294967296 ≤ rh
            · have hex1 : (4294967296 : Int) ≤ (rh : Int) := by omega
              go_wp2
              go_meet
              exact ⟨qq, rfl, by rw [HD.out.Yh]; exact HB.out.1.out HD.out.lb (by have := HD.out.hh; omega) (by have := HB.out.2.1; omega) hex, rfl⟩
            · have hex1 : ¬ (4294967296 : Int) ≤ (rh : Int) := by omega
              go_wp2
              go_roundg qq
              case measure => have := HB.out.2.1; omega
              case rel => exact ⟨qq, rh, rfl, rfl, rfl, HB.out.1, by omega, by have := HB.out.2.1; omega, rfl⟩

          · have hc1 : ¬ (rd : Int) < (ql : Int) := by omega
            have hdone := hHalf.done HD.out.lb (by have := HD.out.hh; omega) (by rw [← g1, ← g2]; omega)
            have HN := hid hdone
            clear g1 g2 hHalf hdone
            go_wp2
            go_meet
            exact ⟨q, rfl, by rw [HD.out.Yh]; exact HN.out, rfl⟩
    case rest =>
      obtain ⟨q1, rfl, hq1, rfl⟩ := hcut
      have hY0 : 0 < Y := by have := HD.out.Yh; have := HD.out.hh; omega
      obtain ⟨a1, a2, a3, u2, g1, g2, g3, g4, hu2, hu2y⟩ := half_mid hY0 HD.out.Yb hq1
      have HM := hid (And.intro hq1 (And.intro hu2 hu2y))
      clear hq1 hu2 hu2y hY0
      obtain ⟨q02, qh2, r02, k1, k2, k3, hHalf, hq02, hr02⟩ := half_pre HD.out.Yh HD.out.Yb HD.out.hh HD.out.lb HD.out.d0b HM.out.2.2
      have HH2 := hid (And.intro hHalf (And.intro hq02 hr02))
      clear hHalf hq02 hr02
      go_upto_block 2 with fail
      go_cut [18] (fun qv wx => ∃ qn : Nat, qv = .int .u64 qn ∧ qn = (u2 * 4294967296 + d0) / Y ∧ wx = wc)
      case first =>
        go_wp2_with fail
        go_loopg [18, 16] q02 (fun gk a b W' => HalfRel h l u2 d0 wc gk a b W')
        case atStart =>
          exact ⟨q02, r02, rfl, rfl, rfl, HH2.out.1, by have := HH2.out.2.2; have := HD.out.hb; omega, HH2.out.2.1, rfl⟩
        case round =>
          obtain ⟨q, r, rfl, rfl, hgq, hHalf, hr, hq, rfl⟩ := hrel
          by_cases hbig : 4294967296 ≤ q
          · have hb1 : (4294967296 : Int) ≤ (q : Int) := by omega
            obtain ⟨hqp, hHalf'⟩ := hHalf.more HD.out.lb HD.out.d0b (by have h9 := HM.out.2.2; rw [HD.out.Yh] at h9; exact h9) (.inl hbig)
            clear hHalf
            have hqm : IntKind.u64.wrap ((q : Int) - 1) = ((q - 1 : Nat) : Int) := by rw [show (q : Int) - 1 = ((q - 1 : Nat) : Int) by omega]; exact wrap_small (by unfold BB; omega)
            have hrh : IntKind.u64.wrap ((r : Int) + (h : Int)) = ((r + h : Nat) : Int) := by rw [← Int.natCast_add]; exact wrap_small (by have := HD.out.hb; unfold BB; omega)
            generalize hq1 : q - 1 = qq at *
            generalize hr1 : r + h = rh at *
            have HB := hid (And.intro hHalf' (And.intro hq1 hr1))
            clear hq1 hr1 hHalf'
            by_cases hex : 4294967296 ≤ rh
            · have hex1 : (4294967296 : Int) ≤ (rh : Int) := by omega
              go_wp2
              go_meet
              exact ⟨qq, rfl, by rw [HD.out.Yh]; exact HB.out.1.out HD.out.lb (by have := HD.out.hh; omega) (by have := HB.out.2.1; omega) hex, rfl⟩
            · have hex1 : ¬ (4294967296 : Int) ≤ (rh : Int) := by omega
              go_wp2
              go_roundg qq
              case measure => have := HB.out.2.1; omega
              case rel => exact ⟨qq, rh, rfl, rfl, rfl, HB.out.1, by omega, by have := HB.out.2.1; omega, rfl⟩

          · have hb1 : ¬ (4294967296 : Int) ≤ (q : Int) := by omega
            obtain ⟨ql, rr, rd, g1, g2, g3, g4, g5⟩ := half_nums (h := h) (l := l) (d := d0) (q := q) (r := r) HD.out.hb HD.out.lb HD.out.d0b (by omega) hr
            by_cases hc : rd < ql
            · have hc1 : (rd : Int) < (ql : Int) := by omega
              obtain ⟨hqp, hHalf'⟩ := hHalf.more HD.out.lb HD.out.d0b (by have h9 := HM.out.2.2; rw [HD.out.Yh] at h9; exact h9) (.inr (by rw [← g1, ← g2]; exact hc))
              clear hHalf g1 g2
              have hqm : IntKind.u64.wrap ((q : Int) - 1) = ((q - 1 : Nat) : Int) := by rw [show (q : Int) - 1 = ((q - 1 : Nat) : Int) by omega]; exact wrap_small (by unfold BB; omega)
              have hrh : IntKind.u64.wrap ((r : Int) + (h : Int)) = ((r + h : Nat) : Int) := by rw [← Int.natCast_add]; exact wrap_small (by have := HD.out.hb; unfold BB; omega)
              generalize hq1 : q - 1 = qq at *
              generalize hr1 : r + h = rh at *
              have HB := hid (And.intro hHalf' (And.intro hq1 hr1))
              clear hq1 hr1 hHalf'
              by_cases hex : 4294967296 ≤ rh
              · have hex1 : (4294967296 : Int) ≤ (rh : Int) := by omega
                go_wp2
                go_meet
                exact ⟨qq, rfl, by rw [HD.out.Yh]; exact HB.out.1.out HD.out.lb (by have := HD.out.hh; omega) (by have := HB.out.2.1; omega) hex, rfl⟩
              · have hex1 : ¬ (4294967296 : Int) ≤ (rh : Int) := by omega
                go_wp2
                go_roundg qq
                case measure => have := HB.out.2.1; omega
                case rel => exact ⟨qq, rh, rfl, rfl, rfl, HB.out.1, by omega, by have := HB.out.2.1; omega, rfl⟩

            · have hc1 : ¬ (rd : Int) < (ql : Int) := by omega
              have hdone := hHalf.done HD.out.lb (by have := HD.out.hh; omega) (by rw [← g1, ← g2]; omega)
              have HN := hid hdone
              clear g1 g2 hHalf hdone
              go_wp2
              go_meet
              exact ⟨q, rfl, by rw [HD.out.Yh]; exact HN.out, rfl⟩
      case rest =>
        obtain ⟨q2, rfl, hq2, rfl⟩ := hcut
        have hY0 : 0 < Y := by have := HD.out.Yh; have := HD.out.hh; omega
        obtain ⟨b0, m1, m2⟩ := half_end (q2 := q2) HY.out.1 HY.out.2.1 HD.out.Y_eq HD.out.tot hY0 HM.out.1 (by rw [← HM.out.2.1]; exact hq2)
        clear hq2 hY0
        obtain ⟨QQ, hQQ⟩ : ∃ Q, Q = (hi * BB + lo) / y := ⟨_, rfl⟩
        rw [← hQQ] at m2
        have HQ := hid hQQ
        clear hQQ
        obtain ⟨b1, m3, -⟩ := wrap_ex ((u2 : Int) * 4294967296)
        obtain ⟨b2, m4, -⟩ := wrap_ex ((b1 : Int) + (d0 : Int))
        obtain ⟨b3, m5, -⟩ := wrap_ex ((q2 : Int) * (Y : Int))
        obtain ⟨b4, m6, -⟩ := wrap_ex ((b2 : Int) - (b3 : Int))
        obtain ⟨b5, m7⟩ : ∃ b5 : Nat, (b4 : Int) / 2 ^ s = (b5 : Int) := ⟨b4 / 2 ^ s, by simp only [Int.natCast_ediv, Int.natCast_pow]; rfl⟩
        go_wp2
        exact bodyPost_ret (v := .tuple #[.int .u64 (QQ : Int), .int .u64 (b5 : Int)]) (by simp [results, Tryd.results79, go_sem]) rfl ⟨b5, by rw [HQ.out], Mod.refl _ _⟩
end Go.Proofs.YtdgmnhiffoemmaaDoor
