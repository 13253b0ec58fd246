/-
  Itoa, walked. No statement of a claim stands here; each contract names what it asks.
-/
import Derived.Test.YteifjbfojjjacaaKa0
import Derived.Laws.IdiomStrings
set_option linter.unusedSimpArgs false
namespace Go.Proofs.Yteifjbfojjjacaa
open Go Go.RowKit Go.ChangeMaps

/-- A digit, whatever the sign. -/
def digit (v : Int) : Int := if v.tmod 10 < 0 then -(v.tmod 10) else v.tmod 10
def chr (d : Int) : ByteArray := ⟨#[UInt8.ofNat (48 + d).toNat]⟩
def itoaF : Nat → Int → ByteArray → ByteArray
  | 0, _, s => s
  | f + 1, v, s => if v = 0 then s else itoaF f (v.tdiv 10) (chr (digit v) ++ s)
def itoaS (n : Int) : ByteArray := if n = 0 then ⟨#[48]⟩ else if n < 0 then ⟨#[45]⟩ ++ itoaF 4 n ByteArray.empty else itoaF 4 n ByteArray.empty

theorem conv_chr (w : World) (d : Int) (h0 : 0 ≤ d) (h9 : d ≤ 9) :
    (convert 48 9 (.slice (some ⟨w.heap.size, 0, none⟩) 1 1)).run Try.prog (w.alloc (.cells #[.int .u8 (48 + d)] 5)) = .ok (.string (chr d)) (w.alloc (.cells #[.int .u8 (48 + d)] 5)) := by
  have hv : (((UInt8.ofNat (48 + d).toNat).toNat : Nat) : Int) = 48 + d := by
    rw [UInt8.toNat_ofNat']
    omega
  have h := run_convert_bytes_back (P := Try.prog) (w.alloc (.cells #[.int .u8 (48 + d)] 5)) 48 9 5 ⟨w.heap.size, 0, none⟩ 1 [UInt8.ofNat (48 + d).toNat] rfl rfl rfl (fun j hj => by
    have hj0 : j = 0 := by simpa using hj
    subst hj0
    have := cell_at (get_new w (.cells #[.int .u8 (48 + d)] 5)) 0
    simp only [List.getElem_cons_zero, hv]
    simp [Addr.add])
  simpa [chr] using h

theorem digit_range (v : Int) : 0 ≤ digit v ∧ digit v ≤ 9 := by
  unfold digit
  rcases Int.lt_or_le v 0 with h | h
  · have := Int.tmod_lt_of_pos (a := -v) (b := 10) (by omega)
    have h2 := Int.tmod_nonneg (a := -v) 10 (by omega)
    rw [Int.neg_tmod] at this h2
    split <;> omega
  · have := Int.tmod_lt_of_pos (a := v) (b := 10) (by omega)
    have h2 := Int.tmod_nonneg (a := v) 10 h
    split <;> omega

theorem tdiv_lt (v : Int) (k : Nat) (h : v.natAbs < 10 ^ (k + 1)) : (v.tdiv 10).natAbs < 10 ^ k := by
  rw [Int.natAbs_tdiv]
  have : (10 : Nat) ^ (k + 1) = 10 ^ k * 10 := by rw [Nat.pow_succ]
  rw [this] at h
  show v.natAbs / 10 < 10 ^ k
  omega

theorem tdiv_in (v : Int) (h1 : -1000 ≤ v) (h2 : v ≤ 1000) : -1000 ≤ v.tdiv 10 ∧ v.tdiv 10 ≤ 1000 := by
  have h : (v.tdiv 10).natAbs = v.natAbs / 10 := by rw [Int.natAbs_tdiv]; rfl
  omega

set_option maxHeartbeats 800000 in
theorem itoa_any (w : World) (n : Int) (h1 : -1000 ≤ n) (h2 : n ≤ 1000) :
    Calls Try.prog 22 #[.int .i64 n] w fun e w' => e = .returned (.string (itoaS n)) ∧ Mod [] w w' := by
  by_cases h0 : n = 0
  · subst h0
    go_enter Try.func22, Try.ntmps22
    go_wp2_with fail
    go_ret
    exact ⟨rfl, Mod.refl _ _⟩
  · have d0 : (n == 0) = false := by simpa using h0
    have he : (⟨#[]⟩ : ByteArray) = ByteArray.empty := rfl
    have HN : Hid (itoaS n = if n < 0 then ⟨#[45]⟩ ++ itoaF 4 n ByteArray.empty else itoaF 4 n ByteArray.empty) := hid (by unfold itoaS; rw [if_neg h0])
    go_enter Try.func22, Try.ntmps22
    go_wp2_with fail
    go_loopg [3, 4] 4 (fun gk sv vv W' => ∃ (s : ByteArray) (v : Int), sv = .string s ∧ vv = .int .i64 v ∧ -1000 ≤ v ∧ v ≤ 1000 ∧ v.natAbs < 10 ^ gk ∧ itoaF gk v s = itoaF 4 n ByteArray.empty ∧ s.size + gk ≤ 4 ∧ Mod [] w W')
    case atStart => exact ⟨_, n, rfl, rfl, h1, h2, by omega, rfl, by decide, Mod.refl _ _⟩
    case round =>
      obtain ⟨s, v, rfl, rfl, hv1, hv2, hv3, hres, hsz, hm⟩ := hrel
      have HM := hid hm
      have HRES := hid hres
      have HV3 := hid hv3
      have HR := hid (digit_range v)
      clear hm hres hv3
      by_cases hv0 : v = 0
      · have d1 : (v == 0) = true := by simpa using hv0
        have hend : itoaF gk v s = s := by cases gk <;> simp [itoaF, hv0]
        have HE := hid (hend.symm.trans HRES.out)
        by_cases hn : n < 0
        · have d2 : decide (n < 0) = true := by simpa using hn
          have hsize : (⟨#[45]⟩ ++ s : ByteArray).size < 1000 := by rw [ByteArray.size_append]; show 1 + s.size < 1000; omega
          go_wp2_with fail
          go_ret
          exact ⟨by rw [HN.out, if_pos hn, ← HE.out]; rfl, HM.out⟩
        · have d2 : decide (n < 0) = false := by simpa using hn
          go_wp2_with fail
          go_ret
          exact ⟨by rw [HN.out, if_neg (by omega), ← HE.out]; rfl, HM.out⟩
      · have d1 : (v == 0) = false := by simpa using hv0
        obtain ⟨g, rfl⟩ : ∃ g, gk = g + 1 := by
          cases gk with
          | zero => exfalso; have := HV3.out; simp at this; exact hv0 this
          | succ g => exact ⟨g, rfl⟩
        have HNX : Hid (itoaF g (v.tdiv 10) (chr (digit v) ++ s) = itoaF 4 n ByteArray.empty) := hid (by
          have := HRES.out
          rw [itoaF, if_neg hv0] at this
          exact this)
        have HT := hid (tdiv_in v hv1 hv2)
        have HD := hid (tdiv_lt v g HV3.out)
        have HSZ : Hid ((chr (digit v) ++ s).size + g ≤ 4) := hid (by rw [ByteArray.size_append]; show 1 + s.size + g ≤ 4; omega)
        have hcs : (chr (digit v)).size = 1 := rfl
        have hcv := conv_chr wr (digit v) HR.out.1 HR.out.2
        by_cases hneg : v.tmod 10 < 0
        · have d2 : decide (v.tmod 10 < 0) = true := by simpa using hneg
          have hdv : digit v = -(v.tmod 10) := by unfold digit; rw [if_pos hneg]
          have w1 : wrap64 (-(v.tmod 10)) = digit v := by rw [← hdv]; exact IntWalk.wrap64_in _ (by have := HR.out; omega)
          have w2 : wrap64 (48 + digit v) % 256 = 48 + digit v := by
            rw [IntWalk.wrap64_in _ (by have := HR.out; omega)]; have := HR.out; omega
          clear hdv
          go_wp2_with fail
          go_roundg g
          case measure => omega
          case rel => exact ⟨_, _, rfl, rfl, HT.out.1, HT.out.2, HD.out, HNX.out, HSZ.out, HM.out.trans (Mod.alloc (Mod.refl _ _) _)⟩
        · have d2 : decide (v.tmod 10 < 0) = false := by simpa using hneg
          have hdv : v.tmod 10 = digit v := by unfold digit; rw [if_neg hneg]
          have w2 : wrap64 (48 + digit v) % 256 = 48 + digit v := by
            rw [IntWalk.wrap64_in _ (by have := HR.out; omega)]; have := HR.out; omega
          rw [hdv] at d2
          go_wp2_with fail
          go_roundg g
          case measure => omega
          case rel => exact ⟨_, _, rfl, rfl, HT.out.1, HT.out.2, HD.out, HNX.out, HSZ.out, HM.out.trans (Mod.alloc (Mod.refl _ _) _)⟩
end Go.Proofs.Yteifjbfojjjacaa
