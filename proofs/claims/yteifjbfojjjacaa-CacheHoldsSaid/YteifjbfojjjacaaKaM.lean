/-
  Among, walked. No statement of a claim stands here; the contract names what it asks.
-/
import Derived.Test.YteifjbfojjjacaaKa0
set_option linter.unusedSimpArgs false
namespace Go.Proofs.Yteifjbfojjjacaa
open Go Go.RowKit

def among (x n : Int) : Int := IntKind.u64.wrap x % n

theorem among_any (x n : Int) (w : World) (hn : 1 ≤ n) (hn' : n ≤ 9223372036854775807) :
    Calls Try.prog 17 #[.int .i64 x, .int .i64 n] w fun e w' => e = .returned (.int .i64 (among x n)) ∧ w = w' := by
  have hu : 0 ≤ IntKind.u64.wrap x := by simp only [IntKind.wrap_u64]; omega
  have hr : 0 ≤ among x n ∧ among x n < n := ⟨Int.emod_nonneg _ (by omega), Int.emod_lt_of_pos _ (by omega)⟩
  have ht : (IntKind.u64.wrap x).tmod n = among x n := by rw [Int.tmod_eq_emod_of_nonneg hu]; rfl
  have hw : IntKind.i64.wrap (among x n) = among x n := IntWalk.i64_in _ (by omega)
  go_enter Try.func17, Try.ntmps17
  go_wp2
  go_ret
  refine ⟨?_, rfl⟩
  simp [ht]

end Go.Proofs.Yteifjbfojjjacaa
