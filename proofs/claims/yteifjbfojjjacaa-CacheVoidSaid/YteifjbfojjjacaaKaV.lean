/-
  CacheVoid, walked: caches that no call made. No statement of a claim stands here; each contract names what it asks.
-/
import Derived.Test.YteifjbfojjjacaaKaW
set_option linter.unusedSimpArgs false
namespace Go.Proofs.Yteifjbfojjjacaa
open Go Go.RowKit Go.ChangeMaps

theorem hlen_nil (w : World) : Calls Try.prog 23 #[.pointer none] w fun e w' => e = .returned (.int .i64 0) ∧ Mod [] w w' := by
  go_enter Try.func23, Try.ntmps23
  go_wp2_with (first | (go_at_call 34; refine (his_nil _).mono ?_; rintro e w' ⟨rfl, rfl⟩))
  go_ret
  exact ⟨rfl, Mod.refl _ _⟩
theorem hlen_zero (w : World) (x : Nat) (hc : w.cell? ⟨x, 0, none⟩ = some (.int .i64 0)) : Calls Try.prog 23 #[.pointer (some ⟨x, 0, none⟩)] w fun e w' => e = .returned (.int .i64 0) ∧ Mod [] w w' := by
  go_enter Try.func23, Try.ntmps23
  go_wp2_with (first | (go_at_call 34; refine (his_zero _ _ hc).mono ?_; rintro e w' ⟨rfl, rfl⟩))
  go_ret
  exact ⟨rfl, Mod.refl _ _⟩
theorem drop_nil (w : World) (now : Int) : Calls Try.prog 26 #[.pointer none, .int .i64 now] w fun e w' => e = .returned (.tuple #[.int .i64 0, .int .i64 1]) ∧ Mod [] w w' := by
  go_enter Try.func26, Try.ntmps26
  go_wp2_with (first | (go_at_call 34; refine (his_nil _).mono ?_; rintro e w' ⟨rfl, rfl⟩))
  go_ret2
  exact ⟨rfl, (by repeat' (first | exact Mod.refl _ _ | assumption | refine Mod.drewN ?_ _ | refine Mod.drew ?_ | refine Mod.alloc ?_ _ | refine Mod.setCell ?_ (by simp) _ | refine Mod.setBlock ?_ (by simp) _))⟩
theorem put_nil (w : World) (t : TkS) (kv : Value) : Calls Try.prog 19 #[.pointer none, .agg (t.cells kv).toArray] w fun e w' => e = .returned (.int .i64 1) ∧ Mod [] w w' := by
  simp only [TkS.cells]
  go_enter Try.func19, Try.ntmps19
  go_wp2_with (first | (go_at_call 34; refine (his_nil _).mono ?_; rintro e w' ⟨rfl, rfl⟩))
  go_ret
  exact ⟨rfl, (by repeat' (first | exact Mod.refl _ _ | assumption | refine Mod.drewN ?_ _ | refine Mod.drew ?_ | refine Mod.alloc ?_ _ | refine Mod.setCell ?_ (by simp) _ | refine Mod.setBlock ?_ (by simp) _))⟩
theorem put_zero (w : World) (x : Nat) (t : TkS) (kv : Value) (hc : w.cell? ⟨x, 0, none⟩ = some (.int .i64 0)) : Calls Try.prog 19 #[.pointer (some ⟨x, 0, none⟩), .agg (t.cells kv).toArray] w fun e w' => e = .returned (.int .i64 1) ∧ Mod [] w w' := by
  simp only [TkS.cells]
  have hc' := (Mod.alloc (Mod.refl [] w) (.cells (t.cells kv).toArray 50)).cell hc (by simp)
  simp only [TkS.cells] at hc'
  go_enter Try.func19, Try.ntmps19
  go_wp2_with (first | (go_at_call 34; refine (his_zero _ _ hc').mono ?_; rintro e w' ⟨rfl, rfl⟩))
  go_ret
  exact ⟨rfl, (by repeat' (first | exact Mod.refl _ _ | assumption | refine Mod.drewN ?_ _ | refine Mod.drew ?_ | refine Mod.alloc ?_ _ | refine Mod.setCell ?_ (by simp) _ | refine Mod.setBlock ?_ (by simp) _))⟩
theorem find_nil (w : World) (c s : ByteArray) (now : Int) : Calls Try.prog 20 #[.pointer none, .string c, .string s, .int .i64 now] w fun e w' => e = .returned (.tuple #[.agg #[.string ⟨#[]⟩, .string ⟨#[]⟩, .slice none 0 0, .int .i64 0, .int .i64 0, .int .i64 0, .int .i64 0], .int .i64 1]) ∧ Mod [] w w' := by
  go_enter Try.func20, Try.ntmps20
  go_wp2_with (first | (go_at_call 34; refine (his_nil _).mono ?_; rintro e w' ⟨rfl, rfl⟩))
  refine bodyPost_ret (v := .tuple #[.agg #[.string ⟨#[]⟩, .string ⟨#[]⟩, .slice none 0 0, .int .i64 0, .int .i64 0, .int .i64 0, .int .i64 0], .int .i64 1]) (by simp [results, Try.results20, go_sem]) rfl ⟨rfl, ?_⟩
  exact (by repeat' (first | exact Mod.refl _ _ | assumption | refine Mod.drewN ?_ _ | refine Mod.drew ?_ | refine Mod.alloc ?_ _ | refine Mod.setCell ?_ (by simp) _ | refine Mod.setBlock ?_ (by simp) _))
theorem find_zero (w : World) (x : Nat) (c s : ByteArray) (now : Int) (hc : w.cell? ⟨x, 0, none⟩ = some (.int .i64 0)) : Calls Try.prog 20 #[.pointer (some ⟨x, 0, none⟩), .string c, .string s, .int .i64 now] w fun e w' => e = .returned (.tuple #[.agg #[.string ⟨#[]⟩, .string ⟨#[]⟩, .slice none 0 0, .int .i64 0, .int .i64 0, .int .i64 0, .int .i64 0], .int .i64 1]) ∧ Mod [] w w' := by
  have hc' := (Mod.alloc (Mod.refl [] w) (.cells #[.string ⟨#[]⟩, .string ⟨#[]⟩, .slice none 0 0, .int .i64 0, .int .i64 0, .int .i64 0, .int .i64 0] 50)).cell hc (by simp)
  go_enter Try.func20, Try.ntmps20
  go_wp2_with (first | (go_at_call 34; refine (his_zero _ _ hc').mono ?_; rintro e w' ⟨rfl, rfl⟩))
  refine bodyPost_ret (v := .tuple #[.agg #[.string ⟨#[]⟩, .string ⟨#[]⟩, .slice none 0 0, .int .i64 0, .int .i64 0, .int .i64 0, .int .i64 0], .int .i64 1]) (by simp [results, Try.results20, go_sem]) rfl ⟨rfl, ?_⟩
  exact (by repeat' (first | exact Mod.refl _ _ | assumption | refine Mod.drewN ?_ _ | refine Mod.drew ?_ | refine Mod.alloc ?_ _ | refine Mod.setCell ?_ (by simp) _ | refine Mod.setBlock ?_ (by simp) _))

set_option maxRecDepth 20000 in
set_option maxHeartbeats 1600000 in
theorem void_any (W : World) (id : ByteArray) (now : Int) : Calls Try.prog 8 #[.string id, .int .i64 now] W fun e W' => e = .returned (.bool true) ∧ Mod [] W W' := by
  have TA := hid (rfl : 1 = 1)
  have TB := hid (rfl : 1 = 1)
  have TC := hid (rfl : 1 = 1)
  have TD := hid (rfl : 1 = 1)
  have TE := hid (rfl : 1 = 1)
  have TF := hid (rfl : 1 = 1)
  go_enter Try.func8, Try.ntmps8
  go_wp2_with (first
    | (go_at_call 11; refine (works_any _).mono ?_; rintro e w1 ⟨rfl, hm1⟩; have HM := hid hm1; clear hm1)
    | (go_at_call 12; have q := TA.out; clear q TA; have hc0 : Mod [] ((w1.alloc (.cells #[.int .i64 0, .int .i64 0, .map none] 67)).alloc (.cells #[.int .i64 0, .slice none 0 0] 69)) ((w1.alloc (.cells #[.int .i64 0, .int .i64 0, .map none] 67)).alloc (.cells #[.int .i64 0, .slice none 0 0] 69)) := Mod.refl _ _; have hz0 : ∀ W', Mod [] ((w1.alloc (.cells #[.int .i64 0, .int .i64 0, .map none] 67)).alloc (.cells #[.int .i64 0, .slice none 0 0] 69)) W' → W'.cell? ⟨w1.heap.size, 2, none⟩ = some (.map none) ∧ W'.cell? ⟨w1.heap.size + 1, 0, none⟩ = some (.int .i64 0) := fun W' h => ⟨h.cell (cell_at (get_alloc (get_new w1 _) _) 2) (by simp), h.cell (by have hg := get_new (w1.alloc (.cells #[.int .i64 0, .int .i64 0, .map none] 67)) (.cells #[.int .i64 0, .slice none 0 0] 69); rw [World.size_alloc] at hg; exact cell_at hg 0) (by simp)⟩; have hb0 : Mod [] W ((w1.alloc (.cells #[.int .i64 0, .int .i64 0, .map none] 67)).alloc (.cells #[.int .i64 0, .slice none 0 0] 69)) := (HM.out.alloc _).alloc _; refine (see_nil _ _ _ _).mono ?_; rintro e w2 ⟨rfl, hm⟩; replace hc0 := hc0.trans hm; clear hm; generalize ((w1.alloc (.cells #[.int .i64 0, .int .i64 0, .map none] 67)).alloc (.cells #[.int .i64 0, .slice none 0 0] 69)) = WB at hc0 hz0 hb0; have HC := hid hc0; have HZ := hid hz0; have HB := hid hb0; clear hc0 hz0 hb0)
    | (go_at_call 12; refine (see_zero _ _ _ _ _ ((HZ.out _ (by first | exact HC.out | exact Mod.alloc HC.out _)).1)).mono ?_; rintro e w3 ⟨rfl, hm⟩; have HC' := hid ((show Mod [] WB _ from (by first | exact HC.out | exact Mod.alloc HC.out _)).trans hm); clear hm HC; have HC := HC'; clear HC')
    | (go_at_call 20; have q := TB.out; clear q TB; refine (find_nil _ _ _ _).mono ?_; rintro e w4 ⟨rfl, hm⟩; have HC' := hid ((show Mod [] WB _ from (by first | exact HC.out | exact Mod.alloc HC.out _)).trans hm); clear hm HC; have HC := HC'; clear HC')
    | (go_at_call 20; refine (find_zero _ _ _ _ _ ((HZ.out _ (by first | exact HC.out | exact Mod.alloc HC.out _)).2)).mono ?_; rintro e w5 ⟨rfl, hm⟩; have HC' := hid ((show Mod [] WB _ from (by first | exact HC.out | exact Mod.alloc HC.out _)).trans hm); clear hm HC; have HC := HC'; clear HC')
    | (go_at_call 26; refine (drop_nil _ _).mono ?_; rintro e w6 ⟨rfl, hm⟩; have HC' := hid ((show Mod [] WB _ from (by first | exact HC.out | exact Mod.alloc HC.out _)).trans hm); clear hm HC; have HC := HC'; clear HC')
    | (go_at_call 19; have q := TC.out; clear q TC; refine (put_nil _ noTk (.slice none 0 0)).mono ?_; rintro e w7 ⟨rfl, hm⟩; have HC' := hid ((show Mod [] WB _ from (by first | exact HC.out | exact Mod.alloc HC.out _)).trans hm); clear hm HC; have HC := HC'; clear HC')
    | (go_at_call 19; refine (put_zero _ _ noTk (.slice none 0 0) ((HZ.out _ (by first | exact HC.out | exact Mod.alloc HC.out _)).2)).mono ?_; rintro e w8 ⟨rfl, hm⟩; have HC' := hid ((show Mod [] WB _ from (by first | exact HC.out | exact Mod.alloc HC.out _)).trans hm); clear hm HC; have HC := HC'; clear HC')
    | (go_at_call 14; have q := TD.out; clear q TD; refine (rlen_nil _).mono ?_; rintro e w9 ⟨rfl, hm⟩; have HC' := hid ((show Mod [] WB _ from (by first | exact HC.out | exact Mod.alloc HC.out _)).trans hm); clear hm HC; have HC := HC'; clear HC')
    | (go_at_call 14; refine (rlen_zero _ _ ((HZ.out _ (by first | exact HC.out | exact Mod.alloc HC.out _)).1)).mono ?_; rintro e w10 ⟨rfl, hm⟩; have HC' := hid ((show Mod [] WB _ from (by first | exact HC.out | exact Mod.alloc HC.out _)).trans hm); clear hm HC; have HC := HC'; clear HC')
    | (go_at_call 23; have q := TE.out; clear q TE; refine (hlen_nil _).mono ?_; rintro e w11 ⟨rfl, hm⟩; have HC' := hid ((show Mod [] WB _ from (by first | exact HC.out | exact Mod.alloc HC.out _)).trans hm); clear hm HC; have HC := HC'; clear HC')
    | (go_at_call 23; refine (hlen_zero _ _ ((HZ.out _ (by first | exact HC.out | exact Mod.alloc HC.out _)).2)).mono ?_; rintro e w12 ⟨rfl, hm⟩; have HC' := hid ((show Mod [] WB _ from (by first | exact HC.out | exact Mod.alloc HC.out _)).trans hm); clear hm HC; have HC := HC'; clear HC')
    | (go_at_call 15; have q := TF.out; clear q TF; refine (rhas_nil _ _).mono ?_; rintro e w13 ⟨rfl, hm⟩; have HC' := hid ((show Mod [] WB _ from (by first | exact HC.out | exact Mod.alloc HC.out _)).trans hm); clear hm HC; have HC := HC'; clear HC')
    | (go_at_call 15; refine (rhas_zero _ _ _ ((HZ.out _ (by first | exact HC.out | exact Mod.alloc HC.out _)).1)).mono ?_; rintro e w14 ⟨rfl, hm⟩; have HC' := hid ((show Mod [] WB _ from (by first | exact HC.out | exact Mod.alloc HC.out _)).trans hm); clear hm HC; have HC := HC'; clear HC'))
  go_ret
  exact ⟨rfl, HB.out.trans HC.out⟩
end Go.Proofs.Yteifjbfojjjacaa
