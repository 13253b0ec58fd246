/-
  CacheSees, walked: both replay caches side by side. No statement of a claim stands here; each contract names what it asks.
-/
import Derived.Test.YteifjbfojjjacaaKaW
import Derived.Test.YteifjbfojjjacaaKa5
import Derived.Test.YteifjbfojjjacaaKaT
set_option linter.unusedSimpArgs false
namespace Go.Proofs.Yteifjbfojjjacaa
open Go Go.RowKit Go.ChangeMaps

/-- Both caches lie in blocks that are new since W. -/
structure Two (W W' : World) (x b y : Nat) (vl : Value) (s : RepS) : Prop where
  rep : RepAt W' x b s
  ref : RRepAt W' y vl s
  ok : ROk s
  t : TOk s
  mod : Mod [] W W'
  nx : W.heap.size ≤ x
  nb : W.heap.size ≤ b
  ny : W.heap.size ≤ y
  nv : ∀ k, vl.ownBlock = some k → W.heap.size ≤ k

theorem Two.mod0 {W W' W'' : World} {x b y : Nat} {vl : Value} {s : RepS} (h : Two W W' x b y vl s) (m : Mod [] W' W'') : Two W W'' x b y vl s :=
  ⟨h.rep.mod m (by simp) (by simp), h.ref.mod m (by simp) (by simp), h.ok, h.t, h.mod.trans m, h.nx, h.nb, h.ny, h.nv⟩
/-- The one, then the other. -/
theorem Two.step {W W1 W2 W3 : World} {x b y : Nat} {vl vl' : Value} {s s' : RepS} (h : Two W W1 x b y vl s) (r2 : RepAt W2 x b s') (m2 : Mod [b] W1 W2) (r3 : RRepAt W3 y vl' s') (m3 : Mod [y] W2 W3) (hv : ∀ k, vl'.ownBlock = some k → vl.ownBlock = some k ∨ W2.heap.size ≤ k) (ho : ROk s') (ht : TOk s') : Two W W3 x b y vl' s' := by
  have h1 : y ≠ x := by rintro rfl; have := h.ref.cells; rw [h.rep.cells] at this; cases this
  have h2 : y ≠ b := ne_map h.ref.cells h.rep.map
  have sz := h.mod.size
  have sz2 := m2.size
  refine ⟨r2.mod m3 (by simpa using h1.symm) (by simpa using h2.symm), r3, ho, ht, (h.mod.trans' m2 (fun k hk => .inr ?_)).trans' m3 (fun k hk => .inr ?_), h.nx, h.nb, h.ny, fun k hk => ?_⟩
  · rw [List.mem_singleton.1 hk]; exact h.nb
  · rw [List.mem_singleton.1 hk]; exact h.ny
  · rcases hv k hk with h' | h'
    · exact h.nv k h'
    · omega
theorem Two.ref2 {W W1 W2 : World} {x b y : Nat} {vl : Value} {s : RepS} (h : Two W W1 x b y vl s) (m2 : Mod [b] W1 W2) : RRepAt W2 y vl s :=
  h.ref.mod m2 (by simpa using ne_map h.ref.cells h.rep.map) (fun k hk => by obtain ⟨c, hc⟩ := row_block h.ref.row hk; simpa using ne_map hc h.rep.map)


set_option maxRecDepth 20000 in
set_option maxHeartbeats 2000000 in
theorem sees_any (W : World) (room window : Int) (a : Option Addr) (c : Nat) (l : List SightS) (hm : SightsAt W a l) (hlen : l.length ≤ maxLen) :
    Calls Try.prog 3 #[.int .i64 room, .int .i64 window, .slice a l.length c] W fun e W' => e = .returned (.bool true) ∧ Mod [] W W' := by
  have HMV := hid hm
  clear hm
  cases hg : (roomOk room && timeOk window) with
  | false =>
    have HG := hid hg
    clear hg
    go_enter Try.func3, Try.ntmps3
    go_wp2_with (first
      | (go_at_call 9; refine (makeRep_no room window _ HG.out).mono ?_; rintro e w2 ⟨rfl, hm2⟩)
      | (go_at_call 10; refine (rMakeRep_no room window _ HG.out).mono ?_; rintro e w3 ⟨rfl, hm3⟩)
      | (go_at_call 11; refine (works_any _).mono ?_; rintro e w1 ⟨rfl, hm1⟩))
    go_ret
    exact ⟨rfl, (hm2.trans hm3).trans hm1⟩
  | true =>
    rw [Bool.and_eq_true] at hg
    have HG := hid hg
    clear hg
    go_enter Try.func3, Try.ntmps3
    go_wp2_with (first
      | (go_at_call 9; refine (makeRep_yes room window _ HG.out.1 HG.out.2).mono ?_; rintro e w2 ⟨x, b, rfl, hr2, hm2, hx, hb⟩; have H2 := hid (And.intro hr2 (And.intro hm2 (And.intro hx hb))); clear hr2 hm2 hx hb)
      | (go_at_call 10; refine (rMakeRep_yes room window _ HG.out.1 HG.out.2).mono ?_; rintro e w3 ⟨y, rfl, hr3, hm3, hy⟩; have H3 := hid (And.intro hr3 (And.intro hm3 hy)); clear hr3 hm3 hy))
    have hB : Two W w3 x b y (.slice none 0 0) (newRep room window) := ⟨H2.out.1.mod H3.out.2.1 (by simp) (by simp), H3.out.1, newRep_ok HG.out.1 HG.out.2, fun e he => (by cases he), H2.out.2.1.trans H3.out.2.1, H2.out.2.2.1, H2.out.2.2.2, Nat.le_trans H2.out.2.1.size H3.out.2.2, fun k hk => (by cases hk)⟩
    have HB := hid hB
    clear hB H2 H3
    generalize newRep room window = s0 at *
    go_loopg [11] l.length (fun gk i W' => ∃ (j : Nat) (s : RepS) (vl : Value), i = .int .i64 (j : Int) ∧ gk + j = l.length ∧ j ≤ 100 ∧ Two W W' x b y vl s)
    case atStart => exact ⟨0, s0, _, rfl, by omega, by omega, HB.out⟩
    case round =>
      obtain ⟨j, s, vl, rfl, hj, hj100, hT⟩ := hrel
      have HT := hid hT
      clear hT
      by_cases hjn : j < l.length
      · by_cases hj2 : j < 100
        · have hmj : l[j]? = some l[j] := List.getElem?_eq_getElem hjn
          obtain ⟨mb, mo, rfl, hmb, hmc⟩ := HMV.out.cell j _ hmj
          generalize l[j] = m at hmj hmc
          obtain ⟨idt, tm, nw⟩ := m
          have hmw : ∀ (W' : World), Mod [] W W' → ∀ j' u, (⟨idt, tm, nw⟩ : SightS).cells[j']? = some u → W'.cell? ⟨mb, mo + j * 3 + j', none⟩ = some u := fun W' hm j' u hu => hm.cell (hmc j' u hu) (by simp)
          have HMW := hid hmw
          have m0 : wr.cell? ⟨mb, mo + j * 3, none⟩ = some (.string idt) := hmw _ HT.out.mod 0 _ rfl
          have j0 : (0 : Int) ≤ (j : Int) := Int.natCast_nonneg _
          have j1 : (j : Int) < (l.length : Int) := by omega
          have j2 : (j : Int) < 100 := by omega
          obtain ⟨cz, hcz⟩ : ∃ k : Nat, k = min idt.size 4097 := ⟨_, rfl⟩
          have cz1 : (if (4097 : Int) < (idt.size : Int) then (4097 : Int) else (idt.size : Int)) = (cz : Int) := by split <;> omega
          have cz2 : (if 4097 < idt.size then (4097 : Int) else (idt.size : Int)) = (cz : Int) := by split <;> omega
          have cz3 : cz ≤ idt.size := by omega
          have cz4 : (0 : Int) ≤ (cz : Int) := Int.natCast_nonneg _
          have HJ := hid (And.intro hj hj100)
          clear hmc hmb hmw hj hj100 hcz hmj hlen
          obtain ⟨r, hr⟩ : ∃ r, r = seeS s (idt.extract 0 cz) tm nw := ⟨_, rfl⟩
          have hok : ROk r.1 := by rw [hr]; exact seeS_ok HT.out.ok _ _ _
          have htk : TOk r.1 := by rw [hr]; exact seeS_t HT.out.t _ _ _
          have hsee : ∀ W', RepAt W' x b s → Calls Try.prog 12 #[.pointer (some ⟨x, 0, none⟩), .string (idt.extract 0 cz), .int .i64 tm, .int .i64 nw] W' fun e w' => e = .returned (.tuple #[.int .i64 r.2.1, .int .i64 r.2.2]) ∧ RepAt w' x b r.1 ∧ Mod [b] W' w' := by
            rw [hr]; exact fun W' h => see_any W' x b s (idt.extract 0 cz) tm nw h HT.out.ok
          have hrsee : ∀ W', RRepAt W' y vl s → Calls Try.prog 13 #[.pointer (some ⟨y, 0, none⟩), .string (idt.extract 0 cz), .int .i64 tm, .int .i64 nw] W' fun e w' => e = .returned (.tuple #[.int .i64 r.2.1, .int .i64 r.2.2]) ∧ ∃ vl', RRepAt w' y vl' r.1 ∧ Mod [y] W' w' ∧ ∀ k, vl'.ownBlock = some k → vl.ownBlock = some k ∨ W'.heap.size ≤ k := by
            rw [hr]; exact fun W' h => rSee_any W' y vl s (idt.extract 0 cz) tm nw h HT.out.ok HT.out.t
          clear hr
          obtain ⟨s', k', e'⟩ := r
          dsimp only at hok htk hsee hrsee
          have HOK := hid (And.intro hok htk)
          have HS1 := hid hsee
          have HS2 := hid hrsee
          clear hok htk hsee hrsee
          go_wp2_with fail
          go_quiet (fail)
          go_wp2_with fail
          refine wp_abs (fun W1 => Two W W1 x b y vl s) (HT.out.mod0 (Mod.drewN (Mod.refl _ _) _)) ?_
          clear HT m0 HB
          intro W1 hT
          have n1 : W1.cell? ⟨mb, mo + j * 3 + 1, none⟩ = some (.int .i64 tm) := HMW.out _ hT.mod 1 _ rfl
          have n2 : W1.cell? ⟨mb, mo + j * 3 + 2, none⟩ = some (.int .i64 nw) := HMW.out _ hT.mod 2 _ rfl
          have hmb : mb < W.heap.size := by
            have hb0 := HMW.out W (Mod.refl _ _) 0 _ rfl
            exact World.block_lt_of_cell? W _ hb0
          have hxb : mb ∉ [b] := by have := hT.nb; simp; omega
          have hxy : mb ∉ [y] := by have := hT.ny; simp; omega
          have HT1 := hid hT
          clear hT hmb
          refine wp_region_N (fun w' : World => w'.cell? ⟨mb, mo + j * 3 + 1, none⟩ = some (.int .i64 tm) ∧ w'.cell? ⟨mb, mo + j * 3 + 2, none⟩ = some (.int .i64 nw)) (fun _ => true) (by kernel_rfl) ?_
          have hS : (fun w' : World => w'.cell? ⟨mb, mo + j * 3 + 1, none⟩ = some (.int .i64 tm) ∧ w'.cell? ⟨mb, mo + j * 3 + 2, none⟩ = some (.int .i64 nw)) W1.drew := ⟨n1, n2⟩
          refine regA 0 66 (v := ?_) rfl rfl (by kernel_rfl) (by kernel_rfl) (by kernel_rfl) (fun _ _ _ h => h) (by rfl) (fun w => ?_) ?_; rotate_left; (go_simp; first | done | with_reducible rfl); (try simp only [Act.put, List.setIfInBounds_toArray, List.set_cons_zero, List.set_cons_succ])
          refine regA 1 67 (v := ?_) rfl rfl (by kernel_rfl) (by kernel_rfl) (by kernel_rfl) (fun _ _ _ h => h) (by rfl) (fun w => ?_) ?_; rotate_left; (go_simp; first | done | with_reducible rfl); (try simp only [Act.put, List.setIfInBounds_toArray, List.set_cons_zero, List.set_cons_succ])
          refine regA 2 68 (v := ?_) rfl rfl (by kernel_rfl) (by kernel_rfl) (by kernel_rfl) (fun _ _ _ h => h) (by rfl) (fun w => ?_) ?_; rotate_left; (go_simp; first | done | with_reducible rfl); (try simp only [Act.put, List.setIfInBounds_toArray, List.set_cons_zero, List.set_cons_succ])
          refine regA 3 69 (v := ?_) rfl rfl (by kernel_rfl) (by kernel_rfl) (by kernel_rfl) (fun _ _ _ h => h) (by rfl) (fun w => ?_) ?_; rotate_left; (go_simp; first | done | with_reducible rfl); (try simp only [Act.put, List.setIfInBounds_toArray, List.set_cons_zero, List.set_cons_succ])
          refine regA 4 70 (v := ?_) rfl rfl (by kernel_rfl) (by kernel_rfl) (by kernel_rfl) (fun _ _ _ h => h) (by rfl) (fun w => ?_) ?_; rotate_left; (go_simp; first | done | with_reducible rfl); (try simp only [Act.put, List.setIfInBounds_toArray, List.set_cons_zero, List.set_cons_succ])
          refine regA 5 71 (v := ?_) rfl rfl (by kernel_rfl) (by kernel_rfl) (by kernel_rfl) (fun _ _ _ h => h) (by rfl) (fun w => ?_) ?_; rotate_left; (go_simp; first | done | with_reducible rfl); (try simp only [Act.put, List.setIfInBounds_toArray, List.set_cons_zero, List.set_cons_succ])
          refine regS 6 72 (v := ?_) hS rfl rfl (by kernel_rfl) (by kernel_rfl) (by kernel_rfl) (by kernel_rfl) (fun _ _ _ h => h) (by rfl) (fun w hSw => ?_) ?_; rotate_left; (go_simp; first | done | with_reducible rfl); (try simp only [Act.put, List.setIfInBounds_toArray, List.set_cons_zero, List.set_cons_succ])
          refine regA 7 73 (v := ?_) rfl rfl (by kernel_rfl) (by kernel_rfl) (by kernel_rfl) (fun _ _ _ h => h) (by rfl) (fun w => ?_) ?_; rotate_left; (go_simp; first | done | with_reducible rfl); (try simp only [Act.put, List.setIfInBounds_toArray, List.set_cons_zero, List.set_cons_succ])
          refine regA 8 74 (v := ?_) rfl rfl (by kernel_rfl) (by kernel_rfl) (by kernel_rfl) (fun _ _ _ h => h) (by rfl) (fun w => ?_) ?_; rotate_left; (go_simp; first | done | with_reducible rfl); (try simp only [Act.put, List.setIfInBounds_toArray, List.set_cons_zero, List.set_cons_succ])
          refine regA 9 75 (v := ?_) rfl rfl (by kernel_rfl) (by kernel_rfl) (by kernel_rfl) (fun _ _ _ h => h) (by rfl) (fun w => ?_) ?_; rotate_left; (go_simp; first | done | with_reducible rfl); (try simp only [Act.put, List.setIfInBounds_toArray, List.set_cons_zero, List.set_cons_succ])
          refine regA 10 76 (v := ?_) rfl rfl (by kernel_rfl) (by kernel_rfl) (by kernel_rfl) (fun _ _ _ h => h) (by rfl) (fun w => ?_) ?_; rotate_left; (go_simp; first | done | with_reducible rfl); (try simp only [Act.put, List.setIfInBounds_toArray, List.set_cons_zero, List.set_cons_succ])
          refine regS 11 77 (v := ?_) hS rfl rfl (by kernel_rfl) (by kernel_rfl) (by kernel_rfl) (by kernel_rfl) (fun _ _ _ h => h) (by rfl) (fun w hSw => ?_) ?_; rotate_left; (go_simp; first | done | with_reducible rfl); (try simp only [Act.put, List.setIfInBounds_toArray, List.set_cons_zero, List.set_cons_succ])
          refine regOnly 12 (by kernel_rfl) rfl (by rfl) (fun K hK => ?_)
          go_wp2_with (first
            | (go_at_call 12; refine (HS1.out W1.drew (HT1.out.mod0 (Mod.refl _ _).drew).rep).mono ?_; rintro e w5 ⟨rfl, hr5, hm5⟩))
          refine hK.out _ _ (fun _ _ => ⟨hm5.cell n1 hxb, hm5.cell n2 hxb⟩) ?_
          clear hK hS
          have p1 := hm5.cell n1 hxb
          have p2 := hm5.cell n2 hxb
          have H5 := hid (And.intro hr5 (show Mod [b] W1 w5 from (Mod.refl [b] W1).drew.trans hm5))
          clear hr5 hm5 n1 n2
          (try simp only [Act.put, List.setIfInBounds_toArray, List.set_cons_zero, List.set_cons_succ])
          refine regA 13 65 (v := ?_) rfl rfl (by kernel_rfl) (by kernel_rfl) (by kernel_rfl) (fun _ _ _ h => h) (by rfl) (fun w => ?_) ?_; rotate_left; (go_simp; first | done | with_reducible rfl); (try simp only [Act.put, List.setIfInBounds_toArray, List.set_cons_zero, List.set_cons_succ])
          refine regA 14 79 (v := ?_) rfl rfl (by kernel_rfl) (by kernel_rfl) (by kernel_rfl) (fun _ _ _ h => h) (by rfl) (fun w => ?_) ?_; rotate_left; (go_simp; first | done | with_reducible rfl); (try simp only [Act.put, List.setIfInBounds_toArray, List.set_cons_zero, List.set_cons_succ])
          refine regA 15 80 (v := ?_) rfl rfl (by kernel_rfl) (by kernel_rfl) (by kernel_rfl) (fun _ _ _ h => h) (by rfl) (fun w => ?_) ?_; rotate_left; (go_simp; first | done | with_reducible rfl); (try simp only [Act.put, List.setIfInBounds_toArray, List.set_cons_zero, List.set_cons_succ])
          refine regOnly 16 (by kernel_rfl) rfl (by rfl) (fun K hK => ?_)
          go_wp2_with fail
          refine hK.out _ _ (fun _ h => h) ?_
          clear hK
          (try simp only [Act.put, List.setIfInBounds_toArray, List.set_cons_zero, List.set_cons_succ])
          refine regOnly 17 (by kernel_rfl) rfl (by rfl) (fun K hK => ?_)
          go_wp2_with fail
          refine hK.out _ _ (fun _ h => h) ?_
          clear hK
          (try simp only [Act.put, List.setIfInBounds_toArray, List.set_cons_zero, List.set_cons_succ])
          refine regDone (by kernel_rfl) ?_ _
          go_wp2_with fail
          refine wp_region_N (fun w' : World => w'.cell? ⟨mb, mo + j * 3 + 1, none⟩ = some (.int .i64 tm) ∧ w'.cell? ⟨mb, mo + j * 3 + 2, none⟩ = some (.int .i64 nw)) (fun _ => true) (by kernel_rfl) ?_
          have hS : (fun w' : World => w'.cell? ⟨mb, mo + j * 3 + 1, none⟩ = some (.int .i64 tm) ∧ w'.cell? ⟨mb, mo + j * 3 + 2, none⟩ = some (.int .i64 nw)) w5.drew := ⟨p1, p2⟩
          refine regA 0 82 (v := ?_) rfl rfl (by kernel_rfl) (by kernel_rfl) (by kernel_rfl) (fun _ _ _ h => h) (by rfl) (fun w => ?_) ?_; rotate_left; (go_simp; first | done | with_reducible rfl); (try simp only [Act.put, List.setIfInBounds_toArray, List.set_cons_zero, List.set_cons_succ])
          refine regA 1 83 (v := ?_) rfl rfl (by kernel_rfl) (by kernel_rfl) (by kernel_rfl) (fun _ _ _ h => h) (by rfl) (fun w => ?_) ?_; rotate_left; (go_simp; first | done | with_reducible rfl); (try simp only [Act.put, List.setIfInBounds_toArray, List.set_cons_zero, List.set_cons_succ])
          refine regA 2 84 (v := ?_) rfl rfl (by kernel_rfl) (by kernel_rfl) (by kernel_rfl) (fun _ _ _ h => h) (by rfl) (fun w => ?_) ?_; rotate_left; (go_simp; first | done | with_reducible rfl); (try simp only [Act.put, List.setIfInBounds_toArray, List.set_cons_zero, List.set_cons_succ])
          refine regA 3 85 (v := ?_) rfl rfl (by kernel_rfl) (by kernel_rfl) (by kernel_rfl) (fun _ _ _ h => h) (by rfl) (fun w => ?_) ?_; rotate_left; (go_simp; first | done | with_reducible rfl); (try simp only [Act.put, List.setIfInBounds_toArray, List.set_cons_zero, List.set_cons_succ])
          refine regA 4 86 (v := ?_) rfl rfl (by kernel_rfl) (by kernel_rfl) (by kernel_rfl) (fun _ _ _ h => h) (by rfl) (fun w => ?_) ?_; rotate_left; (go_simp; first | done | with_reducible rfl); (try simp only [Act.put, List.setIfInBounds_toArray, List.set_cons_zero, List.set_cons_succ])
          refine regA 5 87 (v := ?_) rfl rfl (by kernel_rfl) (by kernel_rfl) (by kernel_rfl) (fun _ _ _ h => h) (by rfl) (fun w => ?_) ?_; rotate_left; (go_simp; first | done | with_reducible rfl); (try simp only [Act.put, List.setIfInBounds_toArray, List.set_cons_zero, List.set_cons_succ])
          refine regS 6 88 (v := ?_) hS rfl rfl (by kernel_rfl) (by kernel_rfl) (by kernel_rfl) (by kernel_rfl) (fun _ _ _ h => h) (by rfl) (fun w hSw => ?_) ?_; rotate_left; (go_simp; first | done | with_reducible rfl); (try simp only [Act.put, List.setIfInBounds_toArray, List.set_cons_zero, List.set_cons_succ])
          refine regA 7 89 (v := ?_) rfl rfl (by kernel_rfl) (by kernel_rfl) (by kernel_rfl) (fun _ _ _ h => h) (by rfl) (fun w => ?_) ?_; rotate_left; (go_simp; first | done | with_reducible rfl); (try simp only [Act.put, List.setIfInBounds_toArray, List.set_cons_zero, List.set_cons_succ])
          refine regA 8 90 (v := ?_) rfl rfl (by kernel_rfl) (by kernel_rfl) (by kernel_rfl) (fun _ _ _ h => h) (by rfl) (fun w => ?_) ?_; rotate_left; (go_simp; first | done | with_reducible rfl); (try simp only [Act.put, List.setIfInBounds_toArray, List.set_cons_zero, List.set_cons_succ])
          refine regA 9 91 (v := ?_) rfl rfl (by kernel_rfl) (by kernel_rfl) (by kernel_rfl) (fun _ _ _ h => h) (by rfl) (fun w => ?_) ?_; rotate_left; (go_simp; first | done | with_reducible rfl); (try simp only [Act.put, List.setIfInBounds_toArray, List.set_cons_zero, List.set_cons_succ])
          refine regA 10 92 (v := ?_) rfl rfl (by kernel_rfl) (by kernel_rfl) (by kernel_rfl) (fun _ _ _ h => h) (by rfl) (fun w => ?_) ?_; rotate_left; (go_simp; first | done | with_reducible rfl); (try simp only [Act.put, List.setIfInBounds_toArray, List.set_cons_zero, List.set_cons_succ])
          refine regS 11 93 (v := ?_) hS rfl rfl (by kernel_rfl) (by kernel_rfl) (by kernel_rfl) (by kernel_rfl) (fun _ _ _ h => h) (by rfl) (fun w hSw => ?_) ?_; rotate_left; (go_simp; first | done | with_reducible rfl); (try simp only [Act.put, List.setIfInBounds_toArray, List.set_cons_zero, List.set_cons_succ])
          refine regOnly 12 (by kernel_rfl) rfl (by rfl) (fun K hK => ?_)
          go_wp2_with (first
            | (go_at_call 13; refine (HS2.out w5.drew ((HT1.out.ref2 H5.out.2).mod (Mod.refl [] _).drew (by simp) (by simp))).mono ?_; rintro e w6 ⟨rfl, vl', hr6, hm6, hv6⟩))
          refine hK.out _ _ (fun _ _ => ⟨hm6.cell p1 hxy, hm6.cell p2 hxy⟩) ?_
          clear hK hS
          have H6 := hid (HT1.out.step H5.out.1 H5.out.2 hr6 ((Mod.refl [y] w5).drew.trans hm6) hv6 HOK.out.1 HOK.out.2)
          clear hr6 hm6 hv6 p1 p2 HT1 H5 HS1 HS2
          (try simp only [Act.put, List.setIfInBounds_toArray, List.set_cons_zero, List.set_cons_succ])
          refine regA 13 81 (v := ?_) rfl rfl (by kernel_rfl) (by kernel_rfl) (by kernel_rfl) (fun _ _ _ h => h) (by rfl) (fun w => ?_) ?_; rotate_left; (go_simp; first | done | with_reducible rfl); (try simp only [Act.put, List.setIfInBounds_toArray, List.set_cons_zero, List.set_cons_succ])
          refine regA 14 95 (v := ?_) rfl rfl (by kernel_rfl) (by kernel_rfl) (by kernel_rfl) (fun _ _ _ h => h) (by rfl) (fun w => ?_) ?_; rotate_left; (go_simp; first | done | with_reducible rfl); (try simp only [Act.put, List.setIfInBounds_toArray, List.set_cons_zero, List.set_cons_succ])
          refine regA 15 96 (v := ?_) rfl rfl (by kernel_rfl) (by kernel_rfl) (by kernel_rfl) (fun _ _ _ h => h) (by rfl) (fun w => ?_) ?_; rotate_left; (go_simp; first | done | with_reducible rfl); (try simp only [Act.put, List.setIfInBounds_toArray, List.set_cons_zero, List.set_cons_succ])
          refine regOnly 16 (by kernel_rfl) rfl (by rfl) (fun K hK => ?_)
          go_wp2_with fail
          refine hK.out _ _ (fun _ h => h) ?_
          clear hK
          (try simp only [Act.put, List.setIfInBounds_toArray, List.set_cons_zero, List.set_cons_succ])
          refine regOnly 17 (by kernel_rfl) rfl (by rfl) (fun K hK => ?_)
          go_wp2_with fail
          refine hK.out _ _ (fun _ h => h) ?_
          clear hK
          (try simp only [Act.put, List.setIfInBounds_toArray, List.set_cons_zero, List.set_cons_succ])
          refine regDone (by kernel_rfl) ?_ _
          go_wp2_with fail
          obtain ⟨av, cv, rfl⟩ := row_slice H6.out.ref.row
          have c2 : w6.cell? ⟨y, 2, none⟩ = some (.slice av s'.l.length cv) := cell_at H6.out.ref.cells 2
          have hl100 : s'.l.length ≤ 1000 := by have := H6.out.ok.len; have := H6.out.ok.r2; omega
          go_quiet (first
            | (go_at_call 14; exact Calls.quiet_of_same (rlen_any _ x b s' (H6.out.mod0 (Mod.drewN (Mod.refl _ _) _)).rep))
            | (go_at_call 15; exact Calls.quiet_of_same (rhas_any _ x b s' _ (H6.out.mod0 (Mod.drewN (Mod.refl _ _) _)).rep))
            | (go_at_call 16; exact Calls.quiet_of_same (rHas_any _ y _ s' _ (H6.out.mod0 (Mod.drewN (Mod.refl _ _) _)).ref hl100)))
          go_wp2_with fail
          go_roundg (gk - 1)
          case measure => have := HJ.out; omega
          case rel => exact ⟨j + 1, s', _, by go_num, by have := HJ.out; omega, by omega, H6.out.mod0 (Mod.drewN (Mod.refl _ _) _)⟩
        · have d1 : decide ((j : Int) < (l.length : Int)) = true := by rw [decide_eq_true_eq]; omega
          have d2 : decide ((j : Int) < 100) = false := by rw [decide_eq_false_iff_not]; omega
          have d3 : decide (j < l.length) = true := by rw [decide_eq_true_eq]; omega
          have d4 : decide (j < 100) = false := by rw [decide_eq_false_iff_not]; omega
          go_wp2_with (first | (go_at_call 11; refine (works_any _).mono ?_; rintro e w1 ⟨rfl, hm1⟩))
          go_ret
          exact ⟨rfl, HT.out.mod.trans hm1⟩
      · have d1 : decide ((j : Int) < (l.length : Int)) = false := by rw [decide_eq_false_iff_not]; omega
        have d3 : decide (j < l.length) = false := by rw [decide_eq_false_iff_not]; omega
        go_wp2_with (first | (go_at_call 11; refine (works_any _).mono ?_; rintro e w1 ⟨rfl, hm1⟩))
        go_ret
        exact ⟨rfl, HT.out.mod.trans hm1⟩
end Go.Proofs.Yteifjbfojjjacaa
