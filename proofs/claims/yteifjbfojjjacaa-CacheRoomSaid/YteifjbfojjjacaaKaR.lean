/-
  CacheRoom, walked. No statement of a claim stands here; each contract names what it asks.
-/
import Derived.Test.YteifjbfojjjacaaKaJ
import Derived.Test.YteifjbfojjjacaaKaM
import Derived.Test.YteifjbfojjjacaaKaW
import Derived.Test.YteifjbfojjjacaaKa3
set_option linter.unusedSimpArgs false
namespace Go.Proofs.Yteifjbfojjjacaa
open Go Go.RowKit Go.ChangeMaps

/-- Both caches, each in blocks that are new since W. -/
structure RoomAt (W W' : World) (x b y : Nat) (v : Value) (room : Int) (s : RepS) (l : Tks) : Prop where
  rep : RepAt W' x b s
  held : HeldAt W' y v room l
  mod : Mod [] W W'
  nx : W.heap.size ≤ x
  nb : W.heap.size ≤ b
  ny : W.heap.size ≤ y
  nv : ∀ k, v.ownBlock = some k → W.heap.size ≤ k

theorem RoomAt.mod0 {W W' W'' : World} {x b y : Nat} {v : Value} {room : Int} {s : RepS} {l : Tks} (h : RoomAt W W' x b y v room s l) (m : Mod [] W' W'') : RoomAt W W'' x b y v room s l :=
  ⟨h.rep.mod m (by simp) (by simp), h.held.mod0 m, h.mod.trans m, h.nx, h.nb, h.ny, h.nv⟩
theorem RoomAt.see {W W1 W2 : World} {x b y : Nat} {v : Value} {room : Int} {s s' : RepS} {l : Tks} (h : RoomAt W W1 x b y v room s l) (r2 : RepAt W2 x b s') (m2 : Mod [b] W1 W2) : RoomAt W W2 x b y v room s' l := by
  have hy : y ≠ b := ne_map h.held.cells h.rep.map
  refine ⟨r2, ⟨m2.get h.held.cells (by simpa using hy), row_mod h.held.row m2 (fun k hk => by obtain ⟨c, hc⟩ := row_block h.held.row hk; simpa using ne_map hc h.rep.map), fun p hp => row_mod (h.held.keys p hp) m2 (fun k hk => by obtain ⟨c, hc⟩ := row_block (h.held.keys p hp) hk; simpa using ne_map hc h.rep.map)⟩, h.mod.trans' m2 (fun k hk => .inr ?_), h.nx, h.nb, h.ny, h.nv⟩
  rw [List.mem_singleton.1 hk]; exact h.nb
theorem RoomAt.put {W W1 W2 : World} {x b y : Nat} {v v' : Value} {room : Int} {s : RepS} {l l' : Tks} (h : RoomAt W W1 x b y v room s l) (h2 : HeldAt W2 y v' room l') (m2 : Mod (y :: v.ownBlock.toList) W1 W2) (hv : ∀ q, v'.ownBlock = some q → v.ownBlock = some q ∨ W1.heap.size ≤ q) : RoomAt W W2 x b y v' room s l' := by
  have hyx : x ≠ y := ne_ty h.rep.cells h.held.cells (by decide)
  have hyb : b ≠ y := (ne_map h.held.cells h.rep.map).symm
  have hin : ∀ k ∈ y :: v.ownBlock.toList, k = y ∨ v.ownBlock = some k := fun k hk => by
    rcases List.mem_cons.1 hk with rfl | hk
    · exact .inl rfl
    · exact .inr (by simpa using hk)
  have hx : x ∉ y :: v.ownBlock.toList := fun hk => by
    rcases hin x hk with e | e
    · exact hyx e
    · obtain ⟨c, hc⟩ := row_block h.held.row e
      exact ne_ty hc h.rep.cells (by decide) rfl
  have hb : b ∉ y :: v.ownBlock.toList := fun hk => by
    rcases hin b hk with e | e
    · exact hyb e
    · obtain ⟨c, hc⟩ := row_block h.held.row e
      exact ne_map hc h.rep.map rfl
  refine ⟨h.rep.mod m2 hx hb, h2, h.mod.trans' m2 (fun k hk => .inr ?_), h.nx, h.nb, h.ny, fun q hq => ?_⟩
  · rcases hin k hk with rfl | e
    · exact h.ny
    · exact h.nv k e
  · rcases hv q hq with e | e
    · exact h.nv q e
    · exact Nat.le_trans h.mod.size e



set_option maxRecDepth 20000 in
set_option maxHeartbeats 2000000 in
theorem room_any (W : World) (room more : Int) :
    Calls Try.prog 6 #[.int .i64 room, .int .i64 more] W fun e W' => e = .returned (.bool true) ∧ Mod [] W W' := by
  have hr : 0 ≤ among room 60 ∧ among room 60 < 60 := ⟨Int.emod_nonneg _ (by omega), Int.emod_lt_of_pos _ (by omega)⟩
  have hw : 0 ≤ among more 10 ∧ among more 10 < 10 := ⟨Int.emod_nonneg _ (by omega), Int.emod_lt_of_pos _ (by omega)⟩
  obtain ⟨rm, hrm⟩ : ∃ rm : Int, rm = 1 + among room 60 := ⟨_, rfl⟩
  have e1 : IntKind.i64.wrap (1 + among room 60) = rm := by rw [hrm]; exact IntWalk.i64_in _ (by omega)
  have hrm1 : 1 ≤ rm := by omega
  have hrm2 : rm ≤ 60 := by omega
  have hro : roomOk rm = true := by simp only [roomOk, Bool.and_eq_true, decide_eq_true_eq]; omega
  have hwo : timeOk 10 = true := by decide
  have HG := hid (And.intro hro hwo)
  clear hro hwo hrm hr
  go_enter Try.func6, Try.ntmps6
  go_wp2_with (first
    | (go_at_call 11; refine (works_any _).mono ?_; rintro e w1 ⟨rfl, hm1⟩; have HM1 := hid hm1; clear hm1)
    | (go_at_call 17; refine (among_any _ _ _ (by omega) (by omega)).mono ?_; rintro e w' ⟨rfl, rfl⟩)
    | (go_at_call 9; refine (makeRep_yes rm 10 _ HG.out.1 HG.out.2).mono ?_; rintro e w2 ⟨x, b, rfl, hr2, hm2, hx, hb⟩; have H2 := hid (And.intro hr2 (And.intro hm2 (And.intro hx hb))); clear hr2 hm2 hx hb)
    | (go_at_call 18; refine (makeHeld_yes rm _ HG.out.1).mono ?_; rintro e w3 ⟨rfl, hc3, hm3⟩; have H3 := hid (And.intro hc3 hm3); clear hc3 hm3))
  have hA : RoomAt W w3 x b w2.heap.size (.slice none 0 0) rm (repOf rm 0) [] :=
    ⟨H2.out.1.mod H3.out.2 (by simp) (by simp), ⟨H3.out.1, ⟨rfl, .inl ⟨rfl, rfl⟩⟩, fun p hp => by cases hp⟩, (HM1.out.trans H2.out.2.1).trans H3.out.2, Nat.le_trans HM1.out.size H2.out.2.2.1, Nat.le_trans HM1.out.size H2.out.2.2.2, (HM1.out.trans H2.out.2.1).size, fun k hk => (by cases hk)⟩
  have HA := hid hA
  clear hA H2 H3 HM1
  generalize w2.heap.size = y at *
  obtain ⟨nn, hnn⟩ : ∃ n, n = among more 10 := ⟨_, rfl⟩
  rw [← hnn] at hw
  obtain ⟨T, hT⟩ : ∃ T : Nat, (T : Int) = rm + nn := ⟨(rm + nn).toNat, by omega⟩
  have e2 : IntKind.i64.wrap (rm + nn) = (T : Int) := by rw [← hT]; exact IntWalk.i64_in _ (by omega)
  have e3 : wrap64 (rm + nn) = (T : Int) := by rw [← hT]; exact IntWalk.wrap64_in _ (by omega)
  have e6 : rm + among more 10 = (T : Int) := by rw [← hnn, hT]
  have hT70 : T ≤ 69 := by omega
  have hrT : rm ≤ (T : Int) := by omega
  clear hT hnn hw
  go_loopg [9] T (fun gk i W' => ∃ (j a m : Nat) (v : Value) (l : Tks), i = .int .i64 (j : Int) ∧ gk + j = T ∧ a + m = j ∧ (m : Int) ≤ rm ∧ (a = 0 ∨ (m : Int) = rm) ∧ TksFrom a m l ∧ RoomAt W W' x b y v rm (repOf rm m) l)
  case atStart => exact ⟨0, 0, 0, _, [], rfl, rfl, rfl, by omega, .inl rfl, TksFrom.nil, HA.out⟩
  case round =>
    obtain ⟨j, a, m, v, l, rfl, hj, ham, hmr, hor, hl, hR⟩ := hrel
    have HR := hid hR
    have HL := hid hl
    have j0 : (0 : Int) ≤ (j : Int) := Int.natCast_nonneg _
    clear hR HA hl
    by_cases hjT : j < T
    · have d1 : decide ((j : Int) < (T : Int)) = true := by rw [decide_eq_true_eq]; omega
      have d2 : decide (j < T) = true := by rw [decide_eq_true_eq]; omega
      have hpair : ∃ (a' m' : Nat) (k' : Int), a' + m' = j + 1 ∧ (m' : Int) ≤ rm ∧ (a' = 0 ∨ (m' : Int) = rm) ∧ ((if rm ≤ (j : Int) then (60 : Int) else 0) = k') ∧ ((m' : Int) = min ((j : Int) + 1) rm) ∧
          (∀ W', RepAt W' x b (repOf rm m) → Calls Try.prog 12 #[.pointer (some ⟨x, 0, none⟩), .string (itoaS (j : Int)), .int .i64 5, .int .i64 5] W' fun e w' => e = .returned (.tuple #[.int .i64 k', .int .i64 0]) ∧ RepAt w' x b (repOf rm m') ∧ Mod [b] W' w') ∧
          (∀ W', HeldAt W' y v rm l → Calls Try.prog 19 #[.pointer (some ⟨y, 0, none⟩), .agg #[.string (itoaS (j : Int)), .string ⟨#[115]⟩, .slice none 0 0, .int .i64 0, .int .i64 (10 + (j : Int)), .int .i64 0, .int .i64 0]] W' fun e w' => e = .returned (.int .i64 0) ∧ ∃ v' l', TksFrom a' m' l' ∧ HeldAt w' y v' rm l' ∧ Mod (y :: v.ownBlock.toList) W' w' ∧ ∀ q, v'.ownBlock = some q → v.ownBlock = some q ∨ W'.heap.size ≤ q) := by
        rcases Int.lt_or_le (m : Int) rm with hlt | hge
        · have ha : a = 0 := by omega
          subst ha
          have hmj : m = j := by omega
          subst hmj
          refine ⟨0, m + 1, 0, by omega, by omega, .inl rfl, if_neg (by omega), by omega, fun W' h => ?_, fun W' h => ?_⟩
          · have := see_any W' x b (repOf rm m) (itoaS (m : Int)) 5 5 h (repOf_ok HG.out.1 _ (by omega) (by omega))
            rw [show SeePost W' x b (repOf rm m) (itoaS (m : Int)) 5 5 = _ from by unfold SeePost; rw [see_room hlt (by omega)]] at this
            exact this
          · have := put_new W' y v rm l (tkOf m) (.slice none 0 0) h (by omega) (by rw [HL.out.len]; omega) (.inl ⟨rfl, rfl⟩) (by show (0 : Nat) ≤ 100000000; omega) (timeOk_small (Int.le_refl 0) (by show (0 : Int) ≤ 1000; omega)) (timeOk_small (by show 0 ≤ 10 + (m : Int); omega) (by show 10 + (m : Int) ≤ 1000; omega)) (HL.out.absent (by omega) (by omega) (by omega) (.inr (by omega))) (by rw [HL.out.len]; omega)
            refine this.mono ?_
            rintro e w' ⟨rfl, kv', v', h1, h2, h3⟩
            have := HL.out.more kv'
            rw [Nat.zero_add] at this
            exact ⟨rfl, v', _, this, h1, h2, h3⟩
        · have hmr2 : (m : Int) = rm := by omega
          obtain ⟨m0, rfl⟩ : ∃ m0, m = m0 + 1 := ⟨m - 1, by omega⟩
          refine ⟨a + 1, m0 + 1, 60, by omega, by omega, .inr hmr2, if_pos (by omega), by omega, fun W' h => ?_, fun W' h => ?_⟩
          · have := see_any W' x b (repOf rm (m0 + 1)) (itoaS (j : Int)) 5 5 h (repOf_ok HG.out.1 _ (by omega) (by omega))
            rw [show SeePost W' x b (repOf rm (m0 + 1)) (itoaS (j : Int)) 5 5 = _ from by unfold SeePost; rw [see_full hmr2 (by omega) (by omega)]] at this
            exact this
          · have := put_full W' y v rm l (tkOf j) (.slice none 0 0) h (by omega) (by rw [HL.out.len]; omega) (.inl ⟨rfl, rfl⟩) (by show (0 : Nat) ≤ 100000000; omega) (timeOk_small (Int.le_refl 0) (by show (0 : Int) ≤ 1000; omega)) (timeOk_small (by show 0 ≤ 10 + (j : Int); omega) (by show 10 + (j : Int) ≤ 1000; omega)) 0 (by rw [HL.out.len]; omega) (HL.out.absent (by omega) (by omega) (by omega) (.inr (by omega))) (by rw [HL.out.len]; omega) HL.out.first (fun W'' _ => .inl ⟨rfl, rfl⟩)
            refine this.mono ?_
            rintro e w' ⟨rfl, kv', v', h1, h2, h3⟩
            have := HL.out.turn kv'
            rw [show a + 1 + m0 = j by omega] at this
            exact ⟨rfl, v', _, this, h1, h2, h3⟩
      obtain ⟨a', m', k', ham', hmr', hor', hk', hmin, hsee, hput⟩ := hpair
      have mn1 : (if (j : Int) + 1 < rm then (j : Int) + 1 else rm) = (m' : Int) := by split <;> omega
      have mn2 : (if rm < (j : Int) + 1 then rm else (j : Int) + 1) = (m' : Int) := by split <;> omega
      have mn3 : (if (j : Int) + 1 ≤ rm then (j : Int) + 1 else rm) = (m' : Int) := by split <;> omega
      have mn4 : (if rm ≤ (j : Int) + 1 then rm else (j : Int) + 1) = (m' : Int) := by split <;> omega
      have mn5 : (if rm ≤ (j : Int) then rm else (j : Int) + 1) = (m' : Int) := by split <;> omega
      have mn6 : (if (j : Int) < rm then (j : Int) + 1 else rm) = (m' : Int) := by split <;> omega
      obtain ⟨dd, hdd⟩ : ∃ d : Int, d = (j : Int) - rm := ⟨_, rfl⟩
      have e4 : wrap64 ((j : Int) - rm) = dd := by rw [hdd]; exact IntWalk.wrap64_in _ (by omega)
      have e5 : IntKind.i64.wrap ((j : Int) - rm) = dd := by rw [hdd]; exact IntWalk.i64_in _ (by omega)
      have hdr : -70 ≤ dd ∧ dd ≤ 70 ∧ dd < a' := by omega
      have HD := hid hdr
      have HS := hid hsee
      have HP := hid hput
      have HM := hid (And.intro hj (And.intro ham' (And.intro hmr' hor')))
      clear hsee hput hdd hdr hmin hj ham ham' hmr' hor' hor hmr
      have hjr : (j : Int) ≤ 70 := by omega
      cases hb : decide (rm ≤ (j : Int)) with
      | true =>
        have hk2 : k' = 60 := by rw [← hk', if_pos (of_decide_eq_true hb)]
        subst hk2
        clear hk'
        go_wp2_with (first
          | (go_at_call 17; refine (among_any _ _ _ (by omega) (by omega)).mono ?_; rintro e w' ⟨rfl, rfl⟩)
          | (go_at_call 22; have q := HP.out; clear q; refine (itoa_any _ (j : Int) (by omega) (by omega)).mono ?_; rintro e w5 ⟨rfl, hm5⟩; replace HR := hid (HR.out.mod0 hm5); clear hm5)
          | (go_at_call 22; refine (itoa_any _ dd (by have := HD.out; omega) (by have := HD.out; omega)).mono ?_; rintro e w5 ⟨rfl, hm5⟩; replace HR := hid (HR.out.mod0 hm5); clear hm5)
          | (go_at_call 12; refine (HS.out _ HR.out.rep).mono ?_; rintro e w6 ⟨rfl, hr6, hm6⟩; replace HR := hid (HR.out.see hr6 hm6); clear hr6 hm6 HS)
          | (go_at_call 19; refine (HP.out _ HR.out.held).mono ?_; rintro e w7 ⟨rfl, v', l', hl7, hh7, hm7, hv7⟩; replace HR := hid (HR.out.put hh7 hm7 hv7); replace HL := hid hl7; clear hl7 hh7 hm7 hv7 HP)
          | (go_at_call 14; refine (rlen_any _ _ _ _ HR.out.rep).mono ?_; rw [repOf_len]; rintro e w8 ⟨rfl, rfl⟩)
          | (go_at_call 23; refine (hlen_any _ _ _ _ _ HR.out.held (by omega)).mono ?_; rw [HL.out.len]; rintro e w8 ⟨rfl, rfl⟩)
          | (go_at_call 20; refine (find_none _ _ _ _ _ _ _ _ HR.out.held (by omega) (by rw [HL.out.len]; have := HM.out; omega) (by decide) (HL.out.absent (by have := HM.out; omega) (by have := HD.out; omega) (by have := HD.out; omega) (.inl HD.out.2.2))).mono ?_; rintro e w9 ⟨rfl, hm9⟩; replace HR := hid (HR.out.mod0 hm9); clear hm9; simp only [noTk, TkS.cells]; have hq := get_new w9 (.cells #[.string ⟨#[]⟩, .string ⟨#[]⟩, .slice none 0 0, .int .i64 0, .int .i64 0, .int .i64 0, .int .i64 0] 50); have r0 := cell_at hq 0; have r1 := cell_at hq 1; have r2 := cell_at hq 2; have r3 := cell_at hq 3; have r4 := cell_at hq 4; have r5 := cell_at hq 5; have r6 := cell_at hq 6; have rf := free_at hq; simp only [List.getElem?_toArray, List.getElem?_cons_zero, List.getElem?_cons_succ] at r0 r1 r2 r3 r4 r5 r6; clear hq))
        go_roundg (gk - 1)
        case measure => have := HM.out; omega
        case rel => exact ⟨j + 1, a', m', v', l', by go_num, by have := HM.out; omega, HM.out.2.1, HM.out.2.2.1, HM.out.2.2.2, HL.out, HR.out.mod0 (Mod.alloc (Mod.refl _ _) _)⟩
      | false =>
        have hk2 : k' = 0 := by rw [← hk', if_neg (of_decide_eq_false hb)]
        subst hk2
        clear hk'
        go_wp2_with (first
          | (go_at_call 17; refine (among_any _ _ _ (by omega) (by omega)).mono ?_; rintro e w' ⟨rfl, rfl⟩)
          | (go_at_call 22; have q := HP.out; clear q; refine (itoa_any _ (j : Int) (by omega) (by omega)).mono ?_; rintro e w5 ⟨rfl, hm5⟩; replace HR := hid (HR.out.mod0 hm5); clear hm5)
          | (go_at_call 22; refine (itoa_any _ dd (by have := HD.out; omega) (by have := HD.out; omega)).mono ?_; rintro e w5 ⟨rfl, hm5⟩; replace HR := hid (HR.out.mod0 hm5); clear hm5)
          | (go_at_call 12; refine (HS.out _ HR.out.rep).mono ?_; rintro e w6 ⟨rfl, hr6, hm6⟩; replace HR := hid (HR.out.see hr6 hm6); clear hr6 hm6 HS)
          | (go_at_call 19; refine (HP.out _ HR.out.held).mono ?_; rintro e w7 ⟨rfl, v', l', hl7, hh7, hm7, hv7⟩; replace HR := hid (HR.out.put hh7 hm7 hv7); replace HL := hid hl7; clear hl7 hh7 hm7 hv7 HP)
          | (go_at_call 14; refine (rlen_any _ _ _ _ HR.out.rep).mono ?_; rw [repOf_len]; rintro e w8 ⟨rfl, rfl⟩)
          | (go_at_call 23; refine (hlen_any _ _ _ _ _ HR.out.held (by omega)).mono ?_; rw [HL.out.len]; rintro e w8 ⟨rfl, rfl⟩)
          | (go_at_call 20; refine (find_none _ _ _ _ _ _ _ _ HR.out.held (by omega) (by rw [HL.out.len]; have := HM.out; omega) (by decide) (HL.out.absent (by have := HM.out; omega) (by have := HD.out; omega) (by have := HD.out; omega) (.inl HD.out.2.2))).mono ?_; rintro e w9 ⟨rfl, hm9⟩; replace HR := hid (HR.out.mod0 hm9); clear hm9; simp only [noTk, TkS.cells]; have hq := get_new w9 (.cells #[.string ⟨#[]⟩, .string ⟨#[]⟩, .slice none 0 0, .int .i64 0, .int .i64 0, .int .i64 0, .int .i64 0] 50); have r0 := cell_at hq 0; have r1 := cell_at hq 1; have r2 := cell_at hq 2; have r3 := cell_at hq 3; have r4 := cell_at hq 4; have r5 := cell_at hq 5; have r6 := cell_at hq 6; have rf := free_at hq; simp only [List.getElem?_toArray, List.getElem?_cons_zero, List.getElem?_cons_succ] at r0 r1 r2 r3 r4 r5 r6; clear hq))
        go_roundg (gk - 1)
        case measure => have := HM.out; omega
        case rel => exact ⟨j + 1, a', m', v', l', by go_num, by have := HM.out; omega, HM.out.2.1, HM.out.2.2.1, HM.out.2.2.2, HL.out, HR.out.mod0 (Mod.alloc (Mod.refl _ _) _)⟩
    · have d1 : decide ((j : Int) < (T : Int)) = false := by rw [decide_eq_false_iff_not]; omega
      have d3 : decide (j < T) = false := by rw [decide_eq_false_iff_not]; omega
      have hx := see_any wr x b (repOf rm m) ⟨#[120]⟩ 16 16 HR.out.rep (repOf_ok HG.out.1 _ (by omega) (by omega))
      rw [show SeePost wr x b (repOf rm m) ⟨#[120]⟩ 16 16 = _ from by unfold SeePost; rw [see_x hrm1]] at hx
      have HX := hid hx
      clear hx
      go_wp2_with (first
        | (go_at_call 17; refine (among_any _ _ _ (by omega) (by omega)).mono ?_; rintro e w' ⟨rfl, rfl⟩)
        | (go_at_call 12; refine HX.out.mono ?_; rintro e w6 ⟨rfl, hr6, hm6⟩; replace HR := hid (HR.out.see hr6 hm6); clear hr6 hm6 HX)
        | (go_at_call 14; refine (rlen_any _ _ _ _ HR.out.rep).mono ?_; rintro e w8 ⟨rfl, rfl⟩))
      go_ret
      exact ⟨rfl, HR.out.mod⟩
end Go.Proofs.Yteifjbfojjjacaa
