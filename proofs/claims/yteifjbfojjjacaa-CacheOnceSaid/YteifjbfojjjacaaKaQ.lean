/-
  CacheOnce, walked. No statement of a claim stands here; each contract names what it asks.
-/
import Derived.Test.YteifjbfojjjacaaKaP
set_option linter.unusedSimpArgs false
namespace Go.Proofs.Yteifjbfojjjacaa
open Go Go.RowKit Go.ChangeMaps

set_option maxRecDepth 20000 in
set_option maxHeartbeats 2000000 in
theorem once_any (W : World) (room window : Int) (a : Option Addr) (c : Nat) (l : List SightS) (hm : SightsAt W a l) (hlen : l.length ≤ maxLen) :
    Calls Try.prog 4 #[.int .i64 room, .int .i64 window, .slice a l.length c] W fun e W' => e = .returned (.bool true) ∧ Mod [] W W' := by
  have HMV := hid hm
  clear hm
  have hr : 0 ≤ among room 256 ∧ among room 256 < 256 := ⟨Int.emod_nonneg _ (by omega), Int.emod_lt_of_pos _ (by omega)⟩
  have hw : 0 ≤ among window 50 ∧ among window 50 < 50 := ⟨Int.emod_nonneg _ (by omega), Int.emod_lt_of_pos _ (by omega)⟩
  obtain ⟨rn, hrn⟩ : ∃ rn : Int, rn = 1 + among room 256 := ⟨_, rfl⟩
  have e1 : IntKind.i64.wrap (1 + among room 256) = rn := by rw [hrn]; exact IntWalk.i64_in _ (by omega)
  have hro : roomOk rn = true := by simp only [roomOk, Bool.and_eq_true, decide_eq_true_eq]; omega
  have hwo : timeOk (among window 50) = true := by simp only [timeOk, Bool.and_eq_true, decide_eq_true_eq]; omega
  have HG := hid (And.intro hro hwo)
  clear hro hwo hrn
  go_enter Try.func4, Try.ntmps4
  go_wp2_with (first
    | (go_at_call 11; refine (works_any _).mono ?_; rintro e w1 ⟨rfl, hm1⟩; have HM1 := hid hm1; clear hm1)
    | (go_at_call 17; refine (among_any _ _ _ (by omega) (by omega)).mono ?_; rintro e w' ⟨rfl, rfl⟩)
    | (go_at_call 9; refine (makeRep_yes rn (among window 50) _ HG.out.1 HG.out.2).mono ?_; rintro e w2 ⟨x, b, rfl, hr2, hm2, hx, hb⟩; have H2 := hid (And.intro hr2 (And.intro hm2 (And.intro hx hb))); clear hr2 hm2 hx hb))
  obtain ⟨wn, hwn⟩ : ∃ wn, wn = among window 50 := ⟨_, rfl⟩
  have hA : OnceAt W (w2.alloc (.cells #[] 32)) x b (among window 50) (.slice (some ⟨w2.heap.size, 0, none⟩) 0 0) (newRep rn (among window 50)) [] 0 :=
    ⟨H2.out.1.mod (Mod.alloc (Mod.refl [] _) _) (by simp) (by simp), ⟨rfl, .inr ⟨w2.heap.size, 0, #[], rfl, Nat.zero_le _, get_new w2 _, Nat.le_refl _, by unfold maxLen; omega, rfl, rfl⟩⟩, newRep_ok HG.out.1 HG.out.2, rfl, fun h hh => (by cases hh), fun h hh => (by cases hh), (HM1.out.trans H2.out.2.1).alloc _, Nat.le_trans HM1.out.size H2.out.2.2.1, Nat.le_trans HM1.out.size H2.out.2.2.2, fun k hk => by cases hk; exact (HM1.out.trans H2.out.2.1).size⟩
  rw [← hwn] at hw hA ⊢
  have HAA := hid hA
  clear hA H2 HG HM1 hwn
  generalize newRep rn wn = s0 at *
  go_loopg [9, 10, 11] l.length (fun gk nv v i W' => ∃ (j : Nat) (now : Int) (had : List SightS) (s : RepS), nv = .int .i64 now ∧ i = .int .i64 (j : Int) ∧ gk + j = l.length ∧ j ≤ 100 ∧ 0 ≤ now ∧ now ≤ 5 * (j : Int) ∧ had.length ≤ j ∧ OnceAt W W' x b wn v s had now)
  case atStart => exact ⟨0, 0, [], s0, rfl, rfl, by omega, by omega, by omega, by omega, Nat.le_refl _, HAA.out⟩
  case round =>
    obtain ⟨j, now, had, s, rfl, rfl, hj, hj100, hn0, hn1, hhl, hO⟩ := hrel
    obtain ⟨av, cv, rfl⟩ := row_slice hO.row
    have HO := hid hO
    clear hO HAA
    by_cases hjn : j < l.length
    · by_cases hj2 : j < 100
      · have hmj : l[j]? = some l[j] := List.getElem?_eq_getElem hjn
        obtain ⟨mb, mo, rfl, hmb, hmc⟩ := HMV.out.cell j _ hmj
        generalize l[j] = m at hmj hmc
        obtain ⟨idt, tm, nw⟩ := m
        have m0 : wr.cell? ⟨mb, mo + j * 3, none⟩ = some (.string idt) := HO.out.mod.cell (hmc 0 _ rfl) (by simp)
        have m1 : wr.cell? ⟨mb, mo + j * 3 + 1, none⟩ = some (.int .i64 tm) := HO.out.mod.cell (hmc 1 _ rfl) (by simp)
        have m2 : wr.cell? ⟨mb, mo + j * 3 + 2, none⟩ = some (.int .i64 nw) := HO.out.mod.cell (hmc 2 _ rfl) (by simp)
        have j0 : (0 : Int) ≤ (j : Int) := Int.natCast_nonneg _
        have j1 : (j : Int) < (l.length : Int) := by omega
        have j2 : (j : Int) < 100 := by omega
        obtain ⟨cz, hcz⟩ : ∃ k : Nat, k = min idt.size 50 := ⟨_, rfl⟩
        have cz1 : (if (50 : Int) < (idt.size : Int) then (50 : Int) else (idt.size : Int)) = (cz : Int) := by split <;> omega
        have cz2 : (if 50 < idt.size then (50 : Int) else (idt.size : Int)) = (cz : Int) := by split <;> omega
        have cz3 : cz ≤ idt.size := by omega
        have cz4 : (0 : Int) ≤ (cz : Int) := Int.natCast_nonneg _
        have hsz : (idt.extract 0 cz).size ≤ 4096 := by rw [hcz]; simp [ByteArray.size_extract]; omega
        have HSZ := hid hsz
        have hd : 0 ≤ among nw 5 ∧ among nw 5 < 5 := ⟨Int.emod_nonneg _ (by omega), Int.emod_lt_of_pos _ (by omega)⟩
        have ht : 0 ≤ among tm 20 ∧ among tm 20 < 20 := ⟨Int.emod_nonneg _ (by omega), Int.emod_lt_of_pos _ (by omega)⟩
        obtain ⟨at_, hat⟩ : ∃ n : Int, n = if among tm 20 < now + among nw 5 then now + among nw 5 - among tm 20 else 0 := ⟨_, rfl⟩
        have mx1 : (if among tm 20 < now + among nw 5 then now + among nw 5 - among tm 20 else 0) = at_ := hat.symm
        have mx2 : (if 0 < now + among nw 5 - among tm 20 then now + among nw 5 - among tm 20 else 0) = at_ := by rw [hat]; split <;> split <;> omega
        have mx3 : (if now + among nw 5 ≤ among tm 20 then 0 else now + among nw 5 - among tm 20) = at_ := by rw [hat]; split <;> split <;> omega
        have mx4 : (if now + among nw 5 - among tm 20 < 0 then 0 else now + among nw 5 - among tm 20) = at_ := by rw [hat]; split <;> split <;> omega
        have mx5 : (if now + among nw 5 < among tm 20 then 0 else now + among nw 5 - among tm 20) = at_ := by rw [hat]; split <;> split <;> omega
        have hat0 : 0 ≤ at_ ∧ at_ ≤ 1000 := by rw [hat]; split <;> omega
        have HAT := hid hat0
        clear hat hat0
        have HJ := hid (And.intro hj (And.intro hj100 (And.intro hn0 (And.intro hn1 hhl))))
        clear hmc hmb hcz hmj hlen hsz
        go_wp2_with (first | (go_at_call 17; refine (among_any _ _ _ (by omega) (by omega)).mono ?_; rintro e w' ⟨rfl, rfl⟩))
        go_quiet (fail)
        obtain ⟨now2, hnow2⟩ : ∃ n, n = now + among nw 5 := ⟨_, rfl⟩
        have hnow3 : now ≤ now2 ∧ now2 ≤ 5 * ((j : Int) + 1) := by omega
        have ht1 : timeOk at_ = true := by have := HAT.out; simp only [timeOk, Bool.and_eq_true, decide_eq_true_eq]; omega
        have ht2 : timeOk now2 = true := by simp only [timeOk, Bool.and_eq_true, decide_eq_true_eq]; omega
        rw [← hnow2]
        clear mx1 mx2 mx3 mx4 mx5 hnow2 m0 m1 m2
        have hpl : ∃ s' k', seeS s (idt.extract 0 cz) at_ now2 = (s', k', 0) ∧ HInv had s' now2 ∧ s'.window = s.window ∧ (k' = 34 → (look s'.l (idt.extract 0 cz)).isSome = true) ∧ (k' = 0 → HInv (had ++ [⟨idt.extract 0 cz, at_, 0⟩]) s' now2 ∧ ∀ y ∈ had, y.id = idt.extract 0 cz → y.time + wn < now2) := by
          have hwin := HO.out.win
          rcases see_three (s := s) HSZ.out ht1 ht2 with ⟨h1, h2⟩ | ⟨h1, h2⟩ | ⟨h1, h2⟩
          · exact ⟨_, _, h2, HO.out.inv.same hnow3.1, rfl, fun _ => h1, fun h => absurd h (by decide)⟩
          · exact ⟨_, _, h2, HO.out.inv.same hnow3.1, rfl, fun h => absurd h (by decide), fun h => absurd h (by decide)⟩
          · have hmore := HO.out.inv.more (time := at_) (id := idt.extract 0 cz) hnow3.1
            exact ⟨_, _, h2, fun y hy => hmore y (List.mem_append_left _ hy), rfl, fun h => absurd h (by decide), fun _ => ⟨hmore, by rw [← hwin]; exact HO.out.inv.none hnow3.1 h1⟩⟩
        obtain ⟨s', k', hse, hinv, hwin, h34, h0⟩ := hpl
        have hsee : ∀ W', RepAt W' x b s → Calls Try.prog 12 #[.pointer (some ⟨x, 0, none⟩), .string (idt.extract 0 cz), .int .i64 at_, .int .i64 now2] W' fun e w' => e = .returned (.tuple #[.int .i64 k', .int .i64 0]) ∧ RepAt w' x b s' ∧ Mod [b] W' w' := fun W' h => by
          refine (see_any W' x b s (idt.extract 0 cz) at_ now2 h HO.out.ok).mono ?_
          rintro e w' ⟨h1, h2, h3⟩
          rw [hse] at h1 h2
          exact ⟨h1, h2, h3⟩
        have hok : ROk s' := by have := seeS_ok HO.out.ok (idt.extract 0 cz) at_ now2; rw [hse] at this; exact this
        have HSE := hid hsee
        have HP := hid (And.intro hok (And.intro hwin hinv))
        have H34 := hid h34
        have H0 := hid h0
        have HN := hid hnow3
        clear hse hsee hok hwin hinv h34 h0 ht1 ht2 HSZ hnow3
        go_wp2_with (first
          | (go_at_call 12; refine (HSE.out _ (HO.out.mod0 (Mod.drewN (Mod.refl _ _) _)).rep).mono ?_; rintro e w5 ⟨rfl, hr5, hm5⟩; have HO5 := hid ((HO.out.mod0 (Mod.drewN (Mod.refl _ _) _)).see hm5 hr5 HP.out.1 HP.out.2.1 HP.out.2.2); clear hr5 hm5))
        clear HSE HO HP
        generalize gk = go at *
        by_cases hk0 : k' = 0
        · subst hk0
          obtain ⟨hmore, hnone⟩ := H0.out rfl
          have HNO := hid hnone
          have HMO := hid hmore
          clear H0 H34 hmore hnone
          go_loopg [16] had.length (fun gk k W' => ∃ k0 : Nat, k = .int .i64 (k0 : Int) ∧ gk + k0 = had.length ∧ k0 ≤ had.length ∧ W' = w5)
          case atStart => exact ⟨0, rfl, rfl, Nat.zero_le _, rfl⟩
          case round =>
            obtain ⟨k0, rfl, hk, hkl, rfl⟩ := hrel
            by_cases hkn : k0 < had.length
            · have hp : had[k0]? = some had[k0] := List.getElem?_eq_getElem hkn
              generalize had[k0] = y at hp
              obtain ⟨g, cc, hg, hcell⟩ := row_pos HO5.out.row (by omega)
              cases hg
              obtain ⟨yi, yt, yn⟩ := y
              have hhad := had_at hp
              have y0 := hcell _ _ (hhad 0 _ rfl)
              have y1 := hcell _ _ (hhad 1 _ rfl)
              dsimp only at y0 y1
              rw [Nat.add_zero] at y0
              have k00 : (0 : Int) ≤ (k0 : Int) := Int.natCast_nonneg _
              have k01 : (k0 : Int) < (had.length : Int) := by omega
              have d1 : decide ((k0 : Int) < (had.length : Int)) = true := by rw [decide_eq_true_eq]; omega
              have d2 : decide (k0 < had.length) = true := by rw [decide_eq_true_eq]; omega
              have hyt := HO5.out.times _ (List.mem_of_getElem? hp)
              dsimp only at hyt
              have hq := chars_eq yi (idt.extract 0 cz)
              have hmem := List.mem_of_getElem? hp
              clear hcell hhad hp
              by_cases hid_ : yi = idt.extract 0 cz
              · rw [decide_eq_true hid_] at hq
                have hlt := HNO.out _ hmem hid_
                dsimp only at hlt
                have d3 : decide (now2 ≤ yt + wn) = false := by rw [decide_eq_false_iff_not]; omega
                clear hid_ hmem
                go_wp2_with fail
                go_roundg (gk - 1)
                case measure => omega
                case rel => exact ⟨k0 + 1, by go_num, by omega, by omega, rfl⟩
              · rw [decide_eq_false hid_] at hq
                clear hid_ hmem
                go_wp2_with fail
                go_roundg (gk - 1)
                case measure => omega
                case rel => exact ⟨k0 + 1, by go_num, by omega, by omega, rfl⟩
            · have d1 : decide ((k0 : Int) < (had.length : Int)) = false := by rw [decide_eq_false_iff_not]; omega
              have d2 : decide (k0 < had.length) = false := by rw [decide_eq_false_iff_not]; omega
              have hmr := had_more HO5.out ⟨idt.extract 0 cz, at_, 0⟩ (by have := HJ.out; omega) HMO.out HAT.out
              simp only [SightS.cells] at hmr
              have HMR := hid hmr
              clear hmr
              go_wp2_with (first
                | (at_builtin; refine wpList_app_run rfl _ _ 22 rfl (.slice av had.length cv) _ rfl rfl _ HMR.out ?_; rintro v7 w7 h7; obtain ⟨a7, c7, rfl⟩ := row_slice h7.row; have H7 := hid h7; clear h7))
              go_roundg (go - 1)
              case measure => have := HJ.out; omega
              case rel => exact ⟨j + 1, now2, had ++ [⟨idt.extract 0 cz, at_, 0⟩], s', rfl, by go_num, by have := HJ.out; omega, by omega, by have := HJ.out; have := HN.out; omega, by have := HN.out; omega, by have := HJ.out; simp only [List.length_append, List.length_cons, List.length_nil]; omega, by have h := H7.out; simp only [List.length_append, List.length_cons, List.length_nil, Nat.zero_add] at h; exact h⟩
        · have dk : (k' == 0) = false := by simpa using hk0
          clear H0
          go_loopg [16] had.length (fun gk k W' => ∃ k0 : Nat, k = .int .i64 (k0 : Int) ∧ gk + k0 = had.length ∧ k0 ≤ had.length ∧ W' = w5)
          case atStart => exact ⟨0, rfl, rfl, Nat.zero_le _, rfl⟩
          case round =>
            obtain ⟨k0, rfl, hk, hkl, rfl⟩ := hrel
            by_cases h34 : k' = 34
            · have HLK := hid (H34.out h34)
              subst h34
              clear H34 dk hk0
              by_cases hkn : k0 < had.length
              · have d1 : decide ((k0 : Int) < (had.length : Int)) = true := by rw [decide_eq_true_eq]; omega
                have d2 : decide (k0 < had.length) = true := by rw [decide_eq_true_eq]; omega
                clear hkn
                go_wp2_with (first
                  | (go_at_call 15; refine (rhas_any _ x b s' _ HO5.out.rep).mono ?_; rw [HLK.out]; rintro e w6 ⟨rfl, rfl⟩))
                go_roundg (go - 1)
                case measure => have := HJ.out; omega
                case rel => exact ⟨j + 1, now2, had, s', rfl, by go_num, by have := HJ.out; omega, by omega, by have := HJ.out; have := HN.out; omega, by have := HN.out; omega, by have := HJ.out; omega, HO5.out⟩
              · have d1 : decide ((k0 : Int) < (had.length : Int)) = false := by rw [decide_eq_false_iff_not]; omega
                have d2 : decide (k0 < had.length) = false := by rw [decide_eq_false_iff_not]; omega
                clear hkn
                go_wp2_with (first
                  | (go_at_call 15; refine (rhas_any _ x b s' _ HO5.out.rep).mono ?_; rw [HLK.out]; rintro e w6 ⟨rfl, rfl⟩))
                go_roundg (go - 1)
                case measure => have := HJ.out; omega
                case rel => exact ⟨j + 1, now2, had, s', rfl, by go_num, by have := HJ.out; omega, by omega, by have := HJ.out; have := HN.out; omega, by have := HN.out; omega, by have := HJ.out; omega, HO5.out⟩
            · have dl : (k' == 34) = false := by simpa using h34
              clear H34 h34 hk0
              by_cases hkn : k0 < had.length
              · have d1 : decide ((k0 : Int) < (had.length : Int)) = true := by rw [decide_eq_true_eq]; omega
                have d2 : decide (k0 < had.length) = true := by rw [decide_eq_true_eq]; omega
                clear hkn
                go_wp2_with (first
                  | (go_at_call 15; refine (rhas_any _ x b s' _ HO5.out.rep).mono ?_; rw [HNEVER.out]; rintro e w6 ⟨rfl, rfl⟩))
                go_roundg (go - 1)
                case measure => have := HJ.out; omega
                case rel => exact ⟨j + 1, now2, had, s', rfl, by go_num, by have := HJ.out; omega, by omega, by have := HJ.out; have := HN.out; omega, by have := HN.out; omega, by have := HJ.out; omega, HO5.out⟩
              · have d1 : decide ((k0 : Int) < (had.length : Int)) = false := by rw [decide_eq_false_iff_not]; omega
                have d2 : decide (k0 < had.length) = false := by rw [decide_eq_false_iff_not]; omega
                clear hkn
                go_wp2_with (first
                  | (go_at_call 15; refine (rhas_any _ x b s' _ HO5.out.rep).mono ?_; rw [HNEVER.out]; rintro e w6 ⟨rfl, rfl⟩))
                go_roundg (go - 1)
                case measure => have := HJ.out; omega
                case rel => exact ⟨j + 1, now2, had, s', rfl, by go_num, by have := HJ.out; omega, by omega, by have := HJ.out; have := HN.out; omega, by have := HN.out; omega, by have := HJ.out; omega, HO5.out⟩
      · have d1 : decide ((j : Int) < (l.length : Int)) = true := by rw [decide_eq_true_eq]; omega
        have d2 : decide ((j : Int) < 100) = false := by rw [decide_eq_false_iff_not]; omega
        have d3 : decide (j < l.length) = true := by rw [decide_eq_true_eq]; omega
        have d4 : decide (j < 100) = false := by rw [decide_eq_false_iff_not]; omega
        go_wp2_with fail
        go_ret
        exact ⟨rfl, HO.out.mod⟩
    · have d1 : decide ((j : Int) < (l.length : Int)) = false := by rw [decide_eq_false_iff_not]; omega
      have d3 : decide (j < l.length) = false := by rw [decide_eq_false_iff_not]; omega
      go_wp2_with fail
      go_ret
      exact ⟨rfl, HO.out.mod⟩
end Go.Proofs.Yteifjbfojjjacaa
