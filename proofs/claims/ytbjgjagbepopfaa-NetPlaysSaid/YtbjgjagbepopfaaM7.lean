/-
  The reference's net, walked: Cut. No statement of a claim stands here; each contract names what it asks.
-/
import Derived.Test.YtbjgjagbepopfaaM6
set_option linter.unusedSimpArgs false
namespace Go.Proofs.Ytbjgjagbepopfaa
open Go Go.RowKit Go.ChangeMaps

theorem look_filter {α β : Type} [DecidableEq α] (l : List (α × β × Nat)) (k0 k : α) : look (l.filter (fun e => decide (e.1 ≠ k0))) k = if k = k0 then none else look l k := by
  induction l with
  | nil => simp [look_nil]
  | cons e l ih =>
    rw [List.filter_cons]
    by_cases h : e.1 = k0
    · rw [if_neg (by simpa using h), ih, look_cons]
      by_cases hk : k = k0
      · rw [if_pos hk, if_pos hk]
      · rw [if_neg hk, if_neg hk, if_neg (fun hh => hk (hh.symm.trans h))]
    · rw [if_pos (by simpa using h), look_cons, look_cons, ih]
      by_cases hk : k = k0
      · rw [if_pos hk, if_pos hk, if_neg (fun hh => h (hh.trans hk))]
      · rw [if_neg hk, if_neg hk]

/-- The reference's row of cut links behind Cut. -/
def cutL (cl : List Seat) (k : Seat) (on : Bool) : List Seat := cl.filter (fun e => decide (e ≠ k)) ++ (if on then [k] else [])
theorem cutL_has {cl : List Seat} {s : NetS} (h : ∀ k, decide (k ∈ cl) = s.cut k) (k0 : Seat) (on : Bool) (hp : (s.party k0.1 && s.party k0.2) = true) : ∀ k, decide (k ∈ cutL cl k0 on) = (s.cutting k0 on).1.cut k := by
  intro k
  have hk := h k
  unfold NetS.cutting
  rw [if_pos hp]
  unfold NetS.cut at hk ⊢
  cases on with
  | true =>
    rw [if_pos rfl]
    dsimp only
    rw [look_append, look_filter]
    unfold cutL
    by_cases he : k = k0
    · subst he; simp
    · rw [if_neg he]
      cases hl : look s.cuts k with
      | some v => rw [hl] at hk; simp at hk; simp [he, hk]
      | none =>
        rw [hl] at hk
        dsimp only
        have hne : ¬ k0 = k := fun hh => he hh.symm
        simp at hk
        simp [he, hk, hne]
  | false =>
    rw [if_neg (by simp)]
    dsimp only
    rw [look_filter]
    unfold cutL
    by_cases he : k = k0
    · subst he; simp
    · rw [if_neg he, ← hk]
      simp [he]
theorem cutL_len (cl : List Seat) (k : Seat) (on : Bool) : (cutL cl k on).length ≤ cl.length + 1 := by
  unfold cutL
  have := List.length_filter_le (fun e => decide (e ≠ k)) cl
  cases on <;> simp at this ⊢ <;> omega


theorem filter_snoc {α : Type} (p : α → Bool) (l : List α) (x : α) : (l ++ [x]).filter p = if p x then l.filter p ++ [x] else l.filter p := by
  cases h : p x <;> simp [h]

section
variable {B : Nat} {w : World} {y n : Nat} {s : NetS}
set_option maxRecDepth 20000 in
set_option maxHeartbeats 4000000 in
theorem rcutting_any (h : RefAt B w y n s) (hn : n ≤ 4000) (ho : s.Ok) (hB : B ≤ w.heap.size) (a b : Int) (on : Bool) :
    Calls Try.prog 30 #[.pointer (some ⟨y, 0, none⟩), .int .i64 a, .int .i64 b, .bool on] w (RefPost B w y (n + 1) (.int .i64 (s.cutting (a, b) on).2) (s.cutting (a, b) on).1) := by
  obtain ⟨vl, vc, cl, dn, h, hcl⟩ := h
  obtain ⟨av, kv, rfl⟩ := h.cuts.form
  have H := hid h
  clear h
  cases hp1 : s.party a with
  | false =>
    have hs : s.cutting (a, b) on = (s, 2) := by unfold NetS.cutting; dsimp only; rw [hp1]; rfl
    have HS := hid hs
    have HP := hid hp1
    clear hs hp1
    go_enter Try.func30, Try.ntmps30
    go_wp2_with (first | (go_at_call 40; refine (rparty_any H.out _).mono ?_; rintro e w' ⟨rfl, hw'⟩; obtain rfl : w = w' := hw'.symm; clear hw'; simp only [HP.out]))
    go_ret
    exact ⟨by rw [HS.out]; rfl, by rw [HS.out]; exact ⟨_, _, cl, dn, H.out, by omega⟩, RMod.refl _ _⟩
  | true =>
    cases hp2 : s.party b with
    | false =>
      have hs : s.cutting (a, b) on = (s, 2) := by unfold NetS.cutting; dsimp only; rw [hp1, hp2]; rfl
      have HS := hid hs
      have HP := hid (And.intro hp1 hp2)
      clear hs hp1 hp2
      go_enter Try.func30, Try.ntmps30
      go_wp2_with (first | (go_at_call 40; refine (rparty_any H.out _).mono ?_; rintro e w' ⟨rfl, hw'⟩; obtain rfl : w = w' := hw'.symm; clear hw'; simp only [HP.out.1, HP.out.2]))
      go_ret
      exact ⟨by rw [HS.out]; rfl, by rw [HS.out]; exact ⟨_, _, cl, dn, H.out, by omega⟩, RMod.refl _ _⟩
    | true =>
      have hs : (s.cutting (a, b) on).2 = 0 := by unfold NetS.cutting; dsimp only; rw [hp1, hp2]; cases on <;> rfl
      have hhas := cutL_has H.out.has (a, b) on (by dsimp only; rw [hp1, hp2]; rfl)
      have hway : (s.cutting (a, b) on).1.way = s.way ∧ (s.cutting (a, b) on).1.downs = s.downs ∧ ∀ vl vc vc', (refHead s vl vc).set 7 vc' = refHead (s.cutting (a, b) on).1 vl vc' := by
        unfold NetS.cutting; dsimp only; rw [hp1, hp2]; cases on <;> exact ⟨rfl, rfl, fun _ _ _ => rfl⟩
      have HS := hid (And.intro hs (And.intro hhas hway))
      have HP := hid (And.intro hp1 hp2)
      clear hs hp1 hp2 hhas hway
      go_enter Try.func30, Try.ntmps30
      go_wp2_with (first | (go_at_call 40; refine (rparty_any H.out _).mono ?_; rintro e w' ⟨rfl, hw'⟩; obtain rfl : w = w' := hw'.symm; clear hw'; simp only [HP.out.1, HP.out.2]))
      go_loopg [9, 10] cl.length (fun gk v i W' => ∃ j : Nat, i = nat j ∧ gk + j = cl.length ∧ CutsAt w.heap.size W' v ((cl.take j).filter (fun e => decide (e ≠ (a, b)))) ∧ Mod [] w W')
      case atStart => exact ⟨0, rfl, by omega, VecAt.new w (Nat.le_refl _), (Mod.refl _ _).alloc _⟩
      case round =>
        obtain ⟨j, rfl, hj, hv, hm⟩ := hrel
        have hO := H.out.mod0 hm
        have c7 := hO.all.2.2.2.2.2.2.2.1
        obtain ⟨ar, lr, kr, rfl⟩ : ∃ ar lr kr, u9 = Value.slice ar lr kr := ⟨_, _, _, hv.form.choose_spec.choose_spec⟩
        by_cases hjn : j < cl.length
        · obtain ⟨⟨x1, x2⟩, hx⟩ : ∃ x, cl[j]? = some x := ⟨_, List.getElem?_eq_getElem hjn⟩
          obtain ⟨g, c', e0, hcells⟩ := hO.cuts.at (fun _ => rfl) hx
          cases e0
          have x0 : wr.cell? ⟨g, j * 2, none⟩ = some (.int .i64 x1) := hcells 0 _ rfl
          have x1' : wr.cell? ⟨g, j * 2 + 1, none⟩ = some (.int .i64 x2) := hcells 1 _ rfl
          have htk : cl.take (j + 1) = cl.take j ++ [(x1, x2)] := by rw [List.take_add_one, hx]; rfl
          have hsn := filter_snoc (fun e => decide (e ≠ (a, b))) (cl.take j) (x1, x2)
          rw [← htk] at hsn
          have j0 : (0 : Int) ≤ (j : Int) := Int.natCast_nonneg _
          have j1 : (j : Int) < (cl.length : Int) := by omega
          have heq := arr_eq x1 x2 a b wr
          by_cases hk : (x1, x2) = (a, b)
          · rw [decide_eq_true hk] at heq
            rw [if_neg (by simp [hk])] at hsn
            have HV := hid (And.intro hv hm)
            have HSN := hid hsn
            clear hv hm hsn htk hcells hO hx hk
            go_wp2_with fail
            go_roundg (gk - 1)
            case measure => omega
            case rel => exact ⟨j + 1, by go_num, by omega, by rw [HSN.out]; exact HV.out.1, HV.out.2⟩
          · rw [decide_eq_false hk] at heq
            rw [if_pos (by simp [hk])] at hsn
            have happ := hv.app elemCut hm.size (x1, x2) rfl (by simp [seatC, Value.oneCell']) (Nat.le_trans (List.length_filter_le _ _) (by have h3 : (cl.take j).length ≤ cl.length := List.length_take_le' j cl; omega)) (by decide)
            have HA := hid happ
            have HV := hid (And.intro hv hm)
            have HSN := hid hsn
            clear hv hm hsn htk hcells hO hx hk happ
            go_wp2_with (first
              | (at_builtin; refine wpList_app_run rfl _ _ 58 rfl _ _ rfl rfl _ HA.out ?_; rintro v3 w3 ⟨h31, h32, h33⟩; have H3 := hid (And.intro h31 (And.intro h32 h33)); clear h31 h32 h33))
            go_roundg (gk - 1)
            case measure => omega
            case rel => exact ⟨j + 1, by go_num, by omega, by rw [HSN.out]; exact H3.out.1, HV.out.2.trans' H3.out.2.1 (fun x hx => .inr (HV.out.1.own x (by simpa using hx)))⟩
        · have hd : cl.take j = cl := List.take_of_length_le (by omega)
          rw [hd] at hv
          have j1 : ¬ (j : Int) < (cl.length : Int) := by omega
          have happ := hv.app elemCut hm.size (a, b) rfl (by simp [seatC, Value.oneCell']) (Nat.le_trans (List.length_filter_le _ _) (by omega)) (by decide)
          have HA := hid happ
          have HV := hid (And.intro hv hm)
          clear hv hm hd hO happ
          go_upto_if 52 with fail
          go_cut [9] (fun v wx => CutsAt w.heap.size wx v (cutL cl (a, b) on) ∧ Mod [] w wx)
          case first =>
            cases on with
            | true =>
              go_wp2_with (first
                | (at_builtin; refine wpList_app_run rfl _ _ 58 rfl _ _ rfl rfl _ HA.out ?_; rintro v3 w3 ⟨h31, h32, h33⟩; have H3 := hid (And.intro h31 (And.intro h32 h33)); clear h31 h32 h33))
              go_meet
              exact ⟨H3.out.1, HV.out.2.trans' H3.out.2.1 (fun x hx => .inr (HV.out.1.own x (by simpa using hx)))⟩
            | false =>
              go_wp2_with fail
              go_meet
              exact ⟨by unfold cutL; simpa using HV.out.1, HV.out.2⟩
          case rest =>
            obtain ⟨hv, hm⟩ := hcut
            obtain ⟨ar, lr, kr, rfl⟩ : ∃ ar lr kr, u9 = Value.slice ar lr kr := ⟨_, _, _, hv.form.choose_spec.choose_spec⟩
            have hO := H.out.mod0 hm
            have c7 := hO.all.2.2.2.2.2.2.2.1
            have f7 := hO.all.2.2.2.2.2.2.2.2 7
            have HV := hid (And.intro hv hm)
            clear hv hm hO HA
            go_wp2_with fail
            go_ret
            have hv : CutsAt B wc (.slice ar lr kr) (cutL cl (a, b) on) := ⟨HV.out.1.row, fun k hk => Nat.le_trans hB (HV.out.1.own k hk)⟩
            have hfin := H.out.setCuts HV.out.2 (by simp) (fun _ _ => by simp) _ _ (s.cutting (a, b) on).1 hv (HS.out.2.2.2.2 _ _ _) HS.out.2.2.1 HS.out.2.1 HS.out.2.2.2.1
            have hlen := cutL_len cl (a, b) on
            exact ⟨by rw [HS.out.1]; rfl, ⟨_, _, _, dn, hfin, by omega⟩, H.out.rmod ((HV.out.2.mono (by simp)).setCell (.inl ((mem_foot y).2 (.inl rfl))) _)⟩
end
end Go.Proofs.Ytbjgjagbepopfaa
