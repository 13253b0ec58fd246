/-
  The reference's net, walked: Waiting, Oldest. No statement of a claim stands here; each contract names what it asks.
-/
import Derived.Test.YtbjgjagbepopfaaM5
set_option linter.unusedSimpArgs false
namespace Go.Proofs.Ytbjgjagbepopfaa
open Go Go.RowKit Go.ChangeMaps

theorem IntsAt.new' {B : Nat} (w : World) (h : B ≤ w.heap.size) : IntsAt B (w.alloc (.cells #[] 3)) (.slice (some ⟨w.heap.size, 0, none⟩) 0 0) [] :=
  ⟨World.ownsRow_made w #[] 0 (Nat.zero_le _) (Nat.zero_le _) rfl, fun k hk => by cases hk; exact h⟩

section
variable {B : Nat} {w : World} {y n : Nat} {s : NetS}
set_option maxRecDepth 20000 in
set_option maxHeartbeats 2000000 in
theorem rwaiting_any (h : RefAt B w y n s) (ho : s.Ok) (tp : Int) :
    Calls Try.prog 33 #[.pointer (some ⟨y, 0, none⟩), .int .i64 tp] w fun e w' => ∃ v, e = .returned v ∧ IntsAt w.heap.size w' v (s.waiting tp) ∧ Mod [] w w' := by
  obtain ⟨vl, vc, cl, dn, h, hcl⟩ := h
  have hlen : s.way.length ≤ 5000 := by have := ho.fits; have := ho.room; omega
  obtain ⟨av, kv, rfl⟩ := h.items.form
  have H := hid h
  clear h
  go_enter Try.func33, Try.ntmps33
  go_wp2_with fail
  go_loopg [5, 6] s.way.length (fun gk v i W' => ∃ j : Nat, i = nat j ∧ gk + j = s.way.length ∧ IntsAt w.heap.size W' v (waitL (s.way.take j) tp) ∧ Mod [] w W')
  case atStart => exact ⟨0, rfl, by omega, IntsAt.new' w (Nat.le_refl _), (Mod.refl _ _).alloc _⟩
  case round =>
    obtain ⟨j, rfl, hj, hv, hm⟩ := hrel
    have hO := H.out.mod0 hm
    have c6 := hO.all.2.2.2.2.2.2.1
    by_cases hjn : j < s.way.length
    · obtain ⟨⟨x, m, st⟩, hx⟩ : ∃ x, s.way[j]? = some x := ⟨_, List.getElem?_eq_getElem hjn⟩
      obtain ⟨g, c', e0, hcells⟩ := hO.items.at (fun _ => rfl) hx
      cases e0
      have x0 : wr.cell? ⟨g, j * 5, none⟩ = some (.int .i64 x) := hcells 0 _ rfl
      have x2 : wr.cell? ⟨g, j * 5 + 1 + 1, none⟩ = some (.int .i64 m.to) := hcells 2 _ rfl
      have htk : s.way.take (j + 1) = s.way.take j ++ [(x, m, st)] := by rw [List.take_add_one, hx]; rfl
      have hsn := waitL_snoc (s.way.take j) (x, m, st) tp
      rw [← htk] at hsn
      dsimp only at hsn
      have hwl : (waitL (s.way.take j) tp).length ≤ 5000 := by
        have h1 := waitL_len (s.way.take j) tp
        have h3 : (s.way.take j).length ≤ s.way.length := List.length_take_le' j s.way
        omega
      have j0 : (0 : Int) ≤ (j : Int) := Int.natCast_nonneg _
      have j1 : (j : Int) < (s.way.length : Int) := by omega
      by_cases ht : m.to = tp
      · rw [if_pos ht] at hsn
        have happ := hv.app hm.size x hwl
        obtain ⟨ar, kr, rfl⟩ := row_slice hv.row
        have ht' : (m.to == tp) = true := by simpa using ht
        have HA := hid happ
        have HV := hid (And.intro hv hm)
        have HSN := hid hsn
        clear hv hm happ hsn htk hcells ht hwl hO hx
        go_wp2_with (first
          | (at_builtin; refine wpList_app_run rfl _ _ 37 rfl _ _ rfl rfl _ HA.out ?_; rintro v3 w3 ⟨h31, h32, h33⟩; have H3 := hid (And.intro h31 (And.intro h32 h33)); clear h31 h32 h33))
        go_roundg (gk - 1)
        case measure => omega
        case rel => exact ⟨j + 1, by go_num, by omega, by rw [HSN.out]; exact H3.out.1, HV.out.2.trans' H3.out.2.1 (fun x hx => .inr (HV.out.1.own x (by simpa using hx)))⟩
      · rw [if_neg ht] at hsn
        have ht' : (m.to == tp) = false := by simpa using ht
        have HV := hid (And.intro hv hm)
        have HSN := hid hsn
        clear hv hm hsn htk hcells ht hwl hO hx
        go_wp2_with fail
        go_roundg (gk - 1)
        case measure => omega
        case rel => exact ⟨j + 1, by go_num, by omega, by rw [HSN.out]; exact HV.out.1, HV.out.2⟩
    · have hd : s.way.take j = s.way := List.take_of_length_le (by omega)
      rw [hd] at hv
      have j1 : ¬ (j : Int) < (s.way.length : Int) := by omega
      have HV := hid (And.intro hv hm)
      clear hv hm hd hO
      go_wp2_with fail
      go_ret
      exact ⟨_, rfl, HV.out.1, HV.out.2⟩

theorem free_cut {s : NetS} (hn : (s.way.map (·.1)).Nodup) {e : RItem} (he : e ∈ s.way) : s.free e.1 = if s.cut (e.2.1.frm, Msg.to e.2.1) then none else some e.2.1 := by
  obtain ⟨x, m, st⟩ := e
  unfold NetS.free
  rw [look_mem hn he]
  rfl
theorem old_none {s : NetS} (hn : (s.way.map (·.1)).Nodup) {tp : Int} (hp : s.party tp = true) (h : ∀ e ∈ s.way, Msg.to e.2.1 = tp → s.cut (e.2.1.frm, tp) = true) : s.oldest tp = (0, 300) := by
  unfold NetS.oldest
  rw [hp, if_pos rfl]
  have : (s.waiting tp).find? (fun k => (s.free k).isSome) = none := by
    rw [List.find?_eq_none]
    intro k hk
    unfold NetS.waiting at hk
    obtain ⟨e, he, rfl⟩ := List.mem_map.1 hk
    obtain ⟨he1, he2⟩ := List.mem_filter.1 he
    have ht : Msg.to e.2.1 = tp := by simpa using he2
    rw [free_cut hn he1, ht, h e he1 ht]
    simp
  rw [this]
theorem old_hit {s : NetS} (hn : (s.way.map (·.1)).Nodup) {tp : Int} (hp : s.party tp = true) {j : Nat} {x : Int} {m : Msg} {st : Nat} (hx : s.way[j]? = some (x, m, st)) (ht : m.to = tp) (hc : s.cut (m.frm, tp) = false)
    (h : ∀ e ∈ s.way.take j, Msg.to e.2.1 = tp → s.cut (e.2.1.frm, tp) = true) : s.oldest tp = (x, 0) := by
  have hj := (List.getElem?_eq_some_iff.1 hx).1
  have hsplit : s.way = s.way.take j ++ (x, m, st) :: s.way.drop (j + 1) := by
    have h1 := List.take_append_drop j s.way
    rw [List.drop_eq_getElem_cons hj, (List.getElem?_eq_some_iff.1 hx).2] at h1
    exact h1.symm
  unfold NetS.oldest
  rw [hp, if_pos rfl]
  have : (s.waiting tp).find? (fun k => (s.free k).isSome) = some x := by
    have hw : s.waiting tp = ((s.way.take j).filter (fun e => decide (e.2.1.to = tp))).map (·.1) ++ x :: ((s.way.drop (j + 1)).filter (fun e => decide (e.2.1.to = tp))).map (·.1) := by
      unfold NetS.waiting
      conv => lhs; rw [hsplit]
      rw [List.filter_append, List.map_append, List.filter_cons, if_pos (by simpa using ht), List.map_cons]
    rw [hw, List.find?_append]
    have h1 : (((s.way.take j).filter (fun e => decide (e.2.1.to = tp))).map (·.1)).find? (fun k => (s.free k).isSome) = none := by
      rw [List.find?_eq_none]
      intro k hk
      obtain ⟨e, he, rfl⟩ := List.mem_map.1 hk
      obtain ⟨he1, he2⟩ := List.mem_filter.1 he
      have ht : Msg.to e.2.1 = tp := by simpa using he2
      rw [free_cut hn (List.mem_of_mem_take he1), ht, h e he1 ht]
      simp
    have h2 : s.free x = some m := by
      have := free_cut hn (List.mem_of_getElem? hx)
      dsimp only at this
      rw [ht, hc] at this
      simpa using this
    rw [h1, Option.none_or, List.find?_cons, h2]
    rfl
  rw [this]

set_option maxRecDepth 20000 in
set_option maxHeartbeats 2000000 in
theorem roldest_any (h : RefAt B w y n s) (hn : n ≤ 5000) (ho : s.Ok) (tp : Int) :
    Calls Try.prog 29 #[.pointer (some ⟨y, 0, none⟩), .int .i64 tp] w fun e w' => e = .returned (.tuple #[.int .i64 (s.oldest tp).1, .int .i64 (s.oldest tp).2]) ∧ Mod [] w w' := by
  obtain ⟨vl, vc, cl, dn, h, hcl⟩ := h
  have hlen : s.way.length ≤ 5000 := by have := ho.fits; have := ho.room; omega
  obtain ⟨av, kv, rfl⟩ := h.items.form
  have hpt := rparty_any h tp
  have H := hid h
  have HN := hid ho.nodup
  clear h ho
  cases hp : s.party tp with
  | false =>
    have hs : s.oldest tp = (0, 2) := by unfold NetS.oldest; rw [hp]; rfl
    have HS := hid hs
    rw [hp] at hpt
    have HP := hid hpt
    clear hs hp hpt
    go_enter Try.func29, Try.ntmps29
    go_wp2_with (first
      | (go_at_call 40; refine HP.out.mono ?_; rintro e w' ⟨rfl, hw'⟩; obtain rfl : w = w' := hw'.symm; clear hw'))
    go_ret2
    exact ⟨by rw [HS.out]; rfl, Mod.refl _ _⟩
  | true =>
    rw [hp] at hpt
    have HP := hid hpt
    have HPT := hid hp
    clear hpt hp
    go_enter Try.func29, Try.ntmps29
    go_wp2_with (first
      | (go_at_call 40; refine HP.out.mono ?_; rintro e w' ⟨rfl, hw'⟩; obtain rfl : w = w' := hw'.symm; clear hw'))
    go_loopg [6] s.way.length (fun gk i W' => ∃ (j : Nat), i = nat j ∧ gk + j = s.way.length ∧ (∀ e ∈ s.way.take j, Msg.to e.2.1 = tp → s.cut (e.2.1.frm, tp) = true) ∧ W' = w)
    case atStart => exact ⟨0, rfl, by omega, by simp, rfl⟩
    case round =>
      obtain ⟨j, rfl, hj, hq, rfl⟩ := hrel
      have c6 := H.out.all.2.2.2.2.2.2.1
      by_cases hjn : j < s.way.length
      · obtain ⟨⟨x, m, st⟩, hx⟩ : ∃ x, s.way[j]? = some x := ⟨_, List.getElem?_eq_getElem hjn⟩
        obtain ⟨g, c', e0, hcells⟩ := H.out.items.at (fun _ => rfl) hx
        cases e0
        have x0 : wr.cell? ⟨g, j * 5, none⟩ = some (.int .i64 x) := hcells 0 _ rfl
        have x1 : wr.cell? ⟨g, j * 5 + 1, none⟩ = some (.int .i64 m.frm) := hcells 1 _ rfl
        have x2 : wr.cell? ⟨g, j * 5 + 1 + 1, none⟩ = some (.int .i64 m.to) := hcells 2 _ rfl
        have htk : s.way.take (j + 1) = s.way.take j ++ [(x, m, st)] := by rw [List.take_add_one, hx]; rfl
        have j0 : (0 : Int) ≤ (j : Int) := Int.natCast_nonneg _
        have j1 : (j : Int) < (s.way.length : Int) := by omega
        by_cases ht : m.to = tp
        · have hcall := rcut_any H.out (by omega) m.frm tp
          have ht' : (m.to == tp) = true := by simpa using ht
          cases hct : s.cut (m.frm, tp) with
          | true =>
            have hq2 : ∀ e ∈ s.way.take (j + 1), Msg.to e.2.1 = tp → s.cut (e.2.1.frm, tp) = true := by
              intro e he hk
              rw [htk] at he
              rcases List.mem_append.1 he with he | he
              · exact hq e he hk
              · rw [List.mem_singleton.1 he]; exact hct
            rw [hct] at hcall
            have HC := hid hcall
            have HQ := hid hq2
            clear hq hq2 hcall hct hcells hx htk ht
            go_wp2_with (first
              | (go_at_call 43; refine HC.out.mono ?_; rintro e w' ⟨rfl, hw'⟩; obtain rfl : wr = w' := hw'.symm; clear hw'))
            go_roundg (gk - 1)
            case measure => omega
            case rel => exact ⟨j + 1, by go_num, by omega, HQ.out, rfl⟩
          | false =>
            have hs := old_hit HN.out HPT.out hx ht hct hq
            have HS := hid hs
            rw [hct] at hcall
            have HC := hid hcall
            clear hq hs hcall hct hcells hx htk ht
            go_wp2_with (first
              | (go_at_call 43; refine HC.out.mono ?_; rintro e w' ⟨rfl, hw'⟩; obtain rfl : wr = w' := hw'.symm; clear hw'))
            go_ret2
            exact ⟨by rw [HS.out]; rfl, Mod.refl _ _⟩
        · have hq2 : ∀ e ∈ s.way.take (j + 1), Msg.to e.2.1 = tp → s.cut (e.2.1.frm, tp) = true := by
            intro e he hk
            rw [htk] at he
            rcases List.mem_append.1 he with he | he
            · exact hq e he hk
            · rw [List.mem_singleton.1 he] at hk; exact absurd hk ht
          have ht' : (m.to == tp) = false := by simpa using ht
          have HQ := hid hq2
          clear hq hq2 hcells hx htk ht
          go_wp2_with fail
          go_roundg (gk - 1)
          case measure => omega
          case rel => exact ⟨j + 1, by go_num, by omega, HQ.out, rfl⟩
      · have hd : s.way.take j = s.way := List.take_of_length_le (by omega)
        rw [hd] at hq
        have j1 : ¬ (j : Int) < (s.way.length : Int) := by omega
        have hs := old_none HN.out HPT.out hq
        have HS := hid hs
        clear hq hs hd
        go_wp2_with fail
        go_ret2
        exact ⟨by rw [HS.out]; rfl, Mod.refl _ _⟩
end
end Go.Proofs.Ytbjgjagbepopfaa
