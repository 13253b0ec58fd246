/-
  The reference's net, walked: Down. No statement of a claim stands here; each contract names what it asks.
-/
import Derived.Test.YtbjgjagbepopfaaM7
set_option linter.unusedSimpArgs false
namespace Go.Proofs.Ytbjgjagbepopfaa
open Go Go.RowKit Go.ChangeMaps

section
variable {B : Nat} {w : World} {y n : Nat} {s : NetS} {vl vc : Value} {cl : List Seat} {dn : List Value}
theorem RefOn.setDown (h : RefOn B w y vl vc cl dn s) (k : Nat) (h2 : k ≤ 64) (on : Bool) : RefOn B (w.setCell ⟨y, 8 + k, none⟩ (.bool on)) y vl vc cl (dn.set k (.bool on)) (s.marking k on) := by
  have m : Mod [y] w (w.setCell ⟨y, 8 + k, none⟩ (.bool on)) := (Mod.refl _ _).setCell (by simp) _
  refine ⟨?_, h.items.mod m (fun k hk => by simpa using h.y_ne.1 k hk), h.cuts.mod m (fun k hk => by simpa using h.y_ne.2 k hk), h.has, by rw [List.length_set]; exact h.len, ?_, h.own⟩
  · have := get_setCell_self h.cells (8 + k) (.bool on)
    rw [List.setIfInBounds_toArray, List.set_append_right _ _ (by simp [refHead])] at this
    rw [this]
    simp [refHead, NetS.marking]
  · intro x h1 h3
    have hx := h.down x h1 h3
    show (dn.set k (.bool on))[x]? = some (.bool ((look (putL s.downs (k : Int) on s.cd) (x : Int)).getD false))
    rw [List.getElem?_set, look_putL]
    by_cases he : k = x
    · subst he
      rw [if_pos rfl, if_pos (by rw [h.len]; omega), if_pos rfl]
      rfl
    · rw [if_neg he, if_neg (fun hh => he (by omega)), hx]
      rfl

/-- So many of a row go to a party. -/
def cntL (l : Way) (k : Int) : Nat := (l.filter (fun e => decide (Msg.to e.2.1 = k))).length
/-- Those that go elsewhere. -/
def othL (l : Way) (k : Int) : Way := l.filter (fun e => decide (Msg.to e.2.1 ≠ k))
theorem cntL_snoc (l : Way) (e : RItem) (k : Int) : cntL (l ++ [e]) k = if Msg.to e.2.1 = k then cntL l k + 1 else cntL l k := by
  unfold cntL
  by_cases h : Msg.to e.2.1 = k <;> simp [h]
theorem othL_snoc (l : Way) (e : RItem) (k : Int) : othL (l ++ [e]) k = if Msg.to e.2.1 = k then othL l k else othL l k ++ [e] := by
  unfold othL
  by_cases h : Msg.to e.2.1 = k <;> simp [h]
theorem cntL_le (l : Way) (k : Int) : cntL l k ≤ l.length := List.length_filter_le _ _
theorem othL_le (l : Way) (k : Int) : (othL l k).length ≤ l.length := List.length_filter_le _ _


set_option maxRecDepth 20000 in
set_option maxHeartbeats 4000000 in
theorem rdowning_any (h : RefAt B w y n s) (ho : s.Ok) (hb : s.sent ≤ 1000000) (hB : B ≤ w.heap.size) (k : Int) (on : Bool) :
    Calls Try.prog 31 #[.pointer (some ⟨y, 0, none⟩), .int .i64 k, .bool on] w (RefPost B w y n (.int .i64 (s.downing k on).2) (s.downing k on).1) := by
  obtain ⟨vl, vc, cl, dn, h, hcl⟩ := h
  have hlen : s.way.length ≤ 5000 := by have := ho.fits; have := ho.room; omega
  obtain ⟨av, kv, rfl⟩ := h.items.form
  have H := hid h
  have HO := hid ho
  clear h ho
  cases hp : s.party k with
  | false =>
    have hs : s.downing k on = (s, 2) := by unfold NetS.downing; rw [hp]; rfl
    have HS := hid hs
    have HP := hid hp
    clear hs hp
    go_enter Try.func31, Try.ntmps31
    go_wp2_with (first | (go_at_call 40; refine (rparty_any H.out _).mono ?_; rintro e w' ⟨rfl, hw'⟩; obtain rfl : w = w' := hw'.symm; clear hw'; simp only [HP.out]))
    go_ret
    exact ⟨by rw [HS.out]; rfl, by rw [HS.out]; exact ⟨_, _, cl, dn, H.out, hcl⟩, RMod.refl _ _⟩
  | true =>
    have hs : s.downing k on = if on then ((s.marking k true).losing (s.waiting k) (s.waiting k).length, 0) else (s.marking k false, 0) := by unfold NetS.downing; rw [hp]; rfl
    have hq1 : 1 ≤ k ∧ k ≤ 64 := by have := HO.out.parties; have hp' := hp; unfold NetS.party at hp'; simp at hp'; omega
    have HS := hid hs
    have HP := hid hp
    clear hs hp
    obtain ⟨kn, rfl⟩ := Int.eq_ofNat_of_zero_le (show 0 ≤ k by omega)
    have k1 : (kn : Int) < 65 := by omega
    have k2 : kn ≤ 64 := by omega
    have d1 := H.out.at_down (k := kn) (by omega) k2
    have f1 := H.out.all.2.2.2.2.2.2.2.2 (8 + kn)
    clear hq1
    go_enter Try.func31, Try.ntmps31
    go_upto_if 19 with (first | (go_at_call 40; refine (rparty_any H.out _).mono ?_; rintro e w' ⟨rfl, hw'⟩; obtain rfl : w = w' := hw'.symm; clear hw'; simp only [HP.out]))
    have h1 := H.out.setDown kn k2 on
    have hm1 : Mod [y] w (w.setCell ⟨y, 8 + kn, none⟩ (.bool on)) := (Mod.refl _ _).setCell (by simp) _
    have hyl : y < w.heap.size := lt_of_block H.out.cells
    clear d1 f1
    generalize (w.setCell ⟨y, 8 + kn, none⟩ (.bool on)) = w1 at *
    generalize dn.set kn (.bool on) = dn1 at *
    cases on with
    | false =>
      rw [if_neg (by simp)] at HS
      have H1 := hid (And.intro h1 hm1)
      clear h1 hm1
      go_wp2_with fail
      go_ret
      exact ⟨by rw [HS.out]; rfl, by rw [HS.out]; exact ⟨_, _, cl, _, H1.out.1, hcl⟩, H.out.rmod (H1.out.2.mono (fun x hx => .inl ((mem_foot x).2 (.inl (by simpa using hx)))))⟩
    | true =>
      rw [if_pos rfl] at HS
      have hl0 : 0 ≤ s.lost := HO.out.lost
      have hl1 : s.lost + (s.way.length : Int) ≤ 1000000 := by have h1 := HO.out.sum; have h2 := HO.out.taken; omega
      have hsz : w.heap.size ≤ w1.heap.size := hm1.size
      have H1 := hid (And.intro h1 hm1)
      clear h1 hm1
      go_wp2_with fail
      go_loopg [7, 8] s.way.length (fun gk v i W' => ∃ j : Nat, i = nat j ∧ gk + j = s.way.length ∧ ItemsAt w1.heap.size W' v (othL (s.way.take j) kn) ∧ RefOn B W' y (.slice av s.way.length kv) vc cl dn1 { s.marking kn true with lost := s.lost + (cntL (s.way.take j) kn : Int) } ∧ Mod [y] w W' ∧ w1.heap.size ≤ W'.heap.size)
      case atStart =>
        refine ⟨0, rfl, by omega, VecAt.new w1 (Nat.le_refl _), ?_, H1.out.2.alloc _, by simp⟩
        have e : ({ s.marking kn true with lost := s.lost + (cntL (s.way.take 0) kn : Int) } : NetS) = s.marking kn true := by simp [cntL, NetS.marking]
        rw [e]
        exact H1.out.1.mod0 ((Mod.refl _ _).alloc _)
      case round =>
        obtain ⟨j, rfl, hj, hv, hr, hm, hz⟩ := hrel
        have c6 := hr.all.2.2.2.2.2.2.1
        have c5 := hr.all.2.2.2.2.2.1
        have c5f := hr.all.2.2.2.2.2.2.2.2 5
        dsimp only at c5
        obtain ⟨ar, lr, kr, rfl⟩ : ∃ ar lr kr, u7 = Value.slice ar lr kr := ⟨_, _, _, hv.form.choose_spec.choose_spec⟩
        have hvy : ∀ b, (Value.slice ar lr kr).ownBlock = some b → b ≠ y := fun b hb => by have := hv.own b hb; omega
        by_cases hjn : j < s.way.length
        · obtain ⟨⟨x, m, st⟩, hx⟩ : ∃ x, s.way[j]? = some x := ⟨_, List.getElem?_eq_getElem hjn⟩
          obtain ⟨g, c', e0, hcells⟩ := hr.items.at (fun _ => rfl) hx
          cases e0
          have x0 : wr.cell? ⟨g, j * 5, none⟩ = some (.int .i64 x) := hcells 0 _ rfl
          have x1 : wr.cell? ⟨g, j * 5 + 1, none⟩ = some (.int .i64 m.frm) := hcells 1 _ rfl
          have x2 : wr.cell? ⟨g, j * 5 + 1 + 1, none⟩ = some (.int .i64 m.to) := hcells 2 _ rfl
          have x2' : wr.cell? ⟨g, j * 5 + 2, none⟩ = some (.int .i64 m.to) := hcells 2 _ rfl
          have x3 : wr.cell? ⟨g, j * 5 + 3, none⟩ = some (.int .i64 m.kind) := hcells 3 _ rfl
          have x4 : wr.cell? ⟨g, j * 5 + 4, none⟩ = some (.string m.body) := hcells 4 _ rfl
          have htk : s.way.take (j + 1) = s.way.take j ++ [(x, m, st)] := by rw [List.take_add_one, hx]; rfl
          have hc := cntL_snoc (s.way.take j) (x, m, st) kn
          have hq := othL_snoc (s.way.take j) (x, m, st) kn
          rw [← htk] at hc hq
          have h3 : (s.way.take j).length ≤ s.way.length := List.length_take_le' j s.way
          have hcl2 := cntL_le (s.way.take j) kn
          have hol := othL_le (s.way.take j) kn
          have j0 : (0 : Int) ≤ (j : Int) := Int.natCast_nonneg _
          have j1 : (j : Int) < (s.way.length : Int) := by omega
          obtain ⟨C, hC⟩ : ∃ C, C = cntL (s.way.take j) kn := ⟨_, rfl⟩
          rw [← hC] at hr c5 hc hcl2
          have hC1 : (C : Int) ≤ (s.way.length : Int) := by omega
          have hC0 : (0 : Int) ≤ (C : Int) := Int.natCast_nonneg _
          by_cases ht : m.to = (kn : Int)
          · rw [if_pos ht] at hc hq
            have ht' : (m.to == (kn : Int)) = true := by simpa using ht
            have HV := hid (And.intro hv (And.intro hr (And.intro hm hz)))
            have HC := hid (And.intro hc hq)
            clear hv hr hm hc hq hz htk hcells ht hx hC hol h3 hcl2
            go_wp2_with fail
            go_roundg (gk - 1)
            case measure => omega
            case rel =>
              have hmy : Mod [y] wr (wr.setCell ⟨y, 5, none⟩ (.int .i64 (s.lost + (C : Int) + 1))) := (Mod.refl _ _).setCell (by simp) _
              refine ⟨j + 1, by go_num, by omega, by rw [HC.out.2]; exact HV.out.1.mod hmy (fun b hb => by simpa using hvy b hb), ?_, HV.out.2.2.1.trans hmy, by have := hmy.size; have := HV.out.2.2.2; omega⟩
              have e : ({ s.marking kn true with lost := s.lost + (cntL (s.way.take (j + 1)) kn : Int) } : NetS) = { s.marking kn true with lost := s.lost + (C : Int) + 1 } := by rw [HC.out.1]; simp; omega
              rw [e]
              exact HV.out.2.1.num 5 (.int .i64 (s.lost + (C : Int) + 1)) _ rfl (by decide) rfl rfl rfl
          · rw [if_neg ht] at hc hq
            have ht' : (m.to == (kn : Int)) = false := by simpa using ht
            have happ := hv.app elemItem hz (x, m, st) rfl (by simp [itemC, Msg.cells, Value.oneCell']) (by omega) (by decide)
            have HA := hid happ
            have HV := hid (And.intro hv (And.intro hr (And.intro hm hz)))
            have HC := hid (And.intro hc hq)
            clear hv hr hm hc hq hz htk hcells ht hx hC hol h3 hcl2 happ
            go_wp2_with (first
              | (at_builtin; refine wpList_app_run rfl _ _ 57 rfl _ _ rfl rfl _ HA.out ?_; rintro v3 w3 ⟨h31, h32, h33⟩; have H3 := hid (And.intro h31 (And.intro h32 h33)); clear h31 h32 h33))
            go_roundg (gk - 1)
            case measure => omega
            case rel =>
              obtain ⟨hv, hr, hm, hz⟩ := HV.out
              obtain ⟨h31, h32, h33⟩ := H3.out
              have hno : ∀ b, (Value.slice ar lr kr).ownBlock = some b → w1.heap.size ≤ b := fun b hb => hv.own b hb
              refine ⟨j + 1, by go_num, by omega, by rw [HC.out.2]; exact h31, ?_, hm.trans' h32 (fun x hx => .inr (by have := hno x (by simpa using hx); omega)), by have := h32.size; omega⟩
              rw [HC.out.1]
              refine hr.mod h32 (fun hh => hvy y (by simpa using hh) rfl) (fun b hb hh => ?_) (fun b hb hh => ?_)
              · obtain ⟨c, hc⟩ := H.out.items.block hb
                have := lt_of_block hc
                have := hno b (by simpa using hh)
                omega
              · obtain ⟨c, hc⟩ := H.out.cuts.block hb
                have := lt_of_block hc
                have := hno b (by simpa using hh)
                omega
        · have hd : s.way.take j = s.way := List.take_of_length_le (by omega)
          rw [hd] at hv hr
          have c6f := hr.all.2.2.2.2.2.2.2.2 6
          have j1 : ¬ (j : Int) < (s.way.length : Int) := by omega
          have HV := hid (And.intro hv (And.intro hr hm))
          clear hv hr hm hd hz c5 c5f
          go_wp2_with fail
          go_ret
          have hw : ((s.marking kn true).losing (s.waiting kn) (s.waiting kn).length).way = othL s.way kn := NetS.losing_way s kn HO.out.nodup
          have hcn : (s.waiting kn).length = cntL s.way kn := by unfold NetS.waiting cntL; rw [List.length_map]
          have hv : ItemsAt B wr (.slice ar lr kr) ((s.marking kn true).losing (s.waiting kn) (s.waiting kn).length).way := by
            rw [hw]; exact ⟨HV.out.1.row, fun k hk => by have := HV.out.1.own k hk; omega⟩
          have hfin := HV.out.2.1.setItems (Mod.refl [] wr) (by simp) (fun _ _ => by simp) (.slice ar lr kr) ((s.marking kn true).losing (s.waiting kn) (s.waiting kn).length) hv (by rw [hcn]; rfl) rfl rfl
          refine ⟨by rw [HS.out]; rfl, by rw [HS.out]; exact ⟨_, _, cl, _, hfin, hcl⟩, H.out.rmod ?_⟩
          exact (HV.out.2.2.mono (fun x hx => .inl ((mem_foot x).2 (.inl (by simpa using hx))))).setCell (.inl ((mem_foot y).2 (.inl rfl))) _
end
end Go.Proofs.Ytbjgjagbepopfaa
