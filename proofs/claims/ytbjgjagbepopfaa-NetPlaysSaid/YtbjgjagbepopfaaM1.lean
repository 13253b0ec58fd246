/-
  The reference's net, walked: party, cut, at. No statement of a claim stands here; each contract names what it asks.
-/
import Derived.Test.YtbjgjagbepopfaaM0
set_option linter.unusedSimpArgs false
namespace Go.Proofs.Ytbjgjagbepopfaa
open Go Go.RowKit Go.ChangeMaps

set_option maxRecDepth 50000 in
theorem arr_run (a b c d : Int) (w : World) (k : Nat) : (Op.equalIn (k + 2) 85 (.agg #[.int .i64 a, .int .i64 b]) (.agg #[.int .i64 c, .int .i64 d])).run Try.prog w = .ok (decide ((a, b) = (c, d))) w := by
  obtain ⟨i, hi⟩ : ∃ i, Try.prog.info? 3 = some i := ⟨_, rfl⟩
  have hC : Try.prog.cellsOf 3 = 1 := by kernel_rfl
  have hp : Try.prog.plainKey 3 = true := by kernel_rfl
  have hu : Try.prog.underlying 85 = some (.array 2 3) := by kernel_rfl
  rw [run_equalIn_array w (k + 1) (t := 85) (e := 3) (n := 2) _ _ hu (i := i) hi]
  rw [hC, show List.range 2 = [0, 1] from rfl]
  have p0 : ∀ x y : Int, (part 3 #[.int .i64 x, .int .i64 y] 0).run Try.prog w = .ok (.int .i64 x) w := fun x y => run_part_plain w hp rfl
  have p1 : ∀ x y : Int, (part 3 #[.int .i64 x, .int .i64 y] 1).run Try.prog w = .ok (.int .i64 y) w := fun x y => run_part_plain w hp rfl
  have e1 : ∀ x y : Int, (Op.equalIn (k + 1) 3 (.int .i64 x) (.int .i64 y)).run Try.prog w = .ok (x == y) w := fun x y => run_equalIn_int w k 3 .i64 .i64 x y Try.underlying3
  simp only [Op.eqItems, Sem.run_bind, Nat.zero_mul, Nat.one_mul, p0, p1, e1, Result.andThen_ok]
  by_cases h1 : a = c <;> by_cases h2 : b = d <;> simp [h1, h2, p0, p1, e1]
theorem arr_eq (a b c d : Int) (w : World) : (Op.equalIn 10000 85 (.agg #[.int .i64 a, .int .i64 b]) (.agg #[.int .i64 c, .int .i64 d])).run Try.prog w = .ok (decide ((a, b) = (c, d))) w := arr_run a b c d w 9998
theorem arr_eql (a b c d : Int) (w : World) : (binOp .eql 85 (.agg #[.int .i64 a, .int .i64 b]) (.agg #[.int .i64 c, .int .i64 d])).run Try.prog w = .ok (.bool (decide ((a, b) = (c, d)))) w := by
  rw [run_eql_struct, show (10000 : Nat) = 9998 + 2 from rfl, arr_run a b c d w 9998]
  rfl
theorem arr_neq (a b c d : Int) (w : World) : (binOp .neq 85 (.agg #[.int .i64 a, .int .i64 b]) (.agg #[.int .i64 c, .int .i64 d])).run Try.prog w = .ok (.bool (!decide ((a, b) = (c, d)))) w := by
  rw [run_neq_struct, show (10000 : Nat) = 9998 + 2 from rfl, arr_run a b c d w 9998]
  rfl

section
variable {B : Nat} {w : World} {y : Nat} {vl vc : Value} {cl : List Seat} {dn : List Value} {s : NetS}
set_option maxRecDepth 20000 in
theorem rparty_any (h : RefOn B w y vl vc cl dn s) (k : Int) :
    Calls Try.prog 40 #[.pointer (some ⟨y, 0, none⟩), .int .i64 k] w fun e w' => e = .returned (.bool (s.party k)) ∧ w' = w := by
  have c0 := h.all.1
  clear h
  by_cases h1 : 1 ≤ k
  · have hp : s.party k = decide (k ≤ s.parties) := by unfold NetS.party; simp [h1]
    have HP := hid hp
    clear hp
    go_enter Try.func40, Try.ntmps40
    go_wp2_with fail
    go_ret
    exact ⟨by rw [HP.out]; rfl, rfl⟩
  · have hp : s.party k = false := by unfold NetS.party; simp; omega
    have HP := hid hp
    clear hp
    go_enter Try.func40, Try.ntmps40
    go_wp2_with fail
    go_ret
    exact ⟨by rw [HP.out]; rfl, rfl⟩

set_option maxRecDepth 20000 in
set_option maxHeartbeats 1000000 in
theorem rcut_any (h : RefOn B w y vl vc cl dn s) (hc : cl.length ≤ 5000) (a b : Int) :
    Calls Try.prog 43 #[.pointer (some ⟨y, 0, none⟩), .int .i64 a, .int .i64 b] w fun e w' => e = .returned (.bool (s.cut (a, b))) ∧ w' = w := by
  obtain ⟨av, kv, rfl⟩ := h.cuts.form
  have c7 := h.all.2.2.2.2.2.2.2.1
  have hs : s.cut (a, b) = decide ((a, b) ∈ cl) := (h.has (a, b)).symm
  have HS := hid hs
  have H := hid h.cuts
  clear h hs
  go_enter Try.func43, Try.ntmps43
  go_wp2_with fail
  go_loopg [7] cl.length (fun gk i W' => ∃ (j : Nat), i = nat j ∧ gk + j = cl.length ∧ decide ((a, b) ∈ cl.drop j) = decide ((a, b) ∈ cl) ∧ W' = w)
  case atStart => exact ⟨0, rfl, by omega, rfl, rfl⟩
  case round =>
    obtain ⟨j, rfl, hj, hp, rfl⟩ := hrel
    by_cases hjn : j < cl.length
    · obtain ⟨⟨x1, x2⟩, hx⟩ : ∃ x, cl[j]? = some x := ⟨_, List.getElem?_eq_getElem hjn⟩
      obtain ⟨g, c', e0, hcells⟩ := H.out.at (fun _ => rfl) hx
      cases e0
      have x0 : wr.cell? ⟨g, j * 2, none⟩ = some (.int .i64 x1) := hcells 0 _ rfl
      have x1' : wr.cell? ⟨g, j * 2 + 1, none⟩ = some (.int .i64 x2) := hcells 1 _ rfl
      have hd : cl.drop j = (x1, x2) :: cl.drop (j + 1) := by rw [List.drop_eq_getElem_cons hjn]; rw [(List.getElem?_eq_some_iff.1 hx).2]
      rw [hd] at hp
      have j0 : (0 : Int) ≤ (j : Int) := Int.natCast_nonneg _
      have j1 : (j : Int) < (cl.length : Int) := by omega
      have heq := arr_eq x1 x2 a b wr
      by_cases hk : (x1, x2) = (a, b)
      · have hq : decide ((a, b) ∈ cl) = true := by rw [← hp, hk]; simp
        rw [decide_eq_true hk] at heq
        have HQ := hid hq
        clear hp hd hx hq hcells hk
        go_wp2_with fail
        go_ret
        exact ⟨by rw [HS.out, HQ.out]; rfl, rfl⟩
      · have hq : decide ((a, b) ∈ cl.drop (j + 1)) = decide ((a, b) ∈ cl) := by
          rw [← hp]
          simp only [List.mem_cons, decide_eq_decide]
          exact ⟨.inr, fun h => h.resolve_left (fun e => hk e.symm)⟩
        rw [decide_eq_false hk] at heq
        have HQ := hid hq
        clear hp hd hx hq hcells hk
        go_wp2_with fail
        go_roundg (gk - 1)
        case measure => omega
        case rel => exact ⟨j + 1, by go_num, by omega, HQ.out, rfl⟩
    · have hd : cl.drop j = [] := List.drop_eq_nil_of_le (by omega)
      have hq : decide ((a, b) ∈ cl) = false := by rw [← hp, hd]; rfl
      have j1 : ¬ (j : Int) < (cl.length : Int) := by omega
      have HQ := hid hq
      clear hq hd hp
      go_wp2_with fail
      go_ret
      exact ⟨by rw [HS.out, HQ.out]; rfl, rfl⟩

/-- Where a message of a number that may be taken lies. -/
def AtP (s : NetS) (k v : Int) : Prop := (v = -1 ∧ s.free k = none) ∨ ∃ (i : Nat) (m : Msg) (st : Nat), v = (i : Int) ∧ s.way[i]? = some (k, m, st) ∧ s.free k = some m

set_option maxRecDepth 20000 in
set_option maxHeartbeats 2000000 in
theorem rat_any (h : RefOn B w y vl vc cl dn s) (hc : cl.length ≤ 5000) (hw : s.way.length ≤ 5000) (hn : (s.way.map (·.1)).Nodup) (k : Int) :
    Calls Try.prog 42 #[.pointer (some ⟨y, 0, none⟩), .int .i64 k] w fun e w' => ∃ v, e = .returned (.int .i64 v) ∧ AtP s k v ∧ Mod [] w w' := by
  obtain ⟨av, kv, rfl⟩ := h.items.form
  have H := hid h
  have HN := hid hn
  clear h hn
  go_enter Try.func42, Try.ntmps42
  go_wp2_with fail
  go_loopg [5] s.way.length (fun gk i W' => ∃ (j : Nat), i = nat j ∧ gk + j = s.way.length ∧ (∀ e ∈ s.way.take j, e.1 = k → s.cut (e.2.1.frm, Msg.to e.2.1) = true) ∧ Mod [] w W')
  case atStart => exact ⟨0, rfl, by omega, by simp, Mod.refl _ _⟩
  case round =>
    obtain ⟨j, rfl, hj, hp, hm⟩ := hrel
    have hO := H.out.mod0 hm
    have c6 := hO.all.2.2.2.2.2.2.1
    by_cases hjn : j < s.way.length
    · obtain ⟨⟨x, m, st⟩, hx⟩ : ∃ x, s.way[j]? = some x := ⟨_, List.getElem?_eq_getElem hjn⟩
      obtain ⟨g, c', e0, hcells⟩ := hO.items.at (fun _ => rfl) hx
      cases e0
      have x0 : wr.cell? ⟨g, j * 5, none⟩ = some (.int .i64 x) := hcells 0 _ rfl
      have x1 : wr.cell? ⟨g, j * 5 + 1, none⟩ = some (.int .i64 m.frm) := hcells 1 _ rfl
      have x2 : wr.cell? ⟨g, j * 5 + 1 + 1, none⟩ = some (.int .i64 m.to) := hcells 2 _ rfl
      have htk : s.way.take (j + 1) = s.way.take j ++ [(x, m, st)] := by rw [List.take_add_one, hx]; rfl
      have j0 : (0 : Int) ≤ (j : Int) := Int.natCast_nonneg _
      have j1 : (j : Int) < (s.way.length : Int) := by omega
      by_cases hk : x = k
      · subst hk
        cases hct : s.cut (m.frm, m.to) with
        | true =>
          have hp2 : ∀ e ∈ s.way.take (j + 1), e.1 = x → s.cut (e.2.1.frm, Msg.to e.2.1) = true := by
            intro e he hk
            rw [htk] at he
            rcases List.mem_append.1 he with he | he
            · exact hp e he hk
            · rw [List.mem_singleton.1 he]; exact hct
          have hcall := fun q => rcut_any (hO.mod0 ((Mod.refl _ _).drewN q)) hc m.frm m.to
          rw [hct] at hcall
          have HC := hid hcall
          have HP := hid hp2
          have HM := hid hm
          clear hp hp2 hm hcall hct hcells hx htk hO
          go_upto_region 4 with fail
          go_quiet ((go_at_call 43; exact Calls.quiet_of_same (HC.out _)))
          go_wp2_with fail
          go_roundg (gk - 1)
          case measure => omega
          case rel => exact ⟨j + 1, by go_num, by omega, HP.out, HM.out.drewN _⟩
        | false =>
          have hat : AtP s x (j : Int) := by
            refine .inr ⟨j, m, st, rfl, hx, ?_⟩
            unfold NetS.free
            rw [look_mem HN.out (List.mem_of_getElem? hx)]
            simp [hct]
          have hcall := fun q => rcut_any (hO.mod0 ((Mod.refl _ _).drewN q)) hc m.frm m.to
          rw [hct] at hcall
          have HC := hid hcall
          have HA := hid hat
          have HM := hid hm
          clear hp hm hcall hct hcells hx htk hO hat
          go_upto_region 4 with fail
          go_quiet ((go_at_call 43; exact Calls.quiet_of_same (HC.out _)))
          go_wp2_with fail
          go_ret
          exact ⟨_, rfl, HA.out, HM.out.drewN _⟩
      · have hp2 : ∀ e ∈ s.way.take (j + 1), e.1 = k → s.cut (e.2.1.frm, Msg.to e.2.1) = true := by
          intro e he hk2
          rw [htk] at he
          rcases List.mem_append.1 he with he | he
          · exact hp e he hk2
          · rw [List.mem_singleton.1 he] at hk2; exact absurd hk2 hk
        have hk' : (x == k) = false := by simpa using hk
        have HP := hid hp2
        have HM := hid hm
        clear hp hp2 hm hcells hx htk hO hk
        go_upto_region 4 with fail
        go_quiet (fail)
        go_wp2_with fail
        go_roundg (gk - 1)
        case measure => omega
        case rel => exact ⟨j + 1, by go_num, by omega, HP.out, HM.out.drewN _⟩
    · have hd : s.way.take j = s.way := List.take_of_length_le (by omega)
      rw [hd] at hp
      have j1 : ¬ (j : Int) < (s.way.length : Int) := by omega
      have hf : AtP s k (-1) := by
        refine .inl ⟨rfl, ?_⟩
        unfold NetS.free
        cases hl : look s.way k with
        | none => rfl
        | some m =>
          obtain ⟨st, hst⟩ := look_some_mem hl
          have := hp _ hst rfl
          simp [this]
      have HF := hid hf
      have HM := hid hm
      clear hp hd hm hO hf
      go_wp2_with fail
      go_ret
      exact ⟨_, rfl, HF.out, HM.out⟩
end
end Go.Proofs.Ytbjgjagbepopfaa
