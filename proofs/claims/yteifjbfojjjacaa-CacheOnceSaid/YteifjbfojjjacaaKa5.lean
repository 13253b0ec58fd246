/-
  The reference's replay cache, walked: See. No statement of a claim stands here; each contract names what it asks.
-/
import Derived.Test.YteifjbfojjjacaaKa4
set_option linter.unusedSimpArgs false
namespace Go.Proofs.Yteifjbfojjjacaa
open Go Go.RowKit Go.ChangeMaps

theorem elemEnt : Elem Try.prog 36 74 2 24 :=
  Elem.of (z := .agg #[.string ⟨#[]⟩, .int .i64 0]) Try.underlying36 (by kernel_rfl) rfl (by decide)

/-- Times that may be. -/
def TOk (s : RepS) : Prop := ∀ e ∈ s.l, 0 ≤ e.2.1 ∧ e.2.1 ≤ 1099511627776
theorem seeS_t {s : RepS} (h : TOk s) (id : ByteArray) (time now : Int) : TOk (seeS s id time now).1 := by
  have hk : ∀ e ∈ kept s now, 0 ≤ e.2.1 ∧ e.2.1 ≤ 1099511627776 := fun e he => h e (List.mem_filter.1 he).1
  unfold seeS
  split
  · exact h
  · split
    · exact h
    · rename_i ht
      split
      · exact hk
      · split
        · exact hk
        · intro e he
          rcases List.mem_append.1 he with he | he
          · exact hk e he
          · rw [List.mem_singleton.1 he]
            have ht' : (timeOk time && timeOk now) = true := by simpa using ht
            simp only [timeOk, Bool.and_eq_true, decide_eq_true_eq] at ht'
            exact ht'.1

theorem own_not' {v : Value} {b : Nat} (h : ∀ k, v.ownBlock = some k → k ≠ b) : b ∉ v.ownBlock.toList := by
  cases hv : v.ownBlock with
  | none => simp
  | some k => simpa using (h k hv).symm

def RSeePost (w : World) (y : Nat) (vl : Value) (s : RepS) (id : ByteArray) (time now : Int) (e : Ending) (w' : World) : Prop :=
  e = .returned (.tuple #[.int .i64 (seeS s id time now).2.1, .int .i64 (seeS s id time now).2.2]) ∧ ∃ vl', RRepAt w' y vl' (seeS s id time now).1 ∧ Mod [y] w w' ∧ ∀ k, vl'.ownBlock = some k → vl.ownBlock = some k ∨ w.heap.size ≤ k

theorem rsee_post {w W : World} {y : Nat} {vl vl' : Value} {s s' : RepS} {id : ByteArray} {time now k e : Int} (hs : seeS s id time now = (s', k, e)) (h : RRepAt W y vl' s') (hm : Mod [y] w W) (ho : ∀ k, vl'.ownBlock = some k → vl.ownBlock = some k ∨ w.heap.size ≤ k) :
    RSeePost w y vl s id time now (.returned (.tuple #[.int .i64 k, .int .i64 e])) W := ⟨by rw [hs], vl', by rw [hs]; exact h, hm, ho⟩

/-- While those that are not old are gathered. -/
def Gather (w : World) (l : Seen) (v : Value) (W : World) : Prop := W.ownsRow 0 74 2 v l.length (entCells l) ∧ Mod [] w W ∧ ∀ k, v.ownBlock = some k → w.heap.size ≤ k

theorem gather_more {w wr : World} {l : Seen} {v : Value} (h : Gather w l v wr) (e : ByteArray × Int × Nat) (hl : l.length ≤ 1000) :
    ∃ v' w', (Builtin.append_ #[36, 36] 36 #[v, .slice (some ⟨wr.heap.size, 0, none⟩) 1 1]).run Try.prog (wr.alloc (.cells #[.string e.1, .int .i64 e.2.1] 74)) = .ok v' w' ∧ Gather w (l ++ [e]) v' w' := by
  obtain ⟨hr, hm, hk⟩ := h
  obtain ⟨v', w', hrun, ho, hm', hk', -⟩ := elemEnt.app (wr.alloc (.cells #[.string e.1, .int .i64 e.2.1] 74)) 36 v l.length _ (row_mod hr (Mod.alloc (Mod.refl [] wr) _) (by simp)) wr.heap.size 1 _ _ _ (get_new wr _) rfl (by simp [Value.oneCell']) (by unfold maxLen; omega) (by omega)
  refine ⟨v', w', hrun, ?_, (hm.alloc _).trans' hm' (fun k hk2 => .inr (hk k (by simpa using hk2))), fun k h2 => ?_⟩
  · rw [entCells_append, List.length_append]; exact ho
  · have := hm.size
    rcases hk' k h2 with h3 | h3
    · exact hk k h3
    · simp at h3; omega

/-- The list is another. -/
theorem RRepAt.put {w : World} {y : Nat} {vl v' : Value} {s : RepS} {l : Seen} {clk : Nat} (h : w.heap[y]? = some (.cells #[.int .i64 s.room, .int .i64 s.window, vl] 38 (0, 0))) (hr : w.ownsRow 0 74 2 v' l.length (entCells l)) :
    RRepAt (w.setCell ⟨y, 2, none⟩ v') y v' { s with l := l, clk := clk } :=
  ⟨get_setCell_self h 2 v', row_mod hr (Mod.setCell (Mod.refl [y] w) (by simp) v') (fun k hk => by obtain ⟨c, hc⟩ := row_block hr hk; simpa using ne_ty hc h (by decide))⟩

theorem rep_more {w : World} {y : Nat} {v : Value} {s : RepS} (h : RRepAt w y v s) (e : ByteArray × Int × Nat) (hl : s.l.length ≤ 1000) :
    ∃ v' w', (Builtin.append_ #[36, 36] 36 #[v, .slice (some ⟨w.heap.size, 0, none⟩) 1 1]).run Try.prog (w.alloc (.cells #[.string e.1, .int .i64 e.2.1] 74)) = .ok v' w' ∧
      ((∃ g n c', v' = .slice (some ⟨g, 0, none⟩) n c') ∧ w'.cell? ⟨y, 2, none⟩ = some v ∧ w'.frozen? ⟨y, 2, none⟩ = false ∧
       Hid (RRepAt (w'.setCell ⟨y, 2, none⟩ v') y v' { s with l := s.l ++ [e], clk := s.clk + 1 } ∧ Mod (y :: v.ownBlock.toList) w (w'.setCell ⟨y, 2, none⟩ v') ∧ ∀ k, v'.ownBlock = some k → v.ownBlock = some k ∨ w.heap.size ≤ k)) := by
  obtain ⟨v', w', hrun, ho, hm', hk', g, c', hform⟩ := elemEnt.app (w.alloc (.cells #[.string e.1, .int .i64 e.2.1] 74)) 36 v s.l.length _ (row_mod h.row (Mod.alloc (Mod.refl [] w) _) (by simp)) w.heap.size 1 _ _ _ (get_new w _) rfl (by simp [Value.oneCell']) (by unfold maxLen; omega) (by omega)
  have hc := hm'.get (get_alloc h.cells _) (own_not' h.ne)
  have hrow : w'.ownsRow 0 74 2 v' (s.l ++ [e]).length (entCells (s.l ++ [e])) := by rw [entCells_append, List.length_append]; exact ho
  refine ⟨v', w', hrun, ⟨g, _, c', hform⟩, cell_at hc 2, free_at hc 2, hid ⟨RRepAt.put hc hrow, ?_, fun k hk => ?_⟩⟩
  · exact Mod.setCell (((Mod.alloc (Mod.refl _ w) _).trans (hm'.mono (fun x hx => .inl (List.mem_cons_of_mem _ hx))))) (by simp) _
  · rcases hk' k hk with h3 | h3
    · exact .inl h3
    · right; simp at h3; omega

set_option maxHeartbeats 800000 in
theorem rSee_any (w : World) (y : Nat) (vl : Value) (s : RepS) (id : ByteArray) (time now : Int) (h : RRepAt w y vl s) (ho : ROk s) (ht : TOk s) :
    Calls Try.prog 13 #[.pointer (some ⟨y, 0, none⟩), .string id, .int .i64 time, .int .i64 now] w (RSeePost w y vl s id time now) := by
  have HR := hid h
  have HO := hid ho
  have HTO := hid ht
  have hidle : ∀ k, vl.ownBlock = some k → vl.ownBlock = some k ∨ w.heap.size ≤ k := fun _ h => .inl h
  clear h ho ht
  by_cases h1 : 4096 < id.size
  · have d1 : decide ((4096 : Int) < (id.size : Int)) = true := by simp; omega
    have HS := hid (show seeS s id time now = (s, 0, 3) by simp [seeS, h1])
    clear h1
    go_enter Try.func13, Try.ntmps13
    go_wp2_with fail
    go_ret2
    exact rsee_post HS.out HR.out (Mod.refl _ _) hidle
  · have d1 : decide ((4096 : Int) < (id.size : Int)) = false := by simp; omega
    cases h2 : timeOk time with
    | false =>
      have HS := hid (show seeS s id time now = (s, 0, 2) by simp only [seeS, if_neg h1, h2, Bool.false_and, if_true])
      have H2 := hid h2
      clear h1 h2
      go_enter Try.func13, Try.ntmps13
      go_wp2_with (first
        | (go_at_call 32; refine (rtime_any _ _).mono ?_; rw [H2.out]; rintro e w' ⟨rfl, rfl⟩))
      go_ret2
      exact rsee_post HS.out HR.out (Mod.refl _ _) hidle
    | true =>
      cases h3 : timeOk now with
      | false =>
        have HS := hid (show seeS s id time now = (s, 0, 2) by simp only [seeS, if_neg h1, h2, h3, Bool.true_and, if_true])
        have H2 := hid h2
        have H3 := hid h3
        clear h1 h2 h3
        go_enter Try.func13, Try.ntmps13
        go_wp2_with (first
          | (go_at_call 32; refine (rtime_any _ _).mono ?_; (first | rw [H2.out] | rw [H3.out]); rintro e w' ⟨rfl, rfl⟩))
        go_ret2
        exact rsee_post HS.out HR.out (Mod.refl _ _) hidle
      | true =>
        have hS : seeS s id time now = if (look (kept s now) id).isSome then ({ s with l := kept s now }, 34, 0) else if ((kept s now).length : Int) = s.room then ({ s with l := kept s now }, 60, 0) else ({ s with l := kept s now ++ [(id, time, s.clk)], clk := s.clk + 1 }, 0, 0) := by
          simp only [seeS, if_neg h1, h2, h3, Bool.and_true, Bool.true_eq_false, if_false]
        have HS := hid hS
        have H2 := hid h2
        have H3 := hid h3
        have hnow : 0 ≤ now ∧ now ≤ 1099511627776 := by
          simp only [timeOk, Bool.and_eq_true, decide_eq_true_eq] at h3; exact h3
        clear h1 h2 h3 hS
        go_enter Try.func13, Try.ntmps13
        go_wp2_with (first
          | (go_at_call 32; refine (rtime_any _ _).mono ?_; (first | rw [H2.out] | rw [H3.out]); rintro e w' ⟨rfl, rfl⟩))
        obtain ⟨a, c, rfl⟩ := row_slice HR.out.row
        have hlen0 : s.l.length ≤ 256 := by have := HO.out.len; have := HO.out.r2; omega
        go_loopg [10, 11] s.l.length (fun gk v i W' => ∃ (j : Nat) (F : Seen), i = .int .i64 (j : Int) ∧ gk + j = s.l.length ∧ j ≤ s.l.length ∧ F = (s.l.take j).filter (fresh now s.window) ∧ Gather w F v W')
        case atStart => exact ⟨0, [], rfl, rfl, Nat.zero_le _, rfl, ⟨rfl, .inr ⟨w.heap.size, 0, #[], rfl, Nat.zero_le _, get_new w _, Nat.le_refl _, by unfold maxLen; omega, rfl, rfl⟩⟩, Mod.alloc (Mod.refl _ _) _, fun k hk => by cases hk; exact Nat.le_refl _⟩
        case round =>
          obtain ⟨j, F, rfl, hj, hjl, hF, hg⟩ := hrel
          obtain ⟨a2, cc2, rfl⟩ := row_slice hg.1
          have hRr := HR.out.mod hg.2.1 (by simp) (by simp)
          have c0 : wr.cell? ⟨y, 0, none⟩ = some (.int .i64 s.room) := cell_at hRr.cells 0
          have c1 : wr.cell? ⟨y, 1, none⟩ = some (.int .i64 s.window) := cell_at hRr.cells 1
          have c2 : wr.cell? ⟨y, 2, none⟩ = some (.slice a s.l.length c) := cell_at hRr.cells 2
          have HG := hid hg
          clear hg
          by_cases hjn : j < s.l.length
          · have hp : s.l[j]? = some s.l[j] := List.getElem?_eq_getElem hjn
            generalize s.l[j] = e at hp
            obtain ⟨g, c', hg, hc⟩ := row_pos hRr.row (by omega)
            cases hg
            have e0 := hc _ _ (ent_at hp).1
            have e1 := hc _ _ (ent_at hp).2
            have j0 : (0 : Int) ≤ (j : Int) := Int.natCast_nonneg _
            have j1 : (j : Int) < (s.l.length : Int) := by omega
            have htk := HTO.out e (List.mem_of_getElem? hp)
            have sw : IntKind.i64.wrap (now - e.2.1) = now - e.2.1 := IntWalk.i64_in _ (by omega)
            have hnext : (s.l.take (j + 1)).filter (fresh now s.window) = F ++ if fresh now s.window e then [e] else [] := by
              rw [List.take_add_one, hp, List.filter_append, ← hF]
              simp only [Option.toList_some, List.filter_cons, List.filter_nil]
            have hgl : F.length ≤ 1000 := by
              have := List.length_filter_le (fresh now s.window) (s.l.take j)
              rw [← hF] at this
              simp at this; omega
            have HNE := hid hnext
            clear hc hp hRr hnext hF
            by_cases hf : now - e.2.1 ≤ s.window
            · have d7 : decide (now - e.2.1 ≤ s.window) = true := by simpa using hf
              have hok : fresh now s.window e = true := by simp only [fresh, decide_eq_true_eq]; omega
              have HOK := hid hok
              clear hf hok
              go_wp2_with fail
              go_quiet (fail)
              have HG1 : Gather w F (.slice a2 F.length cc2) (wr.drewN nq) := ⟨row_mod HG.out.1 (Mod.drewN (Mod.refl [] _) _) (by simp), HG.out.2.1.drewN _, HG.out.2.2⟩
              have c2q : (wr.drewN nq).cell? ⟨y, 2, none⟩ = some (.slice (some ⟨g, 0, none⟩) s.l.length c) := c2
              have e0q : (wr.drewN nq).cell? ⟨g, j * 2, none⟩ = some (.string e.1) := e0
              have e1q : (wr.drewN nq).cell? ⟨g, j * 2 + 1, none⟩ = some (.int .i64 e.2.1) := e1
              clear HG c0 c1 c2 e0 e1
              generalize wr.drewN nq = wq at *
              have HG := hid HG1
              clear HG1
              go_wp2_with (first
                | (at_builtin; refine wpList_app_run rfl _ _ 36 rfl (.slice a2 F.length cc2) _ rfl rfl _ (gather_more HG.out e hgl) ?_; rintro v2 w2 hg2; have HG2 := hid hg2; clear hg2))
              go_roundg (gk - 1)
              case measure => omega
              case rel => exact ⟨j + 1, F ++ [e], by go_num, by omega, by omega, by rw [HNE.out, HOK.out]; simp, HG2.out⟩
            · have d7 : decide (now - e.2.1 ≤ s.window) = false := by simpa using hf
              have hok : fresh now s.window e = false := by simp only [fresh, decide_eq_false_iff_not]; omega
              have HOK := hid hok
              clear hf hok
              go_wp2_with fail
              go_quiet (fail)
              go_wp2_with fail
              go_roundg (gk - 1)
              case measure => omega
              case rel => exact ⟨j + 1, F, by go_num, by omega, by omega, by rw [HNE.out, HOK.out]; simp, by exact ⟨row_mod HG.out.1 (Mod.drewN (Mod.refl [] _) _) (by simp), HG.out.2.1.drewN _, HG.out.2.2⟩⟩
          · have d1 : decide ((j : Int) < (s.l.length : Int)) = false := by rw [decide_eq_false_iff_not]; omega
            have d2 : decide (j < s.l.length) = false := by rw [decide_eq_false_iff_not]; omega
            have hf : ∀ i, wr.frozen? ⟨y, i, none⟩ = false := free_at hRr.cells
            have hFk : F = kept s now := by rw [hF, List.take_of_length_le (by omega)]; rfl
            have hS := HS.out
            rw [← hFk] at hS
            have HS' := hid hS
            have hlenF : (F.length : Int) ≤ s.room := by rw [hFk]; exact (kept_ok HO.out now).len
            have hr2 := HO.out.r2
            have hR5 : RRepAt (wr.setCell ⟨y, 2, none⟩ (.slice a2 F.length cc2)) y (.slice a2 F.length cc2) { s with l := F } := RRepAt.put (clk := s.clk) hRr.cells HG.out.1
            have hM5 : Mod [y] w (wr.setCell ⟨y, 2, none⟩ (.slice a2 F.length cc2)) := Mod.setCell (HG.out.2.1.mono (by simp)) (by simp) _
            have hown : ∀ k, (Value.slice a2 F.length cc2).ownBlock = some k → w.heap.size ≤ k := HG.out.2.2
            have HR5 := hid hR5
            have HM5 := hid hM5
            have HOWN := hid hown
            clear hF hFk hS HS hR5 hM5 hown HG hRr
            go_wp2_with fail
            generalize wr.setCell ⟨y, 2, none⟩ (.slice a2 F.length cc2) = W5 at *
            clear c0 c1 c2 hf
            have c0 : W5.cell? ⟨y, 0, none⟩ = some (.int .i64 s.room) := cell_at HR5.out.cells 0
            have c2 : W5.cell? ⟨y, 2, none⟩ = some (.slice a2 F.length cc2) := cell_at HR5.out.cells 2
            refine (rHas_any W5 y _ _ id HR5.out (by dsimp only; omega)).mono ?_
            dsimp only
            cases hlk : look F id with
            | some v =>
              rw [hlk] at HS'
              have HLK := hid hlk
              clear hlk
              simp only [Option.isSome_some]
              rintro e w5 ⟨rfl, rfl⟩
              go_wp2_with fail
              go_ret2
              exact rsee_post (HS'.out.trans (if_pos rfl)) HR5.out HM5.out (fun k hk => .inr (HOWN.out k hk))
            | none =>
              rw [hlk] at HS'
              have HLK := hid hlk
              clear hlk
              simp only [Option.isSome_none]
              rintro e w5 ⟨rfl, rfl⟩
              by_cases hfull : (F.length : Int) = s.room
              · have d5 : decide (s.room ≤ (F.length : Int)) = true := by rw [decide_eq_true_eq]; omega
                have HFU := hid hfull
                clear hfull
                go_wp2_with fail
                go_quiet (fail)
                go_wp2_with fail
                go_ret2
                exact rsee_post ((HS'.out.trans (if_neg (by simp))).trans (if_pos HFU.out)) (HR5.out.mod (Mod.drewN (Mod.refl [] _) _) (by simp) (by simp)) (HM5.out.drewN _) (fun k hk => .inr (HOWN.out k hk))
              · have d5 : decide (s.room ≤ (F.length : Int)) = false := by rw [decide_eq_false_iff_not]; omega
                have HFU := hid hfull
                clear hfull
                go_wp2_with fail
                go_quiet (fail)
                have hR6 := HR5.out.mod (Mod.drewN (Mod.refl [] w5) nq) (by simp) (by simp)
                have hM6 := HM5.out.drewN nq
                clear HR5 HM5 c0 c2
                generalize w5.drewN nq = W6 at *
                have c2 : W6.cell? ⟨y, 2, none⟩ = some (.slice a2 F.length cc2) := cell_at hR6.cells 2
                have HR6 := hid hR6
                have HM6 := hid hM6
                clear hR6 hM6
                go_wp2_with (first
                  | (at_builtin; refine wpList_app_run rfl _ _ 36 rfl (.slice a2 F.length cc2) _ rfl rfl _ (rep_more HR6.out (id, time, s.clk) (by dsimp only; omega)) ?_; rintro v7 w7 ⟨⟨g7, n7, c7, rfl⟩, q2, qf, HX⟩))
                go_ret2
                refine rsee_post ((HS'.out.trans (if_neg (by simp))).trans (if_neg HFU.out)) HX.out.1 (HM6.out.trans' HX.out.2.1 (fun x hx => ?_)) (fun k hk => .inr ?_)
                · rcases List.mem_cons.1 hx with rfl | hx
                  · exact .inl (by simp)
                  · exact .inr (HOWN.out x (by simpa using hx))
                · have := HM6.out.size
                  rcases HX.out.2.2 k hk with h | h
                  · exact HOWN.out k h
                  · omega
end Go.Proofs.Yteifjbfojjjacaa
