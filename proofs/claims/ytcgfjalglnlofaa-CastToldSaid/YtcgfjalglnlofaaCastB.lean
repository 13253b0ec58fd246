/-
  The statements' world, walked further: made. No statement of a claim stands here; each contract names what it asks.
-/
import Derived.Test.YtcgfjalglnlofaaCast9
set_option linter.unusedSimpArgs false
namespace Go.Proofs.Ytcgfjalglnlofaa
open Go Go.RowKit

theorem made_one (v : Value) (hv : v.cells = #[v]) (n : Nat) : madeCells v.cells (n * 1) = (List.replicate n v).toArray := by
  rw [hv]
  apply Array.ext
  · simp [size_madeCells]
  · intro i h1 h2
    simp [madeCells, Nat.mod_one]

/-- An append whose run is known. -/
theorem wpList_app_run {P : Program} {ops : Array Oper} {rest : List Oper} {o : Oper} {a : Act} {Q : Exit → Act → World → Prop} {w : World} (hg : o.guard = none) (s x : Operand) (t : TypeId)
    (ho : o.op = .call { callee := .builtin .append, args := #[s, x], argTypes := #[t, t] }) (v y : Value) (hs : a.eval s = v) (hx : a.eval x = y) (R : Value → World → Prop)
    (hr : ∃ v' w', (Builtin.append_ #[t, t] o.type #[v, y]).run P w = .ok v' w' ∧ R v' w') (h : ∀ v' w', R v' w' → wpList P ops Q rest (a.put o.dst v') w') : wpList P ops Q (o :: rest) a w := by
  obtain ⟨v', w', hr, hR⟩ := hr
  refine wpList_plain hg fun _ hK => ?_
  unfold Oper.wp execOp
  simp only [ho, resolve, invoke, builtin, Sem.run_bind, Sem.run_pure, Result.andThen_ok, List.map_toArray, List.map_cons, List.map_nil, hs, hx, hr]
  exact hK _ _ (h v' w' hR)

def madeS (t bad : Nat) (dealer : Int) (j : Nat) : LawS :=
  ⟨3 * t + 1, t, bad, (List.range j).map fun (i : Nat) => newNode (3 * (t : Int) + 1) (t : Int) ((i : Int) + 1) dealer, [], [], List.replicate (2 * (3 * t + 1) + 2) 0⟩

theorem LawAt.trip_lt {W : World} {lw sb : Nat} {vn vt vw : Value} {bl : List Trip} {L : LawS} (h : LawAt W lw sb vn vt vw bl L) {k : Nat} (hk : k ∈ tripBlocks bl) : k < W.heap.size := by
  simp only [tripBlocks, List.mem_flatMap] at hk
  obtain ⟨p, hp, hk⟩ := hk
  obtain ⟨i, hi⟩ := List.mem_iff_getElem?.1 hp
  have hlt : i < L.nodes.length := by rw [← h.len]; exact (List.getElem?_eq_some_iff.1 hi).1
  have hn := h.node i p _ hi (List.getElem?_eq_getElem hlt)
  simp only [List.mem_cons, List.not_mem_nil, or_false] at hk
  rcases hk with rfl | rfl | rfl
  · exact lt_of_block hn.cells
  · exact lt_of_block hn.e
  · exact lt_of_block hn.r

/-- One node more. -/
theorem LawAt.more {W w1 w2 : World} {lw sb x be br t bad j : Nat} {dealer : Int} {vn v2 : Value} {bl : List Trip} (h : LawAt W lw sb vn (.slice none 0 0) (.slice none 0 0) bl (madeS t bad dealer j)) (hm1 : Mod [] W w1)
    (hn1 : NodeAt w1 x be br (newNode (3 * (t : Int) + 1) (t : Int) ((j : Int) + 1) dealer)) (hx1 : W.heap.size ≤ x) (hx2 : W.heap.size ≤ be) (hx3 : W.heap.size ≤ br) (hm2 : Mod vn.ownBlock.toList w1 w2)
    (ho2 : w2.ownsRow 0 39 1 v2 (bl.length + 1) ((bl.map fun p => .pointer (some ⟨p.1, 0, none⟩)) ++ [.pointer (some ⟨x, 0, none⟩)])) (hl2 : ∀ k, v2.ownBlock = some k → vn.ownBlock = some k ∨ w1.heap.size ≤ k) :
    LawAt (w2.setCell ⟨lw, 3, none⟩ v2) lw sb v2 (.slice none 0 0) (.slice none 0 0) (bl ++ [(x, be, br)]) (madeS t bad dealer (j + 1)) := by
  have h1 := h.mod0 hm1
  have hc2 := hm2.get h1.cells (own_not h1.set.1)
  have hset : Mod [lw] w2 (w2.setCell ⟨lw, 3, none⟩ v2) := Mod.setCell (Mod.refl _ _) (by simp) _
  have hall : Mod (lw :: vn.ownBlock.toList) w1 (w2.setCell ⟨lw, 3, none⟩ v2) := (hm2.mono (fun x hx => .inl (List.mem_cons_of_mem _ hx))).trans (hset.mono (by simp))
  have hfar : ∀ {b : Nat}, (∀ (c : Array Value) (T : TypeId), w1.heap[b]? = some (.cells c T (0, 0)) → T ≠ 33 ∧ T ≠ 39) → b ∉ lw :: vn.ownBlock.toList := fun {b} hb hx => by
    simp only [List.mem_cons, Option.mem_toList] at hx
    rcases hx with rfl | hx
    · exact (hb _ _ h1.cells).1 rfl
    · obtain ⟨c, hc⟩ := row_block h1.nodes hx; exact (hb _ _ hc).2 rfl
  have hnode : ∀ {x be br : Nat} {s : NodeS}, NodeAt w1 x be br s → NodeAt (w2.setCell ⟨lw, 3, none⟩ v2) x be br s := fun {x be br s} hn =>
    hn.mod hall (hfar fun c T hc => by rw [hn.cells] at hc; cases hc; decide) (hfar fun c T hc => by have := hn.e; rw [hc] at this; cases this) (hfar fun c T hc => by have := hn.r; rw [hc] at this; cases this)
  have hbl : bl.length = j := by rw [h.len]; simp [madeS]
  refine ⟨?_, ?_, ⟨rfl, .inl ⟨rfl, rfl⟩⟩, ⟨rfl, .inl ⟨rfl, rfl⟩⟩, hall.get h1.sent (hfar fun c T hc => by rw [h1.sent] at hc; cases hc; decide), (by simp [Value.ownBlock]), by simp [madeS, hbl], ?_, ?_⟩
  · exact get_setCell_self hc2 3 v2
  · have := row_mod ho2 hset (fun k hk => ?_)
    · simpa using this
    · rcases hl2 k hk with h2 | h2
      · simpa using h1.set.1 k h2
      · have := lt_of_block h1.cells; simp; omega
  · intro i p s hp hs
    by_cases hi : i < bl.length
    · rw [List.getElem?_append_left hi] at hp
      refine hnode (h1.node i p s hp ?_)
      simp only [madeS] at hs ⊢
      rw [List.getElem?_map, List.getElem?_range (by omega)] at hs
      rw [List.getElem?_map, List.getElem?_range (by omega)]
      exact hs
    · have hlt : i < j + 1 := by have := (List.getElem?_eq_some_iff.1 hs).1; simpa [madeS] using this
      have hij : i = j := by omega
      subst hij
      rw [← hbl] at hp
      simp only [List.getElem?_concat_length, Option.some.injEq] at hp
      subst hp
      simp only [madeS] at hs
      rw [List.getElem?_map, List.getElem?_range (by omega)] at hs
      simp only [Option.map_some, Option.some.injEq] at hs
      subst hs
      exact hnode hn1
  · have e : tripBlocks (bl ++ [(x, be, br)]) = tripBlocks bl ++ [x, be, br] := by simp [tripBlocks]
    rw [e, List.nodup_append]
    refine ⟨h.nodup, by simp [hn1.er, hn1.xe, hn1.xr], fun a ha b hb => ?_⟩
    have := h.trip_lt ha
    simp only [List.mem_cons, List.not_mem_nil, or_false] at hb
    omega

theorem made_more {W wr w1 : World} {x be br t bad j : Nat} {dealer : Int} {vn : Value} {bl : List Trip} (ht : t ≤ 2) (h : LawAt wr (W.heap.size + 1) W.heap.size vn (.slice none 0 0) (.slice none 0 0) bl (madeS t bad dealer j)) (hM : Mod [] W wr)
    (hnew : ∀ k ∈ vn.ownBlock.toList ++ tripBlocks bl, W.heap.size ≤ k) (hjn : j < 3 * t + 1) (hm1 : Mod [] wr w1)
    (hn1 : NodeAt w1 x be br (newNode (3 * (t : Int) + 1) (t : Int) ((j : Int) + 1) dealer)) (hx1 : wr.heap.size ≤ x) (hx2 : wr.heap.size ≤ be) (hx3 : wr.heap.size ≤ br) :
    ∃ v2 w2, (Builtin.append_ #[29, 29] 29 #[vn, .slice (some ⟨w1.heap.size, 0, none⟩) 1 1]).run Try.prog (w1.alloc (.cells #[.pointer (some ⟨x, 0, none⟩)] 39)) = .ok v2 w2 ∧ (∃ g n c, v2 = .slice (some ⟨g, 0, none⟩) n c) ∧
      w2.cell? ⟨W.heap.size + 1, 3, none⟩ = some vn ∧ w2.frozen? ⟨W.heap.size + 1, 3, none⟩ = false ∧
      Hid (LawAt (w2.setCell ⟨W.heap.size + 1, 3, none⟩ v2) (W.heap.size + 1) W.heap.size v2 (.slice none 0 0) (.slice none 0 0) (bl ++ [(x, be, br)]) (madeS t bad dealer (j + 1)) ∧ Mod [] W (w2.setCell ⟨W.heap.size + 1, 3, none⟩ v2) ∧
        ∀ k ∈ v2.ownBlock.toList ++ tripBlocks (bl ++ [(x, be, br)]), W.heap.size ≤ k) := by
  obtain ⟨ip, hip, hzp, hsp, hyp⟩ := info_parts infoPtr
  have hbl : bl.length = j := by rw [h.len]; simp [madeS]
  have h1 := h.mod0 hm1
  obtain ⟨v2, w2, hr, ho2, hm2, hl2, hz2⟩ := run_app (P := Try.prog) (w1.alloc (.cells #[.pointer (some ⟨x, 0, none⟩)] 39)) 29 29 39 ip _ 1 8 Try.underlying29 hip hzp hsp hyp rfl (by omega) vn bl.length _ (row_mod h1.nodes (Mod.alloc (Mod.refl [] w1) _) (by simp)) ⟨w1.heap.size, 0, none⟩ 1 1 [.pointer (some ⟨x, 0, none⟩)] rfl (news_at (get_new w1 _)) (by simp [Value.oneCell']) (by unfold maxLen; omega) (by omega)
  have hm1' : Mod [] wr (w1.alloc (.cells #[.pointer (some ⟨x, 0, none⟩)] 39)) := hm1.alloc _
  have hlw : W.heap.size + 1 ∉ vn.ownBlock.toList := own_not h.set.1
  have hz := hM.size
  have hz1 := hm1'.size
  refine ⟨v2, w2, hr, (by obtain ⟨g, cap, cur, e, _⟩ := row_form ho2 (by rintro rfl; rcases ho2.2 with ⟨_, h0⟩ | ⟨g, cap, cur, h0, _⟩; omega; cases h0); exact ⟨g, _, cap, e⟩), ?_, free_at (hm2.get (get_alloc h1.cells _) hlw) 3, hid ⟨?_, ?_, ?_⟩⟩
  · refine hm2.cell (Mod.cell (Mod.alloc (Mod.refl [] w1) _) ?_ (by simp)) hlw
    rw [cell_at h1.cells]; rfl
  · exact h.more hm1' (hn1.mod (Mod.alloc (Mod.refl [] w1) _) (by simp) (by simp) (by simp)) hx1 hx2 hx3 hm2 ho2 (fun k hk => (hl2 k hk).imp id (fun h => by rw [h]; exact Nat.le_refl _))
  · refine (hM.trans hm1').trans' (Mod.setCell (hm2.mono (fun x hx => .inl (List.mem_cons_of_mem _ hx))) (by simp) v2 : Mod ((W.heap.size + 1) :: vn.ownBlock.toList) _ _) (fun y hy => .inr ?_)
    simp only [List.mem_cons, Option.mem_toList] at hy
    rcases hy with rfl | hy
    · omega
    · exact hnew y (by simp [hy])
  · intro k hk
    simp only [tripBlocks, List.flatMap_append, List.flatMap_cons, List.flatMap_nil, List.append_nil, List.mem_append, List.mem_cons, List.not_mem_nil, or_false, Option.mem_toList] at hk
    rcases hk with (hk | hk | hk | hk | hk)
    · rcases hl2 k hk with h | h
      · exact hnew k (by simp [h])
      · omega
    · exact hnew k (by simp [tripBlocks, hk])
    all_goals omega

set_option maxHeartbeats 1000000 in
theorem made_any (W : World) (t bad : Nat) (dealer : Int) (ht : t ≤ 2) (hb : bad ≤ t) (hd : 1 ≤ dealer) (hd' : dealer ≤ 3 * (t : Int) + 1) :
    Calls Try.prog 11 #[nat t, nat bad, .int .i64 dealer] W fun e W' => ∃ lw sb vn bl, e = .returned (.pointer (some ⟨lw, 0, none⟩)) ∧ LawAt W' lw sb vn (.slice none 0 0) (.slice none 0 0) bl (madeS t bad dealer (3 * t + 1)) ∧
      Mod [] W W' ∧ (∀ k ∈ lw :: sb :: tripBlocks bl, W.heap.size ≤ k) := by
  have e1 : IntKind.i64.wrap (3 * (t : Int)) = 3 * (t : Int) := IntWalk.i64_in _ (by omega)
  have e2 : IntKind.i64.wrap (3 * (t : Int) + 1) = 3 * (t : Int) + 1 := IntWalk.i64_in _ (by omega)
  have e3 : IntKind.i64.wrap (2 * (3 * (t : Int) + 1)) = 2 * (3 * (t : Int) + 1) := IntWalk.i64_in _ (by omega)
  have e4 : IntKind.i64.wrap (2 * (3 * (t : Int) + 1) + 2) = 2 * (3 * (t : Int) + 1) + 2 := IntWalk.i64_in _ (by omega)
  obtain ⟨i3, hi3, hz3, hs3, hy3⟩ := info_parts infoInt
  obtain ⟨ip, hip, hzp, hsp, hyp⟩ := info_parts infoPtr
  have mk : ∀ w, (Instr.makeSlice 30 (.int .i64 (2 * (3 * (t : Int) + 1) + 2)) (.int .i64 (2 * (3 * (t : Int) + 1) + 2))).run Try.prog w = .ok (.slice (some ⟨w.heap.size, 0, none⟩) (List.replicate (2 * (3 * t + 1) + 2) 0).length (List.replicate (2 * (3 * t + 1) + 2) 0).length) (w.alloc (.cells ((List.replicate (2 * (3 * t + 1) + 2) 0).map nat).toArray 3)) := fun w => by
    rw [run_makeSlice (P := Try.prog) w 30 3 i3 (.int .i64 0) Try.underlying30 hi3 hz3 .i64 .i64 _ _ (by omega) (by omega) (by rw [hs3]; omega) (by rw [hy3]; omega) (by omega), hs3]
    have e : (2 * (3 * (t : Int) + 1) + 2).toNat = 2 * (3 * t + 1) + 2 := by omega
    rw [e, List.length_replicate, List.map_replicate, made_one (.int .i64 0) rfl]
    rfl
  have MK := hid mk
  clear mk
  have mk := MK.out
  go_enter Try.func11, Try.ntmps11
  go_wp2_with fail
  clear mk
  obtain ⟨W0, hW0⟩ : ∃ W0, W0 = ((W.alloc (Obj.cells (Array.replicate (2 * (3 * t + 1) + 2) (nat 0)) 3)).alloc (Obj.cells #[Value.int IntKind.i64 (3 * (t : Int) + 1), nat t, nat bad, Value.slice none 0 0, Value.slice none 0 0, Value.slice none 0 0, Value.slice (some { block := W.heap.size, off := 0 }) (2 * (3 * t + 1) + 2) (2 * (3 * t + 1) + 2)] 33)) := ⟨_, rfl⟩
  have h0 : LawAt W0 (W.heap.size + 1) W.heap.size (.slice none 0 0) (.slice none 0 0) (.slice none 0 0) [] (madeS t bad dealer 0) := by
    rw [hW0]
    refine ⟨?_, ⟨rfl, .inl ⟨rfl, rfl⟩⟩, ⟨rfl, .inl ⟨rfl, rfl⟩⟩, ⟨rfl, .inl ⟨rfl, rfl⟩⟩, ?_, (by simp [Value.ownBlock]), rfl, fun i p s hp => (by cases hp), (by simp [tripBlocks])⟩
    · have := get_new (W.alloc (Obj.cells (Array.replicate (2 * (3 * t + 1) + 2) (nat 0)) 3)) (Obj.cells #[Value.int IntKind.i64 (3 * (t : Int) + 1), nat t, nat bad, Value.slice none 0 0, Value.slice none 0 0, Value.slice none 0 0, Value.slice (some { block := W.heap.size, off := 0 }) (2 * (3 * t + 1) + 2) (2 * (3 * t + 1) + 2)] 33)
      simp only [World.size_alloc] at this
      rw [this]
      simp [madeS]
    · have := get_alloc (get_new W (Obj.cells (Array.replicate (2 * (3 * t + 1) + 2) (nat 0)) 3)) (Obj.cells #[Value.int IntKind.i64 (3 * (t : Int) + 1), nat t, nat bad, Value.slice none 0 0, Value.slice none 0 0, Value.slice none 0 0, Value.slice (some { block := W.heap.size, off := 0 }) (2 * (3 * t + 1) + 2) (2 * (3 * t + 1) + 2)] 33)
      rw [this]
      simp [madeS]
  have hm0 : Mod [] W W0 := by rw [hW0]; exact (by repeat' (first | exact Mod.refl _ _ | assumption | refine Mod.drewN ?_ _ | refine Mod.drew ?_ | refine Mod.alloc ?_ _ | refine Mod.setCell ?_ (by simp) _ | refine Mod.setBlock ?_ (by simp) _))
  have hz0 : W.heap.size + 2 ≤ W0.heap.size := by rw [hW0]; simp
  rw [← hW0]
  have H0 := hid (And.intro h0 (And.intro hm0 hz0))
  clear h0 hm0 hz0 hW0 MK
  go_loopg [9] (3 * t + 1) (fun gk i W' => ∃ (j : Nat) (vn : Value) (bl : List Trip), i = .int .i64 ((j : Int) + 1) ∧ gk + j = 3 * t + 1 ∧ LawAt W' (W.heap.size + 1) W.heap.size vn (.slice none 0 0) (.slice none 0 0) bl (madeS t bad dealer j) ∧ Mod [] W W' ∧ (∀ k ∈ vn.ownBlock.toList ++ tripBlocks bl, W.heap.size ≤ k))
  case atStart => exact ⟨0, .slice none 0 0, [], by simp, by omega, H0.out.1, H0.out.2.1, by simp [tripBlocks, Value.ownBlock]⟩
  case round =>
    obtain ⟨j, vn, bl, rfl, hj, hL, hM, hnew⟩ := hrel
    by_cases hjn : j < 3 * t + 1
    · have l3 : wr.cell? ⟨W.heap.size + 1, 3, none⟩ = some vn := by rw [cell_at hL.cells]; rfl
      have hgood : goodNode (3 * (t : Int) + 1) t ((j : Int) + 1) dealer = true := by simp [goodNode, within]; omega
      have HGOOD := hid hgood
      have HL := hid hL
      have HM := hid hM
      have HNEW := hid hnew
      clear hgood hL hM hnew
      go_wp2_with (first | (go_at_call 19; refine (make_yes _ _ _ _ wr HGOOD.out).mono ?_; rintro e w1 ⟨x, be, br, rfl, hn1, hm1, hx1, hx2, hx3⟩; have l3 : w1.cell? ⟨W.heap.size + 1, 3, none⟩ = some vn := hm1.cell l3 (by simp); have H1 := hid (And.intro hn1 (And.intro hm1 (And.intro hx1 (And.intro hx2 hx3)))); clear hn1 hm1 hx1 hx2 hx3) | (at_builtin; refine wpList_app_run rfl _ _ 29 rfl vn _ rfl rfl _ (made_more ht HL.out HM.out HNEW.out hjn H1.out.2.1 H1.out.1 H1.out.2.2.1 H1.out.2.2.2.1 H1.out.2.2.2.2) ?_; rintro v2 w2 ⟨⟨g2, n2, c2, rfl⟩, x4, xf, HF⟩))
      all_goals
        go_roundg (gk - 1)
        case measure => omega
        case rel => exact ⟨j + 1, _, _, by go_num, by omega, HF.out.1, HF.out.2.1, HF.out.2.2⟩
    · have hj' : j = 3 * t + 1 := by omega
      subst hj'
      have HL := hid hL
      have HM := hid hM
      have HNEW := hid hnew
      clear hL hM hnew
      go_wp2_with fail
      go_ret
      refine ⟨_, _, vn, bl, rfl, HL.out, HM.out, fun k hk => ?_⟩
      simp only [List.mem_cons] at hk
      rcases hk with rfl | rfl | hk
      · omega
      · omega
      · exact HNEW.out k (by simp [hk])
end Go.Proofs.Ytcgfjalglnlofaa
