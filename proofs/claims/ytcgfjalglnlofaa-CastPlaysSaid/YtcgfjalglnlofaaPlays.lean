/-
  CastPlays: the given statement, out of its walk. No other statement stands here.
-/
import Derived.Test.YtcgfjalglnlofaaRows
import Derived.Test.YtcgfjalglnlofaaMoves
import Derived.Test.YtcgfjalglnlofaaPlays1
set_option linter.unusedSimpArgs false
namespace Go.Proofs.Ytcgfjalglnlofaa
open Go Go.RowKit Go.ChangeShapes Go.WideShapes Go.ChangeAt Go.ChangeMaps

theorem own : ownKnob Try.prog.godebug = none := by kernel_rfl
theorem laidOut : laidOutB Try.prog = true := by kernel_rfl

instance : Inhabited Msg := ⟨⟨0, 0, ByteArray.empty⟩⟩

theorem open_msg1 {H : Type} {enc : TypeId × Value → H} {W : World} {n : Nat} {cs : List Value} {x : DataW H × List MemPlace} (h : DataW.trod enc Try.prog W 0 (fun _ => true) true n 36 cs = some x) : ∃ m : Msg, ∀ (j : Nat) (u : Value), m.cells[j]? = some u → cs[j]? = some u := by
  have F := open_field (P := Try.prog) Try.underlying36 (by kernel_rfl) (by kernel_rfl) h
  obtain ⟨v0, y0, n0, c0, t0⟩ := F 0 _ rfl
  obtain ⟨v1, y1, n1, c1, t1⟩ := F 1 _ rfl
  obtain ⟨v2, y2, n2, c2, t2⟩ := F 2 _ rfl
  obtain ⟨k0, e0, -, -⟩ := DataW.trod_int (P := Try.prog) Try.underlying3 t0
  obtain ⟨k1, e1, -, -⟩ := DataW.trod_int (P := Try.prog) Try.underlying3 t1
  obtain ⟨s2, e2, -, -⟩ := DataW.trod_string (P := Try.prog) Try.underlying9 t2
  cases e0; cases e1; cases e2
  refine ⟨⟨k0, k1, s2⟩, fun j u hu => ?_⟩
  match j, hu with
  | 0, hu => cases hu; exact c0
  | 1, hu => cases hu; exact c1
  | 2, hu => cases hu; exact c2
  | j + 3, hu => simp [Msg.cells] at hu

theorem cells_msg : Try.prog.cellsOf 36 = 3 := by kernel_rfl

theorem open_msgs {H : Type} {enc : TypeId × Value → H} {W : World} {r : _root_.Go.Reach} {base : Nat} {v : Value} {d : DataW H} {p : List MemPlace} (hv : Value.okWide Try.prog W r base 31 v) (h : DataW.Trod enc Try.prog W 0 (fun _ => true) true 31 v d p) :
    ∃ (a : Option Addr) (moves : List Msg) (c : Nat), v = .slice a moves.length c ∧ moves.length ≤ maxLen ∧ ListAt W a moves := by
  obtain ⟨a0, len, cap, rfl⟩ := okWide_slice (P := Try.prog) Try.underlying31 hv
  obtain ⟨fuel, hf⟩ := h
  rcases Deep.open_slice (P := Try.prog) Try.underlying31 hf with ⟨h0, _⟩ | ⟨a, len', cap', m, n, D, Pl, h0, _, hl, hm, hmm, _, hx⟩
  · simp [Value.cells] at h0
    obtain ⟨rfl, rfl, rfl⟩ := h0
    exact ⟨none, [], 0, rfl, by simp, ⟨fun i m hi => by simp at hi⟩⟩
  · simp [Value.cells] at h0
    obtain ⟨rfl, rfl, rfl⟩ := h0
    simp only [if_true] at hmm
    subst hmm
    obtain ⟨f, hfm⟩ := Deep.choose_lt (α := Msg) (n := len) (p := fun i mv => ∀ (j : Nat) (u : Value), mv.cells[j]? = some u → W.cell? ((a.add (i * 3)).add j) = some u) (fun i hi => by
      obtain ⟨cs, hc, ht⟩ := hx i (by omega)
      rw [cells_msg] at hc
      obtain ⟨mv, hmv⟩ := open_msg1 ht
      refine ⟨mv, fun j u hu => ?_⟩
      have hj : j < 3 := by have := (List.getElem?_eq_some_iff.1 hu).1; simpa [Msg.cells] using this
      rw [(World.cells?_some hc).2.2 j hj]
      exact hmv j u hu)
    refine ⟨some a, (List.range len).map f, m, by simp, by simp; omega, ⟨fun i mv hi => ?_⟩⟩
    have hil : i < len := by have := (List.getElem?_eq_some_iff.1 hi).1; simpa using this
    have hif : mv = f i := by
      rw [List.getElem?_map, List.getElem?_range hil] at hi
      simpa using hi.symm
    subst hif
    have h00 := hfm 0 (by omega) 0 _ rfl
    have ha : a = ⟨a.block, a.off, none⟩ := by
      have e : (a.add (0 * 3)).add 0 = a := by simp [Addr.add]
      rw [e] at h00
      exact add_form h00
    refine ⟨a.block, a.off, by rw [← ha], ?_, fun j u hu => ?_⟩
    · have e : (a.add (0 * 3)).add 0 = a := by simp [Addr.add]
      rw [e] at h00
      exact World.block_lt_of_cell? W _ h00
    · have := hfm i hil j u hu
      rw [ha, Addr.add_lit, Addr.add_lit] at this
      exact this

set_option maxRecDepth 100000 in
theorem castPlays_lifted (os : Os) (started : os.Started) (H : Type) (enc : TypeId × Value → H) :
    ReturnsInHanded {} Try.checked os 7 .any (Rows.castPlaysSpec.pre6 enc Try.prog Try.f7 Rows.castPlaysRow.domain false) (Rows.castPlaysSpec.post enc Try.prog Try.f7 false true false false) := by
  refine returnsInHanded_of_change (C := Try.checked) own started (by kernel_rfl) Try.func7
    (ChangeSpec.witness6 (enc := enc) (C := Try.checked) false ⟨#[], #[.int .i64 0, .int .i64 0, .int .i64 0, .int .i64 0, .slice none 0 0], []⟩ 8 (by kernel_rfl) (by kernel_rfl) (by kernel_rfl) (by kernel_rfl)) ?_
  intro W base args ds gs before hval hW _ _
  have hW' := hW
  obtain ⟨p, q, hA0, hV, rfl, hfz, hnd⟩ := hW
  obtain ⟨rfl, rfl⟩ := trodVars_none hV
  have hA : DataW.TrodAll enc Try.prog W 0 (fun _ => true) true Try.f7.params.toList args.toList ds p := hA0
  rw [Try.params7] at hA hval
  obtain ⟨v0, vs0, d0, ds0, p0, q0, hargs, rfl, rfl, h0, r0⟩ := trodAll_cons hA
  obtain ⟨v1, vs1, d1, ds1, p1, q1, rfl, rfl, rfl, h1, r1⟩ := trodAll_cons r0
  obtain ⟨v2, vs2, d2, ds2, p2, q2, rfl, rfl, rfl, h2, r2⟩ := trodAll_cons r1
  obtain ⟨v3, vs3, d3, ds3, p3, q3, rfl, rfl, rfl, h3, r3⟩ := trodAll_cons r2
  obtain ⟨v4, vs4, d4, ds4, p4, q4, rfl, rfl, rfl, h4, r4⟩ := trodAll_cons r3
  obtain ⟨rfl, rfl, rfl⟩ := trodAll_nil r4
  obtain rfl : args = #[v0, v1, v2, v3, v4] := by cases args; simp_all
  obtain ⟨n, rfl, -⟩ := open_int Try.underlying3 (hval 0 3 v0 rfl rfl) h0
  obtain ⟨t, rfl, -⟩ := open_int Try.underlying3 (hval 1 3 v1 rfl rfl) h1
  obtain ⟨me, rfl, -⟩ := open_int Try.underlying3 (hval 2 3 v2 rfl rfl) h2
  obtain ⟨dealer, rfl, -⟩ := open_int Try.underlying3 (hval 3 3 v3 rfl rfl) h3
  obtain ⟨a, l, c, rfl, hlen, hm⟩ := open_msgs (hval 4 31 v4 rfl rfl) h4
  refine (plays_any W n t me dealer a c l hm hlen).mono fun e W' ⟨he, hM⟩ => ?_
  subst he
  refine ⟨_, rfl, post_true (tb := 4) rfl laidOut ?_ rfl Try.underlying4 rfl hW' hM⟩
  rw [Try.params7]
  intro t ht
  simp only [List.mem_cons, List.not_mem_nil, or_false] at ht
  rcases ht with rfl | rfl | rfl | rfl | rfl
  · exact ⟨by kernel_rfl, of_decide_eq_true (by kernel_rfl)⟩
  · exact ⟨by kernel_rfl, of_decide_eq_true (by kernel_rfl)⟩
  · exact ⟨by kernel_rfl, of_decide_eq_true (by kernel_rfl)⟩
  · exact ⟨by kernel_rfl, of_decide_eq_true (by kernel_rfl)⟩
  · exact ⟨by kernel_rfl, of_decide_eq_true (by kernel_rfl)⟩

theorem castPlays_holds : Rows.CastPlaysSaid :=
  OpenClaim.holds_of_wide 7 Try.f7 rfl rfl rfl rfl rfl rfl rfl ⟨rfl, rfl, rfl, rfl, rfl⟩ rfl rfl rfl rfl rfl (by kernel_rfl) Try.func7 (by kernel_rfl)
    (of_decide_eq_true (by kernel_rfl)) (by unfold Func.isWrapper; first | (rw [if_pos (by decide +kernel)]; kernel_rfl) | (rw [if_neg (by decide +kernel)]; exact ⟨rfl, rfl⟩))
    (fun os started H enc _ => castPlays_lifted os started H enc)
end Go.Proofs.Ytcgfjalglnlofaa
