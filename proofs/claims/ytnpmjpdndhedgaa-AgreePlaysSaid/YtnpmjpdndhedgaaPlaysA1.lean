/-
  AgreePlays: both nodes side by side: what each act leaves. No statement of a claim stands here; each lemma names what it asks.
-/
import Derived.Test.YtnpmjpdndhedgaaPlaysA0
set_option linter.unusedSimpArgs false
namespace Go.Proofs.Ytnpmjpdndhedgaa
open Go Go.RowKit Go.ChangeShapes Go.WideShapes Go.ChangeMaps

theorem open_acts {H : Type} {enc : TypeId × Value → H} {W : World} {r : _root_.Go.Reach} {base : Nat} {v : Value} {d : DataW H} {p : List MemPlace} (hv : Value.okWide Try.prog W r base 40 v) (h : DataW.Trod enc Try.prog W 0 (fun _ => true) true 40 v d p) :
    ∃ (a : Option Addr) (acts : List ActS) (c : Nat), v = .slice a acts.length c ∧ acts.length ≤ maxLen ∧ ActsAt W a acts := by
  obtain ⟨a0, len, cap, rfl⟩ := okWide_slice (P := Try.prog) Try.underlying40 hv
  obtain ⟨fuel, hf⟩ := h
  rcases Deep.open_slice (P := Try.prog) Try.underlying40 hf with ⟨h0, _⟩ | ⟨a, len', cap', m, n, D, Pl, h0, _, hl, hm, hmm, _, hx⟩
  · simp [Value.cells] at h0
    obtain ⟨rfl, rfl, rfl⟩ := h0
    exact ⟨none, [], 0, rfl, by simp, ⟨fun i m hi => by simp at hi⟩⟩
  · simp [Value.cells] at h0
    obtain ⟨rfl, rfl, rfl⟩ := h0
    simp only [if_true] at hmm
    subst hmm
    obtain ⟨f, hfm⟩ := Deep.choose_lt (α := ActS) (n := len) (p := fun i mv => ∀ (j : Nat) (u : Value), mv.cells[j]? = some u → W.cell? ((a.add (i * 5)).add j) = some u) (fun i hi => by
      obtain ⟨cs, hc, ht⟩ := hx i (by omega)
      rw [cells_act] at hc
      obtain ⟨mv, hmv⟩ := open_act ht
      refine ⟨mv, fun j u hu => ?_⟩
      have hj : j < 5 := by have := (List.getElem?_eq_some_iff.1 hu).1; simpa [ActS.cells, Msg.cells] using this
      rw [(World.cells?_some hc).2.2 j hj]
      exact hmv j u hu)
    refine ⟨some a, (List.range len).map f, m, by simp, by simp; omega, ⟨fun i mv hi => ?_⟩⟩
    have hil : i < len := by have := (List.getElem?_eq_some_iff.1 hi).1; simpa using this
    have hif : mv = f i := by
      rw [List.getElem?_map, List.getElem?_range hil] at hi
      simpa using hi.symm
    subst hif
    have h00 := hfm 0 (by omega) 0 _ rfl
    have ha : a = ⟨a.block, a.off, none⟩ := by
      have e : (a.add (0 * 5)).add 0 = a := by simp [Addr.add]
      rw [e] at h00
      exact add_form h00
    refine ⟨a.block, a.off, by rw [← ha], ?_, fun j u hu => ?_⟩
    · have e : (a.add (0 * 5)).add 0 = a := by simp [Addr.add]
      rw [e] at h00
      exact World.block_lt_of_cell? W _ h00
    · have := hfm i hil j u hu
      rw [ha, Addr.add_lit, Addr.add_lit] at this
      exact this

/-- Both nodes, side by side. -/
structure Both (W0 W : World) (p : Loc) (b : Nat) (vL : Value) (s : NodeS) (L : List Msg) : Prop where
  n : NodeAt W p s
  r : RefAt W b vL s L
  le : LE s L
  ok : NOk s
  lk : s.lr < 0 → s.lv = ⟨#[]⟩
  old : Mod [] W0 W
  pf : ∀ k ∈ p.foot, W0.heap.size ≤ k
  pb : W0.heap.size ≤ b
  pv : ∀ k, vL.ownBlock = some k → W0.heap.size ≤ k
def BothAny (W0 W : World) (x b : Nat) (s : NodeS) (L : List Msg) : Prop := ∃ (p : Loc) (vL : Value), p.x = x ∧ Both W0 W p b vL s L

theorem Both.mod0 {W0 W W' : World} {p : Loc} {b : Nat} {vL : Value} {s : NodeS} {L : List Msg} (h : Both W0 W p b vL s L) (m : Mod [] W W') : Both W0 W' p b vL s L :=
  ⟨h.n.mod0 m, h.r.mod0 m, h.le, h.ok, h.lk, h.old.trans m, h.pf, h.pb, h.pv⟩
theorem BothAny.mod0 {W0 W W' : World} {x b : Nat} {s : NodeS} {L : List Msg} (h : BothAny W0 W x b s L) (m : Mod [] W W') : BothAny W0 W' x b s L := by
  obtain ⟨p, vL, e, h⟩ := h
  exact ⟨p, vL, e, h.mod0 m⟩

theorem Run.lk {s s' : NodeS} {out : List Msg} (R : Run s s' out) : (s.lr < 0 → s.lv = ⟨#[]⟩) → s'.lr < 0 → s'.lv = ⟨#[]⟩ := by
  induction R with
  | refl s => exact id
  | lock s r v s' out hv hr hq hl _ ih => intro h; exact ih (fun hlr => by dsimp only at hlr; omega)
  | say s k v s' out h0 ha hs _ ih => exact ih
  | decide s r v s' out hq hd _ ih => exact ih
theorem take_lk {s : NodeS} (m : Msg) (h : s.lr < 0 → s.lv = ⟨#[]⟩) : (takeS s m).1.lr < 0 → (takeS s m).1.lv = ⟨#[]⟩ := by
  rcases take_run s m with ⟨h1, h2⟩ | ⟨_, _, _, R⟩
  · rw [h1]; exact h
  · exact R.lk h
theorem timeout_lk {s : NodeS} (h : s.lr < 0 → s.lv = ⟨#[]⟩) : (timeoutS s).1.lr < 0 → (timeoutS s).1.lv = ⟨#[]⟩ := by
  rcases timeout_run s with ⟨h1, h2⟩ | ⟨_, R⟩
  · rw [h1]; exact h
  · exact R.lk h

/-- The program's node took a step. -/
theorem Both.one {W0 W W1 : World} {p p' : Loc} {b : Nat} {vL v : Value} {s s' : NodeS} {L out : List Msg} (h : Both W0 W p b vL s L) (hn : NodeAt W1 p' s') (hm : MsgsAt W.heap.size W1 v out) (hd : Mod p.foot W W1) (hx : Next W p p') :
    RefAt W1 b vL s L ∧ Mod [] W0 W1 ∧ (∀ k ∈ p'.foot, W0.heap.size ≤ k) ∧ p'.x = p.x := by
  have hz := h.old.size
  refine ⟨h.r.mod hd (fun hb => h.n.ne h.r.cells (by decide) hb) (fun k hk hk2 => ?_), h.old.trans' hd (fun x hx => .inr (h.pf x hx)), fun k hk => ?_, hx.x⟩
  · obtain ⟨c, hc⟩ := row_block h.r.row hk
    exact h.n.ne hc (by decide) hk2
  · rcases hx.foot k hk with h1 | h1
    · exact h.pf k h1
    · omega
/-- .. and the reference's did the same. -/
theorem Both.two {W0 W W1 W2 : World} {p p' : Loc} {b : Nat} {vL vL' v u : Value} {s s' : NodeS} {L L' out : List Msg} (h : Both W0 W p b vL s L) (hn : NodeAt W1 p' s') (hm : MsgsAt W.heap.size W1 v out) (hd : Mod p.foot W W1) (hx : Next W p p')
    (hr : RefAt W2 b vL' s' L') (hle : LE s' L') (hok : NOk s') (hlk : s'.lr < 0 → s'.lv = ⟨#[]⟩) (hu : RMsgs W1.heap.size W2 u out) (hd2 : Mod (b :: vL.ownBlock.toList) W1 W2) (hv : ∀ k, vL'.ownBlock = some k → vL.ownBlock = some k ∨ W1.heap.size ≤ k) :
    Both W0 W2 p' b vL' s' L' ∧ MsgsAt W.heap.size W2 v out ∧ RMsgs W1.heap.size W2 u out := by
  obtain ⟨h1, h2, h3, h4⟩ := h.one hn hm hd hx
  have hz := h.old.size
  have hz1 := h2.size
  refine ⟨⟨hn.mod hd2 (fun k hk hk2 => ?_), hr, hle, hok, hlk, h2.trans' hd2 (fun x hx => ?_), h3, h.pb, fun k hk => ?_⟩, hm.mod hd2 (fun k hk hk2 => ?_), hu⟩
  · simp only [List.mem_cons, Option.mem_toList] at hk2
    rcases hk2 with rfl | hk2
    · exact hn.ne h1.cells (by decide) hk
    · obtain ⟨c, hc⟩ := row_block h1.row hk2
      exact hn.ne hc (by decide) hk
  · simp only [List.mem_cons, Option.mem_toList] at hx
    rcases hx with rfl | hx
    · exact .inr h.pb
    · exact .inr (h.pv x hx)
  · rcases hv k hk with h5 | h5
    · exact h.pv k h5
    · omega
  · obtain ⟨c, hc⟩ := row_block hm.row hk
    simp only [List.mem_cons, Option.mem_toList] at hk2
    rcases hk2 with rfl | hk2
    · exact ne_ty hc h1.cells (by decide) rfl
    · obtain ⟨c', hc'⟩ := row_block h1.row hk2
      exact ne_ty hc hc' (by decide) rfl
end Go.Proofs.Ytnpmjpdndhedgaa
