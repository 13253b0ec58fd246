/-
  'send' of the statements' world, walked. No statement of a claim stands here; each contract names what it asks.
-/
import Derived.Test.YtnpmjpdndhedgaaL1
import Derived.StillTailTactics
set_option linter.unusedSimpArgs false
namespace Go.Proofs.Ytnpmjpdndhedgaa
open Go Go.RowKit Go.ChangeMaps


/-- The message at hand. -/
def MsgS (mb j : Nat) (m : Msg) (w' : World) : Prop := w'.cell? ⟨mb, j * 4, none⟩ = some (.int .i64 m.kind) ∧ w'.cell? ⟨mb, j * 4 + 1, none⟩ = some (.int .i64 m.from_) ∧ w'.cell? ⟨mb, j * 4 + 2, none⟩ = some (.int .i64 m.round) ∧ w'.cell? ⟨mb, j * 4 + 3, none⟩ = some (.string m.val)
/-- What the loads of 'w.all = append(..)' read. -/
def AllS (lw mb j : Nat) (va : Value) (m : Msg) (w' : World) : Prop := w'.cell? ⟨lw, 6, none⟩ = some va ∧ w'.cell? ⟨mb, j * 4, none⟩ = some (.int .i64 m.kind) ∧ w'.cell? ⟨mb, j * 4 + 1, none⟩ = some (.int .i64 m.from_) ∧ w'.cell? ⟨mb, j * 4 + 2, none⟩ = some (.int .i64 m.round) ∧ w'.cell? ⟨mb, j * 4 + 3, none⟩ = some (.string m.val)
/-- What the loads of 'w.to, w.wait = append(..), append(..)' read. -/
def InS (lw mb j : Nat) (vt vw : Value) (m : Msg) (w' : World) : Prop := w'.cell? ⟨lw, 4, none⟩ = some vt ∧ w'.cell? ⟨lw, 5, none⟩ = some vw ∧ w'.cell? ⟨mb, j * 4, none⟩ = some (.int .i64 m.kind) ∧ w'.cell? ⟨mb, j * 4 + 1, none⟩ = some (.int .i64 m.from_) ∧ w'.cell? ⟨mb, j * 4 + 2, none⟩ = some (.int .i64 m.round) ∧ w'.cell? ⟨mb, j * 4 + 3, none⟩ = some (.string m.val)

theorem msgCells_at {out : List Msg} {j : Nat} {m : Msg} (h : out[j]? = some m) {q : Nat} {u : Value} (hu : m.cells[q]? = some u) : (msgCells out)[j * 4 + q]? = some u := by
  induction out generalizing j with
  | nil => simp at h
  | cons x out ih =>
    have hq : q < 4 := by have := (List.getElem?_eq_some_iff.1 hu).1; simpa [Msg.cells] using this
    have hx : x.cells.length = 4 := rfl
    show (x.cells ++ msgCells out)[j * 4 + q]? = some u
    cases j with
    | zero =>
      have : x = m := by simpa using h
      subst this
      rw [List.getElem?_append_left (by omega)]
      simpa using hu
    | succ j =>
      rw [List.getElem?_append_right (by omega), hx, show (j + 1) * 4 + q - 4 = j * 4 + q by omega]
      exact ih (by simpa using h)

theorem Apart.msg {W : World} {mb cap : Nat} {vw va : Value} {out : List Msg} (h : Apart W (.slice (some ⟨mb, 0, none⟩) out.length cap) vw va out) {j : Nat} {m : Msg} (hj : out[j]? = some m) : MsgS mb j m W := by
  have hq : ∀ (q : Nat) (u : Value), m.cells[q]? = some u → W.cell? ⟨mb, j * 4 + q, none⟩ = some u := fun q u hu => by
    have := h.row.cells (g := mb) rfl (j * 4 + q) u (msgCells_at hj hu)
    rwa [Addr.add_lit, Nat.zero_add] at this
  exact ⟨hq 0 _ rfl, hq 1 _ rfl, hq 2 _ rfl, hq 3 _ rfl⟩

theorem MsgS.mod {W W' : World} {mb j : Nat} {m : Msg} {S : List Nat} (h : MsgS mb j m W) (hm : Mod S W W') (hS : mb ∉ S) : MsgS mb j m W' :=
  ⟨hm.cell h.1 hS, hm.cell h.2.1 hS, hm.cell h.2.2.1 hS, hm.cell h.2.2.2 hS⟩

set_option maxHeartbeats 1000000 in
theorem send_any (W : World) (lw : Nat) (vn vt vw va v : Value) (pl : List Loc) (L : LawS) (out : List Msg) (h : LawAt W lw vn vt vw va pl L) (g : Apart W v vw va out)
    (hn : L.good ≤ 100) (ho : out.length ≤ 100) (ht : L.dest.length ≤ 1000000) (hw : L.wait.length ≤ 1000000) (ha : L.all.length ≤ 1000000) :
    Calls Try.prog 26 #[.pointer (some ⟨lw, 0, none⟩), v] W (SendPost W lw vn vt vw va pl (sendS L out)) := by
  by_cases hout : out = []
  · subst hout
    have hpost : SendPost W lw vn vt vw va pl (sendS L []) (.returned (.tuple #[])) W := ⟨rfl, vt, vw, va, h, Mod.refl _ _, fun _ h => .inl h, fun _ h => .inl h, fun _ h => .inl h⟩
    have HP := hid hpost
    obtain ⟨a, c, rfl⟩ := row_slice g.row
    clear hpost h g
    simp only [List.length_nil]
    go_enter Try.func26, Try.ntmps26
    go_wp2_with fail
    go_loopg [4] 0 (fun gk i wr => i = .int .i64 0 ∧ wr = W)
    case atStart => exact ⟨rfl, rfl⟩
    case round =>
      obtain ⟨rfl, rfl⟩ := hrel
      go_wp2_with fail
      go_end0
      exact HP.out
  obtain ⟨i3, hi3, hz3, hs3, hy3⟩ := info_parts infoInt
  obtain ⟨im, him, hzm, hsm, hym⟩ := info_parts infoMsg
  have hpos : 0 < out.length := List.length_pos_iff.2 hout
  obtain ⟨mb, cap, rfl, -⟩ := row_pos g.row hpos
  have HL := hid h
  have HG := hid g
  clear h g hout
  go_enter Try.func26, Try.ntmps26
  go_wp2_with fail
  go_loopg [4, 5] out.length (fun gk i i2 wr => SendRel W lw vn vt vw va (.slice (some ⟨mb, 0, none⟩) out.length cap) pl L out gk i wr)
  case atStart => exact ⟨0, vt, vw, va, rfl, rfl, HL.out, HG.out, Mod.refl _ _, fun _ h => .inl h, fun _ h => .inl h, fun _ h => .inl h⟩
  case round =>
    obtain ⟨j, vt1, vw1, va1, hgk, rfl, hL, hG, hmod, ht1, hw1, ha1⟩ := hrel
    by_cases hj : j < out.length
    · obtain ⟨m, hm⟩ : ∃ m, out[j]? = some m := ⟨_, List.getElem?_eq_getElem hj⟩
      have hj1 : (j : Int) < (out.length : Int) := by omega
      have hj0 : (0 : Int) ≤ (j : Int) := Int.natCast_nonneg _
      obtain ⟨s1, s2, s3, s4, s5, s6, s7⟩ := sendS_same L (out.take j)
      have hmul : (out.take j).length * L.good ≤ 10000 := Nat.le_trans (Nat.mul_le_mul (by simp; omega) hn) (by decide : 100 * 100 ≤ 10000)
      obtain ⟨Lj, hLj⟩ : ∃ Lj, Lj = sendS L (out.take j) := ⟨_, rfl⟩
      rw [← hLj] at hL s1 s2 s3 s4 s5 s6 s7
      have HM := hid hm
      have hSm := hG.msg hm
      have HB := hid (And.intro hmod (And.intro ht1 (And.intro hw1 ha1)))
      have HL1 := hid hL
      have HG1 := hid hG
      have HLJ := hid hLj
      have HS := hid (And.intro s3 (And.intro s5 (And.intro s6 (And.intro s7 hmul))))
      clear hL hG hm hmod ht1 hw1 ha1 hLj s1 s2 s3 s4 s5 s6 s7 hmul
      go_wp2_with fail
      refine wp_region_N (AllS lw mb j va1 m) (fun j => !(j == 13)) (by kernel_rfl) ?_
      have hS : AllS lw mb j va1 m wr.drew := ⟨(cell_at HL1.out.cells 6).trans rfl, hSm⟩
      refine regA 0 12 (v := ?_) rfl rfl (by kernel_rfl) (by kernel_rfl) (by kernel_rfl) (fun _ _ _ h => h) (by rfl) (fun w => ?_) ?_; rotate_left; (go_simp; first | done | with_reducible rfl); (try simp only [Act.put, List.setIfInBounds_toArray, List.set_cons_zero, List.set_cons_succ])
      refine regA 1 13 (v := ?_) rfl rfl (by kernel_rfl) (by kernel_rfl) (by kernel_rfl) (fun _ _ _ h => h) (by rfl) (fun w => ?_) ?_; rotate_left; (go_simp; first | done | with_reducible rfl); (try simp only [Act.put, List.setIfInBounds_toArray, List.set_cons_zero, List.set_cons_succ])
      refine regA 2 14 (v := ?_) rfl rfl (by kernel_rfl) (by kernel_rfl) (by kernel_rfl) (fun _ _ _ h => h) (by rfl) (fun w => ?_) ?_; rotate_left; (go_simp; first | done | with_reducible rfl); (try simp only [Act.put, List.setIfInBounds_toArray, List.set_cons_zero, List.set_cons_succ])
      refine regA 3 15 (v := ?_) rfl rfl (by kernel_rfl) (by kernel_rfl) (by kernel_rfl) (fun _ _ _ h => h) (by rfl) (fun w => ?_) ?_; rotate_left; (go_simp; first | done | with_reducible rfl); (try simp only [Act.put, List.setIfInBounds_toArray, List.set_cons_zero, List.set_cons_succ])
      refine regS 4 16 (v := ?_) hS rfl rfl (by kernel_rfl) (by kernel_rfl) (by kernel_rfl) (by kernel_rfl) (fun _ _ _ h => h) (by rfl) (fun w hSw => ?_) ?_; rotate_left; (simp only [AllS, InS] at hSw; go_simp; first | done | with_reducible rfl); (try simp only [Act.put, List.setIfInBounds_toArray, List.set_cons_zero, List.set_cons_succ])
      refine regA 5 17 (v := ?_) rfl rfl (by kernel_rfl) (by kernel_rfl) (by kernel_rfl) (fun _ _ _ h => h) (by rfl) (fun w => ?_) ?_; rotate_left; (go_simp; first | done | with_reducible rfl); (try simp only [Act.put, List.setIfInBounds_toArray, List.set_cons_zero, List.set_cons_succ])
      refine regA 6 18 (v := ?_) rfl rfl (by kernel_rfl) (by kernel_rfl) (by kernel_rfl) (fun _ _ _ h => h) (by rfl) (fun w => ?_) ?_; rotate_left; (go_simp; first | done | with_reducible rfl); (try simp only [Act.put, List.setIfInBounds_toArray, List.set_cons_zero, List.set_cons_succ])
      refine regA 7 19 (v := ?_) rfl rfl (by kernel_rfl) (by kernel_rfl) (by kernel_rfl) (fun _ _ _ h => h) (by rfl) (fun w => ?_) ?_; rotate_left; (go_simp; first | done | with_reducible rfl); (try simp only [Act.put, List.setIfInBounds_toArray, List.set_cons_zero, List.set_cons_succ])
      refine regS 8 20 (v := ?_) hS rfl rfl (by kernel_rfl) (by kernel_rfl) (by kernel_rfl) (by kernel_rfl) (fun _ _ _ h => h) (by rfl) (fun w hSw => ?_) ?_; rotate_left; (simp only [AllS, InS] at hSw; go_simp; first | done | with_reducible rfl); (try simp only [Act.put, List.setIfInBounds_toArray, List.set_cons_zero, List.set_cons_succ])
      clear hS
      have hlwa : lw ∉ va1.ownBlock.toList := own_not HL1.out.set.2.2.2.1
      have hmba : mb ∉ va1.ownBlock.toList := own_not fun k hk e => HG1.out.a mb rfl (by rw [hk, e])
      have hkeep : ∀ W' : World, Mod va1.ownBlock.toList wr W' → AllS lw mb j va1 m W' := fun W' hm' => ⟨hm'.cell ((cell_at HL1.out.cells 6).trans rfl) hlwa, hSm.mod hm' hmba⟩
      have HKEEP := hid hkeep
      refine regOnly 9 (by kernel_rfl) rfl rfl (fun K hK => ?_)
      go_simp
      refine hK.out _ _ (fun _ _ => HKEEP.out _ (Mod.mono (S := []) (by repeat' (first | exact Mod.refl _ _ | assumption | refine Mod.drewN ?_ _ | refine Mod.drew ?_ | refine Mod.alloc ?_ _ | refine Mod.setCell ?_ (by simp) _ | refine Mod.setBlock ?_ (by simp) _)) (by simp))) ?_
      clear hK
      (try simp only [Act.put, List.setIfInBounds_toArray, List.set_cons_zero, List.set_cons_succ])
      refine regAbs (fun W' => Mod [] wr W' ∧ W'.heap[wr.heap.size]? = some (.cells m.cells.toArray 39 (0, 0))) ⟨(by repeat' (first | exact Mod.refl _ _ | assumption | refine Mod.drewN ?_ _ | refine Mod.drew ?_ | refine Mod.alloc ?_ _ | refine Mod.setCell ?_ (by simp) _ | refine Mod.setBlock ?_ (by simp) _)), get_new wr.drew _⟩ ?_
      rintro W1 ⟨hm1, hb9⟩
      refine regOnly 10 (by kernel_rfl) rfl rfl (fun K hK => ?_)
      refine wp_app 22 _ _ 32 rfl rfl 39 im _ 4 40 Try.underlying32 him hzm hsm hym rfl (by omega) va1 _ _ rfl (row_mod HL1.out.all hm1 (by simp)) ⟨wr.heap.size, 0, none⟩ 1 1 m.cells rfl rfl (news_at hb9) (by simp [Value.oneCell', Msg.cells]) (by have := HS.out.2.2.2.1; rw [this]; simp; unfold maxLen; omega) (by have := HS.out.2.2.2.1; rw [this]; simp; omega) ?_
      intro va2 W2 ho2 hq2 hl2 _
      have hm2 : Mod va1.ownBlock.toList wr W2 := (hm1.mono (by simp)).trans hq2
      refine hK.out _ _ (fun _ _ => HKEEP.out _ hm2) ?_
      clear hK
      (try simp only [Act.put, List.setIfInBounds_toArray, List.set_cons_zero, List.set_cons_succ])
      refine regA 11 23 (v := ?_) rfl rfl (by kernel_rfl) (by kernel_rfl) (by kernel_rfl) (fun _ _ _ h => h) (by rfl) (fun w => ?_) ?_; rotate_left; (go_simp; first | done | with_reducible rfl); (try simp only [Act.put, List.setIfInBounds_toArray, List.set_cons_zero, List.set_cons_succ])
      refine regA 12 24 (v := ?_) rfl rfl (by kernel_rfl) (by kernel_rfl) (by kernel_rfl) (fun _ _ _ h => h) (by rfl) (fun w => ?_) ?_; rotate_left; (go_simp; first | done | with_reducible rfl); (try simp only [Act.put, List.setIfInBounds_toArray, List.set_cons_zero, List.set_cons_succ])
      have xf : ∀ i, W2.frozen? ⟨lw, i, none⟩ = false := free_at (hm2.get HL1.out.cells hlwa)
      have x6 : W2.cell? ⟨lw, 6, none⟩ = some va1 := (HKEEP.out _ hm2).1
      obtain ⟨g2, cap2, rfl, _, _⟩ := ho2.form (by omega)
      refine regOnly 13 (by kernel_rfl) rfl rfl (fun K hK => ?_)
      go_simp
      refine hK.out _ _ (fun h => by simp at h) ?_
      clear hK
      (try simp only [Act.put, List.setIfInBounds_toArray, List.set_cons_zero, List.set_cons_succ])
      refine regDone (by kernel_rfl) ?_ _
      have hva2 : ∀ k, (Value.slice (some ⟨g2, 0, none⟩) (Lj.all.length + 1) cap2).ownBlock = some k → va1.ownBlock = some k ∨ wr.heap.size ≤ k := fun k hk => (hl2 k hk).imp id (fun h => by have := hm1.size; omega)
      have HVA := hid hva2
      have hpush := push_all HL1.out HG1.out hm2 ho2 (fun k hk => (hl2 k hk).imp id (fun h => by have := hm1.size; omega))
      have HP := hid hpush
      clear hva2 hpush xf x6 hm2 ho2 hl2 hm1 hb9 hq2 hlwa hmba hkeep HKEEP hSm
      generalize (W2.setCell ⟨lw, 6, none⟩ (.slice (some ⟨g2, 0, none⟩) (Lj.all.length + 1) cap2)) = W3 at *
      generalize (Value.slice (some ⟨g2, 0, none⟩) (Lj.all.length + 1) cap2) = va2 at *
      obtain ⟨La, hLa⟩ : ∃ La, La = ({ Lj with all := Lj.all ++ [m] } : LawS) := ⟨_, rfl⟩
      have hgood : La.good = L.good := by rw [hLa]; exact HS.out.1
      have hwl : La.wait.length ≤ 1100000 := by rw [hLa]; show Lj.wait.length ≤ _; rw [HS.out.2.2.1]; have := HS.out.2.2.2.2; omega
      have hdl : La.dest.length ≤ 1100000 := by rw [hLa]; show Lj.dest.length ≤ _; rw [HS.out.2.1]; have := HS.out.2.2.2.2; omega
      rw [← hLa] at HP
      have hgk0 : La.good = La.good - 0 := rfl
      have HLA := hid (And.intro hLa hgood)
      clear hLa
      go_wp2_with fail
      go_loopg [5] La.good (fun gk i W' => InRel W3 lw vn vt1 vw1 va2 (.slice (some ⟨mb, 0, none⟩) out.length cap) pl La out m gk i W')
      case atStart => exact ⟨0, vt1, vw1, rfl, by omega, rfl, by simpa using HP.out.1, HP.out.2.1, Mod.refl _ _, fun _ h => .inl h, fun _ h => .inl h⟩
      case round =>
        obtain ⟨j2, vt2, vw2, hgk2, hj2, rfl, hL2, hG2, hmod2, ht2, hw2⟩ := hrel
        have l2 : wr.cell? ⟨lw, 2, none⟩ = some (nat La.good) := by rw [cell_at hL2.cells]; rfl
        have hSm := hG2.msg HM.out
        have hlt2 : lw ∉ vt2.ownBlock.toList ++ vw2.ownBlock.toList := by
          simp only [List.mem_append, not_or]
          exact ⟨own_not hL2.set.2.1, own_not hL2.set.2.2.1⟩
        have hmb2 : mb ∉ vt2.ownBlock.toList ++ vw2.ownBlock.toList := by
          simp only [List.mem_append, not_or]
          refine ⟨own_not fun k hk => ?_, own_not fun k hk e => hG2.w mb rfl (by rw [hk, e])⟩
          obtain ⟨c, hc⟩ := row_block hL2.dest hk
          obtain ⟨c', hc'⟩ := row_block hG2.row (k := mb) rfl
          exact ne_ty hc hc' (by decide)
        have htw : ∀ k, vt2.ownBlock = some k → vw2.ownBlock ≠ some k := fun k hk hk' => by
          obtain ⟨c, hc⟩ := row_block hL2.dest hk
          obtain ⟨c', hc'⟩ := row_block hL2.wait hk'
          exact ne_ty hc hc' (by decide) rfl
        have htlt : ∀ k, vt2.ownBlock = some k → k < wr.heap.size := fun k hk => by obtain ⟨c, hc⟩ := row_block hL2.dest hk; exact lt_of_block hc
        have hwlt : ∀ k, vw2.ownBlock = some k → k < wr.heap.size := fun k hk => by obtain ⟨c, hc⟩ := row_block hL2.wait hk; exact lt_of_block hc
        have hkeep : ∀ (S : List Nat) (W' : World), Mod S wr W' → (∀ k ∈ S, k ∈ vt2.ownBlock.toList ++ vw2.ownBlock.toList) → InS lw mb j vt2 vw2 m W' := fun S W' hm' hs =>
          ⟨hm'.cell ((cell_at hL2.cells 4).trans rfl) (fun h => hlt2 (hs _ h)), hm'.cell ((cell_at hL2.cells 5).trans rfl) (fun h => hlt2 (hs _ h)), hSm.mod hm' (fun h => hmb2 (hs _ h))⟩
        have hrow1 := hL2.dest
        have hrow2 := hL2.wait
        simp only [List.length_append, List.length_map, List.length_range, List.length_replicate] at hrow1 hrow2
        have HL2 := hid hL2
        have HG2 := hid hG2
        have HB2 := hid (And.intro hmod2 (And.intro ht2 hw2))
        have HR := hid (And.intro htw (And.intro htlt (And.intro hwlt hlt2)))
        have HS2 := hid hkeep
        have HR1 := hid hrow1
        have HR2 := hid hrow2
        clear hL2 hG2 hmod2 ht2 hw2 htw htlt hwlt hkeep hrow1 hrow2 hlt2 hmb2 hSm
        by_cases hjn : j2 < La.good
        · go_wp2_with fail
          refine wp_region_N (InS lw mb j vt2 vw2 m) (fun j => !(j == 21 || j == 24)) (by kernel_rfl) ?_
          have hS := HS2.out [] _ ((Mod.refl _ wr).drew) (by simp)
          refine regA 0 33 (v := ?_) rfl rfl (by kernel_rfl) (by kernel_rfl) (by kernel_rfl) (fun _ _ _ h => h) (by rfl) (fun w => ?_) ?_; rotate_left; (go_simp; first | done | with_reducible rfl); (try simp only [Act.put, List.setIfInBounds_toArray, List.set_cons_zero, List.set_cons_succ])
          refine regA 1 34 (v := ?_) rfl rfl (by kernel_rfl) (by kernel_rfl) (by kernel_rfl) (fun _ _ _ h => h) (by rfl) (fun w => ?_) ?_; rotate_left; (go_simp; first | done | with_reducible rfl); (try simp only [Act.put, List.setIfInBounds_toArray, List.set_cons_zero, List.set_cons_succ])
          refine regA 2 35 (v := ?_) rfl rfl (by kernel_rfl) (by kernel_rfl) (by kernel_rfl) (fun _ _ _ h => h) (by rfl) (fun w => ?_) ?_; rotate_left; (go_simp; first | done | with_reducible rfl); (try simp only [Act.put, List.setIfInBounds_toArray, List.set_cons_zero, List.set_cons_succ])
          refine regA 3 36 (v := ?_) rfl rfl (by kernel_rfl) (by kernel_rfl) (by kernel_rfl) (fun _ _ _ h => h) (by rfl) (fun w => ?_) ?_; rotate_left; (go_simp; first | done | with_reducible rfl); (try simp only [Act.put, List.setIfInBounds_toArray, List.set_cons_zero, List.set_cons_succ])
          refine regA 4 37 (v := ?_) rfl rfl (by kernel_rfl) (by kernel_rfl) (by kernel_rfl) (fun _ _ _ h => h) (by rfl) (fun w => ?_) ?_; rotate_left; (go_simp; first | done | with_reducible rfl); (try simp only [Act.put, List.setIfInBounds_toArray, List.set_cons_zero, List.set_cons_succ])
          refine regS 5 38 (v := ?_) hS rfl rfl (by kernel_rfl) (by kernel_rfl) (by kernel_rfl) (by kernel_rfl) (fun _ _ _ h => h) (by rfl) (fun w hSw => ?_) ?_; rotate_left; (simp only [AllS, InS] at hSw; go_simp; first | done | with_reducible rfl); (try simp only [Act.put, List.setIfInBounds_toArray, List.set_cons_zero, List.set_cons_succ])
          refine regA 6 39 (v := ?_) rfl rfl (by kernel_rfl) (by kernel_rfl) (by kernel_rfl) (fun _ _ _ h => h) (by rfl) (fun w => ?_) ?_; rotate_left; (go_simp; first | done | with_reducible rfl); (try simp only [Act.put, List.setIfInBounds_toArray, List.set_cons_zero, List.set_cons_succ])
          refine regA 9 42 (v := ?_) rfl rfl (by kernel_rfl) (by kernel_rfl) (by kernel_rfl) (fun _ _ _ h => h) (by rfl) (fun w => ?_) ?_; rotate_left; (go_simp; first | done | with_reducible rfl); (try simp only [Act.put, List.setIfInBounds_toArray, List.set_cons_zero, List.set_cons_succ])
          refine regA 10 43 (v := ?_) rfl rfl (by kernel_rfl) (by kernel_rfl) (by kernel_rfl) (fun _ _ _ h => h) (by rfl) (fun w => ?_) ?_; rotate_left; (go_simp; first | done | with_reducible rfl); (try simp only [Act.put, List.setIfInBounds_toArray, List.set_cons_zero, List.set_cons_succ])
          refine regA 11 44 (v := ?_) rfl rfl (by kernel_rfl) (by kernel_rfl) (by kernel_rfl) (fun _ _ _ h => h) (by rfl) (fun w => ?_) ?_; rotate_left; (go_simp; first | done | with_reducible rfl); (try simp only [Act.put, List.setIfInBounds_toArray, List.set_cons_zero, List.set_cons_succ])
          refine regS 12 45 (v := ?_) hS rfl rfl (by kernel_rfl) (by kernel_rfl) (by kernel_rfl) (by kernel_rfl) (fun _ _ _ h => h) (by rfl) (fun w hSw => ?_) ?_; rotate_left; (simp only [AllS, InS] at hSw; go_simp; first | done | with_reducible rfl); (try simp only [Act.put, List.setIfInBounds_toArray, List.set_cons_zero, List.set_cons_succ])
          refine regA 13 46 (v := ?_) rfl rfl (by kernel_rfl) (by kernel_rfl) (by kernel_rfl) (fun _ _ _ h => h) (by rfl) (fun w => ?_) ?_; rotate_left; (go_simp; first | done | with_reducible rfl); (try simp only [Act.put, List.setIfInBounds_toArray, List.set_cons_zero, List.set_cons_succ])
          refine regA 14 47 (v := ?_) rfl rfl (by kernel_rfl) (by kernel_rfl) (by kernel_rfl) (fun _ _ _ h => h) (by rfl) (fun w => ?_) ?_; rotate_left; (go_simp; first | done | with_reducible rfl); (try simp only [Act.put, List.setIfInBounds_toArray, List.set_cons_zero, List.set_cons_succ])
          refine regA 15 48 (v := ?_) rfl rfl (by kernel_rfl) (by kernel_rfl) (by kernel_rfl) (fun _ _ _ h => h) (by rfl) (fun w => ?_) ?_; rotate_left; (go_simp; first | done | with_reducible rfl); (try simp only [Act.put, List.setIfInBounds_toArray, List.set_cons_zero, List.set_cons_succ])
          refine regS 16 49 (v := ?_) hS rfl rfl (by kernel_rfl) (by kernel_rfl) (by kernel_rfl) (by kernel_rfl) (fun _ _ _ h => h) (by rfl) (fun w hSw => ?_) ?_; rotate_left; (simp only [AllS, InS] at hSw; go_simp; first | done | with_reducible rfl); (try simp only [Act.put, List.setIfInBounds_toArray, List.set_cons_zero, List.set_cons_succ])
          clear hS l2
          refine regTwo 7 17 (by kernel_rfl) rfl rfl rfl rfl (fun K hK => ?_) (fun K hK => ?_)
          · go_simp
            refine hK.out _ _ (fun _ _ => HS2.out [] _ (by repeat' (first | exact Mod.refl _ _ | assumption | refine Mod.drewN ?_ _ | refine Mod.drew ?_ | refine Mod.alloc ?_ _ | refine Mod.setCell ?_ (by simp) _ | refine Mod.setBlock ?_ (by simp) _)) (by simp)) ?_
            clear hK
            (try simp only [Act.put, List.setIfInBounds_toArray, List.set_cons_zero, List.set_cons_succ])
            refine regAbs (fun W' => Mod [] wr W' ∧ W'.heap[wr.heap.size]? = some (.cells #[nat (1 + j2)] 3 (0, 0))) ⟨(by repeat' (first | exact Mod.refl _ _ | assumption | refine Mod.drewN ?_ _ | refine Mod.drew ?_ | refine Mod.alloc ?_ _ | refine Mod.setCell ?_ (by simp) _ | refine Mod.setBlock ?_ (by simp) _)), get_new wr.drew _⟩ ?_
            rintro W1 ⟨hm1, hb7⟩
            have hz1 := hm1.size
            refine regTwo 8 17 (by kernel_rfl) rfl rfl rfl rfl (fun K hK => ?_) (fun K hK => ?_)
            · refine wp_app 41 _ _ 31 rfl rfl 3 i3 _ 1 8 Try.underlying31 hi3 hz3 hs3 hy3 rfl (by omega) vt2 _ _ rfl (row_mod HR1.out hm1 (by simp)) ⟨wr.heap.size, 0, none⟩ 1 1 [nat (1 + j2)] rfl rfl (news_at hb7) (by simp [Value.oneCell']) (by unfold maxLen; omega) (by omega) ?_
              intro vt3 W2 ho2 hq2 hl3 _
              have hm2 : Mod vt2.ownBlock.toList wr W2 := (hm1.mono (by simp)).trans hq2
              refine hK.out _ _ (fun _ _ => HS2.out _ _ hm2 (fun _ h => List.mem_append_left _ h)) ?_
              clear hK
              (try simp only [Act.put, List.setIfInBounds_toArray, List.set_cons_zero, List.set_cons_succ])
              refine regOnly 17 (by kernel_rfl) rfl rfl (fun K hK => ?_)
              go_simp
              refine hK.out _ _ (fun _ _ => HS2.out vt2.ownBlock.toList _ (by repeat' (first | exact Mod.refl _ _ | assumption | refine Mod.drewN ?_ _ | refine Mod.drew ?_ | refine Mod.alloc ?_ _ | refine Mod.setCell ?_ (by simp) _ | refine Mod.setBlock ?_ (by simp) _)) (fun _ h => List.mem_append_left _ h)) ?_
              clear hK
              (try simp only [Act.put, List.setIfInBounds_toArray, List.set_cons_zero, List.set_cons_succ])
              refine regAbs (fun W' => Mod vt2.ownBlock.toList wr W' ∧ W'.heap[W2.heap.size]? = some (.cells m.cells.toArray 39 (0, 0)) ∧ W'.ownsRow 0 3 1 vt3 (La.dest.length + j2 + 1) ((La.dest ++ (List.range j2).map (1 + ·)).map nat ++ [nat (1 + j2)])) ⟨(by repeat' (first | exact Mod.refl _ _ | assumption | refine Mod.drewN ?_ _ | refine Mod.drew ?_ | refine Mod.alloc ?_ _ | refine Mod.setCell ?_ (by simp) _ | refine Mod.setBlock ?_ (by simp) _)), get_new W2 _, ho2.alloc _⟩ ?_
              rintro W3' ⟨hm3, hb17, ho3⟩
              refine regOnly 18 (by kernel_rfl) rfl rfl (fun K hK => ?_)
              refine wp_app 51 _ _ 32 rfl rfl 39 im _ 4 40 Try.underlying32 him hzm hsm hym rfl (by omega) vw2 _ _ rfl (row_mod HR2.out hm3 (fun k hk hk' => HR.out.1 k (by simpa using hk') hk)) ⟨W2.heap.size, 0, none⟩ 1 1 m.cells rfl rfl (news_at hb17) (by simp [Value.oneCell', Msg.cells]) (by unfold maxLen; omega) (by omega) ?_
              intro vw3 W4 hw4 hq4 hl5 _
              have hm4 : Mod (vt2.ownBlock.toList ++ vw2.ownBlock.toList) wr W4 := (hm3.mono (fun _ h => .inl (List.mem_append_left _ h))).trans (hq4.mono (fun _ h => .inl (List.mem_append_right _ h)))
              have hl2 : ∀ k, vt3.ownBlock = some k → vt2.ownBlock = some k ∨ wr.heap.size ≤ k := fun k hk => (hl3 k hk).imp id (fun h => by omega)
              have hl4 : ∀ k, vw3.ownBlock = some k → vw2.ownBlock = some k ∨ wr.heap.size ≤ k := fun k hk => (hl5 k hk).imp id (fun h => by have := hm3.size; omega)
              have ho4 := row_mod ho3 hq4 (fun k hk hk' => by rcases hl2 k hk with h1 | h1; exact HR.out.1 k h1 (by simpa using hk'); have := HR.out.2.2.1 k (by simpa using hk'); omega)
              refine hK.out _ _ (fun _ _ => HS2.out _ _ hm4 (fun _ h => h)) ?_
              clear hK
              (try simp only [Act.put, List.setIfInBounds_toArray, List.set_cons_zero, List.set_cons_succ])
              have hc4 : W4.heap[lw]? = _ := hm4.get HL2.out.cells HR.out.2.2.2
              have x4 : W4.cell? ⟨lw, 4, none⟩ = some vt2 := (cell_at hc4 4).trans rfl
              have x5 : W4.cell? ⟨lw, 5, none⟩ = some vw2 := (cell_at hc4 5).trans rfl
              have xf : ∀ i, W4.frozen? ⟨lw, i, none⟩ = false := free_at hc4
              obtain ⟨g2, cap2, rfl, _, _⟩ := ho4.form (by omega)
              obtain ⟨g4, cap4, rfl, _, _⟩ := hw4.form (by omega)
              clear hc4
              refine regA 19 52 (v := ?_) rfl rfl (by kernel_rfl) (by kernel_rfl) (by kernel_rfl) (fun _ _ _ h => h) (by rfl) (fun w => ?_) ?_; rotate_left; (go_simp; first | done | with_reducible rfl); (try simp only [Act.put, List.setIfInBounds_toArray, List.set_cons_zero, List.set_cons_succ])
              refine regA 20 53 (v := ?_) rfl rfl (by kernel_rfl) (by kernel_rfl) (by kernel_rfl) (fun _ _ _ h => h) (by rfl) (fun w => ?_) ?_; rotate_left; (go_simp; first | done | with_reducible rfl); (try simp only [Act.put, List.setIfInBounds_toArray, List.set_cons_zero, List.set_cons_succ])
              refine regOnly 21 (by kernel_rfl) rfl rfl (fun K hK => ?_)
              go_simp
              refine hK.out _ _ (fun h => by simp at h) ?_
              clear hK
              (try simp only [Act.put, List.setIfInBounds_toArray, List.set_cons_zero, List.set_cons_succ])
              refine regA 22 54 (v := ?_) rfl rfl (by kernel_rfl) (by kernel_rfl) (by kernel_rfl) (fun _ _ _ h => h) (by rfl) (fun w => ?_) ?_; rotate_left; (go_simp; first | done | with_reducible rfl); (try simp only [Act.put, List.setIfInBounds_toArray, List.set_cons_zero, List.set_cons_succ])
              refine regA 23 55 (v := ?_) rfl rfl (by kernel_rfl) (by kernel_rfl) (by kernel_rfl) (fun _ _ _ h => h) (by rfl) (fun w => ?_) ?_; rotate_left; (go_simp; first | done | with_reducible rfl); (try simp only [Act.put, List.setIfInBounds_toArray, List.set_cons_zero, List.set_cons_succ])
              refine regOnly 24 (by kernel_rfl) rfl rfl (fun K hK => ?_)
              go_simp
              refine hK.out _ _ (fun h => by simp at h) ?_
              clear hK
              (try simp only [Act.put, List.setIfInBounds_toArray, List.set_cons_zero, List.set_cons_succ])
              refine regDone (by kernel_rfl) ?_ _
              go_wp2_with fail
              go_roundg (gk - 1)
              case measure => omega
              case rel =>
                have hfin := in_step (gk := gk - 1) (by omega) HL2.out HG2.out HB2.out.1 HB2.out.2.1 HB2.out.2.2 hm4 ho4 hw4 hl2 hl4
                exact hfin
            · go_simp
              refine hK.out _ _ (fun _ _ => HS2.out [] _ (by repeat' (first | exact Mod.refl _ _ | assumption | refine Mod.drewN ?_ _ | refine Mod.drew ?_ | refine Mod.alloc ?_ _ | refine Mod.setCell ?_ (by simp) _ | refine Mod.setBlock ?_ (by simp) _)) (by simp)) ?_
              clear hK
              (try simp only [Act.put, List.setIfInBounds_toArray, List.set_cons_zero, List.set_cons_succ])
              refine regAbs (fun W' => Mod [] wr W' ∧ W'.heap[wr.heap.size]? = some (.cells #[nat (1 + j2)] 3 (0, 0)) ∧ W'.heap[W1.heap.size]? = some (.cells m.cells.toArray 39 (0, 0))) ⟨(by repeat' (first | exact Mod.refl _ _ | assumption | refine Mod.drewN ?_ _ | refine Mod.drew ?_ | refine Mod.alloc ?_ _ | refine Mod.setCell ?_ (by simp) _ | refine Mod.setBlock ?_ (by simp) _)), get_alloc hb7 _, get_new W1 _⟩ ?_
              rintro W2 ⟨hm2, hb7, hb17⟩
              clear hm1
              refine regOnly 8 (by kernel_rfl) rfl rfl (fun K hK => ?_)
              refine wp_app 41 _ _ 31 rfl rfl 3 i3 _ 1 8 Try.underlying31 hi3 hz3 hs3 hy3 rfl (by omega) vt2 _ _ rfl (row_mod HR1.out hm2 (by simp)) ⟨wr.heap.size, 0, none⟩ 1 1 [nat (1 + j2)] rfl rfl (news_at hb7) (by simp [Value.oneCell']) (by unfold maxLen; omega) (by omega) ?_
              intro vt3 W3' ho3 hq3 hl3 _
              have hm3 : Mod vt2.ownBlock.toList wr W3' := (hm2.mono (by simp)).trans hq3
              refine hK.out _ _ (fun _ _ => HS2.out _ _ hm3 (fun _ h => List.mem_append_left _ h)) ?_
              clear hK
              (try simp only [Act.put, List.setIfInBounds_toArray, List.set_cons_zero, List.set_cons_succ])
              have hb17' := hq3.get hb17 (fun h => by have := HR.out.2.1 _ (by simpa using h); omega)
              refine regOnly 18 (by kernel_rfl) rfl rfl (fun K hK => ?_)
              refine wp_app 51 _ _ 32 rfl rfl 39 im _ 4 40 Try.underlying32 him hzm hsm hym rfl (by omega) vw2 _ _ rfl (row_mod HR2.out hm3 (fun k hk hk' => HR.out.1 k (by simpa using hk') hk)) ⟨W1.heap.size, 0, none⟩ 1 1 m.cells rfl rfl (news_at hb17') (by simp [Value.oneCell', Msg.cells]) (by unfold maxLen; omega) (by omega) ?_
              intro vw3 W4 hw4 hq4 hl5 _
              have hm4 : Mod (vt2.ownBlock.toList ++ vw2.ownBlock.toList) wr W4 := (hm3.mono (fun _ h => .inl (List.mem_append_left _ h))).trans (hq4.mono (fun _ h => .inl (List.mem_append_right _ h)))
              have hl2 : ∀ k, vt3.ownBlock = some k → vt2.ownBlock = some k ∨ wr.heap.size ≤ k := fun k hk => (hl3 k hk).imp id (fun h => by have := hm2.size; omega)
              have hl4 : ∀ k, vw3.ownBlock = some k → vw2.ownBlock = some k ∨ wr.heap.size ≤ k := fun k hk => (hl5 k hk).imp id (fun h => by have := hm3.size; omega)
              have ho4 := row_mod ho3 hq4 (fun k hk hk' => by rcases hl2 k hk with h1 | h1; exact HR.out.1 k h1 (by simpa using hk'); have := HR.out.2.2.1 k (by simpa using hk'); omega)
              refine hK.out _ _ (fun _ _ => HS2.out _ _ hm4 (fun _ h => h)) ?_
              clear hK
              (try simp only [Act.put, List.setIfInBounds_toArray, List.set_cons_zero, List.set_cons_succ])
              have hc4 : W4.heap[lw]? = _ := hm4.get HL2.out.cells HR.out.2.2.2
              have x4 : W4.cell? ⟨lw, 4, none⟩ = some vt2 := (cell_at hc4 4).trans rfl
              have x5 : W4.cell? ⟨lw, 5, none⟩ = some vw2 := (cell_at hc4 5).trans rfl
              have xf : ∀ i, W4.frozen? ⟨lw, i, none⟩ = false := free_at hc4
              obtain ⟨g2, cap2, rfl, _, _⟩ := ho4.form (by omega)
              obtain ⟨g4, cap4, rfl, _, _⟩ := hw4.form (by omega)
              clear hc4
              refine regA 19 52 (v := ?_) rfl rfl (by kernel_rfl) (by kernel_rfl) (by kernel_rfl) (fun _ _ _ h => h) (by rfl) (fun w => ?_) ?_; rotate_left; (go_simp; first | done | with_reducible rfl); (try simp only [Act.put, List.setIfInBounds_toArray, List.set_cons_zero, List.set_cons_succ])
              refine regA 20 53 (v := ?_) rfl rfl (by kernel_rfl) (by kernel_rfl) (by kernel_rfl) (fun _ _ _ h => h) (by rfl) (fun w => ?_) ?_; rotate_left; (go_simp; first | done | with_reducible rfl); (try simp only [Act.put, List.setIfInBounds_toArray, List.set_cons_zero, List.set_cons_succ])
              refine regOnly 21 (by kernel_rfl) rfl rfl (fun K hK => ?_)
              go_simp
              refine hK.out _ _ (fun h => by simp at h) ?_
              clear hK
              (try simp only [Act.put, List.setIfInBounds_toArray, List.set_cons_zero, List.set_cons_succ])
              refine regA 22 54 (v := ?_) rfl rfl (by kernel_rfl) (by kernel_rfl) (by kernel_rfl) (fun _ _ _ h => h) (by rfl) (fun w => ?_) ?_; rotate_left; (go_simp; first | done | with_reducible rfl); (try simp only [Act.put, List.setIfInBounds_toArray, List.set_cons_zero, List.set_cons_succ])
              refine regA 23 55 (v := ?_) rfl rfl (by kernel_rfl) (by kernel_rfl) (by kernel_rfl) (fun _ _ _ h => h) (by rfl) (fun w => ?_) ?_; rotate_left; (go_simp; first | done | with_reducible rfl); (try simp only [Act.put, List.setIfInBounds_toArray, List.set_cons_zero, List.set_cons_succ])
              refine regOnly 24 (by kernel_rfl) rfl rfl (fun K hK => ?_)
              go_simp
              refine hK.out _ _ (fun h => by simp at h) ?_
              clear hK
              (try simp only [Act.put, List.setIfInBounds_toArray, List.set_cons_zero, List.set_cons_succ])
              refine regDone (by kernel_rfl) ?_ _
              go_wp2_with fail
              go_roundg (gk - 1)
              case measure => omega
              case rel =>
                have hfin := in_step (gk := gk - 1) (by omega) HL2.out HG2.out HB2.out.1 HB2.out.2.1 HB2.out.2.2 hm4 ho4 hw4 hl2 hl4
                exact hfin
          · go_simp
            refine hK.out _ _ (fun _ _ => HS2.out [] _ (by repeat' (first | exact Mod.refl _ _ | assumption | refine Mod.drewN ?_ _ | refine Mod.drew ?_ | refine Mod.alloc ?_ _ | refine Mod.setCell ?_ (by simp) _ | refine Mod.setBlock ?_ (by simp) _)) (by simp)) ?_
            clear hK
            (try simp only [Act.put, List.setIfInBounds_toArray, List.set_cons_zero, List.set_cons_succ])
            refine regAbs (fun W' => Mod [] wr W' ∧ W'.heap[wr.heap.size]? = some (.cells m.cells.toArray 39 (0, 0))) ⟨(by repeat' (first | exact Mod.refl _ _ | assumption | refine Mod.drewN ?_ _ | refine Mod.drew ?_ | refine Mod.alloc ?_ _ | refine Mod.setCell ?_ (by simp) _ | refine Mod.setBlock ?_ (by simp) _)), get_new wr.drew _⟩ ?_
            rintro W1 ⟨hm1, hb17⟩
            have hz1 := hm1.size
            refine regOnly 7 (by kernel_rfl) rfl rfl (fun K hK => ?_)
            go_simp
            refine hK.out _ _ (fun _ _ => HS2.out [] _ (by repeat' (first | exact Mod.refl _ _ | assumption | refine Mod.drewN ?_ _ | refine Mod.drew ?_ | refine Mod.alloc ?_ _ | refine Mod.setCell ?_ (by simp) _ | refine Mod.setBlock ?_ (by simp) _)) (by simp)) ?_
            clear hK
            (try simp only [Act.put, List.setIfInBounds_toArray, List.set_cons_zero, List.set_cons_succ])
            refine regAbs (fun W' => Mod [] wr W' ∧ W'.heap[W1.heap.size]? = some (.cells #[nat (1 + j2)] 3 (0, 0)) ∧ W'.heap[wr.heap.size]? = some (.cells m.cells.toArray 39 (0, 0))) ⟨(by repeat' (first | exact Mod.refl _ _ | assumption | refine Mod.drewN ?_ _ | refine Mod.drew ?_ | refine Mod.alloc ?_ _ | refine Mod.setCell ?_ (by simp) _ | refine Mod.setBlock ?_ (by simp) _)), get_new W1 _, get_alloc hb17 _⟩ ?_
            rintro W2 ⟨hm2, hb7, hb17⟩
            clear hm1
            refine regOnly 8 (by kernel_rfl) rfl rfl (fun K hK => ?_)
            refine wp_app 41 _ _ 31 rfl rfl 3 i3 _ 1 8 Try.underlying31 hi3 hz3 hs3 hy3 rfl (by omega) vt2 _ _ rfl (row_mod HR1.out hm2 (by simp)) ⟨W1.heap.size, 0, none⟩ 1 1 [nat (1 + j2)] rfl rfl (news_at hb7) (by simp [Value.oneCell']) (by unfold maxLen; omega) (by omega) ?_
            intro vt3 W3' ho3 hq3 hl3 _
            have hm3 : Mod vt2.ownBlock.toList wr W3' := (hm2.mono (by simp)).trans hq3
            refine hK.out _ _ (fun _ _ => HS2.out _ _ hm3 (fun _ h => List.mem_append_left _ h)) ?_
            clear hK
            (try simp only [Act.put, List.setIfInBounds_toArray, List.set_cons_zero, List.set_cons_succ])
            have hb17' := hq3.get hb17 (fun h => by have := HR.out.2.1 _ (by simpa using h); omega)
            refine regOnly 18 (by kernel_rfl) rfl rfl (fun K hK => ?_)
            refine wp_app 51 _ _ 32 rfl rfl 39 im _ 4 40 Try.underlying32 him hzm hsm hym rfl (by omega) vw2 _ _ rfl (row_mod HR2.out hm3 (fun k hk hk' => HR.out.1 k (by simpa using hk') hk)) ⟨wr.heap.size, 0, none⟩ 1 1 m.cells rfl rfl (news_at hb17') (by simp [Value.oneCell', Msg.cells]) (by unfold maxLen; omega) (by omega) ?_
            intro vw3 W4 hw4 hq4 hl5 _
            have hm4 : Mod (vt2.ownBlock.toList ++ vw2.ownBlock.toList) wr W4 := (hm3.mono (fun _ h => .inl (List.mem_append_left _ h))).trans (hq4.mono (fun _ h => .inl (List.mem_append_right _ h)))
            have hl2 : ∀ k, vt3.ownBlock = some k → vt2.ownBlock = some k ∨ wr.heap.size ≤ k := fun k hk => (hl3 k hk).imp id (fun h => by have := hm2.size; omega)
            have hl4 : ∀ k, vw3.ownBlock = some k → vw2.ownBlock = some k ∨ wr.heap.size ≤ k := fun k hk => (hl5 k hk).imp id (fun h => by have := hm3.size; omega)
            have ho4 := row_mod ho3 hq4 (fun k hk hk' => by rcases hl2 k hk with h1 | h1; exact HR.out.1 k h1 (by simpa using hk'); have := HR.out.2.2.1 k (by simpa using hk'); omega)
            refine hK.out _ _ (fun _ _ => HS2.out _ _ hm4 (fun _ h => h)) ?_
            clear hK
            (try simp only [Act.put, List.setIfInBounds_toArray, List.set_cons_zero, List.set_cons_succ])
            have hc4 : W4.heap[lw]? = _ := hm4.get HL2.out.cells HR.out.2.2.2
            have x4 : W4.cell? ⟨lw, 4, none⟩ = some vt2 := (cell_at hc4 4).trans rfl
            have x5 : W4.cell? ⟨lw, 5, none⟩ = some vw2 := (cell_at hc4 5).trans rfl
            have xf : ∀ i, W4.frozen? ⟨lw, i, none⟩ = false := free_at hc4
            obtain ⟨g2, cap2, rfl, _, _⟩ := ho4.form (by omega)
            obtain ⟨g4, cap4, rfl, _, _⟩ := hw4.form (by omega)
            clear hc4
            refine regA 19 52 (v := ?_) rfl rfl (by kernel_rfl) (by kernel_rfl) (by kernel_rfl) (fun _ _ _ h => h) (by rfl) (fun w => ?_) ?_; rotate_left; (go_simp; first | done | with_reducible rfl); (try simp only [Act.put, List.setIfInBounds_toArray, List.set_cons_zero, List.set_cons_succ])
            refine regA 20 53 (v := ?_) rfl rfl (by kernel_rfl) (by kernel_rfl) (by kernel_rfl) (fun _ _ _ h => h) (by rfl) (fun w => ?_) ?_; rotate_left; (go_simp; first | done | with_reducible rfl); (try simp only [Act.put, List.setIfInBounds_toArray, List.set_cons_zero, List.set_cons_succ])
            refine regOnly 21 (by kernel_rfl) rfl rfl (fun K hK => ?_)
            go_simp
            refine hK.out _ _ (fun h => by simp at h) ?_
            clear hK
            (try simp only [Act.put, List.setIfInBounds_toArray, List.set_cons_zero, List.set_cons_succ])
            refine regA 22 54 (v := ?_) rfl rfl (by kernel_rfl) (by kernel_rfl) (by kernel_rfl) (fun _ _ _ h => h) (by rfl) (fun w => ?_) ?_; rotate_left; (go_simp; first | done | with_reducible rfl); (try simp only [Act.put, List.setIfInBounds_toArray, List.set_cons_zero, List.set_cons_succ])
            refine regA 23 55 (v := ?_) rfl rfl (by kernel_rfl) (by kernel_rfl) (by kernel_rfl) (fun _ _ _ h => h) (by rfl) (fun w => ?_) ?_; rotate_left; (go_simp; first | done | with_reducible rfl); (try simp only [Act.put, List.setIfInBounds_toArray, List.set_cons_zero, List.set_cons_succ])
            refine regOnly 24 (by kernel_rfl) rfl rfl (fun K hK => ?_)
            go_simp
            refine hK.out _ _ (fun h => by simp at h) ?_
            clear hK
            (try simp only [Act.put, List.setIfInBounds_toArray, List.set_cons_zero, List.set_cons_succ])
            refine regDone (by kernel_rfl) ?_ _
            go_wp2_with fail
            go_roundg (gk - 1)
            case measure => omega
            case rel =>
              have hfin := in_step (gk := gk - 1) (by omega) HL2.out HG2.out HB2.out.1 HB2.out.2.1 HB2.out.2.2 hm4 ho4 hw4 hl2 hl4
              exact hfin
        · go_wp2_with fail
          go_roundg (out.length - (j + 1))
          case measure => omega
          case rel => exact send_step (by omega) HM.out HLJ.out HLA.out.1 (by omega) HB.out.1 HB.out.2.1 HB.out.2.2.1 HB.out.2.2.2 HP.out.2.2 HVA.out HL2.out HG2.out HB2.out.1 HB2.out.2.1 HB2.out.2.2
    · have hj' : ¬ (j : Int) < (out.length : Int) := by omega
      have hd := decide_eq_false hj'
      have hpost : SendPost W lw vn vt vw va pl (sendS L out) (.returned (.tuple #[])) wr := by
        rw [List.take_of_length_le (by omega)] at hL
        exact ⟨rfl, vt1, vw1, va1, hL, hmod, ht1, hw1, ha1⟩
      have HP := hid hpost
      clear hpost hL hG hmod ht1 hw1 ha1
      go_wp2_with fail
      go_end0
      exact HP.out
end Go.Proofs.Ytnpmjpdndhedgaa
