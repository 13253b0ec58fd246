/-
  The statements' world, walked further: play over whatever property of it is kept (Closed). No statement of a claim stands here; each contract names what it asks.
-/
import Derived.Test.YtcgfjalglnlofaaCast9
set_option linter.unusedSimpArgs false
namespace Go.Proofs.Ytcgfjalglnlofaa
open Go Go.RowKit

structure MoveS where
  do_ : Int
  at_ : Int
  from_ : Int
  to_ : Int
  kind : Int
  val : ByteArray
def MoveS.cells (m : MoveS) : List Value := [.int .i64 m.do_, .int .i64 m.at_, .int .i64 m.from_, .int .i64 m.to_, .int .i64 m.kind, .string m.val]

/-- Moves as a slice lays them. -/
structure MovesAt (W : World) (a : Option Addr) (l : List MoveS) : Prop where
  cell : ∀ (i : Nat) (m : MoveS), l[i]? = some m → ∃ b o, a = some ⟨b, o, none⟩ ∧ b < W.heap.size ∧ ∀ (j : Nat) (u : Value), m.cells[j]? = some u → W.cell? ⟨b, o + i * 6 + j, none⟩ = some u

theorem LawAt.trip_not {W : World} {lw sb : Nat} {vn vt vw : Value} {bl : List Trip} {L : LawS} (h : LawAt W lw sb vn vt vw bl L) {i : Nat} {p : Trip} (hp : bl[i]? = some p) {b : Nat} {c : Array Value} {T : TypeId} (hb : W.heap[b]? = some (.cells c T (0, 0))) (hT : T ≠ 66) : b ∉ [p.1, p.2.1, p.2.2] := fun hx => by
  have ht := trip_mem hp
  simp only [List.mem_cons, List.not_mem_nil, or_false] at hx
  rcases hx with hx | hx | hx
  · exact h.trip_ne ht.1 hb hT hx.symm
  · exact h.trip_ne ht.2.1 hb hT hx.symm
  · exact h.trip_ne ht.2.2 hb hT hx.symm
theorem LawAt.law_not {W : World} {lw sb : Nat} {vn vt vw : Value} {bl : List Trip} {L : LawS} (h : LawAt W lw sb vn vt vw bl L) {b : Nat} {c : Array Value} {T : TypeId} (hb : W.heap[b]? = some (.cells c T (0, 0))) (h1 : T ≠ 33) (h2 : T ≠ 3) (h3 : T ≠ 36) :
    b ∉ lw :: sb :: (vt.ownBlock.toList ++ vw.ownBlock.toList) := fun hx => by
  simp only [List.mem_cons, List.mem_append, Option.mem_toList] at hx
  rcases hx with hx | hx | hx | hx
  · exact ne_ty hb h.cells h1 hx
  · exact ne_ty hb h.sent h2 hx
  · obtain ⟨c', hc⟩ := row_block h.to hx; exact ne_ty hb hc h2 rfl
  · obtain ⟨c', hc⟩ := row_block h.wait hx; exact ne_ty hb hc h3 rfl
theorem allL_same (l : List Msg) : ∀ L : LawS, (allL L l).n = L.n ∧ (allL L l).bad = L.bad := by
  induction l with
  | nil => exact fun L => ⟨rfl, rfl⟩
  | cons m l ih => intro L; exact ih (allS L m)
theorem giveS_same (L : LawS) (to : Nat) (m : Msg) : (giveS L to m).n = L.n ∧ (giveS L to m).bad = L.bad := by
  unfold giveS
  split
  · exact ⟨rfl, rfl⟩
  · exact allL_same _ _

def PlayPost (G : LawS → Prop) (lw sb : Nat) (vn : Value) (bl : List Trip) (L : LawS) (W : World) (vt vw : Value) (W' : World) : Prop :=
  ∃ L' vt' vw', LawAt W' lw sb vn vt' vw' bl L' ∧ G L' ∧ L'.n = L.n ∧ L'.bad = L.bad ∧ Reach lw sb bl W vt vw W' vt' vw'

set_option maxRecDepth 20000 in
set_option maxHeartbeats 1000000 in
theorem play_good {G : LawS → Prop} {mu : LawS → Nat} (C : Closed G mu) (W : World) (lw sb : Nat) (vn vt vw : Value) (bl : List Trip) (L : LawS) (a : Option Addr) (c : Nat) (moves : List MoveS) (h : LawAt W lw sb vn vt vw bl L) (g : G L) (hm : MovesAt W a moves)
    (hlen : moves.length ≤ maxLen) (B : Nat) (hB : moves ≠ [] → ∀ ad, a = some ad → ad.block < B) (hlw : ∀ k ∈ lw :: sb :: (vt.ownBlock.toList ++ vw.ownBlock.toList ++ tripBlocks bl), B ≤ k) (hBW : B ≤ W.heap.size) :
    Calls Try.prog 12 #[.pointer (some ⟨lw, 0, none⟩), .slice a moves.length c] W fun e W' => e = .returned (.bool true) ∧ PlayPost G lw sb vn bl L W vt vw W' := by
  have HL := hid h
  have HG := hid g
  have HMV := hid hm
  have HB := hid hB
  have HLW := hid hlw
  have HBW := hid hBW
  clear h g hm hB hlw hBW
  go_enter Try.func12, Try.ntmps12
  go_wp2_with fail
  go_loopg [4, 5] (moves.length) (fun gk r i W' => ∃ (j : Nat), i = nat j ∧ r = .bool false ∧ gk + j = moves.length ∧ PlayPost G lw sb vn bl L W vt vw W')
  case atStart => exact ⟨0, rfl, rfl, by omega, L, vt, vw, HL.out, HG.out, rfl, rfl, Reach.refl _ _ _ _ _ _⟩
  case round =>
    obtain ⟨j, rfl, rfl, hj, L', vt', vw', hL', g', hn', hb', hr'⟩ := hrel
    have hln := C.len L' g'
    have hn0 := C.n0 L' g'
    have hn1 := C.n1 L' g'
    have hbn := C.b L' g'
    have HPS := hid (C.pos L' g')
    have HL' := hid hL'
    have HG' := hid g'
    have HN' := hid (And.intro hn' hb')
    have HR' := hid hr'
    clear hn' hb' g' hr'
    by_cases hjn : j < moves.length
    · by_cases hj2 : j < 200
      · have hmj : moves[j]? = some moves[j] := List.getElem?_eq_getElem hjn
        obtain ⟨mb, mo, rfl, hmb, hmc⟩ := HMV.out.cell j _ hmj
        generalize moves[j] = m at hmj hmc
        have hmw : ∀ j' u, m.cells[j']? = some u → wr.cell? ⟨mb, mo + j * 6 + j', none⟩ = some u := by
          intro j' u hu
          refine HR'.out.mod.cell (hmc j' u hu) ?_
          intro hx
          have := HLW.out _ hx
          have := HB.out (by rintro rfl; simp at hjn) _ rfl
          simp at this
          omega
        have m0 : wr.cell? ⟨mb, mo + j * 6, none⟩ = some (.int .i64 m.do_) := hmw 0 _ rfl
        have m1 : wr.cell? ⟨mb, mo + j * 6 + 1, none⟩ = some (.int .i64 m.at_) := hmw 1 _ rfl
        have m2 : wr.cell? ⟨mb, mo + j * 6 + 2, none⟩ = some (.int .i64 m.from_) := hmw 2 _ rfl
        have m3 : wr.cell? ⟨mb, mo + j * 6 + 3, none⟩ = some (.int .i64 m.to_) := hmw 3 _ rfl
        have m4 : wr.cell? ⟨mb, mo + j * 6 + 4, none⟩ = some (.int .i64 m.kind) := hmw 4 _ rfl
        have m5 : wr.cell? ⟨mb, mo + j * 6 + 5, none⟩ = some (.string m.val) := hmw 5 _ rfl
        have l2 : wr.cell? ⟨lw, 2, none⟩ = some (nat L'.bad) := by rw [cell_at hL'.cells]; rfl
        have j0 : (0 : Int) ≤ (j : Int) := Int.natCast_nonneg _
        have j1 : (j : Int) < (moves.length : Int) := by omega
        have j2 : (j : Int) < 200 := by omega
        have HJ := hid hj
        have HH := hid hlen
        have hr : 0 ≤ among m.do_ 8 ∧ among m.do_ 8 < 8 := ⟨Int.emod_nonneg _ (by omega), Int.emod_lt_of_pos _ (by omega)⟩
        have hlt : lw < wr.heap.size := lt_of_block hL'.cells
        have hne : ¬ lw = wr.heap.size := by omega
        have n2 : (wr.alloc (.cells #[.int .i64 m.do_, .int .i64 m.at_, .int .i64 m.from_, .int .i64 m.to_, .int .i64 m.kind, .string m.val] 70)).cell? ⟨lw, 2, none⟩ = some (nat L'.bad) := Mod.cell (Mod.alloc (Mod.refl [] wr) _) l2 (by simp)
        have HLT := hid hlt
        clear hL' hmc hmb hmw hj hlen hlt hne
        have fin : ∀ W1 W2, Mod [] wr W1 → PlayPost G lw sb vn bl L' W1 vt' vw' W2 → ∀ W3, Mod [] W2 W3 → PlayPost G lw sb vn bl L W vt vw W3 := by
          rintro W1 W2 hm1 ⟨L2, vt2, vw2, hL2, hG2, hn2, hb2, hr2⟩ W3 hm3
          exact ⟨L2, vt2, vw2, hL2.mod0 hm3, hG2, by rw [hn2, HN'.out.1], by rw [hb2, HN'.out.2], ((HR'.out.mod0 hm1).step hr2).mod0 hm3⟩
        have FIN := hid fin
        clear fin
        by_cases hd : among m.do_ 8 < 6 ∨ L'.bad = 0
        · by_cases hd1 : among m.do_ 8 < 6
          · have d1 : decide (among m.do_ 8 < 6) = true := decide_eq_true hd1
            clear hd hd1
            go_wp2_with (first | (go_at_call 10; refine (among_any _ _ _ (by omega) (by omega)).mono ?_; rintro e w' ⟨rfl, rfl⟩) | (go_at_call 26; refine (hand_good C _ lw sb vn vt' vw' bl L' m.at_ (HL'.out.mod0 (Mod.alloc (Mod.refl [] wr) _)) HG'.out).mono ?_; rintro e w' ⟨rfl, L2, vt2, vw2, x1, x2, x3, x4, -, x5⟩; have H2 := hid (show PlayPost G lw sb vn bl L' _ vt' vw' w' from ⟨L2, vt2, vw2, x1, x2, x3, x4, x5⟩); clear x1 x2 x3 x4 x5) | (go_at_call 15; obtain ⟨L2, vt2, vw2, hL2, hG2, hn2, hb2, hr2⟩ := H2.out; refine (agree_any _ lw sb _ vt2 vw2 bl L2 hL2 (C.len _ hG2) (C.n1 _ hG2) (Nat.le_of_lt (C.b _ hG2)) (C.pos _ hG2) (C.n0 _ hG2)).mono ?_; rintro e w' ⟨rfl, hm2⟩; rw [C.agree _ hG2]; clear hL2 hG2 hn2 hb2 hr2; have HM3 := hid hm2; clear hm2))
            go_roundg (gk - 1)
            case measure => have := HJ.out; omega
            case rel => exact ⟨j + 1, by go_num, rfl, by have := HJ.out; omega, FIN.out _ _ (Mod.alloc (Mod.refl [] wr) _) H2.out _ HM3.out⟩
          · have d1 : decide (among m.do_ 8 < 6) = false := decide_eq_false hd1
            have hz : L'.bad = 0 := by omega
            have n3 := n2
            rw [hz] at n3
            have n4 := hid n3
            clear hd hd1 n2 l2 n3
            have n2 := n4.out
            clear n4
            go_wp2_with (first | (go_at_call 10; refine (among_any _ _ _ (by omega) (by omega)).mono ?_; rintro e w' ⟨rfl, rfl⟩) | (go_at_call 26; refine (hand_good C _ lw sb vn vt' vw' bl L' m.at_ (HL'.out.mod0 (Mod.alloc (Mod.refl [] wr) _)) HG'.out).mono ?_; rintro e w' ⟨rfl, L2, vt2, vw2, x1, x2, x3, x4, -, x5⟩; have H2 := hid (show PlayPost G lw sb vn bl L' _ vt' vw' w' from ⟨L2, vt2, vw2, x1, x2, x3, x4, x5⟩); clear x1 x2 x3 x4 x5) | (go_at_call 15; obtain ⟨L2, vt2, vw2, hL2, hG2, hn2, hb2, hr2⟩ := H2.out; refine (agree_any _ lw sb _ vt2 vw2 bl L2 hL2 (C.len _ hG2) (C.n1 _ hG2) (Nat.le_of_lt (C.b _ hG2)) (C.pos _ hG2) (C.n0 _ hG2)).mono ?_; rintro e w' ⟨rfl, hm2⟩; rw [C.agree _ hG2]; clear hL2 hG2 hn2 hb2 hr2; have HM3 := hid hm2; clear hm2))
            go_roundg (gk - 1)
            case measure => have := HJ.out; omega
            case rel => exact ⟨j + 1, by go_num, rfl, by have := HJ.out; omega, FIN.out _ _ (Mod.alloc (Mod.refl [] wr) _) H2.out _ HM3.out⟩
        · have d1 : decide (among m.do_ 8 < 6) = false := decide_eq_false (by omega)
          have d2 : ((L'.bad : Int) == 0) = false := by rw [beq_eq_false_iff_ne]; omega
          have hbad : 1 ≤ L'.bad := by omega
          clear hd
          go_wp2_with (first | (go_at_call 10; refine (among_any _ _ _ (by omega) (by omega)).mono ?_; rintro e w' ⟨rfl, rfl⟩))
          have ok' := hid (fun (i : Nat) (s : NodeS) (m : Msg) => C.ok L' HG'.out i s m)
          refine wp_abs (fun W' => Mod [] wr W' ∧ W'.heap[wr.heap.size]? = some (.cells #[.int .i64 m.do_, .int .i64 m.at_, .int .i64 m.from_, .int .i64 m.to_, .int .i64 m.kind, .string m.val] 70 (0, 0))) ⟨Mod.alloc (Mod.refl [] wr) _, get_new wr _⟩ ?_
          rintro W1 ⟨hM1, hB1⟩
          have hL1 := HL'.out.mod0 hM1
          have l0 : W1.cell? ⟨lw, 0, none⟩ = some (nat L'.n) := by rw [cell_at hL1.cells]; rfl
          have l2 : W1.cell? ⟨lw, 2, none⟩ = some (nat L'.bad) := by rw [cell_at hL1.cells]; rfl
          have b3 : W1.cell? ⟨wr.heap.size, 3, none⟩ = some (.int .i64 m.to_) := by rw [cell_at hB1]; rfl
          have hr2 : 0 ≤ among m.to_ ((L'.n : Int) - L'.bad) ∧ among m.to_ ((L'.n : Int) - L'.bad) < (L'.n : Int) - L'.bad := ⟨Int.emod_nonneg _ (by omega), Int.emod_lt_of_pos _ (by omega)⟩
          obtain ⟨q, hq⟩ : ∃ q : Nat, (q : Int) = among m.to_ ((L'.n : Int) - L'.bad) := ⟨(among m.to_ ((L'.n : Int) - L'.bad)).toNat, by omega⟩
          have hql : q < L'.n - L'.bad := by omega
          obtain ⟨i, hi⟩ : ∃ i : Nat, i = L'.bad + q := ⟨_, rfl⟩
          have e1 : IntKind.i64.wrap ((L'.bad : Int) + 1) = (L'.bad : Int) + 1 := IntWalk.i64_in _ (by omega)
          have e2 : IntKind.i64.wrap ((L'.n : Int) - L'.bad) = (L'.n : Int) - L'.bad := IntWalk.i64_in _ (by omega)
          have e3 : IntKind.i64.wrap ((L'.bad : Int) + 1 + q) = (i : Int) + 1 := by rw [show (L'.bad : Int) + 1 + q = (i : Int) + 1 by omega]; exact IntWalk.i64_in _ (by omega)
          have HQ := hid hq
          have HI := hid hi
          have hil : i < L'.n := by omega
          clear hq hi m0 m1 m2 m3 m4 m5 n2 hL1
          go_region_held3 (fun w' => w'.cell? ⟨lw, 0, none⟩ = some (nat L'.n) ∧ w'.cell? ⟨lw, 2, none⟩ = some (nat L'.bad) ∧ w'.cell? ⟨wr.heap.size, 3, none⟩ = some (.int .i64 m.to_)) (go_keep)
            ((go_at_call 10; refine (among_any _ _ _ (by omega) (by omega)).mono ?_; rintro e w' ⟨rfl, rfl⟩; rw [← HQ.out]))
          go_wp2_with fail
          refine wp_abs (fun W' => Mod [] wr W' ∧ W'.heap[wr.heap.size]? = some (.cells #[.int .i64 m.do_, .int .i64 m.at_, .int .i64 m.from_, .int .i64 m.to_, .int .i64 m.kind, .string m.val] 70 (0, 0))) ⟨hM1.drew, hB1⟩ ?_
          clear l0 l2 b3 hM1 hB1
          rintro W2 ⟨hM2, hB2⟩
          have hL2 := HL'.out.mod0 hM2
          obtain ⟨nb, nc, rfl⟩ := hL2.form (by rw [hL2.len]; omega)
          have hbl : bl.length = L'.n := by rw [hL2.len, hln]
          have hib : i < bl.length := by omega
          have hin : i < L'.nodes.length := by omega
          have hp : bl[i]? = some bl[i] := List.getElem?_eq_getElem hib
          have hs : L'.nodes[i]? = some L'.nodes[i] := List.getElem?_eq_getElem hin
          generalize L'.nodes[i] = s at hs
          generalize bl[i] = p at hp
          have n1 := hL2.at hp
          have l2 : W2.cell? ⟨lw, 2, none⟩ = some (nat L'.bad) := by rw [cell_at hL2.cells]; rfl
          have l3 : W2.cell? ⟨lw, 3, none⟩ = some (.slice (some ⟨nb, 0, none⟩) bl.length nc) := by rw [cell_at hL2.cells]; rfl
          have b2 : W2.cell? ⟨wr.heap.size, 2, none⟩ = some (.int .i64 m.from_) := by rw [cell_at hB2]; rfl
          have b4 : W2.cell? ⟨wr.heap.size, 4, none⟩ = some (.int .i64 m.kind) := by rw [cell_at hB2]; rfl
          have b5 : W2.cell? ⟨wr.heap.size, 5, none⟩ = some (.string m.val) := by rw [cell_at hB2]; rfl
          have hf : 0 ≤ among m.from_ (L'.bad : Int) ∧ among m.from_ (L'.bad : Int) < (L'.bad : Int) := ⟨Int.emod_nonneg _ (by omega), Int.emod_lt_of_pos _ (by omega)⟩
          obtain ⟨fr, hfr⟩ : ∃ fr : Int, fr = 1 + among m.from_ (L'.bad : Int) := ⟨_, rfl⟩
          have e4 : IntKind.i64.wrap (1 + among m.from_ (L'.bad : Int)) = fr := by rw [hfr]; exact IntWalk.i64_in _ (by omega)
          have q1 : IntKind.i64.wrap ((i : Int) + 1 - 1) = (i : Int) := by rw [show (i : Int) + 1 - 1 = i from by omega]; exact IntWalk.i64_in _ (by omega)
          have q3 : IntKind.i64.wrap (i : Int) = (i : Int) := by rw [show (i : Int) + 1 - 1 = i from by omega] at q1; exact q1
          have i0 : (0 : Int) ≤ (i : Int) := Int.natCast_nonneg _
          have i1 : (i : Int) < (bl.length : Int) := by omega
          have hx1 : lw ∉ [p.1, p.2.1, p.2.2] := hL2.trip_not hp hL2.cells (by decide)
          obtain ⟨cn, hcn⟩ := row_block hL2.nodes (k := nb) rfl
          have hx2 : nb ∉ [p.1, p.2.1, p.2.2] := hL2.trip_not hp hcn (by decide)
          have hx3 : wr.heap.size ∉ [p.1, p.2.1, p.2.2] := hL2.trip_not hp hB2 (by decide)
          have hz1 : nb ∉ lw :: sb :: (vt'.ownBlock.toList ++ vw'.ownBlock.toList) := hL2.law_not hcn (by decide) (by decide) (by decide)
          have hz2 : wr.heap.size ∉ lw :: sb :: (vt'.ownBlock.toList ++ vw'.ownBlock.toList) := hL2.law_not hB2 (by decide) (by decide) (by decide)
          have hwlt : ∀ b, vw'.ownBlock = some b → b < W2.heap.size := fun b hb => by obtain ⟨c, hc⟩ := row_block hL2.wait hb; exact lt_of_block hc
          have HL2 := hid hL2
          obtain ⟨cz, hcz⟩ : ∃ k : Nat, k = min m.val.size 50 := ⟨_, rfl⟩
          have cz1 : (if (50 : Int) < (m.val.size : Int) then (50 : Int) else (m.val.size : Int)) = (cz : Int) := by split <;> omega
          have cz2 : (if 50 < m.val.size then (50 : Int) else (m.val.size : Int)) = (cz : Int) := by split <;> omega
          have cz3 : cz ≤ m.val.size := by omega
          have cz4 : (0 : Int) ≤ (cz : Int) := Int.natCast_nonneg _
          have HCZ := hid hcz
          clear hcz
          obtain ⟨mm, hmm⟩ : ∃ mm : Msg, mm = ⟨m.kind, fr, m.val.extract 0 cz⟩ := ⟨_, rfl⟩
          have HTA := hid (takeS_all s mm)
          have HOK := hid (ok'.out i s mm hs)
          have HMM := hid hmm
          have HX := hid (And.intro hx1 (And.intro hx2 hx3))
          have HZ := hid (And.intro hz1 hz2)
          have HW := hid hwlt
          have HFR := hid hfr
          have HS := hid (And.intro hp hs)
          have HM2 := hid hM2
          clear hx1 hx2 hx3 hz1 hz2 hwlt hL2 hmm hcn hB2 hfr hp hs hM2 ok'
          go_region_held3 (fun w' => w'.cell? ⟨lw, 3, none⟩ = some (.slice (some ⟨nb, 0, none⟩) bl.length nc) ∧ w'.cell? ⟨lw, 2, none⟩ = some (nat L'.bad) ∧ w'.cell? ⟨nb, i, none⟩ = some (.pointer (some ⟨p.1, 0, none⟩)) ∧ w'.cell? ⟨wr.heap.size, 2, none⟩ = some (.int .i64 m.from_) ∧
              w'.cell? ⟨wr.heap.size, 4, none⟩ = some (.int .i64 m.kind) ∧ w'.cell? ⟨wr.heap.size, 5, none⟩ = some (.string m.val))
            (first
              | exact ⟨l3, l2, n1, b2, b4, b5⟩
              | exact ⟨hm7.cell l3 HX.out.1, hm7.cell l2 HX.out.1, hm7.cell n1 HX.out.2.1, hm7.cell b2 HX.out.2.2, hm7.cell b4 HX.out.2.2, hm7.cell b5 HX.out.2.2⟩
              | exact ⟨(cell_at hL8.cells 3).trans rfl, (cell_at hL8.cells 2).trans (congrArg (fun x : Nat => some (nat x)) (allL_same _ _).2), hm8.cell (hm7.cell n1 HX.out.2.1) HZ.out.1, hm8.cell (hm7.cell b2 HX.out.2.2) HZ.out.2, hm8.cell (hm7.cell b4 HX.out.2.2) HZ.out.2, hm8.cell (hm7.cell b5 HX.out.2.2) HZ.out.2⟩)
            (first
              | (go_at_call 10; refine (among_any _ _ _ (by omega) (by omega)).mono ?_; rintro e w' ⟨rfl, rfl⟩)
              | (go_at_call 22; have := take_law W2.drew lw sb _ vt' vw' bl L' (HL2.out.mod0 (Mod.refl _ _).drew) i p s mm HS.out.1 HS.out.2 HOK.out; rw [HMM.out] at this; refine this.mono ?_; clear this; rw [← HMM.out]; rintro e w' ⟨v, rfl, hL7, hms, hm7⟩)
              | (go_at_call 17; refine (all_any _ lw sb _ vt' vw' bl _ hL7 W2.heap.size v _ hms HW.out (give_out (L := L') rfl HTA.out.2 HOK.out) HOK.out.ln HOK.out.lb HOK.out.lt HOK.out.lw).mono ?_; rintro e w8 ⟨rfl, vt8, vw8, hL8, hm8, ht8, hw8⟩))
          all_goals
            have htm := trip_mem HS.out.1
            have hz7 : W2.heap.size ≤ _ := hm7.size
            have H2 : Hid (PlayPost G lw sb (.slice (some ⟨nb, 0, none⟩) bl.length nc) bl L' W2 vt' vw' w8) := by
              have e : giveS L' (L'.bad + 1 + q) mm = allL { L' with nodes := L'.nodes.set i (takeS s mm).1 } (takeS s mm).2 := by
                have e0 : L'.bad + 1 + q - 1 = i := by have := HI.out; omega
                simp only [giveS, e0, HS.out.2]
              have hgood : G (giveS L' (L'.bad + 1 + q) mm) := C.give L' q mm HG'.out hql (by rw [HMM.out]; show 1 ≤ fr; rw [HFR.out]; omega) (by rw [HMM.out]; show fr ≤ _; rw [HFR.out]; omega) (by rw [HMM.out]; have := HCZ.out; simp [ByteArray.size_extract]; omega)
              have hsm := giveS_same L' (L'.bad + 1 + q) mm
              rw [e] at hgood hsm
              refine hid ⟨_, vt8, vw8, hL8, hgood, hsm.1, hsm.2, ⟨?_, fun b hb => ?_, fun b hb => ?_⟩⟩
              · refine (Mod.trans' ((Mod.refl _ W2).drew) hm7 (fun x hx => .inl ?_)).trans' hm8 (fun x hx => .inl ?_)
                · simp only [List.mem_cons, List.not_mem_nil, or_false] at hx
                  refine List.mem_cons_of_mem _ (List.mem_cons_of_mem _ (List.mem_append_right _ ?_))
                  rcases hx with rfl | rfl | rfl
                  · exact htm.1
                  · exact htm.2.1
                  · exact htm.2.2
                · simp only [List.mem_cons, List.mem_append] at hx ⊢
                  rcases hx with h | h | h
                  · exact .inl h
                  · exact .inr (.inl h)
                  · exact .inr (.inr (.inl h))
              · rcases ht8 b hb with h | h
                · exact .inl h
                · exact .inr (Nat.le_trans hz7 h)
              · rcases hw8 b hb with h | h
                · exact .inl h
                · exact .inr (Nat.le_trans hz7 h)
            clear hL7 hms hm7 hL8 hm8 ht8 hw8 hz7 htm
            go_wp2_with (first | (go_at_call 15; obtain ⟨L2, vt2, vw2, hL2, hG2, hn2, hb2, hr2⟩ := H2.out; refine (agree_any _ lw sb _ vt2 vw2 bl L2 hL2 (C.len _ hG2) (C.n1 _ hG2) (Nat.le_of_lt (C.b _ hG2)) (C.pos _ hG2) (C.n0 _ hG2)).mono ?_; rintro e w' ⟨rfl, hm2⟩; rw [C.agree _ hG2]; clear hL2 hG2 hn2 hb2 hr2; have HM3 := hid hm2; clear hm2))
            go_roundg (gk - 1)
            case measure => have := HJ.out; omega
            case rel => exact ⟨j + 1, by go_num, rfl, by have := HJ.out; omega, FIN.out _ _ HM2.out H2.out _ HM3.out⟩
      · go_wp2_with fail
        go_ret
        exact ⟨rfl, L', vt', vw', HL'.out.mod0 (Mod.refl _ _), HG'.out, HN'.out.1, HN'.out.2, HR'.out⟩
    · go_wp2_with fail
      go_ret
      exact ⟨rfl, L', vt', vw', HL'.out.mod0 (Mod.refl _ _), HG'.out, HN'.out.1, HN'.out.2, HR'.out⟩
end Go.Proofs.Ytcgfjalglnlofaa
