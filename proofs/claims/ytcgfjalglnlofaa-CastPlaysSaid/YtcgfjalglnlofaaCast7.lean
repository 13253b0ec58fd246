/-
  'hand' of the statements' world, walked: a message that waits is handed on. No statement of a claim stands here; each contract names what it asks.
-/
import Derived.Test.YtcgfjalglnlofaaCast6
import Derived.Test.YtcgfjalglnlofaaCast3
set_option linter.unusedSimpArgs false
namespace Go.Proofs.Ytcgfjalglnlofaa
open Go Go.RowKit

def among (x n : Int) : Int := IntKind.u64.wrap x % n

theorem among_any (x n : Int) (w : World) (hn : 1 ≤ n) (hn' : n ≤ 9223372036854775807) :
    Calls Try.prog 10 #[.int .i64 x, .int .i64 n] w fun e w' => e = .returned (.int .i64 (among x n)) ∧ w = w' := by
  have hu : 0 ≤ IntKind.u64.wrap x := by simp only [IntKind.wrap_u64]; omega
  have hr : 0 ≤ among x n ∧ among x n < n := ⟨Int.emod_nonneg _ (by omega), Int.emod_lt_of_pos _ (by omega)⟩
  have ht : (IntKind.u64.wrap x).tmod n = among x n := by rw [Int.tmod_eq_emod_of_nonneg hu]; rfl
  have hw : IntKind.i64.wrap (among x n) = among x n := IntWalk.i64_in _ (by omega)
  go_enter Try.func10, Try.ntmps10
  go_wp2
  go_ret
  refine ⟨?_, rfl⟩
  simp [ht]

/-- What waits, without the one that is handed on. -/
def cutS (L : LawS) (k : Nat) : LawS := { L with to := L.to.eraseIdx k, wait := L.wait.eraseIdx k }

theorem erase_split {α : Type} (l : List α) (k : Nat) : l.eraseIdx k = l.take k ++ l.drop (k + 1) := List.eraseIdx_eq_take_drop_succ l k
theorem waitCells_take (l : List Msg) (k : Nat) : (waitCells l).take (k * 3) = waitCells (l.take k) := by
  induction l generalizing k with
  | nil => simp [waitCells]
  | cons m l ih =>
    cases k with
    | zero => simp [waitCells]
    | succ k =>
      have e : (k + 1) * 3 = k * 3 + 3 := by omega
      rw [e]
      simp only [waitCells, List.flatMap_cons, List.take_succ_cons, Msg.cells] at ih ⊢
      simp [ih]
theorem waitCells_drop (l : List Msg) (k : Nat) : (waitCells l).drop (k * 3) = waitCells (l.drop k) := by
  induction l generalizing k with
  | nil => simp [waitCells]
  | cons m l ih =>
    cases k with
    | zero => simp [waitCells]
    | succ k =>
      have e : (k + 1) * 3 = k * 3 + 3 := by omega
      rw [e]
      simp only [waitCells, List.flatMap_cons, List.drop_succ_cons, Msg.cells] at ih ⊢
      simp [ih]

/-- The node that a message comes to has taken it, and what it sends goes to all. -/
def giveS (L : LawS) (to : Nat) (m : Msg) : LawS :=
  match L.nodes[to - 1]? with
  | none => L
  | some s => allL { L with nodes := L.nodes.set (to - 1) (Go.Proofs.Ytcgfjalglnlofaa.takeS s m).1 } (Go.Proofs.Ytcgfjalglnlofaa.takeS s m).2
def handS (L : LawS) (k : Nat) : LawS :=
  match L.to[k]?, L.wait[k]? with
  | some to, some m => giveS (cutS L k) to m
  | _, _ => L

theorem hand_none (W : World) (lw sb : Nat) (vn vt vw : Value) (bl : List Trip) (L : LawS) (at_ : Int) (h : LawAt W lw sb vn vt vw bl L) (hw : L.wait = []) :
    Calls Try.prog 26 #[.pointer (some ⟨lw, 0, none⟩), .int .i64 at_] W fun e W' => e = .returned (.tuple #[]) ∧ W = W' := by
  have l5 : W.cell? ⟨lw, 5, none⟩ = some vw := by rw [cell_at h.cells]; rfl
  have hv : ∃ a c, vw = .slice a 0 c := by
    rcases h.wait.2 with ⟨rfl, _⟩ | ⟨g, cap, cur, rfl, _⟩
    · exact ⟨_, _, rfl⟩
    · rw [hw]; exact ⟨_, _, rfl⟩
  obtain ⟨a, c, rfl⟩ := hv
  clear h hw
  go_enter Try.func26, Try.ntmps26
  go_wp2_with fail
  refine bodyPost_ret (results_none rfl _ _ _) rfl ?_
  exact ⟨rfl, rfl⟩

def HandPost (W : World) (lw sb : Nat) (vn vt vw : Value) (bl : List Trip) (L : LawS) (e : Ending) (W' : World) : Prop :=
  e = .returned (.tuple #[]) ∧ ∃ vt' vw', LawAt W' lw sb vn vt' vw' bl L ∧ Mod (lw :: sb :: (vt.ownBlock.toList ++ vw.ownBlock.toList ++ tripBlocks bl)) W W' ∧
    (∀ k, vt'.ownBlock = some k → vt.ownBlock = some k ∨ W.heap.size ≤ k) ∧ (∀ k, vw'.ownBlock = some k → vw.ownBlock = some k ∨ W.heap.size ≤ k)

/-- What is asked of a message that a node takes, and of what it sends then. -/
structure GiveOk (L : LawS) (s : NodeS) (m : Msg) : Prop where
  n0 : 0 < s.n
  n1 : s.n ≤ 16
  t0 : 0 ≤ s.t
  t1 : s.t ≤ 5
  E : VOk s.E
  R : VOk s.R
  lE : s.E.length ≤ 1000
  lR : s.R.length ≤ 1000
  me0 : 1 ≤ s.me
  me1 : s.me ≤ 100
  sent : ∀ k : Int, 2 ≤ k → k ≤ 3 → ∃ x, L.sent[(2 * s.me + k - 2).toNat]? = some x ∧ x ≤ 100000
  ln : L.n ≤ 100
  lb : L.bad ≤ L.n
  lt : L.to.length ≤ 100000
  lw : L.wait.length ≤ 100000
  nn : L.nodes.length ≤ 100

theorem sendE_me (s : NodeS) (v : ByteArray) : ((sendE s v).1.me = s.me ∧ (sendE s v).1.n = s.n ∧ (sendE s v).1.t = s.t ∧ (sendE s v).1.dealer = s.dealer) ∧ ((sendE s v).2 = [] ∨ (sendE s v).2 = [⟨2, s.me, v⟩]) := by
  unfold sendE; split <;> simp
theorem sendR_me (s : NodeS) (v : ByteArray) : ((sendR s v).1.me = s.me ∧ (sendR s v).1.n = s.n ∧ (sendR s v).1.t = s.t ∧ (sendR s v).1.dealer = s.dealer) ∧ ((sendR s v).2 = [] ∨ (sendR s v).2 = [⟨3, s.me, v⟩]) := by
  unfold sendR; split <;> simp
theorem settle_me (s : NodeS) (v : ByteArray) : (settle s v).me = s.me ∧ (settle s v).n = s.n ∧ (settle s v).t = s.t ∧ (settle s v).dealer = s.dealer := by
  unfold settle; split <;> simp

theorem takeS_all (s : NodeS) (m : Msg) : ((takeS s m).1.me = s.me ∧ (takeS s m).1.n = s.n ∧ (takeS s m).1.t = s.t ∧ (takeS s m).1.dealer = s.dealer) ∧ ((takeS s m).2 = [] ∨ ∃ k : Int, 2 ≤ k ∧ k ≤ 3 ∧ (takeS s m).2 = [⟨k, s.me, m.val⟩]) := by
  have hE := fun s' => sendE_me s' m.val
  have hR := fun s' => sendR_me s' m.val
  have hs := fun s' => settle_me s' m.val
  have fE : ∀ s', s'.me = s.me ∧ s'.n = s.n ∧ s'.t = s.t ∧ s'.dealer = s.dealer → ((sendE s' m.val).1.me = s.me ∧ (sendE s' m.val).1.n = s.n ∧ (sendE s' m.val).1.t = s.t ∧ (sendE s' m.val).1.dealer = s.dealer) ∧ ((sendE s' m.val).2 = [] ∨ ∃ k : Int, 2 ≤ k ∧ k ≤ 3 ∧ (sendE s' m.val).2 = [⟨k, s.me, m.val⟩]) := fun s' ⟨h1, h2, h3, h4⟩ => by
    obtain ⟨⟨g1, g2, g3, g4⟩, g5⟩ := hE s'
    refine ⟨⟨g1.trans h1, g2.trans h2, g3.trans h3, g4.trans h4⟩, g5.imp id fun h => ⟨2, by omega, by omega, by rw [h, h1]⟩⟩
  have fR : ∀ s', s'.me = s.me ∧ s'.n = s.n ∧ s'.t = s.t ∧ s'.dealer = s.dealer → ((sendR s' m.val).1.me = s.me ∧ (sendR s' m.val).1.n = s.n ∧ (sendR s' m.val).1.t = s.t ∧ (sendR s' m.val).1.dealer = s.dealer) ∧ ((sendR s' m.val).2 = [] ∨ ∃ k : Int, 2 ≤ k ∧ k ≤ 3 ∧ (sendR s' m.val).2 = [⟨k, s.me, m.val⟩]) := fun s' ⟨h1, h2, h3, h4⟩ => by
    obtain ⟨⟨g1, g2, g3, g4⟩, g5⟩ := hR s'
    refine ⟨⟨g1.trans h1, g2.trans h2, g3.trans h3, g4.trans h4⟩, g5.imp id fun h => ⟨3, by omega, by omega, by rw [h, h1]⟩⟩
  unfold takeS
  split
  · split
    · split
      · exact fE _ ⟨rfl, rfl, rfl, rfl⟩
      · exact ⟨⟨rfl, rfl, rfl, rfl⟩, .inl rfl⟩
    · split
      · split
        · exact fR _ ⟨rfl, rfl, rfl, rfl⟩
        · exact ⟨⟨rfl, rfl, rfl, rfl⟩, .inl rfl⟩
      · split
        · split
          · exact fR _ (hs _)
          · split
            · exact fR _ ⟨rfl, rfl, rfl, rfl⟩
            · exact ⟨⟨rfl, rfl, rfl, rfl⟩, .inl rfl⟩
        · exact ⟨⟨rfl, rfl, rfl, rfl⟩, .inl rfl⟩
  · exact ⟨⟨rfl, rfl, rfl, rfl⟩, .inl rfl⟩

theorem trip_pairwise : ∀ (bl : List Trip), (tripBlocks bl).Nodup → bl.Pairwise (fun a b : Trip => ∀ x ∈ [a.1, a.2.1, a.2.2], x ∉ [b.1, b.2.1, b.2.2])
  | [], _ => .nil
  | p :: bl, h => by
    have e : tripBlocks (p :: bl) = [p.1, p.2.1, p.2.2] ++ tripBlocks bl := rfl
    rw [e, List.nodup_append] at h
    refine .cons (fun q hq x hx hx' => ?_) (trip_pairwise bl h.2.1)
    exact h.2.2 x hx x (List.mem_flatMap.2 ⟨q, hq, hx'⟩) rfl

theorem take_law (W : World) (lw sb : Nat) (vn vt vw : Value) (bl : List Trip) (L : LawS) (h : LawAt W lw sb vn vt vw bl L) (i : Nat) (p : Trip) (s : NodeS) (m : Msg) (hp : bl[i]? = some p) (hs : L.nodes[i]? = some s) (ok : GiveOk L s m) :
    Calls Try.prog 22 #[.pointer (some ⟨p.1, 0, none⟩), .agg m.cells.toArray] W fun e W' => ∃ v, e = .returned v ∧ LawAt W' lw sb vn vt vw bl { L with nodes := L.nodes.set i (takeS s m).1 } ∧ MsgsAt W.heap.size W' v (takeS s m).2 ∧ Mod [p.1, p.2.1, p.2.2] W W' := by
  have hn := h.node i p s hp hs
  refine (take_any W p.1 p.2.1 p.2.2 s m hn ok.n0 ok.n1 ok.t0 ok.t1 ok.E ok.R ok.lE ok.lR).mono ?_
  rintro e W' ⟨v, rfl, hn', hms, hmod⟩
  refine ⟨v, rfl, ?_, hms, hmod⟩
  have hne : ∀ {b : Nat} {c : Array Value} {T : TypeId}, W.heap[b]? = some (.cells c T (0, 0)) → T ≠ 66 → b ∉ [p.1, p.2.1, p.2.2] := fun hb hT => by
    simp only [List.mem_cons, List.not_mem_nil, or_false, not_or]
    exact ⟨ne_ty hb hn.cells hT, ne_map hb hn.e, ne_map hb hn.r⟩
  refine ⟨hmod.get h.cells (hne h.cells (by decide)), row_mod h.nodes hmod (fun k hk => ?_), row_mod h.to hmod (fun k hk => ?_), row_mod h.wait hmod (fun k hk => ?_), hmod.get h.sent (hne h.sent (by decide)), h.ts, by simp [h.len], ?_, h.nodup⟩
  · obtain ⟨c, hc⟩ := row_block h.nodes hk; exact hne hc (by decide)
  · obtain ⟨c, hc⟩ := row_block h.to hk; exact hne hc (by decide)
  · obtain ⟨c, hc⟩ := row_block h.wait hk; exact hne hc (by decide)
  · intro j q u hq hu
    dsimp only at hu
    by_cases hj : i = j
    · subst hj
      rw [hp] at hq
      cases hq
      rw [List.getElem?_set_self (by rw [← h.len]; exact (List.getElem?_eq_some_iff.1 hp).1)] at hu
      cases hu
      exact hn'
    · rw [List.getElem?_set_ne hj] at hu
      have hnq := h.node j q u hq hu
      have hnd := h.nodup
      have hdis : ∀ x ∈ [q.1, q.2.1, q.2.2], x ∉ [p.1, p.2.1, p.2.2] := by
        intro x hx hx'
        have hpq := trip_pairwise bl hnd
        rw [List.pairwise_iff_getElem] at hpq
        have hi := List.getElem?_eq_some_iff.1 hp
        have hj' := List.getElem?_eq_some_iff.1 hq
        obtain ⟨hi1, hi2⟩ := hi
        obtain ⟨hj1, hj2⟩ := hj'
        rcases Nat.lt_or_ge i j with h1 | h1
        · have := hpq i j hi1 hj1 h1
          rw [hi2, hj2] at this
          exact this x hx' hx
        · have := hpq j i hj1 hi1 (by omega)
          rw [hi2, hj2] at this
          exact this x hx hx'
      exact hnq.mod hmod (hdis _ (by simp)) (hdis _ (by simp)) (hdis _ (by simp))

theorem all_any (W : World) (lw sb : Nat) (vn vt vw : Value) (bl : List Trip) (L : LawS) (h : LawAt W lw sb vn vt vw bl L) (B : Nat) (v : Value) (out : List Msg) (hms : MsgsAt B W v out) (hB : ∀ k, vw.ownBlock = some k → k < B)
    (ho : out = [] ∨ ∃ (k me : Int) (u : ByteArray), 2 ≤ k ∧ k ≤ 3 ∧ out = [⟨k, me, u⟩] ∧ 1 ≤ me ∧ me ≤ 100 ∧ ∃ x, L.sent[(2 * me + k - 2).toNat]? = some x ∧ x ≤ 100000) (hn : L.n ≤ 100) (hb : L.bad ≤ L.n) (ht : L.to.length ≤ 100000) (hw : L.wait.length ≤ 100000) :
    Calls Try.prog 17 #[.pointer (some ⟨lw, 0, none⟩), v] W (AllPost W lw sb vn vt vw bl (allL L out)) := by
  rcases hms with ⟨rfl, rfl⟩ | ⟨m, b, rfl, rfl, hBb, hmb⟩
  · exact all_none W lw sb vn vt vw bl L h
  · have hv : vw.ownBlock ≠ some b := fun e => by have := hB b e; omega
    rcases ho with h0 | ⟨k, me, u, hk, hk', h0, hme, hme', x, hx, hx'⟩
    · cases h0
    · cases h0
      have := all_one_high W lw sb b vn vt vw bl { L with sent := L.sent.modify (2 * me + k - 2).toNat (· + 1) } ⟨k, me, u⟩ L.sent x h hmb hv (by simp; omega) hk' hme hme' rfl hx hx' hn hb ht hw
      exact this

/-- What a known block gives as source of an append: its first cells. -/
theorem news_take {w : World} {b : Nat} {cs : Array Value} {T : TypeId} {f : Nat × Nat} (h : w.heap[b]? = some (.cells cs T f)) (n : Nat) : ∀ (j : Nat) (u : Value), (cs.toList.take n)[j]? = some u → w.cell? ((⟨b, 0, none⟩ : Addr).add j) = some u := by
  intro j u hu
  rw [List.getElem?_take] at hu
  split at hu
  · exact news_at h j u hu
  · cases hu

theorem waitCells_one (l : List Msg) : ∀ u ∈ waitCells l, u.oneCell' = true := by
  intro u hu
  simp only [waitCells, List.mem_flatMap] at hu
  obtain ⟨m, _, hu⟩ := hu
  simp only [Msg.cells, List.mem_cons, List.not_mem_nil, or_false] at hu
  rcases hu with rfl | rfl | rfl <;> rfl

theorem cut_to {W W4 : World} {lw sb : Nat} {vn vt vw v3 : Value} {bl : List Trip} {L : LawS} {k n : Nat} (h : LawAt W lw sb vn vt vw bl L) (hm : Mod [] W W4) (ho : W4.ownsRow 0 3 1 v3 n ((L.to.take k).map nat ++ (L.to.drop (k + 1)).map nat))
    (hl : ∀ b, v3.ownBlock = some b → W.heap.size ≤ b) : LawAt (W4.setCell ⟨lw, 4, none⟩ v3) lw sb vn v3 vw bl { L with to := L.to.eraseIdx k } := by
  have hlw := lt_of_block h.cells
  have hc4 := hm.get h.cells (by simp)
  have hset : Mod [lw] W4 (W4.setCell ⟨lw, 4, none⟩ v3) := Mod.setCell (Mod.refl _ _) (by simp) _
  have e : (L.to.take k).map nat ++ (L.to.drop (k + 1)).map nat = (L.to.eraseIdx k).map nat := by rw [erase_split, List.map_append]
  have en : n = (L.to.eraseIdx k).length := by have := ho.1; rw [e] at this; simpa using this.symm
  rw [e, en] at ho
  refine h.two (wait' := L.wait) (S := [lw]) ((hm.mono (by simp)).trans hset) (fun k hk => .inl (by simpa using hk)) (get_setCell_self hc4 4 v3) (row_mod ho hset (fun b hb => by have := hl b hb; simp; omega)) ?_ (fun hb => by have := hl sb hb; have := lt_of_block h.sent; omega)
  refine row_mod (row_mod h.wait hm (by simp)) hset (fun b hb => by simpa using h.set.2.2.1 b hb)

theorem cut_wait {W W4 : World} {lw sb : Nat} {vn vt vw v3 : Value} {bl : List Trip} {L : LawS} {k n : Nat} (h : LawAt W lw sb vn vt vw bl L) (hm : Mod [] W W4) (ho : W4.ownsRow 0 36 3 v3 n (waitCells (L.wait.take k) ++ waitCells (L.wait.drop (k + 1))))
    (hl : ∀ b, v3.ownBlock = some b → W.heap.size ≤ b) : LawAt (W4.setCell ⟨lw, 5, none⟩ v3) lw sb vn vt v3 bl { L with wait := L.wait.eraseIdx k } := by
  have hlw := lt_of_block h.cells
  have hc4 := hm.get h.cells (by simp)
  have hset : Mod [lw] W4 (W4.setCell ⟨lw, 5, none⟩ v3) := Mod.setCell (Mod.refl _ _) (by simp) _
  have e : waitCells (L.wait.take k) ++ waitCells (L.wait.drop (k + 1)) = waitCells (L.wait.eraseIdx k) := by rw [erase_split, waitCells_append]
  have en : n = (L.wait.eraseIdx k).length := by have := ho.1; rw [e, waitCells_length] at this; omega
  rw [e, en] at ho
  refine h.two (to' := L.to) (S := [lw]) ((hm.mono (by simp)).trans hset) (fun k hk => .inl (by simpa using hk)) (get_setCell_self hc4 5 v3) ?_ (row_mod ho hset (fun b hb => by have := hl b hb; simp; omega)) h.ts
  refine row_mod (row_mod h.to hm (by simp)) hset (fun b hb => by simpa using h.set.2.1 b hb)

theorem give_out {L L' : LawS} {s : NodeS} {m : Msg} (hL : L'.sent = L.sent) (h : (takeS s m).2 = [] ∨ ∃ k : Int, 2 ≤ k ∧ k ≤ 3 ∧ (takeS s m).2 = [⟨k, s.me, m.val⟩]) (ok : GiveOk L s m) :
    (takeS s m).2 = [] ∨ ∃ (k me : Int) (u : ByteArray), 2 ≤ k ∧ k ≤ 3 ∧ (takeS s m).2 = [⟨k, me, u⟩] ∧ 1 ≤ me ∧ me ≤ 100 ∧ ∃ x, L'.sent[(2 * me + k - 2).toNat]? = some x ∧ x ≤ 100000 := hL ▸
  h.imp id fun ⟨k, h1, h2, h3⟩ => ⟨k, s.me, m.val, h1, h2, h3, ok.me0, ok.me1, ok.sent k h1 h2⟩

set_option maxHeartbeats 2000000 in
theorem hand_some (W : World) (lw sb : Nat) (vn vt vw : Value) (bl : List Trip) (L : LawS) (at_ : Int) (h : LawAt W lw sb vn vt vw bl L) (k to : Nat) (m : Msg) (s : NodeS) (hk : (k : Int) = among at_ L.wait.length) (hw : 0 < L.wait.length) (hlen : L.to.length = L.wait.length) (hl : L.wait.length ≤ 10000)
    (hto : L.to[k]? = some to) (hm : L.wait[k]? = some m) (hs : L.nodes[to - 1]? = some s) (ht1 : 1 ≤ to) (ok : GiveOk (cutS L k) s m) :
    Calls Try.prog 26 #[.pointer (some ⟨lw, 0, none⟩), .int .i64 at_] W (HandPost W lw sb vn vt vw bl (handS L k)) := by
  obtain ⟨i3, hi3, hz3, hs3, hy3⟩ := info_parts infoInt
  obtain ⟨im, him, hzm, hsm, hym⟩ := info_parts infoMsg
  have hklt : k < L.wait.length := (List.getElem?_eq_some_iff.1 hm).1
  obtain ⟨gt, ct, cht, rfl, hgt, hnt, hmt, hct, htt⟩ := row_form h.to (by rintro rfl; rcases h.to.2 with ⟨_, h0⟩ | ⟨g, cap, cur, h0, _⟩; omega; cases h0)
  obtain ⟨gw, cw, chw, rfl, hgw, hnw, hmw, hcw, htw⟩ := row_form h.wait (by rintro rfl; rcases h.wait.2 with ⟨_, h0⟩ | ⟨g, cap, cur, h0, _⟩; omega; cases h0)
  have l3 : W.cell? ⟨lw, 3, none⟩ = some vn := by rw [cell_at h.cells]; rfl
  have l4 : W.cell? ⟨lw, 4, none⟩ = some (.slice (some ⟨gt, 0, none⟩) L.to.length ct) := by rw [cell_at h.cells]; rfl
  have l5 : W.cell? ⟨lw, 5, none⟩ = some (.slice (some ⟨gw, 0, none⟩) L.wait.length cw) := by rw [cell_at h.cells]; rfl
  have hne : (((L.wait.length : Nat) : Int) == 0) = false := by rw [beq_eq_false_iff_ne]; omega
  have hk1 : (k : Int) < (L.wait.length : Int) := by omega
  have hk2 : (k : Int) < (L.to.length : Int) := by omega
  have hkl : k < L.to.length := by omega
  have hlt : L.to.length ≤ 10000 := by omega
  have hlt0 : 0 < L.to.length := by omega
  have HK := hid hk
  have HLN := hid hlen
  have HL := hid h
  clear hk hlen
  go_enter Try.func26, Try.ntmps26
  go_wp2_with (first | (go_at_call 10; refine (among_any _ _ _ (by omega) (by omega)).mono ?_; rintro e w' ⟨rfl, rfl⟩; rw [← HK.out]))
  have hkt : (cht.toList)[k]? = some (nat to) := by
    have e : (L.to.map nat)[k]? = some (nat to) := by simp [hto]
    rw [← htt, List.getElem?_take] at e
    split at e
    · exact e
    · cases e
  have ck : W.cell? ⟨gt, k, none⟩ = some (nat to) := by rw [cell_at hgt]; simpa using hkt
  have hkw : ∀ j u, m.cells[j]? = some u → W.cell? ⟨gw, k * 3 + j, none⟩ = some u := by
    intro j u hu
    rw [cell_at hgw]
    have hj : j < 3 := by have := (List.getElem?_eq_some_iff.1 hu).1; simpa [Msg.cells] using this
    have e1 : (waitCells (L.wait.drop k))[j]? = some u := by
      rw [List.drop_eq_getElem_cons hklt, waitCells, List.flatMap_cons, List.getElem?_append_left (by simpa [Msg.cells] using hj)]
      rw [(List.getElem?_eq_some_iff.1 hm).2]; exact hu
    rw [← waitCells_drop, ← htw, List.getElem?_drop, List.getElem?_take] at e1
    split at e1
    · simpa using e1
    · cases e1
  have w0 : W.cell? ⟨gw, k * 3, none⟩ = some (.int .i64 m.kind) := hkw 0 _ rfl
  have w1 : W.cell? ⟨gw, k * 3 + 1, none⟩ = some (.int .i64 m.from_) := hkw 1 _ rfl
  have w2 : W.cell? ⟨gw, k * 3 + 2, none⟩ = some (.string m.val) := hkw 2 _ rfl
  have hk0 : (0 : Int) ≤ (k : Int) := Int.natCast_nonneg _
  go_region_held3 (fun w' => w'.cell? ⟨lw, 4, none⟩ = some (.slice (some ⟨gt, 0, none⟩) L.to.length ct) ∧ w'.cell? ⟨lw, 5, none⟩ = some (.slice (some ⟨gw, 0, none⟩) L.wait.length cw) ∧ w'.cell? ⟨gt, k, none⟩ = some (nat to) ∧
      w'.cell? ⟨gw, k * 3, none⟩ = some (.int .i64 m.kind) ∧ w'.cell? ⟨gw, k * 3 + 1, none⟩ = some (.int .i64 m.from_) ∧ w'.cell? ⟨gw, k * 3 + 2, none⟩ = some (.string m.val)) (go_keep) (fail)
  go_wp2_with fail
  refine wp_abs (fun W' => Mod [] W W' ∧ W'.heap[W.heap.size]? = some (.cells m.cells.toArray 36 (0, 0))) ⟨(by repeat' (first | exact Mod.refl _ _ | assumption | refine Mod.drewN ?_ _ | refine Mod.drew ?_ | refine Mod.alloc ?_ _ | refine Mod.setCell ?_ (by simp) _ | refine Mod.setBlock ?_ (by simp) _)), get_new W _⟩ ?_
  clear l3 l4 l5 ck w0 w1 w2 hkt hkw hne h
  rintro W1 ⟨hM1, hB1⟩
  have l4 : W1.cell? ⟨lw, 4, none⟩ = some (.slice (some ⟨gt, 0, none⟩) L.to.length ct) := by rw [cell_at (hM1.get HL.out.cells (by simp))]; rfl
  obtain ⟨ad, c', hsl, hcl⟩ := slice_from (P := Try.prog) Try.underlying30 hi3 gt L.to.length ct (k + 1) (by omega) hnt cht (by rw [hct, hs3])
  have hsl0 := fun w => slice_to (P := Try.prog) Try.underlying30 hi3 gt L.to.length ct k (by omega) w
  have ek : ((k + 1 : Nat) : Int) = (k : Int) + 1 := by omega
  rw [ek] at hsl
  have e1 : IntKind.i64.wrap ((k : Int) + 1) = (k : Int) + 1 := IntWalk.i64_in _ (by omega)
  refine wp_region_N (fun w' => w'.cell? ⟨lw, 4, none⟩ = some (.slice (some ⟨gt, 0, none⟩) L.to.length ct)) (fun j => !(j == 19)) (by kernel_rfl) ?_
  have hS : (fun w' : World => w'.cell? ⟨lw, 4, none⟩ = some (.slice (some ⟨gt, 0, none⟩) L.to.length ct)) W1.drew := l4
  clear ek
  refine regA 0 34 (v := ?_) rfl rfl (by kernel_rfl) (by kernel_rfl) (by kernel_rfl) (fun _ _ _ h => h) (by rfl) (fun w => ?_) ?_; rotate_left; (go_simp; first | done | with_reducible rfl); (try simp only [Act.put, List.setIfInBounds_toArray, List.set_cons_zero, List.set_cons_succ])
  refine regA 2 36 (v := ?_) rfl rfl (by kernel_rfl) (by kernel_rfl) (by kernel_rfl) (fun _ _ _ h => h) (by rfl) (fun w => ?_) ?_; rotate_left; (go_simp; first | done | with_reducible rfl); (try simp only [Act.put, List.setIfInBounds_toArray, List.set_cons_zero, List.set_cons_succ])
  refine regA 3 37 (v := ?_) rfl rfl (by kernel_rfl) (by kernel_rfl) (by kernel_rfl) (fun _ _ _ h => h) (by rfl) (fun w => ?_) ?_; rotate_left; (go_simp; first | done | with_reducible rfl); (try simp only [Act.put, List.setIfInBounds_toArray, List.set_cons_zero, List.set_cons_succ])
  refine regA 4 38 (v := ?_) rfl rfl (by kernel_rfl) (by kernel_rfl) (by kernel_rfl) (fun _ _ _ h => h) (by rfl) (fun w => ?_) ?_; rotate_left; (go_simp; first | done | with_reducible rfl); (try simp only [Act.put, List.setIfInBounds_toArray, List.set_cons_zero, List.set_cons_succ])
  refine regS 5 39 (v := ?_) hS rfl rfl (by kernel_rfl) (by kernel_rfl) (by kernel_rfl) (by kernel_rfl) (fun _ _ _ h => h) (by rfl) (fun w hSw => ?_) ?_; rotate_left; (go_simp; first | done | with_reducible rfl); (try simp only [Act.put, List.setIfInBounds_toArray, List.set_cons_zero, List.set_cons_succ])
  refine regA 6 40 (v := ?_) rfl rfl (by kernel_rfl) (by kernel_rfl) (by kernel_rfl) (fun _ _ _ h => h) (by rfl) (fun w => ?_) ?_; rotate_left; (go_simp; first | done | with_reducible rfl); (try simp only [Act.put, List.setIfInBounds_toArray, List.set_cons_zero, List.set_cons_succ])
  refine regA 7 41 (v := ?_) rfl rfl (by kernel_rfl) (by kernel_rfl) (by kernel_rfl) (fun _ _ _ h => h) (by rfl) (fun w => ?_) ?_; rotate_left; (go_simp; first | done | with_reducible rfl); (try simp only [Act.put, List.setIfInBounds_toArray, List.set_cons_zero, List.set_cons_succ])
  refine regA 9 43 (v := ?_) rfl rfl (by kernel_rfl) (by kernel_rfl) (by kernel_rfl) (fun _ _ _ h => h) (by rfl) (fun w => ?_) ?_; rotate_left; (go_simp; first | done | with_reducible rfl); (try simp only [Act.put, List.setIfInBounds_toArray, List.set_cons_zero, List.set_cons_succ])
  refine regA 10 44 (v := ?_) rfl rfl (by kernel_rfl) (by kernel_rfl) (by kernel_rfl) (fun _ _ _ h => h) (by rfl) (fun w => ?_) ?_; rotate_left; (go_simp; first | done | with_reducible rfl); (try simp only [Act.put, List.setIfInBounds_toArray, List.set_cons_zero, List.set_cons_succ])
  refine regA 11 45 (v := ?_) rfl rfl (by kernel_rfl) (by kernel_rfl) (by kernel_rfl) (fun _ _ _ h => h) (by rfl) (fun w => ?_) ?_; rotate_left; (go_simp; first | done | with_reducible rfl); (try simp only [Act.put, List.setIfInBounds_toArray, List.set_cons_zero, List.set_cons_succ])
  refine regS 12 46 (v := ?_) hS rfl rfl (by kernel_rfl) (by kernel_rfl) (by kernel_rfl) (by kernel_rfl) (fun _ _ _ h => h) (by rfl) (fun w hSw => ?_) ?_; rotate_left; (go_simp; first | done | with_reducible rfl); (try simp only [Act.put, List.setIfInBounds_toArray, List.set_cons_zero, List.set_cons_succ])
  refine regA 13 47 (v := ?_) rfl rfl (by kernel_rfl) (by kernel_rfl) (by kernel_rfl) (fun _ _ _ h => h) (by rfl) (fun w => ?_) ?_; rotate_left; (go_simp; first | done | with_reducible rfl); (try simp only [Act.put, List.setIfInBounds_toArray, List.set_cons_zero, List.set_cons_succ])
  refine regA 14 48 (v := ?_) rfl rfl (by kernel_rfl) (by kernel_rfl) (by kernel_rfl) (fun _ _ _ h => h) (by rfl) (fun w => ?_) ?_; rotate_left; (go_simp; first | done | with_reducible rfl); (try simp only [Act.put, List.setIfInBounds_toArray, List.set_cons_zero, List.set_cons_succ])
  refine regA 15 49 (v := ?_) rfl rfl (by kernel_rfl) (by kernel_rfl) (by kernel_rfl) (fun _ _ _ h => h) (by rfl) (fun w => ?_) ?_; rotate_left; (go_simp; first | done | with_reducible rfl); (try simp only [Act.put, List.setIfInBounds_toArray, List.set_cons_zero, List.set_cons_succ])
  have HCL := hid hcl
  clear hsl hsl0 hcl e1
  have HD := hid (trivial : True)
  refine regOnly 1 (by kernel_rfl) rfl rfl (fun K hK => ?_)
  go_simp
  refine hK.out _ _ (fun _ _ => by first | exact l4 | exact Mod.cell (Mod.alloc (Mod.refl [] W1) _) l4 (by simp)) ?_
  clear hK
  (try simp only [Act.put, List.setIfInBounds_toArray, List.set_cons_zero, List.set_cons_succ])
  refine regAbs (fun W' => Mod [] W1 W' ∧ W'.ownsRow 0 3 1 (.slice (some ⟨W1.heap.size, 0, none⟩) 0 0) 0 []) ⟨(by repeat' (first | exact Mod.refl _ _ | assumption | refine Mod.drewN ?_ _ | refine Mod.drew ?_ | refine Mod.alloc ?_ _ | refine Mod.setCell ?_ (by simp) _ | refine Mod.setBlock ?_ (by simp) _)), World.ownsRow_made W1.drew #[] 0 (Nat.zero_le _) (Nat.zero_le _) rfl⟩ ?_
  rintro W2 ⟨hM2, ho2⟩
  have hgt2 := hM2.get (hM1.get hgt (by simp)) (by simp)
  refine regOnly 8 (by kernel_rfl) rfl rfl (fun K hK => ?_)
  refine wp_app 42 _ _ 30 rfl rfl 3 i3 _ 1 8 Try.underlying30 hi3 hz3 hs3 hy3 rfl (by omega) (.slice (some ⟨W1.heap.size, 0, none⟩) 0 0) _ _ rfl ho2 ⟨gt, 0, none⟩ k ct ((L.to.take k).map nat) rfl (by simp; omega)
    (by rw [List.map_take, ← htt, List.take_take]; exact news_take hgt2 _) (by intro u hu; obtain ⟨x, _, rfl⟩ := List.mem_map.1 hu; rfl) (by unfold maxLen; omega) (by omega) ?_
  intro v2 W3 ho3 hq3 hl3 hz3'
  have hlwlt : lw < W1.heap.size := Nat.lt_of_lt_of_le (lt_of_block HL.out.cells) hM1.size
  have hq3' : Mod [W1.heap.size] W2 W3 := hq3
  have hM3 : Mod [] W1 W3 := (hM2.trans' hq3' (fun x hx => .inr (by simp at hx; omega)))
  refine hK.out _ _ (fun _ h => hq3'.cell h (by simp; omega)) ?_
  clear hK
  (try simp only [Act.put, List.setIfInBounds_toArray, List.set_cons_zero, List.set_cons_succ])
  have hgt3 := hM3.get (hM1.get hgt (by simp)) (by simp)
  have hl3' : ∀ b, v2.ownBlock = some b → W1.heap.size ≤ b := fun b hb => by rcases hl3 b hb with h1 | h1; (simp [Value.ownBlock] at h1; omega); (have := hM2.size; omega)
  refine regOnly 16 (by kernel_rfl) rfl rfl (fun K hK => ?_)
  refine wp_app 50 _ _ 30 rfl rfl 3 i3 _ 1 8 Try.underlying30 hi3 hz3 hs3 hy3 rfl (by omega) v2 _ _ rfl ho3 ad (L.to.length - (k + 1)) c' ((L.to.drop (k + 1)).map nat) rfl (by simp)
    (by rw [List.map_drop, ← htt]; have := HCL.out W3 hgt3; rw [hs3] at this; simpa using this) (by intro u hu; obtain ⟨x, _, rfl⟩ := List.mem_map.1 hu; rfl) (by unfold maxLen; omega) (by omega) ?_
  intro v3 W4 ho4 hq4 hl4 hz4'
  have hM4 : Mod [] W1 W4 := hM3.trans' hq4 (fun x hx => .inr (hl3' x (by simpa using hx)))
  have hlw4 : lw ∉ v2.ownBlock.toList := own_not fun b hb => by have := hl3' b hb; omega
  refine hK.out _ _ (fun _ h => hq4.cell h hlw4) ?_
  clear hK
  (try simp only [Act.put, List.setIfInBounds_toArray, List.set_cons_zero, List.set_cons_succ])
  have hl4' : ∀ b, v3.ownBlock = some b → W1.heap.size ≤ b := fun b hb => by rcases hl4 b hb with h1 | h1; exact hl3' b h1; (have := hM3.size; omega)
  obtain ⟨g3, cap3, cur3, rfl, _⟩ := row_form ho4 (hz4' (hz3' (by simp)))
  have x4 : W4.cell? ⟨lw, 4, none⟩ = some (.slice (some ⟨gt, 0, none⟩) L.to.length ct) := hM4.cell l4 (by simp)
  have xf : ∀ i, W4.frozen? ⟨lw, i, none⟩ = false := free_at (hM4.get (hM1.get HL.out.cells (by simp)) (by simp))
  refine regA 17 51 (v := ?_) rfl rfl (by kernel_rfl) (by kernel_rfl) (by kernel_rfl) (fun _ _ _ h => h) (by rfl) (fun w => ?_) ?_; rotate_left; (go_simp; first | done | with_reducible rfl); (try simp only [Act.put, List.setIfInBounds_toArray, List.set_cons_zero, List.set_cons_succ])
  refine regA 18 52 (v := ?_) rfl rfl (by kernel_rfl) (by kernel_rfl) (by kernel_rfl) (fun _ _ _ h => h) (by rfl) (fun w => ?_) ?_; rotate_left; (go_simp; first | done | with_reducible rfl); (try simp only [Act.put, List.setIfInBounds_toArray, List.set_cons_zero, List.set_cons_succ])
  refine regOnly 19 (by kernel_rfl) rfl rfl (fun K hK => ?_)
  go_simp
  refine hK.out _ _ (fun h => by simp at h) ?_
  clear hK
  (try simp only [Act.put, List.setIfInBounds_toArray, List.set_cons_zero, List.set_cons_succ])
  refine regDone (by kernel_rfl) ?_ _
  go_wp2_with fail
  refine wp_abs (fun W' => (∃ vt3, LawAt W' lw sb vn vt3 (.slice (some ⟨gw, 0, none⟩) L.wait.length cw) bl { L with to := L.to.eraseIdx k } ∧ ∀ b, vt3.ownBlock = some b → W.heap.size ≤ b) ∧ Mod [lw] W W' ∧ W'.heap[W.heap.size]? = some (.cells m.cells.toArray 36 (0, 0))) ⟨⟨_, cut_to (HL.out.mod0 hM1) hM4 (by simpa using ho4) hl4', fun b hb => Nat.le_trans hM1.size (hl4' b hb)⟩, ?_, ?_⟩ ?_
  · exact Mod.setCell ((hM1.trans hM4).mono (by simp)) (by simp) _
  · have := lt_of_block HL.out.cells
    exact get_setCell (hM4.get hB1 (by simp)) (by simp; omega) _
  clear l4 hS HCL hM2 ho2 hgt2 ho3 hq3 hl3 hz3' hlwlt hq3' hM3 hgt3 hl3' hq4 hM4 hlw4 ho4 hl4 hz4' hl4' x4 xf hM1 hB1 HD
  rintro W5 ⟨⟨vt3, hL5, hvt3⟩, hM5, hB5⟩
  have hgw5 := hM5.get hgw (by have := HL.out.set.2.2.1 gw rfl; simpa using this)
  have HL5 := hid hL5
  have HVT3 := hid hvt3
  have hz5 := hM5.size
  clear hL5 hvt3
  have l5 : W5.cell? ⟨lw, 5, none⟩ = some (.slice (some ⟨gw, 0, none⟩) L.wait.length cw) := by rw [cell_at HL5.out.cells]; rfl
  obtain ⟨ad, c', hsl, hcl⟩ := slice_from (P := Try.prog) Try.underlying31 him gw L.wait.length cw (k + 1) (by omega) hnw chw (by rw [hcw, hsm])
  have hsl0 := fun w => slice_to (P := Try.prog) Try.underlying31 him gw L.wait.length cw k (by omega) w
  have ek : ((k + 1 : Nat) : Int) = (k : Int) + 1 := by omega
  rw [ek] at hsl
  have e1 : IntKind.i64.wrap ((k : Int) + 1) = (k : Int) + 1 := IntWalk.i64_in _ (by omega)
  refine wp_region_N (fun w' => w'.cell? ⟨lw, 5, none⟩ = some (.slice (some ⟨gw, 0, none⟩) L.wait.length cw)) (fun j => !(j == 19)) (by kernel_rfl) ?_
  have hS : (fun w' : World => w'.cell? ⟨lw, 5, none⟩ = some (.slice (some ⟨gw, 0, none⟩) L.wait.length cw)) W5.drew := l5
  clear ek
  refine regA 0 53 (v := ?_) rfl rfl (by kernel_rfl) (by kernel_rfl) (by kernel_rfl) (fun _ _ _ h => h) (by rfl) (fun w => ?_) ?_; rotate_left; (go_simp; first | done | with_reducible rfl); (try simp only [Act.put, List.setIfInBounds_toArray, List.set_cons_zero, List.set_cons_succ])
  refine regA 2 55 (v := ?_) rfl rfl (by kernel_rfl) (by kernel_rfl) (by kernel_rfl) (fun _ _ _ h => h) (by rfl) (fun w => ?_) ?_; rotate_left; (go_simp; first | done | with_reducible rfl); (try simp only [Act.put, List.setIfInBounds_toArray, List.set_cons_zero, List.set_cons_succ])
  refine regA 3 56 (v := ?_) rfl rfl (by kernel_rfl) (by kernel_rfl) (by kernel_rfl) (fun _ _ _ h => h) (by rfl) (fun w => ?_) ?_; rotate_left; (go_simp; first | done | with_reducible rfl); (try simp only [Act.put, List.setIfInBounds_toArray, List.set_cons_zero, List.set_cons_succ])
  refine regA 4 57 (v := ?_) rfl rfl (by kernel_rfl) (by kernel_rfl) (by kernel_rfl) (fun _ _ _ h => h) (by rfl) (fun w => ?_) ?_; rotate_left; (go_simp; first | done | with_reducible rfl); (try simp only [Act.put, List.setIfInBounds_toArray, List.set_cons_zero, List.set_cons_succ])
  refine regS 5 58 (v := ?_) hS rfl rfl (by kernel_rfl) (by kernel_rfl) (by kernel_rfl) (by kernel_rfl) (fun _ _ _ h => h) (by rfl) (fun w hSw => ?_) ?_; rotate_left; (go_simp; first | done | with_reducible rfl); (try simp only [Act.put, List.setIfInBounds_toArray, List.set_cons_zero, List.set_cons_succ])
  refine regA 6 59 (v := ?_) rfl rfl (by kernel_rfl) (by kernel_rfl) (by kernel_rfl) (fun _ _ _ h => h) (by rfl) (fun w => ?_) ?_; rotate_left; (go_simp; first | done | with_reducible rfl); (try simp only [Act.put, List.setIfInBounds_toArray, List.set_cons_zero, List.set_cons_succ])
  refine regA 7 60 (v := ?_) rfl rfl (by kernel_rfl) (by kernel_rfl) (by kernel_rfl) (fun _ _ _ h => h) (by rfl) (fun w => ?_) ?_; rotate_left; (go_simp; first | done | with_reducible rfl); (try simp only [Act.put, List.setIfInBounds_toArray, List.set_cons_zero, List.set_cons_succ])
  refine regA 9 62 (v := ?_) rfl rfl (by kernel_rfl) (by kernel_rfl) (by kernel_rfl) (fun _ _ _ h => h) (by rfl) (fun w => ?_) ?_; rotate_left; (go_simp; first | done | with_reducible rfl); (try simp only [Act.put, List.setIfInBounds_toArray, List.set_cons_zero, List.set_cons_succ])
  refine regA 10 63 (v := ?_) rfl rfl (by kernel_rfl) (by kernel_rfl) (by kernel_rfl) (fun _ _ _ h => h) (by rfl) (fun w => ?_) ?_; rotate_left; (go_simp; first | done | with_reducible rfl); (try simp only [Act.put, List.setIfInBounds_toArray, List.set_cons_zero, List.set_cons_succ])
  refine regA 11 64 (v := ?_) rfl rfl (by kernel_rfl) (by kernel_rfl) (by kernel_rfl) (fun _ _ _ h => h) (by rfl) (fun w => ?_) ?_; rotate_left; (go_simp; first | done | with_reducible rfl); (try simp only [Act.put, List.setIfInBounds_toArray, List.set_cons_zero, List.set_cons_succ])
  refine regS 12 65 (v := ?_) hS rfl rfl (by kernel_rfl) (by kernel_rfl) (by kernel_rfl) (by kernel_rfl) (fun _ _ _ h => h) (by rfl) (fun w hSw => ?_) ?_; rotate_left; (go_simp; first | done | with_reducible rfl); (try simp only [Act.put, List.setIfInBounds_toArray, List.set_cons_zero, List.set_cons_succ])
  refine regA 13 66 (v := ?_) rfl rfl (by kernel_rfl) (by kernel_rfl) (by kernel_rfl) (fun _ _ _ h => h) (by rfl) (fun w => ?_) ?_; rotate_left; (go_simp; first | done | with_reducible rfl); (try simp only [Act.put, List.setIfInBounds_toArray, List.set_cons_zero, List.set_cons_succ])
  refine regA 14 67 (v := ?_) rfl rfl (by kernel_rfl) (by kernel_rfl) (by kernel_rfl) (fun _ _ _ h => h) (by rfl) (fun w => ?_) ?_; rotate_left; (go_simp; first | done | with_reducible rfl); (try simp only [Act.put, List.setIfInBounds_toArray, List.set_cons_zero, List.set_cons_succ])
  refine regA 15 68 (v := ?_) rfl rfl (by kernel_rfl) (by kernel_rfl) (by kernel_rfl) (fun _ _ _ h => h) (by rfl) (fun w => ?_) ?_; rotate_left; (go_simp; first | done | with_reducible rfl); (try simp only [Act.put, List.setIfInBounds_toArray, List.set_cons_zero, List.set_cons_succ])
  have HCL := hid hcl
  clear hsl hsl0 hcl e1
  have HD := hid (trivial : True)
  refine regOnly 1 (by kernel_rfl) rfl rfl (fun K hK => ?_)
  go_simp
  refine hK.out _ _ (fun _ _ => by first | exact l5 | exact Mod.cell (Mod.alloc (Mod.refl [] W5) _) l5 (by simp)) ?_
  clear hK
  (try simp only [Act.put, List.setIfInBounds_toArray, List.set_cons_zero, List.set_cons_succ])
  refine regAbs (fun W' => Mod [] W5 W' ∧ W'.ownsRow 0 36 3 (.slice (some ⟨W5.heap.size, 0, none⟩) 0 0) 0 []) ⟨(by repeat' (first | exact Mod.refl _ _ | assumption | refine Mod.drewN ?_ _ | refine Mod.drew ?_ | refine Mod.alloc ?_ _ | refine Mod.setCell ?_ (by simp) _ | refine Mod.setBlock ?_ (by simp) _)), World.ownsRow_made W5.drew #[] 0 (Nat.zero_le _) (Nat.zero_le _) rfl⟩ ?_
  rintro W2 ⟨hM2, ho2⟩
  have hgt2 := hM2.get hgw5 (by simp)
  refine regOnly 8 (by kernel_rfl) rfl rfl (fun K hK => ?_)
  refine wp_app 61 _ _ 31 rfl rfl 36 im _ 3 32 Try.underlying31 him hzm hsm hym rfl (by omega) (.slice (some ⟨W5.heap.size, 0, none⟩) 0 0) _ _ rfl ho2 ⟨gw, 0, none⟩ k cw (waitCells (L.wait.take k)) rfl (by rw [waitCells_length, List.length_take]; congr 1; omega)
    (by rw [← waitCells_take, ← htw, List.take_take]; exact news_take hgt2 _) (waitCells_one _) (by unfold maxLen; omega) (by omega) ?_
  intro v2 W3 ho3 hq3 hl3 hz3'
  have hlwlt : lw < W5.heap.size := lt_of_block HL5.out.cells
  have hq3' : Mod [W5.heap.size] W2 W3 := hq3
  have hM3 : Mod [] W5 W3 := (hM2.trans' hq3' (fun x hx => .inr (by simp at hx; omega)))
  refine hK.out _ _ (fun _ h => hq3'.cell h (by simp; omega)) ?_
  clear hK
  (try simp only [Act.put, List.setIfInBounds_toArray, List.set_cons_zero, List.set_cons_succ])
  have hgt3 := hM3.get hgw5 (by simp)
  have hl3' : ∀ b, v2.ownBlock = some b → W5.heap.size ≤ b := fun b hb => by rcases hl3 b hb with h1 | h1; (simp [Value.ownBlock] at h1; omega); (have := hM2.size; omega)
  refine regOnly 16 (by kernel_rfl) rfl rfl (fun K hK => ?_)
  refine wp_app 69 _ _ 31 rfl rfl 36 im _ 3 32 Try.underlying31 him hzm hsm hym rfl (by omega) v2 _ _ rfl ho3 ad (L.wait.length - (k + 1)) c' (waitCells (L.wait.drop (k + 1))) rfl (by rw [waitCells_length, List.length_drop])
    (by rw [← waitCells_drop, ← htw]; have := HCL.out W3 hgt3; rw [hsm] at this; exact this) (waitCells_one _) (by unfold maxLen; omega) (by omega) ?_
  intro v3 W4 ho4 hq4 hl5 hz4'
  have hM4 : Mod [] W5 W4 := hM3.trans' hq4 (fun x hx => .inr (hl3' x (by simpa using hx)))
  have hlw4 : lw ∉ v2.ownBlock.toList := own_not fun b hb => by have := hl3' b hb; omega
  refine hK.out _ _ (fun _ h => hq4.cell h hlw4) ?_
  clear hK
  (try simp only [Act.put, List.setIfInBounds_toArray, List.set_cons_zero, List.set_cons_succ])
  have hl4' : ∀ b, v3.ownBlock = some b → W5.heap.size ≤ b := fun b hb => by rcases hl5 b hb with h1 | h1; exact hl3' b h1; (have := hM3.size; omega)
  obtain ⟨g3, cap3, cur3, rfl, _⟩ := row_form ho4 (hz4' (hz3' (by simp)))
  have x4 : W4.cell? ⟨lw, 5, none⟩ = some (.slice (some ⟨gw, 0, none⟩) L.wait.length cw) := hM4.cell l5 (by simp)
  have xf : ∀ i, W4.frozen? ⟨lw, i, none⟩ = false := free_at (hM4.get HL5.out.cells (by simp))
  refine regA 17 70 (v := ?_) rfl rfl (by kernel_rfl) (by kernel_rfl) (by kernel_rfl) (fun _ _ _ h => h) (by rfl) (fun w => ?_) ?_; rotate_left; (go_simp; first | done | with_reducible rfl); (try simp only [Act.put, List.setIfInBounds_toArray, List.set_cons_zero, List.set_cons_succ])
  refine regA 18 71 (v := ?_) rfl rfl (by kernel_rfl) (by kernel_rfl) (by kernel_rfl) (fun _ _ _ h => h) (by rfl) (fun w => ?_) ?_; rotate_left; (go_simp; first | done | with_reducible rfl); (try simp only [Act.put, List.setIfInBounds_toArray, List.set_cons_zero, List.set_cons_succ])
  refine regOnly 19 (by kernel_rfl) rfl rfl (fun K hK => ?_)
  go_simp
  refine hK.out _ _ (fun h => by simp at h) ?_
  clear hK
  (try simp only [Act.put, List.setIfInBounds_toArray, List.set_cons_zero, List.set_cons_succ])
  refine regDone (by kernel_rfl) ?_ _
  go_wp2_with fail
  refine wp_abs (fun W' => (∃ vw3, LawAt W' lw sb vn vt3 vw3 bl (cutS L k) ∧ (∀ b, vw3.ownBlock = some b → W5.heap.size ≤ b)) ∧ Mod [lw] W5 W' ∧ W'.heap[W.heap.size]? = some (.cells m.cells.toArray 36 (0, 0))) ⟨⟨_, cut_wait (HL5.out) hM4 (by simpa using ho4) hl4', hl4'⟩, ?_, ?_⟩ ?_
  · exact Mod.setCell (hM4.mono (by simp)) (by simp) _
  · have := lt_of_block HL.out.cells
    exact get_setCell (hM4.get hB5 (by simp)) (by simp; omega) _
  clear l5 hS HCL hM2 ho2 hgt2 ho3 hq3 hl3 hz3' hlwlt hq3' hM3 hgt3 hl3' hq4 hM4 hlw4 ho4 hl5 hz4' hl4' x4 xf HD
  rintro W6 ⟨⟨vw3, hL6, hvw3⟩, hM6, hB6⟩
  have hmod6 : Mod [lw] W W6 := hM5.trans hM6
  have HOK := hid ok
  obtain ⟨i, rfl⟩ : ∃ i, to = i + 1 := ⟨to - 1, by omega⟩
  rw [show i + 1 - 1 = i from rfl] at hs
  have hil : i < L.nodes.length := (List.getElem?_eq_some_iff.1 hs).1
  have hib : i < bl.length := by rw [hL6.len]; exact hil
  obtain ⟨nb, nc, ncur, rfl, hnb, hnn, _, hncs, hnt6⟩ := row_form hL6.nodes (by rintro rfl; rcases hL6.nodes.2 with ⟨_, h0⟩ | ⟨g, cap, cur, h0, _⟩; omega; cases h0)
  have hp : bl[i]? = some bl[i] := List.getElem?_eq_getElem hib
  have l3 : W6.cell? ⟨lw, 3, none⟩ = some (.slice (some ⟨nb, 0, none⟩) bl.length nc) := by rw [cell_at hL6.cells]; rfl
  have n1 : W6.cell? ⟨nb, i, none⟩ = some (.pointer (some ⟨bl[i].1, 0, none⟩)) := by
    rw [cell_at hnb]
    have e : (bl.map fun p : Trip => Value.pointer (some ⟨p.1, 0, none⟩))[i]? = some (.pointer (some ⟨bl[i].1, 0, none⟩)) := by simp [hib]
    rw [← hnt6, List.getElem?_take] at e
    split at e
    · simpa using e
    · cases e
  have b0 : W6.cell? ⟨W.heap.size, 0, none⟩ = some (.int .i64 m.kind) := by rw [cell_at hB6]; rfl
  have b1 : W6.cell? ⟨W.heap.size, 1, none⟩ = some (.int .i64 m.from_) := by rw [cell_at hB6]; rfl
  have b2 : W6.cell? ⟨W.heap.size, 2, none⟩ = some (.string m.val) := by rw [cell_at hB6]; rfl
  have q1 : IntKind.i64.wrap ((i : Int) + 1 - 1) = (i : Int) := by rw [show (i : Int) + 1 - 1 = i from by omega]; exact IntWalk.i64_in _ (by have := HOK.out.nn; simp only [cutS] at this; omega)
  have q2 : IntKind.i64.wrap (((i + 1 : Nat) : Int) - 1) = (i : Int) := by rw [show ((i + 1 : Nat) : Int) - 1 = (i : Int) + 1 - 1 from by omega]; exact q1
  have q3 : IntKind.i64.wrap (i : Int) = (i : Int) := by rw [show (i : Int) + 1 - 1 = i from by omega] at q1; exact q1
  have hi0 : (0 : Int) ≤ (i : Int) := Int.natCast_nonneg _
  have hi1 : (i : Int) < (bl.length : Int) := by omega
  have hNi := hL6.node i bl[i] s hp hs
  have hNo := HL.out.node i bl[i] s hp hs
  have hx1 : lw ∉ [bl[i].1, bl[i].2.1, bl[i].2.2] := by simp only [List.mem_cons, List.not_mem_nil, or_false, not_or]; exact ⟨ne_ty hL6.cells hNi.cells (by decide), ne_map hL6.cells hNi.e, ne_map hL6.cells hNi.r⟩
  have hx2 : nb ∉ [bl[i].1, bl[i].2.1, bl[i].2.2] := by simp only [List.mem_cons, List.not_mem_nil, or_false, not_or]; exact ⟨ne_ty hnb hNi.cells (by decide), ne_map hnb hNi.e, ne_map hnb hNi.r⟩
  have hx3 : W.heap.size ∉ [bl[i].1, bl[i].2.1, bl[i].2.2] := by
    have z1 := lt_of_block hNo.cells
    have z2 := lt_of_block hNo.e
    have z3 := lt_of_block hNo.r
    simp only [List.mem_cons, List.not_mem_nil, or_false, not_or]; omega
  have hy1 : ∀ b, b ∈ vt3.ownBlock.toList ++ vw3.ownBlock.toList → b ≠ W.heap.size := by
    intro b hb
    simp only [List.mem_append, Option.mem_toList] at hb
    rcases hb with hb | hb
    · obtain ⟨c, hc⟩ := row_block hL6.to hb; exact ne_ty hc hB6 (by decide)
    · have := hvw3 b hb; have := lt_of_block hB5; omega
  have hy2 : nb ∉ vt3.ownBlock.toList ++ vw3.ownBlock.toList := by
    intro hb
    simp only [List.mem_append, Option.mem_toList] at hb
    rcases hb with hb | hb
    · obtain ⟨c, hc⟩ := row_block hL6.to hb; exact ne_ty hc hnb (by decide) rfl
    · obtain ⟨c, hc⟩ := row_block hL6.wait hb; exact ne_ty hc hnb (by decide) rfl
  have hz1 : nb ∉ lw :: sb :: (vt3.ownBlock.toList ++ vw3.ownBlock.toList) := by
    simp only [List.mem_cons, not_or]; exact ⟨ne_ty hnb hL6.cells (by decide), ne_ty hnb hL6.sent (by decide), hy2⟩
  have hz2 : W.heap.size ∉ lw :: sb :: (vt3.ownBlock.toList ++ vw3.ownBlock.toList) := by
    simp only [List.mem_cons, not_or]; exact ⟨ne_ty hB6 hL6.cells (by decide), ne_ty hB6 hL6.sent (by decide), fun h => hy1 _ h rfl⟩
  have hwlt : ∀ b, vw3.ownBlock = some b → b < W6.heap.size := fun b hb => by obtain ⟨c, hc⟩ := row_block hL6.wait hb; exact lt_of_block hc
  have HL6 := hid hL6
  have HTA := hid (takeS_all s m)
  have HX := hid (And.intro hx1 (And.intro hx2 hx3))
  have HZ := hid (And.intro hz1 hz2)
  have HW := hid hwlt
  have HY := hid hy1
  have HVW3 := hid hvw3
  clear hNi hNo hx1 hx2 hx3 hy1 hy2 hz1 hz2 hwlt ok hnt6 hL6 hvw3
  go_region_held3 (fun w' => w'.cell? ⟨lw, 3, none⟩ = some (.slice (some ⟨nb, 0, none⟩) bl.length nc) ∧ w'.cell? ⟨nb, i, none⟩ = some (.pointer (some ⟨bl[i].1, 0, none⟩)) ∧ w'.cell? ⟨W.heap.size, 0, none⟩ = some (.int .i64 m.kind) ∧
      w'.cell? ⟨W.heap.size, 1, none⟩ = some (.int .i64 m.from_) ∧ w'.cell? ⟨W.heap.size, 2, none⟩ = some (.string m.val))
    (first
      | exact ⟨l3, n1, b0, b1, b2⟩
      | exact ⟨hm7.cell l3 HX.out.1, hm7.cell n1 HX.out.2.1, hm7.cell b0 HX.out.2.2, hm7.cell b1 HX.out.2.2, hm7.cell b2 HX.out.2.2⟩
      | exact ⟨(cell_at hL8.cells 3).trans rfl, hm8.cell (hm7.cell n1 HX.out.2.1) HZ.out.1, hm8.cell (hm7.cell b0 HX.out.2.2) HZ.out.2, hm8.cell (hm7.cell b1 HX.out.2.2) HZ.out.2, hm8.cell (hm7.cell b2 HX.out.2.2) HZ.out.2⟩)
    (first
      | (go_at_call 22; refine (take_law W6.drew lw sb _ vt3 vw3 bl (cutS L k) (HL6.out.mod0 (Mod.refl _ _).drew) i bl[i] s m hp hs HOK.out).mono ?_; rintro e w' ⟨v, rfl, hL7, hms, hm7⟩)
      | (go_at_call 17; refine (all_any _ lw sb _ vt3 vw3 bl _ hL7 W6.heap.size v _ hms HW.out (give_out (L := cutS L k) rfl HTA.out.2 HOK.out) HOK.out.ln HOK.out.lb HOK.out.lt HOK.out.lw).mono ?_; rintro e w' ⟨rfl, vt8, vw8, hL8, hm8, ht8, hw8⟩))
  go_wp2_with fail
  go_end0
  have e : handS L k = allL { cutS L k with nodes := (cutS L k).nodes.set i (takeS s m).1 } (takeS s m).2 := by simp [handS, hto, hm, giveS, cutS, hs]
  have htm := trip_mem hp
  have hz6 := hM6.size
  have hz7 : W6.heap.size ≤ _ := hm7.size
  refine ⟨rfl, vt8, vw8, by rw [e]; exact hL8.mod0 (Mod.refl _ _), ?_, fun b hb => .inr ?_, fun b hb => .inr ?_⟩
  · refine ((hmod6.mono (by simp)).trans' (Mod.trans' ((Mod.refl [bl[i].1, bl[i].2.1, bl[i].2.2] W6).drew) hm7 (fun x hx => .inl hx)) (fun x hx => .inl ?_)).trans' hm8 (fun x hx => ?_)
    · simp only [List.mem_cons, List.not_mem_nil, or_false] at hx
      refine List.mem_cons_of_mem _ (List.mem_cons_of_mem _ (List.mem_append_right _ ?_))
      rcases hx with rfl | rfl | rfl
      · exact htm.1
      · exact htm.2.1
      · exact htm.2.2
    · simp only [List.mem_cons, List.mem_append, Option.mem_toList] at hx
      rcases hx with rfl | rfl | hx | hx
      · exact .inl (by simp)
      · exact .inl (by simp)
      · exact .inr (HVT3.out x hx)
      · exact .inr (Nat.le_trans hz5 (HVW3.out x hx))
  · rcases ht8 b hb with h1 | h1
    · exact HVT3.out b h1
    · omega
  · rcases hw8 b hb with h1 | h1
    · exact Nat.le_trans hz5 (HVW3.out b h1)
    · omega
end Go.Proofs.Ytcgfjalglnlofaa
