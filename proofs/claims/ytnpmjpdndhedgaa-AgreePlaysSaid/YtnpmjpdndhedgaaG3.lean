/-
  An agreement's node, walked: add. No statement of a claim stands here; each contract names what it asks.
-/
import Derived.Test.YtnpmjpdndhedgaaG2
import Derived.Test.YtnpmjpdndhedgaaReg
import Derived.Deep.DeepCutAuto
set_option linter.unusedSimpArgs false
namespace Go.Proofs.Ytnpmjpdndhedgaa
open Go Go.RowKit Go.ChangeMaps

section
variable {P : Program}
theorem look_op {o : Oper} {a : Act} {w : World} (t : TypeId) (m x : Operand) (ok : Bool) (hop : o.op = .lookup t m x ok) (v : Value) (hr : (Instr.lookup t (a.eval m) (a.eval x) ok).run P w = .ok v w) : (execOp a.eval o).run P w = .ok (.value v) w := by
  simp [execOp, hop, hr]
theorem wp_put_new' {α β : Type} [DecidableEq α] {f : α → Value} {g : β → Value} {kt : TypeId} (KT : KeyT P kt α f) {o : Oper} {a : Act} {w : World} {K : Act → World → Prop} {Q : Exit → Act → World → Prop} (m x v : Operand) (t et : TypeId) (hop : o.op = Op.mapUpdate t m x v) (ht : P.underlying t = some (.map kt et)) (b c : Nat) (l : List (α × β × Nat)) (k : α) (y : β)
    (hm : a.eval m = .map (some b)) (hx : a.eval x = f k) (hv : a.eval v = g y) (hb : w.heap[b]? = some (mapObj f g l c)) (hk : look l k = none)
    (h : ∀ w', w'.heap[b]? = some (mapObj f g (l ++ [(k, y, c)]) (c + 1)) → Mod [b] w w' → w'.heap.size = w.heap.size → K (a.put o.dst undef) w') : o.wp P a w K Q := by
  have hr := run_put_new KT ht hb k y hk
  unfold Oper.wp
  simp [execOp, hop, hm, hx, hv, hr, Result.andThen]
  exact h _ (get_setBlock_self hb _) ((Mod.refl _ _).setBlock (.inl (by simp)) _) (by simp [setBlock])
end

theorem map_nil (w : World) : (binOp .eql 79 (.map none) (.map none)).run Try.prog w = Result.ok (.bool true) w := by first | rfl | kernel_rfl
theorem map_some (b : Nat) (w : World) : (binOp .eql 79 (.map (some b)) (.map none)).run Try.prog w = Result.ok (.bool false) w := by first | rfl | kernel_rfl

/-- What counting leaves. -/
structure AddPost (w : World) (bh : Nat) (lh : Heard) (hd : Seat → Votes) (m : Msg) (e : Ending) (w' : World) : Prop where
  ret : e = .returned (.int .i64 (addN (hd m.seat) m.from_ m.val : Nat))
  heard : ∃ lh', HdAt w' bh lh' (upd hd m.seat (addL (hd m.seat) m.from_ m.val)) ∧ ∀ e ∈ lh', e.2.1 ∈ lh.map (·.2.1) ∨ w.heap.size ≤ e.2.1
  mod : Mod (bh :: lh.map (·.2.1)) w w'



/-- What the loads of 'add' read. -/
def AddSat (bh b sb mb : Nat) (lh : Heard) (l : Votes) (kind from_ round : Int) (val : ByteArray) (w' : World) : Prop :=
  w'.heap[bh]? = some (heardObj lh) ∧ w'.heap[b]? = some (votesObj l) ∧ w'.cell? ⟨sb, 0, none⟩ = some (.int .i64 kind) ∧ w'.cell? ⟨sb, 1, none⟩ = some (.int .i64 round) ∧
  w'.cell? ⟨mb, 0, none⟩ = some (.int .i64 kind) ∧ w'.cell? ⟨mb, 1, none⟩ = some (.int .i64 from_) ∧ w'.cell? ⟨mb, 2, none⟩ = some (.int .i64 round) ∧ w'.cell? ⟨mb, 3, none⟩ = some (.string val)

theorem look_any (w : World) (bh : Nat) (lh : Heard) (k : Seat) (hb : w.heap[bh]? = some (heardObj lh)) : (Instr.lookup 73 (.map (some bh)) (seatV k) false).run Try.prog w = .ok (.map (look lh k)) w := by
  cases hl : look lh k with
  | none => exact run_look_z kSeat Try.underlying73 (zMap _) hb k hl
  | some b => exact run_look_v kSeat Try.underlying73 hb k hl
theorem map_any (o : Option Nat) (w : World) : (binOp .eql 79 (.map o) (.map none)).run Try.prog w = Result.ok (.bool o.isNone) w := by
  cases o with
  | none => exact map_nil w
  | some b => exact map_some b w

/-- While a message is counted. -/
structure Adding (w W : World) (bh : Nat) (lh0 lh : Heard) (hd : Seat → Votes) (m : Msg) (b : Nat) : Prop where
  heard : HdAt W bh lh hd
  has : look lh m.seat = some b
  votes : W.heap[b]? = some (votesObj (hd m.seat))
  msg : W.heap[w.heap.size]? = some (.cells m.cells.toArray 39 (0, 0))
  seat : W.heap[w.heap.size + 1]? = some (.cells #[.int .i64 m.kind, .int .i64 m.round] 81 (0, 0))
  new : ∀ e ∈ lh, e.2.1 ∈ lh0.map (·.2.1) ∨ w.heap.size ≤ e.2.1
  mod : Mod (bh :: lh0.map (·.2.1)) w W
  lt : bh < w.heap.size
theorem Adding.sat {w W : World} {bh : Nat} {lh0 lh : Heard} {hd : Seat → Votes} {m : Msg} {b : Nat} (h : Adding w W bh lh0 lh hd m b) : AddSat bh b (w.heap.size + 1) w.heap.size lh (hd m.seat) m.kind m.from_ m.round m.val W :=
  ⟨h.heard.map, h.votes, cell_at h.seat 0, cell_at h.seat 1, cell_at h.msg 0, cell_at h.msg 1, cell_at h.msg 2, cell_at h.msg 3⟩
/-- The seat's block is neither box. -/
theorem Adding.bne {w W : World} {bh : Nat} {lh0 lh : Heard} {hd : Seat → Votes} {m : Msg} {b : Nat} (h : Adding w W bh lh0 lh hd m b) : b ≠ w.heap.size ∧ b ≠ w.heap.size + 1 :=
  ⟨(ne_map h.msg h.votes).symm, (ne_map h.seat h.votes).symm⟩
theorem Adding.mod0 {w W W' : World} {bh : Nat} {lh0 lh : Heard} {hd : Seat → Votes} {m : Msg} {b : Nat} (h : Adding w W bh lh0 lh hd m b) (hm : Mod [] W W') : Adding w W' bh lh0 lh hd m b :=
  ⟨h.heard.mod0 hm, h.has, hm.get h.votes (by simp), hm.get h.msg (by simp), hm.get h.seat (by simp), h.new, h.mod.trans (hm.mono (by simp)), h.lt⟩
/-- The seat's votes are new. -/
theorem Adding.put {w W W' : World} {bh : Nat} {lh0 lh : Heard} {hd : Seat → Votes} {m : Msg} {b : Nat} {l : Votes} (h : Adding w W bh lh0 lh hd m b) (hb : W'.heap[b]? = some (votesObj l)) (hm : Mod [b] W W') :
    HdAt W' bh lh (upd hd m.seat l) ∧ Mod (bh :: lh0.map (·.2.1)) w W' := by
  obtain ⟨nb, hn⟩ := look_some_mem h.has
  have hbb : b ≠ bh := h.heard.apart _ hn
  refine ⟨⟨hm.get h.heard.map (by simpa using hbb.symm), h.heard.keys, h.heard.blks, fun e he => ?_, fun k hk => ?_, h.heard.apart⟩, h.mod.trans' hm (fun x hx => ?_)⟩
  · by_cases hk : e.1 = m.seat
    · have : e.2.1 = b := by
        have h1 := look_mem (n := e.2.2) h.heard.keys (show (m.seat, e.2.1, e.2.2) ∈ lh by rw [← hk]; exact he)
        rw [h.has] at h1
        exact (Option.some.inj h1).symm
      rw [hk, upd_same, this]
      exact hb
    · rw [upd_ne _ _ hk]
      refine hm.get (h.heard.inner e he) ?_
      simp only [List.mem_singleton]
      intro hb2
      have hlist := h.heard.blks
      have e1 := List.mem_iff_getElem.1 he
      have e2 := List.mem_iff_getElem.1 hn
      obtain ⟨i, hi, hie⟩ := e1
      obtain ⟨j, hj, hje⟩ := e2
      have : i = j := by
        refine (List.getElem?_inj (l := lh.map (·.2.1)) (i := i) (j := j) (by simpa using hi) hlist).1 ?_
        rw [List.getElem?_map, List.getElem?_map, List.getElem?_eq_getElem hi, List.getElem?_eq_getElem hj, hie, hje, Option.map_some, Option.map_some, hb2]
      subst this
      rw [hie] at hje
      exact hk (by rw [hje])
  · have : k ≠ m.seat := by rintro rfl; rw [h.has] at hk; cases hk
    rw [upd_ne _ _ this]
    exact h.heard.other k hk
  · rw [List.mem_singleton.1 hx]
    rcases h.new _ hn with h1 | h1
    · exact .inl (List.mem_cons_of_mem _ h1)
    · exact .inr h1

set_option maxRecDepth 20000 in
set_option maxHeartbeats 4000000 in
theorem add_any (w : World) (bh : Nat) (lh : Heard) (hd : Seat → Votes) (m : Msg) (h : HdAt w bh lh hd) (hv : ∀ k, VOk (hd k)) (hs : ∀ k, (hd k).length ≤ 16) (hs2 : (addL (hd m.seat) m.from_ m.val).length ≤ 16) :
    Calls Try.prog 34 #[.map (some bh), .agg m.cells.toArray] w (AddPost w bh lh hd m) := by
  obtain ⟨W1, hW1⟩ : ∃ W1, W1 = (w.alloc (.cells m.cells.toArray 39)).alloc (.cells #[.int .i64 m.kind, .int .i64 m.round] 81) := ⟨_, rfl⟩
  have hm1 : Mod [] w W1 := by rw [hW1]; exact (Mod.alloc (Mod.refl _ _) _).alloc _
  have hB : W1.heap[w.heap.size]? = some (.cells m.cells.toArray 39 (0, 0)) := by rw [hW1]; exact get_alloc (get_new w _) _
  have hC : W1.heap[w.heap.size + 1]? = some (.cells #[.int .i64 m.kind, .int .i64 m.round] 81 (0, 0)) := by
    have := get_new (w.alloc (.cells m.cells.toArray 39)) (.cells #[.int .i64 m.kind, .int .i64 m.round] 81)
    rw [World.size_alloc] at this
    rw [hW1]; exact this
  have hlk := look_any W1 bh lh m.seat (hm1.get h.map (by simp))
  have hms := map_any (look lh m.seat)
  have hlt := lt_of_block h.map
  have H := hid h
  have HV := hid hv
  have HS := hid hs
  have HS2 := hid hs2
  have HB := hid (And.intro hm1 (And.intro hB hC))
  have HW := hid hW1
  have s3 : W1.cell? ⟨w.heap.size + 1, 0, none⟩ = some (.int .i64 m.kind) := cell_at hC 0
  have s4 : W1.cell? ⟨w.heap.size + 1, 1, none⟩ = some (.int .i64 m.round) := cell_at hC 1
  clear hB hC hm1 hW1 h hv hs hs2
  generalize hov : look lh m.seat = ov at *
  have HOV := hid hov
  clear hov
  obtain ⟨bb, hbb⟩ : ∃ bb, ov.isNone = bb := ⟨_, rfl⟩
  rw [hbb] at hms
  have HBB := hid hbb
  clear hbb
  obtain ⟨kind, from_, round, val⟩ := m
  simp only [Msg.cells, seatV, Msg.seat] at hlk HW ⊢
  go_enter Try.func34, Try.ntmps34
  rw [HW.out] at hlk s3 s4
  go_upto_if 16 with fail
  rw [← HW.out] at hlk s3 s4 ⊢
  dsimp only at hlk s3 s4
  clear HW
  go_cut [17] (fun _ wx => ∃ lh2 b, Adding w wx bh lh lh2 hd ⟨kind, from_, round, val⟩ b)
  case first =>
    cases bb with
    | false =>
      obtain ⟨b, rfl⟩ : ∃ b, ov = some b := by
        have := HBB.out
        cases ov with
        | none => simp at this
        | some b => exact ⟨b, rfl⟩
      clear HBB
      have hA : Adding w W1 bh lh lh hd ⟨kind, from_, round, val⟩ b := ⟨H.out.mod0 HB.out.1, HOV.out, by
        rcases H.out.find (kind, round) with ⟨h1, -⟩ | ⟨b', h1, h2, -⟩
        · have := HOV.out; simp only [Msg.seat] at this; rw [h1] at this; cases this
        · have := HOV.out; simp only [Msg.seat] at this; rw [h1] at this; cases this; exact HB.out.1.get h2 (by simp), HB.out.2.1, HB.out.2.2, fun e he => .inl (List.mem_map.2 ⟨e, he, rfl⟩), HB.out.1.mono (by simp), hlt⟩
      have HA := hid hA
      clear hA hlk hms
      go_wp2_with fail
      go_meet
      exact ⟨lh, b, HA.out⟩
    | true =>
      have hov : ov = none := by simpa using HBB.out
      subst hov
      have hnone : hd (kind, round) = [] := H.out.other _ HOV.out
      have hmap : (W1.alloc (.map #[] 0)).heap[bh]? = some (heardObj lh) := get_alloc (HB.out.1.get H.out.map (by simp)) _
      have s3 : (W1.alloc (.map #[] 0)).cell? ⟨w.heap.size + 1, 0, none⟩ = some (.int .i64 kind) := cell_at (get_alloc HB.out.2.2 _) 0
      have s4 : (W1.alloc (.map #[] 0)).cell? ⟨w.heap.size + 1, 1, none⟩ = some (.int .i64 round) := cell_at (get_alloc HB.out.2.2 _) 1
      have HN := hid hnone
      clear hnone HBB hlk hms
      have hmm := @run_makeMap Try.prog
      go_wp2_with (first
        | (at_mapUpdate; refine wpList_put_new kSeat rfl _ _ _ _ _ rfl Try.underlying73 bh lh.length lh (kind, round) W1.heap.size rfl rfl rfl hmap HOV.out ?_; intro w3 hb3 hm3 hs3; clear hmap))
      have hA : Adding w w3 bh lh (lh ++ [((kind, round), W1.heap.size, lh.length)]) hd ⟨kind, from_, round, val⟩ W1.heap.size := by
        have hbl : bh < W1.heap.size := Nat.lt_of_lt_of_le hlt HB.out.1.size
        have hnb := get_new W1 (.map #[] 0)
        have hget : ∀ {b : Nat} {o : Obj}, W1.heap[b]? = some o → b ≠ bh → w3.heap[b]? = some o := fun hb hne => hm3.get (get_alloc hb _) (by simpa using hne)
        have hold : ∀ e ∈ lh, e.2.1 < W1.heap.size := fun e he => Nat.lt_of_lt_of_le (lt_of_block (H.out.inner e he)) HB.out.1.size
        refine ⟨⟨by rw [heardObj, List.length_append]; exact hb3, ?_, ?_, fun e he => ?_, fun k hk => ?_, fun e he => ?_⟩, ?_, ?_, hget HB.out.2.1 (by omega), hget HB.out.2.2 (by omega), fun e he => ?_, ?_, hlt⟩
        · rw [List.map_append, List.nodup_append]
          refine ⟨H.out.keys, by simp, fun a ha b hb => ?_⟩
          simp only [List.map_cons, List.map_nil, List.mem_singleton] at hb
          rw [hb]
          obtain ⟨e, he, rfl⟩ := List.mem_map.1 ha
          exact look_none.1 HOV.out e he
        · rw [List.map_append, List.nodup_append]
          refine ⟨H.out.blks, by simp, fun a ha b hb => ?_⟩
          simp only [List.map_cons, List.map_nil, List.mem_singleton] at hb
          rw [hb]
          obtain ⟨e, he, rfl⟩ := List.mem_map.1 ha
          exact Nat.ne_of_lt (hold e he)
        · rcases List.mem_append.1 he with he | he
          · exact hget (HB.out.1.get (H.out.inner e he) (by simp)) (H.out.apart e he)
          · rw [List.mem_singleton.1 he]
            dsimp only
            rw [HN.out]
            exact hm3.get hnb (by simp; omega)
        · rw [look_append] at hk
          cases hk2 : look lh k with
          | none => exact H.out.other k hk2
          | some v => rw [hk2] at hk; cases hk
        · rcases List.mem_append.1 he with he | he
          · exact H.out.apart e he
          · rw [List.mem_singleton.1 he]
            dsimp only
            omega
        · show look (lh ++ [((kind, round), W1.heap.size, lh.length)]) (kind, round) = some W1.heap.size
          have hh : look lh (kind, round) = none := HOV.out
          rw [look_append, hh]
          simp
        · show w3.heap[W1.heap.size]? = some (votesObj (hd (kind, round)))
          rw [HN.out]
          exact hm3.get hnb (by simp; omega)
        · rcases List.mem_append.1 he with he | he
          · exact .inl (List.mem_map.2 ⟨e, he, rfl⟩)
          · rw [List.mem_singleton.1 he]
            exact .inr HB.out.1.size
        · exact ((HB.out.1.mono (by simp)).trans (Mod.alloc (Mod.refl _ _) _)).trans (hm3.mono (fun x hx => .inl (by rw [List.mem_singleton.1 hx]; exact List.mem_cons_self)))
      have HA := hid hA
      clear hA hb3 hm3 hs3 s3 s4 hmm
      go_wp2_with fail
      go_meet
      exact ⟨_, _, HA.out⟩
  case rest =>
    obtain ⟨lh2, b, hA⟩ := hcut
    clear HB HOV HBB hlk hms s3 s4
    have hl := hA.has
    simp only [Msg.seat] at hl
    have hsat := hA.sat
    have HSAT := hid hsat
    have HA := hid hA
    simp only [Msg.seat] at HSAT
    clear hA hsat
    cases hk : look (hd (kind, round)) from_ with
    | some y =>
      have hq : ∀ W : World, W.heap[b]? = some (votesObj (hd (kind, round))) → (Instr.lookup 79 (.map (some b)) (.int .i64 from_) true).run Try.prog W = .ok (.tuple #[.string y, .bool true]) W := fun W hW => run_look_ok kInt Try.underlying79 hW from_ hk
      have HLK := hid hq
      clear hq
      go_wp2_with fail
      refine wp_region_N (AddSat bh b (w.heap.size + 1) w.heap.size lh2 (hd (kind, round)) kind from_ round val) (fun _ => true) (by kernel_rfl) ?_
      have hS : AddSat bh b (w.heap.size + 1) w.heap.size lh2 (hd (kind, round)) kind from_ round val wc.drew := HSAT.out
      refine regA 0 21 (v := ?_) rfl rfl (by kernel_rfl) (by kernel_rfl) (by kernel_rfl) (fun _ _ _ h => h) (by rfl) (fun w => ?_) ?_; rotate_left; (go_simp; first | done | with_reducible rfl); (try simp only [Act.put, List.setIfInBounds_toArray, List.set_cons_zero, List.set_cons_succ])
      refine regS 1 22 (v := .agg #[.int .i64 kind, .int .i64 round]) hS rfl rfl (by kernel_rfl) (by kernel_rfl) (by kernel_rfl) (by kernel_rfl) (fun _ _ _ h => h) (by rfl) (fun w hSw => ?_) ?_
      · have s3 := hSw.2.2.1
        have s4 := hSw.2.2.2.1
        go_simp
      (try simp only [Act.put, List.setIfInBounds_toArray, List.set_cons_zero, List.set_cons_succ])
      refine regS 2 23 (v := .map (some b)) hS rfl rfl (by kernel_rfl) (by kernel_rfl) (by kernel_rfl) (by kernel_rfl) (fun _ _ _ h => h) (by rfl) (fun w hSw => look_op _ _ _ _ rfl _ (run_look_v kSeat Try.underlying73 hSw.1 (kind, round) hl)) ?_
      (try simp only [Act.put, List.setIfInBounds_toArray, List.set_cons_zero, List.set_cons_succ])
      refine regA 3 24 (v := ?_) rfl rfl (by kernel_rfl) (by kernel_rfl) (by kernel_rfl) (fun _ _ _ h => h) (by rfl) (fun w => ?_) ?_; rotate_left; (go_simp; first | done | with_reducible rfl); (try simp only [Act.put, List.setIfInBounds_toArray, List.set_cons_zero, List.set_cons_succ])
      refine regS 4 25 (v := .int .i64 from_) hS rfl rfl (by kernel_rfl) (by kernel_rfl) (by kernel_rfl) (by kernel_rfl) (fun _ _ _ h => h) (by rfl) (fun w hSw => ?_) ?_
      · have s5 := hSw.2.2.2.2.2.1
        go_simp
      (try simp only [Act.put, List.setIfInBounds_toArray, List.set_cons_zero, List.set_cons_succ])
      refine regS 5 26 (v := .tuple #[.string y, .bool true]) hS rfl rfl (by kernel_rfl) (by kernel_rfl) (by kernel_rfl) (by kernel_rfl) (fun _ _ _ h => h) (by rfl) (fun w hSw => look_op _ _ _ _ rfl _ (HLK.out w hSw.2.1)) ?_
      (try simp only [Act.put, List.setIfInBounds_toArray, List.set_cons_zero, List.set_cons_succ])
      refine regA 6 20 (v := ?_) rfl rfl (by kernel_rfl) (by kernel_rfl) (by kernel_rfl) (fun _ _ _ h => h) (by rfl) (fun w => ?_) ?_; rotate_left; (go_simp; first | done | with_reducible rfl); (try simp only [Act.put, List.setIfInBounds_toArray, List.set_cons_zero, List.set_cons_succ])
      refine regA 7 27 (v := ?_) rfl rfl (by kernel_rfl) (by kernel_rfl) (by kernel_rfl) (fun _ _ _ h => h) (by rfl) (fun w => ?_) ?_; rotate_left; (go_simp; first | done | with_reducible rfl); (try simp only [Act.put, List.setIfInBounds_toArray, List.set_cons_zero, List.set_cons_succ])
      refine regA 8 28 (v := ?_) rfl rfl (by kernel_rfl) (by kernel_rfl) (by kernel_rfl) (fun _ _ _ h => h) (by rfl) (fun w => ?_) ?_; rotate_left; (go_simp; first | done | with_reducible rfl); (try simp only [Act.put, List.setIfInBounds_toArray, List.set_cons_zero, List.set_cons_succ])
      refine regOnly 9 (by kernel_rfl) rfl (by rfl) (fun K hK => ?_)
      go_wp2_with fail
      refine hK.out _ _ (fun _ h => h) ?_
      clear hK
      (try simp only [Act.put, List.setIfInBounds_toArray, List.set_cons_zero, List.set_cons_succ])
      refine regOnly 10 (by kernel_rfl) rfl (by rfl) (fun K hK => ?_)
      go_wp2_with fail
      refine hK.out _ _ (fun _ h => h) ?_
      clear hK hS
      (try simp only [Act.put, List.setIfInBounds_toArray, List.set_cons_zero, List.set_cons_succ])
      refine regDone (by kernel_rfl) ?_ _
      go_wp2_with fail
      go_ret
      have e1 : addN (hd (kind, round)) from_ val = 0 := by simp [addN, hk]
      have e2 : addL (hd (kind, round)) from_ val = hd (kind, round) := by simp [addL, hk]
      refine ⟨by simp only [Msg.seat]; rw [e1]; rfl, ⟨lh2, ?_, HA.out.new⟩, HA.out.mod.drew⟩
      simp only [Msg.seat]
      rw [e2, upd_self]
      exact HA.out.heard.mod0 (Mod.refl _ _).drew
    | none =>
      have hq : ∀ W : World, W.heap[b]? = some (votesObj (hd (kind, round))) → (Instr.lookup 79 (.map (some b)) (.int .i64 from_) true).run Try.prog W = .ok (.tuple #[.string ByteArray.empty, .bool false]) W := fun W hW => run_look_no kInt Try.underlying79 (zStr _) hW from_ hk
      have HLK := hid hq
      clear hq
      go_wp2_with fail
      refine wp_region_N (AddSat bh b (w.heap.size + 1) w.heap.size lh2 (hd (kind, round)) kind from_ round val) (fun _ => true) (by kernel_rfl) ?_
      have hS : AddSat bh b (w.heap.size + 1) w.heap.size lh2 (hd (kind, round)) kind from_ round val wc.drew := HSAT.out
      refine regA 0 21 (v := ?_) rfl rfl (by kernel_rfl) (by kernel_rfl) (by kernel_rfl) (fun _ _ _ h => h) (by rfl) (fun w => ?_) ?_; rotate_left; (go_simp; first | done | with_reducible rfl); (try simp only [Act.put, List.setIfInBounds_toArray, List.set_cons_zero, List.set_cons_succ])
      refine regS 1 22 (v := .agg #[.int .i64 kind, .int .i64 round]) hS rfl rfl (by kernel_rfl) (by kernel_rfl) (by kernel_rfl) (by kernel_rfl) (fun _ _ _ h => h) (by rfl) (fun w hSw => ?_) ?_
      · have s3 := hSw.2.2.1
        have s4 := hSw.2.2.2.1
        go_simp
      (try simp only [Act.put, List.setIfInBounds_toArray, List.set_cons_zero, List.set_cons_succ])
      refine regS 2 23 (v := .map (some b)) hS rfl rfl (by kernel_rfl) (by kernel_rfl) (by kernel_rfl) (by kernel_rfl) (fun _ _ _ h => h) (by rfl) (fun w hSw => look_op _ _ _ _ rfl _ (run_look_v kSeat Try.underlying73 hSw.1 (kind, round) hl)) ?_
      (try simp only [Act.put, List.setIfInBounds_toArray, List.set_cons_zero, List.set_cons_succ])
      refine regA 3 24 (v := ?_) rfl rfl (by kernel_rfl) (by kernel_rfl) (by kernel_rfl) (fun _ _ _ h => h) (by rfl) (fun w => ?_) ?_; rotate_left; (go_simp; first | done | with_reducible rfl); (try simp only [Act.put, List.setIfInBounds_toArray, List.set_cons_zero, List.set_cons_succ])
      refine regS 4 25 (v := .int .i64 from_) hS rfl rfl (by kernel_rfl) (by kernel_rfl) (by kernel_rfl) (by kernel_rfl) (fun _ _ _ h => h) (by rfl) (fun w hSw => ?_) ?_
      · have s5 := hSw.2.2.2.2.2.1
        go_simp
      (try simp only [Act.put, List.setIfInBounds_toArray, List.set_cons_zero, List.set_cons_succ])
      refine regS 5 26 (v := .tuple #[.string ByteArray.empty, .bool false]) hS rfl rfl (by kernel_rfl) (by kernel_rfl) (by kernel_rfl) (by kernel_rfl) (fun _ _ _ h => h) (by rfl) (fun w hSw => look_op _ _ _ _ rfl _ (HLK.out w hSw.2.1)) ?_
      (try simp only [Act.put, List.setIfInBounds_toArray, List.set_cons_zero, List.set_cons_succ])
      refine regA 6 20 (v := ?_) rfl rfl (by kernel_rfl) (by kernel_rfl) (by kernel_rfl) (fun _ _ _ h => h) (by rfl) (fun w => ?_) ?_; rotate_left; (go_simp; first | done | with_reducible rfl); (try simp only [Act.put, List.setIfInBounds_toArray, List.set_cons_zero, List.set_cons_succ])
      refine regA 7 27 (v := ?_) rfl rfl (by kernel_rfl) (by kernel_rfl) (by kernel_rfl) (fun _ _ _ h => h) (by rfl) (fun w => ?_) ?_; rotate_left; (go_simp; first | done | with_reducible rfl); (try simp only [Act.put, List.setIfInBounds_toArray, List.set_cons_zero, List.set_cons_succ])
      refine regA 8 28 (v := ?_) rfl rfl (by kernel_rfl) (by kernel_rfl) (by kernel_rfl) (fun _ _ _ h => h) (by rfl) (fun w => ?_) ?_; rotate_left; (go_simp; first | done | with_reducible rfl); (try simp only [Act.put, List.setIfInBounds_toArray, List.set_cons_zero, List.set_cons_succ])
      refine regOnly 9 (by kernel_rfl) rfl (by rfl) (fun K hK => ?_)
      go_wp2_with fail
      refine hK.out _ _ (fun _ h => h) ?_
      clear hK
      (try simp only [Act.put, List.setIfInBounds_toArray, List.set_cons_zero, List.set_cons_succ])
      refine regOnly 10 (by kernel_rfl) rfl (by rfl) (fun K hK => ?_)
      go_wp2_with fail
      refine hK.out _ _ (fun _ h => h) ?_
      clear hK hS
      (try simp only [Act.put, List.setIfInBounds_toArray, List.set_cons_zero, List.set_cons_succ])
      refine regDone (by kernel_rfl) ?_ _
      go_wp2_with fail
      refine wp_region_N (AddSat bh b (w.heap.size + 1) w.heap.size lh2 (hd (kind, round)) kind from_ round val) (fun i => i != 7) (by kernel_rfl) ?_
      have hS : AddSat bh b (w.heap.size + 1) w.heap.size lh2 (hd (kind, round)) kind from_ round val wc.drew.drew := HSAT.out
      refine regA 0 30 (v := ?_) rfl rfl (by kernel_rfl) (by kernel_rfl) (by kernel_rfl) (fun _ _ _ h => h) (by rfl) (fun w => ?_) ?_; rotate_left; (go_simp; first | done | with_reducible rfl); (try simp only [Act.put, List.setIfInBounds_toArray, List.set_cons_zero, List.set_cons_succ])
      refine regS 1 31 (v := .agg #[.int .i64 kind, .int .i64 round]) hS rfl rfl (by kernel_rfl) (by kernel_rfl) (by kernel_rfl) (by kernel_rfl) (fun _ _ _ h => h) (by rfl) (fun w hSw => ?_) ?_
      · have s3 := hSw.2.2.1
        have s4 := hSw.2.2.2.1
        go_simp
      (try simp only [Act.put, List.setIfInBounds_toArray, List.set_cons_zero, List.set_cons_succ])
      refine regS 2 32 (v := .map (some b)) hS rfl rfl (by kernel_rfl) (by kernel_rfl) (by kernel_rfl) (by kernel_rfl) (fun _ _ _ h => h) (by rfl) (fun w hSw => look_op _ _ _ _ rfl _ (run_look_v kSeat Try.underlying73 hSw.1 (kind, round) hl)) ?_
      (try simp only [Act.put, List.setIfInBounds_toArray, List.set_cons_zero, List.set_cons_succ])
      refine regA 3 33 (v := ?_) rfl rfl (by kernel_rfl) (by kernel_rfl) (by kernel_rfl) (fun _ _ _ h => h) (by rfl) (fun w => ?_) ?_; rotate_left; (go_simp; first | done | with_reducible rfl); (try simp only [Act.put, List.setIfInBounds_toArray, List.set_cons_zero, List.set_cons_succ])
      refine regS 4 34 (v := .int .i64 from_) hS rfl rfl (by kernel_rfl) (by kernel_rfl) (by kernel_rfl) (by kernel_rfl) (fun _ _ _ h => h) (by rfl) (fun w hSw => ?_) ?_
      · have s5 := hSw.2.2.2.2.2.1
        go_simp
      (try simp only [Act.put, List.setIfInBounds_toArray, List.set_cons_zero, List.set_cons_succ])
      refine regA 5 35 (v := ?_) rfl rfl (by kernel_rfl) (by kernel_rfl) (by kernel_rfl) (fun _ _ _ h => h) (by rfl) (fun w => ?_) ?_; rotate_left; (go_simp; first | done | with_reducible rfl); (try simp only [Act.put, List.setIfInBounds_toArray, List.set_cons_zero, List.set_cons_succ])
      refine regS 6 36 (v := .string val) hS rfl rfl (by kernel_rfl) (by kernel_rfl) (by kernel_rfl) (by kernel_rfl) (fun _ _ _ h => h) (by rfl) (fun w hSw => ?_) ?_
      · have s5 := hSw.2.2.2.2.2.2.2
        go_simp
      (try simp only [Act.put, List.setIfInBounds_toArray, List.set_cons_zero, List.set_cons_succ])
      refine regOnly 7 (by kernel_rfl) rfl (by rfl) (fun K hK => ?_)
      refine wp_put_new' kInt _ _ _ 79 9 rfl Try.underlying79 b (hd (kind, round)).length (hd (kind, round)) from_ val rfl rfl rfl hS.2.1 hk ?_
      intro w3 hb3 hm3 hs3
      refine hK.out _ _ (fun h _ => absurd h (by decide)) ?_
      clear hK hS
      (try simp only [Act.put, List.setIfInBounds_toArray, List.set_cons_zero, List.set_cons_succ])
      refine regDone (by kernel_rfl) ?_ _
      have e2 : addL (hd (kind, round)) from_ val = hd (kind, round) ++ [(from_, val, (hd (kind, round)).length)] := by simp [addL, hk]
      have e1 : addN (hd (kind, round)) from_ val = cnt (addL (hd (kind, round)) from_ val) val := by simp [addN, addL, hk]
      have hput := HA.out.put (W' := w3) (l := addL (hd (kind, round)) from_ val) (by rw [e2, votesObj, List.length_append]; exact hb3) ((Mod.refl _ _).drew.drew.trans hm3)
      simp only [Msg.seat] at hput
      have hmany := many_any w3 bh lh2 _ (kind, round) val hput.1 (by rw [upd_same]; exact addL_ok (HV.out _) _ _) (by rw [upd_same]; exact HS2.out)
      rw [upd_same, ← e1] at hmany
      have r0 : w3.cell? ⟨w.heap.size + 1, 0, none⟩ = some (.int .i64 kind) := hm3.cell (HSAT.out.2.2.1 : wc.cell? _ = _) (by simp; have := HA.out.bne; omega)
      have r1 : w3.cell? ⟨w.heap.size + 1, 1, none⟩ = some (.int .i64 round) := hm3.cell (HSAT.out.2.2.2.1 : wc.cell? _ = _) (by simp; have := HA.out.bne; omega)
      have r2 : w3.cell? ⟨w.heap.size, 3, none⟩ = some (.string val) := hm3.cell (HSAT.out.2.2.2.2.2.2.2 : wc.cell? _ = _) (by simp; have := HA.out.bne; omega)
      have HM := hid hmany
      have HPU := hid hput
      clear hmany hput e1 e2 hb3 hm3 hs3
      go_wp2_with (first
        | (go_at_call 39; refine HM.out.mono ?_; rintro e w4 ⟨rfl, hm4⟩; have HM4 := hid hm4; clear hm4))
      go_ret
      exact ⟨rfl, ⟨lh2, HPU.out.1.mod0 HM4.out, HA.out.new⟩, HPU.out.2.trans (HM4.out.mono (by simp))⟩
end Go.Proofs.Ytnpmjpdndhedgaa
