/-
  A credential cache, walked: Find. No statement of a claim stands here; each contract names what it asks.
-/
import Derived.Test.YteifjbfojjjacaaKa8
set_option linter.unusedSimpArgs false
namespace Go.Proofs.Yteifjbfojjjacaa
open Go Go.RowKit Go.ChangeMaps

def noTk : TkS := ⟨⟨#[]⟩, ⟨#[]⟩, [], 0, 0, 0, 0⟩

theorem find_none (w : World) (x : Nat) (v : Value) (room : Int) (l : Tks) (c s : ByteArray) (now : Int) (h : HeldAt w x v room l) (hr : 0 < room) (hlen : l.length ≤ 1000) (htn : timeOk now = true) (hat : atS l c s = -1) :
    Calls Try.prog 20 #[.pointer (some ⟨x, 0, none⟩), .string c, .string s, .int .i64 now] w fun e w' => e = .returned (.tuple #[.agg (noTk.cells (.slice none 0 0)).toArray, .int .i64 5]) ∧ Mod [] w w' := by
  have hm1 : Mod [] w (w.alloc (.cells #[.string ⟨#[]⟩, .string ⟨#[]⟩, .slice none 0 0, .int .i64 0, .int .i64 0, .int .i64 0, .int .i64 0] 50)) := Mod.alloc (Mod.refl _ _) _
  have c0 : (w.alloc (.cells #[.string ⟨#[]⟩, .string ⟨#[]⟩, .slice none 0 0, .int .i64 0, .int .i64 0, .int .i64 0, .int .i64 0] 50)).cell? ⟨x, 0, none⟩ = some (.int .i64 room) := cell_at (get_alloc h.cells _) 0
  have htm := times1 (w.alloc (.cells #[.string ⟨#[]⟩, .string ⟨#[]⟩, .slice none 0 0, .int .i64 0, .int .i64 0, .int .i64 0, .int .i64 0] 50)) now
  rw [World.size_alloc, htn] at htm
  have hat2 := at_any ((w.alloc (.cells #[.string ⟨#[]⟩, .string ⟨#[]⟩, .slice none 0 0, .int .i64 0, .int .i64 0, .int .i64 0, .int .i64 0] 50)).alloc (.cells #[.int .i64 now] 3)) x room l v c s ((h.mod0 (hm1.alloc _)).cells) ((h.mod0 (hm1.alloc _)).row) hlen
  have H := hid h
  have HTM := hid htm
  have HM1 := hid hm1
  clear h htm hm1
  rw [hat] at hat2
  have HA2 := hid hat2
  clear hat2 hat
  go_enter Try.func20, Try.ntmps20
  go_wp2_with (first
    | (go_at_call 34; refine (his_some _ _ room hr c0).mono ?_; rintro e w' ⟨rfl, rfl⟩)
    | (go_at_call 30; refine HTM.out.mono ?_; rintro e w' ⟨rfl, rfl⟩)
    | (go_at_call 35; refine HA2.out.mono ?_; rintro e w3 ⟨rfl, hm3⟩; have hR3 := hm3.get (get_alloc (get_new w (.cells #[.string ⟨#[]⟩, .string ⟨#[]⟩, .slice none 0 0, .int .i64 0, .int .i64 0, .int .i64 0, .int .i64 0] 50)) (.cells #[.int .i64 now] 3)) (by simp); have r0 : w3.cell? ⟨w.heap.size, 0, none⟩ = some (.string ⟨#[]⟩) := cell_at hR3 0; have r1 : w3.cell? ⟨w.heap.size, 1, none⟩ = some (.string ⟨#[]⟩) := cell_at hR3 1; have r2 : w3.cell? ⟨w.heap.size, 2, none⟩ = some (.slice none 0 0) := cell_at hR3 2; have r3 : w3.cell? ⟨w.heap.size, 3, none⟩ = some (.int .i64 0) := cell_at hR3 3; have r4 : w3.cell? ⟨w.heap.size, 4, none⟩ = some (.int .i64 0) := cell_at hR3 4; have r5 : w3.cell? ⟨w.heap.size, 5, none⟩ = some (.int .i64 0) := cell_at hR3 5; have r6 : w3.cell? ⟨w.heap.size, 6, none⟩ = some (.int .i64 0) := cell_at hR3 6; have rf : ∀ i, w3.frozen? ⟨w.heap.size, i, none⟩ = false := free_at hR3; have HR3 := hid hR3; have HM3 := hid ((HM1.out.alloc _).trans hm3); clear hm3 hR3))
  have hm8 : Mod [w.heap.size] w3 (((((((w3.setCell ⟨w.heap.size, 0, none⟩ (.string ⟨#[]⟩)).setCell ⟨w.heap.size, 1, none⟩ (.string ⟨#[]⟩)).setCell ⟨w.heap.size, 2, none⟩ (.slice none 0 0)).setCell ⟨w.heap.size, 3, none⟩ (.int .i64 0)).setCell ⟨w.heap.size, 4, none⟩ (.int .i64 0)).setCell ⟨w.heap.size, 5, none⟩ (.int .i64 0)).setCell ⟨w.heap.size, 6, none⟩ (.int .i64 0)) := (Mod.setCell (Mod.setCell (Mod.setCell (Mod.setCell (Mod.setCell (Mod.setCell (Mod.setCell (Mod.refl _ _) (by simp) _) (by simp) _) (by simp) _) (by simp) _) (by simp) _) (by simp) _) (by simp) _)
  have hR8 := (get_setCell_self (get_setCell_self (get_setCell_self (get_setCell_self (get_setCell_self (get_setCell_self (get_setCell_self HR3.out 0 (.string ⟨#[]⟩)) 1 (.string ⟨#[]⟩)) 2 (.slice none 0 0)) 3 (.int .i64 0)) 4 (.int .i64 0)) 5 (.int .i64 0)) 6 (.int .i64 0))
  simp only [List.setIfInBounds_toArray, List.set_cons_zero, List.set_cons_succ] at hR8
  generalize (((((((w3.setCell ⟨w.heap.size, 0, none⟩ (.string ⟨#[]⟩)).setCell ⟨w.heap.size, 1, none⟩ (.string ⟨#[]⟩)).setCell ⟨w.heap.size, 2, none⟩ (.slice none 0 0)).setCell ⟨w.heap.size, 3, none⟩ (.int .i64 0)).setCell ⟨w.heap.size, 4, none⟩ (.int .i64 0)).setCell ⟨w.heap.size, 5, none⟩ (.int .i64 0)).setCell ⟨w.heap.size, 6, none⟩ (.int .i64 0)) = W8 at *
  clear r0 r1 r2 r3 r4 r5 r6 rf
  have q0 : W8.cell? ⟨w.heap.size, 0, none⟩ = some (.string ⟨#[]⟩) := cell_at hR8 0
  have q1 : W8.cell? ⟨w.heap.size, 1, none⟩ = some (.string ⟨#[]⟩) := cell_at hR8 1
  have q2 : W8.cell? ⟨w.heap.size, 2, none⟩ = some (.slice none 0 0) := cell_at hR8 2
  have q3 : W8.cell? ⟨w.heap.size, 3, none⟩ = some (.int .i64 0) := cell_at hR8 3
  have q4 : W8.cell? ⟨w.heap.size, 4, none⟩ = some (.int .i64 0) := cell_at hR8 4
  have q5 : W8.cell? ⟨w.heap.size, 5, none⟩ = some (.int .i64 0) := cell_at hR8 5
  have q6 : W8.cell? ⟨w.heap.size, 6, none⟩ = some (.int .i64 0) := cell_at hR8 6
  refine bodyPost_ret (v := .tuple #[.agg #[.string ⟨#[]⟩, .string ⟨#[]⟩, .slice none 0 0, .int .i64 0, .int .i64 0, .int .i64 0, .int .i64 0], .int .i64 5]) (by simp [results, Try.results20, go_sem, q0, q1, q2, q3, q4, q5, q6]) rfl ⟨rfl, HM3.out.trans' hm8 (fun x hx => .inr (Nat.le_of_eq (List.mem_singleton.1 hx).symm))⟩

theorem find_hit (w : World) (x : Nat) (v : Value) (room : Int) (l : Tks) (c s : ByteArray) (now : Int) (h : HeldAt w x v room l) (hr : 0 < room) (hlen : l.length ≤ 1000) (htn : timeOk now = true) (i : Nat) (kv : Value) (t : TkS) (hat : atS l c s = (i : Int)) (hi : l[i]? = some (kv, t))
    (h1 : t.from_ ≤ now) (h2 : now ≤ t.until_) (hkl : t.key.length ≤ 140737488355328) :
    Calls Try.prog 20 #[.pointer (some ⟨x, 0, none⟩), .string c, .string s, .int .i64 now] w fun e w' => ∃ kv', e = .returned (.tuple #[.agg (t.cells kv').toArray, .int .i64 0]) ∧ NewKey w t.key kv' w' := by
  have hm1 : Mod [] w (w.alloc (.cells #[.string ⟨#[]⟩, .string ⟨#[]⟩, .slice none 0 0, .int .i64 0, .int .i64 0, .int .i64 0, .int .i64 0] 50)) := Mod.alloc (Mod.refl _ _) _
  have c0 : (w.alloc (.cells #[.string ⟨#[]⟩, .string ⟨#[]⟩, .slice none 0 0, .int .i64 0, .int .i64 0, .int .i64 0, .int .i64 0] 50)).cell? ⟨x, 0, none⟩ = some (.int .i64 room) := cell_at (get_alloc h.cells _) 0
  have htm := times1 (w.alloc (.cells #[.string ⟨#[]⟩, .string ⟨#[]⟩, .slice none 0 0, .int .i64 0, .int .i64 0, .int .i64 0, .int .i64 0] 50)) now
  rw [World.size_alloc, htn] at htm
  have hat2 := at_any ((w.alloc (.cells #[.string ⟨#[]⟩, .string ⟨#[]⟩, .slice none 0 0, .int .i64 0, .int .i64 0, .int .i64 0, .int .i64 0] 50)).alloc (.cells #[.int .i64 now] 3)) x room l v c s ((h.mod0 (hm1.alloc _)).cells) ((h.mod0 (hm1.alloc _)).row) hlen
  have H := hid h
  have HTM := hid htm
  have HM1 := hid hm1
  clear h htm hm1
  rw [hat] at hat2
  have HA2 := hid hat2
  clear hat2 hat
  obtain ⟨g, cc, rfl, hcell⟩ := row_pos H.out.row (Nat.lt_of_le_of_lt (Nat.zero_le i) (List.getElem?_eq_some_iff.1 hi).1)
  obtain ⟨client, service, key, from_, until_, renew, flags⟩ := t
  have ht := tk_at hi
  have e0 := hcell _ _ (ht 0 _ rfl)
  have e1 := hcell _ _ (ht 1 _ rfl)
  have e2 := hcell _ _ (ht 2 _ rfl)
  have e3 := hcell _ _ (ht 3 _ rfl)
  have e4 := hcell _ _ (ht 4 _ rfl)
  have e5 := hcell _ _ (ht 5 _ rfl)
  have e6 := hcell _ _ (ht 6 _ rfl)
  dsimp only at e0 e1 e2 e3 e4 e5 e6
  rw [Nat.add_zero] at e0
  have hil : i < l.length := (List.getElem?_eq_some_iff.1 hi).1
  have hkey := H.out.keys _ (List.mem_of_getElem? hi)
  dsimp only at hkey
  have HKEY := hid hkey
  have i0 : (0 : Int) ≤ (i : Int) := Int.natCast_nonneg _
  have i1 : (i : Int) < (l.length : Int) := by omega
  have d0 : decide ((i : Int) < 0) = false := by rw [decide_eq_false_iff_not]; omega
  clear ht hcell hi hkey
  dsimp only at h1 h2 hkl
  have d1 : decide (now < from_) = false := by rw [decide_eq_false_iff_not]; omega
  have d2 : decide (until_ < now) = false := by rw [decide_eq_false_iff_not]; omega
  have HKL := hid hkl
  clear hkl
  simp only [TkS.cells]
  go_enter Try.func20, Try.ntmps20
  go_wp2_with (first
    | (go_at_call 34; refine (his_some _ _ room hr c0).mono ?_; rintro e w' ⟨rfl, rfl⟩)
    | (go_at_call 30; refine HTM.out.mono ?_; rintro e w' ⟨rfl, rfl⟩)
    | (go_at_call 35; refine HA2.out.mono ?_; rintro e w3 ⟨rfl, hm3⟩; have hR3 := hm3.get (get_alloc (get_new w (.cells #[.string ⟨#[]⟩, .string ⟨#[]⟩, .slice none 0 0, .int .i64 0, .int .i64 0, .int .i64 0, .int .i64 0] 50)) (.cells #[.int .i64 now] 3)) (by simp); have r0 : w3.cell? ⟨w.heap.size, 0, none⟩ = some (.string ⟨#[]⟩) := cell_at hR3 0; have r1 : w3.cell? ⟨w.heap.size, 1, none⟩ = some (.string ⟨#[]⟩) := cell_at hR3 1; have r2 : w3.cell? ⟨w.heap.size, 2, none⟩ = some (.slice none 0 0) := cell_at hR3 2; have r3 : w3.cell? ⟨w.heap.size, 3, none⟩ = some (.int .i64 0) := cell_at hR3 3; have r4 : w3.cell? ⟨w.heap.size, 4, none⟩ = some (.int .i64 0) := cell_at hR3 4; have r5 : w3.cell? ⟨w.heap.size, 5, none⟩ = some (.int .i64 0) := cell_at hR3 5; have r6 : w3.cell? ⟨w.heap.size, 6, none⟩ = some (.int .i64 0) := cell_at hR3 6; have rf : ∀ i, w3.frozen? ⟨w.heap.size, i, none⟩ = false := free_at hR3; have HR3 := hid hR3; have HM3 := hid ((HM1.out.alloc _).trans hm3); clear hm3 hR3; have hm3' := HM3.out; have c1 : w3.cell? ⟨x, 1, none⟩ = some (.slice (some ⟨g, 0, none⟩) l.length cc) := cell_at (H.out.mod0 hm3').cells 1; have t0 := hm3'.cell e0 (by simp); have t1 := hm3'.cell e1 (by simp); have t2 := hm3'.cell e2 (by simp); have t3 := hm3'.cell e3 (by simp); have t4 := hm3'.cell e4 (by simp); have t5 := hm3'.cell e5 (by simp); have t6 := hm3'.cell e6 (by simp); clear hm3'))
  have hown := own_any w3 (⟨client, service, key, from_, until_, renew, flags⟩ : TkS) kv (HKEY.out.mod0 HM3.out).in_ HKL.out
  simp only [TkS.cells] at hown
  refine hown.mono ?_
  clear hown
  rintro e w5 ⟨kv', rfl, hk5⟩
  obtain ⟨a5, c5, rfl⟩ := row_slice hk5.1
  have hR5 := hk5.2.1.get HR3.out (by simp)
  clear r0 r1 r2 r3 r4 r5 r6 rf c1 t0 t1 t2 t3 t4 t5 t6 e0 e1 e2 e3 e4 e5 e6
  have r0 : w5.cell? ⟨w.heap.size, 0, none⟩ = some (.string ⟨#[]⟩) := cell_at hR5 0
  have r1 : w5.cell? ⟨w.heap.size, 1, none⟩ = some (.string ⟨#[]⟩) := cell_at hR5 1
  have r2 : w5.cell? ⟨w.heap.size, 2, none⟩ = some (.slice none 0 0) := cell_at hR5 2
  have r3 : w5.cell? ⟨w.heap.size, 3, none⟩ = some (.int .i64 0) := cell_at hR5 3
  have r4 : w5.cell? ⟨w.heap.size, 4, none⟩ = some (.int .i64 0) := cell_at hR5 4
  have r5 : w5.cell? ⟨w.heap.size, 5, none⟩ = some (.int .i64 0) := cell_at hR5 5
  have r6 : w5.cell? ⟨w.heap.size, 6, none⟩ = some (.int .i64 0) := cell_at hR5 6
  have rf : ∀ i, w5.frozen? ⟨w.heap.size, i, none⟩ = false := free_at hR5
  have HR5 := hid hR5
  have HK5 := hid hk5
  clear hR5 hk5
  go_wp2_with fail
  have hm8 : Mod [w.heap.size] w5 (((((((w5.setCell ⟨w.heap.size, 0, none⟩ (.string client)).setCell ⟨w.heap.size, 1, none⟩ (.string service)).setCell ⟨w.heap.size, 2, none⟩ (.slice a5 key.length c5)).setCell ⟨w.heap.size, 3, none⟩ (.int .i64 from_)).setCell ⟨w.heap.size, 4, none⟩ (.int .i64 until_)).setCell ⟨w.heap.size, 5, none⟩ (.int .i64 renew)).setCell ⟨w.heap.size, 6, none⟩ (.int .i64 flags)) := (Mod.setCell (Mod.setCell (Mod.setCell (Mod.setCell (Mod.setCell (Mod.setCell (Mod.setCell (Mod.refl _ _) (by simp) _) (by simp) _) (by simp) _) (by simp) _) (by simp) _) (by simp) _) (by simp) _)
  have hR8 := (get_setCell_self (get_setCell_self (get_setCell_self (get_setCell_self (get_setCell_self (get_setCell_self (get_setCell_self HR5.out 0 (.string client)) 1 (.string service)) 2 (.slice a5 key.length c5)) 3 (.int .i64 from_)) 4 (.int .i64 until_)) 5 (.int .i64 renew)) 6 (.int .i64 flags))
  simp only [List.setIfInBounds_toArray, List.set_cons_zero, List.set_cons_succ] at hR8
  generalize (((((((w5.setCell ⟨w.heap.size, 0, none⟩ (.string client)).setCell ⟨w.heap.size, 1, none⟩ (.string service)).setCell ⟨w.heap.size, 2, none⟩ (.slice a5 key.length c5)).setCell ⟨w.heap.size, 3, none⟩ (.int .i64 from_)).setCell ⟨w.heap.size, 4, none⟩ (.int .i64 until_)).setCell ⟨w.heap.size, 5, none⟩ (.int .i64 renew)).setCell ⟨w.heap.size, 6, none⟩ (.int .i64 flags)) = W8 at *
  clear r0 r1 r2 r3 r4 r5 r6 rf
  have q0 : W8.cell? ⟨w.heap.size, 0, none⟩ = some (.string client) := cell_at hR8 0
  have q1 : W8.cell? ⟨w.heap.size, 1, none⟩ = some (.string service) := cell_at hR8 1
  have q2 : W8.cell? ⟨w.heap.size, 2, none⟩ = some (.slice a5 key.length c5) := cell_at hR8 2
  have q3 : W8.cell? ⟨w.heap.size, 3, none⟩ = some (.int .i64 from_) := cell_at hR8 3
  have q4 : W8.cell? ⟨w.heap.size, 4, none⟩ = some (.int .i64 until_) := cell_at hR8 4
  have q5 : W8.cell? ⟨w.heap.size, 5, none⟩ = some (.int .i64 renew) := cell_at hR8 5
  have q6 : W8.cell? ⟨w.heap.size, 6, none⟩ = some (.int .i64 flags) := cell_at hR8 6
  refine bodyPost_ret (v := .tuple #[.agg #[.string client, .string service, .slice a5 key.length c5, .int .i64 from_, .int .i64 until_, .int .i64 renew, .int .i64 flags], .int .i64 0]) (by simp [results, Try.results20, go_sem, q0, q1, q2, q3, q4, q5, q6]) rfl ⟨_, rfl, ?_⟩
  have hwm := HM3.out.trans HK5.out.2.1
  refine ⟨row_mod HK5.out.1 hm8 (HK5.out.1.apart (fun b hb => ⟨_, _, (List.mem_singleton.1 hb) ▸ HR5.out, by decide⟩)), hwm.trans' hm8 (fun y hy => .inr (Nat.le_of_eq (List.mem_singleton.1 hy).symm)), fun q hq => Nat.le_trans HM3.out.size (HK5.out.2.2 q hq)⟩

theorem find_late (w : World) (x : Nat) (v : Value) (room : Int) (l : Tks) (c s : ByteArray) (now : Int) (h : HeldAt w x v room l) (hr : 0 < room) (hlen : l.length ≤ 1000) (htn : timeOk now = true) (i : Nat) (kv : Value) (t : TkS) (hat : atS l c s = (i : Int)) (hi : l[i]? = some (kv, t))
    (hbad : now < t.from_ ∨ t.until_ < now) :
    Calls Try.prog 20 #[.pointer (some ⟨x, 0, none⟩), .string c, .string s, .int .i64 now] w fun e w' => e = .returned (.tuple #[.agg (noTk.cells (.slice none 0 0)).toArray, .int .i64 5]) ∧ Mod [] w w' := by
  have hm1 : Mod [] w (w.alloc (.cells #[.string ⟨#[]⟩, .string ⟨#[]⟩, .slice none 0 0, .int .i64 0, .int .i64 0, .int .i64 0, .int .i64 0] 50)) := Mod.alloc (Mod.refl _ _) _
  have c0 : (w.alloc (.cells #[.string ⟨#[]⟩, .string ⟨#[]⟩, .slice none 0 0, .int .i64 0, .int .i64 0, .int .i64 0, .int .i64 0] 50)).cell? ⟨x, 0, none⟩ = some (.int .i64 room) := cell_at (get_alloc h.cells _) 0
  have htm := times1 (w.alloc (.cells #[.string ⟨#[]⟩, .string ⟨#[]⟩, .slice none 0 0, .int .i64 0, .int .i64 0, .int .i64 0, .int .i64 0] 50)) now
  rw [World.size_alloc, htn] at htm
  have hat2 := at_any ((w.alloc (.cells #[.string ⟨#[]⟩, .string ⟨#[]⟩, .slice none 0 0, .int .i64 0, .int .i64 0, .int .i64 0, .int .i64 0] 50)).alloc (.cells #[.int .i64 now] 3)) x room l v c s ((h.mod0 (hm1.alloc _)).cells) ((h.mod0 (hm1.alloc _)).row) hlen
  have H := hid h
  have HTM := hid htm
  have HM1 := hid hm1
  clear h htm hm1
  rw [hat] at hat2
  have HA2 := hid hat2
  clear hat2 hat
  obtain ⟨g, cc, rfl, hcell⟩ := row_pos H.out.row (Nat.lt_of_le_of_lt (Nat.zero_le i) (List.getElem?_eq_some_iff.1 hi).1)
  obtain ⟨client, service, key, from_, until_, renew, flags⟩ := t
  have ht := tk_at hi
  have e0 := hcell _ _ (ht 0 _ rfl)
  have e1 := hcell _ _ (ht 1 _ rfl)
  have e2 := hcell _ _ (ht 2 _ rfl)
  have e3 := hcell _ _ (ht 3 _ rfl)
  have e4 := hcell _ _ (ht 4 _ rfl)
  have e5 := hcell _ _ (ht 5 _ rfl)
  have e6 := hcell _ _ (ht 6 _ rfl)
  dsimp only at e0 e1 e2 e3 e4 e5 e6
  rw [Nat.add_zero] at e0
  have hil : i < l.length := (List.getElem?_eq_some_iff.1 hi).1
  have hkey := H.out.keys _ (List.mem_of_getElem? hi)
  dsimp only at hkey
  have HKEY := hid hkey
  have i0 : (0 : Int) ≤ (i : Int) := Int.natCast_nonneg _
  have i1 : (i : Int) < (l.length : Int) := by omega
  have d0 : decide ((i : Int) < 0) = false := by rw [decide_eq_false_iff_not]; omega
  clear ht hcell hi hkey
  dsimp only at hbad
  by_cases h1 : now < from_
  · have d1 : decide (now < from_) = true := by simpa using h1
    clear hbad h1
    go_enter Try.func20, Try.ntmps20
    go_wp2_with (first
      | (go_at_call 34; refine (his_some _ _ room hr c0).mono ?_; rintro e w' ⟨rfl, rfl⟩)
      | (go_at_call 30; refine HTM.out.mono ?_; rintro e w' ⟨rfl, rfl⟩)
      | (go_at_call 35; refine HA2.out.mono ?_; rintro e w3 ⟨rfl, hm3⟩; have hR3 := hm3.get (get_alloc (get_new w (.cells #[.string ⟨#[]⟩, .string ⟨#[]⟩, .slice none 0 0, .int .i64 0, .int .i64 0, .int .i64 0, .int .i64 0] 50)) (.cells #[.int .i64 now] 3)) (by simp); have r0 : w3.cell? ⟨w.heap.size, 0, none⟩ = some (.string ⟨#[]⟩) := cell_at hR3 0; have r1 : w3.cell? ⟨w.heap.size, 1, none⟩ = some (.string ⟨#[]⟩) := cell_at hR3 1; have r2 : w3.cell? ⟨w.heap.size, 2, none⟩ = some (.slice none 0 0) := cell_at hR3 2; have r3 : w3.cell? ⟨w.heap.size, 3, none⟩ = some (.int .i64 0) := cell_at hR3 3; have r4 : w3.cell? ⟨w.heap.size, 4, none⟩ = some (.int .i64 0) := cell_at hR3 4; have r5 : w3.cell? ⟨w.heap.size, 5, none⟩ = some (.int .i64 0) := cell_at hR3 5; have r6 : w3.cell? ⟨w.heap.size, 6, none⟩ = some (.int .i64 0) := cell_at hR3 6; have rf : ∀ i, w3.frozen? ⟨w.heap.size, i, none⟩ = false := free_at hR3; have HR3 := hid hR3; have HM3 := hid ((HM1.out.alloc _).trans hm3); clear hm3 hR3; have hm3' := HM3.out; have c1 : w3.cell? ⟨x, 1, none⟩ = some (.slice (some ⟨g, 0, none⟩) l.length cc) := cell_at (H.out.mod0 hm3').cells 1; have t0 := hm3'.cell e0 (by simp); have t1 := hm3'.cell e1 (by simp); have t2 := hm3'.cell e2 (by simp); have t3 := hm3'.cell e3 (by simp); have t4 := hm3'.cell e4 (by simp); have t5 := hm3'.cell e5 (by simp); have t6 := hm3'.cell e6 (by simp); clear hm3'))
    have hm8 : Mod [w.heap.size] w3 (((((((w3.setCell ⟨w.heap.size, 0, none⟩ (.string ⟨#[]⟩)).setCell ⟨w.heap.size, 1, none⟩ (.string ⟨#[]⟩)).setCell ⟨w.heap.size, 2, none⟩ (.slice none 0 0)).setCell ⟨w.heap.size, 3, none⟩ (.int .i64 0)).setCell ⟨w.heap.size, 4, none⟩ (.int .i64 0)).setCell ⟨w.heap.size, 5, none⟩ (.int .i64 0)).setCell ⟨w.heap.size, 6, none⟩ (.int .i64 0)) := (Mod.setCell (Mod.setCell (Mod.setCell (Mod.setCell (Mod.setCell (Mod.setCell (Mod.setCell (Mod.refl _ _) (by simp) _) (by simp) _) (by simp) _) (by simp) _) (by simp) _) (by simp) _) (by simp) _)
    have hR8 := (get_setCell_self (get_setCell_self (get_setCell_self (get_setCell_self (get_setCell_self (get_setCell_self (get_setCell_self HR3.out 0 (.string ⟨#[]⟩)) 1 (.string ⟨#[]⟩)) 2 (.slice none 0 0)) 3 (.int .i64 0)) 4 (.int .i64 0)) 5 (.int .i64 0)) 6 (.int .i64 0))
    simp only [List.setIfInBounds_toArray, List.set_cons_zero, List.set_cons_succ] at hR8
    generalize (((((((w3.setCell ⟨w.heap.size, 0, none⟩ (.string ⟨#[]⟩)).setCell ⟨w.heap.size, 1, none⟩ (.string ⟨#[]⟩)).setCell ⟨w.heap.size, 2, none⟩ (.slice none 0 0)).setCell ⟨w.heap.size, 3, none⟩ (.int .i64 0)).setCell ⟨w.heap.size, 4, none⟩ (.int .i64 0)).setCell ⟨w.heap.size, 5, none⟩ (.int .i64 0)).setCell ⟨w.heap.size, 6, none⟩ (.int .i64 0)) = W8 at *
    clear r0 r1 r2 r3 r4 r5 r6 rf
    have q0 : W8.cell? ⟨w.heap.size, 0, none⟩ = some (.string ⟨#[]⟩) := cell_at hR8 0
    have q1 : W8.cell? ⟨w.heap.size, 1, none⟩ = some (.string ⟨#[]⟩) := cell_at hR8 1
    have q2 : W8.cell? ⟨w.heap.size, 2, none⟩ = some (.slice none 0 0) := cell_at hR8 2
    have q3 : W8.cell? ⟨w.heap.size, 3, none⟩ = some (.int .i64 0) := cell_at hR8 3
    have q4 : W8.cell? ⟨w.heap.size, 4, none⟩ = some (.int .i64 0) := cell_at hR8 4
    have q5 : W8.cell? ⟨w.heap.size, 5, none⟩ = some (.int .i64 0) := cell_at hR8 5
    have q6 : W8.cell? ⟨w.heap.size, 6, none⟩ = some (.int .i64 0) := cell_at hR8 6
    refine bodyPost_ret (v := .tuple #[.agg #[.string ⟨#[]⟩, .string ⟨#[]⟩, .slice none 0 0, .int .i64 0, .int .i64 0, .int .i64 0, .int .i64 0], .int .i64 5]) (by simp [results, Try.results20, go_sem, q0, q1, q2, q3, q4, q5, q6]) rfl ⟨rfl, HM3.out.trans' hm8 (fun x hx => .inr (Nat.le_of_eq (List.mem_singleton.1 hx).symm))⟩
  · have d1 : decide (now < from_) = false := by simpa using h1
    have d2 : decide (until_ < now) = true := by rw [decide_eq_true_eq]; omega
    clear hbad h1
    go_enter Try.func20, Try.ntmps20
    go_wp2_with (first
      | (go_at_call 34; refine (his_some _ _ room hr c0).mono ?_; rintro e w' ⟨rfl, rfl⟩)
      | (go_at_call 30; refine HTM.out.mono ?_; rintro e w' ⟨rfl, rfl⟩)
      | (go_at_call 35; refine HA2.out.mono ?_; rintro e w3 ⟨rfl, hm3⟩; have hR3 := hm3.get (get_alloc (get_new w (.cells #[.string ⟨#[]⟩, .string ⟨#[]⟩, .slice none 0 0, .int .i64 0, .int .i64 0, .int .i64 0, .int .i64 0] 50)) (.cells #[.int .i64 now] 3)) (by simp); have r0 : w3.cell? ⟨w.heap.size, 0, none⟩ = some (.string ⟨#[]⟩) := cell_at hR3 0; have r1 : w3.cell? ⟨w.heap.size, 1, none⟩ = some (.string ⟨#[]⟩) := cell_at hR3 1; have r2 : w3.cell? ⟨w.heap.size, 2, none⟩ = some (.slice none 0 0) := cell_at hR3 2; have r3 : w3.cell? ⟨w.heap.size, 3, none⟩ = some (.int .i64 0) := cell_at hR3 3; have r4 : w3.cell? ⟨w.heap.size, 4, none⟩ = some (.int .i64 0) := cell_at hR3 4; have r5 : w3.cell? ⟨w.heap.size, 5, none⟩ = some (.int .i64 0) := cell_at hR3 5; have r6 : w3.cell? ⟨w.heap.size, 6, none⟩ = some (.int .i64 0) := cell_at hR3 6; have rf : ∀ i, w3.frozen? ⟨w.heap.size, i, none⟩ = false := free_at hR3; have HR3 := hid hR3; have HM3 := hid ((HM1.out.alloc _).trans hm3); clear hm3 hR3; have hm3' := HM3.out; have c1 : w3.cell? ⟨x, 1, none⟩ = some (.slice (some ⟨g, 0, none⟩) l.length cc) := cell_at (H.out.mod0 hm3').cells 1; have t0 := hm3'.cell e0 (by simp); have t1 := hm3'.cell e1 (by simp); have t2 := hm3'.cell e2 (by simp); have t3 := hm3'.cell e3 (by simp); have t4 := hm3'.cell e4 (by simp); have t5 := hm3'.cell e5 (by simp); have t6 := hm3'.cell e6 (by simp); clear hm3'))
    have hm8 : Mod [w.heap.size] w3 (((((((w3.setCell ⟨w.heap.size, 0, none⟩ (.string ⟨#[]⟩)).setCell ⟨w.heap.size, 1, none⟩ (.string ⟨#[]⟩)).setCell ⟨w.heap.size, 2, none⟩ (.slice none 0 0)).setCell ⟨w.heap.size, 3, none⟩ (.int .i64 0)).setCell ⟨w.heap.size, 4, none⟩ (.int .i64 0)).setCell ⟨w.heap.size, 5, none⟩ (.int .i64 0)).setCell ⟨w.heap.size, 6, none⟩ (.int .i64 0)) := (Mod.setCell (Mod.setCell (Mod.setCell (Mod.setCell (Mod.setCell (Mod.setCell (Mod.setCell (Mod.refl _ _) (by simp) _) (by simp) _) (by simp) _) (by simp) _) (by simp) _) (by simp) _) (by simp) _)
    have hR8 := (get_setCell_self (get_setCell_self (get_setCell_self (get_setCell_self (get_setCell_self (get_setCell_self (get_setCell_self HR3.out 0 (.string ⟨#[]⟩)) 1 (.string ⟨#[]⟩)) 2 (.slice none 0 0)) 3 (.int .i64 0)) 4 (.int .i64 0)) 5 (.int .i64 0)) 6 (.int .i64 0))
    simp only [List.setIfInBounds_toArray, List.set_cons_zero, List.set_cons_succ] at hR8
    generalize (((((((w3.setCell ⟨w.heap.size, 0, none⟩ (.string ⟨#[]⟩)).setCell ⟨w.heap.size, 1, none⟩ (.string ⟨#[]⟩)).setCell ⟨w.heap.size, 2, none⟩ (.slice none 0 0)).setCell ⟨w.heap.size, 3, none⟩ (.int .i64 0)).setCell ⟨w.heap.size, 4, none⟩ (.int .i64 0)).setCell ⟨w.heap.size, 5, none⟩ (.int .i64 0)).setCell ⟨w.heap.size, 6, none⟩ (.int .i64 0)) = W8 at *
    clear r0 r1 r2 r3 r4 r5 r6 rf
    have q0 : W8.cell? ⟨w.heap.size, 0, none⟩ = some (.string ⟨#[]⟩) := cell_at hR8 0
    have q1 : W8.cell? ⟨w.heap.size, 1, none⟩ = some (.string ⟨#[]⟩) := cell_at hR8 1
    have q2 : W8.cell? ⟨w.heap.size, 2, none⟩ = some (.slice none 0 0) := cell_at hR8 2
    have q3 : W8.cell? ⟨w.heap.size, 3, none⟩ = some (.int .i64 0) := cell_at hR8 3
    have q4 : W8.cell? ⟨w.heap.size, 4, none⟩ = some (.int .i64 0) := cell_at hR8 4
    have q5 : W8.cell? ⟨w.heap.size, 5, none⟩ = some (.int .i64 0) := cell_at hR8 5
    have q6 : W8.cell? ⟨w.heap.size, 6, none⟩ = some (.int .i64 0) := cell_at hR8 6
    refine bodyPost_ret (v := .tuple #[.agg #[.string ⟨#[]⟩, .string ⟨#[]⟩, .slice none 0 0, .int .i64 0, .int .i64 0, .int .i64 0, .int .i64 0], .int .i64 5]) (by simp [results, Try.results20, go_sem, q0, q1, q2, q3, q4, q5, q6]) rfl ⟨rfl, HM3.out.trans' hm8 (fun x hx => .inr (Nat.le_of_eq (List.mem_singleton.1 hx).symm))⟩
end Go.Proofs.Yteifjbfojjjacaa
