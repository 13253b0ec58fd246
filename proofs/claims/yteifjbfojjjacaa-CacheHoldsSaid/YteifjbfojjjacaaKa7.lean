/-
  A credential cache, walked: Clone, own. No statement of a claim stands here; each contract names what it asks.
-/
import Derived.Test.YteifjbfojjjacaaKa6
set_option linter.unusedSimpArgs false
namespace Go.Proofs.Yteifjbfojjjacaa
open Go Go.RowKit Go.ChangeMaps

theorem elemByte : Elem Try.prog 48 5 1 1 :=
  Elem.of (z := .int .u8 0) Try.underlying48 (by kernel_rfl) rfl (by decide)

/-- A key that may be read. -/
def KeyIn (w : World) (kv : Value) (k : List Nat) : Prop :=
  (kv = .slice none 0 0 ∧ k = []) ∨ ∃ ad c, kv = .slice (some ad) k.length c ∧ ∀ (j : Nat) (u : Value), (keyCells k)[j]? = some u → w.cell? (ad.add j) = some u
theorem KeyIn.mod {w w' : World} {kv : Value} {k : List Nat} (h : KeyIn w kv k) (m : Mod [] w w') : KeyIn w' kv k := by
  rcases h with h | ⟨ad, c, h1, h2⟩
  · exact .inl h
  · exact .inr ⟨ad, c, h1, fun j u hu => (World.cell?_of_block (a := ad.add j) (m.block _ (World.block_lt_of_cell? w _ (h2 j u hu)) (by simp))).trans (h2 j u hu)⟩
/-- A key of one's own. -/
abbrev KeyOwn (w : World) (kv : Value) (k : List Nat) : Prop := w.ownsRow 0 5 1 kv k.length (keyCells k)
theorem KeyOwn.in_ {w : World} {kv : Value} {k : List Nat} (h : KeyOwn w kv k) : KeyIn w kv k := by
  rcases h.2 with ⟨h1, h2⟩ | ⟨g, cap, cur, h1, _⟩
  · exact .inl ⟨h1, List.length_eq_zero_iff.1 h2⟩
  · exact .inr ⟨⟨g, 0, none⟩, cap, h1, fun j u hu => h.cells (g := g) (by rw [h1]; rfl) j u hu⟩

def NewKey (w : World) (k : List Nat) (kv : Value) (w' : World) : Prop := KeyOwn w' kv k ∧ Mod [] w w' ∧ ∀ b, kv.ownBlock = some b → w.heap.size ≤ b

theorem sl_nil (w : World) : (binOp .eql 48 (.slice none 0 0) (.slice none 0 0)).run Try.prog w = Result.ok (.bool true) w := by
  first | rfl | kernel_rfl
theorem sl_some (ad : Addr) (n c : Nat) (w : World) : (binOp .eql 48 (.slice (some ad) n c) (.slice none 0 0)).run Try.prog w = Result.ok (.bool false) w := by
  first | rfl | kernel_rfl

theorem clone_any (w : World) (kv : Value) (k : List Nat) (h : KeyIn w kv k) (hl : k.length ≤ 140737488355328) :
    Calls Try.prog 48 #[kv] w fun e w' => ∃ kv', e = .returned kv' ∧ NewKey w k kv' w' := by
  rcases h with ⟨rfl, rfl⟩ | ⟨ad, c, rfl, hc⟩
  · have hq := sl_nil
    go_enter Try.func48, Try.ntmps48
    go_wp2_with fail
    go_ret
    exact ⟨_, rfl, ⟨rfl, .inl ⟨rfl, rfl⟩⟩, Mod.refl _ _, fun b hb => by cases hb⟩
  · have hw0 : (w.alloc (.cells #[] 5)).ownsRow 0 5 1 (.slice (some ⟨w.heap.size, 0, none⟩) 0 0) 0 [] := ⟨rfl, .inr ⟨w.heap.size, 0, #[], rfl, Nat.zero_le _, get_new w _, Nat.le_refl _, by unfold maxLen; omega, rfl, rfl⟩⟩
    have happ : ∃ v' w', (Builtin.append_ #[48, 48] 48 #[.slice (some ⟨w.heap.size, 0, none⟩) 0 0, .slice (some ad) k.length c]).run Try.prog (w.alloc (.cells #[] 5)) = .ok v' w' ∧ NewKey w k v' w' := by
      obtain ⟨i, z, hi, hz, hs, hy, hzs⟩ := elemByte.info
      obtain ⟨v', w', hr, ho, hm, hk, -⟩ := run_app (P := Try.prog) (w.alloc (.cells #[] 5)) 48 48 5 i z 1 1 elemByte.under hi hz hs hy hzs elemByte.pos _ 0 [] hw0 ad k.length c (keyCells k) (by simp [keyCells]) (fun j u hu => by
        have := hc j u hu
        exact (World.cell?_of_block (a := ad.add j) ((Mod.alloc (Mod.refl [] w) (.cells #[] 5)).block _ (World.block_lt_of_cell? w _ this) (by simp))).trans this) (fun u hu => by
        simp only [keyCells, List.mem_map] at hu
        obtain ⟨n, _, rfl⟩ := hu
        rfl) (by unfold maxLen; omega) (by omega)
      refine ⟨v', w', hr, ?_, (Mod.alloc (Mod.refl [] w) _).trans' hm (fun x hx => .inr ?_), fun b hb => ?_⟩
      · have := ho
        rw [List.nil_append, Nat.zero_add] at this
        exact this
      · simp [Value.ownBlock] at hx; omega
      · rcases hk b hb with h | h
        · simp [Value.ownBlock] at h; omega
        · simp at h; omega
    have HAP := hid happ
    clear happ hw0 hc
    have hq := sl_some ad k.length c
    go_enter Try.func48, Try.ntmps48
    go_wp2_with (first
      | (at_builtin; refine wpList_app_run rfl _ _ 48 rfl (.slice (some ⟨w.heap.size, 0, none⟩) 0 0) (.slice (some ad) k.length c) rfl rfl _ HAP.out ?_; rintro v2 w2 hk2; obtain ⟨a2, c2, rfl⟩ := row_slice hk2.1; have HK2 := hid hk2; clear hk2))
    go_ret
    exact ⟨_, rfl, HK2.out⟩

set_option maxHeartbeats 800000 in
theorem own_any (w : World) (t : TkS) (kv : Value) (h : KeyIn w kv t.key) (hl : t.key.length ≤ 140737488355328) :
    Calls Try.prog 38 #[.agg (t.cells kv).toArray] w fun e w' => ∃ kv', e = .returned (.agg (t.cells kv').toArray) ∧ NewKey w t.key kv' w' := by
  obtain ⟨client, service, key, from_, until_, renew, flags⟩ := t
  simp only [TkS.cells] at *
  obtain ⟨W0, hW0⟩ : ∃ W, W = (w.alloc (.cells #[.string client, .string service, kv, .int .i64 from_, .int .i64 until_, .int .i64 renew, .int .i64 flags] 50)).alloc (.cells #[.string ⟨#[]⟩, .string ⟨#[]⟩, .slice none 0 0, .int .i64 0, .int .i64 0, .int .i64 0, .int .i64 0] 50) := ⟨_, rfl⟩
  have hm0 : Mod [] w W0 := by rw [hW0]; exact Mod.alloc (Mod.alloc (Mod.refl _ _) _) _
  have hB : W0.heap[w.heap.size]? = some (.cells #[.string client, .string service, kv, .int .i64 from_, .int .i64 until_, .int .i64 renew, .int .i64 flags] 50 (0, 0)) := by rw [hW0]; exact get_alloc (get_new w _) _
  have hR : W0.heap[w.heap.size + 1]? = some (.cells #[.string ⟨#[]⟩, .string ⟨#[]⟩, .slice none 0 0, .int .i64 0, .int .i64 0, .int .i64 0, .int .i64 0] 50 (0, 0)) := by
    have := get_new (w.alloc (.cells #[.string client, .string service, kv, .int .i64 from_, .int .i64 until_, .int .i64 renew, .int .i64 flags] 50)) (.cells #[.string ⟨#[]⟩, .string ⟨#[]⟩, .slice none 0 0, .int .i64 0, .int .i64 0, .int .i64 0, .int .i64 0] 50)
    rw [World.size_alloc] at this
    rw [hW0]; exact this
  have HCL := hid (clone_any W0 kv key (h.mod hm0) hl)
  have hk2 : W0.cell? ⟨w.heap.size, 2, none⟩ = some kv := cell_at hB 2
  have HW := hid (And.intro hm0 (And.intro hB hR))
  clear hm0 hB hR h
  go_enter Try.func38, Try.ntmps38
  go_wp2_with fail
  rw [← hW0]
  clear hW0
  refine HCL.out.mono ?_
  rintro e w2 ⟨kv', rfl, hk'⟩
  obtain ⟨a', c', rfl⟩ := row_slice hk'.1
  have hB := hk'.2.1.get HW.out.2.1 (by simp)
  have hR := hk'.2.1.get HW.out.2.2 (by simp)
  have hnb : ∀ (b : Nat) (c : Array Value), w2.heap[b]? = some (.cells c 50 (0, 0)) → ∀ q, (Value.slice a' key.length c').ownBlock = some q → q ∉ [b] := fun b c hb q hq => by
    obtain ⟨cs, hcs⟩ := row_block hk'.1 hq
    simpa using ne_ty hcs hb (by decide)
  have hn1 := hnb _ _ hB
  have hn2 := hnb _ _ hR
  have HK := hid hk'
  clear hk' hk2 hnb HCL
  have hmw := HW.out.1
  have HMW := hid hmw
  clear hmw HW
  have hBR : w.heap.size ≠ w.heap.size + 1 := by omega
  have HSZ := hid (Nat.le_refl w.heap.size)
  have f0 : ∀ i, w2.frozen? ⟨w.heap.size, i, none⟩ = false := free_at hB
  have f1 : ∀ i, w2.frozen? ⟨w.heap.size + 1, i, none⟩ = false := free_at hR
  have b0 : w2.cell? ⟨w.heap.size, 0, none⟩ = some (.string client) := cell_at hB 0
  have b1 : w2.cell? ⟨w.heap.size, 1, none⟩ = some (.string service) := cell_at hB 1
  have b2 : w2.cell? ⟨w.heap.size, 2, none⟩ = some kv := cell_at hB 2
  have b3 : w2.cell? ⟨w.heap.size, 3, none⟩ = some (.int .i64 from_) := cell_at hB 3
  have b4 : w2.cell? ⟨w.heap.size, 4, none⟩ = some (.int .i64 until_) := cell_at hB 4
  have b5 : w2.cell? ⟨w.heap.size, 5, none⟩ = some (.int .i64 renew) := cell_at hB 5
  have b6 : w2.cell? ⟨w.heap.size, 6, none⟩ = some (.int .i64 flags) := cell_at hB 6
  have r0 : w2.cell? ⟨w.heap.size + 1, 0, none⟩ = some (.string ⟨#[]⟩) := cell_at hR 0
  have r1 : w2.cell? ⟨w.heap.size + 1, 1, none⟩ = some (.string ⟨#[]⟩) := cell_at hR 1
  have r2 : w2.cell? ⟨w.heap.size + 1, 2, none⟩ = some (.slice none 0 0) := cell_at hR 2
  have r3 : w2.cell? ⟨w.heap.size + 1, 3, none⟩ = some (.int .i64 0) := cell_at hR 3
  have r4 : w2.cell? ⟨w.heap.size + 1, 4, none⟩ = some (.int .i64 0) := cell_at hR 4
  have r5 : w2.cell? ⟨w.heap.size + 1, 5, none⟩ = some (.int .i64 0) := cell_at hR 5
  have r6 : w2.cell? ⟨w.heap.size + 1, 6, none⟩ = some (.int .i64 0) := cell_at hR 6
  have HRh := hid hR
  clear hB hR
  go_wp2_with fail
  have hm : Mod [w.heap.size, w.heap.size + 1] w2 ((((((((w2.setCell ⟨w.heap.size, 2, none⟩ (.slice a' key.length c')).setCell ⟨w.heap.size + 1, 0, none⟩ (.string client)).setCell ⟨w.heap.size + 1, 1, none⟩ (.string service)).setCell ⟨w.heap.size + 1, 2, none⟩ (.slice a' key.length c')).setCell ⟨w.heap.size + 1, 3, none⟩ (.int .i64 from_)).setCell ⟨w.heap.size + 1, 4, none⟩ (.int .i64 until_)).setCell ⟨w.heap.size + 1, 5, none⟩ (.int .i64 renew)).setCell ⟨w.heap.size + 1, 6, none⟩ (.int .i64 flags)) :=
    Mod.setCell (Mod.setCell (Mod.setCell (Mod.setCell (Mod.setCell (Mod.setCell (Mod.setCell (Mod.setCell (Mod.refl _ _) (by simp) _) (by simp) _) (by simp) _) (by simp) _) (by simp) _) (by simp) _) (by simp) _) (by simp) _
  have hR8 := get_setCell_self (get_setCell_self (get_setCell_self (get_setCell_self (get_setCell_self (get_setCell_self (get_setCell_self (get_setCell HRh.out (p := ⟨w.heap.size, 2, none⟩) (by simp) (.slice a' key.length c')) 0 (.string client)) 1 (.string service)) 2 (.slice a' key.length c')) 3 (.int .i64 from_)) 4 (.int .i64 until_)) 5 (.int .i64 renew)) 6 (.int .i64 flags)
  simp only [List.setIfInBounds_toArray, List.set_cons_zero, List.set_cons_succ] at hR8
  generalize ((((((((w2.setCell ⟨w.heap.size, 2, none⟩ (.slice a' key.length c')).setCell ⟨w.heap.size + 1, 0, none⟩ (.string client)).setCell ⟨w.heap.size + 1, 1, none⟩ (.string service)).setCell ⟨w.heap.size + 1, 2, none⟩ (.slice a' key.length c')).setCell ⟨w.heap.size + 1, 3, none⟩ (.int .i64 from_)).setCell ⟨w.heap.size + 1, 4, none⟩ (.int .i64 until_)).setCell ⟨w.heap.size + 1, 5, none⟩ (.int .i64 renew)).setCell ⟨w.heap.size + 1, 6, none⟩ (.int .i64 flags)) = W8 at *
  clear f0 f1 b0 b1 b2 b3 b4 b5 b6 r0 r1 r2 r3 r4 r5 r6
  have q0 : W8.cell? ⟨w.heap.size + 1, 0, none⟩ = some (.string client) := cell_at hR8 0
  have q1 : W8.cell? ⟨w.heap.size + 1, 1, none⟩ = some (.string service) := cell_at hR8 1
  have q2 : W8.cell? ⟨w.heap.size + 1, 2, none⟩ = some (.slice a' key.length c') := cell_at hR8 2
  have q3 : W8.cell? ⟨w.heap.size + 1, 3, none⟩ = some (.int .i64 from_) := cell_at hR8 3
  have q4 : W8.cell? ⟨w.heap.size + 1, 4, none⟩ = some (.int .i64 until_) := cell_at hR8 4
  have q5 : W8.cell? ⟨w.heap.size + 1, 5, none⟩ = some (.int .i64 renew) := cell_at hR8 5
  have q6 : W8.cell? ⟨w.heap.size + 1, 6, none⟩ = some (.int .i64 flags) := cell_at hR8 6
  refine bodyPost_ret (v := .agg #[.string client, .string service, .slice a' key.length c', .int .i64 from_, .int .i64 until_, .int .i64 renew, .int .i64 flags]) (by simp [results, Try.results38, go_sem, q0, q1, q2, q3, q4, q5, q6]) rfl ⟨_, rfl, ?_⟩
  refine ⟨row_mod HK.out.1 hm (fun q hq => ?_), (HMW.out.trans HK.out.2.1).trans' hm (fun x hx => .inr ?_), fun q hq => Nat.le_trans HMW.out.size (HK.out.2.2 q hq)⟩
  · have h1 := hn1 q hq
    have h2 := hn2 q hq
    simp only [List.mem_cons, List.not_mem_nil, or_false] at h1 h2 ⊢
    exact fun h => h.elim h1 h2
  · simp only [List.mem_cons, List.not_mem_nil, or_false] at hx
    omega
end Go.Proofs.Yteifjbfojjjacaa
