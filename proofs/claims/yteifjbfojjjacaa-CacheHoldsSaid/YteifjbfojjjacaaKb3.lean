/-
  The reference's credential cache, walked: Bytes, without, MakeHeld, Find. No statement of a claim stands here; each contract names what it asks.
-/
import Derived.Test.YteifjbfojjjacaaKb2
set_option linter.unusedSimpArgs false
namespace Go.Proofs.Yteifjbfojjjacaa
open Go Go.RowKit Go.ChangeMaps

theorem bytes_any (w : World) (kv : Value) (k : List Nat) (h : KeyIn w kv k) (hl : k.length ≤ 140737488355328) :
    Calls Try.prog 41 #[kv] w fun e w' => ∃ kv', e = .returned kv' ∧ NewKey w k kv' w' := by
  have hw0 : (w.alloc (.cells #[] 5)).ownsRow 0 5 1 (.slice (some ⟨w.heap.size, 0, none⟩) 0 0) 0 [] := ⟨rfl, .inr ⟨w.heap.size, 0, #[], rfl, Nat.zero_le _, get_new w _, Nat.le_refl _, by unfold maxLen; omega, rfl, rfl⟩⟩
  obtain ⟨i, z, hi, hz, hs, hy, hzs⟩ := elemByte.info
  have happ : ∃ v' w', (Builtin.append_ #[48, 48] 48 #[.slice (some ⟨w.heap.size, 0, none⟩) 0 0, kv]).run Try.prog (w.alloc (.cells #[] 5)) = .ok v' w' ∧ NewKey w k v' w' := by
    rcases h with ⟨rfl, rfl⟩ | ⟨ad, c, rfl, hc⟩
    · refine ⟨_, _, run_append_owned_none (P := Try.prog) (w := w.alloc (.cells #[] 5)) 0 48 48 5 i 1 elemByte.under hi _ 0 [] hw0, hw0, Mod.alloc (Mod.refl _ _) _, fun b hb => ?_⟩
      simp [Value.ownBlock] at hb; omega
    · obtain ⟨v', w', hr, ho, hm, hk, -⟩ := run_app (P := Try.prog) (w.alloc (.cells #[] 5)) 48 48 5 i z 1 1 elemByte.under hi hz hs hy hzs elemByte.pos _ 0 [] hw0 ad k.length c (keyCells k) (by simp [keyCells]) (fun j u hu => by
        have := hc j u hu
        exact (World.cell?_of_block (a := ad.add j) ((Mod.alloc (Mod.refl [] w) (.cells #[] 5)).block _ (World.block_lt_of_cell? w _ this) (by simp))).trans this) (fun u hu => by
        simp only [keyCells, List.mem_map] at hu
        obtain ⟨n, _, rfl⟩ := hu
        rfl) (by unfold maxLen; omega) (by omega)
      refine ⟨v', w', hr, ?_, (Mod.alloc (Mod.refl [] w) _).trans' hm (fun x hx => .inr ?_), fun b hb => ?_⟩
      · have := ho
        rw [List.nil_append, Nat.zero_add] at this
        exact this
      · simp [Value.ownBlock] at hx; omega
      · rcases hk b hb with h | h
        · simp [Value.ownBlock] at h; omega
        · simp at h; omega
  have hkf : ∃ a n c, kv = .slice a n c := by
    rcases h with ⟨rfl, -⟩ | ⟨ad, c, rfl, -⟩ <;> exact ⟨_, _, _, rfl⟩
  obtain ⟨ka, kn, kc, rfl⟩ := hkf
  have HAP := hid happ
  clear happ hw0 h hz hs hy hzs hi
  go_enter Try.func41, Try.ntmps41
  go_wp2_with (first
    | (at_builtin; refine wpList_app_run rfl _ _ 48 rfl (.slice (some ⟨w.heap.size, 0, none⟩) 0 0) (.slice ka kn kc) rfl rfl _ HAP.out ?_; rintro v2 w2 hk2; obtain ⟨a2, c2, rfl⟩ := row_slice hk2.1; have HK2 := hid hk2; clear hk2))
  go_ret
  exact ⟨_, rfl, HK2.out⟩


set_option maxHeartbeats 800000 in
theorem without_any (w : World) (v : Value) (l : Tks) (i : Nat) (hr : w.ownsRow 0 50 7 v l.length (tkCells l)) (hi : i < l.length) (hlen : l.length ≤ 1000) (hkv : ∀ p ∈ l, ∃ a n c, p.1 = .slice a n c) :
    Calls Try.prog 40 #[v, .int .i64 (i : Int)] w fun e w' => ∃ v', e = .returned v' ∧ w'.ownsRow 0 50 7 v' (l.eraseIdx i).length (tkCells (l.eraseIdx i)) ∧ Mod [] w w' ∧ ∀ q, v'.ownBlock = some q → w.heap.size ≤ q := by
  rcases hr.2 with ⟨h, h0⟩ | ⟨g, cap, cur, rfl, hb, hg, hnc, hcm, hcs, htake⟩
  · omega
  obtain ⟨it, z, hit, hz, hsz, hby, hzs⟩ := elemTk.info
  have hs2 := slice_to (P := Try.prog) elemTk.under hit g l.length cap i (by omega)
  obtain ⟨ad, c', hs3, hcell⟩ := slice_from (P := Try.prog) elemTk.under hit g l.length cap (i + 1) (by omega) hnc cur (by rw [hsz]; exact hcs)
  have hcells := hcell w hg
  rw [hsz, htake, tkCells_drop] at hcells
  rw [show ((i + 1 : Nat) : Int) = (i : Int) + 1 from rfl] at hs3
  have h1c : ∀ l' : Tks, (∀ p ∈ l', p ∈ l) → ∀ u ∈ tkCells l', u.oneCell' = true := fun l' hsub u hu => by
    simp only [tkCells, List.mem_flatMap] at hu
    obtain ⟨p, hp, hu3⟩ := hu
    obtain ⟨a, n, c, hpk⟩ := hkv p (hsub p hp)
    simp only [TkS.cells, hpk, List.mem_cons, List.not_mem_nil, or_false] at hu3
    rcases hu3 with rfl | rfl | rfl | rfl | rfl | rfl | rfl <;> rfl
  have hcell1 : ∀ j u, (tkCells (l.take i))[j]? = some u → w.cell? ((⟨g, 0, none⟩ : Addr).add j) = some u := fun j u hu => by
    rw [← tkCells_take] at hu
    rw [List.getElem?_take] at hu
    split at hu
    · exact hr.cells (g := g) rfl j u hu
    · cases hu
  have happ1 : ∀ (W : World) (nb : Nat), Mod [] w W → W.heap[nb]? = some (.cells #[] 50 (0, 0)) → w.heap.size ≤ nb → ∃ v' w', (Builtin.append_ #[46, 46] 46 #[.slice (some ⟨nb, 0, none⟩) 0 0, .slice (some ⟨g, 0, none⟩) i cap]).run Try.prog W = .ok v' w' ∧
      (w'.ownsRow 0 50 7 v' i (tkCells (l.take i)) ∧ Mod [] w w' ∧ ∀ q, v'.ownBlock = some q → w.heap.size ≤ q) := fun W nb hW hnb hnw => by
    have hw0 : W.ownsRow 0 50 7 (.slice (some ⟨nb, 0, none⟩) 0 0) 0 [] := ⟨rfl, .inr ⟨nb, 0, #[], rfl, Nat.zero_le _, hnb, Nat.le_refl _, by unfold maxLen; omega, rfl, rfl⟩⟩
    obtain ⟨v', w', hrun, ho, hm, hk, -⟩ := run_app (P := Try.prog) W 46 46 50 it z 7 88 elemTk.under hit hz hsz hby hzs elemTk.pos _ 0 [] hw0 ⟨g, 0, none⟩ i cap (tkCells (l.take i)) (by rw [tkCells_len]; simp; omega) (fun j u hu => by
      have := hcell1 j u hu
      exact (World.cell?_of_block (a := (⟨g, 0, none⟩ : Addr).add j) (hW.block _ (World.block_lt_of_cell? w _ this) (by simp))).trans this) (h1c _ (fun p hp => List.mem_of_mem_take hp)) (by unfold maxLen; omega) (by omega)
    refine ⟨v', w', hrun, by simpa using ho, hW.trans' hm (fun x hx => .inr (by simp [Value.ownBlock] at hx; omega)), fun q hq => ?_⟩
    rcases hk q hq with h | h
    · simp [Value.ownBlock] at h; omega
    · have := hW.size; omega
  have happ2 : ∀ (W : World) (v1 : Value), W.ownsRow 0 50 7 v1 i (tkCells (l.take i)) → Mod [] w W → (∀ q, v1.ownBlock = some q → w.heap.size ≤ q) → ∃ v' w', (Builtin.append_ #[46, 46] 46 #[v1, .slice (some ad) (l.length - (i + 1)) c']).run Try.prog W = .ok v' w' ∧
      (w'.ownsRow 0 50 7 v' (l.eraseIdx i).length (tkCells (l.eraseIdx i)) ∧ Mod [] w w' ∧ ∀ q, v'.ownBlock = some q → w.heap.size ≤ q) := fun W v1 ho1 hW hv1 => by
    obtain ⟨v', w', hrun, ho, hm, hk, -⟩ := run_app (P := Try.prog) W 46 46 50 it z 7 88 elemTk.under hit hz hsz hby hzs elemTk.pos v1 i _ ho1 ad (l.length - (i + 1)) c' (tkCells (l.drop (i + 1))) (by rw [tkCells_len]; simp) (fun j u hu => by
      have := hcells j u hu
      exact (World.cell?_of_block (a := ad.add j) (hW.block _ (World.block_lt_of_cell? w _ this) (by simp))).trans this) (h1c _ (fun p hp => List.mem_of_mem_drop hp)) (by unfold maxLen; omega) (by omega)
    refine ⟨v', w', hrun, ?_, hW.trans' hm (fun x hx => .inr (hv1 x (by simpa using hx))), fun q hq => ?_⟩
    · rw [List.length_eraseIdx_of_lt hi, erase_two, tkCells_append]
      rw [show i + (l.length - (i + 1)) = l.length - 1 by omega] at ho
      exact ho
    · rcases hk q hq with h | h
      · exact hv1 q h
      · have := hW.size; omega
  have e1 : IntKind.i64.wrap ((i : Int) + 1) = (i : Int) + 1 := IntWalk.i64_in _ (by omega)
  have HA1 := hid happ1
  have HA2 := hid happ2
  clear hcell hcells hcell1 happ1 happ2 h1c htake hcs hcm hz hsz hby hzs hit hr hg
  go_enter Try.func40, Try.ntmps40
  go_wp2_with fail
  refine wp_region_N (fun _ => True) (fun _ => true) (by kernel_rfl) ?_
  refine regA 1 6 (v := ?_) rfl rfl (by kernel_rfl) (by kernel_rfl) (by kernel_rfl) (fun _ _ _ h => h) (by rfl) (fun w => ?_) ?_; rotate_left; (go_simp; first | done | with_reducible rfl); (try simp only [Act.put, List.setIfInBounds_toArray, List.set_cons_zero, List.set_cons_succ])
  refine regA 2 7 (v := ?_) rfl rfl (by kernel_rfl) (by kernel_rfl) (by kernel_rfl) (fun _ _ _ h => h) (by rfl) (fun w => ?_) ?_; rotate_left; (go_simp; first | done | with_reducible rfl); (try simp only [Act.put, List.setIfInBounds_toArray, List.set_cons_zero, List.set_cons_succ])
  refine regA 3 8 (v := ?_) rfl rfl (by kernel_rfl) (by kernel_rfl) (by kernel_rfl) (fun _ _ _ h => h) (by rfl) (fun w => ?_) ?_; rotate_left; (go_simp; first | done | with_reducible rfl); (try simp only [Act.put, List.setIfInBounds_toArray, List.set_cons_zero, List.set_cons_succ])
  refine regA 5 10 (v := ?_) rfl rfl (by kernel_rfl) (by kernel_rfl) (by kernel_rfl) (fun _ _ _ h => h) (by rfl) (fun w => ?_) ?_; rotate_left; (go_simp; first | done | with_reducible rfl); (try simp only [Act.put, List.setIfInBounds_toArray, List.set_cons_zero, List.set_cons_succ])
  refine regA 6 11 (v := ?_) rfl rfl (by kernel_rfl) (by kernel_rfl) (by kernel_rfl) (fun _ _ _ h => h) (by rfl) (fun w => ?_) ?_; rotate_left; (go_simp; first | done | with_reducible rfl); (try simp only [Act.put, List.setIfInBounds_toArray, List.set_cons_zero, List.set_cons_succ])
  refine regA 7 12 (v := ?_) rfl rfl (by kernel_rfl) (by kernel_rfl) (by kernel_rfl) (fun _ _ _ h => h) (by rfl) (fun w => ?_) ?_; rotate_left; (go_simp; first | done | with_reducible rfl); (try simp only [Act.put, List.setIfInBounds_toArray, List.set_cons_zero, List.set_cons_succ])
  refine regA 8 13 (v := ?_) rfl rfl (by kernel_rfl) (by kernel_rfl) (by kernel_rfl) (fun _ _ _ h => h) (by rfl) (fun w => ?_) ?_; rotate_left; (go_simp; first | done | with_reducible rfl); (try simp only [Act.put, List.setIfInBounds_toArray, List.set_cons_zero, List.set_cons_succ])
  refine regOnly 0 (by kernel_rfl) rfl (by rfl) (fun K hK => ?_)
  go_wp2_with fail
  refine hK.out _ _ (fun _ h => h) ?_
  clear hK
  (try simp only [Act.put, List.setIfInBounds_toArray, List.set_cons_zero, List.set_cons_succ])
  refine regOnly 4 (by kernel_rfl) rfl (by rfl) (fun K hK => ?_)
  refine wp_app_run 9 _ _ 46 rfl rfl (.slice (some ⟨w.heap.size, 0, none⟩) 0 0) _ rfl rfl _ (HA1.out _ w.heap.size (Mod.alloc (Mod.refl _ _).drew _) (get_new w.drew _) (Nat.le_refl _)) ?_
  rintro v1 w1 ⟨ho1, hm1, hk1⟩
  have H1 := hid (And.intro ho1 (And.intro hm1 hk1))
  clear ho1 hm1 hk1
  refine hK.out _ _ (fun _ h => h) ?_
  clear hK
  (try simp only [Act.put, List.setIfInBounds_toArray, List.set_cons_zero, List.set_cons_succ])
  refine regOnly 9 (by kernel_rfl) rfl (by rfl) (fun K hK => ?_)
  refine wp_app_run 14 _ _ 46 rfl rfl v1 _ rfl rfl _ (HA2.out w1 v1 H1.out.1 H1.out.2.1 H1.out.2.2) ?_
  rintro v2 w2 ⟨ho2, hm2, hk2⟩
  have H2 := hid (And.intro ho2 (And.intro hm2 hk2))
  obtain ⟨a2, c2, rfl⟩ := row_slice ho2
  clear ho2 hm2 hk2
  refine hK.out _ _ (fun _ h => h) ?_
  clear hK
  (try simp only [Act.put, List.setIfInBounds_toArray, List.set_cons_zero, List.set_cons_succ])
  refine regOnly 10 (by kernel_rfl) rfl (by rfl) (fun K hK => ?_)
  go_wp2_with fail
  refine hK.out _ _ (fun _ h => h) ?_
  clear hK
  (try simp only [Act.put, List.setIfInBounds_toArray, List.set_cons_zero, List.set_cons_succ])
  refine regDone (by kernel_rfl) ?_ _
  go_wp2_with fail
  go_ret
  exact ⟨_, rfl, H2.out.1, H2.out.2.1, H2.out.2.2⟩

/-- Block y is the reference's credential cache. -/
structure RHeldAt (w : World) (y : Nat) (v : Value) (room : Int) (l : Tks) : Prop where
  cells : w.heap[y]? = some (.cells #[.int .i64 room, v] 64 (0, 0))
  row : w.ownsRow 0 50 7 v l.length (tkCells l)
  keys : ∀ p ∈ l, KeyOwn w p.1 p.2.key
theorem RHeldAt.mod0 {w w' : World} {y : Nat} {v : Value} {room : Int} {l : Tks} (h : RHeldAt w y v room l) (m : Mod [] w w') : RHeldAt w' y v room l :=
  ⟨m.get h.cells (by simp), row_mod h.row m (by simp), fun p hp => (h.keys p hp).mod0 m⟩
theorem RHeldAt.ne {w : World} {y : Nat} {v : Value} {room : Int} {l : Tks} (h : RHeldAt w y v room l) : ∀ k, v.ownBlock = some k → k ≠ y := fun k hk => by
  obtain ⟨c, hc⟩ := row_block h.row hk
  exact ne_ty hc h.cells (by decide)
theorem RHeldAt.kv {w : World} {y : Nat} {v : Value} {room : Int} {l : Tks} (h : RHeldAt w y v room l) : ∀ p ∈ l, ∃ a n c, p.1 = .slice a n c := fun p hp => by
  obtain ⟨a, c, e⟩ := row_slice (h.keys p hp)
  exact ⟨a, _, c, e⟩

theorem rmakeHeld_yes (room : Int) (w : World) (h1 : roomOk room = true) :
    Calls Try.prog 24 #[.int .i64 room] w fun e w' => e = .returned (.tuple #[.pointer (some ⟨w.heap.size, 0, none⟩), .int .i64 0]) ∧ RHeldAt w' w.heap.size (.slice none 0 0) room [] ∧ Mod [] w w' := by
  have H1 := hid h1
  clear h1
  go_enter Try.func24, Try.ntmps24
  go_wp2_with (first
    | (go_at_call 31; refine (rroom_any _ _).mono ?_; rw [H1.out]; rintro e w' ⟨rfl, rfl⟩))
  go_ret2
  exact ⟨rfl, ⟨get_new w _, ⟨rfl, .inl ⟨rfl, rfl⟩⟩, fun p hp => by cases hp⟩, (by repeat' (first | exact Mod.refl _ _ | assumption | refine Mod.drewN ?_ _ | refine Mod.drew ?_ | refine Mod.alloc ?_ _ | refine Mod.setCell ?_ (by simp) _ | refine Mod.setBlock ?_ (by simp) _))⟩
theorem rmakeHeld_no (room : Int) (w : World) (h1 : roomOk room = false) :
    Calls Try.prog 24 #[.int .i64 room] w fun e w' => e = .returned (.tuple #[.pointer none, .int .i64 2]) ∧ w' = w := by
  have H1 := hid h1
  clear h1
  go_enter Try.func24, Try.ntmps24
  go_wp2_with (first
    | (go_at_call 31; refine (rroom_any _ _).mono ?_; rw [H1.out]; rintro e w' ⟨rfl, rfl⟩))
  go_ret2
  exact ⟨rfl, rfl⟩
theorem makeHeld_no (room : Int) (w : World) (h1 : roomOk room = false) :
    Calls Try.prog 18 #[.int .i64 room] w fun e w' => e = .returned (.tuple #[.pointer none, .int .i64 2]) ∧ w' = w := by
  have H1 := hid h1
  clear h1
  go_enter Try.func18, Try.ntmps18
  go_wp2_with (first
    | (go_at_call 29; refine (right_any _ _).mono ?_; rw [H1.out]; rintro e w' ⟨rfl, rfl⟩))
  go_ret2
  exact ⟨rfl, rfl⟩
end Go.Proofs.Yteifjbfojjjacaa
