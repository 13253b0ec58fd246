/-
  CacheFinds, walked. No statement of a claim stands here; each contract names what it asks.
-/
import Derived.Test.YteifjbfojjjacaaKaZ
import Derived.Test.YteifjbfojjjacaaKaM
import Derived.Test.YteifjbfojjjacaaKaW
import Derived.Deep.DeepCutAuto
import Derived.Deep.RegionHeld3
import Derived.BigQuiet
set_option linter.unusedSimpArgs false
namespace Go.Proofs.Yteifjbfojjjacaa
open Go Go.RowKit Go.ChangeMaps

theorem FindsAt.mod1 {W W' W'' : World} {x : Nat} {v : Value} {room : Int} {l : Tks} {vp : Value} {put : Tks} (h : FindsAt W W' x v room l vp put) {bl : Nat} (m : Mod [bl] W' W'') {cs : Array Value} (hc : W'.heap[bl]? = some (.cells cs 50 (0, 0)))
    (hv : ∀ k, v.ownBlock = some k → k ≠ bl) (hp : ∀ k, vp.ownBlock = some k → k ≠ bl) (hW : W.heap.size ≤ bl) : FindsAt W W'' x v room l vp put :=
  ⟨⟨m.get h.held.cells (by simpa using ne_ty h.held.cells hc (by decide)), row_mod h.held.row m (fun k hk => by simpa using hv k hk), fun p hp => row_mod (h.held.keys p hp) m (KeyOwn.apart (h.held.keys p hp) (fun b hb => ⟨_, _, (List.mem_singleton.1 hb) ▸ hc, by decide⟩))⟩,
    row_mod h.row m (fun k hk => by simpa using hp k hk), h.mod.trans' m (fun b hb => .inr (by rw [List.mem_singleton.1 hb]; exact hW)), h.nx, h.nv, h.np, h.ne, h.keys, h.kl, h.inv, h.len⟩

theorem merge3 {R G : Nat → Value → World → Prop} {T : Prop} (use : (∀ b kv W, R b kv W → G b kv W) → T) (prove : ∀ b kv W, R b kv W → G b kv W) : T := use prove


set_option maxRecDepth 20000 in
set_option maxHeartbeats 12000000 in
theorem finds_any (W : World) (room : Int) (a : Option Addr) (c : Nat) (l : List ActS) (hm : ActsAt W a l) (hlen : l.length ≤ maxLen) :
    Calls Try.prog 5 #[.int .i64 room, .slice a l.length c] W fun e W' => e = .returned (.bool true) ∧ Mod [] W W' := by
  have HMV := hid hm
  clear hm
  have hr : 0 ≤ among room 256 ∧ among room 256 < 256 := ⟨Int.emod_nonneg _ (by omega), Int.emod_lt_of_pos _ (by omega)⟩
  obtain ⟨rm, hrm⟩ : ∃ rm : Int, rm = 1 + among room 256 := ⟨_, rfl⟩
  have e1 : IntKind.i64.wrap (1 + among room 256) = rm := by rw [hrm]; exact IntWalk.i64_in _ (by omega)
  have hrm1 : 1 ≤ rm := by omega
  have hrm2 : rm ≤ 256 := by omega
  have hro : roomOk rm = true := by simp only [roomOk, Bool.and_eq_true, decide_eq_true_eq]; omega
  have HG := hid hro
  clear hro hrm hr
  go_enter Try.func5, Try.ntmps5
  go_wp2_with (first
    | (go_at_call 11; refine (works_any _).mono ?_; rintro e w1 ⟨rfl, hm1⟩; have HM1 := hid hm1; clear hm1)
    | (go_at_call 17; refine (among_any _ _ _ (by omega) (by omega)).mono ?_; rintro e w' ⟨rfl, rfl⟩)
    | (go_at_call 18; refine (makeHeld_yes rm _ HG.out).mono ?_; rintro e w3 ⟨rfl, hc3, hm3⟩; have H3 := hid (And.intro hc3 hm3); clear hc3 hm3))
  have hA : FindsAt W (w3.alloc (.cells #[] 50)) w1.heap.size (.slice none 0 0) rm [] (.slice (some ⟨w3.heap.size, 0, none⟩) 0 0) [] := by
    have ma : Mod [] w3 (w3.alloc (.cells #[] 50)) := Mod.alloc (Mod.refl _ _) _
    refine ⟨⟨ma.get H3.out.1 (by simp), ⟨rfl, .inl ⟨rfl, rfl⟩⟩, fun p hp => (by cases hp)⟩, ⟨rfl, .inr ⟨w3.heap.size, 0, #[], rfl, Nat.zero_le _, get_new w3 _, Nat.le_refl _, by unfold maxLen; omega, rfl, rfl⟩⟩, (HM1.out.trans H3.out.2).trans ma, HM1.out.size, fun k hk => (by cases hk), fun k hk => (by cases hk; exact (HM1.out.trans H3.out.2).size), fun k hk e => (by cases e), fun p hp => (by cases hp), fun p hp => (by cases hp), FInv.nil, by simp; omega⟩
  have HA := hid hA
  clear hA H3 HM1
  generalize w1.heap.size = x at *
  go_loopg [7, 8] l.length (fun gk pv iv W' => ∃ (j : Nat) (v : Value) (lk : Tks) (put : Tks), iv = .int .i64 (j : Int) ∧ gk + j = l.length ∧ j ≤ 100 ∧ put.length ≤ j ∧ FindsAt W W' x v rm lk pv put)
  case atStart => exact ⟨0, _, [], [], rfl, rfl, by omega, Nat.le_refl _, HA.out⟩
  case round =>
    obtain ⟨j, v, lk, put, rfl, hj, hj100, hpl, hF⟩ := hrel
    obtain ⟨ap, cp, rfl⟩ := row_slice hF.row
    have HF := hid hF
    clear hF HA
    by_cases hjn : j < l.length
    · by_cases hj2 : j < 100
      · have hmj : l[j]? = some l[j] := List.getElem?_eq_getElem hjn
        obtain ⟨mb, mo, rfl, hmb, hmc, hkin, hkl⟩ := HMV.out.cell j _ hmj
        generalize l[j] = m at hmj hmc hkin hkl
        obtain ⟨dd, nw, kv, client, service, key, from_, until_, renew, flags⟩ := m
        have hmw : ∀ (W' : World), Mod [] W W' → ∀ j' u, (⟨dd, nw, kv, client, service, key, from_, until_, renew, flags⟩ : ActS).cells[j']? = some u → W'.cell? ⟨mb, mo + j * 9 + j', none⟩ = some u := fun W' hm j' u hu => hm.cell (hmc j' u hu) (by simp)
        have HMW := hid hmw
        dsimp only at hkin hkl
        have HK := hid (And.intro hkin hkl)
        have m2 : wr.cell? ⟨mb, mo + j * 9 + 2, none⟩ = some (.string client) := hmw _ HF.out.mod 2 _ rfl
        have m3 : wr.cell? ⟨mb, mo + j * 9 + 3, none⟩ = some (.string service) := hmw _ HF.out.mod 3 _ rfl
        have m4 : wr.cell? ⟨mb, mo + j * 9 + 4, none⟩ = some kv := hmw _ HF.out.mod 4 _ rfl
        have m5 : wr.cell? ⟨mb, mo + j * 9 + 5, none⟩ = some (.int .i64 from_) := hmw _ HF.out.mod 5 _ rfl
        have m6 : wr.cell? ⟨mb, mo + j * 9 + 6, none⟩ = some (.int .i64 until_) := hmw _ HF.out.mod 6 _ rfl
        have m7 : wr.cell? ⟨mb, mo + j * 9 + 7, none⟩ = some (.int .i64 renew) := hmw _ HF.out.mod 7 _ rfl
        have m8 : wr.cell? ⟨mb, mo + j * 9 + 8, none⟩ = some (.int .i64 flags) := hmw _ HF.out.mod 8 _ rfl
        have j0 : (0 : Int) ≤ (j : Int) := Int.natCast_nonneg _
        have j1 : (j : Int) < (l.length : Int) := by omega
        have j2 : (j : Int) < 100 := by omega
        have HJ := hid (And.intro hj (And.intro hj100 hpl))
        have HMB := hid hmb
        clear hmc hmb hmw hj hj100 hpl hmj hlen hkin hkl
        have HM2 := hid (And.intro m2 (And.intro m3 (And.intro m4 (And.intro m5 (And.intro m6 (And.intro m7 m8))))))
        obtain ⟨tt, htt⟩ : ∃ t : TkS, t = ⟨client, service, key, from_, until_, renew, flags⟩ := ⟨_, rfl⟩
        have hput := put_any wr x v rm lk tt kv HF.out.held (by omega) (by have := HF.out.len; omega) (by rw [htt]; exact HK.out.1.mod HF.out.mod) (by rw [htt]; exact HK.out.2) (fun w' hm => by rw [htt]; exact HF.out.key hm HK.out.1)
        obtain ⟨E, hE⟩ : ∃ E, E = putE tt := ⟨_, rfl⟩
        rw [← hE] at hput
        have hkl2 : tt.key.length ≤ 140737488355328 := by rw [htt]; exact HK.out.2
        have hkin2 : KeyIn W kv tt.key := by rw [htt]; exact HK.out.1
        have hsame : ∀ w5 kv' v5, HeldAt w5 x v5 rm (putS rm lk kv' tt) → Mod (x :: v.ownBlock.toList) wr w5 → (∀ q, v5.ownBlock = some q → v.ownBlock = some q ∨ wr.heap.size ≤ q) → tt.timesOk = false → FindsAt W w5 x v5 rm lk (.slice ap put.length cp) put := fun w5 kv' v5 h1 h2 h3 ht => HF.out.same (W2 := w5) (kv' := kv') (v' := v5) (t := tt) h1 h2 h3 (by omega) hkl2 ht
        have hbb : ∀ w5 kv' v5, HeldAt w5 x v5 rm (putS rm lk kv' tt) → Mod (x :: v.ownBlock.toList) wr w5 → (∀ q, v5.ownBlock = some q → v.ownBlock = some q ∨ wr.heap.size ≤ q) → tt.timesOk = true → Mod [] W w5 ∧ ∃ v' w', (Builtin.append_ #[46, 46] 46 #[.slice ap put.length cp, .slice (some ⟨w5.heap.size, 0, none⟩) 1 1]).run Try.prog (w5.alloc (.cells (tt.cells kv).toArray 50)) = .ok v' w' ∧ FindsAt W w' x v5 rm (putS rm lk kv' tt) v' (put ++ [(kv, tt)]) := by
          intro w5 kv' v5 h1 h2 h3 ht
          have hi := HF.out.inv.put rm kv kv' tt ht
          obtain ⟨a1, a2, a3, a4, a5, a6⟩ := HF.out.put h1 h2 h3 (by omega) hkl2 hi
          exact ⟨a3, FindsAt.more h1 a1 a2 a3 HF.out.nx a4 HF.out.np a5 a6 HF.out.keys hkin2 hi (by have := HJ.out; omega)⟩
        have HE := hid hE
        have HS := hid hsame
        have HB := hid hbb
        have HP := hid hput
        clear hput hE hsame hbb hkl2 hkin2
        have HTT := hid htt
        rw [htt] at HP HS HB HE
        simp only [TkS.cells] at HP
        clear htt
        go_upto_if 47 with (first
          | (go_at_call 19; refine HP.out.mono ?_; rintro e w5 ⟨rfl, kv', v5, hh5, hm5, hv5⟩; have HS5 := hid (HS.out _ _ _ hh5 hm5 hv5); have HB5 := hid (HB.out _ _ _ hh5 hm5 hv5); clear hh5 hm5 hv5 HS HB))
        go_cut [7] (fun pv wx => ∃ (v' : Value) (lk' put' : Tks), FindsAt W wx x v' rm lk' pv put' ∧ put'.length ≤ j + 1)
        case first =>
          clear m2 m3 m4 m5 m6 m7 m8 HP
          cases ht : (⟨client, service, key, from_, until_, renew, flags⟩ : TkS).timesOk with
          | false =>
            have hE2 : E = 2 := by rw [HE.out]; unfold putE; rw [ht]; rfl
            have hF5 := hid (HS5.out ht)
            clear HS5 HB5 HE HM2
            subst hE2
            go_wp2_with fail
            go_meet
            exact ⟨v5, lk, put, hF5.out, by have := HJ.out; omega⟩
          | true =>
            have hE2 : E = 0 := by rw [HE.out]; unfold putE; rw [ht]; rfl
            have h5 := HB5.out ht
            simp only [TkS.cells] at h5
            have H5 := hid h5
            clear HS5 HB5 HE HM2 ht h5
            have n2 : w5.cell? ⟨mb, mo + j * 9 + 2, none⟩ = some (.string client) := HMW.out _ H5.out.1 2 _ rfl
            have n3 : w5.cell? ⟨mb, mo + j * 9 + 3, none⟩ = some (.string service) := HMW.out _ H5.out.1 3 _ rfl
            have n4 : w5.cell? ⟨mb, mo + j * 9 + 4, none⟩ = some kv := HMW.out _ H5.out.1 4 _ rfl
            have n5 : w5.cell? ⟨mb, mo + j * 9 + 5, none⟩ = some (.int .i64 from_) := HMW.out _ H5.out.1 5 _ rfl
            have n6 : w5.cell? ⟨mb, mo + j * 9 + 6, none⟩ = some (.int .i64 until_) := HMW.out _ H5.out.1 6 _ rfl
            have n7 : w5.cell? ⟨mb, mo + j * 9 + 7, none⟩ = some (.int .i64 renew) := HMW.out _ H5.out.1 7 _ rfl
            have n8 : w5.cell? ⟨mb, mo + j * 9 + 8, none⟩ = some (.int .i64 flags) := HMW.out _ H5.out.1 8 _ rfl
            subst hE2
            go_wp2_with (first
              | (at_builtin; refine wpList_app_run rfl _ _ 46 rfl (.slice ap put.length cp) _ rfl rfl _ H5.out.2 ?_; rintro v7 w7 h7; have HF7 := hid h7; clear h7))
            go_meet
            exact ⟨v5, _, _, HF7.out, by have := HJ.out; simp; omega⟩
        case rest =>
          obtain ⟨v5, lk2, put2, hF5, hpl5⟩ := hcut
          clear m2 m3 m4 m5 m6 m7 m8 HP HS5 HB5 HF HM2
          obtain ⟨ap2, cp2, rfl⟩ := row_slice hF5.row
          have n1 : wc.cell? ⟨mb, mo + j * 9 + 1, none⟩ = some (.int .i64 nw) := HMW.out _ hF5.mod 1 _ rfl
          have HF5 := hid hF5
          have HPL := hid hpl5
          clear hF5 hpl5
          go_upto_region 13 with (first
            | (go_at_call 17; refine (among_any _ _ _ (by omega) (by omega)).mono ?_; rintro e w' ⟨rfl, rfl⟩))
          have hnw : 0 ≤ among nw 100 ∧ among nw 100 < 100 := ⟨Int.emod_nonneg _ (by omega), Int.emod_lt_of_pos _ (by omega)⟩
          have hF5 := HF5.out
          have q2 : wc.cell? ⟨mb, mo + j * 9 + 2, none⟩ = some (.string client) := HMW.out _ hF5.mod 2 _ rfl
          have q3 : wc.cell? ⟨mb, mo + j * 9 + 3, none⟩ = some (.string service) := HMW.out _ hF5.mod 3 _ rfl
          clear n1
          generalize among nw 100 = now at *
          obtain ⟨r, hr⟩ : ∃ r, r = findS lk2 client service now := ⟨_, rfl⟩
          have hfind : ∀ W', FindsAt W W' x v5 rm lk2 (.slice ap2 put2.length cp2) put2 → Calls Try.prog 20 #[.pointer (some ⟨x, 0, none⟩), .string client, .string service, .int .i64 now] W' fun e w' => ∃ kv', e = .returned (.tuple #[.agg (r.1.cells kv').toArray, .int .i64 r.2]) ∧ NewKey W' r.1.key kv' w' := by
            rw [hr]
            exact fun W' h => find_any W' x v5 rm lk2 client service now h.held (by omega) (by have := h.len; omega) h.kl
          have HR := hid hr
          clear hr
          obtain ⟨⟨rc, rs, rk, rf, ru, rr, rg⟩, re⟩ := r
          simp only [TkS.cells] at hfind
          have HFI := hid hfind
          clear hfind hF5
          go_cut [10, 11] (fun tv ev wx => ∃ (b : Nat) (kv8 : Value), tv = .pointer (some ⟨b, 0, none⟩) ∧ ev = .int .i64 re ∧ FindsAt W wx x v5 rm lk2 (.slice ap2 put2.length cp2) put2 ∧ wx.heap[b]? = some (.cells #[.string rc, .string rs, kv8, .int .i64 rf, .int .i64 ru, .int .i64 rr, .int .i64 rg] 50 (0, 0)) ∧ KeyOwn wx kv8 rk ∧ W.heap.size ≤ b)
          case first =>
            refine wp_region_N (fun w' : World => w'.cell? ⟨mb, mo + j * 9 + 2, none⟩ = some (.string client) ∧ w'.cell? ⟨mb, mo + j * 9 + 3, none⟩ = some (.string service)) (fun _ => true) (by kernel_rfl) ?_
            have hS : (fun w' : World => w'.cell? ⟨mb, mo + j * 9 + 2, none⟩ = some (.string client) ∧ w'.cell? ⟨mb, mo + j * 9 + 3, none⟩ = some (.string service)) wc.drew := ⟨q2, q3⟩
            refine regA 0 63 (v := ?_) rfl rfl (by kernel_rfl) (by kernel_rfl) (by kernel_rfl) (fun _ _ _ h => h) (by rfl) (fun w => ?_) ?_; rotate_left; (go_simp; first | done | with_reducible rfl); (try simp only [Act.put, List.setIfInBounds_toArray, List.set_cons_zero, List.set_cons_succ])
            refine regA 1 64 (v := ?_) rfl rfl (by kernel_rfl) (by kernel_rfl) (by kernel_rfl) (fun _ _ _ h => h) (by rfl) (fun w => ?_) ?_; rotate_left; (go_simp; first | done | with_reducible rfl); (try simp only [Act.put, List.setIfInBounds_toArray, List.set_cons_zero, List.set_cons_succ])
            refine regA 2 65 (v := ?_) rfl rfl (by kernel_rfl) (by kernel_rfl) (by kernel_rfl) (fun _ _ _ h => h) (by rfl) (fun w => ?_) ?_; rotate_left; (go_simp; first | done | with_reducible rfl); (try simp only [Act.put, List.setIfInBounds_toArray, List.set_cons_zero, List.set_cons_succ])
            refine regA 3 66 (v := ?_) rfl rfl (by kernel_rfl) (by kernel_rfl) (by kernel_rfl) (fun _ _ _ h => h) (by rfl) (fun w => ?_) ?_; rotate_left; (go_simp; first | done | with_reducible rfl); (try simp only [Act.put, List.setIfInBounds_toArray, List.set_cons_zero, List.set_cons_succ])
            refine regA 4 67 (v := ?_) rfl rfl (by kernel_rfl) (by kernel_rfl) (by kernel_rfl) (fun _ _ _ h => h) (by rfl) (fun w => ?_) ?_; rotate_left; (go_simp; first | done | with_reducible rfl); (try simp only [Act.put, List.setIfInBounds_toArray, List.set_cons_zero, List.set_cons_succ])
            refine regA 5 68 (v := ?_) rfl rfl (by kernel_rfl) (by kernel_rfl) (by kernel_rfl) (fun _ _ _ h => h) (by rfl) (fun w => ?_) ?_; rotate_left; (go_simp; first | done | with_reducible rfl); (try simp only [Act.put, List.setIfInBounds_toArray, List.set_cons_zero, List.set_cons_succ])
            refine regS 6 69 (v := ?_) hS rfl rfl (by kernel_rfl) (by kernel_rfl) (by kernel_rfl) (by kernel_rfl) (fun _ _ _ h => h) (by rfl) (fun w hSw => ?_) ?_; rotate_left; (go_simp; first | done | with_reducible rfl); (try simp only [Act.put, List.setIfInBounds_toArray, List.set_cons_zero, List.set_cons_succ])
            refine regA 7 70 (v := ?_) rfl rfl (by kernel_rfl) (by kernel_rfl) (by kernel_rfl) (fun _ _ _ h => h) (by rfl) (fun w => ?_) ?_; rotate_left; (go_simp; first | done | with_reducible rfl); (try simp only [Act.put, List.setIfInBounds_toArray, List.set_cons_zero, List.set_cons_succ])
            refine regA 8 71 (v := ?_) rfl rfl (by kernel_rfl) (by kernel_rfl) (by kernel_rfl) (fun _ _ _ h => h) (by rfl) (fun w => ?_) ?_; rotate_left; (go_simp; first | done | with_reducible rfl); (try simp only [Act.put, List.setIfInBounds_toArray, List.set_cons_zero, List.set_cons_succ])
            refine regA 9 72 (v := ?_) rfl rfl (by kernel_rfl) (by kernel_rfl) (by kernel_rfl) (fun _ _ _ h => h) (by rfl) (fun w => ?_) ?_; rotate_left; (go_simp; first | done | with_reducible rfl); (try simp only [Act.put, List.setIfInBounds_toArray, List.set_cons_zero, List.set_cons_succ])
            refine regA 10 73 (v := ?_) rfl rfl (by kernel_rfl) (by kernel_rfl) (by kernel_rfl) (fun _ _ _ h => h) (by rfl) (fun w => ?_) ?_; rotate_left; (go_simp; first | done | with_reducible rfl); (try simp only [Act.put, List.setIfInBounds_toArray, List.set_cons_zero, List.set_cons_succ])
            refine regA 11 74 (v := ?_) rfl rfl (by kernel_rfl) (by kernel_rfl) (by kernel_rfl) (fun _ _ _ h => h) (by rfl) (fun w => ?_) ?_; rotate_left; (go_simp; first | done | with_reducible rfl); (try simp only [Act.put, List.setIfInBounds_toArray, List.set_cons_zero, List.set_cons_succ])
            refine regS 12 75 (v := ?_) hS rfl rfl (by kernel_rfl) (by kernel_rfl) (by kernel_rfl) (by kernel_rfl) (fun _ _ _ h => h) (by rfl) (fun w hSw => ?_) ?_; rotate_left; (go_simp; first | done | with_reducible rfl); (try simp only [Act.put, List.setIfInBounds_toArray, List.set_cons_zero, List.set_cons_succ])
            refine regA 13 76 (v := ?_) rfl rfl (by kernel_rfl) (by kernel_rfl) (by kernel_rfl) (fun _ _ _ h => h) (by rfl) (fun w => ?_) ?_; rotate_left; (go_simp; first | done | with_reducible rfl); (try simp only [Act.put, List.setIfInBounds_toArray, List.set_cons_zero, List.set_cons_succ])
            refine regTwo 14 18 (by kernel_rfl) rfl (by rfl) rfl (by rfl) (fun K hK => ?_) (fun K hK => ?_)
            · go_wp2_with (first
                | (go_at_call 20; refine (HFI.out (wc.drew) (HF5.out.mod0 (Mod.refl _ _).drew)).mono ?_; rintro e w7 ⟨kv8, rfl, hk7⟩; obtain ⟨a8, c8, rfl⟩ := row_slice hk7.1))
              refine hK.out _ _ (fun _ _ => ⟨hk7.2.1.cell q2 (by simp), hk7.2.1.cell q3 (by simp)⟩) ?_
              clear hK hS
              (try simp only [Act.put, List.setIfInBounds_toArray, List.set_cons_zero, List.set_cons_succ])
              refine regA 15 62 (v := ?_) rfl rfl (by kernel_rfl) (by kernel_rfl) (by kernel_rfl) (fun _ _ _ h => h) (by rfl) (fun w => ?_) ?_; rotate_left; (go_simp; first | done | with_reducible rfl); (try simp only [Act.put, List.setIfInBounds_toArray, List.set_cons_zero, List.set_cons_succ])
              refine regA 16 78 (v := ?_) rfl rfl (by kernel_rfl) (by kernel_rfl) (by kernel_rfl) (fun _ _ _ h => h) (by rfl) (fun w => ?_) ?_; rotate_left; (go_simp; first | done | with_reducible rfl); (try simp only [Act.put, List.setIfInBounds_toArray, List.set_cons_zero, List.set_cons_succ])
              refine regA 17 79 (v := ?_) rfl rfl (by kernel_rfl) (by kernel_rfl) (by kernel_rfl) (fun _ _ _ h => h) (by rfl) (fun w => ?_) ?_; rotate_left; (go_simp; first | done | with_reducible rfl); (try simp only [Act.put, List.setIfInBounds_toArray, List.set_cons_zero, List.set_cons_succ])
              refine regOnly 18 (by kernel_rfl) rfl (by rfl) (fun K hK => ?_)
              go_wp2_with fail
              have hma : Mod [] wc (w7.alloc (.cells #[.string ⟨#[]⟩, .string ⟨#[]⟩, .slice none 0 0, .int .i64 0, .int .i64 0, .int .i64 0, .int .i64 0] 50)) := ((Mod.refl [] wc).drew.trans hk7.2.1).alloc _
              refine hK.out _ _ (fun _ _ => ⟨hma.cell q2 (by simp), hma.cell q3 (by simp)⟩) ?_
              clear hK
              (try simp only [Act.put, List.setIfInBounds_toArray, List.set_cons_zero, List.set_cons_succ])
              have hBa := get_new w7 (.cells #[.string ⟨#[]⟩, .string ⟨#[]⟩, .slice none 0 0, .int .i64 0, .int .i64 0, .int .i64 0, .int .i64 0] 50)
              have hka : KeyOwn (w7.alloc (.cells #[.string ⟨#[]⟩, .string ⟨#[]⟩, .slice none 0 0, .int .i64 0, .int .i64 0, .int .i64 0, .int .i64 0] 50)) (.slice a8 rk.length c8) rk := KeyOwn.mod0 hk7.1 (Mod.alloc (Mod.refl _ _) _)
              have hba : wc.heap.size ≤ w7.heap.size := (((Mod.refl [] wc).drew.trans hk7.2.1)).size
              generalize (w7.alloc (.cells #[.string ⟨#[]⟩, .string ⟨#[]⟩, .slice none 0 0, .int .i64 0, .int .i64 0, .int .i64 0, .int .i64 0] 50)) = Wa at *
              have b0 : Wa.cell? ⟨w7.heap.size, 0, none⟩ = some (.string ⟨#[]⟩) := cell_at hBa 0
              have b1 : Wa.cell? ⟨w7.heap.size, 1, none⟩ = some (.string ⟨#[]⟩) := cell_at hBa 1
              have b2 : Wa.cell? ⟨w7.heap.size, 2, none⟩ = some (.slice none 0 0) := cell_at hBa 2
              have b3 : Wa.cell? ⟨w7.heap.size, 3, none⟩ = some (.int .i64 0) := cell_at hBa 3
              have b4 : Wa.cell? ⟨w7.heap.size, 4, none⟩ = some (.int .i64 0) := cell_at hBa 4
              have b5 : Wa.cell? ⟨w7.heap.size, 5, none⟩ = some (.int .i64 0) := cell_at hBa 5
              have b6 : Wa.cell? ⟨w7.heap.size, 6, none⟩ = some (.int .i64 0) := cell_at hBa 6
              have bf : ∀ i, Wa.frozen? ⟨w7.heap.size, i, none⟩ = false := free_at hBa
              refine regOnly 19 (by kernel_rfl) rfl (by rfl) (fun K hK => ?_)
              go_wp2_with fail
              have hm8 : Mod [w7.heap.size] Wa (((((((Wa.setCell ⟨w7.heap.size, 0, none⟩ (.string rc)).setCell ⟨w7.heap.size, 1, none⟩ (.string rs)).setCell ⟨w7.heap.size, 2, none⟩ (.slice a8 rk.length c8)).setCell ⟨w7.heap.size, 3, none⟩ (.int .i64 rf)).setCell ⟨w7.heap.size, 4, none⟩ (.int .i64 ru)).setCell ⟨w7.heap.size, 5, none⟩ (.int .i64 rr)).setCell ⟨w7.heap.size, 6, none⟩ (.int .i64 rg)) := Mod.setCell (Mod.setCell (Mod.setCell (Mod.setCell (Mod.setCell (Mod.setCell (Mod.setCell (Mod.refl _ _) (by simp) _) (by simp) _) (by simp) _) (by simp) _) (by simp) _) (by simp) _) (by simp) _
              have hR8 := get_setCell_self (get_setCell_self (get_setCell_self (get_setCell_self (get_setCell_self (get_setCell_self (get_setCell_self (hBa) 0 (.string rc)) 1 (.string rs)) 2 (.slice a8 rk.length c8)) 3 (.int .i64 rf)) 4 (.int .i64 ru)) 5 (.int .i64 rr)) 6 (.int .i64 rg)
              simp only [List.setIfInBounds_toArray, List.set_cons_zero, List.set_cons_succ] at hR8
              have hk8 := row_mod hka hm8 (KeyOwn.apart hka (fun b hb => ⟨_, _, (List.mem_singleton.1 hb) ▸ hBa, by decide⟩))
              have hmm := hma.trans' hm8 (fun y hy => .inr (by rw [List.mem_singleton.1 hy]; exact hba))
              generalize (((((((Wa.setCell ⟨w7.heap.size, 0, none⟩ (.string rc)).setCell ⟨w7.heap.size, 1, none⟩ (.string rs)).setCell ⟨w7.heap.size, 2, none⟩ (.slice a8 rk.length c8)).setCell ⟨w7.heap.size, 3, none⟩ (.int .i64 rf)).setCell ⟨w7.heap.size, 4, none⟩ (.int .i64 ru)).setCell ⟨w7.heap.size, 5, none⟩ (.int .i64 rr)).setCell ⟨w7.heap.size, 6, none⟩ (.int .i64 rg)) = W8 at *
              refine hK.out _ _ (fun _ _ => ⟨hmm.cell q2 (by simp), hmm.cell q3 (by simp)⟩) ?_
              clear hK b0 b1 b2 b3 b4 b5 b6 bf
              (try simp only [Act.put, List.setIfInBounds_toArray, List.set_cons_zero, List.set_cons_succ])
              refine regOnly 20 (by kernel_rfl) rfl (by rfl) (fun K hK => ?_)
              go_wp2_with fail
              refine hK.out _ _ (fun _ h => h) ?_
              clear hK
              (try simp only [Act.put, List.setIfInBounds_toArray, List.set_cons_zero, List.set_cons_succ])
              refine regDone (by kernel_rfl) ?_ _
              have hf8 := HF5.out.mod0 hmm
              have hb8 := Nat.le_trans HF5.out.mod.size hba
              go_wp2_with fail
              go_meet
              exact ⟨_, _, rfl, rfl, hf8, hR8, hk8, hb8⟩
            · go_wp2_with fail
              have hM1 : Mod [] wc (wc.drew.alloc (.cells #[.string ⟨#[]⟩, .string ⟨#[]⟩, .slice none 0 0, .int .i64 0, .int .i64 0, .int .i64 0, .int .i64 0] 50)) := Mod.alloc (Mod.refl _ _).drew _
              refine hK.out _ _ (fun _ _ => ⟨hM1.cell q2 (by simp), hM1.cell q3 (by simp)⟩) ?_
              clear hK hS
              (try simp only [Act.put, List.setIfInBounds_toArray, List.set_cons_zero, List.set_cons_succ])
              refine regOnly 14 (by kernel_rfl) rfl (by rfl) (fun K hK => ?_)
              go_wp2_with (first
                | (go_at_call 20; refine (HFI.out _ (HF5.out.mod0 hM1)).mono ?_; rintro e w7 ⟨kv8, rfl, hk7⟩; obtain ⟨a8, c8, rfl⟩ := row_slice hk7.1))
              have hma : Mod [] wc w7 := hM1.trans hk7.2.1
              have hka : KeyOwn w7 (.slice a8 rk.length c8) rk := hk7.1
              refine hK.out _ _ (fun _ _ => ⟨hma.cell q2 (by simp), hma.cell q3 (by simp)⟩) ?_
              clear hK
              (try simp only [Act.put, List.setIfInBounds_toArray, List.set_cons_zero, List.set_cons_succ])
              refine regA 15 62 (v := ?_) rfl rfl (by kernel_rfl) (by kernel_rfl) (by kernel_rfl) (fun _ _ _ h => h) (by rfl) (fun w => ?_) ?_; rotate_left; (go_simp; first | done | with_reducible rfl); (try simp only [Act.put, List.setIfInBounds_toArray, List.set_cons_zero, List.set_cons_succ])
              refine regA 16 78 (v := ?_) rfl rfl (by kernel_rfl) (by kernel_rfl) (by kernel_rfl) (fun _ _ _ h => h) (by rfl) (fun w => ?_) ?_; rotate_left; (go_simp; first | done | with_reducible rfl); (try simp only [Act.put, List.setIfInBounds_toArray, List.set_cons_zero, List.set_cons_succ])
              refine regA 17 79 (v := ?_) rfl rfl (by kernel_rfl) (by kernel_rfl) (by kernel_rfl) (fun _ _ _ h => h) (by rfl) (fun w => ?_) ?_; rotate_left; (go_simp; first | done | with_reducible rfl); (try simp only [Act.put, List.setIfInBounds_toArray, List.set_cons_zero, List.set_cons_succ])
              have hBa : w7.heap[wc.heap.size]? = some (.cells #[.string ⟨#[]⟩, .string ⟨#[]⟩, .slice none 0 0, .int .i64 0, .int .i64 0, .int .i64 0, .int .i64 0] 50 (0, 0)) := hk7.2.1.get (get_new wc.drew (.cells #[.string ⟨#[]⟩, .string ⟨#[]⟩, .slice none 0 0, .int .i64 0, .int .i64 0, .int .i64 0, .int .i64 0] 50)) (by simp)
              have hba : wc.heap.size ≤ wc.heap.size := Nat.le_refl _
              have b0 : w7.cell? ⟨wc.heap.size, 0, none⟩ = some (.string ⟨#[]⟩) := cell_at hBa 0
              have b1 : w7.cell? ⟨wc.heap.size, 1, none⟩ = some (.string ⟨#[]⟩) := cell_at hBa 1
              have b2 : w7.cell? ⟨wc.heap.size, 2, none⟩ = some (.slice none 0 0) := cell_at hBa 2
              have b3 : w7.cell? ⟨wc.heap.size, 3, none⟩ = some (.int .i64 0) := cell_at hBa 3
              have b4 : w7.cell? ⟨wc.heap.size, 4, none⟩ = some (.int .i64 0) := cell_at hBa 4
              have b5 : w7.cell? ⟨wc.heap.size, 5, none⟩ = some (.int .i64 0) := cell_at hBa 5
              have b6 : w7.cell? ⟨wc.heap.size, 6, none⟩ = some (.int .i64 0) := cell_at hBa 6
              have bf : ∀ i, w7.frozen? ⟨wc.heap.size, i, none⟩ = false := free_at hBa
              refine regOnly 19 (by kernel_rfl) rfl (by rfl) (fun K hK => ?_)
              go_wp2_with fail
              have hm8 : Mod [wc.heap.size] w7 (((((((w7.setCell ⟨wc.heap.size, 0, none⟩ (.string rc)).setCell ⟨wc.heap.size, 1, none⟩ (.string rs)).setCell ⟨wc.heap.size, 2, none⟩ (.slice a8 rk.length c8)).setCell ⟨wc.heap.size, 3, none⟩ (.int .i64 rf)).setCell ⟨wc.heap.size, 4, none⟩ (.int .i64 ru)).setCell ⟨wc.heap.size, 5, none⟩ (.int .i64 rr)).setCell ⟨wc.heap.size, 6, none⟩ (.int .i64 rg)) := Mod.setCell (Mod.setCell (Mod.setCell (Mod.setCell (Mod.setCell (Mod.setCell (Mod.setCell (Mod.refl _ _) (by simp) _) (by simp) _) (by simp) _) (by simp) _) (by simp) _) (by simp) _) (by simp) _
              have hR8 := get_setCell_self (get_setCell_self (get_setCell_self (get_setCell_self (get_setCell_self (get_setCell_self (get_setCell_self (hBa) 0 (.string rc)) 1 (.string rs)) 2 (.slice a8 rk.length c8)) 3 (.int .i64 rf)) 4 (.int .i64 ru)) 5 (.int .i64 rr)) 6 (.int .i64 rg)
              simp only [List.setIfInBounds_toArray, List.set_cons_zero, List.set_cons_succ] at hR8
              have hk8 := row_mod hka hm8 (KeyOwn.apart hka (fun b hb => ⟨_, _, (List.mem_singleton.1 hb) ▸ hBa, by decide⟩))
              have hmm := hma.trans' hm8 (fun y hy => .inr (by rw [List.mem_singleton.1 hy]; exact hba))
              generalize (((((((w7.setCell ⟨wc.heap.size, 0, none⟩ (.string rc)).setCell ⟨wc.heap.size, 1, none⟩ (.string rs)).setCell ⟨wc.heap.size, 2, none⟩ (.slice a8 rk.length c8)).setCell ⟨wc.heap.size, 3, none⟩ (.int .i64 rf)).setCell ⟨wc.heap.size, 4, none⟩ (.int .i64 ru)).setCell ⟨wc.heap.size, 5, none⟩ (.int .i64 rr)).setCell ⟨wc.heap.size, 6, none⟩ (.int .i64 rg)) = W8 at *
              refine hK.out _ _ (fun _ _ => ⟨hmm.cell q2 (by simp), hmm.cell q3 (by simp)⟩) ?_
              clear hK b0 b1 b2 b3 b4 b5 b6 bf
              (try simp only [Act.put, List.setIfInBounds_toArray, List.set_cons_zero, List.set_cons_succ])
              refine regOnly 20 (by kernel_rfl) rfl (by rfl) (fun K hK => ?_)
              go_wp2_with fail
              refine hK.out _ _ (fun _ h => h) ?_
              clear hK
              (try simp only [Act.put, List.setIfInBounds_toArray, List.set_cons_zero, List.set_cons_succ])
              refine regDone (by kernel_rfl) ?_ _
              have hf8 := HF5.out.mod0 hmm
              have hb8 := Nat.le_trans HF5.out.mod.size hba
              go_wp2_with fail
              go_meet
              exact ⟨_, _, rfl, rfl, hf8, hR8, hk8, hb8⟩
          case rest =>
            clear q2 q3 HFI HF5
            obtain ⟨b, kv8, rfl, rfl, hF8, hB8, hK8, hb8⟩ := hcut
            have herr := find_err lk2 client service now
            rw [← HR.out] at herr
            have hfd := fun h => hF8.inv.found (c := client) (s := service) (now := now) h
            rw [← HR.out] at hfd
            have HFD := hid hfd
            have H8 := hid (And.intro hF8 (And.intro hB8 (And.intro hK8 hb8)))
            clear hF8 hB8 hK8 hb8 hfd HR
            dsimp only at herr
            by_cases hre : re = 0
            · obtain ⟨t, h1, h2, h3, h4, h5, h6⟩ := HFD.out hre
              cases h1
              dsimp only at h2 h3 h4 h5
              subst h2 h3
              clear HFD herr
              have HLAST := hid h6
              have HIN := hid (And.intro h4 h5)
              clear h4 h5 h6 hre
              go_wp2_with fail
              generalize hbl : wc.heap.size = bl
              have h0 : FindsAt W (wc.alloc (.cells #[.string ⟨#[]⟩, .string ⟨#[]⟩, .slice none 0 0, .int .i64 0, .int .i64 0, .int .i64 0, .int .i64 0] 50)) x v5 rm lk2 (.slice ap2 put2.length cp2) put2 ∧ (wc.alloc (.cells #[.string ⟨#[]⟩, .string ⟨#[]⟩, .slice none 0 0, .int .i64 0, .int .i64 0, .int .i64 0, .int .i64 0] 50)).heap[b]? = some (.cells #[.string rc, .string rs, kv8, .int .i64 rf, .int .i64 ru, .int .i64 rr, .int .i64 rg] 50 (0, 0)) ∧ KeyOwn (wc.alloc (.cells #[.string ⟨#[]⟩, .string ⟨#[]⟩, .slice none 0 0, .int .i64 0, .int .i64 0, .int .i64 0, .int .i64 0] 50)) kv8 rk ∧ (wc.alloc (.cells #[.string ⟨#[]⟩, .string ⟨#[]⟩, .slice none 0 0, .int .i64 0, .int .i64 0, .int .i64 0, .int .i64 0] 50)).heap[bl]? = some (.cells #[.string ⟨#[]⟩, .string ⟨#[]⟩, .slice none 0 0, .int .i64 0, .int .i64 0, .int .i64 0, .int .i64 0] 50 (0, 0)) := by
                have ma : Mod [] wc (wc.alloc (.cells #[.string ⟨#[]⟩, .string ⟨#[]⟩, .slice none 0 0, .int .i64 0, .int .i64 0, .int .i64 0, .int .i64 0] 50)) := Mod.alloc (Mod.refl _ _) _
                rw [← hbl]
                exact ⟨H8.out.1.mod0 ma, ma.get H8.out.2.1 (by simp), H8.out.2.2.1.mod0 ma, get_new wc _⟩
              have hblb : b ≠ bl := by rw [← hbl]; exact Nat.ne_of_lt (lt_of_block H8.out.2.1)
              have hblW : W.heap.size ≤ bl := by rw [← hbl]; exact H8.out.1.mod.size
              have hbv : ∀ k, v5.ownBlock = some k → k ≠ bl := fun k hk => by
                obtain ⟨c', hc'⟩ := row_block H8.out.1.held.row hk
                rw [← hbl]; exact Nat.ne_of_lt (lt_of_block hc')
              have hbp : ∀ k, (Value.slice ap2 put2.length cp2).ownBlock = some k → k ≠ bl := fun k hk => by
                obtain ⟨c', hc'⟩ := row_block H8.out.1.row hk
                rw [← hbl]; exact Nat.ne_of_lt (lt_of_block hc')
              have HBL := hid (And.intro hblb (And.intro hblW (And.intro hbv hbp)))
              have H0 := hid h0
              clear h0 hblb hblW hbv hbp hbl
              generalize gk = go at *
              generalize (wc.alloc (.cells #[.string ⟨#[]⟩, .string ⟨#[]⟩, .slice none 0 0, .int .i64 0, .int .i64 0, .int .i64 0, .int .i64 0] 50)) = W9 at *
              go_loopg [13] put2.length (fun gk2 iv W' => ∃ k : Nat, iv = .int .i64 (k : Int) ∧ gk2 + k = put2.length ∧ FindsAt W W' x v5 rm lk2 (.slice ap2 put2.length cp2) put2 ∧ W'.heap[b]? = some (.cells #[.string rc, .string rs, kv8, .int .i64 rf, .int .i64 ru, .int .i64 rr, .int .i64 rg] 50 (0, 0)) ∧ KeyOwn W' kv8 rk ∧ W'.heap[bl]? = some (.cells ((lastOf (put2.take k) rc rs).2.cells (lastOf (put2.take k) rc rs).1).toArray 50 (0, 0)))
              case atStart => exact ⟨0, rfl, rfl, H0.out.1, H0.out.2.1, H0.out.2.2.1, H0.out.2.2.2⟩
              case round =>
                obtain ⟨k, rfl, hk, hF9, hB9, hK9, hL9⟩ := hrel
                have k0 : (0 : Int) ≤ (k : Int) := Int.natCast_nonneg _
                have HK := hid hk
                clear hk H0 H8
                by_cases hkn : k < put2.length
                · have hp : put2[k]? = some put2[k] := List.getElem?_eq_getElem hkn
                  generalize put2[k] = p at hp
                  obtain ⟨g, c', hg, hcell⟩ := row_pos hF9.row (by omega)
                  cases hg
                  obtain ⟨kvp, pc, ps, pk, pf, pu, pr, pg⟩ := p
                  have hkf : ∃ (ka : Option Addr) (kn kc : Nat), kvp = .slice ka kn kc := by
                    have := hF9.keys _ (List.mem_of_getElem? hp)
                    rcases this with ⟨h, -⟩ | ⟨ad, c, h, -⟩ <;> exact ⟨_, _, _, h⟩
                  obtain ⟨ka, kn, kc, rfl⟩ := hkf
                  have ht := tk_at hp
                  have e0 := hcell _ _ (ht 0 _ rfl)
                  have e1 := hcell _ _ (ht 1 _ rfl)
                  have e2 := hcell _ _ (ht 2 _ rfl)
                  have e3 := hcell _ _ (ht 3 _ rfl)
                  have e4 := hcell _ _ (ht 4 _ rfl)
                  have e5 := hcell _ _ (ht 5 _ rfl)
                  have e6 := hcell _ _ (ht 6 _ rfl)
                  dsimp only at e0 e1 e2 e3 e4 e5 e6
                  rw [Nat.add_zero] at e0
                  have lstep := lastOf_take hp rc rs
                  dsimp only at lstep
                  have k1 : (k : Int) < (put2.length : Int) := by omega
                  have d1 : decide ((k : Int) < (put2.length : Int)) = true := by rw [decide_eq_true_eq]; omega
                  have d2 : decide (k < put2.length) = true := by rw [decide_eq_true_eq]; omega
                  have k100 : k < 1000 := by have := HPL.out; omega
                  clear hp ht hcell hkn
                  have b0 : wr.cell? ⟨b, 0, none⟩ = some (.string rc) := cell_at hB9 0
                  have b1 : wr.cell? ⟨b, 1, none⟩ = some (.string rs) := cell_at hB9 1
                  have hq1 := chars_eq pc rc
                  have hq2 := chars_eq ps rs
                  by_cases h1 : pc = rc
                  · subst h1
                    have ha1 : decide (pc = pc) = true := by simp
                    rw [ha1] at hq1
                    by_cases h2 : ps = rs
                    · subst h2
                      have ha2 : decide (ps = ps) = true := by simp
                      rw [ha2] at hq2
                      rw [show (⟨pc, ps, pk, pf, pu, pr, pg⟩ : TkS).is pc ps = true by simp [TkS.is], if_pos rfl] at lstep
                      have HLS := hid lstep
                      generalize lastOf (put2.take k) pc ps = lv at *
                      obtain ⟨lkv, lc, ls, lk', lf, lu, lr, lg⟩ := lv
                      simp only [TkS.cells] at hL9
                      have l0 := cell_at hL9 0
                      have l1 := cell_at hL9 1
                      have l2 := cell_at hL9 2
                      have l3 := cell_at hL9 3
                      have l4 := cell_at hL9 4
                      have l5 := cell_at hL9 5
                      have l6 := cell_at hL9 6
                      simp only [List.getElem?_toArray, List.getElem?_cons_zero, List.getElem?_cons_succ] at l0 l1 l2 l3 l4 l5 l6
                      have lf0 : ∀ i, wr.frozen? ⟨bl, i, none⟩ = false := free_at hL9
                      have H9 := hid (And.intro hF9 (And.intro hB9 (And.intro hK9 hL9)))
                      clear hF9 hB9 hK9 hL9 lstep
                      go_wp2_with fail
                      go_quiet (fail)
                      go_wp2_with fail
                      generalize hW7 : (((((((wr.drewN nq).setCell ⟨bl, 0, none⟩ (.string pc)).setCell ⟨bl, 1, none⟩ (.string ps)).setCell ⟨bl, 2, none⟩ (.slice ka kn kc)).setCell ⟨bl, 3, none⟩ (.int .i64 pf)).setCell ⟨bl, 4, none⟩ (.int .i64 pu)).setCell ⟨bl, 5, none⟩ (.int .i64 pr)).setCell ⟨bl, 6, none⟩ (.int .i64 pg) = W7
                      have hm8 : Mod [bl] wr W7 := by
                        rw [← hW7]
                        exact Mod.setCell (Mod.setCell (Mod.setCell (Mod.setCell (Mod.setCell (Mod.setCell (Mod.setCell (Mod.drewN (Mod.refl _ _) _) (by simp) _) (by simp) _) (by simp) _) (by simp) _) (by simp) _) (by simp) _) (by simp) _
                      have hR8 : W7.heap[bl]? = some (.cells #[.string pc, .string ps, .slice ka kn kc, .int .i64 pf, .int .i64 pu, .int .i64 pr, .int .i64 pg] 50 (0, 0)) := by
                        have hd : (wr.drewN nq).heap[bl]? = _ := H9.out.2.2.2
                        have := get_setCell_self (get_setCell_self (get_setCell_self (get_setCell_self (get_setCell_self (get_setCell_self (get_setCell_self hd 0 (.string pc)) 1 (.string ps)) 2 (.slice ka kn kc)) 3 (.int .i64 pf)) 4 (.int .i64 pu)) 5 (.int .i64 pr)) 6 (.int .i64 pg)
                        simp only [List.setIfInBounds_toArray, List.set_cons_zero, List.set_cons_succ] at this
                        rw [← hW7]; exact this
                      clear hW7
                      go_roundg (gk - 1)
                      case measure => have := HK.out; omega
                      case rel => exact ⟨k + 1, by go_num, by have := HK.out; omega, H9.out.1.mod1 hm8 H9.out.2.2.2 HBL.out.2.2.1 HBL.out.2.2.2 HBL.out.2.1, hm8.get H9.out.2.1 (by simpa using HBL.out.1), row_mod H9.out.2.2.1 hm8 (KeyOwn.apart H9.out.2.2.1 (fun b hb => ⟨_, _, (List.mem_singleton.1 hb) ▸ H9.out.2.2.2, by decide⟩)), by rw [HLS.out]; exact hR8⟩
                    · have ha2 : decide (ps = rs) = false := by simp [h2]
                      rw [ha2] at hq2
                      rw [show (⟨pc, ps, pk, pf, pu, pr, pg⟩ : TkS).is pc rs = false by simp [TkS.is, h2], if_neg (by simp)] at lstep
                      have HLS := hid lstep
                      have H9 := hid (And.intro hF9 (And.intro hB9 (And.intro hK9 hL9)))
                      clear hF9 hB9 hK9 hL9 lstep h2
                      go_wp2_with fail
                      go_quiet (fail)
                      go_wp2_with fail
                      go_roundg (gk - 1)
                      case measure => have := HK.out; omega
                      case rel => exact ⟨k + 1, by go_num, by have := HK.out; omega, H9.out.1.mod0 (by repeat' (first | exact Mod.refl _ _ | assumption | refine Mod.drewN ?_ _ | refine Mod.drew ?_ | refine Mod.alloc ?_ _ | refine Mod.setCell ?_ (by simp) _ | refine Mod.setBlock ?_ (by simp) _)), H9.out.2.1, H9.out.2.2.1, by rw [HLS.out]; exact H9.out.2.2.2⟩
                  · have ha1 : decide (pc = rc) = false := by simp [h1]
                    rw [ha1] at hq1
                    rw [show (⟨pc, ps, pk, pf, pu, pr, pg⟩ : TkS).is rc rs = false by simp [TkS.is, h1], if_neg (by simp)] at lstep
                    have HLS := hid lstep
                    have H9 := hid (And.intro hF9 (And.intro hB9 (And.intro hK9 hL9)))
                    clear hF9 hB9 hK9 hL9 lstep h1
                    go_wp2_with fail
                    go_quiet (fail)
                    go_wp2_with fail
                    go_roundg (gk - 1)
                    case measure => have := HK.out; omega
                    case rel => exact ⟨k + 1, by go_num, by have := HK.out; omega, H9.out.1.mod0 (by repeat' (first | exact Mod.refl _ _ | assumption | refine Mod.drewN ?_ _ | refine Mod.drew ?_ | refine Mod.alloc ?_ _ | refine Mod.setCell ?_ (by simp) _ | refine Mod.setBlock ?_ (by simp) _)), H9.out.2.1, H9.out.2.2.1, by rw [HLS.out]; exact H9.out.2.2.2⟩
                · have hke : k = put2.length := by have := HK.out; omega
                  have d1 : decide ((k : Int) < (put2.length : Int)) = false := by rw [decide_eq_false_iff_not]; omega
                  have d3 : decide (k < put2.length) = false := by rw [decide_eq_false_iff_not]; omega
                  rw [hke, List.take_length] at hL9
                  have hKL := lastOf_key hF9.keys rc rs
                  rw [HLAST.out] at hKL hL9
                  generalize (lastOf put2 rc rs).1 = kvl at hKL hL9
                  simp only [TkS.cells] at hL9
                  dsimp only at hKL
                  have hKL2 := hKL.mod hF9.mod
                  have hsm : ∀ W', Mod [] wr W' → Calls Try.prog 21 #[.agg #[.string rc, .string rs, kvl, .int .i64 rf, .int .i64 ru, .int .i64 rr, .int .i64 rg], .agg #[.string rc, .string rs, kv8, .int .i64 rf, .int .i64 ru, .int .i64 rr, .int .i64 rg]] W' fun e w' => e = .returned (.bool true) ∧ Mod [] W' w' := fun W' m => by
                    have := same_any W' ⟨rc, rs, rk, rf, ru, rr, rg⟩ kvl kv8 (hKL2.mod m) (hK9.in_.mod m)
                    simp only [TkS.cells] at this
                    exact this
                  have HSM := hid hsm
                  have b0 : wr.cell? ⟨b, 0, none⟩ = some (.string rc) := cell_at hB9 0
                  have b1 : wr.cell? ⟨b, 1, none⟩ = some (.string rs) := cell_at hB9 1
                  have b2 : wr.cell? ⟨b, 2, none⟩ = some kv8 := cell_at hB9 2
                  have b3 : wr.cell? ⟨b, 3, none⟩ = some (.int .i64 rf) := cell_at hB9 3
                  have b4 : wr.cell? ⟨b, 4, none⟩ = some (.int .i64 ru) := cell_at hB9 4
                  have b5 : wr.cell? ⟨b, 5, none⟩ = some (.int .i64 rr) := cell_at hB9 5
                  have b6 : wr.cell? ⟨b, 6, none⟩ = some (.int .i64 rg) := cell_at hB9 6
                  have l0 : wr.cell? ⟨bl, 0, none⟩ = some (.string rc) := cell_at hL9 0
                  have l1 : wr.cell? ⟨bl, 1, none⟩ = some (.string rs) := cell_at hL9 1
                  have l2 : wr.cell? ⟨bl, 2, none⟩ = some kvl := cell_at hL9 2
                  have l3 : wr.cell? ⟨bl, 3, none⟩ = some (.int .i64 rf) := cell_at hL9 3
                  have l4 : wr.cell? ⟨bl, 4, none⟩ = some (.int .i64 ru) := cell_at hL9 4
                  have l5 : wr.cell? ⟨bl, 5, none⟩ = some (.int .i64 rr) := cell_at hL9 5
                  have l6 : wr.cell? ⟨bl, 6, none⟩ = some (.int .i64 rg) := cell_at hL9 6
                  have m2 : wr.cell? ⟨mb, mo + j * 9 + 2, none⟩ = some (.string rc) := HMW.out _ hF9.mod 2 _ rfl
                  have m3 : wr.cell? ⟨mb, mo + j * 9 + 3, none⟩ = some (.string rs) := HMW.out _ hF9.mod 3 _ rfl
                  have f1 : decide (now < rf) = false := by have := HIN.out.1; rw [decide_eq_false_iff_not]; omega
                  have f2 : decide (ru < now) = false := by have := HIN.out.2; rw [decide_eq_false_iff_not]; omega
                  have H9 := hid (And.intro hF9 (And.intro hB9 (And.intro hK9 hL9)))
                  clear hF9 hB9 hK9 hL9 hsm hKL hKL2 hkn hke
                  have hss : ∀ W', Mod [] wr W' → (W'.cell? ⟨b, 0, none⟩ = some (.string rc) ∧ W'.cell? ⟨b, 1, none⟩ = some (.string rs) ∧ W'.cell? ⟨b, 2, none⟩ = some kv8 ∧ W'.cell? ⟨b, 3, none⟩ = some (.int .i64 rf) ∧ W'.cell? ⟨b, 4, none⟩ = some (.int .i64 ru) ∧ W'.cell? ⟨b, 5, none⟩ = some (.int .i64 rr) ∧ W'.cell? ⟨b, 6, none⟩ = some (.int .i64 rg) ∧ W'.cell? ⟨bl, 0, none⟩ = some (.string rc) ∧ W'.cell? ⟨bl, 1, none⟩ = some (.string rs) ∧ W'.cell? ⟨bl, 2, none⟩ = some kvl ∧ W'.cell? ⟨bl, 3, none⟩ = some (.int .i64 rf) ∧ W'.cell? ⟨bl, 4, none⟩ = some (.int .i64 ru) ∧ W'.cell? ⟨bl, 5, none⟩ = some (.int .i64 rr) ∧ W'.cell? ⟨bl, 6, none⟩ = some (.int .i64 rg) ∧ W'.cell? ⟨mb, mo + j * 9 + 2, none⟩ = some (.string rc) ∧ W'.cell? ⟨mb, mo + j * 9 + 3, none⟩ = some (.string rs)) := fun W' m => ⟨m.cell b0 (by simp), m.cell b1 (by simp), m.cell b2 (by simp), m.cell b3 (by simp), m.cell b4 (by simp), m.cell b5 (by simp), m.cell b6 (by simp), m.cell l0 (by simp), m.cell l1 (by simp), m.cell l2 (by simp), m.cell l3 (by simp), m.cell l4 (by simp), m.cell l5 (by simp), m.cell l6 (by simp), m.cell m2 (by simp), m.cell m3 (by simp)⟩
                  have HSS := hid hss
                  clear hss
                  go_wp2_with fail
                  go_region_held3 (fun W' => W'.cell? ⟨b, 0, none⟩ = some (.string rc) ∧ W'.cell? ⟨b, 1, none⟩ = some (.string rs) ∧ W'.cell? ⟨b, 2, none⟩ = some kv8 ∧ W'.cell? ⟨b, 3, none⟩ = some (.int .i64 rf) ∧ W'.cell? ⟨b, 4, none⟩ = some (.int .i64 ru) ∧ W'.cell? ⟨b, 5, none⟩ = some (.int .i64 rr) ∧ W'.cell? ⟨b, 6, none⟩ = some (.int .i64 rg) ∧ W'.cell? ⟨bl, 0, none⟩ = some (.string rc) ∧ W'.cell? ⟨bl, 1, none⟩ = some (.string rs) ∧ W'.cell? ⟨bl, 2, none⟩ = some kvl ∧ W'.cell? ⟨bl, 3, none⟩ = some (.int .i64 rf) ∧ W'.cell? ⟨bl, 4, none⟩ = some (.int .i64 ru) ∧ W'.cell? ⟨bl, 5, none⟩ = some (.int .i64 rr) ∧ W'.cell? ⟨bl, 6, none⟩ = some (.int .i64 rg) ∧ W'.cell? ⟨mb, mo + j * 9 + 2, none⟩ = some (.string rc) ∧ W'.cell? ⟨mb, mo + j * 9 + 3, none⟩ = some (.string rs)) (exact HSS.out _ (by repeat' (first | exact Mod.refl _ _ | assumption | refine Mod.drewN ?_ _ | refine Mod.drew ?_ | refine Mod.alloc ?_ _ | refine Mod.setCell ?_ (by simp) _ | refine Mod.setBlock ?_ (by simp) _)))
                    ((go_at_call 21; refine (HSM.out _ (Mod.refl _ _).drew).mono ?_; rintro e w7 ⟨rfl, hm7⟩; have hm77 := (Mod.refl [] wr).drew.trans hm7; have HM7 := hid hm77; clear hm7))
                  go_wp2_with fail
                  go_roundg (go - 1)
                  case measure => have := HJ.out; omega
                  case rel => exact ⟨j + 1, v5, lk2, put2, by go_num, by have := HJ.out; omega, by omega, HPL.out, H9.out.1.mod0 HM7.out⟩
            · have d0 : (re == 0) = false := by simpa using hre
              clear HFD
              go_wp2_with fail
              go_roundg (gk - 1)
              case measure => have := HJ.out; omega
              case rel => exact ⟨j + 1, v5, lk2, put2, by go_num, by have := HJ.out; omega, by omega, HPL.out, H8.out.1⟩
      · have d1 : decide ((j : Int) < (l.length : Int)) = true := by rw [decide_eq_true_eq]; omega
        have d2 : decide ((j : Int) < 100) = false := by rw [decide_eq_false_iff_not]; omega
        have d3 : decide (j < l.length) = true := by rw [decide_eq_true_eq]; omega
        have d4 : decide (j < 100) = false := by rw [decide_eq_false_iff_not]; omega
        go_wp2_with fail
        go_ret
        exact ⟨rfl, HF.out.mod⟩
    · have d1 : decide ((j : Int) < (l.length : Int)) = false := by rw [decide_eq_false_iff_not]; omega
      have d3 : decide (j < l.length) = false := by rw [decide_eq_false_iff_not]; omega
      go_wp2_with fail
      go_ret
      exact ⟨rfl, HF.out.mod⟩
end Go.Proofs.Yteifjbfojjjacaa
