/-
  A credential cache, walked: Drop. No statement of a claim stands here; each contract names what it asks.
-/
import Derived.Test.YteifjbfojjjacaaKb1
import Derived.Test.YteifjbfojjjacaaKaH
set_option linter.unusedSimpArgs false
namespace Go.Proofs.Yteifjbfojjjacaa
open Go Go.RowKit Go.ChangeMaps

/-- Drop (21.2). -/
def dropS (l : Tks) (now : Int) : Tks := if timeOk now then keepS l now else l
def dropN (l : Tks) (now : Int) : Int := if timeOk now then (l.length : Int) - ((keepS l now).length : Int) else 0
def dropE (now : Int) : Int := if timeOk now then 0 else 2

theorem delfn_none (w : World) (v : Value) (l : Tks) (now : Int) (bn : Nat) (hr : w.ownsRow 0 50 7 v l.length (tkCells l)) (hl : l.length ≤ 1000) (hc : w.heap[bn]? = some (.cells #[.int .i64 now] 3 (0, 0))) (he : endS l now = -1) :
    Calls Try.prog 42 #[v, .func (.func 43) #[] #[.pointer (some ⟨bn, 0, none⟩)]] w fun e w' => e = .returned v ∧ Mod [] w w' := by
  have hdx := didx_any w l _ now bn hr hl (cell_at hc 0)
  rw [he] at hdx
  have HDX := hid hdx
  obtain ⟨a, c, rfl⟩ := row_slice hr
  clear hdx hr hl hc he
  go_enter Try.func42, Try.ntmps42
  go_wp2_with (first
    | (go_at_call 46; refine HDX.out.mono ?_; rintro e w1 ⟨rfl, hm1⟩; have HM1 := hid hm1; clear hm1))
  go_ret
  exact ⟨rfl, HM1.out⟩

theorem hdrop_bad (w : World) (x : Nat) (v : Value) (room : Int) (l : Tks) (now : Int) (h : HeldAt w x v room l) (hr : 0 < room) (htn : timeOk now = false) :
    Calls Try.prog 26 #[.pointer (some ⟨x, 0, none⟩), .int .i64 now] w fun e w' => e = .returned (.tuple #[.int .i64 0, .int .i64 2]) ∧ Mod [] w w' := by
  have c0 : (w.alloc (.cells #[.int .i64 now] 3)).cell? ⟨x, 0, none⟩ = some (.int .i64 room) := cell_at (get_alloc h.cells _) 0
  have htm := times1 (w.alloc (.cells #[.int .i64 now] 3)) now
  rw [World.size_alloc, htn] at htm
  have HTM := hid htm
  clear h htm htn
  go_enter Try.func26, Try.ntmps26
  go_wp2_with (first
    | (go_at_call 34; refine (his_some _ _ room hr c0).mono ?_; rintro e w' ⟨rfl, rfl⟩)
    | (go_at_call 30; refine HTM.out.mono ?_; rintro e w' ⟨rfl, rfl⟩))
  go_ret2
  exact ⟨rfl, (by repeat' (first | exact Mod.refl _ _ | assumption | refine Mod.drewN ?_ _ | refine Mod.drew ?_ | refine Mod.alloc ?_ _ | refine Mod.setCell ?_ (by simp) _ | refine Mod.setBlock ?_ (by simp) _))⟩

/-- The row is another. -/
theorem HeldAt.turn {w w' : World} {x : Nat} {v v' : Value} {room : Int} {l l' : Tks} (h : HeldAt w x v room l) (m : Mod v.ownBlock.toList w w') (hr : w'.ownsRow 0 50 7 v' l'.length (tkCells l')) (hsub : ∀ p ∈ l', p ∈ l) (hv : ∀ q, v'.ownBlock = some q → v.ownBlock = some q) :
    HeldAt (w'.setCell ⟨x, 1, none⟩ v') x v' room l' ∧ Mod (x :: v.ownBlock.toList) w (w'.setCell ⟨x, 1, none⟩ v') := by
  have hxv : x ∉ v.ownBlock.toList := fun hm => h.ne x (by simpa using hm) rfl
  have hc := m.get h.cells hxv
  have ms : Mod [x] w' (w'.setCell ⟨x, 1, none⟩ v') := Mod.setCell (Mod.refl _ _) (by simp) _
  refine ⟨⟨get_setCell_self hc 1 v', row_mod hr ms (fun k hk => by simpa using h.ne k (hv k hk)), fun p hp => ?_⟩, (m.mono (fun y hy => .inl (List.mem_cons_of_mem _ hy))).trans (ms.mono (fun y hy => .inl (by rw [List.mem_singleton.1 hy]; exact List.mem_cons_self)))⟩
  have hk := row_mod (h.keys p (hsub p hp)) m (KeyOwn.apart (h.keys p (hsub p hp)) (fun b hb => by
    obtain ⟨c, hcc⟩ := row_block h.row (k := b) (by simpa using hb)
    exact ⟨_, _, hcc, by decide⟩))
  exact row_mod hk ms (KeyOwn.apart hk (fun b hb => ⟨_, _, (List.mem_singleton.1 hb) ▸ hc, by decide⟩))

theorem hdrop_none (w : World) (x : Nat) (v : Value) (room : Int) (l : Tks) (now : Int) (h : HeldAt w x v room l) (hr : 0 < room) (hlen : l.length ≤ 1000) (htn : timeOk now = true) (he : endS l now = -1) :
    Calls Try.prog 26 #[.pointer (some ⟨x, 0, none⟩), .int .i64 now] w fun e w' => e = .returned (.tuple #[.int .i64 0, .int .i64 0]) ∧ HeldAt w' x v room l ∧ Mod (x :: v.ownBlock.toList) w w' := by
  have hm2 : Mod [] w ((w.alloc (.cells #[.int .i64 now] 3)).alloc (.cells #[.int .i64 now] 3)) := (Mod.alloc (Mod.refl _ _) _).alloc _
  have c0 : (w.alloc (.cells #[.int .i64 now] 3)).cell? ⟨x, 0, none⟩ = some (.int .i64 room) := cell_at (get_alloc h.cells _) 0
  have c1 : ((w.alloc (.cells #[.int .i64 now] 3)).alloc (.cells #[.int .i64 now] 3)).cell? ⟨x, 1, none⟩ = some v := cell_at (h.mod0 hm2).cells 1
  have htm := times1 (w.alloc (.cells #[.int .i64 now] 3)) now
  rw [World.size_alloc, htn] at htm
  have hdf := delfn_none _ v l now w.heap.size (h.mod0 hm2).row hlen (get_alloc (get_new w _) _) he
  obtain ⟨a, c, rfl⟩ := row_slice h.row
  have HTM := hid htm
  have HDF := hid hdf
  have H := hid h
  have HM2 := hid hm2
  have hll : ((l.length : Int)) - (l.length : Int) = 0 := by omega
  have hwr : IntKind.i64.wrap 0 = 0 := by decide
  clear h htm htn hdf hm2 he
  go_enter Try.func26, Try.ntmps26
  go_wp2_with (first
    | (go_at_call 34; refine (his_some _ _ room hr c0).mono ?_; rintro e w' ⟨rfl, rfl⟩)
    | (go_at_call 30; refine HTM.out.mono ?_; rintro e w' ⟨rfl, rfl⟩)
    | (go_at_call 42; refine HDF.out.mono ?_; rintro e w3 ⟨rfl, hm3⟩; have hh := ((H.out.mod0 HM2.out).mod0 hm3); have d1 : w3.cell? ⟨x, 1, none⟩ = some (.slice a l.length c) := cell_at hh.cells 1; have d2 : w3.frozen? ⟨x, 1, none⟩ = false := free_at hh.cells 1; have HM3 := hid (HM2.out.trans hm3); clear hm3 hh))
  go_ret2
  have := H.out.turn (l' := l) (v' := .slice a l.length c) (HM3.out.mono (by simp)) (H.out.mod0 HM3.out).row (fun _ h => h) (fun _ h => h)
  exact ⟨rfl, this.1, this.2⟩

theorem hdrop_some (w : World) (x : Nat) (v : Value) (room : Int) (l : Tks) (now : Int) (h : HeldAt w x v room l) (hr : 0 < room) (hlen : l.length ≤ 1000) (htn : timeOk now = true) (k : Nat) (hk : k < l.length) (he : endS l now = (k : Int)) (hg : Going l now k (k + 1) l) :
    Calls Try.prog 26 #[.pointer (some ⟨x, 0, none⟩), .int .i64 now] w fun e w' => e = .returned (.tuple #[.int .i64 ((l.length : Int) - ((keepS l now).length : Int)), .int .i64 0]) ∧ ∃ v', HeldAt w' x v' room (keepS l now) ∧ Mod (x :: v.ownBlock.toList) w w' ∧ ∀ q, v'.ownBlock = some q → v.ownBlock = some q := by
  have hm2 : Mod [] w ((w.alloc (.cells #[.int .i64 now] 3)).alloc (.cells #[.int .i64 now] 3)) := (Mod.alloc (Mod.refl _ _) _).alloc _
  have c0 : (w.alloc (.cells #[.int .i64 now] 3)).cell? ⟨x, 0, none⟩ = some (.int .i64 room) := cell_at (get_alloc h.cells _) 0
  have c1 : ((w.alloc (.cells #[.int .i64 now] 3)).alloc (.cells #[.int .i64 now] 3)).cell? ⟨x, 1, none⟩ = some v := cell_at (h.mod0 hm2).cells 1
  have htm := times1 (w.alloc (.cells #[.int .i64 now] 3)) now
  rw [World.size_alloc, htn] at htm
  obtain ⟨g, cap, rfl, -⟩ := row_pos h.row (Nat.lt_of_le_of_lt (Nat.zero_le k) hk)
  have hkv : ∀ p ∈ l, ∃ a n c, p.1 = .slice a n c := fun p hp => by
    obtain ⟨a, c, e⟩ := row_slice (h.keys p hp)
    exact ⟨a, _, c, e⟩
  have hdf := delfn_any _ g cap l now w.heap.size (h.mod0 hm2).row hlen (get_alloc (get_new w _) _) hkv k hk he hg
  have hkl : (keepS l now).length ≤ l.length := List.length_filter_le _ _
  obtain ⟨n, hn⟩ : ∃ n, n = (keepS l now).length := ⟨_, rfl⟩
  rw [← hn] at hdf hkl ⊢
  have HTM := hid htm
  have HDF := hid hdf
  have H := hid h
  have HM2 := hid hm2
  have HN := hid hn
  have hwr : IntKind.i64.wrap ((l.length : Int) - (n : Int)) = (l.length : Int) - (n : Int) := IntWalk.i64_in _ (by omega)
  clear h htm htn hdf hm2 he hg hkv hn
  go_enter Try.func26, Try.ntmps26
  go_wp2_with (first
    | (go_at_call 34; refine (his_some _ _ room hr c0).mono ?_; rintro e w' ⟨rfl, rfl⟩)
    | (go_at_call 30; refine HTM.out.mono ?_; rintro e w' ⟨rfl, rfl⟩)
    | (go_at_call 42; refine HDF.out.mono ?_; rintro e w3 ⟨rfl, hr3, hm3⟩; have hgx := (H.out.ne g rfl).symm; have hh := hm3.get (H.out.mod0 HM2.out).cells (by simpa using hgx); have d1 : w3.cell? ⟨x, 1, none⟩ = some (.slice (some ⟨g, 0, none⟩) l.length cap) := cell_at hh 1; have d2 : w3.frozen? ⟨x, 1, none⟩ = false := free_at hh 1; have HM3 := hid ((HM2.out.mono (by simp)).trans hm3); have HR3 := hid hr3; clear hm3 hh hr3 hgx))
  go_ret2
  have hr3 := HR3.out
  rw [HN.out] at hr3
  have := H.out.turn (l' := keepS l now) (v' := .slice (some ⟨g, 0, none⟩) (keepS l now).length cap) HM3.out hr3 (fun p hp => (List.mem_filter.1 hp).1) (fun q hq => hq)
  rw [HN.out]
  exact ⟨rfl, _, this.1, this.2, fun q hq => hq⟩

theorem hdrop_any (w : World) (x : Nat) (v : Value) (room : Int) (l : Tks) (now : Int) (h : HeldAt w x v room l) (hr : 0 < room) (hlen : l.length ≤ 1000) :
    Calls Try.prog 26 #[.pointer (some ⟨x, 0, none⟩), .int .i64 now] w fun e w' => e = .returned (.tuple #[.int .i64 (dropN l now), .int .i64 (dropE now)]) ∧ ∃ v', HeldAt w' x v' room (dropS l now) ∧ Mod (x :: v.ownBlock.toList) w w' ∧ ∀ q, v'.ownBlock = some q → v.ownBlock = some q := by
  cases ht : timeOk now with
  | false =>
    refine (hdrop_bad w x v room l now h hr ht).mono ?_
    rintro e w' ⟨rfl, hm⟩
    refine ⟨by simp [dropN, dropE, ht], v, ?_, hm.mono (by simp), fun _ h => h⟩
    simp only [dropS, ht]
    exact h.mod0 hm
  | true =>
    rcases endS_cases l now with ⟨he, hk⟩ | ⟨k, hk, he, hg⟩
    · refine (hdrop_none w x v room l now h hr hlen ht he).mono ?_
      rintro e w' ⟨rfl, hh, hm⟩
      refine ⟨by simp [dropN, dropE, ht, hk], v, ?_, hm, fun _ h => h⟩
      simp only [dropS, ht, if_true, hk]
      exact hh
    · refine (hdrop_some w x v room l now h hr hlen ht k hk he hg).mono ?_
      rintro e w' ⟨rfl, v', hh, hm, hv⟩
      refine ⟨by simp [dropN, dropE, ht], v', ?_, hm, hv⟩
      simp only [dropS, ht, if_true]
      exact hh
end Go.Proofs.Yteifjbfojjjacaa
