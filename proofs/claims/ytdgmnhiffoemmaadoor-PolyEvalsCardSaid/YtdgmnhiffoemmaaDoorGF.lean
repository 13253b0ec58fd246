/-
  base.Nat, base.Among, base.HasInt, the laws' order, apart. No statement of a claim stands here; each contract names what it asks.
-/
import Derived.Test.YtdgmnhiffoemmaaDoorGE
import Derived.Deep.CutBlock
set_option linter.unusedSimpArgs false
namespace Go.Proofs.YtdgmnhiffoemmaaDoor
open Go Go.RowKit Go.ChangeMaps

theorem parts_one {x : Nat} (hx : x < BB) : parts x 4 = [x, 0, 0, 0] := by
  simp only [parts, Nat.mod_eq_of_lt hx, Nat.div_eq_of_lt hx, Nat.zero_div, Nat.zero_mod]
theorem nv_small {x : Nat} (hx : x < BB) : nv x = .agg #[.int .u64 (x : Int), .int .u64 0, .int .u64 0, .int .u64 0] := by
  unfold nv
  rw [parts_one hx]
  rfl

theorem bnat {x : Nat} (hx : x < 9223372036854775808) (w : World) : Calls Tryd.prog 16 #[.int .i64 x] w fun e w' => e = .returned (nv x) ∧ Mod [] w w' := by
  have hb : x < BB := by unfold BB; omega
  rw [nv_small hb]
  have hw : IntKind.u64.wrap (x : Int) = (x : Int) := wrap_small hb
  go_enter Tryd.func16, Tryd.ntmps16
  go_wp2
  simp [bodyPost, results, Tryd.results16, go_sem]
  exact (Mod.refl _ _).alloc _
theorem lorder (w : World) : Calls Tryd.prog 11 #[] w fun e w' => e = .returned (nv 581039633) ∧ Mod [] w w' := by
  rw [nv_small (by unfold BB; decide)]
  go_enter Tryd.func11, Tryd.ntmps11
  go_wp2
  simp [bodyPost, results, Tryd.results11, go_sem]
  exact (Mod.refl _ _).alloc _

theorem row_slJ {w : World} {e : TypeId} {size n : Nat} {v : Value} {xs : List Value} {base : Nat} (h : w.ownsRow base e size v n xs) : ∃ a c, v = .slice a n c := by
  rcases h.2 with ⟨rfl, rfl⟩ | ⟨g, cap, cur, rfl, _⟩
  · exact ⟨none, 0, rfl⟩
  · exact ⟨_, _, rfl⟩
def among (x n : Int) : Int := IntKind.u64.wrap x % n
theorem among_any (x n : Int) (w : World) (hn : 1 ≤ n) (hn' : n ≤ 9223372036854775807) :
    Calls Tryd.prog 15 #[.int .i64 x, .int .i64 n] w fun e w' => e = .returned (.int .i64 (among x n)) ∧ w = w' := by
  have hu : 0 ≤ IntKind.u64.wrap x := by simp only [IntKind.wrap_u64]; omega
  have hr : 0 ≤ among x n ∧ among x n < n := ⟨Int.emod_nonneg _ (by omega), Int.emod_lt_of_pos _ (by omega)⟩
  have ht : (IntKind.u64.wrap x).tmod n = among x n := by rw [Int.tmod_eq_emod_of_nonneg hu]; rfl
  have hw : IntKind.i64.wrap (among x n) = among x n := IntWalk.i64_in _ (by omega)
  go_enter Tryd.func15, Tryd.ntmps15
  go_wp2
  go_ret
  refine ⟨?_, rfl⟩
  simp [ht]
theorem among_in (x n : Int) (hn : 1 ≤ n) : 0 ≤ among x n ∧ among x n < n := ⟨Int.emod_nonneg _ (by omega), Int.emod_lt_of_pos _ (by omega)⟩

set_option maxHeartbeats 1000000 in
theorem has_any (w : World) (B : Nat) (v : Value) (l : List Int) (k : Int) (h : Ints B w v l) (hl : l.length ≤ 5000) :
    Calls Tryd.prog 31 #[v, .int .i64 k] w fun e w' => e = .returned (.bool (decide (k ∈ l))) ∧ w' = w := by
  have hsl : ∃ a c, v = .slice a l.length c := row_slJ h.row
  obtain ⟨a0, c0, rfl⟩ := hsl
  have H := hid h
  clear h
  go_enter Tryd.func31, Tryd.ntmps31
  go_wp2_with fail
  go_loopg [5] l.length (fun gk i W' => ∃ (j : Nat), i = .int .i64 (j : Int) ∧ gk + j = l.length ∧ decide (k ∈ l.drop j) = decide (k ∈ l) ∧ W' = w)
  case atStart => exact ⟨0, rfl, by omega, rfl, rfl⟩
  case round =>
    obtain ⟨j, rfl, hj, hp, rfl⟩ := hrel
    by_cases hjn : j < l.length
    · obtain ⟨x, hx⟩ : ∃ x, l[j]? = some x := ⟨_, List.getElem?_eq_getElem hjn⟩
      obtain ⟨g, c', cur, e0, -, hg, -, hcells⟩ := RowOf.at H.out encI_len (by intro h; rw [h] at hjn; simp at hjn)
      cases e0
      have x0 := hcells j x hx 0 (.int .i64 x) rfl
      have x1 := cell_at hg (j * 1 + 0)
      rw [x0, Nat.mul_one, Nat.add_zero] at x1
      have hd : l.drop j = x :: l.drop (j + 1) := by rw [List.drop_eq_getElem_cons hjn]; rw [(List.getElem?_eq_some_iff.1 hx).2]
      rw [hd] at hp
      have j0 : (0 : Int) ≤ (j : Int) := Int.natCast_nonneg _
      have j1 : (j : Int) < (l.length : Int) := by omega
      by_cases hk : x = k
      · have hq : decide (k ∈ l) = true := by rw [← hp, hk]; simp
        have HQ := hid hq
        subst hk
        clear hp hd hx hq hcells hg x0
        go_wp2_with fail
        go_ret
        exact ⟨by rw [HQ.out]; rfl, rfl⟩
      · have hq : decide (k ∈ l.drop (j + 1)) = decide (k ∈ l) := by
          rw [← hp]
          simp only [List.mem_cons, decide_eq_decide]
          exact ⟨.inr, fun h => h.resolve_left (fun e => hk e.symm)⟩
        have HQ := hid hq
        have hk' : (x == k) = false := by simpa using hk
        clear hp hd hx hq hk hcells hg x0
        go_wp2_with fail
        go_roundg (gk - 1)
        case measure => omega
        case rel => exact ⟨j + 1, by go_num, by omega, HQ.out, rfl⟩
    · have hd : l.drop j = [] := List.drop_eq_nil_of_le (by omega)
      have hq : decide (k ∈ l) = false := by rw [← hp, hd]; rfl
      have j1 : ¬ (j : Int) < (l.length : Int) := by omega
      have HQ := hid hq
      clear hq hd hp
      go_wp2_with fail
      go_ret
      exact ⟨by rw [HQ.out]; rfl, rfl⟩
end Go.Proofs.YtdgmnhiffoemmaaDoor
/-
  the laws' apart. No statement of a claim stands here; each contract names what it asks.
-/
set_option linter.unusedSimpArgs false
namespace Go.Proofs.YtdgmnhiffoemmaaDoor
open Go Go.RowKit Go.ChangeMaps

theorem sub_len : ∀ (A B : List Int), A.Nodup → (∀ x ∈ A, x ∈ B) → A.length ≤ B.length
  | [], _, _, _ => by simp
  | a :: A, B, hd, h => by
    simp only [List.nodup_cons] at hd
    have hm := h a (by simp)
    have := sub_len A (B.erase a) hd.2 (fun x hx => (List.mem_erase_of_ne (by rintro rfl; exact hd.1 hx)).2 (h x (by simp [hx])))
    rw [List.length_erase_of_mem hm] at this
    have : 0 < B.length := List.length_pos_of_mem hm
    simp only [List.length_cons]
    omega
/-- All from 1 on, below x, are there: then there are as many. -/
theorem up_to {l : List Int} {x : Nat} (h : ∀ y : Int, 1 ≤ y → y < (x : Int) → y ∈ l) : x ≤ l.length + 1 := by
  have h1 := sub_len ((List.range (x - 1)).map fun (n : Nat) => ((n : Int) + 1)) l (by
    rw [List.nodup_iff_pairwise_ne, List.pairwise_map]
    exact (List.nodup_iff_pairwise_ne.1 List.nodup_range).imp (fun hab h => hab (by omega))) (by
    intro y hy
    obtain ⟨n, hn, rfl⟩ := List.mem_map.1 hy
    have := List.mem_range.1 hn
    exact h _ (by omega) (by omega))
  simp at h1
  omega

/-- A row of ints, as an argument. -/
def IntsArg (w : World) (a : Option Addr) (xs : List Int) : Prop := ∀ (i : Nat) (x : Int), xs[i]? = some x → ∃ b o, a = some ⟨b, o, none⟩ ∧ w.cell? ⟨b, o + i, none⟩ = some (.int .i64 x)

/-- Different numbers, from 1 to 40. -/
structure Diff (n : Nat) (l : List Int) : Prop where
  len : l.length ≤ n
  nodup : l.Nodup
  range : ∀ x ∈ l, 1 ≤ x ∧ x ≤ 40
theorem Diff.snoc {n : Nat} {l : List Int} {x : Int} (h : Diff n l) (hl : l.length < n) (hx : x ∉ l) (h1 : 1 ≤ x) (h2 : x ≤ 40) : Diff n (l ++ [x]) := by
  refine ⟨by simp; omega, ?_, ?_⟩
  · rw [List.nodup_append]
    refine ⟨h.nodup, by simp, ?_⟩
    intro a ha b hb
    rw [List.mem_singleton] at hb
    subst hb
    rintro rfl
    exact hx ha
  · intro y hy
    rcases List.mem_append.1 hy with hy | hy
    · exact h.range y hy
    · rw [List.mem_singleton.1 hy]
      exact ⟨h1, h2⟩

set_option maxRecDepth 100000 in
set_option maxHeartbeats 4000000 in
theorem apart_any (xs : List Int) (hxl : xs.length ≤ maxLen) (a : Option Addr) (c : Nat) (n : Nat) (hn : n ≤ 13) (w : World) (h : IntsArg w a xs) :
    Calls Tryd.prog 12 #[.slice a xs.length c, .int .i64 n] w fun e w' => (∃ (v : Value) (l : List Int), e = .returned v ∧ Ints w.heap.size w' v l ∧ l.length = n ∧ Diff n l) ∧ Mod [] w w' := by
  have HX := hid h
  have hx63 : (xs.length : Int) ≤ 9223372036854775807 := by unfold maxLen at hxl; omega
  have n3 : (n : Int) ≤ 13 := by omega
  clear h hxl
  go_enter Tryd.func12, Tryd.ntmps12
  go_upto_block 0 with fail
  refine wp_abs (fun W => W.heap[w.heap.size]? = some (.cells #[] 3 (0, 0)) ∧ Mod [] w W) ⟨get_new _ _, (Mod.refl _ _).alloc _⟩ ?_
  rintro W ⟨g0, hm0⟩
  have hr0 : Ints w.heap.size W (.slice (some ⟨w.heap.size, 0, none⟩) 0 0) [] := RowOf.empty g0 (Nat.le_refl _)
  have H0 := hid (And.intro hr0 hm0)
  clear g0 hr0 hm0
  go_cut [5] (fun v wx => ∃ l, Ints w.heap.size wx v l ∧ Diff n l ∧ Mod [] w wx)
  case first =>
    go_wp2_with fail
    go_loopg [5, 6] xs.length (fun gk v i wx => ∃ (j : Nat) (l : List Int), i = .int .i64 j ∧ gk + j = xs.length ∧ Ints w.heap.size wx v l ∧ Diff n l ∧ Mod [] w wx)
    case atStart => exact ⟨0, [], rfl, rfl, H0.out.1, ⟨Nat.zero_le _, List.nodup_nil, fun x hx => by simp at hx⟩, H0.out.2⟩
    case round =>
      obtain ⟨j, l, rfl, hgj, hv, hd, hm⟩ := hrel
      obtain ⟨av, kv, rfl⟩ := row_slJ hv.row
      by_cases hj : j < xs.length
      · have j1 : (j : Int) < (xs.length : Int) := by omega
        have j0 : (0 : Int) ≤ (j : Int) := by omega
        by_cases hln : l.length < n
        · have l1 : (l.length : Int) < (n : Int) := by omega
          obtain ⟨x, hx⟩ : ∃ x, xs[j]? = some x := ⟨_, List.getElem?_eq_getElem hj⟩
          obtain ⟨b, o, rfl, cx0⟩ := HX.out j x hx
          have cx := hm.cell cx0 (by simp)
          have cam := fun W => among_any x 40 W (by omega) (by omega)
          obtain ⟨r1, r2⟩ := among_in x 40 (by omega)
          generalize among x 40 = r at *
          have hw : IntKind.i64.wrap (1 + r) = 1 + r := IntWalk.i64_in _ (by omega)
          have chas := has_any wr w.heap.size (.slice av l.length kv) l (1 + r) hv (by have := hd.len; omega)
          have happ := RowOf.app elemI encI_len encI_one hv hm.size (1 + r) (by have := hd.len; omega) (by omega)
          have CAM := hid cam
          by_cases hin : (1 + r) ∈ l
          · rw [decide_eq_true hin] at chas
            have CH := hid chas
            have HN := hid (And.intro hv (And.intro hd (And.intro hm hgj)))
            clear hv hd hm hgj hx cx0 cam chas happ hin
            go_wp2_with (first
              | (go_at_call 15; refine (CAM.out _).mono ?_; rintro e w' ⟨rfl, hw'⟩; obtain rfl : wr = w' := hw')
              | (go_at_call 31; refine CH.out.mono ?_; rintro e w' ⟨rfl, hw'⟩; obtain rfl : wr = w' := hw'.symm))
            go_roundg (gk - 1)
            case measure => have := HN.out.2.2.2; omega
            case rel => exact ⟨j + 1, l, by go_num, by have := HN.out.2.2.2; omega, HN.out.1, HN.out.2.1, HN.out.2.2.1⟩
          · rw [decide_eq_false hin] at chas
            have CH := hid chas
            have HA := hid happ
            have HN := hid (And.intro hv (And.intro (hd.snoc hln hin (by omega) (by omega)) (And.intro hm hgj)))
            clear hv hd hm hgj hx cx0 cam chas happ hin
            go_wp2_with (first
              | (go_at_call 15; refine (CAM.out _).mono ?_; rintro e w' ⟨rfl, hw'⟩; obtain rfl : wr = w' := hw')
              | (go_at_call 31; refine CH.out.mono ?_; rintro e w' ⟨rfl, hw'⟩; obtain rfl : wr = w' := hw'.symm)
              | (at_builtin; refine wpList_app_run rfl _ _ 23 rfl _ _ rfl rfl _ HA.out ?_; rintro v3 w4 ⟨h31, h32, h33⟩; have H4 := hid (And.intro h31 (And.intro h32 h33)); clear h31 h32 h33))
            have hmE : Mod [] w w4 := HN.out.2.2.1.trans' H4.out.2.1 (fun k hk => .inr (HN.out.1.own k (by simpa using hk)))
            go_roundg (gk - 1)
            case measure => have := HN.out.2.2.2; omega
            case rel => exact ⟨j + 1, l ++ [1 + r], by go_num, by have := HN.out.2.2.2; omega, H4.out.1, HN.out.2.1, hmE⟩
        · have l1 : ¬ (l.length : Int) < (n : Int) := by omega
          have HN := hid (And.intro hv (And.intro hd hm))
          clear hv hd hm
          go_wp2_with fail
          go_meet
          exact ⟨l, HN.out⟩
      · have j1 : ¬ (j : Int) < (xs.length : Int) := by omega
        have HN := hid (And.intro hv (And.intro hd hm))
        clear hv hd hm
        go_wp2_with fail
        go_meet
        exact ⟨l, HN.out⟩
  case rest =>
    obtain ⟨l0, hv0, hd0, hm0⟩ := hcut
    have HC := hid (And.intro hv0 (And.intro hd0 hm0))
    clear hv0 hd0 hm0 H0
    go_wp2_with fail
    go_loopg [5, 8] (n + 1) (fun gk v i wx => ∃ (x : Nat) (l : List Int), i = .int .i64 x ∧ 1 ≤ x ∧ gk + x = n + 2 ∧ (∀ y : Int, 1 ≤ y → y < (x : Int) → y ∈ l) ∧ Ints w.heap.size wx v l ∧ Diff n l ∧ Mod [] w wx)
    case atStart => exact ⟨1, l0, rfl, by omega, by omega, fun y h1 h2 => by omega, HC.out.1, HC.out.2.1, HC.out.2.2⟩
    case round =>
      obtain ⟨x, l, rfl, hx1, hgx, hup, hv, hd, hm⟩ := hrel
      obtain ⟨av, kv, rfl⟩ := row_slJ hv.row
      by_cases hln : l.length < n
      · have l1 : (l.length : Int) < (n : Int) := by omega
        have hxl := up_to hup
        have chas := has_any wr w.heap.size (.slice av l.length kv) l (x : Int) hv (by have := hd.len; omega)
        have happ := RowOf.app elemI encI_len encI_one hv hm.size (x : Int) (by have := hd.len; omega) (by omega)
        have x63 : (x : Int) ≤ 14 := by omega
        by_cases hin : (x : Int) ∈ l
        · rw [decide_eq_true hin] at chas
          have CH := hid chas
          have hup2 : ∀ y : Int, 1 ≤ y → y < ((x + 1 : Nat) : Int) → y ∈ l := by
            intro y h1 h2
            by_cases he : y = (x : Int)
            · rw [he]; exact hin
            · exact hup y h1 (by omega)
          have HN := hid (And.intro hv (And.intro hd (And.intro hm (And.intro hgx (And.intro hup2 hxl)))))
          clear hv hd hm hgx hup hup2 chas happ hin hxl
          go_wp2_with (go_at_call 31; refine CH.out.mono ?_; rintro e w' ⟨rfl, hw'⟩; obtain rfl : wr = w' := hw'.symm)
          obtain ⟨hv, hd, hm, hgx, hup2, hxl⟩ := HN.out
          go_roundg (gk - 1)
          case measure => omega
          case rel => exact ⟨x + 1, l, by go_num, by omega, by omega, hup2, hv, hd, hm⟩
        · rw [decide_eq_false hin] at chas
          have CH := hid chas
          have HA := hid happ
          have hup2 : ∀ y : Int, 1 ≤ y → y < ((x + 1 : Nat) : Int) → y ∈ l ++ [(x : Int)] := by
            intro y h1 h2
            by_cases he : y = (x : Int)
            · rw [he]; simp
            · exact List.mem_append_left _ (hup y h1 (by omega))
          have HN := hid (And.intro hv (And.intro (hd.snoc hln hin (by omega) (by omega)) (And.intro hm (And.intro hgx (And.intro hup2 hxl)))))
          clear hv hd hm hgx hup hup2 chas happ hin hxl
          go_wp2_with (first
            | (go_at_call 31; refine CH.out.mono ?_; rintro e w' ⟨rfl, hw'⟩; obtain rfl : wr = w' := hw'.symm)
            | (at_builtin; refine wpList_app_run rfl _ _ 23 rfl _ _ rfl rfl _ HA.out ?_; rintro v3 w4 ⟨h31, h32, h33⟩; have H4 := hid (And.intro h31 (And.intro h32 h33)); clear h31 h32 h33))
          obtain ⟨hv, hd, hm, hgx, hup2, hxl⟩ := HN.out
          have hmE : Mod [] w w4 := hm.trans' H4.out.2.1 (fun k hk => .inr (hv.own k (by simpa using hk)))
          go_roundg (gk - 1)
          case measure => omega
          case rel => exact ⟨x + 1, l ++ [(x : Int)], by go_num, by omega, by omega, hup2, H4.out.1, hd, hmE⟩
      · have l1 : ¬ (l.length : Int) < (n : Int) := by omega
        have hle : l.length = n := by have := hd.len; omega
        have HN := hid (And.intro hv (And.intro hle (And.intro hd hm)))
        clear hv hd hm hgx hup hle
        go_wp2_with fail
        exact bodyPost_ret (v := .slice av l.length kv) (by simp [results, Tryd.results12, go_sem]) rfl ⟨⟨_, rfl, l, HN.out.1, HN.out.2.1, HN.out.2.2.1⟩, HN.out.2.2.2⟩
end Go.Proofs.YtdgmnhiffoemmaaDoor
/-
  The laws' few. No statement of a claim stands here; each contract names what it asks.
-/
set_option linter.unusedSimpArgs false
namespace Go.Proofs.YtdgmnhiffoemmaaDoor
open Go Go.RowKit Go.ChangeMaps

/-- A row of numbers, as an argument. -/
def NatsArg (w : World) (a : Option Addr) (l : List Nat) : Prop := ∀ (i n : Nat), l[i]? = some n → ∃ b o, a = some ⟨b, o, none⟩ ∧ ∀ (j : Nat) (u : Value), (encN n)[j]? = some u → w.cell? ⟨b, o + (i * 4 + j), none⟩ = some u

theorem slice_toA {P : Program} {t e : TypeId} (ht : P.underlying t = some (.slice e)) {i : TypeInfo} (hi : P.info? e = some i) (ad : Addr) (n cap k : Nat) (hk : k ≤ cap) (w : World) :
    (Instr.slice t (.slice (some ad) n cap) none (some (.int .i64 (k : Int))) none).run P w = .ok (.slice (some ad) k cap) w := by
  have h1 : (Instr.sliceBound (.int .i64 (k : Int)) cap .sliceAcap).run P w = .ok k w := by rw [run_sliceBound _ _ _ _ _ (by omega) (by omega)]; simp
  simp [Instr.slice, run_underlying ht, Instr.sliceBounds, h1, sizeOf, typeInfo, hi]
  intro _; simp [Addr.add]

theorem flat_news {w : World} {ad : Addr} {l : List Nat} (h : NatsArg w (some ad) l) (k : Nat) : ∀ (j : Nat) (u : Value), ((l.take k).flatMap encN)[j]? = some u → w.cell? (ad.add j) = some u := by
  intro j u hu
  have hj := (List.getElem?_eq_some_iff.1 hu).1
  rw [flat_len encN_len, List.length_take] at hj
  have hi : j / 4 < l.length ∧ j / 4 < k := by omega
  obtain ⟨n, hn⟩ : ∃ n, l[j / 4]? = some n := ⟨_, List.getElem?_eq_getElem hi.1⟩
  have hn2 : (l.take k)[j / 4]? = some n := by rw [List.getElem?_take, if_pos hi.2]; exact hn
  have h1 := flat_get encN_len hn2 (j % 4) (Nat.mod_lt _ (by decide))
  have hdj : j / 4 * 4 + j % 4 = j := by omega
  rw [hdj, hu] at h1
  obtain ⟨b', o', e, hc⟩ := h (j / 4) n hn
  cases e
  have h2 := hc (j % 4) u h1.symm
  rw [hdj] at h2
  rw [Addr.add_lit]
  exact h2

set_option maxRecDepth 100000 in
set_option maxHeartbeats 1000000 in
theorem few_any (l : List Nat) (hl : l.length ≤ maxLen) (a : Option Addr) (c : Nat) (hc : l.length ≤ c) (hn : a = none → l = [] ∧ c = 0) (w : World) (h : NatsArg w a l) :
    Calls Tryd.prog 9 #[.slice a l.length c] w fun e w' => (∃ v : Value, e = .returned v ∧ Nats w.heap.size w' v (l.take 12)) ∧ Mod [] w w' := by
  obtain ⟨i26, hi26⟩ := Option.isSome_iff_exists.1 (show (Tryd.prog.info? 26).isSome = true by kernel_rfl)
  have hown : ∀ W : World, (W.alloc (.cells #[] 26)).ownsRow 0 26 4 (.slice (some ⟨W.heap.size, 0, none⟩) 0 0) 0 [] := fun W =>
    ⟨rfl, .inr ⟨W.heap.size, 0, #[], rfl, Nat.zero_le _, get_new _ _, Nat.le_refl _, by unfold maxLen; omega, by simp, by simp⟩⟩
  have hml : l.length ≤ 9223372036854775807 := by unfold maxLen at hl; exact hl
  cases a with
  | none =>
    obtain ⟨rfl, rfl⟩ := hn rfl
    have hap := run_append_owned_none (P := Tryd.prog) (w := w.alloc (.cells #[] 26)) 0 22 22 26 i26 4 Tryd.underlying22 hi26 (.slice (some ⟨w.heap.size, 0, none⟩) 0 0) 0 [] (hown w)
    have hm : Mod [] w (w.alloc (.cells #[] 26)) := (Mod.refl _ _).alloc _
    have HA : ∃ v' w', (Builtin.append_ #[22, 22] 22 #[.slice (some ⟨w.heap.size, 0, none⟩) 0 0, .slice none 0 0]).run Tryd.prog (w.alloc (.cells #[] 26)) = .ok v' w' ∧ (Nats w.heap.size w' v' [] ∧ Mod [] w w') :=
      ⟨_, _, hap, ⟨hown w, fun k hk => by cases hk; exact Nat.le_refl _⟩, hm⟩
    have HAH := hid HA
    clear HA hap hm hown
    go_enter Tryd.func9, Tryd.ntmps9
    go_wp2_with (at_builtin; refine wpList_app_run rfl _ _ 22 rfl _ _ rfl rfl _ HAH.out ?_; rintro v3 w4 ⟨h31, h32⟩; have H4 := hid (And.intro h31 h32); clear h31 h32)
    exact bodyPost_ret (v := v3) (by simp [results, Tryd.results9, go_sem]) rfl ⟨⟨v3, rfl, H4.out.1⟩, H4.out.2⟩
  | some ad =>
    obtain ⟨k, hk⟩ : ∃ k, k = min l.length 12 := ⟨_, rfl⟩
    have hkl : (l.take 12).length = k := by rw [List.length_take, hk, Nat.min_comm]
    have hh : NatsArg (w.alloc (.cells #[] 26)) (some ad) l := fun i n hi => by
      obtain ⟨b', o', e, hcc⟩ := h i n hi
      exact ⟨b', o', e, fun j u hu => ((Mod.refl [] w).alloc _).cell (hcc j u hu) (by simp)⟩
    have hsl := fun W => slice_toA (P := Tryd.prog) Tryd.underlying22 hi26 ad l.length c k (by omega) W
    obtain ⟨i, z, h1, h2, h3, h4, h5⟩ := elemN.info
    obtain ⟨v', w', hr, ho, hm, hb, -⟩ := run_app (P := Tryd.prog) (w.alloc (.cells #[] 26)) 22 22 26 i z 4 32 elemN.under h1 h2 h3 h4 h5 (by decide) (.slice (some ⟨w.heap.size, 0, none⟩) 0 0) 0 [] (hown w) ad k c ((l.take 12).flatMap encN) (by rw [flat_len encN_len, hkl]) (flat_news hh 12)
      (fun u hu => by obtain ⟨n, -, hnu⟩ := List.mem_flatMap.1 hu; exact encN_one n u hnu) (by unfold maxLen; omega) (by omega)
    have HA : ∃ v' w', (Builtin.append_ #[22, 22] 22 #[.slice (some ⟨w.heap.size, 0, none⟩) 0 0, .slice (some ad) k c]).run Tryd.prog (w.alloc (.cells #[] 26)) = .ok v' w' ∧ (Nats w.heap.size w' v' (l.take 12) ∧ Mod [] w w') := by
      refine ⟨v', w', hr, ⟨?_, fun k' hk' => ?_⟩, ((Mod.refl [] w).alloc _).trans' hm (fun x hx => .inr (by simp [Value.ownBlock] at hx; omega))⟩
      · rw [hkl]
        simpa using ho
      · rcases hb k' hk' with e | e
        · cases e; exact Nat.le_refl _
        · rw [e]; exact Nat.le_trans (Nat.le_succ _) (by rw [show (w.alloc (.cells #[] 26)).heap.size = w.heap.size + 1 from Array.size_push _]; omega)
    have HAH := hid HA
    have kmin : min (l.length : Int) 12 = (k : Int) := by rw [hk]; omega
    clear HA hr ho hm hb hh hown h1 h2 h3 h4 h5 hkl h hk
    go_enter Tryd.func9, Tryd.ntmps9
    go_wp2_with (first
      | simp only [kmin]
      | simp only [hsl]
      | (at_builtin; refine wpList_app_run rfl _ _ 22 rfl _ _ rfl rfl _ HAH.out ?_; rintro v3 w4 ⟨h31, h32⟩; have H4 := hid (And.intro h31 h32); clear h31 h32))
    exact bodyPost_ret (v := v3) (by simp [results, Tryd.results9, go_sem]) rfl ⟨⟨v3, rfl, H4.out.1⟩, H4.out.2⟩
end Go.Proofs.YtdgmnhiffoemmaaDoor
