/-
  PolyTurned in plain words; a row of points that is written. No statement of a claim stands here; each lemma names what it asks.
-/
import Derived.Test.YtdgmnhiffoemmaaDoorZC
set_option linter.unusedSimpArgs false
namespace Go.Proofs.YtdgmnhiffoemmaaDoor
open Go Go.RowKit Go.ChangeMaps

theorem OnPoly.take {q : Nat} {l xs : List Nat} {ps : List (Nat × Nat)} (h : OnPoly q l xs ps) (n : Nat) : OnPoly q l (xs.take n) (ps.take n) := by
  refine ⟨by rw [List.length_take, List.length_take, h.1], fun k p hk => ?_⟩
  rw [List.getElem?_take] at hk
  split at hk
  · rename_i hkn
    obtain ⟨h1, h2⟩ := h.2 k p hk
    exact ⟨by rw [List.getElem?_take, if_pos hkn]; exact h1, h2⟩
  · cases hk
/-- What points of a polynomial come to at a further one's place. -/
theorem on_comes {l xs : List Nat} {ps : List (Nat × Nat)} (hon : OnPoly order l xs ps) (hap : AllApart order (ps.map Prod.fst)) {n : Nat} (hn : n ≤ ps.length) (hl : l.length ≤ n) {p : Nat × Nat} (hp : p ∈ ps) {z : Nat} (h : Comes p.1 (ps.take n) z) : z = p.2 := by
  obtain ⟨hz, fs, hfl, hf, hcg⟩ := h
  have htl : (ps.take n).length = n := by rw [List.length_take]; omega
  have h1 := shares_plain order_prim (hon.take n) (by rw [List.map_take]; exact hap.take n) hfl hf (by omega) hcg
  obtain ⟨k, hk⟩ := List.mem_iff_getElem?.1 hp
  obtain ⟨-, h2, h3⟩ := hon.2 k p hk
  have := (h1.trans h3.symm).eq ⟨by omega, by omega⟩ ⟨by omega, by omega⟩
  omega
theorem line_true {l xs : List Nat} {ps : List (Nat × Nat)} (hon : OnPoly order l xs ps) (hap : AllApart order (ps.map Prod.fst)) {n : Nat} (hn : n ≤ ps.length) (hl : ps.drop n = [] ∨ l.length ≤ n) {e : Ending} (h : LineSays ps n e) : e = .returned (.tuple #[.bool true, .int .i64 0]) := by
  obtain ⟨b, rfl, h1, h2⟩ := h
  cases b with
  | true => rfl
  | false =>
    obtain ⟨p, hp, y, hy, hne⟩ := h2 rfl
    rcases hl with hl | hl
    · rw [hl] at hp; cases hp
    · exact absurd (on_comes hon hap hn hl (List.mem_of_mem_drop hp) hy) hne

theorem sumFY_set {fs : List Nat} {ps : List (Nat × Nat)} {k x y y' : Nat} (hk : ps[k]? = some (x, y)) : ∀ n, (n ≤ k → sumFY fs (ps.set k (x, y')) n = sumFY fs ps n) ∧ (k < n → sumFY fs (ps.set k (x, y')) n = sumFY fs ps n + (fs.getD k 0 : Int) * ((y' : Int) - (y : Int)))
  | 0 => ⟨fun _ => rfl, fun h => by omega⟩
  | n + 1 => by
    obtain ⟨i1, i2⟩ := sumFY_set (fs := fs) (y' := y') hk n
    have hkl := (List.getElem?_eq_some_iff.1 hk).1
    constructor
    · intro h
      rw [sumFY, sumFY, i1 (by omega), List.getD_eq_getElem?_getD (l := ps.set k (x, y')), List.getElem?_set_ne (by omega), ← List.getD_eq_getElem?_getD]
    · intro h
      by_cases hkn : k = n
      · subst hkn
        rw [sumFY, sumFY, i1 (by omega), List.getD_eq_getElem?_getD (l := ps.set k (x, y')), List.getElem?_set_self hkl, List.getD_eq_getElem?_getD (l := ps), hk]
        simp only [Option.getD_some]
        rw [Int.mul_sub]
        omega
      · rw [sumFY, sumFY, i2 (by omega), List.getD_eq_getElem?_getD (l := ps.set k (x, y')), List.getElem?_set_ne (by omega), ← List.getD_eq_getElem?_getD]
        omega
theorem map_set_fst {ps : List (Nat × Nat)} {k x y y' : Nat} (hk : ps[k]? = some (x, y)) : (ps.set k (x, y')).map Prod.fst = ps.map Prod.fst := by
  rw [List.map_set]
  apply List.ext_getElem?
  intro i
  rw [List.getElem?_set]
  split
  · rename_i h
    subst h
    have := (List.getElem?_eq_some_iff.1 hk).1
    rw [List.getElem?_map, hk]
    simp [this]
  · rfl
/-- One point turned, below the further one. -/
theorem turned_comes {l xs : List Nat} {ps : List (Nat × Nat)} (hon : OnPoly order l xs ps) (hap : AllApart order (ps.map Prod.fst)) {n : Nat} (hn : ps.length = n + 1) (hl : l.length ≤ n) {k x y y' : Nat} (hk : ps[k]? = some (x, y)) (hkn : k < n) {p : Nat × Nat} (hp : ps[n]? = some p)
    {z : Nat} (h : Comes p.1 ((ps.take n).set k (x, y')) z) : z = p.2 ↔ (order : Int) ∣ (y' : Int) - (y : Int) := by
  have htl : (ps.take n).length = n := by rw [List.length_take]; omega
  have htk : (ps.take n)[k]? = some (x, y) := by rw [List.getElem?_take, if_pos hkn]; exact hk
  obtain ⟨hz, fs, hfl, hf, hcg⟩ := h
  rw [map_set_fst htk] at hf
  rw [List.length_set] at hfl hcg
  rw [((sumFY_set (fs := fs) (y' := y') htk (ps.take n).length).2 (by omega))] at hcg
  have hapt : AllApart order ((ps.take n).map Prod.fst) := by rw [List.map_take]; exact hap.take n
  -- what the points that were come to
  obtain ⟨s, hs⟩ : ∃ s : Nat, (s : Int) = sumFY fs (ps.take n) (ps.take n).length % (order : Int) := ⟨(sumFY fs (ps.take n) (ps.take n).length % (order : Int)).toNat, Int.toNat_of_nonneg (Int.emod_nonneg _ (by decide))⟩
  have hsc : Cg (order : Int) (s : Int) (sumFY fs (ps.take n) (ps.take n).length) := by rw [hs]; exact Cg.mod _ _
  have h1 := shares_plain order_prim (hon.take n) hapt hfl hf (by omega) hsc
  obtain ⟨-, h2, h3⟩ := hon.2 n p hp
  have hpS : Cg (order : Int) (p.2 : Int) (sumFY fs (ps.take n) (ps.take n).length) := (h3.trans h1.symm).trans hsc
  obtain ⟨f, hfk⟩ : ∃ f, fs[k]? = some f := ⟨_, List.getElem?_eq_getElem (by omega)⟩
  obtain ⟨xi, u, hxi, hfq, huq, hu1, hf1⟩ := hf k f hfk
  have hxk : ((ps.take n).map Prod.fst)[k]? = some x := by rw [List.getElem?_map, htk]; rfl
  rw [hxk] at hxi
  cases hxi
  rw [List.getD_eq_getElem?_getD, hfk] at hcg
  simp only [Option.getD_some] at hcg
  have hcg2 : Cg (order : Int) (z : Int) ((p.2 : Int) + (f : Int) * ((y' : Int) - (y : Int))) := hcg.trans (hpS.symm.add (Cg.refl _ _))
  have hg1 : Cg (order : Int) (((List.replicate (k + 1) (u : Int)).getD k 0) * topN (zs ((ps.take n).map Prod.fst)) k (x : Int)) 1 := by
    rw [List.getD_eq_getElem?_getD, List.getElem?_replicate, if_pos (by omega)]
    exact hu1
  have hg2 : Cg (order : Int) (f : Int) (topN (zs ((ps.take n).map Prod.fst)) k (p.1 : Int) * ((List.replicate (k + 1) (u : Int)).getD k 0)) := by
    rw [List.getD_eq_getElem?_getD, List.getElem?_replicate, if_pos (by omega)]
    exact hf1
  have hT := turned order_prim hapt.apart (zs_get hxk) (at_ := (p.1 : Int)) (fun r hr => by
    simp only [zs, List.mem_map] at hr
    obtain ⟨m, ⟨q, hq, rfl⟩, rfl⟩ := hr
    obtain ⟨j, hj⟩ := List.mem_iff_getElem?.1 hq
    have hjn := (List.getElem?_eq_some_iff.1 hj).1
    rw [List.getElem?_take] at hj
    split at hj
    · exact hap n p.1 (by rw [List.getElem?_map, hp]; rfl) j q.1 (by omega) (by rw [List.getElem?_map, hj]; rfl)
    · cases hj) hg1 hg2 hcg2
  rw [← hT]
  constructor
  · rintro rfl
    exact Cg.refl _ _
  · intro h
    have := h.eq ⟨by omega, by omega⟩ ⟨by omega, by omega⟩
    omega
/-- What Line answers of points of which one is turned by u. -/
theorem line_turned {l xs : List Nat} {ps : List (Nat × Nat)} (hon : OnPoly order l xs ps) (hap : AllApart order (ps.map Prod.fst)) {n : Nat} (hn : ps.length = n + 1) (hl : l.length ≤ n) {k x y u : Nat} (hk : ps[k]? = some (x, y)) {e : Ending}
    (h : LineSays (ps.set k (x, (y + u) % order)) n e) : e = .returned (.tuple #[.bool (decide (u % order = 0)), .int .i64 0]) := by
  obtain ⟨b, rfl, h1, h2⟩ := h
  have hkl := (List.getElem?_eq_some_iff.1 hk).1
  have hy : y < order := (hon.2 k _ hk).2.1
  obtain ⟨p, hp⟩ : ∃ p, ps[n]? = some p := ⟨_, List.getElem?_eq_getElem (by omega)⟩
  have hpm := List.mem_of_getElem? hp
  have hdv : (order : Int) ∣ (((y + u) % order : Nat) : Int) - (y : Int) ↔ u % order = 0 := by
    unfold order
    omega
  -- the further point, and what it is held against
  by_cases hkn : k < n
  · have hd : (ps.set k (x, (y + u) % order)).drop n = [p] := by
      rw [List.drop_set_of_lt hkn, List.drop_eq_getElem_cons (by omega), List.drop_eq_nil_of_le (by omega)]
      rw [(List.getElem?_eq_some_iff.1 hp).2]
    have ht : (ps.set k (x, (y + u) % order)).take n = (ps.take n).set k (x, (y + u) % order) := by rw [List.take_set]
    rw [hd, ht] at h1 h2
    cases b with
    | true =>
      have := (turned_comes hon hap hn hl hk hkn hp (h1 rfl p (by simp))).1 rfl
      rw [decide_eq_true (hdv.1 this)]
    | false =>
      obtain ⟨p', hp', z, hz, hne⟩ := h2 rfl
      obtain rfl : p' = p := by simpa using hp'
      have := turned_comes hon hap hn hl hk hkn hp hz
      rw [decide_eq_false (fun hh => hne (this.2 (hdv.2 hh)))]
  · obtain rfl : k = n := by omega
    rw [hk] at hp
    cases hp
    have hd : (ps.set k (x, (y + u) % order)).drop k = [(x, (y + u) % order)] := by
      rw [List.drop_eq_getElem_cons (by rw [List.length_set]; omega), List.drop_eq_nil_of_le (by rw [List.length_set]; omega)]
      simp
    have ht : (ps.set k (x, (y + u) % order)).take k = ps.take k := by rw [List.take_set]; rw [List.set_eq_of_length_le (by rw [List.length_take]; omega)]
    rw [hd, ht] at h1 h2
    cases b with
    | true =>
      have h3 : (y + u) % order = y := on_comes hon hap (by omega) hl hpm (z := (y + u) % order) (h1 rfl (x, (y + u) % order) (by simp))
      rw [decide_eq_true (hdv.1 (by rw [h3, Int.sub_self]; exact Int.dvd_zero _))]
    | false =>
      obtain ⟨p', hp', z, hz, hne⟩ := h2 rfl
      obtain rfl : p' = (x, (y + u) % order) := by simpa using hp'
      have := on_comes hon hap (by omega) hl hpm hz
      rw [decide_eq_false (fun hh => hne (by rw [this]; show y = (y + u) % order; rw [Nat.add_mod, hh, Nat.add_zero, Nat.mod_mod, Nat.mod_eq_of_lt hy]))]

/-- A row of points that may be written. -/
def PtBlk (w : World) (g : Nat) (ps : List (Nat × Nat)) : Prop :=
  ∃ (cur : Array Value) (T : TypeId), w.heap[g]? = some (.cells cur T) ∧ ∀ (i : Nat) (p : Nat × Nat), ps[i]? = some p → ∀ (j : Nat) (u : Value), (encP p)[j]? = some u → cur[i * 8 + j]? = some u
theorem PtBlk.row {w : World} {g : Nat} {ps : List (Nat × Nat)} (h : PtBlk w g ps) : PtRow w g ps := by
  obtain ⟨cur, T, hg, hc⟩ := h
  exact ⟨cur, T, _, hg, hc⟩
theorem PtBlk.mod {S : List Nat} {w w' : World} {g : Nat} {ps : List (Nat × Nat)} (h : PtBlk w g ps) (m : Mod S w w') (hn : g ∉ S) : PtBlk w' g ps := by
  obtain ⟨cur, T, hg, hc⟩ := h
  exact ⟨cur, T, m.get hg hn, hc⟩
theorem PtBlk.free {w : World} {g : Nat} {ps : List (Nat × Nat)} (h : PtBlk w g ps) (o : Nat) : w.frozen? ⟨g, o, none⟩ = false := by
  obtain ⟨cur, T, hg, hc⟩ := h
  exact free_at hg o
theorem Pts.blk {B : Nat} {w : World} {v : Value} {l : List (Nat × Nat)} (h : Pts B w v l) (hl : l ≠ []) : ∃ g c, v = .slice (some ⟨g, 0, none⟩) l.length c ∧ B ≤ g ∧ l.length ≤ c ∧ PtBlk w g l := by
  obtain ⟨g, c, cur, e, hB, hg, hc, hx⟩ := RowOf.at h encP_len hl
  exact ⟨g, c, e, hB, hc, cur, _, hg, hx⟩
theorem encP_small {x y : Nat} (hx : x < BB) (hy : y < BB) : encP (x, y) = [.int .u64 (x : Int), .int .u64 0, .int .u64 0, .int .u64 0, .int .u64 (y : Int), .int .u64 0, .int .u64 0, .int .u64 0] := by
  unfold encP
  rw [encN_lit (parts_one hx), encN_lit (parts_one hy)]
  rfl
theorem set4_get (cur : Array Value) (o : Nat) (a b c d : Value) (h : o + 3 < cur.size) (i : Nat) : ((((cur.setIfInBounds o a).setIfInBounds (o + 1) b).setIfInBounds (o + 2) c).setIfInBounds (o + 3) d)[i]? = if i = o then some a else if i = o + 1 then some b else if i = o + 2 then some c else if i = o + 3 then some d else cur[i]? := by
  simp only [Array.getElem?_setIfInBounds, Array.size_setIfInBounds]
  by_cases e3 : o + 3 = i
  · rw [if_pos e3, if_pos (by omega), if_neg (by omega), if_neg (by omega), if_neg (by omega), if_pos (by omega)]
  rw [if_neg e3]
  by_cases e2 : o + 2 = i
  · rw [if_pos e2, if_pos (by omega), if_neg (by omega), if_neg (by omega), if_pos (by omega)]
  rw [if_neg e2]
  by_cases e1 : o + 1 = i
  · rw [if_pos e1, if_pos (by omega), if_neg (by omega), if_pos (by omega)]
  rw [if_neg e1]
  by_cases e0 : o = i
  · rw [if_pos e0, if_pos (by omega), if_pos (by omega)]
  rw [if_neg e0, if_neg (by omega), if_neg (by omega), if_neg (by omega), if_neg (by omega)]
/-- A point's second number laid anew. -/
theorem PtBlk.setY {w : World} {g : Nat} {ps : List (Nat × Nat)} (h : PtBlk w g ps) {k x y y' : Nat} (hk : ps[k]? = some (x, y)) (hx : x < BB) (hy : y < BB) (hy' : y' < BB) :
    PtBlk ((((w.setCell ⟨g, k * 8 + 4, none⟩ (.int .u64 (y' : Int))).setCell ⟨g, k * 8 + 4 + 1, none⟩ (.int .u64 0)).setCell ⟨g, k * 8 + 4 + 2, none⟩ (.int .u64 0)).setCell ⟨g, k * 8 + 4 + 3, none⟩ (.int .u64 0)) g (ps.set k (x, y')) := by
  obtain ⟨cur, T, hg, hc⟩ := h
  have q := get_setCell_self (get_setCell_self (get_setCell_self (get_setCell_self hg (k * 8 + 4) (.int .u64 (y' : Int))) (k * 8 + 4 + 1) (.int .u64 0)) (k * 8 + 4 + 2) (.int .u64 0)) (k * 8 + 4 + 3) (.int .u64 0)
  refine ⟨_, T, q, fun i p hi j u hu => ?_⟩
  have hkl := (List.getElem?_eq_some_iff.1 hk).1
  have c0 := hc k (x, y) hk
  rw [encP_small hx hy] at c0
  have hsz : k * 8 + 7 < cur.size := (Array.getElem?_eq_some_iff.1 (c0 7 _ rfl)).1
  rw [set4_get cur (k * 8 + 4) _ _ _ _ (by omega)]
  by_cases hik : i = k
  · subst hik
    rw [List.getElem?_set_self hkl] at hi
    cases hi
    rw [encP_small hx hy'] at hu
    have hj : j < 8 := by have := (List.getElem?_eq_some_iff.1 hu).1; simpa using this
    match j, hj, hu with
    | 0, _, hu => rw [if_neg (by omega), if_neg (by omega), if_neg (by omega), if_neg (by omega), ← hu]; exact c0 0 _ rfl
    | 1, _, hu => rw [if_neg (by omega), if_neg (by omega), if_neg (by omega), if_neg (by omega), ← hu]; exact c0 1 _ rfl
    | 2, _, hu => rw [if_neg (by omega), if_neg (by omega), if_neg (by omega), if_neg (by omega), ← hu]; exact c0 2 _ rfl
    | 3, _, hu => rw [if_neg (by omega), if_neg (by omega), if_neg (by omega), if_neg (by omega), ← hu]; exact c0 3 _ rfl
    | 4, _, hu => rw [if_pos rfl, ← hu]; rfl
    | 5, _, hu => rw [if_neg (by omega), if_pos (by omega), ← hu]; rfl
    | 6, _, hu => rw [if_neg (by omega), if_neg (by omega), if_pos (by omega), ← hu]; rfl
    | 7, _, hu => rw [if_neg (by omega), if_neg (by omega), if_neg (by omega), if_pos (by omega), ← hu]; rfl
  · rw [List.getElem?_set_ne (by omega)] at hi
    have hj : j < 8 := by have := (List.getElem?_eq_some_iff.1 hu).1; rwa [encP_len] at this
    rw [if_neg (by omega), if_neg (by omega), if_neg (by omega), if_neg (by omega)]
    exact hc i p hi j u hu
end Go.Proofs.YtdgmnhiffoemmaaDoor
