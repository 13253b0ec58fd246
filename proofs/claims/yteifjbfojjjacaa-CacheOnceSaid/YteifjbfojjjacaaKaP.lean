/-
  CacheOnce, walked. No statement of a claim stands here; each contract names what it asks.
-/
import Derived.Test.YteifjbfojjjacaaKaW
import Derived.Test.YteifjbfojjjacaaKaN
import Derived.Test.YteifjbfojjjacaaKaM
set_option linter.unusedSimpArgs false
namespace Go.Proofs.Yteifjbfojjjacaa
open Go Go.RowKit Go.ChangeMaps

theorem elemSight : Elem Try.prog 22 32 3 32 :=
  Elem.of (z := .agg #[.string ⟨#[]⟩, .int .i64 0, .int .i64 0]) Try.underlying22 (by kernel_rfl) rfl (by decide)

def hadCells (l : List SightS) : List Value := l.flatMap SightS.cells
theorem hadCells_append (l m : List SightS) : hadCells (l ++ m) = hadCells l ++ hadCells m := by simp [hadCells]
theorem had_at : ∀ {l : List SightS} {i : Nat} {p : SightS}, l[i]? = some p → ∀ j u, p.cells[j]? = some u → (hadCells l)[i * 3 + j]? = some u
  | [], i, p, h, _, _, _ => by simp at h
  | x :: l, 0, p, h, j, u, hu => by
    simp only [List.getElem?_cons_zero, Option.some.injEq] at h
    subst h
    have hj : j < x.cells.length := (List.getElem?_eq_some_iff.1 hu).1
    simp only [hadCells, List.flatMap_cons, Nat.zero_mul, Nat.zero_add]
    rw [List.getElem?_append_left hj]; exact hu
  | x :: l, i + 1, p, h, j, u, hu => by
    rw [List.getElem?_cons_succ] at h
    have := had_at h j u hu
    simp only [hadCells, List.flatMap_cons] at this ⊢
    rw [List.getElem?_append_right (by simp [SightS.cells]; omega)]
    simp only [SightS.cells, List.length_cons, List.length_nil] at this ⊢
    rw [show (i + 1) * 3 + j - (0 + 1 + 1 + 1) = i * 3 + j by omega]
    exact this

/-- The cache, and what was seen right, in blocks that are new since W. -/
structure OnceAt (W W' : World) (x b : Nat) (window : Int) (v : Value) (s : RepS) (had : List SightS) (now : Int) : Prop where
  rep : RepAt W' x b s
  row : W'.ownsRow 0 32 3 v had.length (hadCells had)
  ok : ROk s
  win : s.window = window
  inv : HInv had s now
  times : ∀ h ∈ had, 0 ≤ h.time ∧ h.time ≤ 1000
  mod : Mod [] W W'
  nx : W.heap.size ≤ x
  nb : W.heap.size ≤ b
  nv : ∀ k, v.ownBlock = some k → W.heap.size ≤ k

theorem OnceAt.mod0 {W W' W'' : World} {x b : Nat} {window : Int} {v : Value} {s : RepS} {had : List SightS} {now : Int} (h : OnceAt W W' x b window v s had now) (m : Mod [] W' W'') : OnceAt W W'' x b window v s had now :=
  ⟨h.rep.mod m (by simp) (by simp), row_mod h.row m (by simp), h.ok, h.win, h.inv, h.times, h.mod.trans m, h.nx, h.nb, h.nv⟩
theorem OnceAt.see {W W' W'' : World} {x b : Nat} {window : Int} {v : Value} {s s' : RepS} {had : List SightS} {now now' : Int} (h : OnceAt W W' x b window v s had now) (m : Mod [b] W' W'') (r : RepAt W'' x b s') (ok : ROk s') (w : s'.window = s.window) (i : HInv had s' now') : OnceAt W W'' x b window v s' had now' :=
  ⟨r, row_mod h.row m (fun k hk => by obtain ⟨c, hc⟩ := row_block h.row hk; simpa using ne_map hc h.rep.map), ok, w.trans h.win, i, h.times, h.mod.trans' m (fun k hk => .inr (by rw [List.mem_singleton.1 hk]; exact h.nb)), h.nx, h.nb, h.nv⟩

theorem had_more {W wr : World} {x b : Nat} {window now : Int} {v : Value} {s : RepS} {had : List SightS} (h : OnceAt W wr x b window v s had now) (e : SightS) (hl : had.length ≤ 1000) (hi : HInv (had ++ [e]) s now) (ht : 0 ≤ e.time ∧ e.time ≤ 1000) :
    ∃ v' w', (Builtin.append_ #[22, 22] 22 #[v, .slice (some ⟨wr.heap.size, 0, none⟩) 1 1]).run Try.prog (wr.alloc (.cells e.cells.toArray 32)) = .ok v' w' ∧ OnceAt W w' x b window v' s (had ++ [e]) now := by
  have h1 := h.mod0 (Mod.alloc (Mod.refl [] wr) (.cells e.cells.toArray 32))
  obtain ⟨v', w', hrun, ho, hm', hk', -⟩ := elemSight.app (wr.alloc (.cells e.cells.toArray 32)) 22 v had.length _ h1.row wr.heap.size 1 _ _ _ (get_new wr _) rfl (by simp [Value.oneCell', SightS.cells]) (by unfold maxLen; omega) (by omega)
  have hap : ∀ k, v.ownBlock = some k → k ≠ x ∧ k ≠ b := fun k hk => by
    obtain ⟨c, hc⟩ := row_block h.row hk
    exact ⟨ne_ty hc h.rep.cells (by decide), ne_map hc h.rep.map⟩
  have hnot : ∀ y, (∀ k, v.ownBlock = some k → k ≠ y) → y ∉ v.ownBlock.toList := fun y hy hm => by
    cases hv : v.ownBlock with
    | none => rw [hv] at hm; simp at hm
    | some k => rw [hv] at hm; simp at hm; exact hy k hv hm.symm
  refine ⟨v', w', hrun, h1.rep.mod hm' (hnot x fun k hk => (hap k hk).1) (hnot b fun k hk => (hap k hk).2), ?_, h.ok, h.win, hi, fun y hy => ?_, h1.mod.trans' hm' (fun k hk => .inr (h.nv k (by simpa using hk))), h.nx, h.nb, fun k hk => ?_⟩
  · rw [hadCells_append, List.length_append]
    simpa [hadCells] using ho
  · rcases List.mem_append.1 hy with hy | hy
    · exact h.times y hy
    · rw [List.mem_singleton.1 hy]; exact ht
  · rcases hk' k hk with h3 | h3
    · exact h.nv k h3
    · have := h.mod.size; simp at h3; omega
end Go.Proofs.Yteifjbfojjjacaa
