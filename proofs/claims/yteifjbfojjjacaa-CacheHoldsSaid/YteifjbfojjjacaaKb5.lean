/-
  The reference's credential cache, walked: Put. No statement of a claim stands here; each contract names what it asks.
-/
import Derived.Test.YteifjbfojjjacaaKb4
import Derived.Deep.CutBlock
set_option linter.unusedSimpArgs false
namespace Go.Proofs.Yteifjbfojjjacaa
open Go Go.RowKit Go.ChangeMaps

theorem rput_more {w : World} {x : Nat} {v kv : Value} {room : Int} {l : Tks} {t : TkS} (h : RHeldAt w x v room l) (hk : KeyOwn w kv t.key) (hl : l.length ≤ 1000) :
    ∃ v' w', (Builtin.append_ #[46, 46] 46 #[v, .slice (some ⟨w.heap.size, 0, none⟩) 1 1]).run Try.prog (w.alloc (.cells (t.cells kv).toArray 50)) = .ok v' w' ∧
      ((∃ g n c', v' = .slice (some ⟨g, 0, none⟩) n c') ∧ w'.cell? ⟨x, 1, none⟩ = some v ∧ w'.frozen? ⟨x, 1, none⟩ = false ∧
       Hid (∀ (b : Nat) (o : Obj), w.heap[b]? = some o → b ∉ v.ownBlock.toList → w'.heap[b]? = some o) ∧
       Hid (RHeldAt (w'.setCell ⟨x, 1, none⟩ v') x v' room (l ++ [(kv, t)]) ∧ Mod (x :: v.ownBlock.toList) w (w'.setCell ⟨x, 1, none⟩ v') ∧ ∀ k, v'.ownBlock = some k → v.ownBlock = some k ∨ w.heap.size ≤ k)) := by
  have h1 := h.mod0 (Mod.alloc (Mod.refl [] w) (.cells (t.cells kv).toArray 50))
  obtain ⟨v', w', hrun, ho, hm', hk', g, c', hform⟩ := elemTk.app (w.alloc (.cells (t.cells kv).toArray 50)) 46 v l.length _ h1.row w.heap.size 1 _ _ _ (get_new w _) rfl (by
    intro u hu
    simp only [TkS.cells, List.mem_cons, List.not_mem_nil, or_false, List.toList_toArray] at hu
    obtain ⟨a, c, rfl⟩ := row_slice hk
    rcases hu with rfl | rfl | rfl | rfl | rfl | rfl | rfl <;> rfl) (by unfold maxLen; omega) (by omega)
  have hxv : x ∉ v.ownBlock.toList := by
    intro hm
    cases hv : v.ownBlock with
    | none => rw [hv] at hm; simp at hm
    | some k => rw [hv] at hm; simp at hm; exact h.ne k hv hm.symm
  have hc := hm'.get h1.cells hxv
  have hrow : w'.ownsRow 0 50 7 v' (l ++ [(kv, t)]).length (tkCells (l ++ [(kv, t)])) := by
    rw [tkCells_append, List.length_append]
    simpa [tkCells] using ho
  have hmS : Mod (x :: v.ownBlock.toList) w (w'.setCell ⟨x, 1, none⟩ v') := Mod.setCell (((Mod.alloc (Mod.refl _ w) _).trans (hm'.mono (fun y hy => .inl (List.mem_cons_of_mem _ hy))))) (by simp) _
  have hap : ∀ b ∈ x :: v.ownBlock.toList, ∃ c T, w.heap[b]? = some (.cells c T (0, 0)) ∧ T ≠ 5 := fun b hb => by
    rcases List.mem_cons.1 hb with rfl | hb
    · exact ⟨_, _, h.cells, by decide⟩
    · obtain ⟨c, hc⟩ := row_block h.row (k := b) (by simpa using hb)
      exact ⟨c, _, hc, by decide⟩
  refine ⟨v', w', hrun, ⟨g, _, c', hform⟩, cell_at hc 1, free_at hc 1, hid (fun b o hb hn => hm'.get (get_alloc hb _) hn), hid ⟨⟨get_setCell_self hc 1 v', ?_, fun p hp => ?_⟩, hmS, fun k hk2 => ?_⟩⟩
  · refine row_mod hrow (Mod.setCell (Mod.refl [x] w') (by simp) v') (fun k hk2 => ?_)
    obtain ⟨c, hcc⟩ := row_block hrow hk2
    simpa using ne_ty hcc hc (by decide)
  · rcases List.mem_append.1 hp with hp | hp
    · exact row_mod (h.keys p hp) hmS ((h.keys p hp).apart hap)
    · rw [List.mem_singleton.1 hp]
      exact row_mod hk hmS (hk.apart hap)
  · rcases hk' k hk2 with h3 | h3
    · exact .inl h3
    · right; simp at h3; omega


theorem RHeldAt.turn {w w' : World} {y : Nat} {v v' : Value} {room : Int} {l l' : Tks} (h : RHeldAt w y v room l) (m : Mod [] w w') (hr : w'.ownsRow 0 50 7 v' l'.length (tkCells l')) (hsub : ∀ p ∈ l', p ∈ l) :
    RHeldAt (w'.setCell ⟨y, 1, none⟩ v') y v' room l' ∧ Mod [y] w (w'.setCell ⟨y, 1, none⟩ v') := by
  have hc := m.get h.cells (by simp)
  have ms : Mod [y] w' (w'.setCell ⟨y, 1, none⟩ v') := Mod.setCell (Mod.refl _ _) (by simp) _
  refine ⟨⟨get_setCell_self hc 1 v', row_mod hr ms (fun k hk => ?_), fun p hp => ?_⟩, (m.mono (by simp)).trans ms⟩
  · obtain ⟨c, hcc⟩ := row_block hr hk
    simpa using ne_ty hcc hc (by decide)
  · have hk := (h.keys p (hsub p hp)).mod0 m
    exact row_mod hk ms (KeyOwn.apart hk (fun b hb => ⟨_, _, (List.mem_singleton.1 hb) ▸ hc, by decide⟩))

/-- Without one of these names. -/
def gone (l : Tks) (c s : ByteArray) : Tks := match l.findIdx? (fun p => p.2.is c s) with | some i => l.eraseIdx i | none => l
/-- With room for one more. -/
def roomy (room : Int) (l : Tks) : Tks := if room ≤ (l.length : Int) then l.eraseIdx (firstS l) else l

/-- While a ticket is put. -/
structure RPutAt (w W : World) (y : Nat) (v : Value) (room : Int) (l : Tks) (v1 : Value) (cs : Array Value) : Prop where
  held : RHeldAt W y v1 room l
  tk : W.heap[w.heap.size]? = some (.cells cs 50 (0, 0))
  mod : Mod (y :: v.ownBlock.toList) w W
  own : ∀ q, v1.ownBlock = some q → q ≠ w.heap.size ∧ (v.ownBlock = some q ∨ w.heap.size ≤ q)
theorem RPutAt.mod0 {w W W' : World} {y : Nat} {v : Value} {room : Int} {l : Tks} {v1 : Value} {cs : Array Value} (h : RPutAt w W y v room l v1 cs) (m : Mod [] W W') : RPutAt w W' y v room l v1 cs :=
  ⟨h.held.mod0 m, m.get h.tk (by simp), h.mod.trans (m.mono (by simp)), h.own⟩
theorem RPutAt.turn {w W W' : World} {y : Nat} {v : Value} {room : Int} {l l' : Tks} {v1 v' : Value} {cs : Array Value} (h : RPutAt w W y v room l v1 cs) (m : Mod [] W W') (hr : W'.ownsRow 0 50 7 v' l'.length (tkCells l')) (hsub : ∀ p ∈ l', p ∈ l) (ho : ∀ q, v'.ownBlock = some q → W.heap.size ≤ q) :
    RPutAt w (W'.setCell ⟨y, 1, none⟩ v') y v room l' v' cs := by
  obtain ⟨h1, h2⟩ := h.held.turn m hr hsub
  have hlt := lt_of_block h.tk
  refine ⟨h1, h2.get h.tk ?_, h.mod.trans (h2.mono (fun x hx => .inl (by rw [List.mem_singleton.1 hx]; exact List.mem_cons_self))), fun q hq => ?_⟩
  · simpa using ne_ty h.tk h.held.cells (by decide)
  · have := ho q hq
    exact ⟨by omega, .inr (by omega)⟩
theorem RPutAt.key {w W : World} {y : Nat} {v : Value} {room : Int} {l : Tks} {v1 : Value} {cs : Array Value} (h : RPutAt w W y v room l v1 cs) (u : Value) : RPutAt w (W.setCell ⟨w.heap.size, 2, none⟩ u) y v room l v1 (cs.setIfInBounds 2 u) := by
  have ms : Mod [w.heap.size] W (W.setCell ⟨w.heap.size, 2, none⟩ u) := Mod.setCell (Mod.refl _ _) (by simp) _
  refine ⟨⟨ms.get h.held.cells (by simpa using ne_ty h.held.cells h.tk (by decide)), row_mod h.held.row ms (fun k hk => by simpa using (h.own k hk).1), fun p hp => row_mod (h.held.keys p hp) ms (KeyOwn.apart (h.held.keys p hp) (fun b hb => ⟨_, _, (List.mem_singleton.1 hb) ▸ h.tk, by decide⟩))⟩, get_setCell_self h.tk 2 u, h.mod.trans' ms (fun x hx => .inr (Nat.le_of_eq (List.mem_singleton.1 hx).symm)), h.own⟩
end Go.Proofs.Yteifjbfojjjacaa
