/-
  Plain lemmas over any program: an append whose run is known; one new element onto a row. No statement of a claim stands here; no condition but those that each lemma names.
-/
import Derived.Test.YtbjgjagbepopfaaReg
set_option linter.unusedSimpArgs false
namespace Go.Proofs.Ytbjgjagbepopfaa
open Go

/-- An append whose run is known. -/
theorem wpList_app_run {P : Program} {ops : Array Oper} {rest : List Oper} {o : Oper} {a : Act} {Q : Exit → Act → World → Prop} {w : World} (hg : o.guard = none) (s x : Operand) (t : TypeId)
    (ho : o.op = .call { callee := .builtin .append, args := #[s, x], argTypes := #[t, t] }) (v y : Value) (hs : a.eval s = v) (hx : a.eval x = y) (R : Value → World → Prop)
    (hr : ∃ v' w', (Builtin.append_ #[t, t] o.type #[v, y]).run P w = .ok v' w' ∧ R v' w') (h : ∀ v' w', R v' w' → wpList P ops Q rest (a.put o.dst v') w') : wpList P ops Q (o :: rest) a w := by
  obtain ⟨v', w', hr, hR⟩ := hr
  refine wpList_plain hg fun _ hK => ?_
  unfold Oper.wp execOp
  simp only [ho, resolve, invoke, builtin, Sem.run_bind, Sem.run_pure, Result.andThen_ok, List.map_toArray, List.map_cons, List.map_nil, hs, hx, hr]
  exact hK _ _ (h v' w' hR)

theorem news_at {w : World} {b : Nat} {cs : Array Value} {T : TypeId} {f : Nat × Nat} (h : w.heap[b]? = some (.cells cs T f)) : ∀ (j : Nat) (u : Value), cs.toList[j]? = some u → w.cell? ((⟨b, 0, none⟩ : Addr).add j) = some u := by
  intro j u hu
  have : (⟨b, 0, none⟩ : Addr).add j = ⟨b, j, none⟩ := by rw [Addr.add_lit]; simp
  rw [this, cell_at h]
  simpa using hu

/-- What is asked of an element's type. -/
structure Elem (P : Program) (t e : TypeId) (size bytes : Nat) : Prop where
  under : P.underlying t = some (.slice e)
  info : ∃ i z, P.info? e = some i ∧ i.zero = some z ∧ i.size = size ∧ i.bytes = bytes ∧ z.cells.size = size
  pos : 0 < size

theorem Elem.of {P : Program} {t e : TypeId} {z : Value} {size bytes : Nat} (ht : P.underlying t = some (.slice e)) (h : (P.info? e).map (fun i => (i.zero, i.size, i.bytes)) = some (some z, size, bytes)) (hz : z.cells.size = size) (hp : 0 < size) : Elem P t e size bytes := by
  cases hi : P.info? e with
  | none => rw [hi] at h; cases h
  | some i =>
    rw [hi] at h
    simp only [Option.map_some, Option.some.injEq, Prod.mk.injEq] at h
    exact ⟨ht, ⟨i, z, hi, h.1, h.2.1, h.2.2, hz⟩, hp⟩

/-- One new element, that lies in a block of its own. -/
theorem Elem.app {P : Program} {t e : TypeId} {size bytes : Nat} (E : Elem P t e size bytes) (w : World) (ty : TypeId) (v : Value) (n : Nat) (xs : List Value) (hown : w.ownsRow 0 e size v n xs) (nb c : Nat) (news : Array Value) (T : TypeId) (f : Nat × Nat)
    (hb : w.heap[nb]? = some (.cells news T f)) (hl : news.size = size) (h1 : ∀ u ∈ news.toList, u.oneCell' = true) (h63 : n + 1 ≤ maxLen) (hbytes : (n + 1) * bytes ≤ 140737488355328) :
    ∃ v' w', (Builtin.append_ #[t, t] ty #[v, .slice (some ⟨nb, 0, none⟩) 1 c]).run P w = .ok v' w' ∧ w'.ownsRow 0 e size v' (n + 1) (xs ++ news.toList) ∧ Mod v.ownBlock.toList w w' ∧ (∀ k, v'.ownBlock = some k → v.ownBlock = some k ∨ k = w.heap.size) ∧ ∃ g c', v' = .slice (some ⟨g, 0, none⟩) (n + 1) c' := by
  obtain ⟨i, z, hi, hz, hs, hy, hzs⟩ := E.info
  obtain ⟨v', w', hr, ho, hm, hk, _⟩ := run_app (P := P) w t ty e i z size bytes E.under hi hz hs hy hzs E.pos v n xs hown ⟨nb, 0, none⟩ 1 c news.toList (by simp [hl]) (news_at hb) h1 h63 hbytes
  obtain ⟨g, cap, cur, e', _⟩ := row_form ho (by rintro rfl; rcases ho.2 with ⟨_, h0⟩ | ⟨g, cap, cur, h0, _⟩; omega; cases h0)
  exact ⟨v', w', hr, ho, hm, hk, g, cap, e'⟩
end Go.Proofs.Ytbjgjagbepopfaa
