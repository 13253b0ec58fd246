/-
  slices.Sorted(maps.Keys(m)) at a net's map: its keys in order. No statement of a claim stands here; each contract names what it asks.
-/
import Derived.Test.YtbjgjagbepopfaaN2
import Derived.Test.YtbjgjagbepopfaaNShelf
set_option linter.unusedSimpArgs false
namespace Go.Proofs.Ytbjgjagbepopfaa
open Go Go.RowKit Go.ChangeMaps Go.Maps Go.Sort Go.Shelf

theorem keys_call (w : World) (mb : Option Nat) : Calls Try.prog 39 #[.map mb] w fun e w' =>
    e = .returned (.func (.func 46) #[] #[.pointer (some ⟨w.heap.size, 0, none⟩)]) ∧ w' = w.alloc (.cells #[.map mb] 64) :=
  (callsIn_wide (n := 5)).1 (AnyZI.keys_in Ytbjgjagbepopfaa.keysA Fence.wide 5 trivial rfl mb w)

theorem sorts_here (m : Nat) : AnyZI.SortsIn Try.prog Ytbjgjagbepopfaa.sortedA_ren Fence.wide m :=
  ⟨fun blk off cap ss W hH hblk hsz => callsIn_wide.2 (AnyM.slices_Sort_int Ytbjgjagbepopfaa.sortA blk off cap ss W hH hblk hsz),
   fun p cap W => callsIn_wide.2 (AnyM.slices_Sort_int_none Ytbjgjagbepopfaa.sortA p cap W)⟩

theorem sorted_call (w : World) (b c : Nat) (l : Way) (hb : w.heap[b]? = some (wayObj l c)) (hn : (l.map (·.1)).Pairwise (· < ·)) (hs : (l.map (·.2.2)).Nodup) (hc : ∀ e ∈ l, e.2.2 < c) (hr : ∀ e ∈ l, (Lit.int .i64 e.1).wf = true) (hl : l.length ≤ 5000) :
    Calls Try.prog 38 #[.func (.func 46) #[] #[.pointer (some ⟨w.heap.size, 0, none⟩)]] (w.alloc (.cells #[.map (some b)] 64)) fun e w' =>
      ∃ v, e = .returned v ∧ w'.ownsRow w.heap.size 3 1 v l.length ((l.map (·.1)).map encZ) ∧ Mod [] w w' := by
  have hnd : (l.map (·.1)).Nodup := by
    rw [List.nodup_iff_pairwise_ne]
    exact hn.imp fun h => by omega
  have hmx : l.length ≤ maxLen := by unfold maxLen; omega
  have hown : (w.alloc (.cells #[.map (some b)] 64)).ownsMap Try.prog 3 (noElem Unit) b l.length (keyD Unit l) := own_map Try.underlying3 (get_alloc hb _) hnd hs hc hr hmx
  have hseq : SeqGives Fence.wide 2 Try.prog 46 #[.pointer (some ⟨w.heap.size, 0, none⟩)] encZ (fun ss => ss.Perm (intKeys (keyD Unit l))) (Maps.size (keyD Unit l)) (w.alloc (.cells #[.map (some b)] 64)) :=
    AnyZI.keys_gives (ρ := Ytbjgjagbepopfaa.keysA_ren) { Ytbjgjagbepopfaa.keysA with } Fence.wide _ trivial rfl (by omega) w.heap.size b l.length (keyD Unit l) _ (by simp) (by simp) hown
  have cS := AnyZI.sorted_in Ytbjgjagbepopfaa.sortedA Fence.wide 5 trivial trivial trivial trivial rfl (by omega) (sorts_here _) (enters_of Try.func45 (by kernel_rfl) rfl) 46 #[.pointer (some ⟨w.heap.size, 0, none⟩)] trivial (enters_of Try.func46 (by kernel_rfl) rfl) _ _ (by rw [size_keyD]; exact hmx) (by rw [size_keyD]; omega) _ hseq
  change CallsIn _ _ Try.prog 38 _ _ _ at cS
  refine ((callsIn_wide (n := 5)).1 cS).mono ?_
  rintro e w' ⟨v, ss, rfl, hS, hrow, -, hbl⟩
  have hp : ss.Perm (l.map (·.1)) := hS.trans (keys_keyD l)
  rw [sorted_of_perm hp hn] at hrow
  have hlen : ss.length = l.length := by simpa using hp.length_eq
  rw [hlen] at hrow
  refine ⟨v, rfl, ?_, ?_⟩
  · exact ownsRow_base_a hrow (by simp)
  · exact (Mod.alloc (Mod.refl _ _) _).trans (Mod.of_below hbl rfl)

end Go.Proofs.Ytbjgjagbepopfaa
