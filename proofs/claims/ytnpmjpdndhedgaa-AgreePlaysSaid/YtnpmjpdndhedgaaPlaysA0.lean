/-
  AgreePlays: its acts as an argument; both nodes side by side. No statement of a claim stands here; each lemma names what it asks.
-/
import Derived.Test.YtnpmjpdndhedgaaQ8
import Derived.Test.YtnpmjpdndhedgaaSame0
import Derived.ChangeSame
set_option linter.unusedSimpArgs false
namespace Go.Proofs.Ytnpmjpdndhedgaa
open Go Go.RowKit Go.ChangeShapes Go.WideShapes Go.ChangeMaps

structure ActS where
  do_ : Int
  m : Msg
def ActS.cells (a : ActS) : List Value := .int .i64 a.do_ :: a.m.cells
instance : Inhabited ActS := ⟨⟨0, ⟨0, 0, 0, ByteArray.empty⟩⟩⟩

/-- Acts as a slice lays them. -/
structure ActsAt (W : World) (a : Option Addr) (l : List ActS) : Prop where
  cell : ∀ (i : Nat) (m : ActS), l[i]? = some m → ∃ b o, a = some ⟨b, o, none⟩ ∧ b < W.heap.size ∧ ∀ (j : Nat) (u : Value), m.cells[j]? = some u → W.cell? ⟨b, o + i * 5 + j, none⟩ = some u
theorem ActsAt.mod0 {W W' : World} {a : Option Addr} {l : List ActS} (h : ActsAt W a l) (m : Mod [] W W') : ActsAt W' a l :=
  ⟨fun i v hi => by obtain ⟨b, o, h1, h2, h3⟩ := h.cell i v hi; exact ⟨b, o, h1, Nat.lt_of_lt_of_le h2 m.size, fun j u hu => m.cell (h3 j u hu) (by simp)⟩⟩

theorem open_msg {H : Type} {enc : TypeId × Value → H} {W : World} {n : Nat} {cs : List Value} {x : DataW H × List MemPlace} (h : DataW.trod enc Try.prog W 0 (fun _ => true) true n 39 cs = some x) : ∃ m : Msg, ∀ (j : Nat) (u : Value), m.cells[j]? = some u → cs[j]? = some u := by
  have F := open_field (P := Try.prog) Try.underlying39 (by kernel_rfl) (by kernel_rfl) h
  obtain ⟨v0, y0, n0, c0, t0⟩ := F 0 _ rfl
  obtain ⟨v1, y1, n1, c1, t1⟩ := F 1 _ rfl
  obtain ⟨v2, y2, n2, c2, t2⟩ := F 2 _ rfl
  obtain ⟨v3, y3, n3, c3, t3⟩ := F 3 _ rfl
  obtain ⟨k0, e0, -, -⟩ := DataW.trod_int (P := Try.prog) Try.underlying3 t0
  obtain ⟨k1, e1, -, -⟩ := DataW.trod_int (P := Try.prog) Try.underlying3 t1
  obtain ⟨k2, e2, -, -⟩ := DataW.trod_int (P := Try.prog) Try.underlying3 t2
  obtain ⟨s3, e3, -, -⟩ := DataW.trod_string (P := Try.prog) Try.underlying9 t3
  cases e0; cases e1; cases e2; cases e3
  refine ⟨⟨k0, k1, k2, s3⟩, fun j u hu => ?_⟩
  match j, hu with
  | 0, hu => cases hu; exact c0
  | 1, hu => cases hu; exact c1
  | 2, hu => cases hu; exact c2
  | 3, hu => cases hu; exact c3
  | j + 4, hu => simp [Msg.cells] at hu

theorem cells_act : Try.prog.cellsOf 48 = 5 := by kernel_rfl
theorem cells_msg : Try.prog.cellsOf 39 = 4 := by kernel_rfl
theorem cells_int : Try.prog.cellsOf 3 = 1 := by kernel_rfl

theorem open_act {H : Type} {enc : TypeId × Value → H} {W : World} {n : Nat} {cs : List Value} {x : DataW H × List MemPlace} (h : DataW.trod enc Try.prog W 0 (fun _ => true) true n 48 cs = some x) : ∃ a : ActS, ∀ (j : Nat) (u : Value), a.cells[j]? = some u → cs[j]? = some u := by
  obtain ⟨y0, y1, n, rfl, hl, f0, f1⟩ := trod_struct2 (P := Try.prog) Try.underlying48 h
  rw [cells_act] at hl
  rw [show (Try.prog.cellsOf _) = 1 from cells_int] at f0
  rw [show (Try.prog.cellsOf _) = 4 from cells_msg] at f1
  match cs, hl with
  | [u0, u1, u2, u3, u4], _ =>
    have e0 : DataW.trod enc Try.prog W 0 (fun _ => true) true n 3 [u0] = some y0 := f0
    have e1 : DataW.trod enc Try.prog W 0 (fun _ => true) true n 39 [u1, u2, u3, u4] = some y1 := f1
    obtain ⟨k0, g0, -, -⟩ := DataW.trod_int (P := Try.prog) Try.underlying3 e0
    cases g0
    obtain ⟨m, hm⟩ := open_msg e1
    refine ⟨⟨k0, m⟩, fun j u hu => ?_⟩
    cases j with
    | zero => cases hu; rfl
    | succ j => exact hm j u hu
end Go.Proofs.Ytnpmjpdndhedgaa
