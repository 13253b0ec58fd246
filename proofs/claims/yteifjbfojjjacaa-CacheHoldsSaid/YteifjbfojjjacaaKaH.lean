/-
  A credential cache: Put and Find, whatever comes. No statement of a claim stands here; each contract names what it asks.
-/
import Derived.Test.YteifjbfojjjacaaKaG
import Derived.Test.YteifjbfojjjacaaKa9
set_option linter.unusedSimpArgs false
namespace Go.Proofs.Yteifjbfojjjacaa
open Go Go.RowKit Go.ChangeMaps

def TkS.timesOk (t : TkS) : Bool := timeOk t.from_ && timeOk t.until_
def putE (t : TkS) : Int := if t.timesOk then 0 else 2
/-- Put (21.2). -/
def putS (room : Int) (l : Tks) (kv' : Value) (t : TkS) : Tks :=
  if t.timesOk then (if atS l t.client t.service = -1 then (if (l.length : Int) = room then l.eraseIdx (firstS l) else l) else l.eraseIdx (atS l t.client t.service).toNat) ++ [(kv', t)] else l
/-- Find (21.2). -/
def findS (l : Tks) (c s : ByteArray) (now : Int) : TkS × Int :=
  if timeOk now then match l.find? (fun p => p.2.is c s) with
    | some p => if p.2.from_ ≤ now ∧ now ≤ p.2.until_ then (p.2, 0) else (noTk, 5)
    | none => (noTk, 5)
  else (noTk, 2)

theorem at_cases (l : Tks) (c s : ByteArray) : (atS l c s = -1 ∧ l.find? (fun p => p.2.is c s) = none) ∨ ∃ (k : Nat) (p : Value × TkS), k < l.length ∧ atS l c s = (k : Int) ∧ l[k]? = some p ∧ l.find? (fun p => p.2.is c s) = some p := by
  unfold atS
  cases h : l.findIdx? (fun p => p.2.is c s) with
  | none =>
    left
    rw [List.findIdx?_eq_none_iff] at h
    exact ⟨rfl, List.find?_eq_none.2 fun p hp => by simp [h p hp]⟩
  | some k =>
    right
    rw [List.findIdx?_eq_some_iff_getElem] at h
    obtain ⟨hk, h1, h2⟩ := h
    refine ⟨k, l[k], hk, rfl, List.getElem?_eq_getElem hk, ?_⟩
    rw [List.find?_eq_some_iff_getElem]
    exact ⟨h1, k, hk, rfl, fun j hj => by simpa using h2 j hj⟩

theorem put_bad (w : World) (x : Nat) (v : Value) (room : Int) (l : Tks) (t : TkS) (kv : Value) (h : HeldAt w x v room l) (hr : 0 < room) (hb : t.timesOk = false) :
    Calls Try.prog 19 #[.pointer (some ⟨x, 0, none⟩), .agg (t.cells kv).toArray] w fun e w' => e = .returned (.int .i64 2) ∧ Mod [] w w' := by
  obtain ⟨client, service, key, from_, until_, renew, flags⟩ := t
  simp only [TkS.cells, TkS.timesOk] at *
  have hbx := get_new w (.cells #[.string client, .string service, kv, .int .i64 from_, .int .i64 until_, .int .i64 renew, .int .i64 flags] 50)
  have c0 : (w.alloc (.cells #[.string client, .string service, kv, .int .i64 from_, .int .i64 until_, .int .i64 renew, .int .i64 flags] 50)).cell? ⟨x, 0, none⟩ = some (.int .i64 room) := cell_at (get_alloc h.cells _) 0
  have b3 := cell_at hbx 3
  have b4 := cell_at hbx 4
  simp only [List.getElem?_toArray, List.getElem?_cons_zero, List.getElem?_cons_succ] at b3 b4
  have htm := times2 (w.alloc (.cells #[.string client, .string service, kv, .int .i64 from_, .int .i64 until_, .int .i64 renew, .int .i64 flags] 50)) from_ until_
  rw [World.size_alloc, hb] at htm
  have HTM := hid htm
  clear h hb hbx htm
  go_enter Try.func19, Try.ntmps19
  go_wp2_with (first
    | (go_at_call 34; refine (his_some _ _ room hr c0).mono ?_; rintro e w' ⟨rfl, rfl⟩)
    | (go_at_call 30; refine HTM.out.mono ?_; rintro e w' ⟨rfl, rfl⟩))
  go_ret
  exact ⟨rfl, (by repeat' (first | exact Mod.refl _ _ | assumption | refine Mod.drewN ?_ _ | refine Mod.drew ?_ | refine Mod.alloc ?_ _ | refine Mod.setCell ?_ (by simp) _ | refine Mod.setBlock ?_ (by simp) _))⟩

theorem put_any (w : World) (x : Nat) (v : Value) (room : Int) (l : Tks) (t : TkS) (kv : Value) (h : HeldAt w x v room l) (hr : 0 < room) (hlen : l.length ≤ 1000) (hk : KeyIn w kv t.key) (hkl : t.key.length ≤ 140737488355328)
    (hkm : ∀ w', Mod (x :: v.ownBlock.toList) w w' → KeyIn w' kv t.key) :
    Calls Try.prog 19 #[.pointer (some ⟨x, 0, none⟩), .agg (t.cells kv).toArray] w fun e w' => e = .returned (.int .i64 (putE t)) ∧ ∃ kv' v', HeldAt w' x v' room (putS room l kv' t) ∧ Mod (x :: v.ownBlock.toList) w w' ∧ ∀ q, v'.ownBlock = some q → v.ownBlock = some q ∨ w.heap.size ≤ q := by
  cases hb : t.timesOk with
  | false =>
    refine (put_bad w x v room l t kv h hr hb).mono ?_
    rintro e w' ⟨rfl, hm⟩
    refine ⟨by unfold putE; rw [hb]; rfl, .slice none 0 0, v, ?_, hm.mono (by simp), fun q hq => .inl hq⟩
    unfold putS
    rw [hb]
    exact h.mod0 hm
  | true =>
    have hb2 := hb
    simp only [TkS.timesOk, Bool.and_eq_true] at hb2
    have he : putE t = 0 := by unfold putE; rw [hb]; rfl
    rw [he]
    rcases at_cases l t.client t.service with ⟨ha, -⟩ | ⟨k, p, hkl2, ha, -, -⟩
    · by_cases hf : (l.length : Int) = room
      · refine (put_full w x v room l t kv h hr hlen hk hkl hb2.1 hb2.2 (firstS l) (firstTo_in (by omega) (Nat.le_refl _)) ha hf rfl hkm).mono ?_
        rintro e w' ⟨rfl, kv', v', h1, h2⟩
        refine ⟨rfl, kv', v', ?_, h2⟩
        unfold putS
        rw [hb, ha, if_pos rfl, if_pos rfl, if_pos hf]
        exact h1
      · refine (put_new w x v room l t kv h hr hlen hk hkl hb2.1 hb2.2 ha hf).mono ?_
        rintro e w' ⟨rfl, kv', v', h1, h2⟩
        refine ⟨rfl, kv', v', ?_, h2⟩
        unfold putS
        rw [hb, ha, if_pos rfl, if_pos rfl, if_neg hf]
        exact h1
    · refine (put_at w x v room l t kv h hr hlen hk hkl hb2.1 hb2.2 k hkl2 ha hkm).mono ?_
      rintro e w' ⟨rfl, kv', v', h1, h2⟩
      refine ⟨rfl, kv', v', ?_, h2⟩
      unfold putS
      rw [hb, ha, if_pos rfl, if_neg (by omega)]
      exact h1

theorem NewKey.none {w w' : World} (h : Mod [] w w') : NewKey w [] (.slice none 0 0) w' := ⟨⟨rfl, .inl ⟨rfl, rfl⟩⟩, h, fun b hb => by cases hb⟩

theorem find_bad (w : World) (x : Nat) (v : Value) (room : Int) (l : Tks) (c s : ByteArray) (now : Int) (h : HeldAt w x v room l) (hr : 0 < room) (htn : timeOk now = false) :
    Calls Try.prog 20 #[.pointer (some ⟨x, 0, none⟩), .string c, .string s, .int .i64 now] w fun e w' => e = .returned (.tuple #[.agg (noTk.cells (.slice none 0 0)).toArray, .int .i64 2]) ∧ Mod [] w w' := by
  have c0 : (w.alloc (.cells #[.string ⟨#[]⟩, .string ⟨#[]⟩, .slice none 0 0, .int .i64 0, .int .i64 0, .int .i64 0, .int .i64 0] 50)).cell? ⟨x, 0, none⟩ = some (.int .i64 room) := cell_at (get_alloc h.cells _) 0
  have htm := times1 (w.alloc (.cells #[.string ⟨#[]⟩, .string ⟨#[]⟩, .slice none 0 0, .int .i64 0, .int .i64 0, .int .i64 0, .int .i64 0] 50)) now
  rw [World.size_alloc, htn] at htm
  have HTM := hid htm
  clear h htm htn
  go_enter Try.func20, Try.ntmps20
  go_wp2_with (first
    | (go_at_call 34; refine (his_some _ _ room hr c0).mono ?_; rintro e w' ⟨rfl, rfl⟩)
    | (go_at_call 30; refine HTM.out.mono ?_; rintro e w' ⟨rfl, rfl⟩))
  have hm8 : Mod [] w ((w.alloc (.cells #[.string ⟨#[]⟩, .string ⟨#[]⟩, .slice none 0 0, .int .i64 0, .int .i64 0, .int .i64 0, .int .i64 0] 50)).alloc (.cells #[.int .i64 now] 3)) := (Mod.alloc (Mod.refl _ _) _).alloc _
  have hR8 := get_alloc (get_new w (.cells #[.string ⟨#[]⟩, .string ⟨#[]⟩, .slice none 0 0, .int .i64 0, .int .i64 0, .int .i64 0, .int .i64 0] 50)) (.cells #[.int .i64 now] 3)
  generalize ((w.alloc (.cells #[.string ⟨#[]⟩, .string ⟨#[]⟩, .slice none 0 0, .int .i64 0, .int .i64 0, .int .i64 0, .int .i64 0] 50)).alloc (.cells #[.int .i64 now] 3)) = W8 at *
  have q0 : W8.cell? ⟨w.heap.size, 0, none⟩ = some (.string ⟨#[]⟩) := cell_at hR8 0
  have q1 : W8.cell? ⟨w.heap.size, 1, none⟩ = some (.string ⟨#[]⟩) := cell_at hR8 1
  have q2 : W8.cell? ⟨w.heap.size, 2, none⟩ = some (.slice none 0 0) := cell_at hR8 2
  have q3 : W8.cell? ⟨w.heap.size, 3, none⟩ = some (.int .i64 0) := cell_at hR8 3
  have q4 : W8.cell? ⟨w.heap.size, 4, none⟩ = some (.int .i64 0) := cell_at hR8 4
  have q5 : W8.cell? ⟨w.heap.size, 5, none⟩ = some (.int .i64 0) := cell_at hR8 5
  have q6 : W8.cell? ⟨w.heap.size, 6, none⟩ = some (.int .i64 0) := cell_at hR8 6
  refine bodyPost_ret (v := .tuple #[.agg #[.string ⟨#[]⟩, .string ⟨#[]⟩, .slice none 0 0, .int .i64 0, .int .i64 0, .int .i64 0, .int .i64 0], .int .i64 2]) (by simp [results, Try.results20, go_sem, q0, q1, q2, q3, q4, q5, q6]) rfl ⟨rfl, hm8⟩

theorem find_any (w : World) (x : Nat) (v : Value) (room : Int) (l : Tks) (c s : ByteArray) (now : Int) (h : HeldAt w x v room l) (hr : 0 < room) (hlen : l.length ≤ 1000) (hkl : ∀ p ∈ l, p.2.key.length ≤ 140737488355328) :
    Calls Try.prog 20 #[.pointer (some ⟨x, 0, none⟩), .string c, .string s, .int .i64 now] w fun e w' => ∃ kv', e = .returned (.tuple #[.agg ((findS l c s now).1.cells kv').toArray, .int .i64 (findS l c s now).2]) ∧ NewKey w (findS l c s now).1.key kv' w' := by
  cases ht : timeOk now with
  | false =>
    refine (find_bad w x v room l c s now h hr ht).mono ?_
    rintro e w' ⟨rfl, hm⟩
    have : findS l c s now = (noTk, 2) := by unfold findS; rw [ht]; rfl
    rw [this]
    exact ⟨_, rfl, NewKey.none hm⟩
  | true =>
    rcases at_cases l c s with ⟨ha, hf⟩ | ⟨k, ⟨kv, t⟩, hk, ha, hi, hf⟩
    · refine (find_none w x v room l c s now h hr hlen ht ha).mono ?_
      rintro e w' ⟨rfl, hm⟩
      have : findS l c s now = (noTk, 5) := by unfold findS; rw [ht, if_pos rfl, hf]
      rw [this]
      exact ⟨_, rfl, NewKey.none hm⟩
    · by_cases hin : t.from_ ≤ now ∧ now ≤ t.until_
      · refine (find_hit w x v room l c s now h hr hlen ht k kv t ha hi hin.1 hin.2 (hkl _ (List.mem_of_getElem? hi))).mono ?_
        rintro e w' ⟨kv', rfl, hm⟩
        have : findS l c s now = (t, 0) := by unfold findS; rw [ht, if_pos rfl, hf]; exact if_pos hin
        rw [this]
        exact ⟨_, rfl, hm⟩
      · refine (find_late w x v room l c s now h hr hlen ht k kv t ha hi (by omega)).mono ?_
        rintro e w' ⟨rfl, hm⟩
        have : findS l c s now = (noTk, 5) := by unfold findS; rw [ht, if_pos rfl, hf]; exact if_neg hin
        rw [this]
        exact ⟨_, rfl, NewKey.none hm⟩
end Go.Proofs.Yteifjbfojjjacaa
