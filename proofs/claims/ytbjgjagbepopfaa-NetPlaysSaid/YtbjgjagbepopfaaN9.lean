/-
  A net, walked: Waiting. No statement of a claim stands here; each contract names what it asks.
-/
import Derived.Test.YtbjgjagbepopfaaN7
import Derived.Test.YtbjgjagbepopfaaNK
import Derived.Test.YtbjgjagbepopfaaApp
set_option linter.unusedSimpArgs false
namespace Go.Proofs.Ytbjgjagbepopfaa
open Go Go.RowKit Go.ChangeMaps

theorem row_slice {w : World} {e : TypeId} {size n : Nat} {v : Value} {xs : List Value} {base : Nat} (h : w.ownsRow base e size v n xs) : ∃ a c, v = .slice a n c := by
  rcases h.2 with ⟨rfl, rfl⟩ | ⟨g, cap, cur, rfl, _⟩
  · exact ⟨none, 0, rfl⟩
  · exact ⟨_, _, rfl⟩
theorem row_pos {w : World} {e : TypeId} {size n : Nat} {v : Value} {xs : List Value} {base : Nat} (h : w.ownsRow base e size v n xs) (hn : 0 < n) : ∃ g c, v = .slice (some ⟨g, 0, none⟩) n c ∧ ∀ (i : Nat) (u : Value), xs[i]? = some u → w.cell? ⟨g, i, none⟩ = some u := by
  rcases h.2 with ⟨_, h0⟩ | ⟨g, cap, cur, rfl, _⟩
  · omega
  · refine ⟨g, cap, rfl, fun i u hu => ?_⟩
    have := h.cells (g := g) rfl i u hu
    rwa [Addr.add_lit, Nat.zero_add] at this

abbrev intCells (l : List Int) : List Value := l.map (.int .i64)

/-- A row of ints of one's own, in a new block. -/
structure IntsAt (B : Nat) (w : World) (v : Value) (l : List Int) : Prop where
  row : w.ownsRow 0 3 1 v l.length (intCells l)
  own : ∀ k, v.ownBlock = some k → B ≤ k
theorem IntsAt.nil (B : Nat) (w : World) : IntsAt B w (.slice none 0 0) [] := ⟨⟨rfl, .inl ⟨rfl, rfl⟩⟩, fun k hk => by cases hk⟩
theorem IntsAt.mod {B : Nat} {w w' : World} {v : Value} {l : List Int} {S : List Nat} (h : IntsAt B w v l) (m : Mod S w w') (hS : ∀ k, v.ownBlock = some k → k ∉ S) : IntsAt B w' v l := ⟨row_mod h.row m hS, h.own⟩
theorem IntsAt.lower {B B' : Nat} {w : World} {v : Value} {l : List Int} (h : IntsAt B w v l) (hB : B' ≤ B) : IntsAt B' w v l := ⟨h.row, fun k hk => Nat.le_trans hB (h.own k hk)⟩
theorem IntsAt.of {B : Nat} {w : World} {v : Value} {l : List Int} {n : Nat} (h : w.ownsRow B 3 1 v n (intCells l)) (hn : n = l.length) : IntsAt B w v l := by
  subst hn
  rcases h.2 with ⟨rfl, h0⟩ | ⟨g, cap, cur, rfl, h1, h2⟩
  · have : l = [] := List.eq_nil_of_length_eq_zero h0
    subst this
    exact IntsAt.nil _ _
  · exact ⟨⟨h.1, .inr ⟨g, cap, cur, rfl, Nat.zero_le _, h2⟩⟩, fun k hk => by cases hk; exact h1⟩

theorem elemInt : Elem Try.prog 37 3 1 8 :=
  Elem.of (z := .int .i64 0) Try.underlying37 (by kernel_rfl) rfl (by decide)

/-- One more number. -/
theorem IntsAt.app {B : Nat} {w : World} {v : Value} {l : List Int} (h : IntsAt B w v l) (hB : B ≤ w.heap.size) (x : Int) (hl : l.length ≤ 5000) :
    ∃ v' w', (Builtin.append_ #[37, 37] 37 #[v, .slice (some ⟨w.heap.size, 0, none⟩) 1 1]).run Try.prog (w.alloc (.cells #[.int .i64 x] 3)) = .ok v' w' ∧
      IntsAt B w' v' (l ++ [x]) ∧ Mod v.ownBlock.toList w w' ∧ (∀ k, v'.ownBlock = some k → v.ownBlock = some k ∨ w.heap.size ≤ k) := by
  have hr := row_mod h.row (Mod.alloc (Mod.refl [] w) (.cells #[.int .i64 x] 3)) (fun _ _ => by simp)
  obtain ⟨v', w', e, ho, hm, hk, -⟩ := elemInt.app (w.alloc (.cells #[.int .i64 x] 3)) 37 v l.length (intCells l) hr w.heap.size 1 #[.int .i64 x] 3 (0, 0) (get_new _ _) rfl (by simp [Value.oneCell']) (by unfold maxLen; omega) (by omega)
  have hk' : ∀ k, v'.ownBlock = some k → v.ownBlock = some k ∨ w.heap.size ≤ k := fun k hkk => by
    rcases hk k hkk with h1 | h1
    · exact .inl h1
    · right; simp at h1; omega
  refine ⟨v', w', e, ⟨?_, fun k hkk => ?_⟩, ?_, hk'⟩
  · simpa [intCells] using ho
  · rcases hk' k hkk with h1 | h1
    · exact h.own k h1
    · omega
  · exact ((Mod.refl _ _).alloc _).trans hm

/-- Those of a row that go to a party. -/
def waitL (l : Way) (tp : Int) : List Int := (l.filter (fun e => decide (Msg.to e.2.1 = tp))).map (·.1)
theorem waitL_snoc (l : Way) (e : Int × Msg × Nat) (tp : Int) : waitL (l ++ [e]) tp = if Msg.to e.2.1 = tp then waitL l tp ++ [e.1] else waitL l tp := by
  unfold waitL
  by_cases h : Msg.to e.2.1 = tp <;> simp [h]
theorem waitL_len (l : Way) (tp : Int) : (waitL l tp).length ≤ l.length := by
  unfold waitL
  rw [List.length_map]
  exact List.length_filter_le _ _

set_option maxRecDepth 50000 in
theorem field_to (a b c : Int) (d : ByteArray) (w : World) : (Instr.field 29 (.agg #[.int .i64 a, .int .i64 b, .int .i64 c, .string d]) 1).run Try.prog w = .ok (.int .i64 b) w := by first | rfl | kernel_rfl

def WaitRel (w : World) (s : NetS) (tp : Int) (v0 : Value) (gk : Nat) (v i : Value) (W' : World) : Prop :=
  ∃ j : Nat, i = nat j ∧ gk + j = s.way.length ∧ IntsAt w.heap.size W' v (waitL (s.way.take j) tp) ∧ IntsAt w.heap.size W' v0 (s.way.map (·.1)) ∧ (∀ k, v.ownBlock = some k → v0.ownBlock ≠ some k) ∧ Mod [] w W'

set_option maxRecDepth 20000 in
set_option maxHeartbeats 2000000 in
theorem waiting_any (w : World) (p : Loc) (s : NetS) (tp : Int) (h : NetAt w p s) (ho : s.Ok) (hb : s.sent ≤ 1000000) :
    Calls Try.prog 16 #[.pointer (some ⟨p.x, 0, none⟩), .int .i64 tp] w fun e w' => ∃ v, e = .returned v ∧ IntsAt w.heap.size w' v (s.waiting tp) ∧ Mod [] w w' := by
  have c6 := h.all.2.2.2.2.2.2.1
  have hlen : s.way.length ≤ 5000 := by have := ho.fits; have := ho.room; omega
  have hwf : ∀ e ∈ s.way, (Lit.int .i64 e.1).wf = true := fun e he => by
    have h1 := ho.upto e he
    have h2 := ho.last
    exact WalkArith.wf_i64 (by omega)
  have hsort := sorted_call w p.bw s.cw s.way h.way ho.rising ho.born ho.lt hwf hlen
  have H := hid h
  have HO := hid ho
  have HS := hid hsort
  have HL := hid hlen
  clear h ho hsort hwf hlen
  go_enter Try.func16, Try.ntmps16
  go_wp2_with (first
    | (go_at_call 37; refine (is_net _ _ p.bw c6).mono ?_; rintro e w' ⟨rfl, hw'⟩; obtain rfl : w = w' := hw'.symm)
    | (go_at_call 39; refine (keys_call w (some p.bw)).mono ?_; rintro e w' ⟨rfl, hw'⟩; subst hw')
    | (go_at_call 38; refine HS.out.mono ?_; rintro e W1 ⟨v0, rfl, hrow, hm1⟩; obtain ⟨a0, k0, rfl⟩ := row_slice hrow; have H1 := hid (And.intro hrow hm1); clear hrow hm1))
  clear c6 hw'
  go_loopg [5, 18] s.way.length (fun gk v i W' => WaitRel w s tp (.slice a0 s.way.length k0) gk v i W')
  case atStart => exact ⟨0, rfl, by omega, IntsAt.nil _ _, IntsAt.of H1.out.1 (by simp), (fun k hk => by cases hk), H1.out.2⟩
  case round =>
    obtain ⟨j, rfl, hj, hv, h0, hne, hm⟩ := hrel
    have c6 := (H.out.mod0 hm).all.2.2.2.2.2.2.1
    by_cases hjn : j < s.way.length
    · obtain ⟨⟨ky, m, st⟩, he⟩ : ∃ e, s.way[j]? = some e := ⟨_, List.getElem?_eq_getElem hjn⟩
      have hlk : look s.way ky = some m := look_mem HO.out.nodup (List.mem_of_getElem? he)
      have htk : s.way.take (j + 1) = s.way.take j ++ [(ky, m, st)] := by rw [List.take_add_one, he]; rfl
      have hrow := h0.row
      simp only [List.length_map] at hrow
      obtain ⟨g, c', e0, hcells⟩ := row_pos hrow (by omega)
      cases e0
      have x0 := hcells j (.int .i64 ky) (by simp [intCells, he])
      have hw := way_look1 wr p.bw s.cw s.way ky (hm.get H.out.way (by simp))
      rw [hlk] at hw
      simp only [Option.getD_some, Msg.v] at hw
      have hsn := waitL_snoc (s.way.take j) (ky, m, st) tp
      rw [← htk] at hsn
      dsimp only at hsn
      have hwl : (waitL (s.way.take j) tp).length ≤ 5000 := by
        have h1 := waitL_len (s.way.take j) tp
        have h2 := HL.out
        have h3 : (s.way.take j).length ≤ s.way.length := List.length_take_le' j s.way
        omega
      have j0 : (0 : Int) ≤ (j : Int) := Int.natCast_nonneg _
      have j1 : (j : Int) < (s.way.length : Int) := by omega
      have j2 := HL.out
      have hfl := field_to m.frm m.to m.kind m.body
      by_cases ht : m.to = tp
      · rw [if_pos ht] at hsn
        have happ := hv.app hm.size ky hwl
        obtain ⟨av, kv, rfl⟩ := row_slice hv.row
        have ht' : (m.to == tp) = true := by simpa using ht
        have HA := hid happ
        have HV := hid (And.intro hv (And.intro h0 (And.intro hne hm)))
        have HSN := hid hsn
        clear hv h0 hne hm happ hsn htk he hlk hrow hcells ht hwl
        go_wp2_with (first
          | (at_builtin; refine wpList_app_run rfl _ _ 37 rfl _ _ rfl rfl _ HA.out ?_; rintro v3 w3 ⟨h31, h32, h33⟩; have H3 := hid (And.intro h31 (And.intro h32 h33)); clear h31 h32 h33))
        obtain ⟨gb, hgb⟩ := row_block HV.out.2.1.row (k := g) rfl
        have hglt := lt_of_block hgb
        clear hgb
        go_roundg (gk - 1)
        case measure => omega
        case rel =>
          refine ⟨j + 1, by go_num, by omega, by rw [HSN.out]; exact H3.out.1, HV.out.2.1.mod H3.out.2.1 (fun k hk hm => HV.out.2.2.1 k (by simpa using hm) hk), fun k hk hk0 => ?_, HV.out.2.2.2.trans' H3.out.2.1 (fun x hx => .inr (HV.out.1.own x (by simpa using hx)))⟩
          rcases H3.out.2.2 k hk with h1 | h1
          · exact HV.out.2.2.1 k h1 hk0
          · cases hk0
            dsimp only at h1
            omega
      · rw [if_neg ht] at hsn
        have ht' : (m.to == tp) = false := by simpa using ht
        have HV := hid (And.intro hv (And.intro h0 (And.intro hne hm)))
        have HSN := hid hsn
        clear hv h0 hne hm hsn htk he hlk hrow hcells ht hwl
        go_wp2_with fail
        go_roundg (gk - 1)
        case measure => omega
        case rel => exact ⟨j + 1, by go_num, by omega, by rw [HSN.out]; exact HV.out.1, HV.out.2.1, HV.out.2.2.1, HV.out.2.2.2⟩
    · have hd : s.way.take j = s.way := List.take_of_length_le (by omega)
      rw [hd] at hv
      have j1 : ¬ (j : Int) < (s.way.length : Int) := by omega
      have HV := hid (And.intro hv hm)
      clear hv h0 hne hm hd
      go_wp2_with fail
      go_ret
      exact ⟨_, rfl, HV.out.1, HV.out.2⟩
end Go.Proofs.Ytbjgjagbepopfaa
