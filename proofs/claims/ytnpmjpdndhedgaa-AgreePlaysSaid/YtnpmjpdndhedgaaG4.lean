/-
  An agreement's node, walked: how it lies; say. No statement of a claim stands here; each contract names what it asks.
-/
import Derived.Test.YtnpmjpdndhedgaaG3
import Derived.Test.YtnpmjpdndhedgaaApp
import Derived.Laws.OwnMore
set_option linter.unusedSimpArgs false
namespace Go.Proofs.Ytnpmjpdndhedgaa
open Go Go.RowKit Go.ChangeMaps

theorem row_slice {w : World} {e : TypeId} {size n : Nat} {v : Value} {xs : List Value} {base : Nat} (h : w.ownsRow base e size v n xs) : ∃ a c, v = .slice a n c := by
  rcases h.2 with ⟨rfl, rfl⟩ | ⟨g, cap, cur, rfl, _⟩
  · exact ⟨none, 0, rfl⟩
  · exact ⟨_, _, rfl⟩
theorem row_pos {w : World} {e : TypeId} {size n : Nat} {v : Value} {xs : List Value} {base : Nat} (h : w.ownsRow base e size v n xs) (hn : 0 < n) : ∃ g c, v = .slice (some ⟨g, 0, none⟩) n c ∧ ∀ (i : Nat) (u : Value), xs[i]? = some u → w.cell? ⟨g, i, none⟩ = some u := by
  rcases h.2 with ⟨_, h0⟩ | ⟨g, cap, cur, rfl, _⟩
  · omega
  · refine ⟨g, cap, rfl, fun i u hu => ?_⟩
    have := h.cells (g := g) rfl i u hu
    rwa [Addr.add_lit, Nat.zero_add] at this

/-- Where a node lies. -/
structure Loc where
  x : Nat
  bh : Nat
  bs : Nat
  lh : Heard
  ls : List (Seat × Bool × Nat)
def Loc.foot (p : Loc) : List Nat := p.x :: p.bh :: p.bs :: p.lh.map (·.2.1)
abbrev sentObj (l : List (Seat × Bool × Nat)) : Obj := mapObj seatV .bool l l.length

def nodeCells (p : Loc) (s : NodeS) : Array Value := #[.int .i64 s.n, .int .i64 s.t, .int .i64 s.me, .string s.input, .int .i64 s.round, .map (some p.bh), .string s.lv, .int .i64 s.lr, .map (some p.bs), .string s.choice, .bool s.done]

/-- A node lies there. -/
structure NodeAt (w : World) (p : Loc) (s : NodeS) : Prop where
  cells : w.heap[p.x]? = some (.cells (nodeCells p s) 78 (0, 0))
  heard : HdAt w p.bh p.lh s.hd
  sent : w.heap[p.bs]? = some (sentObj p.ls)
  sval : ∀ k, look p.ls k = if s.sent k then some true else none
  hs : p.bh ≠ p.bs
  ls : ∀ e ∈ p.lh, e.2.1 ≠ p.bs

theorem NodeAt.mod {w w' : World} {p : Loc} {s : NodeS} {S : List Nat} (h : NodeAt w p s) (m : Mod S w w') (hS : ∀ b ∈ p.foot, b ∉ S) : NodeAt w' p s :=
  ⟨m.get h.cells (hS _ (by simp [Loc.foot])), h.heard.mod m (hS _ (by simp [Loc.foot])) (fun e he => hS _ (by simp only [Loc.foot, List.mem_cons]; exact .inr (.inr (.inr (List.mem_map.2 ⟨e, he, rfl⟩))))), m.get h.sent (hS _ (by simp [Loc.foot])), h.sval, h.hs, h.ls⟩
theorem NodeAt.mod0 {w w' : World} {p : Loc} {s : NodeS} (h : NodeAt w p s) (m : Mod [] w w') : NodeAt w' p s := h.mod m (by simp)
theorem NodeAt.lt {w : World} {p : Loc} {s : NodeS} (h : NodeAt w p s) : ∀ b ∈ p.foot, b < w.heap.size := fun b hb => by
  simp only [Loc.foot, List.mem_cons] at hb
  rcases hb with rfl | rfl | rfl | hb
  · exact lt_of_block h.cells
  · exact lt_of_block h.heard.map
  · exact lt_of_block h.sent
  · obtain ⟨e, he, rfl⟩ := List.mem_map.1 hb
    exact lt_of_block (h.heard.inner e he)
/-- A node's blocks hold its cells, or maps. -/
theorem NodeAt.ne {w : World} {p : Loc} {s : NodeS} (h : NodeAt w p s) {b : Nat} {c : Array Value} {T : TypeId} {f : Nat × Nat} (hb : w.heap[b]? = some (.cells c T f)) (hT : T ≠ 78) : b ∉ p.foot := fun hm => by
  simp only [Loc.foot, List.mem_cons] at hm
  rcases hm with rfl | rfl | rfl | hm
  · exact ne_ty hb h.cells hT rfl
  · exact ne_map hb h.heard.map rfl
  · exact ne_map hb h.sent rfl
  · obtain ⟨e, he, rfl⟩ := List.mem_map.1 hm
    exact ne_map hb (h.heard.inner e he) rfl
theorem NodeAt.xne {w : World} {p : Loc} {s : NodeS} (h : NodeAt w p s) : p.x ≠ p.bh ∧ p.x ≠ p.bs ∧ ∀ e ∈ p.lh, p.x ≠ e.2.1 := ⟨ne_map h.cells h.heard.map, ne_map h.cells h.sent, fun e he => ne_map h.cells (h.heard.inner e he)⟩
theorem NodeAt.all {w : World} {p : Loc} {s : NodeS} (h : NodeAt w p s) :
    w.cell? ⟨p.x, 0, none⟩ = some (.int .i64 s.n) ∧ w.cell? ⟨p.x, 1, none⟩ = some (.int .i64 s.t) ∧ w.cell? ⟨p.x, 2, none⟩ = some (.int .i64 s.me) ∧ w.cell? ⟨p.x, 3, none⟩ = some (.string s.input) ∧
    w.cell? ⟨p.x, 4, none⟩ = some (.int .i64 s.round) ∧ w.cell? ⟨p.x, 5, none⟩ = some (.map (some p.bh)) ∧ w.cell? ⟨p.x, 6, none⟩ = some (.string s.lv) ∧ w.cell? ⟨p.x, 7, none⟩ = some (.int .i64 s.lr) ∧
    w.cell? ⟨p.x, 8, none⟩ = some (.map (some p.bs)) ∧ w.cell? ⟨p.x, 9, none⟩ = some (.string s.choice) ∧ w.cell? ⟨p.x, 10, none⟩ = some (.bool s.done) ∧ (∀ i, w.frozen? ⟨p.x, i, none⟩ = false) := by
  simp only [cell_at h.cells, nodeCells]
  exact ⟨rfl, rfl, rfl, rfl, rfl, rfl, rfl, rfl, rfl, rfl, rfl, free_at h.cells⟩

/-- A field of it is set. -/
theorem NodeAt.set {w : World} {p : Loc} {s : NodeS} (h : NodeAt w p s) (o : Nat) (u : Value) (s' : NodeS) (hc : (nodeCells p s).setIfInBounds o u = nodeCells p s') (hH : s'.hd = s.hd) (hS : s'.sent = s.sent) :
    NodeAt (w.setCell ⟨p.x, o, none⟩ u) p s' := by
  have m : Mod [p.x] w (w.setCell ⟨p.x, o, none⟩ u) := (Mod.refl _ _).setCell (by simp) _
  refine ⟨by rw [← hc]; exact get_setCell_self h.cells o u, by rw [hH]; exact h.heard.mod m (by simpa using h.xne.1.symm) (fun e he => by simpa using (h.xne.2.2 e he).symm), m.get h.sent (by simpa using h.xne.2.1.symm), by rw [hS]; exact h.sval, h.hs, h.ls⟩

def msgCells (l : List Msg) : List Value := l.flatMap Msg.cells
theorem msgCells_append (l m : List Msg) : msgCells (l ++ m) = msgCells l ++ msgCells m := by simp [msgCells]
theorem msgCells_length (l : List Msg) : (msgCells l).length = l.length * 4 := by
  induction l with
  | nil => rfl
  | cons m l ih => simp only [msgCells, List.flatMap_cons, List.length_append, List.length_cons] at ih ⊢; rw [ih]; simp [Msg.cells]; omega
theorem msgCells_one (l : List Msg) : ∀ u ∈ msgCells l, u.oneCell' = true := fun u hu => by
  simp only [msgCells, List.mem_flatMap, Msg.cells, List.mem_cons, List.not_mem_nil, or_false] at hu
  obtain ⟨m, _, rfl | rfl | rfl | rfl⟩ := hu <;> rfl
theorem elemMsg : Elem Try.prog 32 39 4 40 :=
  Elem.of (z := .agg #[.int .i64 0, .int .i64 0, .int .i64 0, .string ⟨#[]⟩]) Try.underlying32 (by kernel_rfl) rfl (by decide)

/-- What is handed back: a row of one's own, in a new block. -/
structure MsgsAt (B : Nat) (w : World) (v : Value) (out : List Msg) : Prop where
  row : w.ownsRow 0 39 4 v out.length (msgCells out)
  own : ∀ k, v.ownBlock = some k → B ≤ k
theorem MsgsAt.nil (B : Nat) (w : World) : MsgsAt B w (.slice none 0 0) [] := ⟨⟨rfl, .inl ⟨rfl, rfl⟩⟩, fun k hk => by cases hk⟩
theorem MsgsAt.mod {B : Nat} {w w' : World} {v : Value} {out : List Msg} {S : List Nat} (h : MsgsAt B w v out) (m : Mod S w w') (hS : ∀ k, v.ownBlock = some k → k ∉ S) : MsgsAt B w' v out := ⟨row_mod h.row m hS, h.own⟩
theorem MsgsAt.one {B : Nat} {w : World} {b : Nat} {m : Msg} (hb : w.heap[b]? = some (.cells m.cells.toArray 39 (0, 0))) (hB : B ≤ b) : MsgsAt B w (.slice (some ⟨b, 0, none⟩) 1 1) [m] :=
  ⟨⟨by simp [msgCells, Msg.cells], .inr ⟨b, 1, _, rfl, Nat.zero_le _, hb, Nat.le_refl _, by unfold maxLen; omega, by simp [Msg.cells], by simp [msgCells, Msg.cells]⟩⟩, fun k hk => by cases hk; exact hB⟩

theorem MsgsAt.lower {B B' : Nat} {w : World} {v : Value} {out : List Msg} (h : MsgsAt B w v out) (hB : B' ≤ B) : MsgsAt B' w v out := ⟨h.row, fun k hk => Nat.le_trans hB (h.own k hk)⟩
theorem MsgsAt.off {B : Nat} {w : World} {v : Value} {out : List Msg} (h : MsgsAt B w v out) {p : Loc} {s : NodeS} (hn : NodeAt w p s) : ∀ k, v.ownBlock = some k → k ∉ p.foot := fun k hk => by
  obtain ⟨c, hc⟩ := row_block h.row hk
  exact hn.ne hc (by decide)
theorem MsgsAt.keep {B : Nat} {w w' : World} {v : Value} {out : List Msg} (h : MsgsAt B w v out) {p : Loc} {s : NodeS} (hn : NodeAt w p s) (m : Mod p.foot w w') : MsgsAt B w' v out := h.mod m (h.off hn)

/-- append of what is handed back twice. -/
theorem MsgsAt.app {B : Nat} {w : World} {v u : Value} {out more : List Msg} (h : MsgsAt B w v out) (g : MsgsAt B w u more) (hl : out.length + more.length ≤ 1000) (hB : B ≤ w.heap.size) :
    ∃ v' w', (Builtin.append_ #[32, 32] 32 #[v, u]).run Try.prog w = .ok v' w' ∧ MsgsAt B w' v' (out ++ more) ∧ Mod v.ownBlock.toList w w' ∧ ∀ k, v'.ownBlock = some k → v.ownBlock = some k ∨ k = w.heap.size := by
  obtain ⟨i, z, hi, hz, hs, hy, hzs⟩ := elemMsg.info
  rcases g.row.2 with ⟨rfl, hm⟩ | ⟨gb, cap, cur, rfl, _, hg, hnc, _, _, htake⟩
  · have : more = [] := List.length_eq_zero_iff.1 hm
    subst this
    refine ⟨v, w, run_append_owned_none (P := Try.prog) (w := w) 0 32 32 39 i 4 elemMsg.under hi v out.length _ h.row, ?_, Mod.refl _ _, fun _ h => .inl h⟩
    rw [List.append_nil]; exact h
  · obtain ⟨v', w', hr, ho, hmd, hk, -⟩ := run_app (P := Try.prog) w 32 32 39 i z 4 40 elemMsg.under hi hz hs hy hzs elemMsg.pos v out.length _ h.row ⟨gb, 0, none⟩ more.length cap (msgCells more) (msgCells_length more) (fun j x hx => g.row.cells (g := gb) rfl j x hx) (msgCells_one more) (by unfold maxLen; omega) (by omega)
    refine ⟨v', w', hr, ⟨by rw [msgCells_append, List.length_append]; exact ho, fun k hkk => ?_⟩, hmd, hk⟩
    rcases hk k hkk with h1 | h1
    · exact h.own k h1
    · omega

/-- How a node's place goes on. -/
structure Next (w : World) (p p' : Loc) : Prop where
  x : p'.x = p.x
  bh : p'.bh = p.bh
  bs : p'.bs = p.bs
  foot : ∀ b ∈ p'.foot, b ∈ p.foot ∨ w.heap.size ≤ b
theorem Next.refl (w : World) (p : Loc) : Next w p p := ⟨rfl, rfl, rfl, fun _ h => .inl h⟩
theorem Next.trans {w w' : World} {p q r : Loc} (h : Next w p q) (k : Next w' q r) (hs : w.heap.size ≤ w'.heap.size) : Next w p r :=
  ⟨k.x.trans h.x, k.bh.trans h.bh, k.bs.trans h.bs, fun b hb => by
    rcases k.foot b hb with h1 | h1
    · exact h.foot b h1
    · exact .inr (Nat.le_trans hs h1)⟩

/-- What is handed back in two steps, put together. -/
theorem step_app {w w1 w2 : World} {p p1 p2 : Loc} {s1 s2 : NodeS} {v1 v2 : Value} {o1 o2 : List Msg} (hn : NodeAt w1 p1 s1) (hm : MsgsAt w.heap.size w1 v1 o1) (hd : Mod p.foot w w1) (hx : Next w p p1)
    (gn : NodeAt w2 p2 s2) (gm : MsgsAt w1.heap.size w2 v2 o2) (gd : Mod p1.foot w1 w2) (gx : Next w1 p1 p2) (hl : o1.length + o2.length ≤ 1000) :
    ∃ v' w', (Builtin.append_ #[32, 32] 32 #[v1, v2]).run Try.prog w2 = .ok v' w' ∧ (NodeAt w' p2 s2 ∧ MsgsAt w.heap.size w' v' (o1 ++ o2) ∧ Mod p.foot w w' ∧ Next w p p2) := by
  have hk := hm.keep hn gd
  obtain ⟨v', w', hr, h1, h2, h3⟩ := hk.app (gm.lower hd.size) hl (Nat.le_trans hd.size gd.size)
  have hd2 : Mod p.foot w w2 := hd.trans' gd (fun b hb => hx.foot b hb)
  refine ⟨v', w', hr, gn.mod h2 (fun b hb hb2 => ?_), h1, hd2.trans' h2 (fun b hb => .inr (hk.own b (by simpa using hb))), hx.trans gx hd.size⟩
  exact hk.off gn b (by simpa using hb2) hb

def StepPost (w : World) (p : Loc) (r : NodeS × List Msg) (e : Ending) (w' : World) : Prop :=
  ∃ (p' : Loc) (v : Value), e = .returned v ∧ NodeAt w' p' r.1 ∧ MsgsAt w.heap.size w' v r.2 ∧ Mod p.foot w w' ∧ Next w p p'
/-- .. and the votes stay as they lie. -/
def KeepPost (w : World) (p : Loc) (r : NodeS × List Msg) (e : Ending) (w' : World) : Prop :=
  ∃ (p' : Loc) (v : Value), e = .returned v ∧ NodeAt w' p' r.1 ∧ MsgsAt w.heap.size w' v r.2 ∧ Mod [p.x, p.bs] w w' ∧ Next w p p' ∧ p'.lh = p.lh
theorem KeepPost.step {w : World} {p : Loc} {r : NodeS × List Msg} {e : Ending} {w' : World} (h : KeepPost w p r e w') : StepPost w p r e w' := by
  obtain ⟨p', v, h1, h2, h3, h4, h5, -⟩ := h
  exact ⟨p', v, h1, h2, h3, h4.mono (fun b hb => .inl (by simp only [List.mem_cons, List.not_mem_nil, or_false] at hb; rcases hb with rfl | rfl <;> simp [Loc.foot])), h5⟩


theorem sent_look (w : World) (bs : Nat) (ls : List (Seat × Bool × Nat)) (k : Seat) (b : Bool) (hb : w.heap[bs]? = some (sentObj ls)) (hv : look ls k = if b then some true else none) : (Instr.lookup 76 (.map (some bs)) (seatV k) false).run Try.prog w = .ok (.bool b) w := by
  cases b with
  | true => exact run_look_v kSeat Try.underlying76 hb k (by simpa using hv)
  | false => exact run_look_z kSeat Try.underlying76 (zBool _) hb k (by simpa using hv)

/-- What the loads of 'say' read. -/
def SaySat (p : Loc) (s : NodeS) (sb : Nat) (kind : Int) (w' : World) : Prop :=
  w'.cell? ⟨p.x, 2, none⟩ = some (.int .i64 s.me) ∧ w'.cell? ⟨p.x, 4, none⟩ = some (.int .i64 s.round) ∧ w'.cell? ⟨p.x, 8, none⟩ = some (.map (some p.bs)) ∧
  w'.cell? ⟨sb, 0, none⟩ = some (.int .i64 kind) ∧ w'.cell? ⟨sb, 1, none⟩ = some (.int .i64 s.round)
theorem say_sat {w W : World} {p : Loc} {s : NodeS} {kind : Int} {S : List Nat} (h : NodeAt w p s) (hb : W.heap[w.heap.size]? = some (.cells #[.int .i64 kind, .int .i64 s.round] 81 (0, 0))) (m : Mod S w W) (hS : p.x ∉ S) : SaySat p s w.heap.size kind W :=
  ⟨m.cell h.all.2.2.1 hS, m.cell h.all.2.2.2.2.1 hS, m.cell h.all.2.2.2.2.2.2.2.2.1 hS, cell_at hb 0, cell_at hb 1⟩

theorem say_keep (w : World) (p : Loc) (s : NodeS) (kind : Int) (v : ByteArray) (h : NodeAt w p s) :
    Calls Try.prog 37 #[.pointer (some ⟨p.x, 0, none⟩), .int .i64 kind, .string v] w (KeepPost w p (sayS s kind v)) := by
  have c4 := h.all.2.2.2.2.1
  have hnew := get_new w (.cells #[.int .i64 kind, .int .i64 s.round] 81)
  have hma : Mod [] w (w.alloc (.cells #[.int .i64 kind, .int .i64 s.round] 81)) := Mod.alloc (Mod.refl _ _) _
  have H := hid h
  have HN := hid (And.intro hnew hma)
  clear h hnew hma
  go_enter Try.func37, Try.ntmps37
  go_wp2_with fail
  generalize (w.alloc (.cells #[.int .i64 kind, .int .i64 s.round] 81)) = W1 at *
  have hsat := say_sat H.out HN.out.1 HN.out.2 (by simp)
  refine wp_region_N (fun w' => SaySat p s w.heap.size kind w' ∧ w'.heap[p.bs]? = some (sentObj p.ls)) (fun _ => true) (by kernel_rfl) ?_
  have hS : SaySat p s w.heap.size kind W1.drew ∧ W1.drew.heap[p.bs]? = some (sentObj p.ls) := ⟨hsat, HN.out.2.get H.out.sent (by simp)⟩
  refine regA 0 14 (v := ?_) rfl rfl (by kernel_rfl) (by kernel_rfl) (by kernel_rfl) (fun _ _ _ h => h) (by rfl) (fun w => ?_) ?_; rotate_left; (go_simp; first | done | with_reducible rfl); (try simp only [Act.put, List.setIfInBounds_toArray, List.set_cons_zero, List.set_cons_succ])
  refine regA 1 15 (v := ?_) rfl rfl (by kernel_rfl) (by kernel_rfl) (by kernel_rfl) (fun _ _ _ h => h) (by rfl) (fun w => ?_) ?_; rotate_left; (go_simp; first | done | with_reducible rfl); (try simp only [Act.put, List.setIfInBounds_toArray, List.set_cons_zero, List.set_cons_succ])
  refine regA 2 16 (v := ?_) rfl rfl (by kernel_rfl) (by kernel_rfl) (by kernel_rfl) (fun _ _ _ h => h) (by rfl) (fun w => ?_) ?_; rotate_left; (go_simp; first | done | with_reducible rfl); (try simp only [Act.put, List.setIfInBounds_toArray, List.set_cons_zero, List.set_cons_succ])
  refine regS 3 17 (v := ?_) hS rfl rfl (by kernel_rfl) (by kernel_rfl) (by kernel_rfl) (by kernel_rfl) (fun _ _ _ h => h) (by rfl) (fun w hSw => ?_) ?_; rotate_left; (simp only [SaySat] at hSw; go_simp; first | done | with_reducible rfl); (try simp only [Act.put, List.setIfInBounds_toArray, List.set_cons_zero, List.set_cons_succ])
  refine regS 4 18 (v := ?_) hS rfl rfl (by kernel_rfl) (by kernel_rfl) (by kernel_rfl) (by kernel_rfl) (fun _ _ _ h => h) (by rfl) (fun w hSw => ?_) ?_; rotate_left; (simp only [SaySat] at hSw; go_simp; first | done | with_reducible rfl); (try simp only [Act.put, List.setIfInBounds_toArray, List.set_cons_zero, List.set_cons_succ])
  refine regS 5 19 (v := .bool (s.sent (kind, s.round))) hS rfl rfl (by kernel_rfl) (by kernel_rfl) (by kernel_rfl) (by kernel_rfl) (fun _ _ _ h => h) (by rfl) (fun w hSw => look_op _ _ _ _ rfl _ (sent_look _ _ _ (kind, s.round) _ hSw.2 (H.out.sval _))) ?_
  (try simp only [Act.put, List.setIfInBounds_toArray, List.set_cons_zero, List.set_cons_succ])
  refine regDone (by kernel_rfl) ?_ _
  have hv := H.out.sval (kind, s.round)
  cases hsent : s.sent (kind, s.round) with
  | true =>
    have e1 : sayS s kind v = (s, []) := by simp [sayS, hsent]
    have HE := hid e1
    clear hS hsat hv hsent e1
    go_wp2_with fail
    go_ret
    exact ⟨p, _, rfl, by rw [HE.out]; exact H.out.mod0 HN.out.2.drew, by rw [HE.out]; exact MsgsAt.nil _ _, HN.out.2.drew.mono (by simp), Next.refl _ _, rfl⟩
  | false =>
    rw [hsent] at hv
    simp only [Bool.false_eq_true, if_false] at hv
    have e1 : sayS s kind v = ({ s with sent := upd s.sent (kind, s.round) true }, [⟨kind, s.me, s.round, v⟩]) := by simp [sayS, hsent]
    have HE := hid e1
    clear e1
    go_wp2_with fail
    refine wp_region_N (fun w' => SaySat p s w.heap.size kind w' ∧ w'.heap[p.bs]? = some (sentObj p.ls)) (fun i => i != 5) (by kernel_rfl) ?_
    replace hS : SaySat p s w.heap.size kind W1.drew.drew ∧ W1.drew.drew.heap[p.bs]? = some (sentObj p.ls) := hS
    refine regA 0 20 (v := ?_) rfl rfl (by kernel_rfl) (by kernel_rfl) (by kernel_rfl) (fun _ _ _ h => h) (by rfl) (fun w => ?_) ?_; rotate_left; (go_simp; first | done | with_reducible rfl); (try simp only [Act.put, List.setIfInBounds_toArray, List.set_cons_zero, List.set_cons_succ])
    refine regA 1 21 (v := ?_) rfl rfl (by kernel_rfl) (by kernel_rfl) (by kernel_rfl) (fun _ _ _ h => h) (by rfl) (fun w => ?_) ?_; rotate_left; (go_simp; first | done | with_reducible rfl); (try simp only [Act.put, List.setIfInBounds_toArray, List.set_cons_zero, List.set_cons_succ])
    refine regA 2 22 (v := ?_) rfl rfl (by kernel_rfl) (by kernel_rfl) (by kernel_rfl) (fun _ _ _ h => h) (by rfl) (fun w => ?_) ?_; rotate_left; (go_simp; first | done | with_reducible rfl); (try simp only [Act.put, List.setIfInBounds_toArray, List.set_cons_zero, List.set_cons_succ])
    refine regS 3 23 (v := ?_) hS rfl rfl (by kernel_rfl) (by kernel_rfl) (by kernel_rfl) (by kernel_rfl) (fun _ _ _ h => h) (by rfl) (fun w hSw => ?_) ?_; rotate_left; (simp only [SaySat] at hSw; go_simp; first | done | with_reducible rfl); (try simp only [Act.put, List.setIfInBounds_toArray, List.set_cons_zero, List.set_cons_succ])
    refine regS 4 24 (v := ?_) hS rfl rfl (by kernel_rfl) (by kernel_rfl) (by kernel_rfl) (by kernel_rfl) (fun _ _ _ h => h) (by rfl) (fun w hSw => ?_) ?_; rotate_left; (simp only [SaySat] at hSw; go_simp; first | done | with_reducible rfl); (try simp only [Act.put, List.setIfInBounds_toArray, List.set_cons_zero, List.set_cons_succ])
    refine regOnly 5 (by kernel_rfl) rfl (by rfl) (fun K hK => ?_)
    refine wp_put_new' kSeat _ _ _ 76 4 rfl Try.underlying76 p.bs p.ls.length p.ls (kind, s.round) true rfl rfl rfl hS.2 hv ?_
    intro w3 hb3 hm3 hs3
    refine hK.out _ _ (fun h _ => absurd h (by decide)) ?_
    clear hK
    (try simp only [Act.put, List.setIfInBounds_toArray, List.set_cons_zero, List.set_cons_succ])
    refine regDone (by kernel_rfl) ?_ _
    have hS3 : SaySat p s w.heap.size kind w3 := say_sat (S := [p.bs]) H.out (hm3.get (HN.out.1 : W1.drew.drew.heap[w.heap.size]? = _) (by have := lt_of_block H.out.sent; simp; omega)) (((HN.out.2.drew.drew).mono (by simp)).trans hm3) (by simpa using H.out.xne.2.1)
    have hN3 : NodeAt w3 { p with ls := p.ls ++ [((kind, s.round), true, p.ls.length)] } { s with sent := upd s.sent (kind, s.round) true } := by
      have hmm : Mod [p.bs] w w3 := ((HN.out.2.drew.drew).mono (by simp)).trans hm3
      refine ⟨hmm.get H.out.cells (by simpa using H.out.xne.2.1), H.out.heard.mod hmm (by simpa using H.out.hs) (fun e he => by simpa using H.out.ls e he), by rw [sentObj, List.length_append]; exact hb3, fun k => ?_, H.out.hs, H.out.ls⟩
      dsimp only
      rw [look_append, H.out.sval k]
      by_cases hk : k = (kind, s.round)
      · subst hk
        simp [upd_same, hsent]
      · have hne : ¬ (kind, s.round) = k := Ne.symm hk
        simp only [upd_ne _ _ hk, if_neg hne]
        cases s.sent k <;> rfl
    have hM3 : Mod [p.x, p.bs] w w3 := ((HN.out.2.drew.drew).mono (by simp)).trans (hm3.mono (fun x hx => .inl (by rw [List.mem_singleton.1 hx]; simp)))
    have H3 := hid (And.intro hN3 hM3)
    clear hS hsat hv hN3 hM3 hb3 hm3 hs3 hsent
    go_wp2_with fail
    refine wp_region_N (SaySat p s w.heap.size kind) (fun _ => true) (by kernel_rfl) ?_
    have hS : SaySat p s w.heap.size kind w3.drew := hS3
    refine regA 0 25 (v := ?_) rfl rfl (by kernel_rfl) (by kernel_rfl) (by kernel_rfl) (fun _ _ _ h => h) (by rfl) (fun w => ?_) ?_; rotate_left; (go_simp; first | done | with_reducible rfl); (try simp only [Act.put, List.setIfInBounds_toArray, List.set_cons_zero, List.set_cons_succ])
    refine regA 1 26 (v := ?_) rfl rfl (by kernel_rfl) (by kernel_rfl) (by kernel_rfl) (fun _ _ _ h => h) (by rfl) (fun w => ?_) ?_; rotate_left; (go_simp; first | done | with_reducible rfl); (try simp only [Act.put, List.setIfInBounds_toArray, List.set_cons_zero, List.set_cons_succ])
    refine regA 2 27 (v := ?_) rfl rfl (by kernel_rfl) (by kernel_rfl) (by kernel_rfl) (fun _ _ _ h => h) (by rfl) (fun w => ?_) ?_; rotate_left; (go_simp; first | done | with_reducible rfl); (try simp only [Act.put, List.setIfInBounds_toArray, List.set_cons_zero, List.set_cons_succ])
    refine regA 3 28 (v := ?_) rfl rfl (by kernel_rfl) (by kernel_rfl) (by kernel_rfl) (fun _ _ _ h => h) (by rfl) (fun w => ?_) ?_; rotate_left; (go_simp; first | done | with_reducible rfl); (try simp only [Act.put, List.setIfInBounds_toArray, List.set_cons_zero, List.set_cons_succ])
    refine regS 4 29 (v := ?_) hS rfl rfl (by kernel_rfl) (by kernel_rfl) (by kernel_rfl) (by kernel_rfl) (fun _ _ _ h => h) (by rfl) (fun w hSw => ?_) ?_; rotate_left; (simp only [SaySat] at hSw; go_simp; first | done | with_reducible rfl); (try simp only [Act.put, List.setIfInBounds_toArray, List.set_cons_zero, List.set_cons_succ])
    refine regA 5 30 (v := ?_) rfl rfl (by kernel_rfl) (by kernel_rfl) (by kernel_rfl) (fun _ _ _ h => h) (by rfl) (fun w => ?_) ?_; rotate_left; (go_simp; first | done | with_reducible rfl); (try simp only [Act.put, List.setIfInBounds_toArray, List.set_cons_zero, List.set_cons_succ])
    refine regA 6 31 (v := ?_) rfl rfl (by kernel_rfl) (by kernel_rfl) (by kernel_rfl) (fun _ _ _ h => h) (by rfl) (fun w => ?_) ?_; rotate_left; (go_simp; first | done | with_reducible rfl); (try simp only [Act.put, List.setIfInBounds_toArray, List.set_cons_zero, List.set_cons_succ])
    refine regA 7 32 (v := ?_) rfl rfl (by kernel_rfl) (by kernel_rfl) (by kernel_rfl) (fun _ _ _ h => h) (by rfl) (fun w => ?_) ?_; rotate_left; (go_simp; first | done | with_reducible rfl); (try simp only [Act.put, List.setIfInBounds_toArray, List.set_cons_zero, List.set_cons_succ])
    refine regS 8 33 (v := ?_) hS rfl rfl (by kernel_rfl) (by kernel_rfl) (by kernel_rfl) (by kernel_rfl) (fun _ _ _ h => h) (by rfl) (fun w hSw => ?_) ?_; rotate_left; (simp only [SaySat] at hSw; go_simp; first | done | with_reducible rfl); (try simp only [Act.put, List.setIfInBounds_toArray, List.set_cons_zero, List.set_cons_succ])
    refine regA 9 34 (v := ?_) rfl rfl (by kernel_rfl) (by kernel_rfl) (by kernel_rfl) (fun _ _ _ h => h) (by rfl) (fun w => ?_) ?_; rotate_left; (go_simp; first | done | with_reducible rfl); (try simp only [Act.put, List.setIfInBounds_toArray, List.set_cons_zero, List.set_cons_succ])
    refine regA 10 35 (v := ?_) rfl rfl (by kernel_rfl) (by kernel_rfl) (by kernel_rfl) (fun _ _ _ h => h) (by rfl) (fun w => ?_) ?_; rotate_left; (go_simp; first | done | with_reducible rfl); (try simp only [Act.put, List.setIfInBounds_toArray, List.set_cons_zero, List.set_cons_succ])
    refine regOnly 11 (by kernel_rfl) rfl (by rfl) (fun K hK => ?_)
    go_wp2_with fail
    have hma := Mod.alloc (Mod.refl [] w3.drew) (.cells #[.int .i64 kind, .int .i64 s.me, .int .i64 s.round, .string v] 39)
    have hnb := get_new w3.drew (.cells #[.int .i64 kind, .int .i64 s.me, .int .i64 s.round, .string v] 39)
    have H4 := hid (And.intro ((Mod.refl [] w3).drew.trans hma) hnb)
    refine hK.out _ _ (fun _ _ => ⟨hma.cell hS.1 (by simp), hma.cell hS.2.1 (by simp), hma.cell hS.2.2.1 (by simp), hma.cell hS.2.2.2.1 (by simp), hma.cell hS.2.2.2.2 (by simp)⟩) ?_
    clear hK hS hS3 hma hnb
    (try simp only [Act.put, List.setIfInBounds_toArray, List.set_cons_zero, List.set_cons_succ])
    refine regOnly 12 (by kernel_rfl) rfl (by rfl) (fun K hK => ?_)
    go_wp2_with fail
    refine hK.out _ _ (fun _ h => h) ?_
    clear hK
    (try simp only [Act.put, List.setIfInBounds_toArray, List.set_cons_zero, List.set_cons_succ])
    refine regDone (by kernel_rfl) ?_ _
    go_wp2_with fail
    go_ret
    exact ⟨{ p with ls := p.ls ++ [((kind, s.round), true, p.ls.length)] }, _, rfl, by rw [HE.out]; exact H3.out.1.mod0 H4.out.1, by rw [HE.out]; exact MsgsAt.one H4.out.2 H3.out.2.size, H3.out.2.trans (H4.out.1.mono (by simp)), ⟨rfl, rfl, rfl, fun b hb => .inl hb⟩, rfl⟩
theorem say_any (w : World) (p : Loc) (s : NodeS) (kind : Int) (v : ByteArray) (h : NodeAt w p s) :
    Calls Try.prog 37 #[.pointer (some ⟨p.x, 0, none⟩), .int .i64 kind, .string v] w (StepPost w p (sayS s kind v)) :=
  (say_keep w p s kind v h).mono fun _ _ h => h.step
end Go.Proofs.Ytnpmjpdndhedgaa
