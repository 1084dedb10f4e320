/- Walks: uses. -/
import Derived.Test.YtegmniphgahblaaGreatW3
import Derived.RangeFuncBox
namespace Go.Proofs.YtegmniphgahblaaGreat
open Go.RowKit Go.Shelf
attribute [local go_sem] Oper.semAt_some

/-- A cell of the caller's own abides, beside the iterator's block. -/
theorem cell_abide {B : Nat} {bs : Option Nat} {W W' : World} {row : Option Nat} (hg : W.grownBy W' row) (hr : ∀ r, row = some r → bs = some r ∨ (B ≤ r ∧ ∃ o : Obj, W.heap[r]? = some o ∧ o.isCells = false)) {a : Addr} {v : Value} (h : W.cell? a = some v) (hb : bs ≠ some a.block) : W'.heap[a.block]? = W.heap[a.block]? := by
 obtain ⟨o, ho, hc⟩ := cells_of_cell h
 refine hg.block _ (Array.getElem?_eq_some_iff.1 ho).1 fun e => ?_
 rcases hr a.block e.symm with h' | ⟨_, o', ho', hc'⟩
 ·exact hb h'
 ·rw [ho] at ho'; cases ho'; rw [hc] at hc'; cases hc'
theorem abide_below {β : Type} {n B : Nat} {bs : Option Nat} {w : World} (hn : n ≤ B) (hw : n ≤ w.heap.size) (hb : ∀ b, bs = some b → n ≤ b) : Abide B bs (fun (_ : β) W => Below n w W) := fun _ W W' row hs hg hr => by
 have hlt : ∀ r, row = some r → n ≤ r := fun r e => (hr r e).elim (fun h => hb r h) (fun h => Nat.le_trans hn h.1)
 exact hs.trans ((Below.refl n W).grown hg (Nat.le_trans hw hs.size) (fun k e => hlt k e))
/-- What uses holds while it goes up. -/
structure UsI (w W : World) (r : Nat) (pre : List Nat) (b : Bool) : Prop where
 c : W.cell? ⟨w.heap.size + 1 + 1, 0, none⟩ = some (.int .i64 (r : Int))
 d : W.cell? ⟨w.heap.size + 1 + 1 + 1, 0, none⟩ = some (.bool b)
 f : W.frozen? ⟨w.heap.size + 1 + 1 + 1, 0, none⟩ = false
 q : decide (r ∈ pre) = b
theorem usI_abide (w : World) (r : Nat) (b : Bool) {B bs : Nat} (hb : w.heap.size + 1 + 1 + 1 < bs) : Abide B (some bs) (fun pre W => UsI w W r pre b) := fun pre W W' row hs hg hr => by
 have k1 := cell_abide hg hr hs.c (fun e => by simp at e; omega)
 have k2 := cell_abide hg hr hs.d (fun e => by simp at e; omega)
 exact ⟨(World.cell?_of_block k1).trans hs.c, (World.cell?_of_block k2).trans hs.d, (World.frozen?_of_block k2).trans hs.f, hs.q⟩
theorem cell_put {W : World} {D : Nat} {o : Obj} {a : Addr} (h : a.block ≠ D) : (W.putObj D o).cell? a = W.cell? a := World.cell?_of_block (World.putObj_heap_other h)
theorem put_below {n D : Nat} {w W : World} {o : Obj} (h : Below n w W) (hn : n ≤ D) (hk : n ≤ w.heap.size) : Below n w (W.putObj D o) := h.trans ((Below.refl n W).grown (grownBy_putObj' W D o) (Nat.le_trans hk h.size) (fun k e => by cases e; exact hn))
theorem UsI.set {w W : World} {r x : Nat} {pre : List Nat} {b : Bool} (h : UsI w W r pre b) (e : x = r) : UsI w (W.setCell ⟨w.heap.size + 1 + 1 + 1, 0, none⟩ (.bool true)) r (pre ++ [x]) true :=
 ⟨(World.cell?_setCell_other W _ ⟨w.heap.size + 1 + 1, 0, none⟩ _ (by simp)).trans h.c, World.cell?_setCell_same' _ _ _ (by rw [h.d]; rfl), by rw [World.frozen?_setCell]; exact h.f, by simp [e]⟩
theorem UsI.next {w W : World} {r x : Nat} {pre : List Nat} (h : UsI w W r pre false) (e : x ≠ r) : UsI w W r (pre ++ [x]) false := by
 refine ⟨h.c, h.d, h.f, ?_⟩
 have := h.q
 simp only [decide_eq_false_iff_not, List.mem_append, List.mem_singleton, not_or] at this ⊢
 exact ⟨this, fun k => e k.symm⟩
def usB (rs : List Rch) (p : Pay) (r : Nat) : Bool := decide (r ∈ way (abF rs) p.rc)
def Pay.v (p : Pay) : Value := .agg #[.int .i64 p.id, .int .i64 p.rc, .int .i64 p.wt]

set_option maxRecDepth 100000 in
set_option maxHeartbeats 2000000 in
theorem uses_in (n : Nat) (hn : 3 ≤ n) (t : Tr) (ok : RsOk t.rs) (p : Pay) (hp : -1 ≤ p.rc) (hp2 : p.rc < t.rs.length) (r : Nat) (w : World) (ht : TrAt w w.heap.size t) :
  CallsIn Fence.wide n Tryz.prog 62 #[t.v, p.v, .int .i64 (r : Int)] w fun e w' => e = .returned (.bool (usB t.rs p r)) ∧ Below w.heap.size w w' := by
 have h1 : 1 ≤ n := by omega
 have h2 : 1 ≤ n - 1 := by omega
 obtain ⟨A, c, rs, B, d, ps⟩ := t
 obtain ⟨pid, prc, pwt⟩ := p
 unfold Tr.v Pay.v
 dsimp only [Tr.v, Pay.v] at *
 refine callsIn_of_wp_marks Tryz.func62 rfl trivial ?_ rfl
 simp only [Tryz.ntmps62, List.size_toArray, List.length_cons, List.length_nil, Nat.reduceAdd, Nat.reduceSub, Array.replicate_succ, Array.replicate_zero, List.push_toArray, List.append_toArray, List.nil_append, List.cons_append]
 have hup := fun W => CallsIn.mono (callsIn_wide (n := n - 1).2 (up_any ⟨A, c, rs, B, d, ps⟩ prc W)) (fun e w' h => h)
 gi_wp2_with (refine ⟨trivial, ?_⟩; refine (hup _).mono ?_; rintro e w' ⟨rfl, rfl⟩)
 have hb4 : Below w.heap.size w ((((w.alloc (.cells #[.slice A rs.length c, .slice B ps.length d] 42)).alloc (.cells #[.int .i64 pid, .int .i64 prc, .int .i64 pwt] 53)).alloc (.cells #[.int .i64 (r : Int)] 3)).alloc (.cells #[.bool false] 4)) := ((((Below.refl _ w).alloc (Nat.le_refl _) _).alloc (by simp) _).alloc (by simp; omega) _).alloc (by simp; omega) _
 have hseq := up_seq (n - 1) h2 ⟨A, c, rs, B, d, ps⟩ ok prc hp hp2 w.heap.size ((((w.alloc (.cells #[.slice A rs.length c, .slice B ps.length d] 42)).alloc (.cells #[.int .i64 pid, .int .i64 prc, .int .i64 pwt] 53)).alloc (.cells #[.int .i64 (r : Int)] 3)).alloc (.cells #[.bool false] 4)) (ht.ext hb4 (Nat.le_refl _)) hb4.size
 have hi : UsI w ((((((w.alloc (.cells #[.slice A rs.length c, .slice B ps.length d] 42)).alloc (.cells #[.int .i64 pid, .int .i64 prc, .int .i64 pwt] 53)).alloc (.cells #[.int .i64 (r : Int)] 3)).alloc (.cells #[.bool false] 4)).alloc (.cells (Tr.cells ⟨A, c, rs, B, d, ps⟩) 42)).alloc (.cells #[.int .i64 prc] 3)) r [] false := ⟨by simp [go_sem], by simp [go_sem], by simp [go_sem], by simp⟩
 have hb6 : Below w.heap.size w ((((((w.alloc (.cells #[.slice A rs.length c, .slice B ps.length d] 42)).alloc (.cells #[.int .i64 pid, .int .i64 prc, .int .i64 pwt] 53)).alloc (.cells #[.int .i64 (r : Int)] 3)).alloc (.cells #[.bool false] 4)).alloc (.cells (Tr.cells ⟨A, c, rs, B, d, ps⟩) 42)).alloc (.cells #[.int .i64 prc] 3)) := (hb4.alloc hb4.size _).alloc (by simp; omega) _
 have hz6 : ((((((w.alloc (.cells #[.slice A rs.length c, .slice B ps.length d] 42)).alloc (.cells #[.int .i64 pid, .int .i64 prc, .int .i64 pwt] 53)).alloc (.cells #[.int .i64 (r : Int)] 3)).alloc (.cells #[.bool false] 4)).alloc (.cells (Tr.cells ⟨A, c, rs, B, d, ps⟩) 42)).alloc (.cells #[.int .i64 prc] 3)).heap.size = w.heap.size + 1 + 1 + 1 + 1 + 1 + 1 := by simp
 simp only [World.size_alloc] at hseq
 generalize ((((((w.alloc (.cells #[.slice A rs.length c, .slice B ps.length d] 42)).alloc (.cells #[.int .i64 pid, .int .i64 prc, .int .i64 pwt] 53)).alloc (.cells #[.int .i64 (r : Int)] 3)).alloc (.cells #[.bool false] 4)).alloc (.cells (Tr.cells ⟨A, c, rs, B, d, ps⟩) 42)).alloc (.cells #[.int .i64 prc] 3)) = W6 at *
 clear hb4 hup
 refine wpIn_range_boxP rfl h1 (gf := 73) (lb := #[.pointer (some ⟨w.heap.size + 1 + 1 + 1 + 1 + 1, 0, none⟩), .pointer (some ⟨w.heap.size + 1 + 1 + 1 + 1, 0, none⟩)]) rfl trivial eg_up1 hseq
  (by rw [hz6]; unfold upK; intro b hb; omega) (Below.refl _ _) (by rw [hz6]; intro b hb; cases hb; omega) (fun _ => rfl)
  (fun pre W => UsI w W r pre false ∧ Below w.heap.size w W) (fun c pre W => (c = .ret ∧ UsI w W r pre true) ∧ Below w.heap.size w W)
  ((usI_abide w r false (by omega)).and (abide_below (by rw [hz6]; omega) (Nat.le_refl _) (by intro b hb; cases hb; omega)))
  (fun c => Abide.and (fun s W W' row hs hg hr => ⟨hs.1, usI_abide w r true (by omega) s W W' row hs.2 hg hr⟩) (abide_below (by rw [hz6]; omega) (Nat.le_refl _) (by intro b hb; cases hb; omega))) ⟨hi, hb6⟩
  (fun x => { tmps := #[.agg #[.slice A rs.length c, .slice B ps.length d], .agg #[.int .i64 pid, .int .i64 prc, .int .i64 pwt], .int .i64 (r : Int), .pointer (some ⟨w.heap.size, 0, none⟩), .pointer (some ⟨w.heap.size + 1, 0, none⟩), .pointer (some ⟨w.heap.size + 1 + 1, 0, none⟩), .pointer (some ⟨w.heap.size + 1 + 1 + 1, 0, none⟩), .int .i64 (x : Int), .agg #[.slice A rs.length c, .slice B ps.length d], .pointer (some ⟨w.heap.size + 1, 1, none⟩), .int .i64 prc,
   .func (.func 73) #[] #[.pointer (some ⟨w.heap.size + 1 + 1 + 1 + 1 + 1, 0, none⟩), .pointer (some ⟨w.heap.size + 1 + 1 + 1 + 1, 0, none⟩)], .int .i64 (x : Int), undef, undef, undef], defers := [] }) ?assign ?body ?done ?stop
 case assign =>
  intro l x W K hK
  gi_wp2
  exact hK
 case body =>
  rintro l pre x rest W hf ⟨hU, hB⟩ hsz
  have HU := hd2 hU hB
  obtain ⟨c5, c6, f6, q⟩ := hU
  by_cases hx : x = r
  ·have hxz : (x : Int) = (r : Int) := by omega
   gi_wp2
   exact ⟨(KeepsOthers.setCell _ _ _).from _, ⟨rfl, HU.out.1.set hx⟩, HU.out.2.setCell (by show w.heap.size ≤ w.heap.size + 1 + 1 + 1; omega) _⟩
  ·have hxz : ((x : Int) == (r : Int)) = false := by simp; omega
   gi_wp2
   exact ⟨KeepsFrom.refl _ _, KeepB.refl _ _, HU.out.1.next hx, HU.out.2⟩
 case done =>
  rintro D W hD ⟨hU, hB⟩ hK
  rw [hz6] at hD
  have hq : decide (r ∈ way (abF rs) prc) = false := hU.q
  obtain ⟨c5, c6, f6, q⟩ := hU
  have HB := Lib.hid (put_below (o := .deferred none) (hB.setCell (p := ⟨w.heap.size + 1 + 1 + 1, 0, none⟩) (by show w.heap.size ≤ w.heap.size + 1 + 1 + 1; omega) (.bool false)) (show w.heap.size ≤ D by omega) (Nat.le_refl _))
  have hK2 := (KeepsOthers.setCell W ⟨w.heap.size + 1 + 1 + 1, 0, none⟩ (.bool false)).same D _ hK rfl
  have z1 : ((W.setCell ⟨w.heap.size + 1 + 1 + 1, 0, none⟩ (.bool false)).putObj D (.deferred none)).cell? ⟨w.heap.size + 1 + 1 + 1, 0, none⟩ = some (.bool false) := by
   rw [cell_put (by show w.heap.size + 1 + 1 + 1 ≠ D; omega)]
   exact World.cell?_setCell_same' _ _ _ (by rw [c6]; rfl)
  have HQ := Lib.hid hq
  clear q hq hB
  gi_wp2
  refine ⟨by simp, .inl ⟨_, _, rfl, run_takeDeferred hK2, ?_⟩⟩
  exact ⟨.bool false, by simp [results, Tryz.results62, go_sem, z1], by rw [show usB rs ⟨pid, prc, pwt⟩ r = false from HQ.out], HB.out⟩
 case stop =>
  rintro D c pre x rest W hD hf ⟨⟨rfl, hU⟩, hB⟩ hK
  rw [hz6] at hD
  have hq : r ∈ way (abF rs) prc := by
   rw [hf]
   have := of_decide_eq_true hU.q
   rw [List.mem_append, List.mem_singleton] at this
   rcases this with h | h
   ·exact List.mem_append_left _ h
   ·exact List.mem_append_right _ (h ▸ List.mem_cons_self)
  obtain ⟨c5, c6, f6, q⟩ := hU
  have HB := Lib.hid (put_below (o := .deferred none) hB (show w.heap.size ≤ D by omega) (Nat.le_refl _))
  have z1 : (W.putObj D (.deferred none)).cell? ⟨w.heap.size + 1 + 1 + 1, 0, none⟩ = some (.bool true) := by
   rw [cell_put (by show w.heap.size + 1 + 1 + 1 ≠ D; omega)]
   exact c6
  have HQ := Lib.hid hq
  clear q hq hB
  gi_wp2
  refine ⟨by simp, .inl ⟨_, _, rfl, run_takeDeferred hK, ?_⟩⟩
  exact ⟨.bool true, by simp [results, Tryz.results62, go_sem, z1], by rw [show usB rs ⟨pid, prc, pwt⟩ r = true from decide_eq_true HQ.out], HB.out⟩
theorem uses_any (t : Tr) (ok : RsOk t.rs) (p : Pay) (hp : -1 ≤ p.rc) (hp2 : p.rc < t.rs.length) (r : Nat) (w : World) (ht : TrAt w w.heap.size t) :
  Calls Tryz.prog 62 #[t.v, p.v, .int .i64 (r : Int)] w fun e w' => e = .returned (.bool (usB t.rs p r)) ∧ Below w.heap.size w w' := callsIn_wide.1 (uses_in 3 (Nat.le_refl _) t ok p hp hp2 r w ht)
end Go.Proofs.YtegmniphgahblaaGreat
