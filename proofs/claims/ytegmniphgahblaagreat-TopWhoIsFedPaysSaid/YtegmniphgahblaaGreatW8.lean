/- Walks: weights. -/
import Derived.Test.YtegmniphgahblaaGreatW7b
import Derived.Test.YtegmniphgahblaaGreatM12
import Derived.Sort.CutIn
namespace Go.Proofs.YtegmniphgahblaaGreat
open Go.RowKit Go.Shelf
attribute [local go_sem] Oper.semAt_some

/-- What weights holds between two payers. -/
structure WtS (w : World) (t : Tr) (f : Nat → Int) (W : World) : Prop where
 bl : Below w.heap.size w W
 b0 : Blk W w.heap.size t.cells 42
 a1 : ArrAt W (w.heap.size + 1) 125 24 (fun _ => 0)
 a2 : ArrAt W (w.heap.size + 1 + 1) 125 24 f
 lt : w.heap.size + 3 ≤ W.heap.size
theorem WtS.but {w W W' : World} {t : Tr} {f f' : Nat → Int} {p : Nat → Prop} (h : WtS w t f W) (hb : ButB p W W') (hp : ∀ b, p b → w.heap.size + 1 + 1 ≤ b) (ha : ArrAt W' (w.heap.size + 1 + 1) 125 24 f') : WtS w t f' W' := by
 have hl := h.lt
 have hn : ∀ b, b < w.heap.size + 1 + 1 → ¬ p b := fun b hb hpb => by have := hp b hpb; omega
 exact ⟨h.bl.trans (hb.below (by omega) fun b hb => hn b (by omega)), hb.heap h.b0 (hn _ (by omega)), h.a1.block (hb.same _ (by omega) (hn _ (by omega))), ha, Nat.le_trans hl hb.size⟩
theorem arr_abide {B g n : Nat} {ty : TypeId} {bs : Option Nat} {β : Type} (F : β → Nat → Int) (hn : 0 < n) (hb : bs ≠ some g) : Abide B bs (fun s W => ArrAt W g ty n (F s)) := fun _ _ _ _ hs hg hr => hs.block (cell_abide hg hr (hs.cell hn) hb)
/-- The weights while a payer's way is gone up. -/
def wtTo (rs : List Rch) (ps : List Pay) (k : Nat) (pre : List Nat) (r : Nat) : Int := allTo rs ps k r + if r ∈ pre then wtF ps k else 0
theorem rc_cast {rs : List Rch} {ps : List Pay} (h : PsOk rs ps) {k : Nat} (hk : k < ps.length) : (yAt ps k).rc = (rcF ps k : Int) := by
 have := h.rc k hk
 unfold rcF
 omega
theorem wtTo_nil (rs : List Rch) (ps : List Pay) (k : Nat) : wtTo rs ps k [] = allTo rs ps k := by
 funext r
 unfold wtTo
 rw [if_neg (by simp), Int.add_zero]
theorem wtTo_snoc {rs : List Rch} {ps : List Pay} {k x : Nat} {pre : List Nat} (hx : x ∉ pre) : wtTo rs ps k (pre ++ [x]) = put (wtTo rs ps k pre) x (wtTo rs ps k pre x + wtF ps k) := by
 funext r
 unfold wtTo put
 by_cases h : r = x
 ·subst h
  rw [if_pos (by simp), if_pos rfl, if_neg hx]; omega
 ·rw [if_neg h]
  dsimp only
  by_cases h2 : r ∈ pre
  ·rw [if_pos h2, if_pos (List.mem_append_left _ h2)]
  ·rw [if_neg h2, if_neg (by simp [h, h2])]
theorem wtTo_all {rs : List Rch} {ps : List Pay} (ok : RsOk rs) (h : PsOk rs ps) {k : Nat} (hk : k < ps.length) : wtTo rs ps k (way (abF rs) (yAt ps k).rc) = allTo rs ps (k + 1) := by
 funext r
 show allTo rs ps k r + _ = allTo rs ps k r + (if usF rs ps k r = true then wtF ps k else 0)
 congr 1
 rw [rc_cast h hk]
 have := way_mem ok.ab (r := r) (rcF ps k) (h.rcl k hk)
 by_cases hu : usF rs ps k r = true
 ·rw [if_pos hu, if_pos (this.2 hu)]
 ·rw [if_neg hu, if_neg (fun e => hu (this.1 e))]
theorem wtTo_rng {rs : List Rch} {ps : List Pay} (h : PsOk rs ps) {k x : Nat} {pre : List Nat} (hk : k < ps.length) : 0 ≤ wtTo rs ps k pre x ∧ wtTo rs ps k pre x + wtF ps k ≤ 72 ∧ 1 ≤ wtF ps k := by
 have h1 := allTo_mono h x (show k ≤ ps.length by omega) (Nat.le_refl _)
 have h2 := h.sum
 have h3 := h.wt k hk
 have h4 := sumTo_ge (f := wtF ps) (n := ps.length) (fun i hi => by have := h.wt i hi; unfold wtF; omega) hk
 have h5 : wtF ps k = (yAt ps k).wt := rfl
 unfold wtTo
 split <;> omega
theorem way_fresh {ab : Nat → Int} {m : Nat} (hab : ∀ r, r < m → ab r < r) {x : Int} (hx : x < m) {pre rest : List Nat} {y : Nat} (h : way ab x = pre ++ y :: rest) : y ∉ pre ∧ y < m := by
 have h1 := way_desc hab (x.toNat + 1) x hx (by omega)
 rw [h, List.pairwise_append] at h1
 refine ⟨fun e => ?_, (way_lt hab x hx y (by rw [h]; simp)).2⟩
 have := h1.2.2 y e y (by simp)
 omega
set_option maxRecDepth 100000 in
set_option maxHeartbeats 2000000 in
theorem weights_in (n : Nat) (hn : 3 ≤ n) (t : Tr) (ok : RsOk t.rs) (pk : PsOk t.rs t.ps) (w : World) (ht : TrAt w w.heap.size t) :
  CallsIn Fence.wide n Tryz.prog 60 #[t.v] w fun e w' => e = .returned (arV (allF t.rs t.ps)) ∧ Below w.heap.size w w' := by
 have h1 : 1 ≤ n := by omega
 have h2 : 1 ≤ n - 1 := by omega
 obtain ⟨A, c, rs, B, d, ps⟩ := t
 dsimp only [Tr.v] at *
 refine callsIn_of_wp_marks Tryz.func60 rfl trivial ?_ rfl
 simp only [Tryz.ntmps60, List.size_toArray, List.length_cons, List.length_nil, Nat.reduceAdd, Nat.reduceSub, Array.replicate_succ, Array.replicate_zero, List.push_toArray, List.append_toArray, List.nil_append, List.cons_append]
 gi_wp2
 rw [show (#[.int .i64 0, .int .i64 0, .int .i64 0, .int .i64 0, .int .i64 0, .int .i64 0, .int .i64 0, .int .i64 0, .int .i64 0, .int .i64 0, .int .i64 0, .int .i64 0, .int .i64 0, .int .i64 0, .int .i64 0, .int .i64 0, .int .i64 0, .int .i64 0, .int .i64 0, .int .i64 0, .int .i64 0, .int .i64 0, .int .i64 0, .int .i64 0] : Array Value) = (List.replicate 24 (Value.int .i64 0)).toArray from rfl]
 have hb3 : Below w.heap.size w (((w.alloc (.cells #[.slice A rs.length c, .slice B ps.length d] 42)).alloc (.cells (List.replicate 24 (Value.int .i64 0)).toArray 125)).alloc (.cells (List.replicate 24 (Value.int .i64 0)).toArray 125)) := (((Below.refl _ w).alloc (Nat.le_refl _) _).alloc (by simp) _).alloc (by simp; omega) _
 have k0 : Blk (((w.alloc (.cells #[.slice A rs.length c, .slice B ps.length d] 42)).alloc (.cells (List.replicate 24 (Value.int .i64 0)).toArray 125)).alloc (.cells (List.replicate 24 (Value.int .i64 0)).toArray 125)) w.heap.size #[.slice A rs.length c, .slice B ps.length d] 42 := blk_alloc (blk_alloc (blk_new w _ _ rfl) _) _
 have a1 := (arr_zero (w.alloc (.cells #[.slice A rs.length c, .slice B ps.length d] 42)) 24 125).kept (World.grownBy_alloc _ (.cells (List.replicate 24 (Value.int .i64 0)).toArray 125) none) (fun _ e => by cases e)
 have a2 := arr_zero ((w.alloc (.cells #[.slice A rs.length c, .slice B ps.length d] 42)).alloc (.cells (List.replicate 24 (Value.int .i64 0)).toArray 125)) 24 125
 simp only [World.size_alloc] at a1 a2
 have S0 : WtS w ⟨A, c, rs, B, d, ps⟩ (fun _ => 0) (((w.alloc (.cells #[.slice A rs.length c, .slice B ps.length d] 42)).alloc (.cells (List.replicate 24 (Value.int .i64 0)).toArray 125)).alloc (.cells (List.replicate 24 (Value.int .i64 0)).toArray 125)) := ⟨hb3, k0, a1, a2, by simp⟩
 generalize (((w.alloc (.cells #[.slice A rs.length c, .slice B ps.length d] 42)).alloc (.cells (List.replicate 24 (Value.int .i64 0)).toArray 125)).alloc (.cells (List.replicate 24 (Value.int .i64 0)).toArray 125)) = W0 at *
 clear hb3 k0 a1 a2
 have HT := hd3 ht ok pk
 clear ht ok pk
 refine wpIn_loop (fun a' W => ∃ (k : Nat) (ds : List Deferred) (u5 u6 u11 u12 u13 u14 u15 u16 u17 u18 u19 u20 u21 u22 u23 u24 u25 u26 : Value), k ≤ ps.length ∧ WtS w ⟨A, c, rs, B, d, ps⟩ (allTo rs ps k) W ∧ Mk (w.heap.size + 3) W ds ∧ a' = { tmps := #[.agg #[.slice A rs.length c, .slice B ps.length d], .pointer (some ⟨w.heap.size, 0, none⟩), .pointer (some ⟨w.heap.size + 1, 0, none⟩), .pointer (some ⟨w.heap.size + 1 + 1, 0, none⟩), undef, u5, u6, .pointer (some ⟨w.heap.size, 1, none⟩), .slice B ps.length d, .int .i64 (ps.length : Int), .int .i64 (k : Int), u11, u12, u13, u14, u15, u16, u17, u18, u19, u20, u21, u22, u23, u24, u25, u26, undef], defers := ds })
  (fun a' _ => ps.length - (intOf (a'.tmps.getD 10 undef)).toNat) ?_ ?_
 ·exact ⟨0, [], undef, undef, undef, undef, undef, undef, undef, undef, undef, undef, undef, undef, undef, undef, undef, undef, undef, undef, Nat.zero_le _, S0, Mk.nil _ _, rfl⟩
 rintro a' wr ⟨k, ds, u5, u6, u11, u12, u13, u14, u15, u16, u17, u18, u19, u20, u21, u22, u23, u24, u25, u26, hk, hS, hM, rfl⟩
 have hpn := HT.out.2.2.n
 by_cases hlt : k < ps.length
 ·have hltz : (k : Int) < (ps.length : Int) := by omega
  obtain ⟨b, off, rfl, lb, hc⟩ := HT.out.1.p (by show 0 < ps.length; omega)
  obtain ⟨q0, q1, q2⟩ := hc k hlt
  dsimp only at q0 q1 q2
  have p0 := (hS.bl.cell (p := ⟨b, off + k * 3, none⟩) lb).trans q0
  have p1 := (hS.bl.cell (p := ⟨b, off + k * 3 + 1, none⟩) lb).trans q1
  have p2 := (hS.bl.cell (p := ⟨b, off + k * 3 + 2, none⟩) lb).trans q2
  clear q0 q1 q2 hc
  have r0 := cr 0 hS.b0
  have r1 := cr 1 hS.b0
  dsimp only [Tr.cells] at r0 r1
  have HS := hd2 hS hM
  have hlw := hS.lt
  clear hS hM
  gi_upto_region 5 with fail
  have hb1 : ButB (fun _ => False) wr (wr.alloc (.cells #[.int .i64 (yAt ps k).id, .int .i64 (yAt ps k).rc, .int .i64 (yAt ps k).wt] 53)) := (ButB.refl _ wr).alloc _
  have k5 := blk_new wr (g := wr.heap.size) #[.int .i64 (yAt ps k).id, .int .i64 (yAt ps k).rc, .int .i64 (yAt ps k).wt] 53 rfl
  have S1 := HS.out.1.but hb1 (fun _ h => h.elim) (HS.out.1.a2.block (hb1.same _ (by omega) id))
  have M1 := HS.out.2.but hb1 (fun _ h => h.elim)
  have hz1 : (wr.alloc (.cells #[.int .i64 (yAt ps k).id, .int .i64 (yAt ps k).rc, .int .i64 (yAt ps k).wt] 53)).heap.size = wr.heap.size + 1 := by simp
  generalize hg5 : wr.heap.size = g5 at *
  generalize wr.alloc (.cells #[.int .i64 (yAt ps k).id, .int .i64 (yAt ps k).rc, .int .i64 (yAt ps k).wt] 53) = W1 at *
  have r0 := cr 0 S1.b0
  have r1 := cr 1 S1.b0
  have r2 := cr 1 k5
  dsimp only [Tr.cells] at r0 r1
  have HS1 := hd3 S1 M1 k5
  clear HS S1 M1 k5 hb1 p0 p1 p2
  have hup := fun W => callsIn_wide (n := n - 1).2 (up_any ⟨A, c, rs, some ⟨b, off, none⟩, d, ps⟩ (yAt ps k).rc W)
  gi_wp2_with (refine ⟨trivial, ?_⟩; refine (hup _).mono ?_; rintro e w' ⟨rfl, rfl⟩)
  have hrc := HT.out.2.2.rc k hlt
  have hb6 : ButB (fun _ => False) W1 ((W1.alloc (.cells (Tr.cells ⟨A, c, rs, some ⟨b, off, none⟩, d, ps⟩) 42)).alloc (.cells #[.int .i64 (yAt ps k).rc] 3)) := ((ButB.refl _ W1).alloc _).alloc _
  have hseq := up_seq (n - 1) h2 ⟨A, c, rs, some ⟨b, off, none⟩, d, ps⟩ HT.out.2.1 (yAt ps k).rc (by omega) hrc.2 w.heap.size W1 (HT.out.1.ext HS1.out.1.bl (Nat.le_refl _)) HS1.out.1.bl.size
  have S6 := HS1.out.1.but hb6 (fun _ h => h.elim) (HS1.out.1.a2.block (hb6.same _ (by omega) id))
  have M6 := HS1.out.2.1.but hb6 (fun _ h => h.elim)
  have k6 := hb6.heap HS1.out.2.2 id
  have hz6 : ((W1.alloc (.cells (Tr.cells ⟨A, c, rs, some ⟨b, off, none⟩, d, ps⟩) 42)).alloc (.cells #[.int .i64 (yAt ps k).rc] 3)).heap.size = g5 + 1 + 1 + 1 := by simp only [World.size_alloc, hz1]
  have c6 : ((W1.alloc (.cells (Tr.cells ⟨A, c, rs, some ⟨b, off, none⟩, d, ps⟩) 42)).alloc (.cells #[.int .i64 (yAt ps k).rc] 3)).cell? ⟨g5 + 1 + 1, 0, none⟩ = some (.int .i64 (yAt ps k).rc) := by rw [← hz1]; simp [go_sem]
  have hsame : ButB (fun b => b = w.heap.size + 1 + 1 ∨ b = g5 + 1 + 1) ((W1.alloc (.cells (Tr.cells ⟨A, c, rs, some ⟨b, off, none⟩, d, ps⟩) 42)).alloc (.cells #[.int .i64 (yAt ps k).rc] 3)) ((W1.alloc (.cells (Tr.cells ⟨A, c, rs, some ⟨b, off, none⟩, d, ps⟩) 42)).alloc (.cells #[.int .i64 (yAt ps k).rc] 3)) := ButB.refl _ _
  rw [hz1] at hseq
  generalize ((W1.alloc (.cells (Tr.cells ⟨A, c, rs, some ⟨b, off, none⟩, d, ps⟩) 42)).alloc (.cells #[.int .i64 (yAt ps k).rc] 3)) = W6 at *
  have a6 : ArrAt W6 (w.heap.size + 1 + 1) 125 24 (wtTo rs ps k []) := by rw [wtTo_nil]; exact S6.a2
  have H6 := hd3 S6 M6 k6
  clear S6 M6 k6 hb6 hup HS1 r0 r1 r2
  refine wpIn_range_boxP rfl h1 (gf := 73) (lb := #[.pointer (some ⟨g5 + 1 + 1, 0, none⟩), .pointer (some ⟨g5 + 1, 0, none⟩)]) rfl trivial eg_up1 hseq
   (by rw [hz6]; unfold upK; intro b hb; omega) (Below.refl _ _) (by rw [hz6]; intro b hb; cases hb; omega) (fun _ => rfl)
   (fun pre W => ArrAt W (w.heap.size + 1 + 1) 125 24 (wtTo rs ps k pre) ∧ ButB (fun b => b = w.heap.size + 1 + 1 ∨ b = g5 + 1 + 1) W6 W) (fun _ _ _ => False)
   (Abide.and (arr_abide (wtTo rs ps k) (by omega) (by intro e; cases e; omega)) (ButB.abide (Nat.le_refl _) (by intro b e; cases e; exact .inr rfl)))
   (fun _ _ _ _ _ h _ _ => h) ⟨a6, hsame⟩
   (fun x => { tmps := #[.agg #[.slice A rs.length c, .slice (some ⟨b, off, none⟩) ps.length d], .pointer (some ⟨w.heap.size, 0, none⟩), .pointer (some ⟨w.heap.size + 1, 0, none⟩), .pointer (some ⟨w.heap.size + 1 + 1, 0, none⟩), undef, .pointer (some ⟨g5, 0, none⟩), .int .i64 (x : Int), .pointer (some ⟨w.heap.size, 1, none⟩), .slice (some ⟨b, off, none⟩) ps.length d, .int .i64 (ps.length : Int), .int .i64 (k : Int), .bool true, .pointer (some ⟨b, off + k * 3, none⟩), .agg #[.int .i64 (yAt ps k).id, .int .i64 (yAt ps k).rc, .int .i64 (yAt ps k).wt], .agg #[.slice A rs.length c, .slice (some ⟨b, off, none⟩) ps.length d], .pointer (some ⟨g5, 1, none⟩), .int .i64 (yAt ps k).rc,
    .func (.func 73) #[] #[.pointer (some ⟨g5 + 1 + 1, 0, none⟩), .pointer (some ⟨g5 + 1, 0, none⟩)], .int .i64 (x : Int), u19, u20, u21, u22, u23, u24, u25, u26, undef], defers := [] }) ?assign ?body ?done ?stop
  case assign =>
   intro l x W K hK
   gi_wp2
   exact hK
  case body =>
   rintro l pre x rest W hf ⟨hA, hB⟩ hsz
   obtain ⟨hxp, hxm⟩ := way_fresh HT.out.2.1.ab hrc.2 hf
   have hx24 : x < 24 := Nat.lt_of_lt_of_le hxm HT.out.2.1.n
   have hxz : (x : Int) < 24 := by omega
   have hrg := wtTo_rng (x := x) (pre := pre) HT.out.2.2 hlt
   have hsnoc := wtTo_snoc (rs := rs) (ps := ps) (k := k) hxp
   have HA := hd3 hA hB hsnoc
   clear hA hB hsnoc hseq
   gi_wp2
   refine wpIn_region_R (fun j => j != 7) ?_
   have a0 : W.drew.cell? ⟨w.heap.size + 1 + 1, x, none⟩ = _ := HA.out.1.cell hx24
   have f0 : W.drew.frozen? ⟨w.heap.size + 1 + 1, x, none⟩ = false := HA.out.1.frozen x
   have hB := HA.out.2.1.drew
   have p2 : W.drew.cell? ⟨g5, 2, none⟩ = _ := hB.cell (cr 2 H6.out.2.2) (by show ¬ (g5 = _ ∨ g5 = _); omega)
   have hadd : IntKind.i64.wrap (wtTo rs ps k pre x + (yAt ps k).wt) = wtTo rs ps k pre x + wtF ps k := by
    have : wtF ps k = (yAt ps k).wt := rfl
    rw [← this]
    exact IntWalk.i64_in _ (by omega)
   have hst : ArrAt (W.drew.setCell ⟨w.heap.size + 1 + 1, x, none⟩ (.int .i64 (wtTo rs ps k pre x + wtF ps k))) (w.heap.size + 1 + 1) 125 24 (wtTo rs ps k (pre ++ [x])) := by
    rw [HA.out.2.2]
    exact ArrAt.set (ArrAt.block HA.out.1 (W' := W.drew) rfl) hx24 _
   have HS := hd4 hst (hB.set (a := ⟨w.heap.size + 1 + 1, x, none⟩) (.inl rfl) (.int .i64 (wtTo rs ps k pre x + wtF ps k))) (((KeepsOthers.drew W).trans (KeepsOthers.setCell W.drew ⟨w.heap.size + 1 + 1, x, none⟩ (.int .i64 (wtTo rs ps k pre x + wtF ps k)))).from W6.heap.size) ((KeepB.drew (p := upK w.heap.size (g5 + 1) (g5 + 1 + 1)) W).trans (KeepB.set _ ⟨w.heap.size + 1 + 1, x, none⟩ (.int .i64 (wtTo rs ps k pre x + wtF ps k)) (by unfold upK; dsimp only; omega)))
   clear hst hB
   generalize W.drew = X0 at *
   refine bF 0 rfl ?_
   refine bF 1 rfl ?_
   refine bT a0 2 rfl ?_
   refine bF 3 rfl ?_
   refine bT p2 4 rfl ?_
   refine bF 5 rfl ?_
   refine bF 6 rfl ?_
   refine bR 7 rfl fun K hK => ?_
   go_simp
   refine hK.out _ _ (fun h => by cases h) ?_
   refine bD ?_
   exact ⟨HS.out.2.2.1, HS.out.2.2.2, HS.out.1, HS.out.2.1⟩
  case done =>
   rintro D W hD ⟨hA, hB⟩ hK
   gi_wp2
   refine ⟨⟨k + 1, by omega, H6.out.1.but hB (by intro b hb; omega) (by rw [← wtTo_all HT.out.2.1 HT.out.2.2 hlt]; exact hA), Mk.cons (H6.out.2.1.but hB (by intro b hb; rcases hb with rfl | rfl; (· exact not_def_of_cell (H6.out.1.a2.cell (show 0 < 24 by omega))); (· exact not_def_of_cell c6))) (by omega) hK (fun D' hD' => by have := H6.out.2.1.lt D' hD'; omega), by simp⟩, by simp [intOf]; omega⟩
  case stop =>
   rintro D c pre x rest W _ _ h _
   exact h.elim
 ·obtain rfl : k = ps.length := by omega
  gi_upto_region 9 with fail
  gi_step
  obtain ⟨W', hst, ha, hb, -⟩ := arr_store hS.a1 (allTo rs ps ps.length)
  refine wpListIn_plain rfl fun K hK => wpIn_op_load (fun _ => trivial) 125 _ rfl (by rfl) (arr_load hS.a2) (hK _ _ ?_)
  refine wpListIn_plain rfl fun K hK => wpIn_op_store (fun _ => trivial) 125 _ _ rfl (by rfl) (by rfl) hst (hK _ _ ?_)
  gi_wp2
  have hM2 := hM.but hb (by intro b e; subst e; exact not_def_of_cell (hS.a1.cell (show 0 < 24 by omega)))
  refine mk_leave (B := w.heap.size + 3) hM2 fun W2 hB2 => ?_
  have ha2 : ArrAt W2 (w.heap.size + 1) 125 24 (allTo rs ps ps.length) := ha.block (hB2.same _ ha.lt (fun h => by omega))
  refine ⟨_, results_cell1 Tryz.results60 _ _ ⟨w.heap.size + 1, 0, none⟩ _ (by rfl) (arr_var ha2), rfl, ?_⟩
  exact (hS.bl.trans (hb.below hS.bl.size (by intro b hb e; omega))).trans (hB2.below (Nat.le_trans hS.bl.size hb.size) (by intro b hb e; omega))
theorem weights_any (t : Tr) (ok : RsOk t.rs) (pk : PsOk t.rs t.ps) (w : World) (ht : TrAt w w.heap.size t) :
  Calls Tryz.prog 60 #[t.v] w fun e w' => e = .returned (arV (allF t.rs t.ps)) ∧ Below w.heap.size w w' := callsIn_wide.1 (weights_in 3 (Nat.le_refl _) t ok pk w ht)
end Go.Proofs.YtegmniphgahblaaGreat
