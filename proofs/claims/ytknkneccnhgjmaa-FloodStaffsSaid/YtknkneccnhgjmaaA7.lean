/- Walks: divided's closure as an iterator. -/
import Derived.Test.YtknkneccnhgjmaaA6
import Derived.Test.YtknkneccnhgjmaaFen
import Derived.RangeFuncNested
import Derived.RangeFuncBound
import Derived.RangeFuncCalls
import Derived.RangeFuncLeaves
import Derived.RangeFuncFrom
import Derived.OwnWalkIn
import Derived.TacticsInMore
import Derived.LoopNIn
import Derived.LoopIn
import Derived.RegionIn
import Derived.Shelf.AbstractIn
namespace Go.Proofs.Ytknkneccnhgjmaa
open Go.RowKit Go.Shelf
attribute [local go_sem] Oper.semAt_some

/-- What has come when k rounds are over. -/
def came {α : Type} (f : Nat → α) (k : Nat) : List α := (List.range k).map f
theorem came_succ {α : Type} (f : Nat → α) (k : Nat) : came f (k + 1) = came f k ++ [f k] := by simp [came, List.range_succ]
theorem came_length {α : Type} (f : Nat → α) (k : Nat) : (came f k).length = k := by simp [came]

abbrev encP (x : Nat × Int) : Array Value := #[.int .i64 (x.1 : Int), .int .i64 x.2]

set_option maxRecDepth 100000 in
set_option maxHeartbeats 2000000 in
theorem divided1_in (n : Nat) (hn : 1 ≤ n) (l n₀ B0 B1 B2 t : Nat) (xs ys : List Int) (J Jx : List (Nat × Int) → World → Prop)
    (hY : ∀ pre x W, J pre W → pre.length < t + 1 → YieldAt Fence.wide (n - 1) Try.prog l (encP x) W fun e W' =>
      (e = .returned (.bool true) ∧ J (pre ++ [x]) W' ∧ Below n₀ W W') ∨ (e = .returned (.bool false) ∧ Jx (pre ++ [x]) W'))
    (hJd : ∀ s W, J s W → J s W.drew) (w W : World) (hn0 : w.heap.size ≤ n₀) (hw : Below w.heap.size w W) (hc0 : w.cell? ⟨B0, 0, none⟩ = some (.int .i64 t)) (hB0 : B0 < w.heap.size) (hx : Held w B1 0 xs) (hy : Held w B2 0 ys)
    (h1 : t < xs.length) (h2 : t < ys.length) (hm : xs.length ≤ 1000) (sx : Small xs) (sy : Small ys) (h0 : J [] W) :
    CallsIn Fence.wide n Try.prog 120 #[.func (.yield l) #[] #[], .pointer (some ⟨B0, 0, none⟩), .pointer (some ⟨B1, 0, none⟩), .pointer (some ⟨B2, 0, none⟩)] W fun e W' => (∃ v, e = .returned v) ∧
      ((∃ zs, zs = came (fun s => (s, nth xs s + nth ys (t - s))) (t + 1) ∧ J zs W') ∨ (∃ pre, True ∧ Jx pre W')) := by
  obtain ⟨l1, b1, o1, c1, lb1, f1, g1⟩ := hx.at h1
  obtain ⟨l2, b2, o2, c2, lb2, f2, g2⟩ := hy.at h2
  clear hx hy
  have hc0' := (hw.cell (p := ⟨B0, 0, none⟩) hB0).trans hc0
  refine callsIn_of_wp Try.func120 rfl trivial ?_ rfl
  simp only [Try.ntmps120, List.size_toArray, List.length_cons, List.length_nil, Nat.reduceAdd, Nat.reduceSub, Array.replicate_succ, Array.replicate_zero, List.push_toArray, List.append_toArray, List.nil_append, List.cons_append]
  gi_wp2
  gi_loopw [8] (fun i wr => ∃ k : Nat, k ≤ t + 1 ∧ i = .int .i64 k ∧ J (came (fun s => (s, nth xs s + nth ys (t - s))) k) wr ∧ Below w.heap.size w wr)
    (fun i _ => t + 1 - (intOf i).toNat)
  case atStart => exact ⟨0, Nat.zero_le _, rfl, h0, hw⟩
  case round =>
    obtain ⟨k, hk, rfl, hJs, hnx⟩ := hrel
    by_cases hlt : k < t + 1
    · have hltz : (k : Int) < (t : Int) + 1 := by omega
      have q0 := (hnx.cell (p := ⟨B0, 0, none⟩) hB0).trans hc0
      have q1 := (hnx.cell (p := ⟨B1, 0, none⟩) l1).trans f1
      have q2 := (hnx.cell (p := ⟨B2, 0, none⟩) l2).trans f2
      have r1 := (hnx.cell (p := ⟨b1, o1 + k, none⟩) lb1).trans (g1 k (by omega))
      have r2 := (hnx.cell (p := ⟨b2, o2 + (t - k), none⟩) lb2).trans (g2 (t - k) (by omega))
      obtain ⟨m1, m2⟩ := sx k
      obtain ⟨m3, m4⟩ := sy (t - k)
      obtain ⟨fn, tmps, assign, body, hy, hR⟩ := hY _ (k, nth xs k + nth ys (t - k)) wr.drew (hJd _ _ hJs) (by rw [came_length]; exact hlt)
      dsimp only [encP] at hy
      have hkx : k < xs.length := by omega
      have hky : t - k < ys.length := by omega
      have hsub : IntKind.i64.wrap ((t : Int) - (k : Int)) = ((t - k : Nat) : Int) := by rw [IntWalk.i64_in _ (by omega)]; omega
      have hsum : IntKind.i64.wrap (nth xs k + nth ys (t - k)) = nth xs k + nth ys (t - k) := IntWalk.i64_in _ (by omega)
      clear g1 g2 hY
      gi_wp2
      refine wpIn_region_still_tail 15 (by kernel_rfl) (by kernel_rfl) ?_
      simp only [List.take_succ_cons, List.take_zero, List.drop_succ_cons, List.drop_zero]
      repeat still_step
      try refine wpStill_nil ?_
      gi_wp2
      refine hR.mono ?_
      rintro e W3 (⟨rfl, hJ3, hk3⟩ | ⟨rfl, hJx3⟩)
      · gi_wp2
        go_roundw
        case rel => exact ⟨k + 1, by omega, by simp, by rw [came_succ]; exact hJ3, hnx.trans (((Below.refl _ wr).drew).trans (hk3.mono hn0))⟩
        case measure => simp [intOf]; omega
      · gi_wp2
        refine bodyPost_ret (results_none rfl _ _ _) rfl ?_
        exact ⟨⟨_, rfl⟩, .inr ⟨_, trivial, hJx3⟩⟩
    · have hltz : ¬ (k : Int) < (t : Int) + 1 := by omega
      obtain rfl : k = t + 1 := by omega
      gi_wp2
      go_end0
      exact ⟨⟨_, rfl⟩, .inl hJs⟩

theorem divided_stops (n : Nat) (hn : 1 ≤ n) (B0 B1 B2 t : Nat) (xs ys : List Int) (w : World) (hc0 : w.cell? ⟨B0, 0, none⟩ = some (.int .i64 t)) (hB0 : B0 < w.heap.size) (hx : Held w B1 0 xs) (hy : Held w B2 0 ys)
    (h1 : t < xs.length) (h2 : t < ys.length) (hm : xs.length ≤ 1000) (sx : Small xs) (sy : Small ys) :
    SeqStopsK Fence.wide n Try.prog 120 #[.pointer (some ⟨B0, 0, none⟩), .pointer (some ⟨B1, 0, none⟩), .pointer (some ⟨B2, 0, none⟩)] encP (Below w.heap.size) (fun zs => zs = came (fun s => (s, nth xs s + nth ys (t - s))) (t + 1)) (fun _ => True) (t + 1) w :=
  fun l J Jx W hW hJ _ hY h0 => divided1_in n hn l w.heap.size B0 B1 B2 t xs ys J Jx hY (fun s W' h => hJ s W' _ none h ⟨rfl, rfl, rfl, Nat.le_refl _, fun _ _ _ => rfl⟩ (fun _ e => by cases e)) w W (Nat.le_refl _) hW hc0 hB0 hx hy h1 h2 hm sx sy h0

/-- The first one of some numbered things than which none is better. -/
def bestL (bt : Int → Int → Bool) : List (Nat × Int) → Option (Nat × Int) := List.foldl (fun o x => match o with | none => some x | some y => if bt x.2 y.2 then some x else some y) none
theorem bestL_snoc (bt : Int → Int → Bool) (pre : List (Nat × Int)) (x : Nat × Int) : bestL bt (pre ++ [x]) = match bestL bt pre with | none => some x | some y => if bt x.2 y.2 then some x else some y := by simp [bestL]

def bAt (o : Option (Nat × Int)) : Int := match o with | none => 0 | some y => y.1
def bOut (o : Option (Nat × Int)) : Int := match o with | none => 0 | some y => y.2

/-- What best's own cells hold when 'o' is the best so far. -/
def BestC (H gb : Nat) (o : Option (Nat × Int)) (W : World) : Prop :=
  W.cell? ⟨H, 0, none⟩ = some (.func (.func gb) #[] #[]) ∧ (W.cell? ⟨H + 1, 0, none⟩ = some (.int .i64 (bOut o)) ∧ W.frozen? ⟨H + 1, 0, none⟩ = false) ∧
  (W.cell? ⟨H + 1 + 1, 0, none⟩ = some (.int .i64 (bAt o)) ∧ W.frozen? ⟨H + 1 + 1, 0, none⟩ = false) ∧
  (W.cell? ⟨H + 1 + 1 + 1, 0, none⟩ = some (.bool o.isSome) ∧ W.frozen? ⟨H + 1 + 1 + 1, 0, none⟩ = false)
theorem bestC_own (H gb : Nat) (bt : Int → Int → Bool) : Go.Own (fun pre W => BestC H gb (bestL bt pre) W) := fun _ _ _ _ hs hg hr =>
  ⟨cell_kept hs.1 hg hr, ⟨cell_kept hs.2.1.1 hg hr, (frozen_kept hs.2.1.1 hg hr).trans hs.2.1.2⟩, ⟨cell_kept hs.2.2.1.1 hg hr, (frozen_kept hs.2.2.1.1 hg hr).trans hs.2.2.1.2⟩, ⟨cell_kept hs.2.2.2.1 hg hr, (frozen_kept hs.2.2.2.1 hg hr).trans hs.2.2.2.2⟩⟩
/-- Behind the three stores of a better one. -/
theorem bestC_stored {H gb : Nat} {o : Option (Nat × Int)} {W : World} (h : BestC H gb o W) (x : Nat × Int) :
    BestC H gb (some x) (((W.setCell ⟨H + 1 + 1, 0, none⟩ (.int .i64 x.1)).setCell ⟨H + 1, 0, none⟩ (.int .i64 x.2)).setCell ⟨H + 1 + 1 + 1, 0, none⟩ (.bool true)) := by
  obtain ⟨c0, ⟨c1, f1⟩, ⟨c2, f2⟩, ⟨c3, f3⟩⟩ := h
  have n1 : ∀ (w : World) (p q : Addr) (v : Value), p.block ≠ q.block → (w.setCell p v).cell? q = w.cell? q := fun w p q v hne => World.cell?_setCell_other w p q v (fun e => hne (by rw [e]))
  refine ⟨?_, ⟨?_, by simpa only [World.frozen?_setCell] using f1⟩, ⟨?_, by simpa only [World.frozen?_setCell] using f2⟩, ⟨?_, by simpa only [World.frozen?_setCell] using f3⟩⟩
  · rw [n1 _ _ _ _ (by simp; omega), n1 _ _ _ _ (by simp), n1 _ _ _ _ (by simp; omega)]; exact c0
  · rw [n1 _ _ _ _ (by simp; omega)]
    exact World.cell?_setCell_same' _ _ _ (by rw [n1 _ _ _ _ (by simp), c1]; rfl)
  · rw [n1 _ _ _ _ (by simp), n1 _ _ _ _ (by simp)]
    exact World.cell?_setCell_same' _ _ _ (by rw [c2]; rfl)
  · exact World.cell?_setCell_same' _ _ _ (by rw [n1 _ _ _ _ (by simp), n1 _ _ _ _ (by simp), c3]; rfl)

set_option maxRecDepth 100000 in
set_option maxHeartbeats 2000000 in
theorem best_in (n : Nat) (hn : 3 ≤ n) (gf : Nat) (lb : Array Value) (eg : ∀ args w, (callFunc gf args).run Try.prog w = .ok (.enter gf args) w) (gb : Nat) (bt : Int → Int → Bool) (eb : ∀ args w, (callFunc gb args).run Try.prog w = .ok (.enter gb args) w)
    (hb : ∀ (x y : Int) (W : World), Calls Try.prog gb #[.int .i64 x, .int .i64 y] W fun e w' => e = .returned (.bool (bt x y)) ∧ W = w') (N : Nat) (zs : List (Nat × Int)) (w : World)
    (hseq : SeqStopsK Fence.wide (n - 1) Try.prog gf lb encP (Below w.heap.size) (fun z => z = zs) (fun _ => True) N w) :
    CallsIn Fence.wide n Try.prog 83 #[.func (.func gf) #[] lb, .func (.func gb) #[] #[]] w fun e w' => e = .returned (.tuple #[.int .i64 (bAt (bestL bt zs)), .int .i64 (bOut (bestL bt zs))]) ∧ Below w.heap.size w w' := by
  have h1 : 1 ≤ n := by omega
  refine callsIn_of_wp_marks Try.func83 rfl trivial ?_ rfl
  simp only [Try.ntmps83, List.size_toArray, List.length_cons, List.length_nil, Nat.reduceAdd, Nat.reduceSub, Array.replicate_succ, Array.replicate_zero, List.push_toArray, List.append_toArray, List.nil_append, List.cons_append]
  gi_wp2
  have hB0 : Below w.heap.size w ((((w.alloc (Obj.cells #[Value.func (Fn.func gb) #[] #[]] 105)).alloc (Obj.cells #[Value.int IntKind.i64 0] 3)).alloc (Obj.cells #[Value.int IntKind.i64 0] 3)).alloc (Obj.cells #[Value.bool false] 4)) :=
    ((((Below.refl _ w).alloc (Nat.le_refl _) _).alloc (by simp) _).alloc (by simp; omega) _).alloc (by simp; omega) _
  refine wpIn_rangeFunc_ownF rfl h1 (gf := gf) (lb := lb) rfl trivial eg hseq belowK_t (belowK_b (by simp; omega)) hB0 (fun _ => rfl)
    (fun pre W => BestC w.heap.size gb (bestL bt pre) W ∧ Below w.heap.size w W)
    (fun _ _ _ => False)
    (OwnFrom.and (Own.from (bestC_own _ _ _) _) (ownFrom_below (Nat.le_refl _) (by simp; omega)))
    (fun _ _ _ _ _ hs _ _ => hs)
    ⟨⟨by simp [go_sem], ⟨by simp [go_sem, bestL, bOut], by simp [go_sem]⟩, ⟨by simp [go_sem, bestL, bAt], by simp [go_sem]⟩, ⟨by simp [go_sem, bestL], by simp [go_sem]⟩⟩, hB0⟩
    (fun x => { tmps := #[.func (.func gf) #[] lb, .func (.func gb) #[] #[], undef, .pointer (some ⟨w.heap.size, 0, none⟩), .int .i64 0, .int .i64 0, .pointer (some ⟨w.heap.size + 1, 0, none⟩), .pointer (some ⟨w.heap.size + 1 + 1, 0, none⟩), .pointer (some ⟨w.heap.size + 1 + 1 + 1, 0, none⟩),
      .int .i64 (x.1 : Int), .int .i64 x.2, .func (.func gf) #[] lb, .int .i64 (x.1 : Int), .int .i64 x.2, undef, undef, undef, undef, undef, undef, undef, undef, undef, undef, undef, undef], defers := [] }) ?assign ?body ?done ?stop
  case assign =>
    intro l x W K hK
    gi_wp2
    exact hK
  case body =>
    rintro l pre x W ⟨hC, hB⟩ _
    have hd : 1 ≤ n - 1 - 1 := by omega
    have K1 : KeepsOthers W (((W.setCell ⟨w.heap.size + 1 + 1, 0, none⟩ (.int .i64 x.1)).setCell ⟨w.heap.size + 1, 0, none⟩ (.int .i64 x.2)).setCell ⟨w.heap.size + 1 + 1 + 1, 0, none⟩ (.bool true)) :=
      ((KeepsOthers.setCell _ _ _).trans (KeepsOthers.setCell _ _ _)).trans (KeepsOthers.setCell _ _ _)
    have B1 : Below w.heap.size W (((W.setCell ⟨w.heap.size + 1 + 1, 0, none⟩ (.int .i64 x.1)).setCell ⟨w.heap.size + 1, 0, none⟩ (.int .i64 x.2)).setCell ⟨w.heap.size + 1 + 1 + 1, 0, none⟩ (.bool true)) :=
      (((Below.refl _ W).setCell (by show w.heap.size ≤ w.heap.size + 1 + 1; omega) _).setCell (by show w.heap.size ≤ w.heap.size + 1; omega) _).setCell (by show w.heap.size ≤ w.heap.size + 1 + 1 + 1; omega) _
    have HS := Lib.hid (And.intro K1 (And.intro B1 (bestC_stored hC x)))
    have hsn := bestL_snoc bt pre x
    have HB := Lib.hid hB
    have HC := Lib.hid hC
    obtain ⟨c0, ⟨c1, f1⟩, ⟨c2, f2⟩, ⟨c3, f3⟩⟩ := hC
    clear K1 B1 hseq hB0 hB
    cases hbest : bestL bt pre with
    | none =>
      rw [hbest] at c1 c2 c3 hsn
      simp only [Option.isSome] at c3
      dsimp only at hsn
      have HE := Lib.hid hsn
      clear hbest hsn hb eb eg
      gi_wp2
      all_goals
        refine ⟨fun _ h => (by cases h), ?_⟩
        gi_wp2
        refine ⟨HS.out.1, HS.out.2.1, ?_, HB.out.trans HS.out.2.1⟩
        rw [HE.out]
        exact HS.out.2.2
    | some y =>
      rw [hbest] at c1 c2 c3 hsn HC
      simp only [Option.isSome, bOut] at c1 c3
      dsimp only at hsn
      clear hbest eg
      cases hq : bt x.2 y.2
      · rw [hq] at hsn
        simp only [Bool.false_eq_true, if_false] at hsn
        have HE := Lib.hid hsn
        have hc : CallsIn (Fence.wide.inRound l) (n - 1 - 1 - 1) Try.prog gb #[.int .i64 x.2, .int .i64 y.2] W fun e w' => e = .returned (.bool false) ∧ W = w' := CallsIn.inRound l (callsIn_wide.2 (by have := hb x.2 y.2 W; rwa [hq] at this))
        clear hsn hb hq
        gi_wp2_with (refine ⟨trivial, ?_⟩; gi_at_fn gb; refine hc.mono ?_; rintro e w' ⟨rfl, rfl⟩)
        refine ⟨KeepsOthers.refl _, Below.refl _ _, ?_, HB.out⟩
        rw [HE.out]
        exact HC.out
      · rw [hq] at hsn
        simp only [if_true] at hsn
        have HE := Lib.hid hsn
        have hc : CallsIn (Fence.wide.inRound l) (n - 1 - 1 - 1) Try.prog gb #[.int .i64 x.2, .int .i64 y.2] W fun e w' => e = .returned (.bool true) ∧ W = w' := CallsIn.inRound l (callsIn_wide.2 (by have := hb x.2 y.2 W; rwa [hq] at this))
        clear hsn hb hq
        gi_wp2_with (refine ⟨trivial, ?_⟩; gi_at_fn gb; refine hc.mono ?_; rintro e w' ⟨rfl, rfl⟩)
        refine ⟨HS.out.1, HS.out.2.1, ?_, HB.out.trans HS.out.2.1⟩
        rw [HE.out]
        exact HS.out.2.2
  case done =>
    rintro D ys W hD rfl ⟨⟨c0, ⟨c1, f1⟩, ⟨c2, f2⟩, ⟨c3, f3⟩⟩, hB⟩ hK
    gi_wp2
    gi_region
    all_goals gi_wp2
    all_goals
      refine ⟨by simp, .inl ⟨_, _, rfl, run_takeDeferred hK, ?_⟩⟩
      exact ⟨_, results_tmp2 rfl _ _ _, rfl, (hB.drew).trans (belowK_b (w := w) (Nat.le_refl _) W.drew D _ _ (by simp at hD; omega) hK rfl rfl)⟩
  case stop =>
    rintro D c pre W _ _ h _
    exact h.elim
end Go.Proofs.Ytknkneccnhgjmaa
