/- Walks: Stored. -/
import Derived.Test.YtknkneccnhgjmaaC5
import Derived.RangeFuncNested
import Derived.RangeFuncBound
import Derived.RangeFuncCalls
import Derived.RangeFuncLeaves
import Derived.RangeFuncFrom
import Derived.OwnWalkIn
import Derived.TacticsInMore
import Derived.LoopNIn
import Derived.LoopIn
import Derived.RegionIn
import Derived.Shelf.AbstractIn
import Derived.Laws.EntriesVeiled
namespace Go.Proofs.Ytknkneccnhgjmaa
open Go.RowKit Go.Shelf
attribute [local go_sem] Oper.semAt_some

theorem eg90 : ∀ args w, (callFunc 90 args).run Try.prog w = .ok (.enter 90 args) w := enters_of Try.func90 (by kernel_rfl) rfl
theorem eg106 : ∀ args w, (callFunc 106 args).run Try.prog w = .ok (.enter 106 args) w := enters_of Try.func106 (by kernel_rfl) rfl

set_option maxRecDepth 100000 in
set_option maxHeartbeats 2000000 in
theorem stored1_in (n : Nat) (hn : 2 ≤ n) (l n₀ B1 B2 : Nat) (A1 A2 : Option Addr) (c1 c2 : Nat) (xs ys : List Int) (J Jx : List (Nat × Int) → World → Prop)
    (hY : ∀ pre x W, J pre W → pre.length < xs.length → YieldAt Fence.wide (n - 1) Try.prog l (encP x) W fun e W' =>
      (e = .returned (.bool true) ∧ J (pre ++ [x]) W' ∧ Below n₀ W W') ∨ (e = .returned (.bool false) ∧ Jx (pre ++ [x]) W'))
    (hJd : ∀ s W W', J s W → Below W.heap.size W W' → J s W') (w W : World) (hn0 : w.heap.size ≤ n₀) (hw : Below w.heap.size w W)
    (l1 : B1 < w.heap.size) (l2 : B2 < w.heap.size) (f1 : w.cell? ⟨B1, 0, none⟩ = some (.slice A1 xs.length c1)) (f2 : w.cell? ⟨B2, 0, none⟩ = some (.func (.func 90) #[.agg #[.slice A1 xs.length c1, .slice A2 ys.length c2]] #[]))
    (r1 : Rd w w.heap.size A1 xs) (r2 : Rd w w.heap.size A2 ys) (h3 : ys.length = xs.length) (hm : xs.length ≤ 1000) (sx : Small xs) (sy : Small ys) (h0 : J [] W) :
    CallsIn Fence.wide n Try.prog 106 #[.func (.yield l) #[] #[], .pointer (some ⟨B1, 0, none⟩), .pointer (some ⟨B2, 0, none⟩)] W fun e W' => (∃ v, e = .returned v) ∧
      ((∃ zs, zs = came (fun s => (s, nth xs s - nth ys s)) xs.length ∧ J zs W') ∨ (∃ pre, True ∧ Jx pre W')) := by
  have f1' := (hw.cell (p := ⟨B1, 0, none⟩) l1).trans f1
  refine callsIn_of_wp Try.func106 rfl trivial ?_ rfl
  simp only [Try.ntmps106, List.size_toArray, List.length_cons, List.length_nil, Nat.reduceAdd, Nat.reduceSub, Array.replicate_succ, Array.replicate_zero, List.push_toArray, List.append_toArray, List.nil_append, List.cons_append]
  gi_wp2
  gi_loopw [8] (fun i wr => ∃ k : Nat, k ≤ xs.length ∧ i = .int .i64 k ∧ J (came (fun s => (s, nth xs s - nth ys s)) k) wr ∧ Below w.heap.size w wr)
    (fun i _ => xs.length - (intOf i).toNat)
  case atStart => exact ⟨0, Nat.zero_le _, rfl, h0, hw⟩
  case round =>
    obtain ⟨k, hk, rfl, hJs, hnx⟩ := hrel
    by_cases hlt : k < xs.length
    · have hltz : (k : Int) < (xs.length : Int) := by omega
      have q2 := (hnx.cell (p := ⟨B2, 0, none⟩) l2).trans f2
      have hL : CallsIn Fence.wide (n - 1) Try.prog 90 #[.agg #[.slice A1 xs.length c1, .slice A2 ys.length c2], .int .i64 (k : Int)] wr fun e w' => e = .returned (.int .i64 (nth xs k - nth ys k)) ∧ Below wr.heap.size wr w' :=
        callsIn_wide.2 (lies_any k A1 A2 c1 c2 xs ys wr (r1.ext hnx) (r2.ext hnx) hlt (by omega) sx sy)
      rw [h3] at hL q2
      have HY := Lib.hid (And.intro hY (And.intro hJd (And.intro hJs hnx)))
      have HL := Lib.hid hL
      clear hL hJs hnx hY hJd f1 f2 r1 r2 f1'
      gi_wp2_with (refine ⟨trivial, fun _ => by omega, HL.out.mono ?_⟩; rintro e w2 ⟨rfl, hb2⟩)
      obtain ⟨fn, tmps, assign, body, hy, hR⟩ := HY.out.1 _ (k, nth xs k - nth ys k) w2 (HY.out.2.1 _ _ _ HY.out.2.2.1 hb2) (by rw [came_length]; exact hlt)
      dsimp only [encP] at hy
      gi_wp2
      rw [hy]
      gi_wp2
      refine ⟨fun _ => by omega, hR.mono ?_⟩
      rintro e W3 (⟨rfl, hJ3, hk3⟩ | ⟨rfl, hJx3⟩)
      · gi_wp2
        go_roundw
        case rel => exact ⟨k + 1, by omega, by simp, by rw [came_succ]; exact hJ3, HY.out.2.2.2.trans ((hb2.mono HY.out.2.2.2.size).trans (hk3.mono hn0))⟩
        case measure => simp [intOf]; omega
      · gi_wp2
        refine bodyPost_ret (results_none rfl _ _ _) rfl ?_
        exact ⟨⟨_, rfl⟩, .inr ⟨_, trivial, hJx3⟩⟩
    · have hltz : ¬ (k : Int) < (xs.length : Int) := by omega
      obtain rfl : k = xs.length := by omega
      gi_wp2
      go_end0
      exact ⟨⟨_, rfl⟩, .inl hJs⟩

theorem stored1_stops (n : Nat) (hn : 2 ≤ n) (B1 B2 : Nat) (A1 A2 : Option Addr) (c1 c2 : Nat) (xs ys : List Int) (w : World)
    (l1 : B1 < w.heap.size) (l2 : B2 < w.heap.size) (f1 : w.cell? ⟨B1, 0, none⟩ = some (.slice A1 xs.length c1)) (f2 : w.cell? ⟨B2, 0, none⟩ = some (.func (.func 90) #[.agg #[.slice A1 xs.length c1, .slice A2 ys.length c2]] #[]))
    (r1 : Rd w w.heap.size A1 xs) (r2 : Rd w w.heap.size A2 ys) (h3 : ys.length = xs.length) (hm : xs.length ≤ 1000) (sx : Small xs) (sy : Small ys) :
    SeqStopsK Fence.wide n Try.prog 106 #[.pointer (some ⟨B1, 0, none⟩), .pointer (some ⟨B2, 0, none⟩)] encP (Below w.heap.size) (fun zs => zs = came (fun s => (s, nth xs s - nth ys s)) xs.length) (fun _ => True) xs.length w :=
  fun l J Jx W hW hJ _ hY h0 => stored1_in n hn l w.heap.size B1 B2 A1 A2 c1 c2 xs ys J Jx hY (fun s V V' h hb => hJ s V V' none h ⟨hb.os, hb.tape, hb.output, hb.size, fun i hi _ => hb.block i hi⟩ (fun _ e => by cases e)) w W (Nat.le_refl _) hW l1 l2 f1 f2 r1 r2 h3 hm sx sy h0

theorem lt_alloc {w : World} {o : Obj} {n : Nat} (h : n < w.heap.size + 1) : n < (w.alloc o).heap.size := by simpa using h
def gtB (a b : Int) : Bool := decide (a > b)
/-- The first step at which the most lies in a reach, and how much does. -/
def liesAt (xs ys : List Int) (t : Nat) : Int := nth xs t - nth ys t
def mostAt (xs ys : List Int) : Nat := argb gtB (liesAt xs ys) (xs.length - 1)
theorem bestLies_any (B1 B2 : Nat) (A1 A2 : Option Addr) (c1 c2 : Nat) (xs ys : List Int) (w : World)
    (l1 : B1 < w.heap.size) (l2 : B2 < w.heap.size) (f1 : w.cell? ⟨B1, 0, none⟩ = some (.slice A1 xs.length c1)) (f2 : w.cell? ⟨B2, 0, none⟩ = some (.func (.func 90) #[.agg #[.slice A1 xs.length c1, .slice A2 ys.length c2]] #[]))
    (r1 : Rd w w.heap.size A1 xs) (r2 : Rd w w.heap.size A2 ys) (h3 : ys.length = xs.length) (h1 : 1 ≤ xs.length) (hm : xs.length ≤ 1000) (sx : Small xs) (sy : Small ys) :
    Calls Try.prog 83 #[.func (.func 106) #[] #[.pointer (some ⟨B1, 0, none⟩), .pointer (some ⟨B2, 0, none⟩)], .func (.func 107) #[] #[]] w
      fun e w' => e = .returned (.tuple #[.int .i64 (mostAt xs ys), .int .i64 (liesAt xs ys (mostAt xs ys))]) ∧ Below w.heap.size w w' := by
  have h := callsIn_wide.1 (best_in 3 (by omega) 106 _ eg106 107 gtB eg107 (fun x y W => gt_any x y W) xs.length _ w (stored1_stops 2 (by omega) B1 B2 A1 A2 c1 c2 xs ys w l1 l2 f1 f2 r1 r2 h3 hm sx sy))
  have e : bestL gtB (came (fun s => (s, nth xs s - nth ys s)) (xs.length - 1 + 1)) = some (mostAt xs ys, liesAt xs ys (mostAt xs ys)) := bestL_came gtB (liesAt xs ys) (xs.length - 1)
  rw [show xs.length - 1 + 1 = xs.length by omega] at e
  rw [e] at h
  exact h

set_option maxRecDepth 100000 in
set_option maxHeartbeats 800000 in
theorem Stored_any (A1 A2 : Option Addr) (c1 c2 : Nat) (xs ys : List Int) (w : World) (r1 : Rd w w.heap.size A1 xs) (r2 : Rd w w.heap.size A2 ys) (m1 : xs.length ≤ maxLen) (m2 : ys.length ≤ maxLen) :
    Calls Try.prog 43 #[.agg #[.slice A1 xs.length c1], .agg #[.slice A2 ys.length c2]] w fun e w' => e = .returned (.tuple #[.int .i64 (if flowE xs ys = 0 then liesAt xs ys (mostAt xs ys) else 0), .int .i64 (if flowE xs ys = 0 then mostAt xs ys else 0), .int .i64 (flowE xs ys)]) ∧ Below w.heap.size w w' := by
  have hb0 := w2b_below w A1 A2 xs.length c1 ys.length c2
  have hr := flowing_any A1 A2 c1 c2 xs ys (w2b w A1 A2 xs.length c1 ys.length c2) (r1.ext hb0) (r2.ext hb0) m1 m2
  rw [w2b_size] at hr
  by_cases hz : flowE xs ys = 0
  · have hok : ok2 xs ys = true := by
      unfold flowE at hz
      cases h : ok2 xs ys
      · rw [h] at hz; simp at hz
      · rfl
    have ⟨v1, v2, h3⟩ := ok2_iff.1 hok
    rw [if_pos hz, if_pos hz, hz]
    rw [hz] at hr
    have HR := Lib.hid (And.intro hr (And.intro r1 (And.intro r2 (And.intro v1 (And.intro v2 h3)))))
    clear hr r1 r2 hb0 hz hok v1 v2 h3
    go_enter Try.func43, Try.ntmps43
    go_wp2_with (first
      | (go_at_call 105; refine HR.out.1.mono ?_; rintro e w1 ⟨rfl, hb⟩; obtain ⟨p1, p2, HI⟩ := w2b_after HR.out.2.1 HR.out.2.2.1 hb)
      | (go_at_call 83; refine (bestLies_any w.heap.size w1.heap.size A1 A2 c1 c2 xs ys _ (lt_alloc (Nat.lt_succ_of_lt (Nat.lt_of_succ_lt HI.size))) (lt_alloc (Nat.lt_succ_self _)) ((World.cell?_alloc_lt w1 _ ⟨w.heap.size, 0, none⟩ (Nat.lt_of_succ_lt HI.size)).trans p1) (by simp [go_sem])
          (HI.r1.ext ((Below.refl _ _).alloc (Nat.le_refl _) _)) (HI.r2.ext ((Below.refl _ _).alloc (Nat.le_refl _) _)) HR.out.2.2.2.2.2 HR.out.2.2.2.1.1 (by have := HR.out.2.2.2.1.2.1; omega) HR.out.2.2.2.1.small HR.out.2.2.2.2.1.small).mono ?_; rintro e w2 ⟨rfl, hb2⟩))

    go_ret3
    exact ⟨rfl, HI.below.trans ((((Below.refl _ w1).alloc (Nat.le_refl _) _).trans (hb2.mono (by simp))).mono HI.below.size)⟩
  · rw [if_neg hz, if_neg hz]
    have hne : (flowE xs ys != 0) = true := by simpa using hz
    have HR := Lib.hid (And.intro hr (And.intro r1 r2))
    clear hr r1 r2 hb0 hz
    generalize flowE xs ys = E at *
    go_enter Try.func43, Try.ntmps43
    go_wp2_with (first | (go_at_call 105; refine HR.out.1.mono ?_; rintro e w1 ⟨rfl, hb⟩; obtain ⟨p1, p2, HI⟩ := w2b_after HR.out.2.1 HR.out.2.2 hb))

    go_ret3
    exact ⟨rfl, HI.below⟩
end Go.Proofs.Ytknkneccnhgjmaa
