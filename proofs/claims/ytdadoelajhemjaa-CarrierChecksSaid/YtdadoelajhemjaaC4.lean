/- Walks: the specification's within, flows. -/
import Derived.Test.YtdadoelajhemjaaM12
namespace Go.Proofs.Ytdadoelajhemjaa
open Go.RowKit Go.Shelf

section
variable {P : Program} {l : List Oper} {Q : Exit → Act → World → Prop} {md : Region.Mode} {S : Nat → World → Prop} {kp : Nat → Nat → Bool}
/-- The same as wpAnyK_takeL, its four looks told as one. -/
theorem kt (k : Nat) {i : Nat} {oi : Oper} {v : Value} {fuel : Nat} {listed : Array Bool} {a : Act} {w : World} (hi : l[i]? = some oi)
  (hb : (Region.noSelect l.toArray && Region.free md l.toArray listed i && (Region.ready md l.toArray listed).contains i && keepsB md l.toArray kp i k) = true)
  (hQ : ∀ c a w, Q (.panic c) (a.put oi.dst v) w → Q (.panic c) a w) (hS : S k w) (hy : YieldsIf P l.toArray (S k) oi v a)
  (h : wpAnyK P md l.toArray Q S kp fuel (listed.setIfInBounds i true) (a.put oi.dst v) w) : wpAnyK P md l.toArray Q S kp (fuel + 1) listed a w := by
 simp only [Bool.and_eq_true] at hb
 exact wpAnyK_takeL k hi hb.1.1.1 hb.1.1.2 hb.1.2 hb.2 hQ hS hy h
end
theorem rWithin_any (n lo hi : Int) (w : World) : Calls Try.prog 110 #[.int .i64 n, .int .i64 lo, .int .i64 hi] w fun e w' => e = .returned (.bool (withinB n lo hi)) ∧ Below w.heap.size w w' := by
 by_cases h1 : lo ≤ n <;> by_cases h2 : n ≤ hi
 all_goals
  go_enter Try.func110, Try.ntmps110
  go_wp2
  go_ret
  exact ⟨by simp [withinB, h1, h2], Below.refl _ _⟩
set_option maxHeartbeats 800000 in
theorem rFlows_any (lo hi : Int) (w : World) : Calls Try.prog 137 #[.agg #[.int .i64 lo, .int .i64 hi]] w fun e w' => e = .returned (.bool (spanB lo hi 1048576)) ∧ Below w.heap.size w w' := by
 have HB := hd2 ((Below.refl _ w).alloc (Nat.le_refl _) (.cells #[.int .i64 lo, .int .i64 hi] 40)) (blk_new w #[.int .i64 lo, .int .i64 hi] 40 rfl)
 have g : spanB lo hi 1048576 = (decide (0 ≤ lo) && decide (lo ≤ hi) && decide (hi ≤ 1048576)) := by unfold spanB; simp [Bool.decide_and, Bool.and_assoc]
 rw [g]
 clear g
 by_cases h1 : 0 ≤ lo
 ·by_cases h2 : lo ≤ hi
  ·by_cases h3 : hi ≤ 1048576
   ·rw [decide_eq_true h1, decide_eq_true h2, decide_eq_true h3]
    go_enter Try.func137, Try.ntmps137
    go_upto_region 1 with fail
    generalize w.alloc (.cells #[.int .i64 lo, .int .i64 hi] 40) = w1 at *
    have p0 := cr 0 HB.out.2
    have p1 := cr 1 HB.out.2
    go_wp2
    go_ret
    exact ⟨rfl, HB.out.1⟩
   ·rw [decide_eq_true h1, decide_eq_true h2, decide_eq_false h3]
    go_enter Try.func137, Try.ntmps137
    go_upto_region 1 with fail
    generalize w.alloc (.cells #[.int .i64 lo, .int .i64 hi] 40) = w1 at *
    have p0 := cr 0 HB.out.2
    have p1 := cr 1 HB.out.2
    go_wp2
    go_ret
    exact ⟨rfl, HB.out.1⟩
  ·rw [decide_eq_true h1, decide_eq_false h2]
   go_enter Try.func137, Try.ntmps137
   go_upto_region 1 with fail
   generalize w.alloc (.cells #[.int .i64 lo, .int .i64 hi] 40) = w1 at *
   have p0 := cr 0 HB.out.2
   have p1 := cr 1 HB.out.2
   go_wp2
   go_ret
   exact ⟨rfl, HB.out.1⟩
 ·rw [decide_eq_false h1]
  go_enter Try.func137, Try.ntmps137
  go_upto_region 1 with fail
  generalize w.alloc (.cells #[.int .i64 lo, .int .i64 hi] 40) = w1 at *
  have p0 := cr 0 HB.out.2
  have p1 := cr 1 HB.out.2
  go_wp2
  go_ret
  exact ⟨rfl, HB.out.1⟩
end Go.Proofs.Ytdadoelajhemjaa
