/- Words for memory, plain: a slice of ints that reads as a list; a region that draws its order, whose callees may lay blocks. No program here. | Walks: within, isNaN, Less, IsSorted, Check. | Walks: slices.Clone, each. | Walk: each. | Walks: the closures that read captured curves. | Walks: fails's closure, Left's closure, steps, IndexFunc, ContainsFunc at ints. | Walks: Left's closure. | A region that draws its order, all of whose operations but a tail only read, and whose tail runs in one order: inside the wide fence. No program here. | Walks: divided's closure as an iterator. | Walks: divided, join's closure, lower, lead, join, bounded. | Walks: lower, lead, join. -/
import Derived.WalkKit
import Derived.Deep.LoopGhost
import Derived.Deep.QuietTactic
import Derived.BigQuiet
import Derived.Lib.Hide
import Derived.Test.YtknkneccnhgjmaaProg
import Derived.Maps.AppendAt
import Derived.Lib.SliceRun
import Derived.Shelf.Abstract
import Derived.StillTailTactics
import Derived.OrdersIn
import Derived.TacticsIn
import Derived.TacticsInMore
import Derived.RangeFuncNested
import Derived.RangeFuncBound
import Derived.RangeFuncCalls
import Derived.RangeFuncLeaves
import Derived.RangeFuncFrom
import Derived.OwnWalkIn
import Derived.LoopNIn
import Derived.LoopIn
import Derived.RegionIn
import Derived.Shelf.AbstractIn
namespace Go.Proofs.Ytknkneccnhgjmaa
open Go.RowKit

/-- The i-th number of a list (0 beyond it): a name that the walk does not open. -/
def nth (xs : List Int) (i : Nat) : Int := xs.getD i 0

/-- The slice '.slice A xs.length c' reads as xs, and lies below block B. -/
def Rd (w : World) (B : Nat) (A : Option Addr) (xs : List Int) : Prop :=
  0 < xs.length → ∃ b off, A = some ⟨b, off, none⟩ ∧ b < B ∧ ∀ i, i < xs.length → w.cell? ⟨b, off + i, none⟩ = some (.int .i64 (nth xs i))

theorem Rd.nil {w : World} {B : Nat} {A : Option Addr} : Rd w B A [] := fun h => absurd h (by simp)
theorem Rd.mono {w : World} {B B' : Nat} {A : Option Addr} {xs : List Int} (h : Rd w B A xs) (hB : B ≤ B') : Rd w B' A xs := fun hn => by
  obtain ⟨b, off, e, hb, hc⟩ := h hn
  exact ⟨b, off, e, by omega, hc⟩
theorem Rd.below {w w' : World} {B n : Nat} {A : Option Addr} {xs : List Int} (h : Rd w B A xs) (hb : Below n w w') (hB : B ≤ n) : Rd w' B A xs := fun hn => by
  obtain ⟨b, off, e, hb', hc⟩ := h hn
  exact ⟨b, off, e, hb', fun i hi => (hb.cell (p := ⟨b, off + i, none⟩) (by show b < n; omega)).trans (hc i hi)⟩

/-- The slice lies in a block from L on. -/
def Fresh (L : Nat) (A : Option Addr) : Prop := ∀ ad, A = some ad → L ≤ ad.block
theorem Fresh.mono {L L' : Nat} {A : Option Addr} (h : Fresh L A) (hL : L' ≤ L) : Fresh L' A := fun ad e => Nat.le_trans hL (h ad e)

theorem Rd.setCell {w : World} {B : Nat} {A : Option Addr} {xs : List Int} (h : Rd w B A xs) {p : Addr} (hp : ∀ ad, A = some ad → ad.block ≠ p.block) (v : Value) : Rd (w.setCell p v) B A xs := fun hn => by
  obtain ⟨b, off, e, hb, hc⟩ := h hn
  exact ⟨b, off, e, hb, fun i hi => (World.cell?_setCell_other w p ⟨b, off + i, none⟩ v (fun e' => hp _ e (by rw [e']))).trans (hc i hi)⟩

/-- What a world that has kept all below B gives as rules. -/
theorem bcell {B : Nat} {w w1 : World} (hb : Below B w w1) : (∀ b o, b < B → w1.cell? ⟨b, o, none⟩ = w.cell? ⟨b, o, none⟩) ∧ (∀ b o, b < B → w1.frozen? ⟨b, o, none⟩ = w.frozen? ⟨b, o, none⟩) :=
  ⟨fun b o h => hb.cell (p := ⟨b, o, none⟩) h, fun b o h => hb.frozen (p := ⟨b, o, none⟩) h⟩

theorem ret_int {k : IntKind} {a b : Int} (h : a = b) : Ending.returned (.int k a) = .returned (.int k b) := by rw [h]
theorem int_eq {k : IntKind} {a b : Int} (h : a = b) : Value.int k a = Value.int k b := by rw [h]
theorem ret_bool {a b : Bool} (h : a = b) : Ending.returned (.bool a) = .returned (.bool b) := by rw [h]

/-- A region that draws its order, of whose operations each only reads or calls a function that keeps all that lay (it may lay blocks): ONE walk in the text's order, in worlds 'X k' of which 'Below' is known; behind it the world is a variable of which 'Below' is known. -/
theorem wp_region_ext {P : Program} {id : Nat} {Q : Exit → Act → World → Prop} {a : Act} {w : World} {l : List Oper} (hm : P.follows .mixedOrders = true) (hB : Region.lexB .any l.toArray = true)
    (h : ∀ (ι : Type) (_ : Nonempty ι) (X : ι → World), (∀ k, Below w.heap.size w (X k)) → (∀ w', Below w.heap.size w w' → ∃ k, w' = X k) →
      wpQuiet P l.toArray (fun w' => ∃ k, w' = X k) (fun a' => ∀ w', Below w.heap.size w w' → Q .normal a' w') l a) : (Code.region id l.toArray true).wp P Q a w := by
  have h1 := h { w' : World // Below w.heap.size w w' } ⟨⟨w, Below.refl _ _⟩⟩ Subtype.val (fun k => k.2) (fun w' hw => ⟨⟨w', hw⟩, rfl⟩)
  refine wp_region_quiet (C := fun w' => ∃ k : { w' : World // Below w.heap.size w w' }, w' = k.1) hm hB ⟨⟨_, (Below.refl _ w).drew⟩, rfl⟩ ?_
  have e : (fun a' => ∀ w', (∃ k : { w' : World // Below w.heap.size w w' }, w' = k.1) → Q .normal a' w') = (fun a' => ∀ w', Below w.heap.size w w' → Q .normal a' w') := by
    funext a'
    exact propext ⟨fun h w' hw => h w' ⟨⟨w', hw⟩, rfl⟩, fun h w' ⟨k, hk⟩ => h w' (hk ▸ k.2)⟩
  rw [e]
  simpa using h1

/-- A callee's contract, met in the world 'X k'. -/
theorem Calls.ext_of {P : Program} {f : FuncId} {args : Array Value} {w : World} {ι : Type} {X : ι → World} (hX : ∀ k, Below w.heap.size w (X k)) (hC : ∀ w', Below w.heap.size w w' → ∃ k, w' = X k) {k : ι} {v : Value}
    (h : Calls P f args (X k) fun e w' => e = .returned v ∧ Below (X k).heap.size (X k) w') : Calls P f args (X k) fun e w'' => e = .returned v ∧ ∃ k', w'' = X k' :=
  h.mono fun _ _ ⟨he, hb⟩ => ⟨he, hC _ ((hX k).trans (hb.mono (hX k).size))⟩
/-- .. of one that leaves the world alone. -/
theorem Calls.ext_same {P : Program} {f : FuncId} {args : Array Value} {ι : Type} {X : ι → World} {k : ι} {v : Value}
    (h : Calls P f args (X k) fun e w' => e = .returned v ∧ X k = w') : Calls P f args (X k) fun e w'' => e = .returned v ∧ ∃ k', w'' = X k' :=
  h.mono fun _ _ ⟨he, hb⟩ => ⟨he, k, hb.symm⟩

end Go.Proofs.Ytknkneccnhgjmaa
namespace Go.Proofs.Ytknkneccnhgjmaa
open Go.RowKit

def withinB (n lo hi : Int) : Bool := decide (lo ≤ n ∧ n ≤ hi)

theorem within_any (n lo hi : Int) (w : World) : Calls Try.prog 69 #[.int .i64 n, .int .i64 lo, .int .i64 hi] w fun e w' => e = .returned (.bool (withinB n lo hi)) ∧ w = w' := by
  by_cases h1 : lo ≤ n <;> by_cases h2 : n ≤ hi
  all_goals
    go_enter Try.func69, Try.ntmps69
    go_wp2
    go_ret
    exact ⟨by simp [withinB, h1, h2], rfl⟩

theorem less_any (x y : Int) (w : World) : Calls Try.prog 119 #[.int .i64 x, .int .i64 y] w fun e w' => e = .returned (.bool (decide (x < y))) ∧ w = w' := by
  go_enter Try.func119, Try.ntmps119
  go_wp2
  go_ret
  exact ⟨rfl, rfl⟩

/-- No number is less than the one before it. -/
def Mono (xs : List Int) : Prop := ∀ i, i + 1 < xs.length → nth xs i ≤ nth xs (i + 1)
def sortedB (xs : List Int) : Bool := (List.range (xs.length - 1)).all fun i => decide (nth xs i ≤ nth xs (i + 1))
theorem sortedB_iff (xs : List Int) : sortedB xs = true ↔ Mono xs := by
  unfold sortedB Mono
  rw [List.all_eq_true]
  constructor
  · intro h i hi
    simpa using h i (by rw [List.mem_range]; omega)
  · intro h i hi
    rw [List.mem_range] at hi
    simpa using h i (by omega)

set_option maxHeartbeats 400000 in
theorem sorted_any (A : Option Addr) (c : Nat) (xs : List Int) (w : World) (h : Rd w w.heap.size A xs) (hm : xs.length ≤ maxLen) :
    Calls Try.prog 82 #[.slice A xs.length c] w fun e w' => e = .returned (.bool (sortedB xs)) ∧ Below w.heap.size w w' := by
  unfold maxLen at hm
  go_enter Try.func82, Try.ntmps82
  go_wp2
  go_loopw [3] (fun i wr => ∃ k : Int, k < xs.length ∧ -1 ≤ k ∧ i = .int .i64 k ∧ Aside (∀ j : Nat, k ≤ j → j + 1 < xs.length → nth xs j ≤ nth xs (j + 1)) ∧ Below w.heap.size w wr) (fun i _ => (intOf i + 1).toNat)
  case atStart => exact ⟨_, by omega, by omega, rfl, fun j hj hj2 => by omega, Below.refl _ _⟩
  case round =>
    obtain ⟨k, hk, hk0, rfl, hA, hb⟩ := hrel
    by_cases hlt : 0 < k
    · obtain ⟨n, rfl⟩ : ∃ n : Nat, k = n + 1 := ⟨(k - 1).toNat, by omega⟩
      obtain ⟨b, off, rfl, hlb, hc⟩ := h (by omega)
      obtain ⟨rc, rf⟩ := bcell hb
      have c1 := hc (n + 1) (by omega)
      have c2 := hc n (by omega)
      clear hc h
      go_wp2
      refine wp_region_ext (by kernel_rfl) (by kernel_rfl) ?_
      intro ι _ X hX hC
      have e1 : ∀ k, (X k).cell? ⟨b, off + (n + 1), none⟩ = some (.int .i64 (nth xs (n + 1))) := fun k => ((hX k).cell (p := ⟨b, off + (n + 1), none⟩) (by have := hb.size; show b < _; omega)).trans (by rw [rc _ _ hlb]; exact c1)
      have e2 : ∀ k, (X k).cell? ⟨b, off + n, none⟩ = some (.int .i64 (nth xs n)) := fun k => ((hX k).cell (p := ⟨b, off + n, none⟩) (by have := hb.size; show b < _; omega)).trans (by rw [rc _ _ hlb]; exact c2)
      repeat (first | go_big_quiet_skip | (go_big_quiet_want; go_big_quiet_op; first | go_big_quiet_on | (apply Exists.intro; refine ⟨fun _ => ?_, ?_⟩; (focus (go_at_call 119; exact Calls.ext_same (less_any _ _ _))); go_big_quiet_on)))
      refine wpQuiet_nil ?_
      intro w1 hb1
      clear e1 e2 hX hC
      have hb2 := hb.trans (hb1.mono hb.size)
      go_wp2
      · go_ret
        refine ⟨ret_bool ?_, hb2⟩
        have hlt2 : nth xs (n + 1) < nth xs n := by assumption
        cases hs : sortedB xs
        · rfl
        · have := (sortedB_iff xs).1 hs n (by omega)
          omega
      · have hle2 : nth xs n ≤ nth xs (n + 1) := by assumption
        go_roundw
        case rel => exact ⟨n, by omega, by omega, rfl, fun j hj hj2 => by
          rcases Nat.eq_or_lt_of_le (show n ≤ j by omega) with e | e
          · subst e; exact hle2
          · exact hA.out j (by omega) hj2, hb2⟩
        case measure => simp [intOf]; omega
    · go_wp2
      go_ret
      refine ⟨ret_bool ?_, hb⟩
      exact ((sortedB_iff xs).2 fun i hi => hA.out i (by omega) hi).symm

/-- A valid curve. -/
def Valid (xs : List Int) : Prop := 1 ≤ xs.length ∧ xs.length ≤ 121 ∧ Mono xs ∧ 0 ≤ nth xs 0 ∧ nth xs (xs.length - 1) ≤ 1073741824
def validB (xs : List Int) : Bool := decide (1 ≤ xs.length ∧ xs.length ≤ 121) && sortedB xs && decide (0 ≤ nth xs 0) && decide (nth xs (xs.length - 1) ≤ 1073741824)
theorem validB_iff (xs : List Int) : validB xs = true ↔ Valid xs := by
  unfold validB Valid
  simp only [Bool.and_eq_true, decide_eq_true_eq, sortedB_iff]
  constructor
  · rintro ⟨⟨⟨⟨a, b⟩, c⟩, d⟩, e⟩; exact ⟨a, b, c, d, e⟩
  · rintro ⟨a, b, c, d, e⟩; exact ⟨⟨⟨⟨a, b⟩, c⟩, d⟩, e⟩

/-- The error of a curve: 0 or 1. -/
def errB (b : Bool) : Int := if b then 0 else 1

set_option maxHeartbeats 400000 in
theorem check_any (A : Option Addr) (c : Nat) (xs : List Int) (w : World) (h : Rd w w.heap.size A xs) (hm : xs.length ≤ maxLen) :
    Calls Try.prog 23 #[.agg #[.slice A xs.length c]] w fun e w' => e = .returned (.int .i64 (errB (validB xs))) ∧ Below w.heap.size w w' := by
  have hm' := hm
  unfold maxLen at hm
  by_cases h1 : 1 ≤ xs.length ∧ xs.length ≤ 121
  · obtain ⟨b, off, rfl, hlb, hc⟩ := h (by omega)
    have c1 := hc 0 (by omega)
    rw [Nat.add_zero] at c1
    have c2 := hc (xs.length - 1) (by omega)
    have hw1 : withinB xs.length 1 121 = true := by unfold withinB; rw [decide_eq_true_eq]; omega
    have hlb1 : b < w.heap.size + 1 := by omega
    have HH := Lib.hid h
    clear hc h
    cases hs : sortedB xs
    · have hfin : errB (validB xs) = 1 := by simp [errB, validB, hs]
      have Hfin := Lib.hid hfin
      clear hfin
      go_enter Try.func23, Try.ntmps23
      go_wp2_with (first | (go_at_call 69; refine (within_any _ _ _ _).mono ?_; rintro e w' ⟨rfl, rfl⟩) | (go_at_call 82; refine (sorted_any _ _ xs _ ((HH.out.below ((Below.refl _ _).alloc (Nat.le_refl _) _) (Nat.le_refl _)).mono (by simp)) hm').mono ?_; rintro e w1 ⟨rfl, hb⟩; obtain ⟨rc, rf⟩ := bcell hb))
      go_ret
      exact ⟨by rw [Hfin.out]; rfl, ((Below.refl _ w).alloc (Nat.le_refl _) _).trans (Below.mono (by assumption) (by simp))⟩
    · by_cases h0 : nth xs 0 < 0
      · have hfin : errB (validB xs) = 1 := by simp [errB, validB, hs]; omega
        have Hfin := Lib.hid hfin
        clear hfin
        go_enter Try.func23, Try.ntmps23
        go_wp2_with (first | (go_at_call 69; refine (within_any _ _ _ _).mono ?_; rintro e w' ⟨rfl, rfl⟩) | (go_at_call 82; refine (sorted_any _ _ xs _ ((HH.out.below ((Below.refl _ _).alloc (Nat.le_refl _) _) (Nat.le_refl _)).mono (by simp)) hm').mono ?_; rintro e w1 ⟨rfl, hb⟩; obtain ⟨rc, rf⟩ := bcell hb))
        go_ret
        exact ⟨by rw [Hfin.out]; rfl, ((Below.refl _ w).alloc (Nat.le_refl _) _).trans (Below.mono (by assumption) (by simp))⟩
      · by_cases h9 : 1073741824 < nth xs (xs.length - 1)
        · have hfin : errB (validB xs) = 1 := by simp [errB, validB, hs]; omega
          have Hfin := Lib.hid hfin
          clear hfin
          go_enter Try.func23, Try.ntmps23
          go_wp2_with (first | (go_at_call 69; refine (within_any _ _ _ _).mono ?_; rintro e w' ⟨rfl, rfl⟩) | (go_at_call 82; refine (sorted_any _ _ xs _ ((HH.out.below ((Below.refl _ _).alloc (Nat.le_refl _) _) (Nat.le_refl _)).mono (by simp)) hm').mono ?_; rintro e w1 ⟨rfl, hb⟩; obtain ⟨rc, rf⟩ := bcell hb))
          go_ret
          exact ⟨by rw [Hfin.out]; rfl, ((Below.refl _ w).alloc (Nat.le_refl _) _).trans (Below.mono (by assumption) (by simp))⟩
        · have hfin : errB (validB xs) = 0 := by simp [errB, validB, hs]; omega
          have Hfin := Lib.hid hfin
          clear hfin
          go_enter Try.func23, Try.ntmps23
          go_wp2_with (first | (go_at_call 69; refine (within_any _ _ _ _).mono ?_; rintro e w' ⟨rfl, rfl⟩) | (go_at_call 82; refine (sorted_any _ _ xs _ ((HH.out.below ((Below.refl _ _).alloc (Nat.le_refl _) _) (Nat.le_refl _)).mono (by simp)) hm').mono ?_; rintro e w1 ⟨rfl, hb⟩; obtain ⟨rc, rf⟩ := bcell hb))
          go_ret
          exact ⟨by rw [Hfin.out]; rfl, ((Below.refl _ w).alloc (Nat.le_refl _) _).trans (Below.mono (by assumption) (by simp))⟩
  · have hfin : errB (validB xs) = 1 := by simp [errB, validB, h1]
    have Hfin := Lib.hid hfin
    clear hfin
    have hw1 : withinB xs.length 1 121 = false := by unfold withinB; rw [decide_eq_false_iff_not]; omega
    go_enter Try.func23, Try.ntmps23
    go_wp2_with (first | (go_at_call 69; refine (within_any _ _ _ _).mono ?_; rintro e w' ⟨rfl, rfl⟩))
    go_ret
    exact ⟨by rw [Hfin.out]; rfl, ((Below.refl _ w).alloc (Nat.le_refl _) _)⟩
#print axioms check_any
end Go.Proofs.Ytknkneccnhgjmaa
namespace Go.Proofs.Ytknkneccnhgjmaa
open Go.RowKit

theorem info3 : (Try.prog.info? 3).map (fun i => (i.zero, i.size, i.bytes)) = some (some (.int .i64 0), 1, 8) := by kernel_rfl

/-- A slice of the call's own that holds xs. -/
def Own (w : World) (base : Nat) (v : Value) (xs : List Int) : Prop := w.ownsRow base 3 1 v xs.length (xs.map (Value.int .i64))

theorem nth_map {xs : List Int} {i : Nat} (h : i < xs.length) : (xs.map (Value.int .i64))[i]? = some (.int .i64 (nth xs i)) := by
  rw [List.getElem?_map, List.getElem?_eq_getElem h]
  simp [nth, List.getD, List.getElem?_eq_getElem h]

theorem add_eq (g o i : Nat) : (⟨g, o, none⟩ : Addr).add i = ⟨g, o + i, none⟩ := by unfold Addr.add; split <;> simp_all
theorem map_nth {xs : List Int} {j : Nat} {u : Value} (h : (xs.map (Value.int .i64))[j]? = some u) : j < xs.length ∧ u = .int .i64 (nth xs j) := by
  have hl : j < xs.length := by have := (List.getElem?_eq_some_iff.1 h).1; simpa using this
  rw [nth_map hl] at h
  exact ⟨hl, (Option.some.inj h).symm⟩

theorem Own.rd {w : World} {base : Nat} {v : Value} {xs : List Int} (h : Own w base v xs) : ∃ A c, v = .slice A xs.length c ∧ Rd w w.heap.size A xs ∧ Fresh base A := by
  have h0 := h
  rcases h.2 with ⟨rfl, hn⟩ | ⟨g, cap, cur, rfl, hb, hg, hnc, hcm, hcs, ht⟩
  · refine ⟨none, 0, by rw [hn], fun hl => absurd hl (by omega), fun _ e => by cases e⟩
  · refine ⟨_, _, rfl, fun hl => ⟨g, 0, rfl, (Array.getElem?_eq_some_iff.1 hg).1, fun i hi => ?_⟩, fun ad e => by cases e; exact hb⟩
    have h1 := World.ownsRow.cells h0 (g := g) rfl i _ (nth_map hi)
    rwa [add_eq] at h1

theorem Own.nil (w : World) (base : Nat) : Own w base (.slice none 0 0) [] := World.ownsRow_nil w base 3 1

/-- What a call hands back that returns a slice that reads as xs. -/
def RSlice (w : World) (xs : List Int) (e : Ending) (w' : World) : Prop := ∃ A c, e = .returned (.slice A xs.length c) ∧ Rd w' w'.heap.size A xs ∧ Fresh w.heap.size A ∧ Below w.heap.size w w'
/-- .. a curve. -/
def RCurve (w : World) (xs : List Int) (e : Ending) (w' : World) : Prop := ∃ A c, e = .returned (.agg #[.slice A xs.length c]) ∧ Rd w' w'.heap.size A xs ∧ Fresh w.heap.size A ∧ Below w.heap.size w w'

set_option maxHeartbeats 400000 in
theorem clone_any (b off c : Nat) (xs : List Int) (w : World) (h : Rd w w.heap.size (some ⟨b, off, none⟩) xs) (h0 : 0 < xs.length) (hm : xs.length ≤ 1000) :
    Calls Try.prog 114 #[.slice (some ⟨b, off, none⟩) xs.length c] w fun e w' => RSlice w xs e w' := by
  have q24 : ∀ (w : World) (a : Option Addr) (n c n' c' : Nat), (binOp .eql 24 (.slice a n c) (.slice none n' c')).run Try.prog w = .ok (.bool a.isNone) w := fun w a n c n' c' => Lib.run_eql_slice_nil w _ _ a n c n' c' Try.underlying24
  obtain ⟨i0, hi, hz0, hz1, hz2⟩ := info_parts info3
  go_enter Try.func114, Try.ntmps114
  go_wp2_with (at_builtin; refine wpList_append_own_at _ rfl _ _ 24 rfl (w.heap.size) 3 i0 (.int .i64 0) 1 8 Try.underlying24 hi hz0 hz1 hz2 rfl (by decide) _ 0 [] rfl ?c1 ⟨b, off, none⟩ xs.length c (xs.map (Value.int .i64)) rfl (by simp) ?c2 ?c3 ?c4 ?c5 ?c6 ?_)
  case c1 => exact World.ownsRow_made w #[] 0 (Nat.le_refl _) (by simp) rfl
  case c2 =>
    intro j u hj
    obtain ⟨hl, rfl⟩ := map_nth hj
    obtain ⟨b', off', e, hlb, hc⟩ := h h0
    simp only [Option.some.injEq, Addr.mk.injEq, and_true] at e
    obtain ⟨rfl, rfl⟩ := e
    rw [add_eq, World.cell?_alloc_past _ _ _ hlb]
    exact hc j hl
  case c3 => exact ints_oneCell _ _
  case c4 => unfold maxLen; omega
  case c5 => omega
  case c6 => simp
  intro v' w' hown hgrow _ _
  have hO : Own w' w.heap.size v' xs := hown
  obtain ⟨A, c', rfl, hrd, hfr⟩ := hO.rd
  have hb : Below w.heap.size w w' := (((Below.refl _ w).alloc (Nat.le_refl _) _).grown hgrow (by simp) (by intro k hk; simp [Value.ownBlock] at hk; omega))
  clear hown hgrow
  go_wp2
  go_ret
  exact ⟨A, c', rfl, hrd, hfr, hb⟩
end Go.Proofs.Ytknkneccnhgjmaa
namespace Go.Proofs.Ytknkneccnhgjmaa
open Go.RowKit

/-- All blocks from H on that lay in w lie as they lay; the streams too. -/
structure Above (H : Nat) (w w' : World) : Prop where
  size : w.heap.size ≤ w'.heap.size
  block : ∀ k, H ≤ k → k < w.heap.size → w'.heap[k]? = w.heap[k]?

theorem Above.of_below {H : Nat} {w w' : World} (h : Below w.heap.size w w') : Above H w w' := ⟨h.size, fun k _ hk => h.block k hk⟩
theorem Above.refl (H : Nat) (w : World) : Above H w w := ⟨Nat.le_refl _, fun _ _ _ => rfl⟩
theorem Above.trans {H : Nat} {a b c : World} (h : Above H a b) (k : Above H b c) : Above H a c :=
  ⟨Nat.le_trans h.size k.size, fun i hi hl => (k.block i hi (Nat.lt_of_lt_of_le hl h.size)).trans (h.block i hi hl)⟩

/-- What a function value gives that is asked for numbers, one by one: state 'I t' before it is asked for the t-th. -/
def Tells (g : Nat) (caps : Array Value) (n H : Nat) (F : Nat → Int) (I : Nat → World → Prop) : Prop :=
  (∀ t W W', I t W → Below H W W' → I t W') ∧
  ∀ (t : Nat) (W : World), t < n → I t W → H ≤ W.heap.size → Calls Try.prog g (#[.int .i64 t] ++ caps) W fun e W' => e = .returned (.int .i64 (F t)) ∧ I (t + 1) W' ∧ Above H W W'

theorem row_at {H g t : Nat} {ty : TypeId} {w w1 : World} {cs : Array Value} (h : w.heap[g]? = some (.cells cs ty (0, 0))) (hA : Above H w w1) (hg : H ≤ g) (ht : t < cs.size) :
    w1.heap[g]? = some (.cells cs ty (0, 0)) ∧ (∃ v, w1.cell? ⟨g, t, none⟩ = some v) ∧ w1.frozen? ⟨g, t, none⟩ = false := by
  have h1 : w1.heap[g]? = some (.cells cs ty (0, 0)) := (hA.block g hg (Array.getElem?_eq_some_iff.1 h).1).trans h
  exact ⟨h1, ⟨cs[t], by rw [cell_of_row w1 g t cs ty (0, 0) h1, Array.getElem?_eq_getElem ht]⟩, frozen_of_row w1 g t cs ty h1⟩

def REach (H n : Nat) (F : Nat → Int) (I : Nat → World → Prop) (e : Ending) (w' : World) : Prop :=
  ∃ A c, e = .returned (.agg #[.slice A n c]) ∧ Rd w' w'.heap.size A ((List.range n).map F) ∧ Fresh H A ∧ I n w'

set_option maxHeartbeats 400000 in
theorem each_any (g : Nat) (caps : Array Value) (eg : ∀ args w, (callFunc g args).run Try.prog w = .ok (.enter g args) w) (n : Nat) (h1 : 1 ≤ n) (hn : n ≤ 121) (F : Nat → Int) (I : Nat → World → Prop) (w : World)
    (h0 : I 0 w) (hT : Tells g caps n w.heap.size F I) : Calls Try.prog 71 #[.int .i64 n, .func (.func g) #[] caps] w fun e w' => REach w.heap.size n F I e w' := by
  have hz : Try.zeroCells118.size = 121 := by kernel_rfl
  obtain ⟨hI, hC⟩ := hT
  go_enter Try.func71, Try.ntmps71
  go_wp2_with fail
  go_loopg [8] n (fun gk i wr => ∃ t : Nat, t ≤ n ∧ n - t ≤ gk ∧ i = .int .i64 t ∧ Aside (I t wr) ∧ w.heap.size + 2 ≤ wr.heap.size ∧ wr.heap[w.heap.size]? = some (.cells #[.slice none 0 0] 26 (0, 0)) ∧
      ∃ cs : Array Value, wr.heap[w.heap.size + 1]? = some (.cells cs 118 (0, 0)) ∧ cs.size = 121 ∧ Aside (∀ j, j < t → cs[j]? = some (.int .i64 (F j))))
  case atStart =>
    refine ⟨0, Nat.zero_le _, by omega, rfl, hI 0 _ _ h0 (((Below.refl _ w).alloc (Nat.le_refl _) _).alloc (by simp) _), by simp, heap_alloc2_old _ _ _, Try.zeroCells118, heap_alloc2_new _ _ _, hz, fun j hj => absurd hj (Nat.not_lt_zero _)⟩
  case round =>
    obtain ⟨t, ht, hg, rfl, hIt, hsz, hb0, cs, hcs, hcn, hF⟩ := hrel
    by_cases hlt : t < n
    · have hc := hC t wr hlt hIt.out (by omega)
      have HcI := Lib.hid hI
      have Hcn := Lib.hid hcn
      have Hb0 := Lib.hid hb0
      have Hcs := Lib.hid hcs
      have ht121 : (t : Int) < 121 := by omega
      clear hI hcn hb0 hcs
      go_wp2_with (go_at_fn g; refine hc.mono ?_; rintro e w1 ⟨rfl, hI1, hA1⟩; obtain ⟨h1, ⟨v1, c1⟩, f1⟩ := row_at Hcs.out hA1 (show w.heap.size ≤ w.heap.size + 1 by omega) (show t < cs.size by rw [Hcn.out]; omega); have H1 := Lib.hid h1; clear h1)
      go_roundg (n - (t + 1))
      case measure => omega
      case rel =>
        have hb1 : w1.heap[w.heap.size]? = some (.cells #[.slice none 0 0] 26 (0, 0)) := (hA1.block _ (Nat.le_refl _) (by omega)).trans Hb0.out
        refine ⟨t + 1, by omega, by omega, by go_num, ?_, by rw [World.size_setCell]; have := hA1.size; omega, (heap_setCell_other _ _ _ _ (by simp)).trans hb1, _, heap_setCell_same _ _ _ _ _ _ H1.out, by rw [Array.size_setIfInBounds]; exact Hcn.out, fun j hj => ?_⟩
        · exact HcI.out _ _ _ hI1 ((Below.refl _ _).setCell (by simp) _)
        · rw [Array.getElem?_setIfInBounds]
          split
          · rename_i e; subst e; rw [if_pos (by rw [Hcn.out]; omega)]
          · exact hF.out j (by omega)
    · obtain rfl : t = n := by omega
      have hge : ¬ (t : Int) < (t : Int) := by omega
      have hT1 : (t : Int) ≤ 121 := by omega
      have HF := Lib.hid hF.out
      have hrd : Rd wr wr.heap.size (some ⟨w.heap.size + 1, 0, none⟩) ((List.range t).map F) := fun _ => ⟨_, _, rfl, by omega, fun i hi => by
        have hi' : i < t := by simpa using hi
        rw [Nat.zero_add, cell_of_row wr _ i cs _ _ hcs, HF.out i hi']
        simp [nth, List.getD, hi']⟩
      have hcl := clone_any (w.heap.size + 1) 0 t ((List.range t).map F) wr hrd (by simp; omega) (by simp; omega)
      have c0 : wr.cell? ⟨w.heap.size, 0, none⟩ = some (.slice none 0 0) := by rw [cell_of_row wr _ 0 _ _ _ hb0]; rfl
      have f0 : wr.frozen? ⟨w.heap.size, 0, none⟩ = false := frozen_of_row wr _ 0 _ _ hb0
      simp only [List.length_map, List.length_range] at hcl
      have HI := Lib.hid hI
      clear hcs hb0 hcn hF hI
      go_wp2_with (go_at_call 114; refine hcl.mono ?_)
      rintro e w1 ⟨A, c, rfl, hrd1, hfr1, hb1⟩
      simp only [List.length_map, List.length_range] at *
      have c1 := (hb1.cell (p := ⟨w.heap.size, 0, none⟩) (by show w.heap.size < _; omega)).trans c0
      have f1 := (hb1.frozen (p := ⟨w.heap.size, 0, none⟩) (by show w.heap.size < _; omega)).trans f0
      have hfin : REach w.heap.size t F I (.returned (.agg #[.slice A t c])) (w1.setCell ⟨w.heap.size, 0, none⟩ (.slice A t c)) :=
        ⟨A, c, rfl, by rw [World.size_setCell]; exact hrd1.setCell (fun ad e => by have := hfr1 ad e; show ad.block ≠ w.heap.size; omega) _, hfr1.mono (by omega), HI.out _ _ _ (HI.out _ _ _ hIt.out (hb1.mono (by omega))) ((Below.refl _ w1).setCell (p := ⟨w.heap.size, 0, none⟩) (Nat.le_refl w.heap.size) _)⟩
      have Hfin := Lib.hid hfin
      clear hfin hrd1 hfr1 hb1 hcl hrd
      go_wp2
      exact bodyPost_ret (v := .agg #[.slice A t c]) (by simp [results, Try.results71, go_sem, c1]) rfl Hfin.out
end Go.Proofs.Ytknkneccnhgjmaa
namespace Go.Proofs.Ytknkneccnhgjmaa
open Go.RowKit

/-- The cell ⟨B, o⟩ holds a slice that reads as xs. -/
def Held (w : World) (B o : Nat) (xs : List Int) : Prop := B < w.heap.size ∧ ∃ A c, w.cell? ⟨B, o, none⟩ = some (.slice A xs.length c) ∧ Rd w w.heap.size A xs

theorem Held.below {w w' : World} {B o : Nat} {xs : List Int} (h : Held w B o xs) (hb : Below w.heap.size w w') : Held w' B o xs := by
  obtain ⟨hB, A, c, h1, h2⟩ := h
  exact ⟨Nat.lt_of_lt_of_le hB hb.size, A, c, (hb.cell (p := ⟨B, o, none⟩) hB).trans h1, (h2.below hb (Nat.le_refl _)).mono hb.size⟩

/-- At a place in range: the cells. -/
theorem Held.at {w : World} {B o : Nat} {xs : List Int} (h : Held w B o xs) {t : Nat} (ht : t < xs.length) :
    B < w.heap.size ∧ ∃ b off c, b < w.heap.size ∧ w.cell? ⟨B, o, none⟩ = some (.slice (some ⟨b, off, none⟩) xs.length c) ∧ ∀ i, i < xs.length → w.cell? ⟨b, off + i, none⟩ = some (.int .i64 (nth xs i)) := by
  obtain ⟨hB, A, c, h1, h2⟩ := h
  obtain ⟨b, off, rfl, hb, hc⟩ := h2 (by omega)
  exact ⟨hB, b, off, c, hb, h1, hc⟩

/-- All numbers fit in a wide margin. -/
def Small (xs : List Int) : Prop := ∀ i, -1000000000000000 ≤ nth xs i ∧ nth xs i ≤ 1000000000000000

set_option maxHeartbeats 400000 in
theorem sum1_any (t : Nat) (B1 B2 : Nat) (xs ys : List Int) (w : World) (hx : Held w B1 0 xs) (hy : Held w B2 0 ys) (h1 : t < xs.length) (h2 : t < ys.length) (sx : Small xs) (sy : Small ys) :
    Calls Try.prog 86 #[.int .i64 t, .pointer (some ⟨B1, 0, none⟩), .pointer (some ⟨B2, 0, none⟩)] w fun e w' => e = .returned (.int .i64 (nth xs t + nth ys t)) ∧ Below w.heap.size w w' := by
  obtain ⟨l1, b1, o1, c1, lb1, f1, g1⟩ := hx.at h1
  obtain ⟨l2, b2, o2, c2, lb2, f2, g2⟩ := hy.at h2
  have k1 := g1 t h1
  have k2 := g2 t h2
  obtain ⟨m1, m2⟩ := sx t
  obtain ⟨m3, m4⟩ := sy t
  clear g1 g2 hx hy sx sy
  go_enter Try.func86, Try.ntmps86
  go_wp2
  refine wp_region_ext (by kernel_rfl) (by kernel_rfl) ?_
  intro ι _ X hX hC
  have rX := fun k => (bcell (hX k)).1
  repeat (first | go_big_quiet_skip | (go_big_quiet_want; go_big_quiet_op; first | go_big_quiet_on | (apply Exists.intro; refine ⟨fun _ => ?_, ?_⟩; (focus (fail)); go_big_quiet_on)))
  refine wpQuiet_nil ?_
  intro w1 hb1
  clear rX hX hC
  go_wp2
  go_ret
  exact ⟨rfl, hb1⟩

set_option maxHeartbeats 400000 in
theorem lower1_any (t : Nat) (B1 B2 : Nat) (xs ys : List Int) (w : World) (hx : Held w B1 0 xs) (hy : Held w B2 0 ys) (h1 : t < xs.length) (h2 : t < ys.length) :
    Calls Try.prog 121 #[.int .i64 t, .pointer (some ⟨B1, 0, none⟩), .pointer (some ⟨B2, 0, none⟩)] w fun e w' => e = .returned (.int .i64 (min (nth xs t) (nth ys t))) ∧ Below w.heap.size w w' := by
  obtain ⟨l1, b1, o1, c1, lb1, f1, g1⟩ := hx.at h1
  obtain ⟨l2, b2, o2, c2, lb2, f2, g2⟩ := hy.at h2
  have k1 := g1 t h1
  have k2 := g2 t h2
  clear g1 g2 hx hy
  go_enter Try.func121, Try.ntmps121
  go_wp2
  refine wp_region_ext (by kernel_rfl) (by kernel_rfl) ?_
  intro ι _ X hX hC
  have rX := fun k => (bcell (hX k)).1
  repeat (first | go_big_quiet_skip | (go_big_quiet_want; go_big_quiet_op; first | go_big_quiet_on | (apply Exists.intro; refine ⟨fun _ => ?_, ?_⟩; (focus (fail)); go_big_quiet_on)))
  refine wpQuiet_nil ?_
  intro w1 hb1
  clear rX hX hC
  go_wp2
  all_goals
    go_ret
    exact ⟨ret_int (by omega), hb1⟩

set_option maxHeartbeats 400000 in
theorem behind1_any (t : Nat) (B1 B2 : Nat) (xs ys : List Int) (w : World) (hx : Held w B1 0 xs) (hy : Held w B2 0 ys) (h1 : t < xs.length) (h2 : t < ys.length) :
    Calls Try.prog 103 #[.int .i64 t, .pointer (some ⟨B1, 0, none⟩), .pointer (some ⟨B2, 0, none⟩)] w fun e w' => e = .returned (.int .i64 (max (nth xs t) (nth ys t))) ∧ Below w.heap.size w w' := by
  obtain ⟨l1, b1, o1, c1, lb1, f1, g1⟩ := hx.at h1
  obtain ⟨l2, b2, o2, c2, lb2, f2, g2⟩ := hy.at h2
  have k1 := g1 t h1
  have k2 := g2 t h2
  clear g1 g2 hx hy
  go_enter Try.func103, Try.ntmps103
  go_wp2
  refine wp_region_ext (by kernel_rfl) (by kernel_rfl) ?_
  intro ι _ X hX hC
  have rX := fun k => (bcell (hX k)).1
  repeat (first | go_big_quiet_skip | (go_big_quiet_want; go_big_quiet_op; first | go_big_quiet_on | (apply Exists.intro; refine ⟨fun _ => ?_, ?_⟩; (focus (fail)); go_big_quiet_on)))
  refine wpQuiet_nil ?_
  intro w1 hb1
  clear rX hX hC
  go_wp2
  all_goals
    go_ret
    exact ⟨ret_int (by omega), hb1⟩

theorem lt_any (x y : Int) (w : World) : Calls Try.prog 85 #[.int .i64 x, .int .i64 y] w fun e w' => e = .returned (.bool (decide (x < y))) ∧ w = w' := by
  go_enter Try.func85, Try.ntmps85
  go_wp2
  go_ret
  exact ⟨rfl, rfl⟩
theorem gt_any (x y : Int) (w : World) : Calls Try.prog 107 #[.int .i64 x, .int .i64 y] w fun e w' => e = .returned (.bool (decide (y < x))) ∧ w = w' := by
  go_enter Try.func107, Try.ntmps107
  go_wp2
  go_ret
  exact ⟨rfl, rfl⟩

set_option maxHeartbeats 400000 in
theorem early_any (t : Nat) (A1 A2 : Option Addr) (d1 d2 : Nat) (xs ys : List Int) (w : World) (hx : Rd w w.heap.size A1 xs) (hy : Rd w w.heap.size A2 ys) (h1 : t < xs.length) (h2 : t < ys.length) :
    Calls Try.prog 76 #[.agg #[.slice A1 xs.length d1, .slice A2 ys.length d2], .int .i64 t] w fun e w' => e = .returned (.bool (decide (nth xs t < nth ys t))) ∧ Below w.heap.size w w' := by
  obtain ⟨b1, o1, rfl, lb1, g1⟩ := hx (by omega)
  obtain ⟨b2, o2, rfl, lb2, g2⟩ := hy (by omega)
  have k1 := g1 t h1
  have k2 := g2 t h2
  have m1 : b1 < w.heap.size + 1 := by omega
  have m2 : b2 < w.heap.size + 1 := by omega
  clear g1 g2 hx hy
  go_enter Try.func76, Try.ntmps76
  go_wp2
  refine wp_region_ext (by kernel_rfl) (by kernel_rfl) ?_
  intro ι _ X hX hC
  have rX := fun k => (bcell (hX k)).1
  repeat (first | go_big_quiet_skip | (go_big_quiet_want; go_big_quiet_op; first | go_big_quiet_on | (apply Exists.intro; refine ⟨fun _ => ?_, ?_⟩; (focus (fail)); go_big_quiet_on)))
  refine wpQuiet_nil ?_
  intro w1 hb1
  clear rX hX hC
  go_wp2
  go_ret
  exact ⟨rfl, ((Below.refl _ w).alloc (Nat.le_refl _) _).trans (hb1.mono (by simp))⟩

set_option maxHeartbeats 400000 in
theorem lies_any (t : Nat) (A1 A2 : Option Addr) (d1 d2 : Nat) (xs ys : List Int) (w : World) (hx : Rd w w.heap.size A1 xs) (hy : Rd w w.heap.size A2 ys) (h1 : t < xs.length) (h2 : t < ys.length) (sx : Small xs) (sy : Small ys) :
    Calls Try.prog 90 #[.agg #[.slice A1 xs.length d1, .slice A2 ys.length d2], .int .i64 t] w fun e w' => e = .returned (.int .i64 (nth xs t - nth ys t)) ∧ Below w.heap.size w w' := by
  obtain ⟨b1, o1, rfl, lb1, g1⟩ := hx (by omega)
  obtain ⟨b2, o2, rfl, lb2, g2⟩ := hy (by omega)
  have k1 := g1 t h1
  have k2 := g2 t h2
  have m1 : b1 < w.heap.size + 1 := by omega
  have m2 : b2 < w.heap.size + 1 := by omega
  obtain ⟨n1, n2⟩ := sx t
  obtain ⟨n3, n4⟩ := sy t
  clear g1 g2 hx hy sx sy
  go_enter Try.func90, Try.ntmps90
  go_wp2
  refine wp_region_ext (by kernel_rfl) (by kernel_rfl) ?_
  intro ι _ X hX hC
  have rX := fun k => (bcell (hX k)).1
  repeat (first | go_big_quiet_skip | (go_big_quiet_want; go_big_quiet_op; first | go_big_quiet_on | (apply Exists.intro; refine ⟨fun _ => ?_, ?_⟩; (focus (fail)); go_big_quiet_on)))
  refine wpQuiet_nil ?_
  intro w1 hb1
  clear rX hX hC
  go_wp2
  go_ret
  exact ⟨rfl, ((Below.refl _ w).alloc (Nat.le_refl _) _).trans (hb1.mono (by simp))⟩

/-- The greatest of k numbers, but at least 0. -/
def maxTo (h : Nat → Int) : Nat → Int
  | 0 => 0
  | k + 1 => max (maxTo h k) (h k)

theorem maxTo_bd (h : Nat → Int) (M : Int) (h0 : 0 ≤ M) (k : Nat) (hh : ∀ i, i < k → h i ≤ M) : 0 ≤ maxTo h k ∧ maxTo h k ≤ M := by
  induction k with
  | zero => exact ⟨Int.le_refl _, h0⟩
  | succ k ih =>
    have := ih fun i hi => hh i (by omega)
    have := hh k (by omega)
    unfold maxTo
    omega

def leadAt (xs ys : List Int) (t : Nat) : Int := maxTo (fun u => nth xs (t + u) - nth ys u) (xs.length - t)

set_option maxHeartbeats 400000 in
theorem lead1_any (t : Nat) (B1 B2 : Nat) (xs ys : List Int) (w : World) (hx : Held w B1 0 xs) (hy : Held w B2 0 ys) (h1 : t < xs.length) (h2 : ys.length = xs.length) (hm : xs.length ≤ 1000) (sx : Small xs) (sy : Small ys) :
    Calls Try.prog 117 #[.int .i64 t, .pointer (some ⟨B1, 0, none⟩), .pointer (some ⟨B2, 0, none⟩)] w fun e w' => e = .returned (.int .i64 (leadAt xs ys t)) ∧ Below w.heap.size w w' := by
  obtain ⟨l1, b1, o1, c1, lb1, f1, g1⟩ := hx.at h1
  obtain ⟨l2, b2, o2, c2, lb2, f2, g2⟩ := hy.at (t := 0) (by omega)
  have H2 := Lib.hid h2
  clear h2 hx hy
  go_enter Try.func117, Try.ntmps117
  go_wp2
  go_loopg [5, 12] (xs.length - t) (fun gk v i wr => ∃ u : Nat, u ≤ xs.length - t ∧ xs.length - t - u ≤ gk ∧ i = .int .i64 u ∧ v = .int .i64 (maxTo (fun u => nth xs (t + u) - nth ys u) u) ∧ Aside (Below w.heap.size w wr))
  case atStart => exact ⟨0, Nat.zero_le _, by omega, rfl, rfl, Below.refl _ _⟩
  case round =>
    obtain ⟨u, hu, hg, rfl, rfl, hb⟩ := hrel
    have hbd := maxTo_bd (fun u => nth xs (t + u) - nth ys u) 2000000000000000 (by omega) u (fun i _ => by have := sx (t + i); have := sy i; omega)
    by_cases hlt : u < xs.length - t
    · have k1 := g1 (t + u) (by omega)
      have k2 := g2 u (by rw [H2.out]; omega)
      have hlt2 : (u : Int) < (xs.length : Int) - (t : Int) := by omega
      have hul : (u : Int) < (ys.length : Int) := by rw [H2.out]; omega
      obtain ⟨n1, n2⟩ := sx (t + u)
      obtain ⟨n3, n4⟩ := sy u
      obtain ⟨n5, n6⟩ := hbd
      obtain ⟨rc, rf⟩ := bcell hb.out
      have hsz := hb.out.size
      have lw1 : b1 < wr.heap.size := by omega
      have lw2 : b2 < wr.heap.size := by omega
      have lw3 : B1 < wr.heap.size := by omega
      have lw4 : B2 < wr.heap.size := by omega
      clear g1 g2 sx sy
      have HM := Lib.hid (show maxTo (fun u => nth xs (t + u) - nth ys u) (u + 1) = max (maxTo (fun u => nth xs (t + u) - nth ys u) u) (nth xs (t + u) - nth ys u) from rfl)
      generalize maxTo (fun u => nth xs (t + u) - nth ys u) u = M at *
      go_wp2
      refine wp_region_ext (by kernel_rfl) (by kernel_rfl) ?_
      intro ι _ X hX hC
      have rX := fun k => (bcell (hX k)).1
      repeat (first | go_big_quiet_skip | (go_big_quiet_want; go_big_quiet_op; first | go_big_quiet_on | (apply Exists.intro; refine ⟨fun _ => ?_, ?_⟩; (focus (fail)); go_big_quiet_on)))
      refine wpQuiet_nil ?_
      intro w1 hb1
      clear rX hX hC
      go_wp2
      all_goals
        go_roundg (xs.length - t - (u + 1))
        case measure => omega
        case rel => exact ⟨u + 1, by omega, by omega, by go_num, by rw [HM.out]; exact int_eq (by omega), hb.out.trans (hb1.mono hsz)⟩
    · have hlt2 : ¬ (u : Int) < (xs.length : Int) - (t : Int) := by omega
      obtain rfl : u = xs.length - t := by omega
      go_wp2
      go_ret
      exact ⟨rfl, hb.out⟩
end Go.Proofs.Ytknkneccnhgjmaa
namespace Go.Proofs.Ytknkneccnhgjmaa
open Go.RowKit

theorem Held.rd {w : World} {B o : Nat} {xs : List Int} (h : Held w B o xs) : ∃ A c, w.cell? ⟨B, o, none⟩ = some (.slice A xs.length c) ∧ Rd w w.heap.size A xs := h.2
theorem Rd.ext {w w' : World} {A : Option Addr} {xs : List Int} (h : Rd w w.heap.size A xs) (hb : Below w.heap.size w w') : Rd w' w'.heap.size A xs := (h.below hb (Nat.le_refl _)).mono hb.size

set_option maxHeartbeats 400000 in
theorem fails1_any (t : Nat) (B1 B2 B3 : Nat) (xs ys zs : List Int) (w : World) (hx : Held w B1 0 xs) (hy : Held w B2 0 ys) (hz : Held w B3 0 zs) (h1 : t < xs.length) (h2 : t < ys.length) (h3 : t < zs.length) :
    Calls Try.prog 122 #[.int .i64 t, .pointer (some ⟨B1, 0, none⟩), .pointer (some ⟨B2, 0, none⟩), .pointer (some ⟨B3, 0, none⟩)] w
      fun e w' => e = .returned (.bool (decide (nth xs t < nth ys t) || decide (nth ys t < nth zs t))) ∧ Below w.heap.size w w' := by
  have l1 := hx.1
  obtain ⟨A1, d1, f1, r1⟩ := hx.rd
  obtain ⟨l2, b2, o2, c2, lb2, f2, g2⟩ := hy.at h2
  obtain ⟨l3, b3, o3, c3, lb3, f3, g3⟩ := hz.at h3
  obtain ⟨A2, d2, f2', r2⟩ := hy.rd
  have k2 := g2 t h2
  have k3 := g3 t h3
  obtain ⟨rfl, rfl⟩ : A2 = some ⟨b2, o2, none⟩ ∧ d2 = c2 := by
    rw [f2] at f2'; simp only [Option.some.injEq, Value.slice.injEq] at f2'; exact ⟨f2'.1.symm, f2'.2.2.symm⟩
  clear g2 g3 hx hy hz f2'
  have R1 := Lib.hid r1
  have R2 := Lib.hid r2
  clear r1 r2
  cases hq : decide (nth xs t < nth ys t)
  all_goals
    have HQ := Lib.hid hq
    clear hq
    go_enter Try.func122, Try.ntmps122
    go_wp2
    refine wp_region_ext (by kernel_rfl) (by kernel_rfl) ?_
    intro ι _ X hX hC
    have rX := fun k => (bcell (hX k)).1
    have E : ∀ k, Calls Try.prog 76 #[.agg #[.slice A1 xs.length d1, .slice (some ⟨b2, o2, none⟩) ys.length d2], .int .i64 t] (X k) fun e w' => e = .returned (.bool (decide (nth xs t < nth ys t))) ∧ Below (X k).heap.size (X k) w' := fun k => early_any t _ _ d1 d2 xs ys (X k) (R1.out.ext (hX k)) (R2.out.ext (hX k)) h1 h2
    rw [HQ.out] at E
    have HE := Lib.hid E
    clear E
    repeat (first | go_big_quiet_skip | (go_big_quiet_want; go_big_quiet_op; first | go_big_quiet_on | (apply Exists.intro; refine ⟨fun _ => ?_, ?_⟩; (focus (go_at_call 76; exact Calls.ext_of hX hC (HE.out _))); go_big_quiet_on)))
    refine wpQuiet_nil ?_
    intro w1 hb1
    clear rX hX hC
    go_wp2
    go_ret
    exact ⟨ret_bool (by simp), hb1⟩

/-- The first number below n of which p holds; -1 if there is none. -/
def firstIdx (p : Nat → Bool) (n : Nat) : Int := match (List.range n).find? p with | some i => i | none => -1
theorem firstIdx_hit {p : Nat → Bool} {n t : Nat} (h : t < n) (ht : p t = true) (hb : ∀ j, j < t → p j = false) : firstIdx p n = t := by
  unfold firstIdx
  have : (List.range n).find? p = some t := by
    rw [List.find?_eq_some_iff_getElem]
    exact ⟨ht, t, by simpa using h, by simp, fun j hj => by simpa using hb j hj⟩
  rw [this]
theorem firstIdx_miss {p : Nat → Bool} {n : Nat} (hb : ∀ j, j < n → p j = false) : firstIdx p n = -1 := by
  unfold firstIdx
  have : (List.range n).find? p = none := by
    rw [List.find?_eq_none]
    intro j hj
    rw [List.mem_range] at hj
    simp [hb j hj]
  rw [this]
theorem firstIdx_cases (p : Nat → Bool) (n : Nat) : (firstIdx p n = -1 ∧ ∀ j, j < n → p j = false) ∨ ∃ t, t < n ∧ firstIdx p n = t ∧ p t = true ∧ ∀ j, j < t → p j = false := by
  by_cases h : ∃ t, t < n ∧ p t = true
  · obtain ⟨t, ht⟩ := h
    obtain ⟨m, ⟨h1, h2⟩, h3⟩ := exists_least (p := fun t => t < n ∧ p t = true) ⟨t, ht⟩
    have h4 : ∀ j, j < m → p j = false := fun j hj => by
      cases hp : p j
      · rfl
      · have := h3 j ⟨by omega, hp⟩; omega
    exact .inr ⟨m, h1, firstIdx_hit h1 h2 h4, h2, h4⟩
  · have h4 : ∀ j, j < n → p j = false := fun j hj => by
      cases hp : p j
      · rfl
      · exact absurd ⟨j, hj, hp⟩ h
    exact .inl ⟨firstIdx_miss h4, h4⟩

/-- What a function value answers that is asked of the i-th number of xs, in every world that has kept what lay in w. -/
def Answers (g : Nat) (pre caps : Array Value) (xs : List Int) (p : Nat → Bool) (w : World) : Prop :=
  ∀ (i : Nat) (W : World), i < xs.length → Below w.heap.size w W → Calls Try.prog g (pre ++ #[.int .i64 (nth xs i)] ++ caps) W fun e W' => e = .returned (.bool (p i)) ∧ Below W.heap.size W W'

set_option maxHeartbeats 400000 in
theorem indexFunc_any (g : Nat) (pre caps : Array Value) (eg : ∀ args w, (callFunc g args).run Try.prog w = .ok (.enter g args) w) (A : Option Addr) (c : Nat) (xs : List Int) (p : Nat → Bool) (w : World)
    (h : Rd w w.heap.size A xs) (hm : xs.length ≤ 1000) (hp : Answers g pre caps xs p w) :
    Calls Try.prog 116 #[.slice A xs.length c, .func (.func g) pre caps] w fun e w' => e = .returned (.int .i64 (firstIdx p xs.length)) ∧ Below w.heap.size w w' := by
  go_enter Try.func116, Try.ntmps116
  go_wp2
  go_loopg [5, 8] xs.length (fun gg _ s8 wr => ∃ t : Nat, t ≤ xs.length ∧ xs.length - t ≤ gg ∧ s8 = .int .i64 t ∧ Aside (Below w.heap.size w wr) ∧ Aside (∀ j, j < t → p j = false))
  case atStart => exact ⟨0, Nat.zero_le _, by omega, rfl, Below.refl _ w, fun j hj => absurd hj (Nat.not_lt_zero _)⟩
  case round =>
    obtain ⟨t, ht, hg, rfl, hb, hA⟩ := hrel
    by_cases hlt : t < xs.length
    · have hltz : (t : Int) < (xs.length : Int) := by omega
      obtain ⟨b, off, rfl, lb, hc⟩ := h (by omega)
      have k1 := (hb.out.cell (p := ⟨b, off + t, none⟩) lb).trans (hc t hlt)
      have hcall := hp t wr hlt hb.out
      clear hc h hp
      cases hq : p t with
      | true =>
        rw [hq] at hcall
        have HQ := Lib.hid hq
        clear hq
        go_wp2_with (go_at_fn g; refine hcall.mono ?_; rintro e w' ⟨rfl, hb'⟩)
        go_ret
        exact ⟨ret_int (firstIdx_hit hlt HQ.out hA.out).symm, hb.out.trans (hb'.mono hb.out.size)⟩
      | false =>
        rw [hq] at hcall
        have HQ := Lib.hid hq
        clear hq
        go_wp2_with (go_at_fn g; refine hcall.mono ?_; rintro e w' ⟨rfl, hb'⟩)
        go_roundg (xs.length - (t + 1))
        case measure => omega
        case rel =>
          refine ⟨t + 1, by omega, by omega, by go_num, hb.out.trans (hb'.mono hb.out.size), (show Aside _ from fun j hj => ?_)⟩
          by_cases e : j = t
          · subst e; exact HQ.out
          · exact hA.out j (by omega)
    · have hltz : ¬ (t : Int) < (xs.length : Int) := by omega
      obtain rfl : t = xs.length := by omega
      go_wp2
      go_ret
      exact ⟨ret_int (firstIdx_miss hA.out).symm, hb.out⟩

set_option maxHeartbeats 400000 in
theorem containsFunc_any (g : Nat) (pre caps : Array Value) (eg : ∀ args w, (callFunc g args).run Try.prog w = .ok (.enter g args) w) (A : Option Addr) (c : Nat) (xs : List Int) (p : Nat → Bool) (w : World)
    (h : Rd w w.heap.size A xs) (hm : xs.length ≤ 1000) (hp : Answers g pre caps xs p w) :
    Calls Try.prog 74 #[.slice A xs.length c, .func (.func g) pre caps] w fun e w' => e = .returned (.bool (decide (0 ≤ firstIdx p xs.length))) ∧ Below w.heap.size w w' := by
  have hcall := indexFunc_any g pre caps eg A c xs p w h hm hp
  generalize firstIdx p xs.length = r at *
  clear h hp
  go_enter Try.func74, Try.ntmps74
  go_wp2_with (go_at_call 116; refine hcall.mono ?_; rintro e w' ⟨rfl, hb'⟩)
  go_ret
  exact ⟨rfl, hb'⟩

/-- 0, 1, .. n - 1. -/
def upto (n : Nat) : List Int := (List.range n).map Int.ofNat
theorem upto_length (n : Nat) : (upto n).length = n := by simp [upto]
theorem nth_upto {n i : Nat} (h : i < n) : nth (upto n) i = i := by simp [nth, upto, List.getD, h]

set_option maxHeartbeats 400000 in
theorem steps_any (A : Option Addr) (c : Nat) (xs : List Int) (w : World) (hm : xs.length ≤ 1000) :
    Calls Try.prog 75 #[.agg #[.slice A xs.length c]] w fun e w' => RSlice w (upto xs.length) e w' := by
  obtain ⟨i0, hi, hz0, hz1, hz2⟩ := info_parts info3
  go_enter Try.func75, Try.ntmps75
  go_wp2_with (at_make; refine wpList_make_full _ rfl _ _ 24 rfl (w.heap.size + 1) 3 i0 (.int .i64 0) 1 Try.underlying24 hi hz0 hz1 .i64 .i64 xs.length xs.length xs.length rfl rfl rfl rfl (by rw [hz2]; omega) (by unfold maxLen; omega) (by simp) ?_; intro w1 hown hgrow)
  obtain ⟨cs0, hcs0, hsz0⟩ : ∃ cs : Array Value, w1.heap[w.heap.size + 1]? = some (.cells cs 3 (0, 0)) ∧ cs.size = xs.length := by
    rcases hown.2 with ⟨e, _⟩ | ⟨g, cap, cur, e, _, hh, _, _, hcs, _⟩
    · cases e
    · simp only [World.size_alloc, Value.slice.injEq, Option.some.injEq, Addr.mk.injEq, true_and, and_true] at e
      obtain ⟨rfl, rfl⟩ := e
      exact ⟨cur, hh, by omega⟩
  have hb0 : Below w.heap.size w w1 := ((Below.refl _ w).alloc (Nat.le_refl _) _).grown hgrow (by simp) (fun k hk => by cases hk)
  have hs1 : w.heap.size + 1 < w1.heap.size := (Array.getElem?_eq_some_iff.1 hcs0).1
  clear hown hgrow
  go_loopg [11] xs.length (fun gg i wr => ∃ t : Nat, t ≤ xs.length ∧ xs.length - t ≤ gg ∧ i = .int .i64 t ∧ Aside (Below w.heap.size w wr) ∧
      Aside (∃ cs : Array Value, wr.heap[w.heap.size + 1]? = some (.cells cs 3 (0, 0)) ∧ cs.size = xs.length ∧ ∀ j : Nat, j < t → cs[j]? = some (.int .i64 (j : Int))))
  case atStart => exact ⟨0, Nat.zero_le _, by omega, rfl, hb0, cs0, hcs0, hsz0, fun j hj => absurd hj (Nat.not_lt_zero _)⟩
  case round =>
    obtain ⟨t, ht, hg, rfl, hb, hA⟩ := hrel
    obtain ⟨cs, hcs, hsz, hF⟩ := hA.out
    have HF := Lib.hid hF
    have Hcs := Lib.hid hcs
    have Hsz := Lib.hid hsz
    clear hA hF hcs hsz hcs0 hsz0 hb0
    by_cases hlt : t < xs.length
    · have hltz : (t : Int) < (xs.length : Int) := by omega
      obtain ⟨h1, ⟨v1, c1⟩, f1⟩ := row_at (H := 0) Hcs.out (Above.refl _ _) (Nat.zero_le _) (show t < cs.size by rw [Hsz.out]; omega)
      clear h1
      go_wp2
      go_roundg (xs.length - (t + 1))
      case measure => omega
      case rel =>
        refine ⟨t + 1, by omega, by omega, by go_num, hb.out.setCell (by simp) _, _, heap_setCell_same _ _ _ _ _ _ Hcs.out, by rw [Array.size_setIfInBounds]; exact Hsz.out, fun j hj => ?_⟩
        rw [Array.getElem?_setIfInBounds]
        split
        · rename_i e; subst e; rw [if_pos (by rw [Hsz.out]; omega)]
        · exact HF.out j (by omega)
    · have hltz : ¬ (t : Int) < (xs.length : Int) := by omega
      obtain rfl : t = xs.length := by omega
      have hlen := upto_length xs.length
      have hfin : RSlice w (upto xs.length) (.returned (.slice (some ⟨w.heap.size + 1, 0, none⟩) xs.length xs.length)) wr :=
        ⟨_, _, by rw [hlen], fun hn => ⟨_, _, rfl, (Array.getElem?_eq_some_iff.1 Hcs.out).1, fun i hi => by
          rw [hlen] at hi
          rw [Nat.zero_add, cell_of_row wr _ i cs _ _ Hcs.out, HF.out i hi, nth_upto hi]⟩, fun ad e => by cases e; simp, hb.out⟩
      have Hfin := Lib.hid hfin
      clear hfin hlen
      go_wp2
      go_ret
      exact Hfin.out
end Go.Proofs.Ytknkneccnhgjmaa
namespace Go.Proofs.Ytknkneccnhgjmaa
open Go.RowKit

/-- What is left behind a call of Left's closure. -/
def RLeft (w : World) (B0 : Nat) (m : Int) (e : Ending) (w' : World) : Prop := e = .returned (.int .i64 m) ∧ w'.cell? ⟨B0, 0, none⟩ = some (.int .i64 m) ∧ w'.frozen? ⟨B0, 0, none⟩ = false ∧ w.grownBy w' (some B0)

set_option maxRecDepth 100000 in
set_option maxHeartbeats 400000 in
theorem left1_any (t : Nat) (B0 B1 B2 : Nat) (m : Int) (xs ys : List Int) (w : World) (hc0 : w.cell? ⟨B0, 0, none⟩ = some (.int .i64 m)) (hf0 : w.frozen? ⟨B0, 0, none⟩ = false)
    (hx : Held w B1 0 xs) (hy : Held w B2 0 ys) (h1 : t < xs.length) (h2 : t < ys.length) (sx : Small xs) (sy : Small ys) :
    Calls Try.prog 92 #[.int .i64 t, .pointer (some ⟨B0, 0, none⟩), .pointer (some ⟨B1, 0, none⟩), .pointer (some ⟨B2, 0, none⟩)] w
      fun e w' => RLeft w B0 (max m (nth xs t - nth ys t)) e w' := by
  obtain ⟨l1, b1, o1, c1, lb1, f1, g1⟩ := hx.at h1
  obtain ⟨l2, b2, o2, c2, lb2, f2, g2⟩ := hy.at h2
  have k1 := g1 t h1
  have k2 := g2 t h2
  obtain ⟨m1, m2⟩ := sx t
  obtain ⟨m3, m4⟩ := sy t
  clear g1 g2 hx hy sx sy
  have hw : IntKind.i64.wrap (nth xs t - nth ys t) = nth xs t - nth ys t := IntWalk.i64_in _ (by omega)
  have hsl : ∀ x : Int, (w.setCell ⟨B0, 0, none⟩ (.int .i64 x)).cell? ⟨B0, 0, none⟩ = some (.int .i64 x) := fun x => World.cell?_setCell_same' _ _ _ (by rw [hc0]; rfl)
  have hsf : ∀ x : Int, (w.setCell ⟨B0, 0, none⟩ (.int .i64 x)).frozen? ⟨B0, 0, none⟩ = false := fun x => by rw [World.frozen?_setCell]; exact hf0
  have hg : ∀ x : Int, w.grownBy (w.setCell ⟨B0, 0, none⟩ (.int .i64 x)).drew (some B0) := fun x => ⟨rfl, rfl, rfl, by simp [World.setCell], fun k hk hne => Below.heap_setCell _ _ _ _ (fun e => hne (by rw [e]))⟩
  have Hg := Lib.hid hg
  clear hg
  by_cases hlt : m < nth xs t - nth ys t
  · have Hmx := Lib.hid (show max m (nth xs t - nth ys t) = nth xs t - nth ys t by omega)
    go_enter Try.func92, Try.ntmps92
    go_wp2
    go_still_tail 13, (by kernel_rfl)
    change wpList _ _ _ _ _ w.drew
    go_wp2
    go_ret
    rw [Hmx.out]
    exact ⟨rfl, hsl _, hsf _, Hg.out _⟩
  · have Hmx := Lib.hid (show max m (nth xs t - nth ys t) = m by omega)
    go_enter Try.func92, Try.ntmps92
    go_wp2
    go_still_tail 13, (by kernel_rfl)
    change wpList _ _ _ _ _ w.drew
    go_wp2
    go_ret
    rw [Hmx.out]
    exact ⟨rfl, hsl _, hsf _, Hg.out _⟩
end Go.Proofs.Ytknkneccnhgjmaa
namespace Go.Proofs.Ytknkneccnhgjmaa

section
variable {P : Program} {ops : Array Oper} {md : Region.Mode} {w : World} {m : Nat}

theorem wpIn_of_still {o : Oper} {a : Act} {K : Act → Prop} {K' : Act → World → Prop} {Q' : Exit → Act → World → Prop} (h : ∀ a, K a → K' a w) (hh : o.still P a w K) : o.wpIn Fence.wide m P a w K' Q' := by
  unfold Oper.still at hh
  unfold Oper.wpIn
  refine ⟨fun _ _ => trivial, ?_⟩
  show o.uponIn Fence.wide m P a K' Q' ((execOp a.eval o).run P w)
  generalize (execOp a.eval o).run P w = r at *
  cases r with
  | ok n w' =>
    cases n <;> simp only [Oper.stillUpon] at hh <;> simp only [Oper.uponIn]
    case enter f args =>
      obtain ⟨rfl, v, hc, hn⟩ := hh
      refine ⟨fun h => (by cases h), callsIn_wide.2 (Calls.mono hc ?_)⟩
      rintro e w'' ⟨rfl, rfl⟩
      exact h _ hn
    all_goals (obtain ⟨rfl, h2⟩ := hh; exact h _ h2)
  | halt x w' => simp only [Oper.stillUpon] at hh

theorem wpOpIn_of_stOp {i : Nat} {a : Act} {K : Act → Prop} {K' : Act → World → Prop} {Q' : Exit → Act → World → Prop} (h : ∀ a, K a → K' a w) (hh : stOp P ops w i K a) : wpOpIn Fence.wide m P ops Q' i K' a w := by
  unfold stOp at hh
  unfold wpOpIn
  split
  · rename_i ho; simp only [ho] at hh; exact h _ hh
  · rename_i o ho
    simp only [ho] at hh
    split
    · rename_i hw; simp only [hw, if_true] at hh; exact wpIn_of_still h hh
    · rename_i hw; simp only [hw] at hh; exact ⟨fun _ _ => trivial, h _ hh⟩

theorem wpAnyIn_of_head {n g : Nat} {L : Array Bool → Act → Prop} {Q' : Exit → Act → World → Prop} (hL : ∀ listed a, L listed a → wpAnyIn Fence.wide m P md ops Q' g listed a w) :
    ∀ (f : Nat) (listed : Array Bool) (a : Act), wpAnyL P md ops w n L f listed a → wpAnyIn Fence.wide m P md ops Q' (f + g) listed a w
  | 0, listed, a, h => by rw [Nat.zero_add]; exact hL _ _ h
  | f + 1, listed, a, h => by
    rw [show f + 1 + g = (f + g) + 1 by omega]
    exact ⟨fun h0 => absurd h0 h.1, fun i hi => wpOpIn_of_stOp (fun a' h' => wpAnyIn_of_head hL f _ a' h') (h.2 i hi).2⟩

theorem wpAnyIn_of_seq {Q' : Exit → Act → World → Prop} : ∀ (l : List Oper) (k : Nat) (listed : Array Bool) (a : Act) (w : World), (∀ j, l[j]? = ops[k + j]?) →
    Region.seqB md ops l.length k listed = true → wpListIn Fence.wide m P ops Q' l a w → wpAnyIn Fence.wide m P md ops Q' l.length listed a w
  | [], _, _, _, _, _, hB, h => ⟨by simpa [Region.seqB] using hB, h⟩
  | o :: l, k, listed, a, w, hl, hB, h => by
    have h0 : ops[k]? = some o := by simpa using (hl 0).symm
    simp only [List.length_cons, Region.seqB, Bool.and_eq_true, decide_eq_true_eq] at hB
    refine ⟨fun h1 => (by rw [hB.1] at h1; cases h1), fun i hi => ?_⟩
    rw [hB.1] at hi
    have hik : i = k := by simpa using hi
    subst hik
    have hw : wpOpIn Fence.wide m P ops Q' i (wpListIn Fence.wide m P ops Q' l) a w := by unfold wpOpIn; simp only [h0]; exact h
    exact wpOpIn_mono (fun a' w' h' => wpAnyIn_of_seq l (i + 1) _ a' w' (fun j => by have := hl (j + 1); simpa [Nat.add_assoc, Nat.add_comm 1 j] using this) hB.2 h') hw

theorem wpIn_region_still_tail {id : Nat} {Q : Exit → Act → World → Prop} {a : Act} {l : List Oper} (n : Nat) (hm : P.follows .mixedOrders = true) (hB : Region.lexTailB .any l.toArray n = true)
    (h : wpStill P l.toArray w.drew (fun a' => wpListIn Fence.wide m P l.toArray Q (l.drop n) a' w.drew) (l.take n) a) : (Code.region id l.toArray true).wpIn Fence.wide m P Q a w := by
  simp only [Region.lexTailB, Bool.and_eq_true, decide_eq_true_eq] at hB
  obtain ⟨⟨⟨⟨hsel, hn⟩, hs⟩, hc⟩, hlex⟩ := hB
  have hn' : n < l.length := by simpa using hn
  have htl : (l.take n).length = n := by simp; omega
  have hdl : (l.drop n).length = l.toArray.size - n := by simp
  have inv0 : HeadInv .any l.toArray n (Array.replicate l.toArray.size false) :=
    ⟨by simp, fun j oj _ hl => (by rw [getD_replicate_false] at hl; cases hl), fun t _ ht => getD_in (by simpa using ht) (getD_replicate_false _ _)⟩
  have H := wpAnyL_lex (md := .any) (g := l.toArray.size - n) hsel hs hc hn (l.take n) 0 _ a (fun j hj => by
    have hj' : j < n := by rw [htl] at hj; exact hj
    simp [hj']) (by simpa using htl) inv0 (by rw [htl]; exact hlex) h
  refine wpIn_region_any hm ?_
  have := wpAnyIn_of_head (Q' := Q) (m := m) (g := l.toArray.size - n) (fun listed a' hL => by
    have := wpAnyIn_of_seq (md := .any) (m := m) (Q' := Q) (l.drop n) n listed a' w.drew (fun j => by simp [List.getElem?_drop]) (by rw [hdl]; exact hL.1) hL.2
    rwa [hdl] at this) _ _ _ H
  rw [htl, show n + (l.toArray.size - n) = l.toArray.size by omega] at this
  exact this
end
end Go.Proofs.Ytknkneccnhgjmaa
namespace Go.Proofs.Ytknkneccnhgjmaa
open Go.RowKit Go.Shelf
attribute [local go_sem] Oper.semAt_some

/-- What has come when k rounds are over. -/
def came {α : Type} (f : Nat → α) (k : Nat) : List α := (List.range k).map f
theorem came_succ {α : Type} (f : Nat → α) (k : Nat) : came f (k + 1) = came f k ++ [f k] := by simp [came, List.range_succ]
theorem came_length {α : Type} (f : Nat → α) (k : Nat) : (came f k).length = k := by simp [came]

abbrev encP (x : Nat × Int) : Array Value := #[.int .i64 (x.1 : Int), .int .i64 x.2]

set_option maxRecDepth 100000 in
set_option maxHeartbeats 2000000 in
theorem divided1_in (n : Nat) (hn : 1 ≤ n) (l n₀ B0 B1 B2 t : Nat) (xs ys : List Int) (J Jx : List (Nat × Int) → World → Prop)
    (hY : ∀ pre x W, J pre W → pre.length < t + 1 → YieldAt Fence.wide (n - 1) Try.prog l (encP x) W fun e W' =>
      (e = .returned (.bool true) ∧ J (pre ++ [x]) W' ∧ Below n₀ W W') ∨ (e = .returned (.bool false) ∧ Jx (pre ++ [x]) W'))
    (hJd : ∀ s W, J s W → J s W.drew) (w W : World) (hn0 : w.heap.size ≤ n₀) (hw : Below w.heap.size w W) (hc0 : w.cell? ⟨B0, 0, none⟩ = some (.int .i64 t)) (hB0 : B0 < w.heap.size) (hx : Held w B1 0 xs) (hy : Held w B2 0 ys)
    (h1 : t < xs.length) (h2 : t < ys.length) (hm : xs.length ≤ 1000) (sx : Small xs) (sy : Small ys) (h0 : J [] W) :
    CallsIn Fence.wide n Try.prog 120 #[.func (.yield l) #[] #[], .pointer (some ⟨B0, 0, none⟩), .pointer (some ⟨B1, 0, none⟩), .pointer (some ⟨B2, 0, none⟩)] W fun e W' => (∃ v, e = .returned v) ∧
      ((∃ zs, zs = came (fun s => (s, nth xs s + nth ys (t - s))) (t + 1) ∧ J zs W') ∨ (∃ pre, True ∧ Jx pre W')) := by
  obtain ⟨l1, b1, o1, c1, lb1, f1, g1⟩ := hx.at h1
  obtain ⟨l2, b2, o2, c2, lb2, f2, g2⟩ := hy.at h2
  clear hx hy
  have hc0' := (hw.cell (p := ⟨B0, 0, none⟩) hB0).trans hc0
  refine callsIn_of_wp Try.func120 rfl trivial ?_ rfl
  simp only [Try.ntmps120, List.size_toArray, List.length_cons, List.length_nil, Nat.reduceAdd, Nat.reduceSub, Array.replicate_succ, Array.replicate_zero, List.push_toArray, List.append_toArray, List.nil_append, List.cons_append]
  gi_wp2
  gi_loopw [8] (fun i wr => ∃ k : Nat, k ≤ t + 1 ∧ i = .int .i64 k ∧ J (came (fun s => (s, nth xs s + nth ys (t - s))) k) wr ∧ Below w.heap.size w wr)
    (fun i _ => t + 1 - (intOf i).toNat)
  case atStart => exact ⟨0, Nat.zero_le _, rfl, h0, hw⟩
  case round =>
    obtain ⟨k, hk, rfl, hJs, hnx⟩ := hrel
    by_cases hlt : k < t + 1
    · have hltz : (k : Int) < (t : Int) + 1 := by omega
      have q0 := (hnx.cell (p := ⟨B0, 0, none⟩) hB0).trans hc0
      have q1 := (hnx.cell (p := ⟨B1, 0, none⟩) l1).trans f1
      have q2 := (hnx.cell (p := ⟨B2, 0, none⟩) l2).trans f2
      have r1 := (hnx.cell (p := ⟨b1, o1 + k, none⟩) lb1).trans (g1 k (by omega))
      have r2 := (hnx.cell (p := ⟨b2, o2 + (t - k), none⟩) lb2).trans (g2 (t - k) (by omega))
      obtain ⟨m1, m2⟩ := sx k
      obtain ⟨m3, m4⟩ := sy (t - k)
      obtain ⟨fn, tmps, assign, body, hy, hR⟩ := hY _ (k, nth xs k + nth ys (t - k)) wr.drew (hJd _ _ hJs) (by rw [came_length]; exact hlt)
      dsimp only [encP] at hy
      have hkx : k < xs.length := by omega
      have hky : t - k < ys.length := by omega
      have hsub : IntKind.i64.wrap ((t : Int) - (k : Int)) = ((t - k : Nat) : Int) := by rw [IntWalk.i64_in _ (by omega)]; omega
      have hsum : IntKind.i64.wrap (nth xs k + nth ys (t - k)) = nth xs k + nth ys (t - k) := IntWalk.i64_in _ (by omega)
      clear g1 g2 hY
      gi_wp2
      refine wpIn_region_still_tail 15 (by kernel_rfl) (by kernel_rfl) ?_
      simp only [List.take_succ_cons, List.take_zero, List.drop_succ_cons, List.drop_zero]
      repeat still_step
      try refine wpStill_nil ?_
      gi_wp2
      refine hR.mono ?_
      rintro e W3 (⟨rfl, hJ3, hk3⟩ | ⟨rfl, hJx3⟩)
      · gi_wp2
        go_roundw
        case rel => exact ⟨k + 1, by omega, by simp, by rw [came_succ]; exact hJ3, hnx.trans (((Below.refl _ wr).drew).trans (hk3.mono hn0))⟩
        case measure => simp [intOf]; omega
      · gi_wp2
        refine bodyPost_ret (results_none rfl _ _ _) rfl ?_
        exact ⟨⟨_, rfl⟩, .inr ⟨_, trivial, hJx3⟩⟩
    · have hltz : ¬ (k : Int) < (t : Int) + 1 := by omega
      obtain rfl : k = t + 1 := by omega
      gi_wp2
      go_end0
      exact ⟨⟨_, rfl⟩, .inl hJs⟩

theorem divided_stops (n : Nat) (hn : 1 ≤ n) (B0 B1 B2 t : Nat) (xs ys : List Int) (w : World) (hc0 : w.cell? ⟨B0, 0, none⟩ = some (.int .i64 t)) (hB0 : B0 < w.heap.size) (hx : Held w B1 0 xs) (hy : Held w B2 0 ys)
    (h1 : t < xs.length) (h2 : t < ys.length) (hm : xs.length ≤ 1000) (sx : Small xs) (sy : Small ys) :
    SeqStopsK Fence.wide n Try.prog 120 #[.pointer (some ⟨B0, 0, none⟩), .pointer (some ⟨B1, 0, none⟩), .pointer (some ⟨B2, 0, none⟩)] encP (Below w.heap.size) (fun zs => zs = came (fun s => (s, nth xs s + nth ys (t - s))) (t + 1)) (fun _ => True) (t + 1) w :=
  fun l J Jx W hW hJ _ hY h0 => divided1_in n hn l w.heap.size B0 B1 B2 t xs ys J Jx hY (fun s W' h => hJ s W' _ none h ⟨rfl, rfl, rfl, Nat.le_refl _, fun _ _ _ => rfl⟩ (fun _ e => by cases e)) w W (Nat.le_refl _) hW hc0 hB0 hx hy h1 h2 hm sx sy h0

/-- The first one of some numbered things than which none is better. -/
def bestL (bt : Int → Int → Bool) : List (Nat × Int) → Option (Nat × Int) := List.foldl (fun o x => match o with | none => some x | some y => if bt x.2 y.2 then some x else some y) none
theorem bestL_snoc (bt : Int → Int → Bool) (pre : List (Nat × Int)) (x : Nat × Int) : bestL bt (pre ++ [x]) = match bestL bt pre with | none => some x | some y => if bt x.2 y.2 then some x else some y := by simp [bestL]

def bAt (o : Option (Nat × Int)) : Int := match o with | none => 0 | some y => y.1
def bOut (o : Option (Nat × Int)) : Int := match o with | none => 0 | some y => y.2

/-- What best's own cells hold when 'o' is the best so far. -/
def BestC (H gb : Nat) (o : Option (Nat × Int)) (W : World) : Prop :=
  W.cell? ⟨H, 0, none⟩ = some (.func (.func gb) #[] #[]) ∧ (W.cell? ⟨H + 1, 0, none⟩ = some (.int .i64 (bOut o)) ∧ W.frozen? ⟨H + 1, 0, none⟩ = false) ∧
  (W.cell? ⟨H + 1 + 1, 0, none⟩ = some (.int .i64 (bAt o)) ∧ W.frozen? ⟨H + 1 + 1, 0, none⟩ = false) ∧
  (W.cell? ⟨H + 1 + 1 + 1, 0, none⟩ = some (.bool o.isSome) ∧ W.frozen? ⟨H + 1 + 1 + 1, 0, none⟩ = false)
theorem bestC_own (H gb : Nat) (bt : Int → Int → Bool) : Go.Own (fun pre W => BestC H gb (bestL bt pre) W) := fun _ _ _ _ hs hg hr =>
  ⟨cell_kept hs.1 hg hr, ⟨cell_kept hs.2.1.1 hg hr, (frozen_kept hs.2.1.1 hg hr).trans hs.2.1.2⟩, ⟨cell_kept hs.2.2.1.1 hg hr, (frozen_kept hs.2.2.1.1 hg hr).trans hs.2.2.1.2⟩, ⟨cell_kept hs.2.2.2.1 hg hr, (frozen_kept hs.2.2.2.1 hg hr).trans hs.2.2.2.2⟩⟩
/-- Behind the three stores of a better one. -/
theorem bestC_stored {H gb : Nat} {o : Option (Nat × Int)} {W : World} (h : BestC H gb o W) (x : Nat × Int) :
    BestC H gb (some x) (((W.setCell ⟨H + 1 + 1, 0, none⟩ (.int .i64 x.1)).setCell ⟨H + 1, 0, none⟩ (.int .i64 x.2)).setCell ⟨H + 1 + 1 + 1, 0, none⟩ (.bool true)) := by
  obtain ⟨c0, ⟨c1, f1⟩, ⟨c2, f2⟩, ⟨c3, f3⟩⟩ := h
  have n1 : ∀ (w : World) (p q : Addr) (v : Value), p.block ≠ q.block → (w.setCell p v).cell? q = w.cell? q := fun w p q v hne => World.cell?_setCell_other w p q v (fun e => hne (by rw [e]))
  refine ⟨?_, ⟨?_, by simpa only [World.frozen?_setCell] using f1⟩, ⟨?_, by simpa only [World.frozen?_setCell] using f2⟩, ⟨?_, by simpa only [World.frozen?_setCell] using f3⟩⟩
  · rw [n1 _ _ _ _ (by simp; omega), n1 _ _ _ _ (by simp), n1 _ _ _ _ (by simp; omega)]; exact c0
  · rw [n1 _ _ _ _ (by simp; omega)]
    exact World.cell?_setCell_same' _ _ _ (by rw [n1 _ _ _ _ (by simp), c1]; rfl)
  · rw [n1 _ _ _ _ (by simp), n1 _ _ _ _ (by simp)]
    exact World.cell?_setCell_same' _ _ _ (by rw [c2]; rfl)
  · exact World.cell?_setCell_same' _ _ _ (by rw [n1 _ _ _ _ (by simp), n1 _ _ _ _ (by simp), c3]; rfl)

set_option maxRecDepth 100000 in
set_option maxHeartbeats 2000000 in
theorem best_in (n : Nat) (hn : 3 ≤ n) (gf : Nat) (lb : Array Value) (eg : ∀ args w, (callFunc gf args).run Try.prog w = .ok (.enter gf args) w) (gb : Nat) (bt : Int → Int → Bool) (eb : ∀ args w, (callFunc gb args).run Try.prog w = .ok (.enter gb args) w)
    (hb : ∀ (x y : Int) (W : World), Calls Try.prog gb #[.int .i64 x, .int .i64 y] W fun e w' => e = .returned (.bool (bt x y)) ∧ W = w') (N : Nat) (zs : List (Nat × Int)) (w : World)
    (hseq : SeqStopsK Fence.wide (n - 1) Try.prog gf lb encP (Below w.heap.size) (fun z => z = zs) (fun _ => True) N w) :
    CallsIn Fence.wide n Try.prog 83 #[.func (.func gf) #[] lb, .func (.func gb) #[] #[]] w fun e w' => e = .returned (.tuple #[.int .i64 (bAt (bestL bt zs)), .int .i64 (bOut (bestL bt zs))]) ∧ Below w.heap.size w w' := by
  have h1 : 1 ≤ n := by omega
  refine callsIn_of_wp_marks Try.func83 rfl trivial ?_ rfl
  simp only [Try.ntmps83, List.size_toArray, List.length_cons, List.length_nil, Nat.reduceAdd, Nat.reduceSub, Array.replicate_succ, Array.replicate_zero, List.push_toArray, List.append_toArray, List.nil_append, List.cons_append]
  gi_wp2
  have hB0 : Below w.heap.size w ((((w.alloc (Obj.cells #[Value.func (Fn.func gb) #[] #[]] 105)).alloc (Obj.cells #[Value.int IntKind.i64 0] 3)).alloc (Obj.cells #[Value.int IntKind.i64 0] 3)).alloc (Obj.cells #[Value.bool false] 4)) :=
    ((((Below.refl _ w).alloc (Nat.le_refl _) _).alloc (by simp) _).alloc (by simp; omega) _).alloc (by simp; omega) _
  refine wpIn_rangeFunc_ownF rfl h1 (gf := gf) (lb := lb) rfl trivial eg hseq belowK_t (belowK_b (by simp; omega)) hB0 (fun _ => rfl)
    (fun pre W => BestC w.heap.size gb (bestL bt pre) W ∧ Below w.heap.size w W)
    (fun _ _ _ => False)
    (OwnFrom.and (Own.from (bestC_own _ _ _) _) (ownFrom_below (Nat.le_refl _) (by simp; omega)))
    (fun _ _ _ _ _ hs _ _ => hs)
    ⟨⟨by simp [go_sem], ⟨by simp [go_sem, bestL, bOut], by simp [go_sem]⟩, ⟨by simp [go_sem, bestL, bAt], by simp [go_sem]⟩, ⟨by simp [go_sem, bestL], by simp [go_sem]⟩⟩, hB0⟩
    (fun x => { tmps := #[.func (.func gf) #[] lb, .func (.func gb) #[] #[], undef, .pointer (some ⟨w.heap.size, 0, none⟩), .int .i64 0, .int .i64 0, .pointer (some ⟨w.heap.size + 1, 0, none⟩), .pointer (some ⟨w.heap.size + 1 + 1, 0, none⟩), .pointer (some ⟨w.heap.size + 1 + 1 + 1, 0, none⟩),
      .int .i64 (x.1 : Int), .int .i64 x.2, .func (.func gf) #[] lb, .int .i64 (x.1 : Int), .int .i64 x.2, undef, undef, undef, undef, undef, undef, undef, undef, undef, undef, undef, undef], defers := [] }) ?assign ?body ?done ?stop
  case assign =>
    intro l x W K hK
    gi_wp2
    exact hK
  case body =>
    rintro l pre x W ⟨hC, hB⟩ _
    have hd : 1 ≤ n - 1 - 1 := by omega
    have K1 : KeepsOthers W (((W.setCell ⟨w.heap.size + 1 + 1, 0, none⟩ (.int .i64 x.1)).setCell ⟨w.heap.size + 1, 0, none⟩ (.int .i64 x.2)).setCell ⟨w.heap.size + 1 + 1 + 1, 0, none⟩ (.bool true)) :=
      ((KeepsOthers.setCell _ _ _).trans (KeepsOthers.setCell _ _ _)).trans (KeepsOthers.setCell _ _ _)
    have B1 : Below w.heap.size W (((W.setCell ⟨w.heap.size + 1 + 1, 0, none⟩ (.int .i64 x.1)).setCell ⟨w.heap.size + 1, 0, none⟩ (.int .i64 x.2)).setCell ⟨w.heap.size + 1 + 1 + 1, 0, none⟩ (.bool true)) :=
      (((Below.refl _ W).setCell (by show w.heap.size ≤ w.heap.size + 1 + 1; omega) _).setCell (by show w.heap.size ≤ w.heap.size + 1; omega) _).setCell (by show w.heap.size ≤ w.heap.size + 1 + 1 + 1; omega) _
    have HS := Lib.hid (And.intro K1 (And.intro B1 (bestC_stored hC x)))
    have hsn := bestL_snoc bt pre x
    have HB := Lib.hid hB
    have HC := Lib.hid hC
    obtain ⟨c0, ⟨c1, f1⟩, ⟨c2, f2⟩, ⟨c3, f3⟩⟩ := hC
    clear K1 B1 hseq hB0 hB
    cases hbest : bestL bt pre with
    | none =>
      rw [hbest] at c1 c2 c3 hsn
      simp only [Option.isSome] at c3
      dsimp only at hsn
      have HE := Lib.hid hsn
      clear hbest hsn hb eb eg
      gi_wp2
      all_goals
        refine ⟨fun _ h => (by cases h), ?_⟩
        gi_wp2
        refine ⟨HS.out.1, HS.out.2.1, ?_, HB.out.trans HS.out.2.1⟩
        rw [HE.out]
        exact HS.out.2.2
    | some y =>
      rw [hbest] at c1 c2 c3 hsn HC
      simp only [Option.isSome, bOut] at c1 c3
      dsimp only at hsn
      clear hbest eg
      cases hq : bt x.2 y.2
      · rw [hq] at hsn
        simp only [Bool.false_eq_true, if_false] at hsn
        have HE := Lib.hid hsn
        have hc : CallsIn (Fence.wide.inRound l) (n - 1 - 1 - 1) Try.prog gb #[.int .i64 x.2, .int .i64 y.2] W fun e w' => e = .returned (.bool false) ∧ W = w' := CallsIn.inRound l (callsIn_wide.2 (by have := hb x.2 y.2 W; rwa [hq] at this))
        clear hsn hb hq
        gi_wp2_with (refine ⟨trivial, ?_⟩; gi_at_fn gb; refine hc.mono ?_; rintro e w' ⟨rfl, rfl⟩)
        refine ⟨KeepsOthers.refl _, Below.refl _ _, ?_, HB.out⟩
        rw [HE.out]
        exact HC.out
      · rw [hq] at hsn
        simp only [if_true] at hsn
        have HE := Lib.hid hsn
        have hc : CallsIn (Fence.wide.inRound l) (n - 1 - 1 - 1) Try.prog gb #[.int .i64 x.2, .int .i64 y.2] W fun e w' => e = .returned (.bool true) ∧ W = w' := CallsIn.inRound l (callsIn_wide.2 (by have := hb x.2 y.2 W; rwa [hq] at this))
        clear hsn hb hq
        gi_wp2_with (refine ⟨trivial, ?_⟩; gi_at_fn gb; refine hc.mono ?_; rintro e w' ⟨rfl, rfl⟩)
        refine ⟨HS.out.1, HS.out.2.1, ?_, HB.out.trans HS.out.2.1⟩
        rw [HE.out]
        exact HS.out.2.2
  case done =>
    rintro D ys W hD rfl ⟨⟨c0, ⟨c1, f1⟩, ⟨c2, f2⟩, ⟨c3, f3⟩⟩, hB⟩ hK
    gi_wp2
    gi_region
    all_goals gi_wp2
    all_goals
      refine ⟨by simp, .inl ⟨_, _, rfl, run_takeDeferred hK, ?_⟩⟩
      exact ⟨_, results_tmp2 rfl _ _ _, rfl, (hB.drew).trans (belowK_b (w := w) (Nat.le_refl _) W.drew D _ _ (by simp at hD; omega) hK rfl rfl)⟩
  case stop =>
    rintro D c pre W _ _ h _
    exact h.elim
end Go.Proofs.Ytknkneccnhgjmaa
namespace Go.Proofs.Ytknkneccnhgjmaa
open Go.RowKit Go.Shelf

/-- The first number up to k at which h is best. -/
def argb (bt : Int → Int → Bool) (h : Nat → Int) : Nat → Nat
  | 0 => 0
  | k + 1 => if bt (h (k + 1)) (h (argb bt h k)) then k + 1 else argb bt h k
theorem argb_le (bt : Int → Int → Bool) (h : Nat → Int) (k : Nat) : argb bt h k ≤ k := by
  induction k with
  | zero => exact Nat.le_refl _
  | succ k ih => unfold argb; split <;> omega
theorem bestL_came (bt : Int → Int → Bool) (h : Nat → Int) (k : Nat) : bestL bt (came (fun s => (s, h s)) (k + 1)) = some (argb bt h k, h (argb bt h k)) := by
  induction k with
  | zero => rfl
  | succ k ih =>
    rw [came_succ, bestL_snoc, ih]
    simp only []
    by_cases hb : bt (h (k + 1)) (h (argb bt h k)) = true
    · simp [argb, hb]
    · simp [argb, hb]

def ltB (a b : Int) : Bool := decide (a < b)
/-- The sum of the parts into which step t is divided at s. -/
def divAt (xs ys : List Int) (t s : Nat) : Int := nth xs s + nth ys (t - s)
def splitAt (xs ys : List Int) (t : Nat) : Nat := argb ltB (divAt xs ys t) t
def joinAt (xs ys : List Int) (t : Nat) : Int := divAt xs ys t (splitAt xs ys t)

def RDiv (w : World) (A1 A2 : Option Addr) (n1 c1 n2 c2 : Nat) (t : Int) (e : Ending) (w' : World) : Prop :=
  e = .returned (.func (.func 120) #[] #[.pointer (some ⟨w.heap.size + 1 + 1, 0, none⟩), .pointer (some ⟨w.heap.size, 0, none⟩), .pointer (some ⟨w.heap.size + 1, 0, none⟩)]) ∧
    w' = ((w.alloc (.cells #[.slice A1 n1 c1] 26)).alloc (.cells #[.slice A2 n2 c2] 26)).alloc (.cells #[.int .i64 t] 3)

theorem divided_any (A1 A2 : Option Addr) (n1 c1 n2 c2 : Nat) (t : Int) (w : World) :
    Calls Try.prog 84 #[.agg #[.slice A1 n1 c1], .agg #[.slice A2 n2 c2], .int .i64 t] w fun e w' => RDiv w A1 A2 n1 c1 n2 c2 t e w' := by
  go_enter Try.func84, Try.ntmps84
  go_wp2
  go_ret
  exact ⟨rfl, rfl⟩

theorem eg120 : ∀ args w, (callFunc 120 args).run Try.prog w = .ok (.enter 120 args) w := enters_of Try.func120 (by kernel_rfl) rfl
theorem eg85 : ∀ args w, (callFunc 85 args).run Try.prog w = .ok (.enter 85 args) w := enters_of Try.func85 (by kernel_rfl) rfl
theorem eg107 : ∀ args w, (callFunc 107 args).run Try.prog w = .ok (.enter 107 args) w := enters_of Try.func107 (by kernel_rfl) rfl

/-- best over divided's closure. -/
theorem bestDiv_any (B0 B1 B2 t : Nat) (xs ys : List Int) (w : World) (hc0 : w.cell? ⟨B0, 0, none⟩ = some (.int .i64 t)) (hB0 : B0 < w.heap.size) (hx : Held w B1 0 xs) (hy : Held w B2 0 ys)
    (h1 : t < xs.length) (h2 : t < ys.length) (hm : xs.length ≤ 1000) (sx : Small xs) (sy : Small ys) :
    Calls Try.prog 83 #[.func (.func 120) #[] #[.pointer (some ⟨B0, 0, none⟩), .pointer (some ⟨B1, 0, none⟩), .pointer (some ⟨B2, 0, none⟩)], .func (.func 85) #[] #[]] w
      fun e w' => e = .returned (.tuple #[.int .i64 (splitAt xs ys t), .int .i64 (joinAt xs ys t)]) ∧ Below w.heap.size w w' := by
  have h := callsIn_wide.1 (best_in 3 (by omega) 120 _ eg120 85 ltB eg85 (fun x y W => lt_any x y W) (t + 1) _ w (divided_stops 2 (by omega) B0 B1 B2 t xs ys w hc0 hB0 hx hy h1 h2 hm sx sy))
  have e : bestL ltB (came (fun s => (s, nth xs s + nth ys (t - s))) (t + 1)) = some (splitAt xs ys t, joinAt xs ys t) := bestL_came ltB (divAt xs ys t) t
  rw [e] at h
  exact h

set_option maxHeartbeats 400000 in
theorem join1_any (t : Nat) (B1 B2 : Nat) (xs ys : List Int) (w : World) (hx : Held w B1 0 xs) (hy : Held w B2 0 ys) (h1 : t < xs.length) (h2 : t < ys.length) (hm : xs.length ≤ 1000) (sx : Small xs) (sy : Small ys) :
    Calls Try.prog 118 #[.int .i64 t, .pointer (some ⟨B1, 0, none⟩), .pointer (some ⟨B2, 0, none⟩)] w fun e w' => e = .returned (.int .i64 (joinAt xs ys t)) ∧ Below w.heap.size w w' := by
  obtain ⟨l1, A1, c1, f1, r1⟩ := hx
  obtain ⟨l2, A2, c2, f2, r2⟩ := hy
  have hb0 : Below w.heap.size w (((w.alloc (.cells #[.slice A1 xs.length c1] 26)).alloc (.cells #[.slice A2 ys.length c2] 26)).alloc (.cells #[.int .i64 t] 3)) := (((Below.refl _ w).alloc (Nat.le_refl _) _).alloc (by simp) _).alloc (by simp; omega) _
  have hb := bestDiv_any (w.heap.size + 1 + 1) w.heap.size (w.heap.size + 1) t xs ys (((w.alloc (.cells #[.slice A1 xs.length c1] 26)).alloc (.cells #[.slice A2 ys.length c2] 26)).alloc (.cells #[.int .i64 t] 3))
    (by simp [go_sem]) (by simp) ⟨by simp; omega, A1, c1, by simp [go_sem], (r1.below hb0 (Nat.le_refl _)).mono (by simp; omega)⟩ ⟨by simp, A2, c2, by simp [go_sem], (r2.below hb0 (Nat.le_refl _)).mono (by simp; omega)⟩ h1 h2 hm sx sy
  have HB := Lib.hid (And.intro hb hb0)
  clear hb hb0 r1 r2
  go_enter Try.func118, Try.ntmps118
  go_wp2_with (first | (go_at_call 84; refine (divided_any _ _ _ _ _ _ _ _).mono ?_; rintro e w' ⟨rfl, rfl⟩) | (go_at_call 83; refine HB.out.1.mono ?_; rintro e w' ⟨rfl, hb'⟩))
  go_ret
  exact ⟨rfl, HB.out.2.trans (hb'.mono (by simp; omega))⟩
end Go.Proofs.Ytknkneccnhgjmaa
namespace Go.Proofs.Ytknkneccnhgjmaa
open Go.RowKit Go.Shelf

/-- The curve of n numbers. -/
def tab (n : Nat) (F : Nat → Int) : List Int := (List.range n).map F
theorem tab_length (n : Nat) (F : Nat → Int) : (tab n F).length = n := by simp [tab]
theorem nth_tab {n : Nat} {F : Nat → Int} {i : Nat} (h : i < n) : nth (tab n F) i = F i := by simp [nth, tab, List.getD, h]

theorem RSlice.mk {w w' : World} {xs : List Int} {A : Option Addr} {c n : Nat} (hn : n = xs.length) (h1 : Rd w' w'.heap.size A xs) (h2 : Fresh w.heap.size A) (h3 : Below w.heap.size w w') : RSlice w xs (.returned (.slice A n c)) w' :=
  ⟨A, c, by rw [hn], h1, h2, h3⟩

/-- each over a function value that keeps all that lay. -/
theorem each_pure (g : Nat) (caps : Array Value) (eg : ∀ args w, (callFunc g args).run Try.prog w = .ok (.enter g args) w) (n : Nat) (h1 : 1 ≤ n) (hn : n ≤ 121) (F : Nat → Int) (w : World)
    (hcall : ∀ (t : Nat) (W : World), t < n → Below w.heap.size w W → Calls Try.prog g (#[.int .i64 t] ++ caps) W fun e W' => e = .returned (.int .i64 (F t)) ∧ Below W.heap.size W W') :
    Calls Try.prog 71 #[.int .i64 n, .func (.func g) #[] caps] w fun e w' => RCurve w (tab n F) e w' := by
  refine (each_any g caps eg n h1 hn F (fun _ W => Below w.heap.size w W) w (Below.refl _ _) ⟨fun t W W' h h' => h.trans h', fun t W ht hI _ => (hcall t W ht hI).mono fun e W' ⟨he, hb⟩ => ⟨he, hI.trans (hb.mono hI.size), Above.of_below hb⟩⟩).mono ?_
  rintro e w' ⟨A, c, rfl, hrd, hfr, hb⟩
  exact ⟨A, c, by rw [tab_length], hrd, hfr, hb⟩

def lowerL (xs ys : List Int) : List Int := tab xs.length fun t => min (nth xs t) (nth ys t)
def leadL (xs ys : List Int) : List Int := tab xs.length fun t => leadAt xs ys t
def joinL (xs ys : List Int) : List Int := tab xs.length fun t => joinAt xs ys t

/-- The world in which each is called by a function of two curves. -/
def w2c (w : World) (A1 A2 : Option Addr) (n1 c1 n2 c2 : Nat) : World := ((w.alloc (.cells #[.slice A1 n1 c1] 26)).alloc (.cells #[.slice A2 n2 c2] 26)).alloc (.cells #[.slice none 0 0] 26)

theorem w2c_below (w : World) (A1 A2 : Option Addr) (n1 c1 n2 c2 : Nat) : Below w.heap.size w (w2c w A1 A2 n1 c1 n2 c2) := (((Below.refl _ w).alloc (Nat.le_refl _) _).alloc (by simp) _).alloc (by simp; omega) _
theorem w2c_size (w : World) (A1 A2 : Option Addr) (n1 c1 n2 c2 : Nat) : (w2c w A1 A2 n1 c1 n2 c2).heap.size = w.heap.size + 3 := by simp [w2c]
theorem w2c_held {w : World} {A1 A2 : Option Addr} {c1 c2 : Nat} {xs ys : List Int} (r1 : Rd w w.heap.size A1 xs) (r2 : Rd w w.heap.size A2 ys) :
    Held (w2c w A1 A2 xs.length c1 ys.length c2) w.heap.size 0 xs ∧ Held (w2c w A1 A2 xs.length c1 ys.length c2) (w.heap.size + 1) 0 ys := by
  have hb := w2c_below w A1 A2 xs.length c1 ys.length c2
  have hs := w2c_size w A1 A2 xs.length c1 ys.length c2
  exact ⟨⟨by omega, A1, c1, by simp [w2c, go_sem], (r1.below hb (Nat.le_refl _)).mono (by omega)⟩, ⟨by omega, A2, c2, by simp [w2c, go_sem], (r2.below hb (Nat.le_refl _)).mono (by omega)⟩⟩

theorem eg121 : ∀ args w, (callFunc 121 args).run Try.prog w = .ok (.enter 121 args) w := enters_of Try.func121 (by kernel_rfl) rfl
theorem eg117 : ∀ args w, (callFunc 117 args).run Try.prog w = .ok (.enter 117 args) w := enters_of Try.func117 (by kernel_rfl) rfl
theorem eg118 : ∀ args w, (callFunc 118 args).run Try.prog w = .ok (.enter 118 args) w := enters_of Try.func118 (by kernel_rfl) rfl

/-- What a function leaves that stores the curve of a callee in its result's cell. -/
theorem fin_curve {w w1 : World} {H g : Nat} {zs : List Int} {A : Option Addr} {c : Nat} (h0 : Below w.heap.size w w1) (hH : w.heap.size ≤ H) (hrd : Rd w1 w1.heap.size A zs) (hfr : Fresh H A) (hg : w.heap.size ≤ g) (hg2 : g < H) :
    RCurve w zs (.returned (.agg #[.slice A zs.length c])) (w1.setCell ⟨g, 0, none⟩ (.slice A zs.length c)) :=
  ⟨A, c, rfl, by rw [World.size_setCell]; exact hrd.setCell (fun ad e => by have := hfr ad e; show ad.block ≠ g; omega) _, hfr.mono hH, h0.setCell (by exact hg) _⟩

set_option maxHeartbeats 400000 in
theorem lower_any (A1 A2 : Option Addr) (c1 c2 : Nat) (xs ys : List Int) (w : World) (r1 : Rd w w.heap.size A1 xs) (r2 : Rd w w.heap.size A2 ys) (h1 : 1 ≤ xs.length) (h2 : xs.length ≤ 121) (h3 : ys.length = xs.length) :
    Calls Try.prog 87 #[.agg #[.slice A1 xs.length c1], .agg #[.slice A2 ys.length c2]] w fun e w' => RCurve w (lowerL xs ys) e w' := by
  obtain ⟨hx, hy⟩ := w2c_held (c1 := c1) (c2 := c2) r1 r2
  have hb0 := w2c_below w A1 A2 xs.length c1 ys.length c2
  have hs0 := w2c_size w A1 A2 xs.length c1 ys.length c2
  have he := each_pure 121 #[.pointer (some ⟨w.heap.size, 0, none⟩), .pointer (some ⟨w.heap.size + 1, 0, none⟩)] eg121 xs.length h1 h2 (fun t => min (nth xs t) (nth ys t)) (w2c w A1 A2 xs.length c1 ys.length c2)
    (fun t W ht hW => lower1_any t _ _ xs ys W (hx.below hW) (hy.below hW) ht (by omega))
  have HE := Lib.hid (And.intro he (And.intro hb0 hs0))
  clear he hb0 hs0 hx hy r1 r2 h3
  go_enter Try.func87, Try.ntmps87
  go_wp2_with (go_at_call 71; refine HE.out.1.mono ?_)
  rintro e w1 ⟨A, c, rfl, hrd, hfr, hb⟩
  obtain ⟨rc, rf⟩ := bcell hb
  have q1 : w1.cell? ⟨w.heap.size + 1 + 1, 0, none⟩ = some (.slice none 0 0) := by rw [rc _ _ (by rw [HE.out.2.2]; omega)]; simp [w2c, go_sem]
  have q2 : w1.frozen? ⟨w.heap.size + 1 + 1, 0, none⟩ = false := by rw [rf _ _ (by rw [HE.out.2.2]; omega)]; simp [w2c, go_sem]
  have hfin := fin_curve (c := c) (g := w.heap.size + 1 + 1) (HE.out.2.1.trans (hb.mono (by rw [HE.out.2.2]; omega))) (by rw [HE.out.2.2]; omega) hrd hfr (by omega) (by rw [HE.out.2.2]; omega)
  have HF := Lib.hid hfin
  clear hfin hrd hfr hb rc rf
  go_wp2
  exact bodyPost_ret (v := .agg #[.slice A (tab xs.length fun t => min (nth xs t) (nth ys t)).length c]) (by simp [results, Try.results87, go_sem, q1]) rfl HF.out
set_option maxHeartbeats 400000 in
theorem lead_any (A1 A2 : Option Addr) (c1 c2 : Nat) (xs ys : List Int) (w : World) (r1 : Rd w w.heap.size A1 xs) (r2 : Rd w w.heap.size A2 ys) (h1 : 1 ≤ xs.length) (h2 : xs.length ≤ 121) (h3 : ys.length = xs.length) (sx : Small xs) (sy : Small ys) :
    Calls Try.prog 79 #[.agg #[.slice A1 xs.length c1], .agg #[.slice A2 ys.length c2]] w fun e w' => RCurve w (leadL xs ys) e w' := by
  obtain ⟨hx, hy⟩ := w2c_held (c1 := c1) (c2 := c2) r1 r2
  have hb0 := w2c_below w A1 A2 xs.length c1 ys.length c2
  have hs0 := w2c_size w A1 A2 xs.length c1 ys.length c2
  have he := each_pure 117 #[.pointer (some ⟨w.heap.size, 0, none⟩), .pointer (some ⟨w.heap.size + 1, 0, none⟩)] eg117 xs.length h1 h2 (fun t => leadAt xs ys t) (w2c w A1 A2 xs.length c1 ys.length c2)
    (fun t W ht hW => lead1_any t _ _ xs ys W (hx.below hW) (hy.below hW) ht h3 (by omega) sx sy)
  have HE := Lib.hid (And.intro he (And.intro hb0 hs0))
  clear he hb0 hs0 hx hy r1 r2 h3
  go_enter Try.func79, Try.ntmps79
  go_wp2_with (go_at_call 71; refine HE.out.1.mono ?_)
  rintro e w1 ⟨A, c, rfl, hrd, hfr, hb⟩
  obtain ⟨rc, rf⟩ := bcell hb
  have q1 : w1.cell? ⟨w.heap.size + 1 + 1, 0, none⟩ = some (.slice none 0 0) := by rw [rc _ _ (by rw [HE.out.2.2]; omega)]; simp [w2c, go_sem]
  have q2 : w1.frozen? ⟨w.heap.size + 1 + 1, 0, none⟩ = false := by rw [rf _ _ (by rw [HE.out.2.2]; omega)]; simp [w2c, go_sem]
  have hfin := fin_curve (c := c) (g := w.heap.size + 1 + 1) (HE.out.2.1.trans (hb.mono (by rw [HE.out.2.2]; omega))) (by rw [HE.out.2.2]; omega) hrd hfr (by omega) (by rw [HE.out.2.2]; omega)
  have HF := Lib.hid hfin
  clear hfin hrd hfr hb rc rf
  go_wp2
  exact bodyPost_ret (v := .agg #[.slice A (tab xs.length fun t => leadAt xs ys t).length c]) (by simp [results, Try.results79, go_sem, q1]) rfl HF.out
set_option maxHeartbeats 400000 in
theorem join_any (A1 A2 : Option Addr) (c1 c2 : Nat) (xs ys : List Int) (w : World) (r1 : Rd w w.heap.size A1 xs) (r2 : Rd w w.heap.size A2 ys) (h1 : 1 ≤ xs.length) (h2 : xs.length ≤ 121) (h3 : ys.length = xs.length) (sx : Small xs) (sy : Small ys) :
    Calls Try.prog 81 #[.agg #[.slice A1 xs.length c1], .agg #[.slice A2 ys.length c2]] w fun e w' => RCurve w (joinL xs ys) e w' := by
  obtain ⟨hx, hy⟩ := w2c_held (c1 := c1) (c2 := c2) r1 r2
  have hb0 := w2c_below w A1 A2 xs.length c1 ys.length c2
  have hs0 := w2c_size w A1 A2 xs.length c1 ys.length c2
  have he := each_pure 118 #[.pointer (some ⟨w.heap.size, 0, none⟩), .pointer (some ⟨w.heap.size + 1, 0, none⟩)] eg118 xs.length h1 h2 (fun t => joinAt xs ys t) (w2c w A1 A2 xs.length c1 ys.length c2)
    (fun t W ht hW => join1_any t _ _ xs ys W (hx.below hW) (hy.below hW) ht (by omega) (by omega) sx sy)
  have HE := Lib.hid (And.intro he (And.intro hb0 hs0))
  clear he hb0 hs0 hx hy r1 r2 h3
  go_enter Try.func81, Try.ntmps81
  go_wp2_with (go_at_call 71; refine HE.out.1.mono ?_)
  rintro e w1 ⟨A, c, rfl, hrd, hfr, hb⟩
  obtain ⟨rc, rf⟩ := bcell hb
  have q1 : w1.cell? ⟨w.heap.size + 1 + 1, 0, none⟩ = some (.slice none 0 0) := by rw [rc _ _ (by rw [HE.out.2.2]; omega)]; simp [w2c, go_sem]
  have q2 : w1.frozen? ⟨w.heap.size + 1 + 1, 0, none⟩ = false := by rw [rf _ _ (by rw [HE.out.2.2]; omega)]; simp [w2c, go_sem]
  have hfin := fin_curve (c := c) (g := w.heap.size + 1 + 1) (HE.out.2.1.trans (hb.mono (by rw [HE.out.2.2]; omega))) (by rw [HE.out.2.2]; omega) hrd hfr (by omega) (by rw [HE.out.2.2]; omega)
  have HF := Lib.hid hfin
  clear hfin hrd hfr hb rc rf
  go_wp2
  exact bodyPost_ret (v := .agg #[.slice A (tab xs.length fun t => joinAt xs ys t).length c]) (by simp [results, Try.results81, go_sem, q1]) rfl HF.out
end Go.Proofs.Ytknkneccnhgjmaa
