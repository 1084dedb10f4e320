/- Walks: right. | Plain: inside a fence: a region that draws its order, which only reads but for one operation that makes or writes, and goes on in one forced order behind it. No program here. | Walks: Check. | Plain: right works; feeders; heads. | Walks: heads. -/
import Derived.Test.YtegmniphgahblaaGreatM1
import Derived.StillTail
import Derived.OrdersHeld
import Derived.OrdersIn
import Derived.TacticsIn
import Derived.TacticsInMore
import Derived.Deep.AppendLies
namespace Go.Proofs.YtegmniphgahblaaGreat
open Go.RowKit

/-- A pass that is in its range, and greater than the one before it. -/
def incAt (ps : List Int) (i : Nat) : Bool := withinB (nth ps i) 0 1048576 && (decide (i = 0) || decide (nth ps (i - 1) < nth ps i))
def incB (ps : List Int) : Bool := (List.range ps.length).all (incAt ps)
theorem incB_iff {ps : List Int} : incB ps = true ↔ ∀ i, i < ps.length → incAt ps i = true := by
 unfold incB
 rw [List.all_eq_true]
 exact ⟨fun h i hi => h i (by simpa using hi), fun h i hi => h i (by simpa using hi)⟩
theorem incB_false {ps : List Int} {i : Nat} (hi : i < ps.length) (h : incAt ps i = false) : incB ps = false := by
 cases hb : incB ps
 ·rfl
 ·rw [incB_iff.1 hb i hi] at h; cases h
/-- An outlet of carrier c, of n carriers, that is right but for its passes. -/
def headB (n : Nat) (c : Nat) (o : Ot) : Bool :=
 withinB o.id 1 1099511627776 && (!(o.into != -1) || withinB o.into ((c : Int) + 1) ((n : Int) - 1)) && withinB (o.ps.length : Int) 1 8 && spanB o.kl o.kh 1048576 && spanB o.sl o.sh 1048576
def rightB (n : Nat) (c : Nat) (o : Ot) : Bool := headB n c o && incB o.ps

structure RtW (w W : World) (S V : Value) (x0 x1 x3 x4 x5 x6 : Int) : Prop where
 c0 : W.cell? ⟨w.heap.size, 0, none⟩ = some S
 d0 : W.cell? ⟨w.heap.size + 1, 0, none⟩ = some (.int .i64 x0)
 d1 : W.cell? ⟨w.heap.size + 1, 1, none⟩ = some (.int .i64 x1)
 d2 : W.cell? ⟨w.heap.size + 1, 2, none⟩ = some V
 d3 : W.cell? ⟨w.heap.size + 1, 3, none⟩ = some (.int .i64 x3)
 d4 : W.cell? ⟨w.heap.size + 1, 4, none⟩ = some (.int .i64 x4)
 d5 : W.cell? ⟨w.heap.size + 1, 5, none⟩ = some (.int .i64 x5)
 d6 : W.cell? ⟨w.heap.size + 1, 6, none⟩ = some (.int .i64 x6)
 bl : Below w.heap.size w W
 lt : w.heap.size + 1 < W.heap.size
theorem RtW.ext {w W W' : World} {S V : Value} {x0 x1 x3 x4 x5 x6 : Int} (h : RtW w W S V x0 x1 x3 x4 x5 x6) (hb : Below W.heap.size W W') : RtW w W' S V x0 x1 x3 x4 x5 x6 := by
 have hl := h.lt
 have c : ∀ g j, g < W.heap.size → W'.cell? ⟨g, j, none⟩ = W.cell? ⟨g, j, none⟩ := fun g j hg => hb.cell (p := ⟨g, j, none⟩) hg
 exact ⟨(c _ _ (by omega)).trans h.c0, (c _ _ hl).trans h.d0, (c _ _ hl).trans h.d1, (c _ _ hl).trans h.d2, (c _ _ hl).trans h.d3, (c _ _ hl).trans h.d4, (c _ _ hl).trans h.d5, (c _ _ hl).trans h.d6, h.bl.trans (hb.mono h.bl.size), Nat.lt_of_lt_of_le hl hb.size⟩

set_option maxRecDepth 100000 in
set_option maxHeartbeats 1600000 in
theorem right_any (A : Option Addr) (c n k : Nat) (o : Ot) (w : World) (h : Rd w w.heap.size o.P o.ps) (hm : n ≤ maxLen) (hk : k ≤ 1000000) (hp : o.ps.length ≤ maxLen) :
  Calls Tryz.prog 65 #[.agg #[.slice A n c], .int .i64 k, o.v] w fun e w' => e = .returned (.bool (rightB n k o)) ∧ Below w.heap.size w w' := by
 have hh : headB n k o = (withinB o.id 1 1099511627776 && (!(o.into != -1) || withinB o.into ((k : Int) + 1) ((n : Int) - 1)) && withinB (o.ps.length : Int) 1 8 && spanB o.kl o.kh 1048576 && spanB o.sl o.sh 1048576) := rfl
 have hd : rightB n k o = (headB n k o && incB o.ps) := rfl
 generalize rightB n k o = R at *
 generalize headB n k o = H at *
 obtain ⟨oid, oin, P, pc, ps, kl, kh, sl, sh⟩ := o
 unfold Ot.v
 dsimp only at hh hd h hp ⊢
 have hK : RtW w ((w.alloc (.cells #[.slice A n c] 24)).alloc (.cells #[.int .i64 oid, .int .i64 oin, .slice P ps.length pc, .int .i64 kl, .int .i64 kh, .int .i64 sl, .int .i64 sh] 69)) (.slice A n c) (.slice P ps.length pc) oid oin kl kh sl sh := by
  refine ⟨?_, ?_, ?_, ?_, ?_, ?_, ?_, ?_, ((Below.refl _ w).alloc (Nat.le_refl _) _).alloc (by simp) _, by simp⟩
  all_goals simp [go_sem]
 have K := Lib.hid hK
 have hwr1 : IntKind.i64.wrap ((k : Int) + 1) = (k : Int) + 1 := IntWalk.i64_in _ (by omega)
 have hwr2 : IntKind.i64.wrap ((n : Int) - 1) = (n : Int) - 1 := IntWalk.i64_in _ (by unfold maxLen at hm; omega)
 have HR := Lib.hid h
 clear hK h
 unfold maxLen at hm hp
 have HH := hd2 hd hh
 clear hd hh
 cases hb1 : withinB oid 1 1099511627776
 ·skip
  obtain ⟨hd, hh⟩ := HH.out
  have hH : H = false := by rw [hh, hb1]; simp
  subst hH
  rw [Bool.false_and] at hd
  subst hd
  clear HH hh
  go_enter Tryz.func65, Tryz.ntmps65
  go_upto_region 1 with fail
  generalize hgW : (w.alloc (.cells #[.slice A n c] 24)).alloc (.cells #[.int .i64 oid, .int .i64 oin, .slice P ps.length pc, .int .i64 kl, .int .i64 kh, .int .i64 sl, .int .i64 sh] 69) = W1 at *
  obtain ⟨c0, d0, d1, d2, d3, d4, d5, d6, _, _⟩ := K.out
  clear hgW
  go_wp2_with (first
   | (go_at_call 36; refine (within_any _ _ _ _).mono ?_; rintro e y ⟨rfl, rfl⟩)
   | (go_at_call 66; have _t := K1; clear _t; refine (span_any _ _ _ _).mono ?_; rintro e y2 ⟨rfl, hb⟩; have K2 := Lib.hid (K1.out.ext hb); clear hb)
   | (go_at_call 66; refine (span_any _ _ _ _).mono ?_; rintro e y1 ⟨rfl, hb⟩; have K1 := Lib.hid (K.out.ext hb); have t5 := K1.out.d5; have t6 := K1.out.d6; clear hb))
  go_ret
  exact ⟨rfl, K.out.bl⟩
 ·skip
  cases hb2 : (oin != -1)
  ·skip
   cases hb4 : withinB (ps.length : Int) 1 8
   ·skip
    obtain ⟨hd, hh⟩ := HH.out
    have hH : H = false := by rw [hh, hb1, hb2, hb4]; simp
    subst hH
    rw [Bool.false_and] at hd
    subst hd
    clear HH hh
    go_enter Tryz.func65, Tryz.ntmps65
    go_upto_region 1 with fail
    generalize hgW : (w.alloc (.cells #[.slice A n c] 24)).alloc (.cells #[.int .i64 oid, .int .i64 oin, .slice P ps.length pc, .int .i64 kl, .int .i64 kh, .int .i64 sl, .int .i64 sh] 69) = W1 at *
    obtain ⟨c0, d0, d1, d2, d3, d4, d5, d6, _, _⟩ := K.out
    clear hgW
    go_wp2_with (first
     | (go_at_call 36; refine (within_any _ _ _ _).mono ?_; rintro e y ⟨rfl, rfl⟩)
     | (go_at_call 66; have _t := K1; clear _t; refine (span_any _ _ _ _).mono ?_; rintro e y2 ⟨rfl, hb⟩; have K2 := Lib.hid (K1.out.ext hb); clear hb)
     | (go_at_call 66; refine (span_any _ _ _ _).mono ?_; rintro e y1 ⟨rfl, hb⟩; have K1 := Lib.hid (K.out.ext hb); have t5 := K1.out.d5; have t6 := K1.out.d6; clear hb))
    go_ret
    exact ⟨rfl, K.out.bl⟩
   ·skip
    cases hb5 : spanB kl kh 1048576
    ·skip
     obtain ⟨hd, hh⟩ := HH.out
     have hH : H = false := by rw [hh, hb1, hb2, hb4, hb5]; simp
     subst hH
     rw [Bool.false_and] at hd
     subst hd
     clear HH hh
     go_enter Tryz.func65, Tryz.ntmps65
     go_upto_region 1 with fail
     generalize hgW : (w.alloc (.cells #[.slice A n c] 24)).alloc (.cells #[.int .i64 oid, .int .i64 oin, .slice P ps.length pc, .int .i64 kl, .int .i64 kh, .int .i64 sl, .int .i64 sh] 69) = W1 at *
     obtain ⟨c0, d0, d1, d2, d3, d4, d5, d6, _, _⟩ := K.out
     clear hgW
     go_wp2_with (first
      | (go_at_call 36; refine (within_any _ _ _ _).mono ?_; rintro e y ⟨rfl, rfl⟩)
      | (go_at_call 66; have _t := K1; clear _t; refine (span_any _ _ _ _).mono ?_; rintro e y2 ⟨rfl, hb⟩; have K2 := Lib.hid (K1.out.ext hb); clear hb)
      | (go_at_call 66; refine (span_any _ _ _ _).mono ?_; rintro e y1 ⟨rfl, hb⟩; have K1 := Lib.hid (K.out.ext hb); have t5 := K1.out.d5; have t6 := K1.out.d6; clear hb))
     go_ret
     exact ⟨rfl, K1.out.bl⟩
    ·skip
     cases hb6 : spanB sl sh 1048576
     ·skip
      obtain ⟨hd, hh⟩ := HH.out
      have hH : H = false := by rw [hh, hb1, hb2, hb4, hb5, hb6]; simp
      subst hH
      rw [Bool.false_and] at hd
      subst hd
      clear HH hh
      go_enter Tryz.func65, Tryz.ntmps65
      go_upto_region 1 with fail
      generalize hgW : (w.alloc (.cells #[.slice A n c] 24)).alloc (.cells #[.int .i64 oid, .int .i64 oin, .slice P ps.length pc, .int .i64 kl, .int .i64 kh, .int .i64 sl, .int .i64 sh] 69) = W1 at *
      obtain ⟨c0, d0, d1, d2, d3, d4, d5, d6, _, _⟩ := K.out
      clear hgW
      go_wp2_with (first
       | (go_at_call 36; refine (within_any _ _ _ _).mono ?_; rintro e y ⟨rfl, rfl⟩)
       | (go_at_call 66; have _t := K1; clear _t; refine (span_any _ _ _ _).mono ?_; rintro e y2 ⟨rfl, hb⟩; have K2 := Lib.hid (K1.out.ext hb); clear hb)
       | (go_at_call 66; refine (span_any _ _ _ _).mono ?_; rintro e y1 ⟨rfl, hb⟩; have K1 := Lib.hid (K.out.ext hb); have t5 := K1.out.d5; have t6 := K1.out.d6; clear hb))
      go_ret
      exact ⟨rfl, K2.out.bl⟩
     ·skip
      obtain ⟨hd, hh⟩ := HH.out
      have hH : H = true := by rw [hh, hb1, hb2, hb4, hb5, hb6]; simp
      subst hH
      rw [Bool.true_and] at hd
      have HD := Lib.hid hd
      clear HH hd hh
      go_enter Tryz.func65, Tryz.ntmps65
      go_upto_region 1 with fail
      generalize hgW : (w.alloc (.cells #[.slice A n c] 24)).alloc (.cells #[.int .i64 oid, .int .i64 oin, .slice P ps.length pc, .int .i64 kl, .int .i64 kh, .int .i64 sl, .int .i64 sh] 69) = W1 at *
      obtain ⟨c0, d0, d1, d2, d3, d4, d5, d6, _, _⟩ := K.out
      clear hgW
      go_upto_region 3 with (first
       | (go_at_call 36; refine (within_any _ _ _ _).mono ?_; rintro e y ⟨rfl, rfl⟩)
       | (go_at_call 66; have _t := K1; clear _t; refine (span_any _ _ _ _).mono ?_; rintro e y2 ⟨rfl, hb⟩; have K2 := Lib.hid (K1.out.ext hb); clear hb)
       | (go_at_call 66; refine (span_any _ _ _ _).mono ?_; rintro e y1 ⟨rfl, hb⟩; have K1 := Lib.hid (K.out.ext hb); have t5 := K1.out.d5; have t6 := K1.out.d6; clear hb))
      have d2' := K2.out.d2
      have HRd := Lib.hid (HR.out.below K2.out.bl (Nat.le_refl _))
      have hlt2 := K2.out.lt
      clear c0 d0 d1 d2 d3 d4 d5 d6 t5 t6 K1 K
      go_wp2
      go_loopg [7, 8, 52] ps.length (fun gg _ _ i wr => ∃ t : Nat, t ≤ ps.length ∧ ps.length - t ≤ gg ∧ i = .int .i64 t ∧ y2 = wr ∧ Aside (∀ j, j < t → incAt ps j = true))
      case atStart => exact ⟨0, Nat.zero_le _, by omega, rfl, rfl, fun j hj => absurd hj (Nat.not_lt_zero _)⟩
      case round =>
       obtain ⟨t, ht, hg, rfl, rfl, hA⟩ := hrel
       by_cases hlt : t < ps.length
       rotate_left
       ·have hltz : ¬ (t : Int) < (ps.length : Int) := by omega
        obtain rfl : t = ps.length := by omega
        have hI := incB_iff.2 hA.out
        rw [hI] at HD
        have hr := HD.out
        subst hr
        go_wp2
        go_ret
        exact ⟨rfl, K2.out.bl⟩
       have hltz : (t : Int) < (ps.length : Int) := by omega
       obtain ⟨b, off, rfl, lb, hc⟩ := HRd.out (by omega)
       have k1 := hc t hlt
       have hat : incAt ps t = (withinB (nth ps t) 0 1048576 && (decide (t = 0) || decide (nth ps (t - 1) < nth ps t))) := rfl
       have hno := fun (h : incAt ps t = false) => HD.out.trans (incB_false hlt h)
       have HNo := Lib.hid hno
       have HA := Lib.hid hA.out
       clear hno hA HD
       cases hw : withinB (nth ps t) 0 1048576
       ·have hr := HNo.out (by rw [hat, hw]; rfl)
        subst hr
        clear hc
        go_wp2_with (first
       | (go_at_call 36; refine (within_any _ _ _ _).mono ?_; rintro e y ⟨rfl, rfl⟩)
       | (go_at_call 66; have _t := K1; clear _t; refine (span_any _ _ _ _).mono ?_; rintro e y2 ⟨rfl, hb⟩; have K2 := Lib.hid (K1.out.ext hb); clear hb)
       | (go_at_call 66; refine (span_any _ _ _ _).mono ?_; rintro e y1 ⟨rfl, hb⟩; have K1 := Lib.hid (K.out.ext hb); have t5 := K1.out.d5; have t6 := K1.out.d6; clear hb))
        go_ret
        exact ⟨rfl, K2.out.bl⟩
       ·by_cases h0 : t = 0
        ·subst h0
         have HT := Lib.hid (show incAt ps 0 = true by rw [hat, hw]; rfl)
         clear hc hat
         rw [Nat.add_zero] at k1
         go_wp2_with (first
       | (go_at_call 36; refine (within_any _ _ _ _).mono ?_; rintro e y ⟨rfl, rfl⟩)
       | (go_at_call 66; have _t := K1; clear _t; refine (span_any _ _ _ _).mono ?_; rintro e y2 ⟨rfl, hb⟩; have K2 := Lib.hid (K1.out.ext hb); clear hb)
       | (go_at_call 66; refine (span_any _ _ _ _).mono ?_; rintro e y1 ⟨rfl, hb⟩; have K1 := Lib.hid (K.out.ext hb); have t5 := K1.out.d5; have t6 := K1.out.d6; clear hb))
         go_roundg (ps.length - 1)
         case measure => omega
         case rel => exact ⟨1, by omega, by omega, by go_num, rfl, (show Aside _ from fun j hj => by
          obtain rfl : j = 0 := by omega
          exact HT.out)⟩
        ·have h0z : (0 : Int) < (t : Int) := by omega
         have k2 := hc (t - 1) (by omega)
         have hwr3 : IntKind.i64.wrap ((t : Int) - 1) = ((t - 1 : Nat) : Int) := by rw [IntWalk.i64_in _ (by omega)]; omega
         have hz1 : (0 : Int) ≤ ((t - 1 : Nat) : Int) := by omega
         have hz2 : ((t - 1 : Nat) : Int) < (ps.length : Int) := by omega
         by_cases hq : nth ps (t - 1) < nth ps t
         ·have HT := Lib.hid (show incAt ps t = true by rw [hat, hw, decide_eq_true hq]; simp)
          have hq2 : ¬ nth ps t ≤ nth ps (t - 1) := by omega
          clear hc hat hq
          generalize nth ps (t - 1) = x1 at *
          generalize nth ps t = x2 at *
          go_wp2_with (first
       | (go_at_call 36; refine (within_any _ _ _ _).mono ?_; rintro e y ⟨rfl, rfl⟩)
       | (go_at_call 66; have _t := K1; clear _t; refine (span_any _ _ _ _).mono ?_; rintro e y2 ⟨rfl, hb⟩; have K2 := Lib.hid (K1.out.ext hb); clear hb)
       | (go_at_call 66; refine (span_any _ _ _ _).mono ?_; rintro e y1 ⟨rfl, hb⟩; have K1 := Lib.hid (K.out.ext hb); have t5 := K1.out.d5; have t6 := K1.out.d6; clear hb))
          go_roundg (ps.length - (t + 1))
          case measure => omega
          case rel => exact ⟨t + 1, by omega, by omega, by go_num, rfl, (show Aside _ from fun j hj => by
           by_cases e : j = t
           ·subst e; exact HT.out
           ·exact HA.out j (by omega))⟩
         ·have hr := HNo.out (by rw [hat, hw, decide_eq_false hq, decide_eq_false h0]; rfl)
          have hq2 : nth ps t ≤ nth ps (t - 1) := by omega
          subst hr
          clear hc hat hq
          generalize nth ps (t - 1) = x1 at *
          generalize nth ps t = x2 at *
          go_wp2_with (first
       | (go_at_call 36; refine (within_any _ _ _ _).mono ?_; rintro e y ⟨rfl, rfl⟩)
       | (go_at_call 66; have _t := K1; clear _t; refine (span_any _ _ _ _).mono ?_; rintro e y2 ⟨rfl, hb⟩; have K2 := Lib.hid (K1.out.ext hb); clear hb)
       | (go_at_call 66; refine (span_any _ _ _ _).mono ?_; rintro e y1 ⟨rfl, hb⟩; have K1 := Lib.hid (K.out.ext hb); have t5 := K1.out.d5; have t6 := K1.out.d6; clear hb))
          go_ret
          exact ⟨rfl, K2.out.bl⟩
  ·skip
   cases hb3 : withinB oin ((k : Int) + 1) ((n : Int) - 1)
   ·skip
    obtain ⟨hd, hh⟩ := HH.out
    have hH : H = false := by rw [hh, hb1, hb2, hb3]; simp
    subst hH
    rw [Bool.false_and] at hd
    subst hd
    clear HH hh
    go_enter Tryz.func65, Tryz.ntmps65
    go_upto_region 1 with fail
    generalize hgW : (w.alloc (.cells #[.slice A n c] 24)).alloc (.cells #[.int .i64 oid, .int .i64 oin, .slice P ps.length pc, .int .i64 kl, .int .i64 kh, .int .i64 sl, .int .i64 sh] 69) = W1 at *
    obtain ⟨c0, d0, d1, d2, d3, d4, d5, d6, _, _⟩ := K.out
    clear hgW
    go_wp2_with (first
     | (go_at_call 36; refine (within_any _ _ _ _).mono ?_; rintro e y ⟨rfl, rfl⟩)
     | (go_at_call 66; have _t := K1; clear _t; refine (span_any _ _ _ _).mono ?_; rintro e y2 ⟨rfl, hb⟩; have K2 := Lib.hid (K1.out.ext hb); clear hb)
     | (go_at_call 66; refine (span_any _ _ _ _).mono ?_; rintro e y1 ⟨rfl, hb⟩; have K1 := Lib.hid (K.out.ext hb); have t5 := K1.out.d5; have t6 := K1.out.d6; clear hb))
    go_ret
    exact ⟨rfl, K.out.bl⟩
   ·skip
    cases hb4 : withinB (ps.length : Int) 1 8
    ·skip
     obtain ⟨hd, hh⟩ := HH.out
     have hH : H = false := by rw [hh, hb1, hb2, hb3, hb4]; simp
     subst hH
     rw [Bool.false_and] at hd
     subst hd
     clear HH hh
     go_enter Tryz.func65, Tryz.ntmps65
     go_upto_region 1 with fail
     generalize hgW : (w.alloc (.cells #[.slice A n c] 24)).alloc (.cells #[.int .i64 oid, .int .i64 oin, .slice P ps.length pc, .int .i64 kl, .int .i64 kh, .int .i64 sl, .int .i64 sh] 69) = W1 at *
     obtain ⟨c0, d0, d1, d2, d3, d4, d5, d6, _, _⟩ := K.out
     clear hgW
     go_wp2_with (first
      | (go_at_call 36; refine (within_any _ _ _ _).mono ?_; rintro e y ⟨rfl, rfl⟩)
      | (go_at_call 66; have _t := K1; clear _t; refine (span_any _ _ _ _).mono ?_; rintro e y2 ⟨rfl, hb⟩; have K2 := Lib.hid (K1.out.ext hb); clear hb)
      | (go_at_call 66; refine (span_any _ _ _ _).mono ?_; rintro e y1 ⟨rfl, hb⟩; have K1 := Lib.hid (K.out.ext hb); have t5 := K1.out.d5; have t6 := K1.out.d6; clear hb))
     go_ret
     exact ⟨rfl, K.out.bl⟩
    ·skip
     cases hb5 : spanB kl kh 1048576
     ·skip
      obtain ⟨hd, hh⟩ := HH.out
      have hH : H = false := by rw [hh, hb1, hb2, hb3, hb4, hb5]; simp
      subst hH
      rw [Bool.false_and] at hd
      subst hd
      clear HH hh
      go_enter Tryz.func65, Tryz.ntmps65
      go_upto_region 1 with fail
      generalize hgW : (w.alloc (.cells #[.slice A n c] 24)).alloc (.cells #[.int .i64 oid, .int .i64 oin, .slice P ps.length pc, .int .i64 kl, .int .i64 kh, .int .i64 sl, .int .i64 sh] 69) = W1 at *
      obtain ⟨c0, d0, d1, d2, d3, d4, d5, d6, _, _⟩ := K.out
      clear hgW
      go_wp2_with (first
       | (go_at_call 36; refine (within_any _ _ _ _).mono ?_; rintro e y ⟨rfl, rfl⟩)
       | (go_at_call 66; have _t := K1; clear _t; refine (span_any _ _ _ _).mono ?_; rintro e y2 ⟨rfl, hb⟩; have K2 := Lib.hid (K1.out.ext hb); clear hb)
       | (go_at_call 66; refine (span_any _ _ _ _).mono ?_; rintro e y1 ⟨rfl, hb⟩; have K1 := Lib.hid (K.out.ext hb); have t5 := K1.out.d5; have t6 := K1.out.d6; clear hb))
      go_ret
      exact ⟨rfl, K1.out.bl⟩
     ·skip
      cases hb6 : spanB sl sh 1048576
      ·skip
       obtain ⟨hd, hh⟩ := HH.out
       have hH : H = false := by rw [hh, hb1, hb2, hb3, hb4, hb5, hb6]; simp
       subst hH
       rw [Bool.false_and] at hd
       subst hd
       clear HH hh
       go_enter Tryz.func65, Tryz.ntmps65
       go_upto_region 1 with fail
       generalize hgW : (w.alloc (.cells #[.slice A n c] 24)).alloc (.cells #[.int .i64 oid, .int .i64 oin, .slice P ps.length pc, .int .i64 kl, .int .i64 kh, .int .i64 sl, .int .i64 sh] 69) = W1 at *
       obtain ⟨c0, d0, d1, d2, d3, d4, d5, d6, _, _⟩ := K.out
       clear hgW
       go_wp2_with (first
        | (go_at_call 36; refine (within_any _ _ _ _).mono ?_; rintro e y ⟨rfl, rfl⟩)
        | (go_at_call 66; have _t := K1; clear _t; refine (span_any _ _ _ _).mono ?_; rintro e y2 ⟨rfl, hb⟩; have K2 := Lib.hid (K1.out.ext hb); clear hb)
        | (go_at_call 66; refine (span_any _ _ _ _).mono ?_; rintro e y1 ⟨rfl, hb⟩; have K1 := Lib.hid (K.out.ext hb); have t5 := K1.out.d5; have t6 := K1.out.d6; clear hb))
       go_ret
       exact ⟨rfl, K2.out.bl⟩
      ·skip
       obtain ⟨hd, hh⟩ := HH.out
       have hH : H = true := by rw [hh, hb1, hb2, hb3, hb4, hb5, hb6]; simp
       subst hH
       rw [Bool.true_and] at hd
       have HD := Lib.hid hd
       clear HH hd hh
       go_enter Tryz.func65, Tryz.ntmps65
       go_upto_region 1 with fail
       generalize hgW : (w.alloc (.cells #[.slice A n c] 24)).alloc (.cells #[.int .i64 oid, .int .i64 oin, .slice P ps.length pc, .int .i64 kl, .int .i64 kh, .int .i64 sl, .int .i64 sh] 69) = W1 at *
       obtain ⟨c0, d0, d1, d2, d3, d4, d5, d6, _, _⟩ := K.out
       clear hgW
       go_upto_region 3 with (first
        | (go_at_call 36; refine (within_any _ _ _ _).mono ?_; rintro e y ⟨rfl, rfl⟩)
        | (go_at_call 66; have _t := K1; clear _t; refine (span_any _ _ _ _).mono ?_; rintro e y2 ⟨rfl, hb⟩; have K2 := Lib.hid (K1.out.ext hb); clear hb)
        | (go_at_call 66; refine (span_any _ _ _ _).mono ?_; rintro e y1 ⟨rfl, hb⟩; have K1 := Lib.hid (K.out.ext hb); have t5 := K1.out.d5; have t6 := K1.out.d6; clear hb))
       have d2' := K2.out.d2
       have HRd := Lib.hid (HR.out.below K2.out.bl (Nat.le_refl _))
       have hlt2 := K2.out.lt
       clear c0 d0 d1 d2 d3 d4 d5 d6 t5 t6 K1 K
       go_wp2
       go_loopg [7, 8, 52] ps.length (fun gg _ _ i wr => ∃ t : Nat, t ≤ ps.length ∧ ps.length - t ≤ gg ∧ i = .int .i64 t ∧ y2 = wr ∧ Aside (∀ j, j < t → incAt ps j = true))
       case atStart => exact ⟨0, Nat.zero_le _, by omega, rfl, rfl, fun j hj => absurd hj (Nat.not_lt_zero _)⟩
       case round =>
        obtain ⟨t, ht, hg, rfl, rfl, hA⟩ := hrel
        by_cases hlt : t < ps.length
        rotate_left
        ·have hltz : ¬ (t : Int) < (ps.length : Int) := by omega
         obtain rfl : t = ps.length := by omega
         have hI := incB_iff.2 hA.out
         rw [hI] at HD
         have hr := HD.out
         subst hr
         go_wp2
         go_ret
         exact ⟨rfl, K2.out.bl⟩
        have hltz : (t : Int) < (ps.length : Int) := by omega
        obtain ⟨b, off, rfl, lb, hc⟩ := HRd.out (by omega)
        have k1 := hc t hlt
        have hat : incAt ps t = (withinB (nth ps t) 0 1048576 && (decide (t = 0) || decide (nth ps (t - 1) < nth ps t))) := rfl
        have hno := fun (h : incAt ps t = false) => HD.out.trans (incB_false hlt h)
        have HNo := Lib.hid hno
        have HA := Lib.hid hA.out
        clear hno hA HD
        cases hw : withinB (nth ps t) 0 1048576
        ·have hr := HNo.out (by rw [hat, hw]; rfl)
         subst hr
         clear hc
         go_wp2_with (first
        | (go_at_call 36; refine (within_any _ _ _ _).mono ?_; rintro e y ⟨rfl, rfl⟩)
        | (go_at_call 66; have _t := K1; clear _t; refine (span_any _ _ _ _).mono ?_; rintro e y2 ⟨rfl, hb⟩; have K2 := Lib.hid (K1.out.ext hb); clear hb)
        | (go_at_call 66; refine (span_any _ _ _ _).mono ?_; rintro e y1 ⟨rfl, hb⟩; have K1 := Lib.hid (K.out.ext hb); have t5 := K1.out.d5; have t6 := K1.out.d6; clear hb))
         go_ret
         exact ⟨rfl, K2.out.bl⟩
        ·by_cases h0 : t = 0
         ·subst h0
          have HT := Lib.hid (show incAt ps 0 = true by rw [hat, hw]; rfl)
          clear hc hat
          rw [Nat.add_zero] at k1
          go_wp2_with (first
        | (go_at_call 36; refine (within_any _ _ _ _).mono ?_; rintro e y ⟨rfl, rfl⟩)
        | (go_at_call 66; have _t := K1; clear _t; refine (span_any _ _ _ _).mono ?_; rintro e y2 ⟨rfl, hb⟩; have K2 := Lib.hid (K1.out.ext hb); clear hb)
        | (go_at_call 66; refine (span_any _ _ _ _).mono ?_; rintro e y1 ⟨rfl, hb⟩; have K1 := Lib.hid (K.out.ext hb); have t5 := K1.out.d5; have t6 := K1.out.d6; clear hb))
          go_roundg (ps.length - 1)
          case measure => omega
          case rel => exact ⟨1, by omega, by omega, by go_num, rfl, (show Aside _ from fun j hj => by
           obtain rfl : j = 0 := by omega
           exact HT.out)⟩
         ·have h0z : (0 : Int) < (t : Int) := by omega
          have k2 := hc (t - 1) (by omega)
          have hwr3 : IntKind.i64.wrap ((t : Int) - 1) = ((t - 1 : Nat) : Int) := by rw [IntWalk.i64_in _ (by omega)]; omega
          have hz1 : (0 : Int) ≤ ((t - 1 : Nat) : Int) := by omega
          have hz2 : ((t - 1 : Nat) : Int) < (ps.length : Int) := by omega
          by_cases hq : nth ps (t - 1) < nth ps t
          ·have HT := Lib.hid (show incAt ps t = true by rw [hat, hw, decide_eq_true hq]; simp)
           have hq2 : ¬ nth ps t ≤ nth ps (t - 1) := by omega
           clear hc hat hq
           generalize nth ps (t - 1) = x1 at *
           generalize nth ps t = x2 at *
           go_wp2_with (first
        | (go_at_call 36; refine (within_any _ _ _ _).mono ?_; rintro e y ⟨rfl, rfl⟩)
        | (go_at_call 66; have _t := K1; clear _t; refine (span_any _ _ _ _).mono ?_; rintro e y2 ⟨rfl, hb⟩; have K2 := Lib.hid (K1.out.ext hb); clear hb)
        | (go_at_call 66; refine (span_any _ _ _ _).mono ?_; rintro e y1 ⟨rfl, hb⟩; have K1 := Lib.hid (K.out.ext hb); have t5 := K1.out.d5; have t6 := K1.out.d6; clear hb))
           go_roundg (ps.length - (t + 1))
           case measure => omega
           case rel => exact ⟨t + 1, by omega, by omega, by go_num, rfl, (show Aside _ from fun j hj => by
            by_cases e : j = t
            ·subst e; exact HT.out
            ·exact HA.out j (by omega))⟩
          ·have hr := HNo.out (by rw [hat, hw, decide_eq_false hq, decide_eq_false h0]; rfl)
           have hq2 : nth ps t ≤ nth ps (t - 1) := by omega
           subst hr
           clear hc hat hq
           generalize nth ps (t - 1) = x1 at *
           generalize nth ps t = x2 at *
           go_wp2_with (first
        | (go_at_call 36; refine (within_any _ _ _ _).mono ?_; rintro e y ⟨rfl, rfl⟩)
        | (go_at_call 66; have _t := K1; clear _t; refine (span_any _ _ _ _).mono ?_; rintro e y2 ⟨rfl, hb⟩; have K2 := Lib.hid (K1.out.ext hb); clear hb)
        | (go_at_call 66; refine (span_any _ _ _ _).mono ?_; rintro e y1 ⟨rfl, hb⟩; have K1 := Lib.hid (K.out.ext hb); have t5 := K1.out.d5; have t6 := K1.out.d6; clear hb))
           go_ret
           exact ⟨rfl, K2.out.bl⟩
end Go.Proofs.YtegmniphgahblaaGreat
namespace Go.Proofs.YtegmniphgahblaaGreat
open Go.RowKit

section
variable {P : Program} {ops : Array Oper} {md : Region.Mode} {S : World → Prop}

/-- A run that yields a value, or nothing. -/
def Did (r : Result Next) (v : Value) (w' : World) : Prop := r = .ok (.value v) w' ∨ (r = .ok .skip w' ∧ v = undef)

/-- Operation number i, which yields a value. -/
def mOpI (P : Program) (ops : Array Oper) (i : Nat) (K : Act → World → Prop) (a : Act) (w : World) : Prop :=
 match ops[i]? with
 | none => K a w
 | some o => if Region.wanted o (yielded ops a.tmps) = true then ∃ v w', Did ((execOp a.eval o).run P w) v w' ∧ K (a.put o.dst v) w' else K (a.put o.dst undef) w

theorem mOp_monoI {i : Nat} {K K' : Act → World → Prop} {a : Act} {w : World} (h : ∀ a w, K a w → K' a w) (hh : mOpI P ops i K a w) : mOpI P ops i K' a w := by
 unfold mOpI at *
 split
 ·rename_i ho; simp only [ho] at hh; exact h _ _ hh
 ·rename_i o ho
  simp only [ho] at hh
  split
  ·rename_i hw
   simp only [hw, if_true] at hh
   obtain ⟨v, w', h1, h2⟩ := hh
   exact ⟨v, w', h1, h _ _ h2⟩
  ·rename_i hw
   simp only [hw] at hh
   exact h _ _ hh

theorem wpOpIn_of_mOpI {F : Fence} {m : Nat} (hF : ∀ f, F.fn f) (hdef : ∀ (i : Nat) (o : Oper) c, ops[i]? = some o → o.op ≠ .defer c) {i : Nat} {K K' : Act → World → Prop} {Q : Exit → Act → World → Prop} {a : Act} {w : World} (h : ∀ a w, K a w → K' a w) (hh : mOpI P ops i K a w) : wpOpIn F m P ops Q i K' a w := by
 unfold mOpI at hh
 unfold wpOpIn
 split
 ·rename_i ho; simp only [ho] at hh; exact h _ _ hh
 ·rename_i o ho
  simp only [ho] at hh
  split
  ·rename_i hw
   simp only [hw, if_true] at hh
   obtain ⟨v, w', h1, h2⟩ := hh
   refine ⟨fun f _ => hF f, ?_⟩
   rw [Oper.semAt_eq _ _ _ (fun c => hdef i o c ho)]
   rcases h1 with h1 | ⟨h1, rfl⟩
   ·rw [h1]; exact h _ _ h2
   ·rw [h1]; exact h _ _ h2
  ·rename_i hw
   simp only [hw] at hh
   exact ⟨fun f _ => hF f, h _ _ hh⟩

theorem mOp_of_yieldsI {i : Nat} {o : Oper} {v : Value} {a : Act} {w : World} (hi : ops[i]? = some o) (hy : YieldsIf P ops S o v a) (hS : S w) {K : Act → World → Prop} (h : K (a.put o.dst v) w) : mOpI P ops i K a w := by
 unfold mOpI
 simp only [hi]
 rcases hy with ⟨hw, hv⟩ | ⟨hw, rfl⟩
 ·simp only [hw, if_true]; exact ⟨v, w, .inl (hv w hS), h⟩
 ·simp only [hw, Bool.false_eq_true, if_false]; exact h

theorem mOp_putI {j : Nat} {oi oj : Oper} {v : Value} (hj : ops[j]? = some oj) (hap : oi.apart ops oj = true)
  (hsi : ∀ cs b, oi.op ≠ .select cs b) (hsj : ∀ cs b, oj.op ≠ .select cs b) {K : Act → World → Prop} {a : Act} {w : World}
  (hy : YieldsIf P ops S oi v a) (h : mOpI P ops j K (a.put oi.dst v) w) :
  mOpI P ops j (fun a' w' => YieldsIf P ops S oi v a' ∧ K (a'.put oi.dst v) w') a w := by
 obtain ⟨h1, h2, h3⟩ := Oper.apart_spec hap
 have keep : ∀ (a : Act), YieldsIf P ops S oi v a → ∀ u, YieldsIf P ops S oi v (a.put oj.dst u) := fun a hy u =>
  hy.of_same (execOp_put oi hsi a oj.dst u h3) (wanted_put oi a oj.dst u h3)
 unfold mOpI at *
 simp only [hj] at *
 rw [wanted_put oj a oi.dst v h1] at h
 split
 ·rename_i hw
  simp only [hw, if_true] at h
  rw [execOp_put oj hsj a oi.dst v h1] at h
  obtain ⟨u, w', e1, e2⟩ := h
  exact ⟨u, w', e1, keep a hy u, by rw [← Act.put_comm a v u h2]; exact e2⟩
 ·rename_i hw
  simp only [hw] at h
  exact ⟨keep a hy _, by rw [← Act.put_comm a v undef h2]; exact h⟩

/-- Whatever order is picked: the first f operations are of the head, and leave a world that meets S. -/
def wpAnyMI (P : Program) (md : Region.Mode) (ops : Array Oper) (S : World → Prop) (n : Nat) (L : Array Bool → Act → World → Prop) : Nat → Array Bool → Act → World → Prop
 | 0, listed, a, w => L listed a w
 | f + 1, listed, a, w => Region.ready md ops listed ≠ [] ∧ ∀ i ∈ Region.ready md ops listed, i < n ∧ mOpI P ops i (fun a' w' => S w' ∧ wpAnyMI P md ops S n L f (listed.setIfInBounds i true) a' w') a w

theorem wpAny_of_madeI {F : Fence} {m : Nat} (hF : ∀ f, F.fn f) (hdef : ∀ (i : Nat) (o : Oper) c, ops[i]? = some o → o.op ≠ .defer c) {n g : Nat} {L : Array Bool → Act → World → Prop} {Q' : Exit → Act → World → Prop} (hL : ∀ listed a w, L listed a w → wpAnyIn F m P md ops Q' g listed a w) :
  ∀ (f : Nat) (listed : Array Bool) (a : Act) (w : World), wpAnyMI P md ops S n L f listed a w → wpAnyIn F m P md ops Q' (f + g) listed a w
 | 0, listed, a, w, h => by rw [Nat.zero_add]; exact hL _ _ _ h
 | f + 1, listed, a, w, h => by
  rw [show f + 1 + g = (f + g) + 1 by omega]
  exact ⟨fun h0 => absurd h0 h.1, fun i hi => wpOpIn_of_mOpI hF hdef (fun a' w' h' => wpAny_of_madeI hF hdef hL f _ a' w' h'.2) (h.2 i hi).2⟩

theorem wpAnyM_firstI {n i : Nat} {oi : Oper} {v : Value} {L : Array Bool → Act → World → Prop} (hi : ops[i]? = some oi) (hsel : ∀ (j : Nat) (o : Oper) cs b, ops[j]? = some o → o.op ≠ .select cs b)
  (hs : Region.sinkB md ops n = true) (hc : Region.chainB md ops n = true) (hn : n < ops.size) (hin : i < n)
  (hdone : ∀ listed a w, L listed a w → ∀ j ∈ Region.ready md ops listed, n ≤ j) :
  ∀ (f : Nat) (listed : Array Bool) (a : Act) (w : World), HeadInv md ops n listed →
   (∀ j oj, ops[j]? = some oj → j ≠ i → listed.getD j true = false → (∀ e ∈ oj.after, Region.binds md e = true → e.on ≠ i) → oi.apart ops oj = true) →
   i ∈ Region.ready md ops listed → YieldsIf P ops S oi v a → S w →
   wpAnyMI P md ops S n L f (listed.setIfInBounds i true) (a.put oi.dst v) w → wpAnyMI P md ops S n L (f + 1) listed a w := by
 intro f
 induction f with
 | zero =>
  intro listed a w inv _ hr hy hS H
  have hun := (mem_ready.1 hr).1
  refine ⟨fun h => (by rw [h] at hr; cases hr), fun j hj => ?_⟩
  have hjn : j < n := by
   rcases Nat.lt_or_ge j n with h | h
   ·exact h
   ·exact absurd hj (tail_waits hs hc hn inv _ i rfl hin hun j h)
  refine ⟨hjn, ?_⟩
  by_cases hji : j = i
  ·subst hji; exact mOp_of_yieldsI hi hy hS ⟨hS, H⟩
  ·have := hdone _ _ _ H j (ready_mono hj hji)
   omega
 | succ f ih =>
  intro listed a w inv hfree hr hy hS H
  have hun := (mem_ready.1 hr).1
  refine ⟨fun h => (by rw [h] at hr; cases hr), fun j hj => ?_⟩
  have hjn : j < n := by
   rcases Nat.lt_or_ge j n with h | h
   ·exact h
   ·exact absurd hj (tail_waits hs hc hn inv _ i rfl hin hun j h)
  refine ⟨hjn, ?_⟩
  by_cases hji : j = i
  ·subst hji; exact mOp_of_yieldsI hi hy hS ⟨hS, H⟩
  ·have h1 := (H.2 j (ready_mono hj hji)).2
   obtain ⟨hjun, oj, hoj, hall⟩ := mem_ready.1 hj
   have hnot : ∀ e ∈ oj.after, Region.binds md e = true → e.on ≠ i := fun e he hb heq => by
    have h1 := hall e he hb
    rw [heq, getD_both hun] at h1
    cases h1
   have h2 := mOp_putI hoj (hfree j oj hoj hji hjun hnot) (fun cs b => hsel i oi cs b hi) (fun cs b => hsel j oj cs b hoj) hy h1
   have hfree' : ∀ k ok, ops[k]? = some ok → k ≠ i → (listed.setIfInBounds j true).getD k true = false →
     (∀ e ∈ ok.after, Region.binds md e = true → e.on ≠ i) → oi.apart ops ok = true := fun k ok hk hki hun hno => by
    refine hfree k ok hk hki ?_ hno
    by_cases hjk : j = k
    ·subst hjk; exact hjun
    ·rw [getD_set_ne true hjk] at hun; exact hun
   refine mOp_monoI (fun a' w' h3 => ⟨h3.2.1, ih (listed.setIfInBounds j true) a' w' (inv.set hj hjn) hfree' (ready_mono hr (Ne.symm hji)) h3.1 h3.2.1 ?_⟩) h2
   rw [Array.setIfInBounds_comm _ _ hji]
   exact h3.2.2

/-- The reads, in the text's order. -/
def wpReadsI (P : Program) (ops : Array Oper) (S : World → Prop) (T : Act → Prop) : List Oper → Act → Prop
 | [], a => T a
 | o :: rest, a => ∃ v, YieldsIf P ops S o v a ∧ wpReadsI P ops S T rest (a.put o.dst v)

theorem wpReads_nilI {T : Act → Prop} {a : Act} (h : T a) : wpReadsI P ops S T [] a := h
theorem wpReads_opI {T : Act → Prop} {o : Oper} {rest : List Oper} {a : Act} {v : Value} (hw : Region.wanted o (yielded ops a.tmps) = true) (hy : ∀ w, S w → (execOp a.eval o).run P w = .ok (.value v) w)
  (h : wpReadsI P ops S T rest (a.put o.dst v)) : wpReadsI P ops S T (o :: rest) a := ⟨v, .inl ⟨hw, hy⟩, h⟩

/-- The make, and what follows it. -/
def makeThenI (F : Fence) (m : Nat) (P : Program) (ops : Array Oper) (S : World → Prop) (Q : Exit → Act → World → Prop) (w : World) (o : Oper) (tail : List Oper) (a : Act) : Prop :=
 Region.wanted o (yielded ops a.tmps) = true ∧ ∃ v w', Did ((execOp a.eval o).run P w) v w' ∧ S w' ∧ wpListIn F m P ops Q tail (a.put o.dst v) w'

def lexMadeBI (md : Region.Mode) (ops : Array Oper) (m : Nat) : Bool :=
 Region.noSelect ops && decide (m + 1 < ops.size) && Region.sinkB md ops (m + 1) && Region.chainB md ops (m + 1) && Region.lexHead md ops (ops.size - m) m 0 (Array.replicate ops.size false)

theorem wpAnyM_lexI {m g : Nat} {T : Act → Prop} {L : Array Bool → Act → World → Prop} {w : World} (hsel : Region.noSelect ops = true) (hs : Region.sinkB md ops (m + 1) = true) (hc : Region.chainB md ops (m + 1) = true) (hn : m + 1 < ops.size)
  (hS : S w) (hdone : ∀ listed a w, L listed a w → ∀ j ∈ Region.ready md ops listed, m + 1 ≤ j)
  (hT : ∀ listed a, Region.seqB md ops (g + 1) m listed = true → T a → wpAnyMI P md ops S (m + 1) L 1 listed a w) :
  ∀ (l : List Oper) (k : Nat) (listed : Array Bool) (a : Act), (∀ j, j < l.length → l[j]? = ops[k + j]?) → k + l.length = m → HeadInv md ops (m + 1) listed →
  Region.lexHead md ops (g + 1) l.length k listed = true → wpReadsI P ops S T l a → wpAnyMI P md ops S (m + 1) L (l.length + 1) listed a w
 | [], k, listed, a, _, hk, _, hB, h => by
  have hkm : k = m := by simpa using hk
  subst hkm
  exact hT listed a (by simpa [Region.lexHead] using hB) h
 | o :: l, k, listed, a, hl, hk, inv, hB, h => by
  have h0 : ops[k]? = some o := by simpa using (hl 0 (by simp)).symm
  simp only [List.length_cons, Region.lexHead, Bool.and_eq_true] at hB
  obtain ⟨⟨hr, hf⟩, hB'⟩ := hB
  have hkn : k < m + 1 := by simp only [List.length_cons] at hk; omega
  have hr' : k ∈ Region.ready md ops listed := by simpa using hr
  obtain ⟨v, hy, hK⟩ := h
  exact wpAnyM_firstI h0 (Region.noSelect_spec hsel) hs hc hn hkn hdone (l.length + 1) listed a w inv (Region.free_spec h0 hf) hr' hy hS
   (wpAnyM_lexI hsel hs hc hn hS hdone hT l (k + 1) _ _ (fun j hj => by have := hl (j + 1) (by simp; omega); simpa [Nat.add_assoc, Nat.add_comm 1 j] using this) (by simp only [List.length_cons] at hk; omega) (inv.set hr' hkn) hB' hK)

def noDeferB (l : List Oper) : Bool := l.all fun o => match o.op with | .defer _ => false | _ => true
theorem noDeferB_spec {l : List Oper} (h : noDeferB l = true) : ∀ (i : Nat) (o : Oper) c, l.toArray[i]? = some o → o.op ≠ .defer c := fun i o c hi e => by
 unfold noDeferB at h
 rw [List.all_eq_true] at h
 have := h o (by
  have : l[i]? = some o := by simpa using hi
  exact List.mem_of_getElem? this)
 rw [e] at this
 cases this

theorem wpAnyIn_of_seqI {F : Fence} {m : Nat} {Q' : Exit → Act → World → Prop} : ∀ (l : List Oper) (k : Nat) (listed : Array Bool) (a : Act) (w : World), (∀ j, l[j]? = ops[k + j]?) →
  Region.seqB md ops l.length k listed = true → wpListIn F m P ops Q' l a w → wpAnyIn F m P md ops Q' l.length listed a w
 | [], _, _, _, _, _, hB, h => ⟨by simpa [Region.seqB] using hB, h⟩
 | o :: l, k, listed, a, w, hl, hB, h => by
  have h0 : ops[k]? = some o := by simpa using (hl 0).symm
  simp only [List.length_cons, Region.seqB, Bool.and_eq_true, decide_eq_true_eq] at hB
  refine ⟨fun h1 => (by rw [hB.1] at h1; cases h1), fun i hi => ?_⟩
  rw [hB.1] at hi
  have hik : i = k := by simpa using hi
  subst hik
  have hw : wpOpIn F m P ops Q' i (wpListIn F m P ops Q' l) a w := by unfold wpOpIn; simp only [h0]; exact h
  exact wpOpIn_mono (fun a' w' h' => wpAnyIn_of_seqI l (i + 1) _ a' w' (fun j => by have := hl (j + 1); simpa [Nat.add_assoc, Nat.add_comm 1 j] using this) hB.2 h') hw

/-- A region that reads, makes or writes once, and goes on in one order: ONE walk. -/
theorem wpIn_region_made {F : Fence} {mF : Nat} (hF : ∀ f, F.fn f) {id : Nat} {Q : Exit → Act → World → Prop} {a : Act} {w : World} {l tail : List Oper} {o : Oper} (S : World → Prop) (m : Nat) (hm : P.follows .mixedOrders = true) (hB : lexMadeBI .any l.toArray m = true) (hdB : noDeferB l = true)
  (ho : l.drop m = o :: tail) (hS : S w.drew) (h : wpReadsI P l.toArray S (makeThenI F mF P l.toArray S Q w.drew o tail) (l.take m) a) : (Code.region id l.toArray true).wpIn F mF P Q a w := by
 simp only [lexMadeBI, Bool.and_eq_true, decide_eq_true_eq] at hB
 obtain ⟨⟨⟨⟨hsel, hn⟩, hs⟩, hc⟩, hlex⟩ := hB
 have hn' : m + 1 < l.length := by simpa using hn
 have htl : (l.take m).length = m := by simp; omega
 have ho1 : l.toArray[m]? = some o := by
  have := congrArg (fun x => x[0]?) ho
  simpa using this
 have ho2 : l.drop (m + 1) = tail := by rw [← List.drop_drop, ho]; rfl
 have hdl : tail.length = l.toArray.size - (m + 1) := by rw [← ho2]; simp
 have inv0 : HeadInv .any l.toArray (m + 1) (Array.replicate l.toArray.size false) :=
  ⟨by simp, fun j oj _ hl => (by rw [getD_replicate_false] at hl; cases hl), fun t _ ht => getD_in (by simpa using ht) (getD_replicate_false _ _)⟩
 have hg : l.toArray.size - m = (l.toArray.size - (m + 1)) + 1 := by omega
 rw [hg] at hlex
 have H := wpAnyM_lexI (P := P) (md := .any) (g := l.toArray.size - (m + 1)) (S := S) (w := w.drew) (L := fun listed a' w' => Region.seqB .any l.toArray (l.toArray.size - (m + 1)) (m + 1) listed = true ∧ wpListIn F mF P l.toArray Q tail a' w') hsel hs hc hn hS
  (fun listed a' w' hL => seqB_ready hL.1)
  (fun listed a' hq hT => by
   simp only [Region.seqB, Bool.and_eq_true, decide_eq_true_eq] at hq
   obtain ⟨hw, v, w', h1, h2, h3⟩ := hT
   refine ⟨fun h0 => (by rw [hq.1] at h0; cases h0), fun i hi => ?_⟩
   have him : i = m := by rw [hq.1] at hi; simpa using hi
   subst him
   refine ⟨by omega, ?_⟩
   unfold mOpI
   simp only [ho1, hw, if_true]
   exact ⟨v, w', h1, h2, hq.2, h3⟩)
  (l.take m) 0 _ a (fun j hj => by
   have hj' : j < m := by rw [htl] at hj; exact hj
   simp [hj']) (by simpa using htl) inv0 (by rw [htl]; exact hlex) h
 refine wpIn_region_any hm ?_
 have := wpAny_of_madeI (F := F) (m := mF) hF (noDeferB_spec hdB) (Q' := Q) (g := l.toArray.size - (m + 1)) (fun listed a' w' hL => by
  have := wpAnyIn_of_seqI (F := F) (m := mF) (md := .any) (Q' := Q) tail (m + 1) listed a' w' (fun j => by rw [← ho2]; simp [List.getElem?_drop]) (by rw [hdl]; exact hL.1) hL.2
  rwa [hdl] at this) _ _ _ _ H
 rw [htl, show m + 1 + (l.toArray.size - (m + 1)) = l.toArray.size by omega] at this
 exact this
end
end Go.Proofs.YtegmniphgahblaaGreat
namespace Go.Proofs.YtegmniphgahblaaGreat
open Go.RowKit Go.Shelf
attribute [local go_sem] Oper.semAt_some

theorem OtAt.up {w : World} {B B' b off : Nat} {o : Ot} (h : OtAt w B b off o) (hB : B ≤ B') : OtAt w B' b off o := ⟨h.c0, h.c1, h.c2, h.c3, h.c4, h.c5, h.c6, h.rd.mono hB⟩
theorem RdO.up {w : World} {B B' : Nat} {A : Option Addr} {l : List Ot} (h : RdO w B A l) (hB : B ≤ B') : RdO w B' A l := fun hn => by
 obtain ⟨b, off, e, hl, hc⟩ := h hn
 exact ⟨b, off, e, by omega, fun i hi => (hc i hi).up hB⟩
theorem RdW.up {w : World} {B B' : Nat} {A : Option Addr} {l : List Car} (h : RdW w B A l) (hB : B ≤ B') : RdW w B' A l := fun hn => by
 obtain ⟨b, off, e, hl, hc⟩ := h hn
 exact ⟨b, off, e, by omega, fun i hi => ⟨(hc i hi).1, (hc i hi).2.up hB⟩⟩
theorem RdW.ext {w w' : World} {A : Option Addr} {l : List Car} (h : RdW w w.heap.size A l) (hb : Below w.heap.size w w') : RdW w' w'.heap.size A l := (h.below hb (Nat.le_refl _)).up hb.size

theorem RdW.passes {w : World} {B : Nat} {A : Option Addr} {ws : List Car} (h : RdW w B A ws) {n : Nat} (hn : n < (outs ws).length) : Rd w B (oAt (outs ws) n).P (oAt (outs ws) n).ps := by
 obtain ⟨c, k, hc, hk, rfl⟩ := place_of hn
 rw [oAt_outs hc hk]
 obtain ⟨b, off, e, hl, hcs⟩ := h (by omega)
 obtain ⟨b2, off2, e2, hl2, hcs2⟩ := (hcs c hc).2 (by omega)
 exact (hcs2 k hk).rd
/-- Works that read, and are not large. -/
structure Wk (w : World) (A : Option Addr) (ws : List Car) : Prop where
 rd : RdW w w.heap.size A ws
 n1 : ws.length ≤ 1000
 n2 : (outs ws).length ≤ 1000
 n3 : ∀ i, i < (outs ws).length → (oAt (outs ws) i).ps.length ≤ maxLen
theorem Wk.ext {w w' : World} {A : Option Addr} {ws : List Car} (h : Wk w A ws) (hb : Below w.heap.size w w') : Wk w' A ws := ⟨h.rd.ext hb, h.n1, h.n2, h.n3⟩

theorem keepsFrom_below {B : Nat} {W W' : World} (hb : Below W.heap.size W W') : KeepsFrom B W W' := ⟨hb.size, fun k _ _ h0 _ => (hb.block k (Array.getElem?_eq_some_iff.1 h0).1).trans h0⟩
theorem right_wf {n c : Nat} {o : Ot} (hn : n ≤ 1000000) (h : rightB n c o = true) : (Lit.int .i64 o.id).wf = true ∧ (Lit.int .i64 o.into).wf = true := by
 unfold rightB headB at h
 simp only [Bool.and_eq_true] at h
 obtain ⟨⟨⟨⟨⟨h1, h2⟩, _⟩, _⟩, _⟩, _⟩ := h
 unfold withinB at h1 h2
 rw [decide_eq_true_eq] at h1
 refine ⟨WalkArith.wf_i64 (by omega), ?_⟩
 rcases Bool.or_eq_true_iff.1 h2 with h2 | h2
 ·have : o.into = -1 := by simpa using h2
  rw [this]; decide
 ·rw [decide_eq_true_eq] at h2
  exact WalkArith.wf_i64 (by omega)

theorem MapI.store {β : Type} {w : World} {b n : Nat} {R : Value → Option (DataW Unit × List MemPlace)} {enc : β → DataW Unit} {f : Int → Option β} {t e : TypeId} (h : MapI w b n R enc f) (ht : Tryz.prog.underlying t = some (.map 3 e)) (hn : n < maxLen) {x : Int} {val : Value} {y : β} {ps : List MemPlace}
  (hw : (Lit.int .i64 x).wf = true) (hv : R val = some (enc y, ps)) : ∃ w', (Instr.mapUpdate t (.map (some b)) (.int .i64 x) val).run Tryz.prog w = .ok () w' ∧ MapI w' b (n + 1) R enc (upd f x y) ∧ w.grownBy w' (some b) := by
 obtain ⟨D, hown, him, hD⟩ := h
 obtain ⟨w', h1, h2, h3⟩ := hown.update keyI ht hn (Maps.keyOf_int_mk Tryz.underlying3 hw) hv
 exact ⟨w', h1, MapI.put h2 him hD, h3⟩

/-- The IDs, and the fed carriers, of some outlets. -/
def idsL (ws : List Car) (l : List (Fin (outs ws).length)) : Int → Option Unit := l.foldl (fun f i => upd f (oAt (outs ws) i.1).id ()) (fun _ => none)
def fedL (ws : List Car) (l : List (Fin (outs ws).length)) : Int → Option Unit := l.foldl (fun f i => upd f (oAt (outs ws) i.1).into ()) (fun _ => none)
theorem idsL_snoc (ws : List Car) (l : List (Fin (outs ws).length)) (x : Fin (outs ws).length) : idsL ws (l ++ [x]) = upd (idsL ws l) (oAt (outs ws) x.1).id () := by simp [idsL]
theorem fedL_snoc (ws : List Car) (l : List (Fin (outs ws).length)) (x : Fin (outs ws).length) : fedL ws (l ++ [x]) = upd (fedL ws l) (oAt (outs ws) x.1).into () := by simp [fedL]
/-- The error that one more outlet makes. -/
def stepE (ws : List Car) (l : List (Fin (outs ws).length)) (x : Fin (outs ws).length) : Int :=
 if rightB ws.length (caAt ws x.1) (oAt (outs ws) x.1) = false then 1 else if (idsL ws l (oAt (outs ws) x.1).id).isSome = true then 6 else if 0 ≤ (oAt (outs ws) x.1).into ∧ (fedL ws l (oAt (outs ws) x.1).into).isSome = true then 6 else 0
def scanS (ws : List Car) (l : List (Fin (outs ws).length)) : Int × List (Fin (outs ws).length) := l.foldl (fun s x => (if s.1 = 0 then stepE ws s.2 x else s.1, s.2 ++ [x])) (0, [])
def scanE (ws : List Car) (l : List (Fin (outs ws).length)) : Int := (scanS ws l).1
theorem scanS_snoc (ws : List Car) (l : List (Fin (outs ws).length)) (x : Fin (outs ws).length) : scanS ws (l ++ [x]) = (if (scanS ws l).1 = 0 then stepE ws (scanS ws l).2 x else (scanS ws l).1, (scanS ws l).2 ++ [x]) := by unfold scanS; rw [List.foldl_append]; rfl
theorem scanS_snd (ws : List Car) : ∀ (k : Nat) (l : List (Fin (outs ws).length)), l.length = k → (scanS ws l).2 = l
 | 0, l, h => by
  have : l = [] := List.length_eq_zero_iff.1 h
  subst this; rfl
 | k + 1, l, h => by
  obtain ⟨pre, x, rfl⟩ : ∃ pre x, l = pre ++ [x] := ⟨l.dropLast, l.getLast (by intro e; rw [e] at h; cases h), (List.dropLast_concat_getLast _).symm⟩
  rw [scanS_snoc, scanS_snd ws k pre (by simpa using h)]
theorem scanE_snoc (ws : List Car) (l : List (Fin (outs ws).length)) (x : Fin (outs ws).length) : scanE ws (l ++ [x]) = if scanE ws l = 0 then stepE ws l x else scanE ws l := by
 unfold scanE
 rw [scanS_snoc, scanS_snd ws _ l rfl]
theorem scanE_stays (ws : List Car) : ∀ (k : Nat) (l m : List (Fin (outs ws).length)), m.length = k → scanE ws l ≠ 0 → scanE ws (l ++ m) = scanE ws l
 | 0, l, m, h, _ => by
  have : m = [] := List.length_eq_zero_iff.1 h
  subst this; rw [List.append_nil]
 | k + 1, l, m, h, h0 => by
  obtain ⟨pre, x, rfl⟩ : ∃ pre x, m = pre ++ [x] := ⟨m.dropLast, m.getLast (by intro e; rw [e] at h; cases h), (List.dropLast_concat_getLast _).symm⟩
  have e := scanE_stays ws k l pre (by simpa using h) h0
  rw [← List.append_assoc, scanE_snoc, e, if_neg h0]
/-- The first error of works. -/
def checkE (ws : List Car) : Int := if 16 < ws.length ∨ 60 < (outs ws).length then 2 else scanE ws (List.finRange (outs ws).length)
theorem scanE_firsts {ws : List Car} {k : Nat} (h : scanE ws (firsts (outs ws).length (k + 1)) ≠ 0) : scanE ws (List.finRange (outs ws).length) = scanE ws (firsts (outs ws).length (k + 1)) := by
 have e : List.finRange (outs ws).length = firsts (outs ws).length (k + 1) ++ (List.finRange (outs ws).length).drop (k + 1) := (List.take_append_drop _ _).symm
 rw [e]
 exact scanE_stays ws _ _ _ rfl h

theorem putObj_cell {W : World} {g i D : Nat} {o : Obj} (h : g ≠ D) : (W.putObj D o).cell? ⟨g, i, none⟩ = W.cell? ⟨g, i, none⟩ := by simp [World.cell?, World.putObj_heap_other h]

/-- What the loop of Check keeps: the result's cell, the two maps and their boxes. -/
structure ChkI (w : World) (G : Nat) (S : Value) (ws : List Car) (pre : List (Fin (outs ws).length)) (W : World) : Prop where
 r : W.cell? ⟨w.heap.size + 1, 0, none⟩ = some (.int .i64 0)
 f : W.frozen? ⟨w.heap.size + 1, 0, none⟩ = false
 c0 : W.cell? ⟨w.heap.size, 0, none⟩ = some S
 b1 : W.cell? ⟨G + 1 + 1, 0, none⟩ = some (.map (some G))
 b2 : W.cell? ⟨G + 1 + 1 + 1, 0, none⟩ = some (.map (some (G + 1)))
 m1 : MapB W G pre.length (idsL ws pre)
 m2 : MapB W (G + 1) pre.length (fedL ws pre)
 bl : Below w.heap.size w W
 g2 : w.heap.size + 2 ≤ G
 lt : G + 5 ≤ W.heap.size
 e : scanE ws pre = 0
theorem ChkI.kept {w : World} {G : Nat} {S : Value} {ws : List Car} {pre : List (Fin (outs ws).length)} {W W' : World} {row : Option Nat} (h : ChkI w G S ws pre W) (hg : W.grownBy W' row) (hr : ∀ r, row = some r → G + 5 ≤ r ∧ ∃ o : Obj, W.heap[r]? = some o ∧ o.isCells = false) : ChkI w G S ws pre W' := by
 have hr2 := fun r e => (hr r e).2
 have hl := h.g2
 exact ⟨cell_kept h.r hg hr2, (frozen_kept h.r hg hr2).trans h.f, cell_kept h.c0 hg hr2, cell_kept h.b1 hg hr2, cell_kept h.b2 hg hr2, h.m1.kept hg (fun e => by have := (hr _ e.symm).1; omega), h.m2.kept hg (fun e => by have := (hr _ e.symm).1; omega),
  h.bl.grown hg h.bl.size (fun k e => by have := (hr k e).1; omega), hl, Nat.le_trans h.lt hg.size, h.e⟩
theorem ChkI.below {w : World} {G : Nat} {S : Value} {ws : List Car} {pre : List (Fin (outs ws).length)} {W W' : World} (h : ChkI w G S ws pre W) (hb : Below W.heap.size W W') : ChkI w G S ws pre W' := by
 have hl := h.lt
 have h2 := h.g2
 have c : ∀ g v, g < W.heap.size → W.cell? ⟨g, 0, none⟩ = some v → W'.cell? ⟨g, 0, none⟩ = some v := fun g v hg hc => (hb.cell (p := ⟨g, 0, none⟩) hg).trans hc
 exact ⟨c _ _ (by omega) h.r, (hb.frozen (p := ⟨w.heap.size + 1, 0, none⟩) (show w.heap.size + 1 < _ by omega)).trans h.f, c _ _ (by omega) h.c0, c _ _ (by omega) h.b1, c _ _ (by omega) h.b2, h.m1.below hb (by omega), h.m2.below hb (by omega), h.bl.trans (hb.mono h.bl.size), h2, Nat.le_trans hl hb.size, h.e⟩
theorem ChkI.start {w w1 : World} {S : Value} {ws : List Car} (h0 : w1.cell? ⟨w.heap.size, 0, none⟩ = some S) (h1 : w1.cell? ⟨w.heap.size + 1, 0, none⟩ = some (.int .i64 0)) (h2 : w1.frozen? ⟨w.heap.size + 1, 0, none⟩ = false) (hb : Below w.heap.size w w1) (hs : w.heap.size + 2 ≤ w1.heap.size) :
  ChkI w w1.heap.size S ws [] (((((w1.alloc (.map #[] 0)).alloc (.map #[] 0)).alloc (.cells #[.map (some w1.heap.size)] 133)).alloc (.cells #[.map (some (w1.heap.size + 1))] 133)).alloc (.cells #[S] 24)) := by
 have hB : Below w1.heap.size w1 (((((w1.alloc (.map #[] 0)).alloc (.map #[] 0)).alloc (.cells #[.map (some w1.heap.size)] 133)).alloc (.cells #[.map (some (w1.heap.size + 1))] 133)).alloc (.cells #[S] 24)) :=
  (((((Below.refl _ w1).alloc (Nat.le_refl _) _).alloc (by simp) _).alloc (by simp; omega) _).alloc (by simp; omega) _).alloc (by simp; omega) _
 have c : ∀ g v, g < w1.heap.size → w1.cell? ⟨g, 0, none⟩ = some v → (((((w1.alloc (.map #[] 0)).alloc (.map #[] 0)).alloc (.cells #[.map (some w1.heap.size)] 133)).alloc (.cells #[.map (some (w1.heap.size + 1))] 133)).alloc (.cells #[S] 24)).cell? ⟨g, 0, none⟩ = some v := fun g v hg hc => (hB.cell (p := ⟨g, 0, none⟩) hg).trans hc
 have k : ∀ {W : World} {b n : Nat} {f : Int → Option Unit} (o : Obj), MapB W b n f → MapB (W.alloc o) b n f := fun o h => h.kept (World.grownBy_alloc _ o none) (by simp)
 have hm2 := MapI.made (w1.alloc (.map #[] 0)) (plainElem Tryz.prog 4) (fun (_ : Unit) => .lit (.bool true))
 rw [World.size_alloc] at hm2
 refine ⟨c _ _ (by omega) h1, (hB.frozen (p := ⟨w.heap.size + 1, 0, none⟩) (show w.heap.size + 1 < _ by omega)).trans h2, c _ _ (by omega) h0, by simp [go_sem], by simp [go_sem], k _ (k _ (k _ (k _ (MapI.made w1 _ _)))), k _ (k _ (k _ hm2)), hb.trans (hB.mono hb.size), hs, by simp, rfl⟩

theorem grown_frozen {W W' : World} {row : Option Nat} {g i : Nat} {v : Value} (hg : W.grownBy W' row) (h : W.cell? ⟨g, i, none⟩ = some v) (hne : some g ≠ row) : W'.frozen? ⟨g, i, none⟩ = W.frozen? ⟨g, i, none⟩ := by
 obtain ⟨o, ho, _⟩ := cells_of_cell h
 have h2 := hg.block g (Array.getElem?_eq_some_iff.1 ho).1 hne
 simp [World.frozen?, h2]
theorem ChkI.upd {w : World} {G : Nat} {S : Value} {ws : List Car} {pre : List (Fin (outs ws).length)} {x : Fin (outs ws).length} {w1 w2 w3 : World} (h : ChkI w G S ws pre w1) (g2 : w1.drew.grownBy w2 (some G)) (g3 : w2.grownBy w3 (some (G + 1)))
  (m1 : MapB w2 G (pre.length + 1) (idsL ws (pre ++ [x]))) (m2 : MapB w3 (G + 1) (pre.length + 1) (fedL ws (pre ++ [x]))) (he : scanE ws (pre ++ [x]) = 0) : ChkI w G S ws (pre ++ [x]) w3 := by
 have hl := h.g2
 have c : ∀ g i v, g ≠ G → g ≠ G + 1 → w1.cell? ⟨g, i, none⟩ = some v → w3.cell? ⟨g, i, none⟩ = some v := fun g i v n1 n2 hc => grown_cell g3 (grown_cell g2 (W := w1.drew) hc (fun e => n1 (by cases e; rfl))) (fun e => n2 (by cases e; rfl))
 have hs : w1.heap.size ≤ w2.heap.size := g2.size
 refine ⟨c _ _ _ (by omega) (by omega) h.r, ?_, c _ _ _ (by omega) (by omega) h.c0, c _ _ _ (by omega) (by omega) h.b1, c _ _ _ (by omega) (by omega) h.b2, ?_, ?_, ?_, hl, Nat.le_trans h.lt (Nat.le_trans hs g3.size), he⟩
 ·have q := grown_cell g2 (W := w1.drew) h.r (fun e => by cases e; omega)
  exact ((grown_frozen g3 q (fun e => by cases e; omega)).trans (grown_frozen g2 (W := w1.drew) h.r (fun e => by cases e; omega))).trans h.f
 ·rw [List.length_append]; exact m1.kept g3 (fun e => by cases e)
 ·rw [List.length_append]; exact m2
 ·exact ((h.bl.drew).grown g2 h.bl.size (fun k e => by cases e; omega)).grown g3 (Nat.le_trans h.bl.size hs) (fun k e => by cases e; omega)
theorem MapI.ne_cells {β : Type} {w : World} {b n g : Nat} {R : Value → Option (DataW Unit × List MemPlace)} {enc : β → DataW Unit} {f : Int → Option β} {cs : Array Value} {ty : TypeId} {fr : Nat × Nat} (h : MapI w b n R enc f) (hg : w.heap[g]? = some (.cells cs ty fr)) : g ≠ b := fun e => by
 obtain ⟨D, ⟨es, clock, h1, _⟩, _⟩ := h
 rw [e, h1] at hg
 cases hg

set_option maxRecDepth 100000 in
set_option maxHeartbeats 2000000 in
theorem Check_in (n : Nat) (hn : 3 ≤ n) (A : Option Addr) (c : Nat) (ws : List Car) (w : World) (hW : Wk w A ws) :
  CallsIn Fence.wide n Tryz.prog 30 #[.agg #[.slice A ws.length c]] w fun e w' => e = .returned (.int .i64 (checkE ws)) ∧ Below w.heap.size w w' := by
 have h := hW.rd
 have hm : ws.length ≤ maxLen := by have := hW.n1; unfold maxLen; omega
 have hN : (outs ws).length ≤ 1000000000 := by have := hW.n2; omega
 have h1 : 1 ≤ n := by omega
 have hmm := @run_makeMap Tryz.prog
 refine callsIn_of_wp_marks Tryz.func30 rfl trivial ?_ rfl
 simp only [Tryz.ntmps30, List.size_toArray, List.length_cons, List.length_nil, Nat.reduceAdd, Nat.reduceSub, Array.replicate_succ, Array.replicate_zero, List.push_toArray, List.append_toArray, List.nil_append, List.cons_append]
 have hb0 : Below w.heap.size w ((w.alloc (.cells #[.slice A ws.length c] 24)).alloc (.cells #[.int .i64 0] 36)) := ((Below.refl _ w).alloc (Nat.le_refl _) _).alloc (by simp) _
 by_cases h16 : 16 < ws.length
 ·have hz : (16 : Int) < (ws.length : Int) := by omega
  have hE : checkE ws = 2 := by unfold checkE; rw [if_pos (.inl h16)]
  rw [hE]
  clear hE hmm
  gi_wp2
  refine ⟨trivial, ?_⟩
  gi_wp2
  exact ⟨.int .i64 2, by simp [results, Tryz.results30, go_sem], rfl, ((Below.refl _ w).alloc (Nat.le_refl _) _).alloc (by simp) _⟩
 have hz : ¬ (16 : Int) < (ws.length : Int) := by omega
 have q0 : ((w.alloc (.cells #[.slice A ws.length c] 24)).alloc (.cells #[.int .i64 0] 36)).cell? ⟨w.heap.size, 0, none⟩ = some (.slice A ws.length c) := by simp [go_sem]
 have q1 : ((w.alloc (.cells #[.slice A ws.length c] 24)).alloc (.cells #[.int .i64 0] 36)).cell? ⟨w.heap.size + 1, 0, none⟩ = some (.int .i64 0) := by simp [go_sem]
 have q2 : ((w.alloc (.cells #[.slice A ws.length c] 24)).alloc (.cells #[.int .i64 0] 36)).frozen? ⟨w.heap.size + 1, 0, none⟩ = false := by simp [go_sem]
 have hs1 : ((w.alloc (.cells #[.slice A ws.length c] 24)).alloc (.cells #[.int .i64 0] 36)).heap.size = w.heap.size + 2 := by simp
 have hmany := many_any A c ws _ (h.ext hb0) hm hN
 by_cases h60 : 60 < (outs ws).length
 ·have hz60 : (60 : Int) < ((outs ws).length : Int) := by omega
  have hE : checkE ws = 2 := by unfold checkE; rw [if_pos (.inr h60)]
  rw [hE]
  clear hE hmm
  gi_wp2
  refine ⟨trivial, ?_⟩
  refine (callsIn_wide.2 hmany).mono ?_
  rintro e w1 ⟨rfl, hb⟩
  have p1 := (hb.cell (p := ⟨w.heap.size + 1, 0, none⟩) (by rw [hs1]; exact Nat.lt_succ_self _)).trans q1
  have p2 := (hb.frozen (p := ⟨w.heap.size + 1, 0, none⟩) (by rw [hs1]; exact Nat.lt_succ_self _)).trans q2
  have HB := Lib.hid (hb0.trans (hb.mono hb0.size))
  have HS := Lib.hid (World.cell?_setCell_same' w1 ⟨w.heap.size + 1, 0, none⟩ (.int .i64 2) (by rw [p1]; rfl))
  clear hb hmany hb0 q0 q1 q2 hs1
  gi_wp2
  have hs := HS.out
  exact ⟨.int .i64 2, by simp [results, Tryz.results30, go_sem, hs], rfl, HB.out.setCell (by show w.heap.size ≤ w.heap.size + 1; omega) _⟩
 have hz60 : ¬ (60 : Int) < ((outs ws).length : Int) := by omega
 have hE : checkE ws = scanE ws (List.finRange (outs ws).length) := by unfold checkE; rw [if_neg (by omega)]
 rw [hE]
 clear hE
 gi_wp2
 refine ⟨trivial, ?_⟩
 refine (callsIn_wide.2 hmany).mono ?_
 rintro e w1 ⟨rfl, hb⟩
 have p0 := (hb.cell (p := ⟨w.heap.size, 0, none⟩) (by rw [hs1]; exact Nat.lt_succ_of_lt (Nat.lt_succ_self _))).trans q0
 have p1 := (hb.cell (p := ⟨w.heap.size + 1, 0, none⟩) (by rw [hs1]; exact Nat.lt_succ_self _)).trans q1
 have p2 := (hb.frozen (p := ⟨w.heap.size + 1, 0, none⟩) (by rw [hs1]; exact Nat.lt_succ_self _)).trans q2
 have hb1 := hb0.trans (hb.mono hb0.size)
 have hs2 : w.heap.size + 2 ≤ w1.heap.size := by have := hb.size; omega
 clear hb hmany hb0 q0 q1 q2 hs1
 have l0 : w.heap.size < w1.heap.size := by omega
 have l1 : w.heap.size < w1.heap.size + 1 := by omega
 have l2 : w.heap.size < w1.heap.size + 1 + 1 := by omega
 have l3 : w.heap.size < w1.heap.size + 1 + 1 + 1 := by omega
 gi_wp2
 refine ⟨trivial, ?_⟩
 refine (callsIn_wide.2 (outlets_any A c ws.length _)).mono ?_
 rintro e w' ⟨rfl, rfl⟩
 have hI0 := ChkI.start (ws := ws) p0 p1 p2 hb1 hs2
 have c8 : (((((w1.alloc (.map #[] 0)).alloc (.map #[] 0)).alloc (.cells #[.map (some w1.heap.size)] 133)).alloc (.cells #[.map (some (w1.heap.size + 1))] 133)).alloc (.cells #[.slice A ws.length c] 24)).cell? ⟨w1.heap.size + 1 + 1 + 1 + 1, 0, none⟩ = some (.slice A ws.length c) := by simp [go_sem]
 have hsz : (((((w1.alloc (.map #[] 0)).alloc (.map #[] 0)).alloc (.cells #[.map (some w1.heap.size)] 133)).alloc (.cells #[.map (some (w1.heap.size + 1))] 133)).alloc (.cells #[.slice A ws.length c] 24)).heap.size = w1.heap.size + 5 := by simp
 gi_wp2
 generalize hgW : (((((w1.alloc (.map #[] 0)).alloc (.map #[] 0)).alloc (.cells #[.map (some w1.heap.size)] 133)).alloc (.cells #[.map (some (w1.heap.size + 1))] 133)).alloc (.cells #[.slice A ws.length c] 24)) = W2 at *
 have hseq := outlets_stops (n - 1) (by omega) w.heap.size (w1.heap.size + 1 + 1 + 1 + 1) A c ws W2 hI0.bl.size c8 (by omega) (h.below hI0.bl (Nat.le_refl _)) hm hN
 clear hgW c8 p0 p1 p2 hb1 l0 l1 l2 l3
 generalize hgG : w1.heap.size = G at *
 clear hgG
 have hO : OwnFrom W2.heap.size (fun pre W => ChkI w G (.slice A ws.length c) ws pre W) := fun pre W W' row hi hgr hrow => hi.kept hgr (fun r e => ⟨by have := (hrow r e).1; omega, (hrow r e).2⟩)
 obtain ⟨Ix, hIx⟩ : ∃ Ix : Code → List (Fin (outs ws).length) → World → Prop, ∀ k pre W, Ix k pre W ↔ (k = .ret ∧ W.cell? ⟨w.heap.size + 1, 0, none⟩ = some (.int .i64 (scanE ws pre)) ∧ scanE ws pre ≠ 0 ∧ Below w.heap.size w W ∧ G + 5 ≤ W.heap.size) := ⟨_, fun _ _ _ => Iff.rfl⟩
 have hg2 := hI0.g2
 have hOx : ∀ k, OwnFrom W2.heap.size (Ix k) := fun k pre W W' row hi hgr hrow => by
  obtain ⟨i1, i2, i3, i4, i5⟩ := (hIx _ _ _).1 hi
  exact (hIx _ _ _).2 ⟨i1, cell_kept i2 hgr (fun r e => (hrow r e).2), i3, i4.grown hgr i4.size (fun k e => by have := (hrow k e).1; omega), Nat.le_trans i5 hgr.size⟩
 refine wpIn_rangeFunc_ownH rfl h1 (gf := 68) (lb := #[.pointer (some ⟨G + 1 + 1 + 1 + 1, 0, none⟩)]) rfl trivial eg_outlets hseq belowK_t (belowK_b hI0.bl.size) (Below.refl _ W2) (fun _ => rfl)
  (fun pre W => ChkI w G (.slice A ws.length c) ws pre W) Ix hO hOx hI0
  (fun x a' W => ∃ g4 g5, a' = { tmps := #[.agg #[.slice A ws.length c], .pointer (some ⟨w.heap.size, 0, none⟩), .pointer (some ⟨w.heap.size + 1, 0, none⟩), .pointer (some ⟨G + 1 + 1, 0, none⟩), .pointer (some ⟨G + 1 + 1 + 1, 0, none⟩), .pointer (some ⟨g4, 0, none⟩), .pointer (some ⟨g5, 0, none⟩),
    .pointer (some ⟨w.heap.size, 0, none⟩), .slice A ws.length c, .int .i64 ws.length, .bool false, .bool false, .agg #[.slice A ws.length c], .int .i64 (outs ws).length, .bool (decide ((60 : Int) < (outs ws).length)), .bool (decide ((60 : Int) < (outs ws).length)), .map (some G), .map (some (G + 1)), .agg #[.slice A ws.length c],
    .func (.func 68) #[] #[.pointer (some ⟨G + 1 + 1 + 1 + 1, 0, none⟩)], .agg #[.int .i64 (x.1 : Int), .int .i64 (caAt ws x.1 : Int), .int .i64 (atAt ws x.1 : Int)], (oAt (outs ws) x.1).v,
    undef, undef, undef, undef, undef, undef, undef, undef, undef, undef, undef, undef, undef, undef, undef, undef, undef, undef, undef, undef, undef, undef, undef, undef, undef, undef, undef], defers := [] } ∧ Bx W g4 g5 ws x.1)
  ?ownA ?assign ?body ?done ?stop
 case ownA =>
  rintro x a' _ W W' row ⟨g4, g5, e, hx⟩ hgr hrow
  exact ⟨g4, g5, e, hx.kept hgr (fun r e => (hrow r e).2)⟩
 case assign =>
  intro l pre x W K hi hK
  have hs := hi.lt
  have hbl := hi.bl.size
  dsimp only [encI, Ot.v]
  gi_wp2
  exact hK _ _ (two_keeps _ _ _ _) (two_below hbl _ _) (hO.alloc _ (hO.alloc _ hi)) ⟨_, _, rfl, Bx.new W ws x.1⟩
 case body =>
  rintro l pre x a' W hl hrec hi ⟨g4, g5, rfl, hx⟩ hpre
  have hst := scanE_snoc ws pre x
  rw [if_pos hi.e] at hst
  have hids := idsL_snoc ws pre x
  have hfed := fedL_snoc ws pre x
  obtain ⟨p0, p1, p2⟩ := hx.place
  obtain ⟨o0, o1, o2, o3, o4, o5, o6⟩ := hx.outlet
  have c0 := hi.c0
  have hdef : stepE ws pre x = if rightB ws.length (caAt ws x.1) (oAt (outs ws) x.1) = false then 1 else if (idsL ws pre (oAt (outs ws) x.1).id).isSome = true then 6 else if 0 ≤ (oAt (outs ws) x.1).into ∧ (fedL ws pre (oAt (outs ws) x.1).into).isSome = true then 6 else 0 := rfl
  have hrd : Rd W W.heap.size (oAt (outs ws) x.1).P (oAt (outs ws) x.1).ps := ((h.passes x.2).below hi.bl (Nat.le_refl _)).mono hi.bl.size
  have hpm : (oAt (outs ws) x.1).ps.length ≤ maxLen := hW.n3 x.1 x.2
  have hright := fun k => CallsIn.inRound l (n := k) (callsIn_wide.2 (right_any A c ws.length (caAt ws x.1) (oAt (outs ws) x.1) W hrd hm (by have := caAt_lt x.2; omega) hpm))
  unfold Ot.v at hright
  cases hR : rightB ws.length (caAt ws x.1) (oAt (outs ws) x.1)
  ·rw [hR] at hright
   have hE : scanE ws (pre ++ [x]) = 1 := by rw [hst, hdef, if_pos hR]
   have HE := Lib.hid hE
   have HI := Lib.hid hi
   have HRt := Lib.hid hright
   clear hst hids hfed hdef hrd hpm hright hi hE hR hseq hx
   gi_wp2
   refine ⟨trivial, fun _ => by omega, ?_⟩
   refine (HRt.out _).mono ?_
   rintro e w1 ⟨rfl, hb⟩
   have hi1 := HI.out.below hb
   have r1 := hi1.r
   have f1 := hi1.f
   have hs1 := World.cell?_setCell_same' w1 ⟨w.heap.size + 1, 0, none⟩ (.int .i64 1) (by rw [r1]; rfl)
   have HI1 := hd3 hi1 hs1 hb
   clear hb hi1 hs1
   gi_wp2
   exact ⟨(keepsFrom_below HI1.out.2.2).trans ((KeepsOthers.setCell _ _ _).from _), (hIx _ _ _).2 ⟨rfl, by rw [HE.out]; exact HI1.out.2.1, by rw [HE.out]; decide, HI1.out.1.bl.setCell (p := ⟨w.heap.size + 1, 0, none⟩) (by show w.heap.size ≤ w.heap.size + 1; omega) _, by rw [World.size_setCell]; exact HI1.out.1.lt⟩⟩
  ·rw [hR] at hright
   obtain ⟨wf0, wf1⟩ := right_wf (by have := hW.n1; omega) hR
   have HST := hd4 hst hdef hids hfed
   have HI := Lib.hid hi
   have HRt := Lib.hid hright
   have HX := Lib.hid hx
   clear hst hids hfed hdef hrd hpm hright hi hseq hx
   gi_wp2
   refine ⟨trivial, fun _ => by omega, ?_⟩
   refine (HRt.out _).mono ?_
   rintro e w1 ⟨rfl, hb⟩
   have HI1 := hd2 (HI.out.below hb) hb
   have lk1 := HI1.out.1.m1.look wf0
   have lk2 := HI1.out.1.m2.look wf1
   have b1 := HI1.out.1.b1
   have b2 := HI1.out.1.b2
   have g4l : g4 < W.heap.size := (Array.getElem?_eq_some_iff.1 HX.out.p).1
   have g5l : g5 < W.heap.size := (Array.getElem?_eq_some_iff.1 HX.out.o).1
   replace o0 := (hb.cell (p := ⟨g5, 0, none⟩) g5l).trans o0
   replace o1 := (hb.cell (p := ⟨g5, 1, none⟩) g5l).trans o1
   have n51 := HI.out.m1.ne_cells HX.out.o
   clear hb p0 p1 p2 o2 o3 o4 o5 o6 c0
   generalize hq0 : (oAt (outs ws) x.1).id = q0 at *
   generalize hq1 : (oAt (outs ws) x.1).into = q1 at *
   clear hq0 hq1
   cases hA : (idsL ws pre q0).isSome
   ·rw [hA] at lk1
    by_cases hq : 0 ≤ q1
    ·cases hB : (fedL ws pre q1).isSome
     ·rw [hB] at lk2
      have HE := Lib.hid (show scanE ws (pre ++ [x]) = 0 by rw [HST.out.1, HST.out.2.1, if_neg (by rw [hR]; decide), if_neg (by rw [hA]; decide), if_neg (by rw [hB]; intro h; cases h.2)])
      have HI2 := hd2 HST.out.2.2.1 HST.out.2.2.2
      have b1 := HI1.out.1.b1
      have b2 := HI1.out.1.b2
      clear HST hR hA
      gi_wp2
      refine wpIn_region_made (fun _ => trivial) (fun X => X.cell? ⟨G + 1 + 1, 0, none⟩ = some (.map (some G)) ∧ X.cell? ⟨G + 1 + 1 + 1, 0, none⟩ = some (.map (some (G + 1))) ∧ X.cell? ⟨g5, 0, none⟩ = some (.int .i64 q0) ∧ X.cell? ⟨g5, 1, none⟩ = some (.int .i64 q1)) 6 (by kernel_rfl) (by kernel_rfl) (by kernel_rfl) (by rfl) ⟨b1, b2, o0, o1⟩ ?_
      simp only [List.take_succ_cons, List.take_zero]
      iterate 6
       refine wpReads_opI (v := ?_) (by rfl) (fun W hW => ?_) ?_
       rotate_left
       focus
        obtain ⟨d1, d2, d3, d4⟩ := hW
        go_simp
        try (with_reducible rfl)
       try simp only [Act.put, List.setIfInBounds_toArray, List.set_cons_zero, List.set_cons_succ]
      obtain ⟨w2, hrun2, hM2, hgr2⟩ := MapI.store (t := 133) (e := 4) (x := q0) (y := ()) (MapI.block HI1.out.1.m1 (w' := w1.drew) rfl) (by kernel_rfl) (by unfold maxLen; omega) wf0 (plainElem_bool Tryz.underlying4 true)
      refine wpReads_nilI ⟨by rfl, undef, w2, .inr ⟨?_, rfl⟩, ?_, ?_⟩
      ·go_simp
      ·exact ⟨grown_cell hgr2 (W := w1.drew) b1 (fun e => by cases e), grown_cell hgr2 (W := w1.drew) b2 (fun e => by cases e), grown_cell hgr2 (W := w1.drew) o0 (fun e => n51 (by cases e; rfl)), grown_cell hgr2 (W := w1.drew) o1 (fun e => n51 (by cases e; rfl))⟩
      ·have hM4 : MapB w2 (G + 1) pre.length (fedL ws pre) := (MapI.block HI1.out.1.m2 (w' := w1.drew) rfl).kept hgr2 (fun e => by cases e)
       have HG := hd2 hM2 hgr2
       clear hM2 hgr2 hrun2
       gi_wp2_with (gi_at_mapUpdate; refine wpListIn_put rfl _ _ _ 133 rfl 4 (by kernel_rfl) rfl hM4 (by unfold maxLen; omega) (.bool true) q1 () rfl wf1 rfl [] (plainElem_bool Tryz.underlying4 true) ?_; intro w3 hM3 hg3)
       have hm1 : MapB w2 G (pre.length + 1) (idsL ws (pre ++ [x])) := by rw [HI2.out.1]; exact HG.out.1
       have hm2 : MapB w3 (G + 1) (pre.length + 1) (fedL ws (pre ++ [x])) := by rw [HI2.out.2]; exact hM3
       have hbl := HI1.out.1.bl.size
       have hs12 : w1.heap.size ≤ w2.heap.size := HG.out.2.size
       exact ⟨((keepsFrom_below HI1.out.2).trans (((KeepsOthers.drew w1).from _).trans (KeepsFrom.of_grownBy HG.out.2 (fun j e => by cases e; omega)))).trans (KeepsFrom.of_grownBy hg3 (fun j e => by cases e; omega)),
        (((HI1.out.2.mono HI.out.bl.size).drew).grown HG.out.2 hbl (fun k e => by cases e; omega)).grown hg3 (Nat.le_trans hbl hs12) (fun k e => by cases e; omega), HI1.out.1.upd HG.out.2 hg3 hm1 hm2 HE.out⟩
     ·rw [hB] at lk2
      have HE := Lib.hid (show scanE ws (pre ++ [x]) = 6 by rw [HST.out.1, HST.out.2.1, if_neg (by rw [hR]; decide), if_neg (by rw [hA]; decide), if_pos ⟨hq, hB⟩])
      have r1 := HI1.out.1.r
      have f1 := HI1.out.1.f
      have hs1 := World.cell?_setCell_same' w1 ⟨w.heap.size + 1, 0, none⟩ (.int .i64 6) (by rw [r1]; rfl)
      have HS := Lib.hid hs1
      clear hs1
      gi_wp2
      exact ⟨(keepsFrom_below HI1.out.2).trans ((KeepsOthers.setCell _ _ _).from _), (hIx _ _ _).2 ⟨rfl, by rw [HE.out]; exact HS.out, by rw [HE.out]; decide, HI1.out.1.bl.setCell (p := ⟨w.heap.size + 1, 0, none⟩) (by show w.heap.size ≤ w.heap.size + 1; omega) _, by rw [World.size_setCell]; exact HI1.out.1.lt⟩⟩
    ·skip
     have HE := Lib.hid (show scanE ws (pre ++ [x]) = 0 by rw [HST.out.1, HST.out.2.1, if_neg (by rw [hR]; decide), if_neg (by rw [hA]; decide), if_neg (fun h => hq h.1)])
     have HI2 := hd2 HST.out.2.2.1 HST.out.2.2.2
     have b1 := HI1.out.1.b1
     have b2 := HI1.out.1.b2
     clear HST hR hA
     gi_wp2
     refine wpIn_region_made (fun _ => trivial) (fun X => X.cell? ⟨G + 1 + 1, 0, none⟩ = some (.map (some G)) ∧ X.cell? ⟨G + 1 + 1 + 1, 0, none⟩ = some (.map (some (G + 1))) ∧ X.cell? ⟨g5, 0, none⟩ = some (.int .i64 q0) ∧ X.cell? ⟨g5, 1, none⟩ = some (.int .i64 q1)) 6 (by kernel_rfl) (by kernel_rfl) (by kernel_rfl) (by rfl) ⟨b1, b2, o0, o1⟩ ?_
     simp only [List.take_succ_cons, List.take_zero]
     iterate 6
      refine wpReads_opI (v := ?_) (by rfl) (fun W hW => ?_) ?_
      rotate_left
      focus
       obtain ⟨d1, d2, d3, d4⟩ := hW
       go_simp
       try (with_reducible rfl)
      try simp only [Act.put, List.setIfInBounds_toArray, List.set_cons_zero, List.set_cons_succ]
     obtain ⟨w2, hrun2, hM2, hgr2⟩ := MapI.store (t := 133) (e := 4) (x := q0) (y := ()) (MapI.block HI1.out.1.m1 (w' := w1.drew) rfl) (by kernel_rfl) (by unfold maxLen; omega) wf0 (plainElem_bool Tryz.underlying4 true)
     refine wpReads_nilI ⟨by rfl, undef, w2, .inr ⟨?_, rfl⟩, ?_, ?_⟩
     ·go_simp
     ·exact ⟨grown_cell hgr2 (W := w1.drew) b1 (fun e => by cases e), grown_cell hgr2 (W := w1.drew) b2 (fun e => by cases e), grown_cell hgr2 (W := w1.drew) o0 (fun e => n51 (by cases e; rfl)), grown_cell hgr2 (W := w1.drew) o1 (fun e => n51 (by cases e; rfl))⟩
     ·have hM4 : MapB w2 (G + 1) pre.length (fedL ws pre) := (MapI.block HI1.out.1.m2 (w' := w1.drew) rfl).kept hgr2 (fun e => by cases e)
      have HG := hd2 hM2 hgr2
      clear hM2 hgr2 hrun2
      gi_wp2_with (gi_at_mapUpdate; refine wpListIn_put rfl _ _ _ 133 rfl 4 (by kernel_rfl) rfl hM4 (by unfold maxLen; omega) (.bool true) q1 () rfl wf1 rfl [] (plainElem_bool Tryz.underlying4 true) ?_; intro w3 hM3 hg3)
      have hm1 : MapB w2 G (pre.length + 1) (idsL ws (pre ++ [x])) := by rw [HI2.out.1]; exact HG.out.1
      have hm2 : MapB w3 (G + 1) (pre.length + 1) (fedL ws (pre ++ [x])) := by rw [HI2.out.2]; exact hM3
      have hbl := HI1.out.1.bl.size
      have hs12 : w1.heap.size ≤ w2.heap.size := HG.out.2.size
      exact ⟨((keepsFrom_below HI1.out.2).trans (((KeepsOthers.drew w1).from _).trans (KeepsFrom.of_grownBy HG.out.2 (fun j e => by cases e; omega)))).trans (KeepsFrom.of_grownBy hg3 (fun j e => by cases e; omega)),
       (((HI1.out.2.mono HI.out.bl.size).drew).grown HG.out.2 hbl (fun k e => by cases e; omega)).grown hg3 (Nat.le_trans hbl hs12) (fun k e => by cases e; omega), HI1.out.1.upd HG.out.2 hg3 hm1 hm2 HE.out⟩
   ·rw [hA] at lk1
    have HE := Lib.hid (show scanE ws (pre ++ [x]) = 6 by rw [HST.out.1, HST.out.2.1, if_neg (by rw [hR]; decide), if_pos hA])
    have r1 := HI1.out.1.r
    have f1 := HI1.out.1.f
    have hs1 := World.cell?_setCell_same' w1 ⟨w.heap.size + 1, 0, none⟩ (.int .i64 6) (by rw [r1]; rfl)
    have HS := Lib.hid hs1
    clear hs1
    gi_wp2
    exact ⟨(keepsFrom_below HI1.out.2).trans ((KeepsOthers.setCell _ _ _).from _), (hIx _ _ _).2 ⟨rfl, by rw [HE.out]; exact HS.out, by rw [HE.out]; decide, HI1.out.1.bl.setCell (p := ⟨w.heap.size + 1, 0, none⟩) (by show w.heap.size ≤ w.heap.size + 1; omega) _, by rw [World.size_setCell]; exact HI1.out.1.lt⟩⟩
 case done =>
  rintro D ys W hD rfl hi hK
  have q1 := hi.r
  have q2 := hi.f
  have he := hi.e
  have hbl := hi.bl
  have hlt := hi.lt
  have z1 : ((W.setCell ⟨w.heap.size + 1, 0, none⟩ (.int .i64 0)).putObj D (.deferred none)).cell? ⟨w.heap.size + 1, 0, none⟩ = some (.int .i64 0) := by
   rw [putObj_cell (by omega)]; exact World.cell?_setCell_same' _ _ _ (by rw [q1]; rfl)
  have hK2 : (W.setCell ⟨w.heap.size + 1, 0, none⟩ (.int .i64 0)).heap[D]? = some (.deferred (some [])) := (Below.heap_setCell _ _ _ _ (by show D ≠ w.heap.size + 1; omega)).trans hK
  have HB := Lib.hid ((hbl.setCell (p := ⟨w.heap.size + 1, 0, none⟩) (by show w.heap.size ≤ w.heap.size + 1; omega) (.int .i64 0)).trans (belowK_b hI0.bl.size _ D (.deferred (some [])) (.deferred none) hD hK2 rfl rfl))
  clear hseq hi
  gi_wp2
  refine ⟨by simp, .inl ⟨_, _, rfl, run_takeDeferred hK2, ?_⟩⟩
  exact ⟨.int .i64 0, by simp [results, Tryz.results30, go_sem, z1], by rw [he], HB.out⟩
 case stop =>
  intro D k pre W hD hpre hi hK
  obtain ⟨rfl, i2, i3, i4, i5⟩ := (hIx _ _ _).1 hi
  obtain ⟨j, hj, rfl⟩ := hpre
  have hfin := scanE_firsts i3
  have z1 : (W.putObj D (.deferred none)).cell? ⟨w.heap.size + 1, 0, none⟩ = some (.int .i64 (scanE ws (firsts (outs ws).length (j + 1)))) := by
   rw [putObj_cell (by omega)]; exact i2
  have HB := Lib.hid (i4.trans (belowK_b hI0.bl.size _ D (.deferred (some [])) (.deferred none) hD hK rfl rfl))
  gi_wp2
  refine ⟨by simp, .inl ⟨_, _, rfl, run_takeDeferred hK, ?_⟩⟩
  exact ⟨.int .i64 (scanE ws (firsts (outs ws).length (j + 1))), by simp [results, Tryz.results30, go_sem, z1], by rw [hfin], HB.out⟩

theorem Check_any (A : Option Addr) (c : Nat) (ws : List Car) (w : World) (h : Wk w A ws) :
  Calls Tryz.prog 30 #[.agg #[.slice A ws.length c]] w fun e w' => e = .returned (.int .i64 (checkE ws)) ∧ Below w.heap.size w w' := callsIn_wide.1 (Check_in 3 (Nat.le_refl _) A c ws w h)
end Go.Proofs.YtegmniphgahblaaGreat
namespace Go.Proofs.YtegmniphgahblaaGreat
open Go.RowKit

/-- Works that Check accepts. -/
structure Good (ws : List Car) : Prop where
 n1 : ws.length ≤ 16
 n2 : (outs ws).length ≤ 60
 right : ∀ i, i < (outs ws).length → rightB ws.length (caAt ws i) (oAt (outs ws) i) = true
 ids : ∀ i j, i < (outs ws).length → j < (outs ws).length → (oAt (outs ws) i).id = (oAt (outs ws) j).id → i = j
 fed : ∀ i j, i < (outs ws).length → j < (outs ws).length → 0 ≤ (oAt (outs ws) i).into → (oAt (outs ws) i).into = (oAt (outs ws) j).into → i = j

theorem snoc_ind {α : Type} {Pr : List α → Prop} (h0 : Pr []) (h1 : ∀ l x, Pr l → Pr (l ++ [x])) : ∀ (k : Nat) (l : List α), l.length = k → Pr l
 | 0, l, h => by
  have : l = [] := List.length_eq_zero_iff.1 h
  subst this; exact h0
 | k + 1, l, h => by
  obtain ⟨pre, x, rfl⟩ : ∃ pre x, l = pre ++ [x] := ⟨l.dropLast, l.getLast (by intro e; rw [e] at h; cases h), (List.dropLast_concat_getLast _).symm⟩
  exact h1 _ _ (snoc_ind h0 h1 k pre (by simpa using h))
theorem firsts_mem {N k : Nat} {x : Fin N} : x ∈ firsts N k ↔ x.1 < k := by
 unfold firsts
 rw [List.mem_take_iff_getElem]
 constructor
 ·rintro ⟨i, hi, e⟩
  have h2 : i < min k N := by simpa using hi
  have e2 : i = x.1 := by rw [← e]; simp
  omega
 ·intro h
  exact ⟨x.1, by simp; have := x.2; omega, by simp⟩
theorem idsL_isSome (ws : List Car) (l : List (Fin (outs ws).length)) (z : Int) : (idsL ws l z).isSome = true ↔ ∃ y ∈ l, (oAt (outs ws) y.1).id = z := by
 refine snoc_ind (Pr := fun l => (idsL ws l z).isSome = true ↔ ∃ y ∈ l, (oAt (outs ws) y.1).id = z) ?_ ?_ _ l rfl
 ·simp [idsL]
 ·intro l x ih
  rw [idsL_snoc]
  unfold upd
  by_cases hz : z = (oAt (outs ws) x.1).id
  ·subst hz; simp
  ·rw [if_neg hz, ih]
   simp only [List.mem_append, List.mem_singleton]
   constructor
   ·rintro ⟨y, h1, h2⟩; exact ⟨y, .inl h1, h2⟩
   ·rintro ⟨y, h1 | rfl, h2⟩
    ·exact ⟨y, h1, h2⟩
    ·exact absurd h2.symm hz
theorem fedL_isSome (ws : List Car) (l : List (Fin (outs ws).length)) (z : Int) : (fedL ws l z).isSome = true ↔ ∃ y ∈ l, (oAt (outs ws) y.1).into = z := by
 refine snoc_ind (Pr := fun l => (fedL ws l z).isSome = true ↔ ∃ y ∈ l, (oAt (outs ws) y.1).into = z) ?_ ?_ _ l rfl
 ·simp [fedL]
 ·intro l x ih
  rw [fedL_snoc]
  unfold upd
  by_cases hz : z = (oAt (outs ws) x.1).into
  ·subst hz; simp
  ·rw [if_neg hz, ih]
   simp only [List.mem_append, List.mem_singleton]
   constructor
   ·rintro ⟨y, h1, h2⟩; exact ⟨y, .inl h1, h2⟩
   ·rintro ⟨y, h1 | rfl, h2⟩
    ·exact ⟨y, h1, h2⟩
    ·exact absurd h2.symm hz
theorem scan_steps {ws : List Car} : ∀ (k : Nat), k ≤ (outs ws).length → scanE ws (firsts (outs ws).length k) = 0 → ∀ i (hi : i < (outs ws).length), i < k → stepE ws (firsts (outs ws).length i) ⟨i, hi⟩ = 0
 | 0, _, _, i, _, h => absurd h (Nat.not_lt_zero _)
 | k + 1, hk, h, i, hi, hik => by
  rw [firsts_succ (by omega), scanE_snoc] at h
  by_cases h0 : scanE ws (firsts (outs ws).length k) = 0
  ·rw [if_pos h0] at h
   rcases Nat.lt_or_ge i k with e | e
   ·exact scan_steps k (by omega) h0 i hi e
   ·obtain rfl : i = k := by omega
    exact h
  ·rw [if_neg h0] at h
   exact absurd h h0
theorem good_of_check {ws : List Car} (h : checkE ws = 0) : Good ws := by
 unfold checkE at h
 by_cases h1 : 16 < ws.length ∨ 60 < (outs ws).length
 ·rw [if_pos h1] at h; cases h
 rw [if_neg h1, ← firsts_all] at h
 have hs := scan_steps (outs ws).length (Nat.le_refl _) h
 have key : ∀ i (hi : i < (outs ws).length), rightB ws.length (caAt ws i) (oAt (outs ws) i) = true ∧ (∀ j, j < i → (oAt (outs ws) j).id ≠ (oAt (outs ws) i).id) ∧ (∀ j, j < i → 0 ≤ (oAt (outs ws) i).into → (oAt (outs ws) j).into ≠ (oAt (outs ws) i).into) := fun i hi => by
  have := hs i hi hi
  unfold stepE at this
  by_cases a1 : rightB ws.length (caAt ws i) (oAt (outs ws) i) = false
  ·rw [if_pos a1] at this; cases this
  rw [if_neg a1] at this
  by_cases a2 : (idsL ws (firsts (outs ws).length i) (oAt (outs ws) i).id).isSome = true
  ·rw [if_pos a2] at this; cases this
  rw [if_neg a2] at this
  by_cases a3 : 0 ≤ (oAt (outs ws) i).into ∧ (fedL ws (firsts (outs ws).length i) (oAt (outs ws) i).into).isSome = true
  ·rw [if_pos a3] at this; cases this
  refine ⟨by simpa using a1, fun j hj e => a2 ((idsL_isSome _ _ _).2 ⟨⟨j, by omega⟩, firsts_mem.2 hj, e⟩), fun j hj h0 e => a3 ⟨h0, (fedL_isSome _ _ _).2 ⟨⟨j, by omega⟩, firsts_mem.2 hj, e⟩⟩⟩
 refine ⟨by omega, by omega, fun i hi => (key i hi).1, fun i j hi hj e => ?_, fun i j hi hj h0 e => ?_⟩
 ·rcases Nat.lt_trichotomy i j with a | a | a
  ·exact absurd e ((key j hj).2.1 i a)
  ·exact a
  ·exact absurd e.symm ((key i hi).2.1 j a)
 ·rcases Nat.lt_trichotomy i j with a | a | a
  ·exact absurd e ((key j hj).2.2 i a (by omega))
  ·exact a
  ·exact absurd e.symm ((key i hi).2.2 j a h0)
theorem Good.wf {ws : List Car} (h : Good ws) {i : Nat} (hi : i < (outs ws).length) : (Lit.int .i64 (oAt (outs ws) i).id).wf = true ∧ (Lit.int .i64 (oAt (outs ws) i).into).wf = true := right_wf (by have := h.n1; omega) (h.right i hi)

/-- The outlet that feeds a carrier. -/
def upO (ws : List Car) (c : Int) : Option Nat := (List.range (outs ws).length).find? fun i => decide ((oAt (outs ws) i).into = c)
theorem upO_some {ws : List Car} {c : Int} {i : Nat} (h : upO ws c = some i) : i < (outs ws).length ∧ (oAt (outs ws) i).into = c := by
 unfold upO at h
 have h1 := List.mem_of_find?_eq_some h
 have h2 := List.find?_some h
 exact ⟨by simpa using h1, by simpa using h2⟩
theorem upO_none {ws : List Car} {c : Int} (h : upO ws c = none) : ∀ i, i < (outs ws).length → (oAt (outs ws) i).into ≠ c := fun i hi e => by
 unfold upO at h
 have := List.find?_eq_none.1 h i (by simpa using hi)
 simp [e] at this
theorem upO_of {ws : List Car} (g : Good ws) {i : Nat} (hi : i < (outs ws).length) (h0 : 0 ≤ (oAt (outs ws) i).into) : upO ws (oAt (outs ws) i).into = some i := by
 cases h : upO ws (oAt (outs ws) i).into with
 | none => exact absurd rfl (upO_none h i hi)
 | some j =>
  obtain ⟨hj, e⟩ := upO_some h
  rw [g.fed i j hi hj h0 e.symm]
def pl (ws : List Car) (i : Nat) : Int × Int × Int := ((i : Int), (caAt ws i : Int), (atAt ws i : Int))
theorem feedL_gen {ws : List Car} (g : Good ws) (l : List (Fin (outs ws).length)) (z : Int) : feedL ws l z = if 0 ≤ z then (upO ws z).bind fun i => if ∃ y ∈ l, y.1 = i then some (pl ws i) else none else none := by
 refine snoc_ind (Pr := fun l => feedL ws l z = if 0 ≤ z then (upO ws z).bind fun i => if ∃ y ∈ l, y.1 = i then some (pl ws i) else none else none) ?_ ?_ _ l rfl
 ·simp [feedL]
 ·intro l x ih
  rw [feedL_snoc]
  unfold feedStep
  by_cases hx : 0 ≤ (oAt (outs ws) x.1).into
  ·rw [if_pos hx]
   unfold upd
   by_cases hz : z = (oAt (outs ws) x.1).into
   ·subst hz
    rw [if_pos rfl, if_pos hx, upO_of g x.2 hx]
    simp [pl]
   ·rw [if_neg hz, ih]
    by_cases h0 : 0 ≤ z
    ·rw [if_pos h0, if_pos h0]
     cases hu : upO ws z with
     | none => rfl
     | some i =>
      obtain ⟨hi, e⟩ := upO_some hu
      have hne : x.1 ≠ i := fun e' => hz (by rw [e', e])
      simp [hne]
    ·rw [if_neg h0, if_neg h0]
  ·rw [if_neg hx, ih]
   by_cases h0 : 0 ≤ z
   ·rw [if_pos h0, if_pos h0]
    cases hu : upO ws z with
    | none => rfl
    | some i =>
     obtain ⟨hi, e⟩ := upO_some hu
     have hne : x.1 ≠ i := fun e' => hx (by rw [e', e]; exact h0)
     simp [hne]
   ·rw [if_neg h0, if_neg h0]
/-- What the map of feeders says of carrier c. -/
theorem feed_at {ws : List Car} (g : Good ws) (c : Nat) : feedL ws (List.finRange (outs ws).length) (c : Int) = (upO ws (c : Int)).map (pl ws) := by
 rw [feedL_gen g, if_pos (by omega)]
 cases hu : upO ws (c : Int) with
 | none => rfl
 | some i =>
  obtain ⟨hi, _⟩ := upO_some hu
  have : ∃ y : Fin (outs ws).length, y.1 = i := ⟨⟨i, hi⟩, rfl⟩
  simp [this]

/-- The carriers that no outlet feeds. -/
def headsN (ws : List Car) : List Nat := (List.range ws.length).filter fun c => (upO ws (c : Int)).isNone
def headsTo (ws : List Car) (k : Nat) : List Nat := (List.range k).filter fun c => (upO ws (c : Int)).isNone
theorem headsTo_succ (ws : List Car) (k : Nat) : headsTo ws (k + 1) = if (upO ws (k : Int)).isNone = true then headsTo ws k ++ [k] else headsTo ws k := by
 unfold headsTo
 rw [List.range_succ, List.filter_append]
 cases h : (upO ws (k : Int)).isNone <;> simp [h]
theorem headsTo_le (ws : List Car) (k : Nat) : (headsTo ws k).length ≤ k := by
 have := List.length_filter_le (fun c : Nat => (upO ws (c : Int)).isNone) (List.range k)
 simpa [headsTo] using this
end Go.Proofs.YtegmniphgahblaaGreat
namespace Go.Proofs.YtegmniphgahblaaGreat
open Go.RowKit

/-- A list of numbers, as the walk's integers. -/
def ints (l : List Nat) : List Int := l.map fun (n : Nat) => (n : Int)
theorem ints_append (l m : List Nat) : ints (l ++ m) = ints l ++ ints m := by simp [ints]
theorem ints_length (l : List Nat) : (ints l).length = l.length := by simp [ints]
theorem plV_eq (p : Int × Int × Int) : plV p = .agg #[.int .i64 p.1, .int .i64 p.2.1, .int .i64 p.2.2] := rfl
theorem nat_wf {n : Nat} (h : n ≤ 1000000) : (Lit.int .i64 (n : Int)).wf = true := WalkArith.wf_i64 (by omega)

theorem Own.later {w w' : World} {base : Nat} {v : Value} {xs : List Int} (h : Own w base v xs) (hb : Below w.heap.size w w') : Own w' base v xs := by
 rcases h.2 with ⟨e, hn⟩ | ⟨g, cap, cur, e, hbg, hg, hrest⟩
 ·exact ⟨h.1, .inl ⟨e, hn⟩⟩
 ·exact ⟨h.1, .inr ⟨g, cap, cur, e, hbg, (hb.block g (Array.getElem?_eq_some_iff.1 hg).1).trans hg, hrest⟩⟩
theorem own_block {w : World} {base k : Nat} {v : Value} {xs : List Int} (h : Own w base v xs) (e : v.ownBlock = some k) : base ≤ k := by
 rcases h.2 with ⟨rfl, _⟩ | ⟨g, cap, cur, rfl, hb, _⟩
 ·simp [Value.ownBlock] at e
 ·simp only [Value.ownBlock, Option.some.injEq] at e
  omega
theorem Own.of_row {w : World} {base : Nat} {v : Value} {xs : List Int} {n : Nat} {x : Int} (h : w.ownsRow base 3 1 v (n + 1) (xs.map (Value.int .i64) ++ [.int .i64 x])) (hn : xs.length = n) : Own w base v (xs ++ [x]) := by
 unfold Own; rw [List.length_append, List.map_append, hn]; exact h
theorem Own.row {w : World} {base : Nat} {v : Value} {xs : List Int} {n : Nat} (h : Own w base v xs) (hn : xs.length = n) : w.ownsRow base 3 1 v n (xs.map (Value.int .i64)) := by
 unfold Own at h; rw [hn] at h; exact h
theorem Own.slice {w : World} {base : Nat} {v : Value} {xs : List Int} {n : Nat} (h : Own w base v xs) (hn : xs.length = n) : ∃ A c, v = .slice A n c := by
 obtain ⟨A, c, hv, _, _⟩ := h.rd
 exact ⟨A, c, by rw [hv, hn]⟩

set_option maxRecDepth 100000 in
set_option maxHeartbeats 1600000 in
theorem heads_any (A : Option Addr) (c : Nat) (ws : List Car) (w : World) (h : Wk w A ws) (g : Good ws) :
  Calls Tryz.prog 34 #[.agg #[.slice A ws.length c]] w fun e w' => RSlice w (ints (headsTo ws ws.length)) e w' := by
 obtain ⟨i0, hi0, hz0, hz1, hz2⟩ := info_parts info3
 have hb := (Below.refl _ w).alloc (Nat.le_refl _) (.cells #[.slice A ws.length c] 24)
 have hm : ws.length ≤ maxLen := by have := h.n1; unfold maxLen; omega
 have hN : (outs ws).length ≤ 1000000000 := by have := h.n2; omega
 have hf := feeders_any A c ws _ (h.ext hb).rd hm hN (fun i hi => (g.wf hi).2)
 have hat := feed_at g
 have p1 : (w.alloc (.cells #[.slice A ws.length c] 24)).cell? ⟨w.heap.size, 0, none⟩ = some (.slice A ws.length c) := by simp [go_sem]
 have hs1 : w.heap.size < (w.alloc (.cells #[.slice A ws.length c] 24)).heap.size := by simp
 have H1 := hd3 hf hb hat
 have hn1 := h.n1
 have hr := h.rd
 unfold maxLen at hm
 clear hf hb hat hN h
 go_enter Tryz.func34, Tryz.ntmps34
 go_upto_region 1 with fail
 generalize hgW : w.alloc (.cells #[.slice A ws.length c] 24) = W1 at *
 clear hgW
 go_upto_region 2 with (go_at_call 67; refine H1.out.1.mono ?_; rintro e w1 ⟨gm, rfl, hM, hg1, hbw⟩; have p1' := (hbw.cell (p := ⟨w.heap.size, 0, none⟩) hs1).trans p1)
 have HW := hd2 hM (H1.out.2.1.trans (hbw.mono H1.out.2.1.size))
 have hgl := hM.lt
 clear hM hbw p1
 go_wp2
 go_loopg [4, 5, 6, 7, 13] ws.length (fun gg s _ _ _ i wr => ∃ t : Nat, t ≤ ws.length ∧ ws.length - t ≤ gg ∧ i = .int .i64 t ∧ ∃ A2 n c2, n = (headsTo ws t).length ∧ s = .slice A2 n c2 ∧ Aside (Below w1.heap.size w1 wr ∧ Own wr w1.heap.size (.slice A2 n c2) (ints (headsTo ws t))))
 case atStart => exact ⟨0, Nat.zero_le _, by omega, rfl, none, 0, 0, rfl, rfl, Below.refl _ _, Own.nil _ _⟩
 case round =>
  obtain ⟨t, ht, hg, rfl, A2, n, c2, hn, rfl, hS⟩ := hrel
  have HS := Lib.hid hS.out
  clear hS
  by_cases hlt : t < ws.length
  ·have hltz : (t : Int) < (ws.length : Int) := by omega
   have lk := MapP.look (HW.out.1.below HS.out.1 hgl) (nat_wf (n := t) (by omega))
   have hsu := headsTo_succ ws t
   have hle := headsTo_le ws t
   rw [H1.out.2.2 t] at lk
   cases hu : upO ws (t : Int) with
   | some i =>
    rw [hu] at lk hsu
    simp only [Option.map_some, Option.getD_some, Option.isSome_some, pl, plV_eq] at lk
    simp only [Option.isNone_some, Bool.false_eq_true, if_false] at hsu
    have HE := Lib.hid hsu
    have HB := Lib.hid ((Below.refl _ wr).alloc (Nat.le_refl _) (.cells #[.int .i64 (i : Int), .int .i64 (caAt ws i : Int), .int .i64 (atAt ws i : Int)] 103))
    have HN := Lib.hid hn
    clear hu hsu hn
    go_wp2
    go_roundg (ws.length - (t + 1))
    case measure => omega
    case rel => exact ⟨t + 1, by omega, by omega, by go_num, A2, n, c2, by rw [HE.out]; exact HN.out, rfl, by rw [HE.out]; exact ⟨HS.out.1.trans (HB.out.mono HS.out.1.size), HS.out.2.later HB.out⟩⟩
   | none =>
    rw [hu] at lk hsu
    simp only [Option.map_none, Option.getD_none, Option.isSome_none, plV_eq] at lk
    simp only [Option.isNone_none, if_true] at hsu
    have hn2 : (ints (headsTo ws t)).length = n := by rw [ints_length, hn]
    have hnl : n ≤ 1000 := by omega
    have hB6 := (Below.refl _ wr).alloc (Nat.le_refl _) (.cells #[.int .i64 0, .int .i64 0, .int .i64 0] 103)
    have hBw := hB6.trans (((Below.refl _ (wr.alloc (.cells #[.int .i64 0, .int .i64 0, .int .i64 0] 103))).alloc (Nat.le_refl _) (.cells #[.int .i64 (t : Int)] 3)).mono hB6.size)
    have hnew := World.news_of_block (cs := #[.int .i64 (t : Int)]) (t := 3) (fr := (0, 0)) (World.alloc_heap_new (wr.alloc (.cells #[.int .i64 0, .int .i64 0, .int .i64 0] 103)) (.cells #[.int .i64 (t : Int)] 3))
    rw [World.size_alloc] at hnew
    have hown := (HS.out.2.later hBw).row hn2
    have hsz : w1.heap.size ≤ ((wr.alloc (.cells #[.int .i64 0, .int .i64 0, .int .i64 0] 103)).alloc (.cells #[.int .i64 (t : Int)] 3)).heap.size := Nat.le_trans HS.out.1.size hBw.size
    have HE := hd3 hsu hn hn2
    have HB := hd4 hBw hown hnew hsz
    clear hu hsu hn hn2 hB6 hBw hnew hown hsz
    go_wp2_with (at_builtin; refine wpList_append_own_at _ rfl _ _ 28 rfl (w1.heap.size) 3 i0 (.int .i64 0) 1 8 Tryz.underlying28 hi0 hz0 hz1 hz2 rfl (by decide) (.slice A2 n c2) n _ rfl HB.out.2.1 ⟨wr.heap.size + 1, 0, none⟩ 1 1 [.int .i64 (t : Int)] rfl (by simp) HB.out.2.2.1 (by simp [Value.oneCell']) (by unfold maxLen; omega) (by omega) HB.out.2.2.2 ?_; intro v' w9 hown1 hgrow _ _; have hO9 := Own.of_row hown1 HE.out.2.2; obtain ⟨A', c', rfl⟩ := hO9.slice (n := n + 1) (by rw [List.length_append, HE.out.2.2]; rfl); have HP := hd2 hO9 hgrow; clear hO9 hown1 hgrow)
    go_roundg (ws.length - (t + 1))
    case measure => omega
    case rel => exact ⟨t + 1, by omega, by omega, by go_num, A', n + 1, c', by rw [HE.out.1, List.length_append, HE.out.2.1]; rfl, rfl, by
     rw [HE.out.1, ints_append]
     exact ⟨(HS.out.1.trans (HB.out.1.mono HS.out.1.size)).grown HP.out.2 (Nat.le_trans HS.out.1.size HB.out.1.size) (fun k e => own_block HS.out.2 e), HP.out.1⟩⟩
  ·have hltz : ¬ (t : Int) < (ws.length : Int) := by omega
   obtain rfl : t = ws.length := by omega
   obtain ⟨A', c', e', hrd, hfr⟩ := HS.out.2.rd
   rw [ints_length, ← hn] at e'
   cases e'
   have HF := hd3 hrd hfr hn
   clear hrd hfr hn
   go_wp2
   go_ret
   exact ⟨A2, c2, by rw [ints_length, ← HF.out.2.2]; rfl, HF.out.1, HF.out.2.1.mono HW.out.2.size, HW.out.2.trans (HS.out.1.mono HW.out.2.size)⟩
end Go.Proofs.YtegmniphgahblaaGreat
