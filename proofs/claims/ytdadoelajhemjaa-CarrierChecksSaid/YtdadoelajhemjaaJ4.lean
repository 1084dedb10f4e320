/- Walks: slices.Index and slices.Contains of places. -/
import Derived.Test.YtdadoelajhemjaaJ3
namespace Go.Proofs.Ytdadoelajhemjaa
open Go.RowKit Go.Shelf

set_option maxRecDepth 100000 in
set_option maxHeartbeats 800000 in
theorem indexP_any (A : Option Addr) (c : Nat) (ws : List Car) (l : List Nat) (x : Nat) (w : World) (h : RdP w w.heap.size A (l.map (pl ws))) (hm : l.length ≤ 1000) :
  Calls Try.prog 139 #[.slice A l.length c, plV (pl ws x)] w fun e w' => ∃ r : Int, e = .returned (.int .i64 r) ∧ (0 ≤ r ↔ x ∈ l) ∧ Below w.heap.size w w' := by
 have hc0 : ∀ r : Int, (x ∈ l → 0 ≤ r) → (x ∉ l → r < 0) → (0 ≤ r ↔ x ∈ l) := fun r h1 h2 => ⟨fun h => Classical.byContradiction fun e => by have := h2 e; omega, h1⟩
 have HC0 := Lib.hid hc0
 have HR := Lib.hid h
 clear hc0 h
 dsimp only [pl, plV]
 go_enter Try.func139, Try.ntmps139
 go_wp2
 have HL := hd2 (show Below w.heap.size w (w.alloc (.cells #[.int .i64 (x : Int), .int .i64 (caAt ws x : Int), .int .i64 (atAt ws x : Int)] 131)) from (Below.refl _ w).alloc (Nat.le_refl _) _) (blk_new w #[.int .i64 (x : Int), .int .i64 (caAt ws x : Int), .int .i64 (atAt ws x : Int)] 131 rfl)
 generalize w.alloc (.cells #[.int .i64 (x : Int), .int .i64 (caAt ws x : Int), .int .i64 (atAt ws x : Int)] 131) = w1 at *
 go_loopg [5, 8] l.length (fun gg _ i wr => ∃ t : Nat, t ≤ l.length ∧ l.length - t ≤ gg ∧ i = .int .i64 t ∧ Aside (Below w1.heap.size w1 wr ∧ ∀ j, j < t → l.getD j 0 ≠ x))
 case atStart => exact ⟨0, Nat.zero_le _, by omega, rfl, Below.refl _ _, fun j hj => absurd hj (Nat.not_lt_zero _)⟩
 case round =>
  obtain ⟨t, ht, hgg, rfl, hA⟩ := hrel
  have HA := Lib.hid hA.out
  clear hA
  by_cases hlt : t < l.length
  ·have hltz : (t : Int) < (l.length : Int) := by omega
   have hbw : Below w.heap.size w wr := HL.out.1.trans (HA.out.1.mono HL.out.1.size)
   obtain ⟨b, off, rfl, hbl, hc⟩ := (HR.out.ext hbw) (by rw [List.length_map]; omega)
   have hp := hc t (by rw [List.length_map]; exact hlt)
   rw [pAt_map hlt] at hp
   have hd : Below wr.heap.size wr wr.drew := (Below.refl _ wr).drew
   have q0 := cell_below hd hp.c0
   have q1 := cell_below hd hp.c1
   have q2 := cell_below hd hp.c2
   dsimp only [pl] at q0 q1 q2
   have hB := blk_on (blk_on HL.out.2 HA.out.1) hd
   have z0 := cr 0 hB
   have z1 := cr 1 hB
   have z2 := cr 2 hB
   generalize hyy : l.getD t 0 = y at *
   have HY := hd3 hyy hd hbw
   clear hyy hd hbw hc hp hB
   by_cases e : x = y
   ·subst e
    go_upto_region 4 with fail
    refine wp_region_R (fun _ => true) ?_
    generalize wr.drew = X0 at *
    refine bV z0 z1 z2 0 rfl ?_
    refine bF 1 rfl ?_
    refine bF 2 rfl ?_
    refine bF 3 rfl ?_
    refine bV q0 q1 q2 4 rfl ?_
    refine bF (v := .bool true) 5 rfl ?_
    refine bD ?_
    have HK := Lib.hid (HC0.out (t : Int) (fun _ => by omega) (fun h => absurd (by rw [← HY.out.1, List.getD_eq_getElem?_getD, List.getElem?_eq_getElem hlt]; exact List.getElem_mem hlt) h))
    clear z0 z1 z2 q0 q1 q2
    go_wp2
    go_ret
    exact ⟨_, rfl, HK.out, HY.out.2.2.trans (HY.out.2.1.mono HY.out.2.2.size)⟩
   ·have hne : ((x : Int) == (y : Int)) = false := by simp; omega
    go_upto_region 4 with fail
    refine wp_region_R (fun _ => true) ?_
    generalize wr.drew = X0 at *
    refine bV z0 z1 z2 0 rfl ?_
    refine bF 1 rfl ?_
    refine bF 2 rfl ?_
    refine bF 3 rfl ?_
    refine bV q0 q1 q2 4 rfl ?_
    refine bF (v := .bool false) 5 rfl ?_
    refine bD ?_
    have HE := Lib.hid e
    clear z0 z1 z2 q0 q1 q2 e hne
    go_wp2
    go_roundg (l.length - (t + 1))
    case measure => omega
    case rel => exact ⟨t + 1, by omega, by omega, by go_num, (show _ ∧ _ from ⟨HA.out.1.trans (HY.out.2.1.mono HA.out.1.size), fun j hj => by
     by_cases e : j = t
     ·subst e; rw [HY.out.1]; exact Ne.symm HE.out
     ·exact HA.out.2 j (by omega)⟩)⟩
  ·have hltz : ¬ (t : Int) < (l.length : Int) := by omega
   obtain rfl : t = l.length := by omega
   have HK := Lib.hid (HC0.out (-1) (fun h => by
    obtain ⟨j, hj, e⟩ := List.getElem_of_mem h
    exact absurd (by rw [List.getD_eq_getElem?_getD, List.getElem?_eq_getElem hj]; exact e) (HA.out.2 j hj)) (fun _ => by omega))
   have HE := Lib.hid (HL.out.1.trans (HA.out.1.mono HL.out.1.size))
   go_wp2
   go_ret
   exact ⟨_, rfl, HK.out, HE.out⟩
end Go.Proofs.Ytdadoelajhemjaa
