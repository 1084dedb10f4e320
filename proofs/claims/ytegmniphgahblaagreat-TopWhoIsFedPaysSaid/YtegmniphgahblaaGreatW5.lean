/- Walks: ratio. -/
import Derived.Test.YtegmniphgahblaaGreatW4
import Derived.Test.YtegmniphgahblaaGreatM9
import Derived.Test.YtegmniphgahblaaGreatF8
namespace Go.Proofs.YtegmniphgahblaaGreat
open Go.RowKit Go.Shelf

/-- A fraction in lowest terms. -/
def ratC (n d : Nat) : Array Value := #[.int .i64 (ratN n d : Nat), .int .i64 (ratD n d : Nat)]
def ratV (n d : Nat) : Value := .agg (ratC n d)
theorem blk_put2 {W : World} {g : Nat} {ty : TypeId} {z0 z1 : Value} (h : Blk W g #[z0, z1] ty) (v0 v1 : Value) : Blk ((W.setCell ⟨g, 0, none⟩ v0).setCell ⟨g, 1, none⟩ v1) g #[v0, v1] ty :=
 heap_setCell_same _ _ 1 _ _ v1 (heap_setCell_same _ _ 0 _ _ v0 h)
set_option maxRecDepth 100000 in
set_option maxHeartbeats 1600000 in
theorem ratio_any (n d : Nat) (hd : 0 < d) (hn : n ≤ 4611686018427387904) (hdm : d ≤ 4611686018427387904) (w : World) :
  Calls Tryz.prog 95 #[.int .i64 (n : Int), .int .i64 (d : Int)] w fun e w' => e = .returned (ratV n d) ∧ Below w.heap.size w w' := by
 obtain ⟨G, hG⟩ : ∃ G, Nat.gcd n d = G := ⟨_, rfl⟩
 unfold ratV ratC ratN ratD
 rw [hG]
 have hG0 : 0 < G := by rw [← hG]; exact Nat.gcd_pos_of_pos_right _ hd
 have hGn : G ∣ n := by rw [← hG]; exact Nat.gcd_dvd_left _ _
 have hGd : G ∣ d := by rw [← hG]; exact Nat.gcd_dvd_right _ _
 have hGle : G ≤ d := Nat.le_of_dvd hd hGd
 have HG := Lib.hid hG
 clear hG
 have hneg : IntKind.i64.wrap (-(n : Int)) = -(n : Int) := IntWalk.i64_in _ (by omega)
 have hb0 : Below w.heap.size w (w.alloc (.cells #[.int .i64 0, .int .i64 0] 55)) := (Below.refl _ w).alloc (Nat.le_refl _) _
 have hk0 := blk_new w #[.int .i64 0, .int .i64 0] 55 rfl
 have K := hd2 hb0 hk0
 clear hb0 hk0
 go_enter Tryz.func95, Tryz.ntmps95
 go_upto_region 2 with fail
 generalize hgW : w.alloc (.cells #[.int .i64 0, .int .i64 0] 55) = W0 at *
 clear hneg
 go_loopg [5, 6] d (fun gg a b wr => ∃ x y : Nat, a = .int .i64 x ∧ b = .int .i64 y ∧ x ≤ 4611686018427387904 ∧ y ≤ gg ∧ y ≤ 4611686018427387904 ∧ Aside (Nat.gcd x y = G ∧ Below w.heap.size w wr ∧ Blk wr w.heap.size #[.int .i64 0, .int .i64 0] 55))
 case atStart => exact ⟨n, d, rfl, rfl, hn, Nat.le_refl _, hdm, HG.out, K.out.1, K.out.2⟩
 case round =>
  obtain ⟨x, y, rfl, rfl, hx, hy, hy2, hA⟩ := hrel
  have HA := Lib.hid hA.out
  clear hA
  by_cases hlt : 0 < y
  ·have hltz : (y : Int) > 0 := by omega
   have hyne : ¬ y = 0 := by omega
   have hmod : IntKind.i64.wrap ((x : Int).tmod (y : Int)) = ((x % y : Nat) : Int) := by
    have e : (x : Int).tmod (y : Int) = ((x % y : Nat) : Int) := rfl
    have := Nat.mod_lt x hlt
    rw [e]
    exact IntWalk.i64_in _ (by omega)
   go_wp2
   refine wp_region_R (fun _ => true) ?_
   have HX := hd2 (HA.out.2.1.drew) (show Blk wr.drew w.heap.size _ _ from HA.out.2.2)
   generalize wr.drew = X0 at *
   refine bF 0 rfl ?_
   refine bF 1 rfl ?_
   refine bF 2 rfl ?_
   refine bF 3 rfl ?_
   refine bF 4 rfl ?_
   refine bF 5 rfl ?_
   refine bD ?_
   go_wp2
   go_roundg (x % y)
   case measure => have := Nat.mod_lt x hlt; omega
   case rel => exact ⟨y, x % y, rfl, rfl, hy2, Nat.le_refl _, by have := Nat.mod_lt x hlt; omega, by rw [Nat.gcd_comm, ← Nat.gcd_rec, Nat.gcd_comm]; exact HA.out.1, HX.out⟩
  ·obtain rfl : y = 0 := by omega
   have hxG : x = G := by have := HA.out.1; rwa [Nat.gcd_zero_right] at this
   subst hxG
   have hxne : ¬ x = 0 := by omega
   go_wp2
   refine wp_region_R (fun j => j != 7) ?_
   have HX := hd2 (HA.out.2.1.drew) (show Blk wr.drew w.heap.size _ _ from HA.out.2.2)
   generalize wr.drew = X0 at *
   refine bF 0 rfl ?_
   refine bF 1 rfl ?_
   refine bF 2 rfl ?_
   refine bF 3 rfl ?_
   refine bF 4 rfl ?_
   refine bF 5 rfl ?_
   refine bF 6 rfl ?_
   refine bR 7 rfl fun K hK => ?_
   have c0 := cr 0 HX.out.2
   have f0 := bf 0 HX.out.2
   have c1 := cr 1 HX.out.2
   have f1 := bf 1 HX.out.2
   obtain ⟨p, hp⟩ : ∃ p : Nat, n / x = p := ⟨_, rfl⟩
   obtain ⟨q, hq⟩ : ∃ q : Nat, d / x = q := ⟨_, rfl⟩
   have hpn : p ≤ n := hp ▸ Nat.div_le_self n x
   have hqd : q ≤ d := hq ▸ Nat.div_le_self d x
   have e1 : IntKind.i64.wrap ((n : Int) / (x : Int)) = (p : Int) := by
    rw [← Int.natCast_ediv, hp]
    exact IntWalk.i64_in _ (by omega)
   have e2 : IntKind.i64.wrap ((d : Int) / (x : Int)) = (q : Int) := by
    rw [← Int.natCast_ediv, hq]
    exact IntWalk.i64_in _ (by omega)
   have HPQ := hd2 hp hq
   clear hp hq
   rw [e1, e2]
   clear e1 e2
   go_simp
   refine hK.out _ _ (fun h => by cases h) ?_
   have HB := hd2 ((HX.out.1.setCell (p := ⟨w.heap.size, 0, none⟩) (Nat.le_refl _) (.int .i64 (p : Int))).setCell (p := ⟨w.heap.size, 1, none⟩) (Nat.le_refl _) (.int .i64 (q : Int))) (blk_put2 HX.out.2 (.int .i64 (p : Int)) (.int .i64 (q : Int)))
   clear hK c0 f0 c1 f1
   refine bD ?_
   have g0 := cr 0 HB.out.2
   have g1 := cr 1 HB.out.2
   go_wp2
   refine bodyPost_ret (results_cell1 Tryz.results95 _ _ ⟨w.heap.size, 0, none⟩ _ (by rfl) (run_loadVar_mid _ _ 0 _ _ _ (blk_range HB.out.2) Tryz.underlying55 rfl (by kernel_rfl))) rfl ?_
   exact ⟨by rw [HPQ.out.1, HPQ.out.2], HB.out.1⟩
theorem ratio_at (n d : Nat) (hd : 0 < d) (hn : n ≤ 4611686018427387904) (hdm : d ≤ 4611686018427387904) (w : World) :
  Calls Tryz.prog 95 #[.int .i64 (n : Int), .int .i64 (d : Int)] w fun e w' => e = .returned (.agg #[.int .i64 ((ratN n d : Nat) : Int), .int .i64 ((ratD n d : Nat) : Int)]) ∧ Below w.heap.size w w' := ratio_any n d hd hn hdm w
end Go.Proofs.YtegmniphgahblaaGreat
