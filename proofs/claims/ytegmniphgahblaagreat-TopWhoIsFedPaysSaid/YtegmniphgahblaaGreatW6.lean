/- Walks: piece, add. -/
import Derived.Test.YtegmniphgahblaaGreatW5
namespace Go.Proofs.YtegmniphgahblaaGreat
open Go.RowKit Go.Shelf

set_option maxRecDepth 100000 in
set_option maxHeartbeats 1600000 in
theorem piece_any (p : Pay) (wt x all : Nat) (hw : p.wt = (wt : Int)) (h0 : wt ≤ 24) (h1 : x ≤ 65536) (h2 : 1 ≤ all) (h3 : all ≤ 24) (w : World) :
  Calls Tryz.prog 82 #[p.v, .int .i64 (x : Int), .int .i64 (all : Int)] w fun e w' => e = .returned (ratV (x * wt) all) ∧ Below w.heap.size w w' := by
 obtain ⟨pid, prc, pwt⟩ := p
 dsimp only at hw
 subst hw
 unfold Pay.v
 dsimp only
 have hm : x * wt ≤ 65536 * 24 := Nat.mul_le_mul h1 h0
 have hmul : IntKind.i64.wrap ((x : Int) * (wt : Int)) = ((x * wt : Nat) : Int) := by
  rw [← Int.natCast_mul]
  exact IntWalk.i64_in _ (by omega)
 have hb1 : Below w.heap.size w ((w.alloc (.cells #[.int .i64 pid, .int .i64 prc, .int .i64 (wt : Int)] 53)).alloc (.cells #[.int .i64 0, .int .i64 0] 55)) := ((Below.refl _ w).alloc (Nat.le_refl _) _).alloc (by simp) _
 have hk := blk_new (w.alloc (.cells #[.int .i64 pid, .int .i64 prc, .int .i64 (wt : Int)] 53)) (g := w.heap.size + 1) #[.int .i64 0, .int .i64 0] 55 (by simp)
 have K := hd2 hb1 hk
 clear hb1 hk
 go_enter Tryz.func82, Tryz.ntmps82
 go_wp2_with (go_at_call 95; refine (ratio_at (x * wt) all (by omega) (by omega) (by omega) _).mono ?_; rintro e w' ⟨rfl, hb⟩; have K1 := hd2 (K.out.1.trans (hb.mono K.out.1.size)) (blk_on K.out.2 hb); have c0 := cr 0 K1.out.2; have c1 := cr 1 K1.out.2; have f0 := bf 0 K1.out.2; have f1 := bf 1 K1.out.2; clear hb)
 have hB := blk_put2 K1.out.2 (.int .i64 ((ratN (x * wt) all : Nat) : Int)) (.int .i64 ((ratD (x * wt) all : Nat) : Int))
 refine bodyPost_ret (results_cell1 Tryz.results82 _ _ ⟨w.heap.size + 1, 0, none⟩ _ (by rfl) (run_loadVar_mid _ _ 0 _ _ _ (blk_range hB) Tryz.underlying55 rfl (by kernel_rfl))) rfl ?_
 exact ⟨rfl, (K1.out.1.setCell (p := ⟨w.heap.size + 1, 0, none⟩) (by show w.heap.size ≤ w.heap.size + 1; omega) _).setCell (p := ⟨w.heap.size + 1, 1, none⟩) (by show w.heap.size ≤ w.heap.size + 1; omega) _⟩
set_option maxRecDepth 100000 in
set_option maxHeartbeats 1600000 in
theorem add_any (a b c d u q : Nat) (hb0 : 0 < b) (hd0 : 0 < d) (hu : ratD b d = u) (hu0 : 0 < u) (hq : b * u / d = q) (hbl : b ≤ 5354228880) (hdl : d ≤ 5354228880) (l0 : b * u ≤ 5354228880) (l1 : a * u ≤ 1152921504606846976) (l2 : c * q ≤ 1152921504606846976) (w : World) :
  Calls Tryz.prog 81 #[.agg #[.int .i64 (a : Int), .int .i64 (b : Int)], .agg #[.int .i64 (c : Int), .int .i64 (d : Int)]] w fun e w' => e = .returned (.agg #[.int .i64 ((ratN (a * u + c * q) (b * u) : Nat) : Int), .int .i64 ((ratD (a * u + c * q) (b * u) : Nat) : Int)]) ∧ Below w.heap.size w w' := by
 have hden : 0 < b * u := Nat.mul_pos hb0 hu0
 obtain ⟨den, hde⟩ : ∃ den, b * u = den := ⟨_, rfl⟩
 obtain ⟨p1, hp1⟩ : ∃ p, a * u = p := ⟨_, rfl⟩
 obtain ⟨p2, hp2⟩ : ∃ p, c * q = p := ⟨_, rfl⟩
 rw [hde] at hq hden l0
 rw [hp1] at l1
 rw [hp2] at l2
 have m0 : IntKind.i64.wrap ((b : Int) * (u : Int)) = (den : Int) := by rw [← Int.natCast_mul, hde]; exact IntWalk.i64_in _ (by omega)
 have m1 : IntKind.i64.wrap ((a : Int) * (u : Int)) = (p1 : Int) := by rw [← Int.natCast_mul, hp1]; exact IntWalk.i64_in _ (by omega)
 have hqd : q ≤ den := hq ▸ Nat.div_le_self den d
 have m2 : IntKind.i64.wrap ((den : Int) / (d : Int)) = (q : Int) := by rw [← Int.natCast_ediv, hq]; exact IntWalk.i64_in _ (by omega)
 have m3 : IntKind.i64.wrap ((c : Int) * (q : Int)) = (p2 : Int) := by rw [← Int.natCast_mul, hp2]; exact IntWalk.i64_in _ (by omega)
 obtain ⟨p3, hp3⟩ : ∃ p, p1 + p2 = p := ⟨_, rfl⟩
 have m4 : IntKind.i64.wrap ((p1 : Int) + (p2 : Int)) = (p3 : Int) := by rw [← Int.natCast_add, hp3]; exact IntWalk.i64_in _ (by omega)
 have h3l : p3 ≤ 4611686018427387904 := by omega
 rw [hde, hp1, hp2, hp3]
 have HM := hd4 m1 m2 m3 m4
 have hdn : ¬ d = 0 := by omega
 have hR := fun W => ratio_at b d hd0 (by omega) (by omega) W
 rw [hu] at hR
 generalize ratN b d = un at hR
 have hR2 := fun W => ratio_at p3 den hden h3l (by omega) W
 generalize ratN p3 den = rn at hR2 ⊢
 generalize ratD p3 den = rd at hR2 ⊢
 have HR := hd2 hR hR2
 have hB : Below w.heap.size w (((w.alloc (.cells #[.int .i64 (a : Int), .int .i64 (b : Int)] 55)).alloc (.cells #[.int .i64 (c : Int), .int .i64 (d : Int)] 55)).alloc (.cells #[.int .i64 0, .int .i64 0] 55)) := (((Below.refl _ w).alloc (Nat.le_refl _) _).alloc (by simp) _).alloc (by simp; omega) _
 have k0 : Blk (((w.alloc (.cells #[.int .i64 (a : Int), .int .i64 (b : Int)] 55)).alloc (.cells #[.int .i64 (c : Int), .int .i64 (d : Int)] 55)).alloc (.cells #[.int .i64 0, .int .i64 0] 55)) w.heap.size #[.int .i64 (a : Int), .int .i64 (b : Int)] 55 := blk_alloc (blk_alloc (blk_new w _ _ rfl) _) _
 have k1 : Blk (((w.alloc (.cells #[.int .i64 (a : Int), .int .i64 (b : Int)] 55)).alloc (.cells #[.int .i64 (c : Int), .int .i64 (d : Int)] 55)).alloc (.cells #[.int .i64 0, .int .i64 0] 55)) (w.heap.size + 1) #[.int .i64 (c : Int), .int .i64 (d : Int)] 55 := blk_alloc (blk_new (w.alloc (.cells #[.int .i64 (a : Int), .int .i64 (b : Int)] 55)) (g := w.heap.size + 1) _ _ (by simp)) _
 have k2 : Blk (((w.alloc (.cells #[.int .i64 (a : Int), .int .i64 (b : Int)] 55)).alloc (.cells #[.int .i64 (c : Int), .int .i64 (d : Int)] 55)).alloc (.cells #[.int .i64 0, .int .i64 0] 55)) (w.heap.size + 1 + 1) #[.int .i64 0, .int .i64 0] 55 := blk_new ((w.alloc (.cells #[.int .i64 (a : Int), .int .i64 (b : Int)] 55)).alloc (.cells #[.int .i64 (c : Int), .int .i64 (d : Int)] 55)) (g := w.heap.size + 1 + 1) _ _ (by simp)
 have K := Lib.hid ((((stays_bl hB).and (stays_blk k0)).and (stays_blk k1)).and (stays_blk k2))
 clear hR hR2 hB k0 k1 k2 m1 m2 m3 m4 hp1 hp2 hp3 hde hu hq
 go_enter Tryz.func81, Tryz.ntmps81
 go_upto_region 1 with fail
 generalize (((w.alloc (.cells #[.int .i64 (a : Int), .int .i64 (b : Int)] 55)).alloc (.cells #[.int .i64 (c : Int), .int .i64 (d : Int)] 55)).alloc (.cells #[.int .i64 0, .int .i64 0] 55)) = W0 at *
 have c0 := cr 1 K.out.1.1.1.2
 have c1 := cr 1 K.out.1.1.2
 go_upto_region 2 with (go_at_call 95; refine (HR.out.1 _).mono ?_; rintro e w1 ⟨rfl, hb⟩; have K1 := Lib.hid (K.out.on hb); clear hb)
 have K2 := Lib.hid ((K1.out.on ((Below.refl _ w1).alloc (Nat.le_refl _) (.cells #[.int .i64 (un : Int), .int .i64 (u : Int)] 55))).and (stays_blk (blk_new w1 #[.int .i64 (un : Int), .int .i64 (u : Int)] 55 rfl)))
 generalize w1.alloc (.cells #[.int .i64 (un : Int), .int .i64 (u : Int)] 55) = W2 at *
 generalize w1.heap.size = g2 at *
 clear c0 c1 K K1
 have c0 := cr 1 K2.out.1.1.1.1.2
 have c1 := cr 1 K2.out.1.2
 go_upto_region 3 with fail
 clear c0 c1
 refine wp_region_R (fun j => j != 15) ?_
 have K3 := Lib.hid (K2.out.on (Below.refl _ W2).drew)
 generalize W2.drew = X0 at *
 have c0 := cr 0 K3.out.1.1.1.1.2
 have c1 := cr 1 K3.out.1.2
 have c2 := cr 0 K3.out.1.1.1.2
 have c3 := cr 1 K3.out.1.1.1.2
 refine bF 0 rfl ?_
 refine bT c0 1 rfl ?_
 refine bF 2 rfl ?_
 refine bT c1 3 rfl ?_
 refine bF 4 rfl ?_
 refine bF 5 rfl ?_
 refine bT c2 6 rfl ?_
 refine bF 7 rfl ?_
 refine bF 8 rfl ?_
 refine bT c3 9 rfl ?_
 refine bF 10 rfl ?_
 refine bF 11 rfl ?_
 refine bF 12 rfl ?_
 refine bF 13 rfl ?_
 refine bR 14 rfl fun K hK => ?_
 clear c0 c1 c2 c3
 rw [HM.out.1, HM.out.2.1, HM.out.2.2.1, HM.out.2.2.2]
 go_simp
 refine (HR.out.2 _).mono ?_
 rintro e X1 ⟨rfl, hb⟩
 dsimp only
 refine hK.out _ _ (fun _ => hb) ?_
 have K4 := Lib.hid (K3.out.on hb)
 clear hK hb
 have c0 := cr 0 K4.out.1.1.2
 have c1 := cr 1 K4.out.1.1.2
 have f0 := bf 0 K4.out.1.1.2
 have f1 := bf 1 K4.out.1.1.2
 refine bR 15 rfl fun K hK => ?_
 go_simp
 refine hK.out _ _ (fun h => by cases h) ?_
 have hB := blk_put2 K4.out.1.1.2 (.int .i64 (rn : Int)) (.int .i64 (rd : Int))
 refine bD ?_
 go_wp2
 refine bodyPost_ret (results_cell1 Tryz.results81 _ _ ⟨w.heap.size + 1 + 1, 0, none⟩ _ (by rfl) (run_loadVar_mid _ _ 0 _ _ _ (blk_range hB) Tryz.underlying55 rfl (by kernel_rfl))) rfl ?_
 exact ⟨rfl, (K4.out.1.1.1.1.1.setCell (p := ⟨w.heap.size + 1 + 1, 0, none⟩) (by show w.heap.size ≤ w.heap.size + 1 + 1; omega) _).setCell (p := ⟨w.heap.size + 1 + 1, 1, none⟩) (by show w.heap.size ≤ w.heap.size + 1 + 1; omega) _⟩
end Go.Proofs.YtegmniphgahblaaGreat
