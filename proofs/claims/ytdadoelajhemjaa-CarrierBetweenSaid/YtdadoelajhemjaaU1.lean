/- Walks: pair and narrow, of the law CarrierBetween. -/
import Derived.Test.YtdadoelajhemjaaQ2
import Derived.Test.YtdadoelajhemjaaM12
namespace Go.Proofs.Ytdadoelajhemjaa
open Go.RowKit Go.Shelf

/-- A slice of uint16 reads as numbers. -/
def RdU (w : World) (A : Option Addr) (xs : List Int) : Prop := 0 < xs.length → ∃ b off, A = some ⟨b, off, none⟩ ∧ ∀ i, i < xs.length → w.cell? ⟨b, off + i, none⟩ = some (.int .u16 (nth xs i))
theorem RdU.ext {w w' : World} {A : Option Addr} {xs : List Int} (h : RdU w A xs) (hb : Below w.heap.size w w') : RdU w' A xs := fun hn => by
 obtain ⟨b, off, e, hc⟩ := h hn
 exact ⟨b, off, e, fun i hi => cell_below hb (hc i hi)⟩
theorem stays_rdu {W : World} {A : Option Addr} {xs : List Int} (h : RdU W A xs) : Stays (fun X => RdU X A xs) W := ⟨h, fun _ _ a b => a.ext b⟩
def prA (xs : List Int) (i : Nat) : Int := if 2 * i + 1 < xs.length then nth xs (2 * i) else 0
def prB (xs : List Int) (i : Nat) : Int := if 2 * i + 1 < xs.length then nth xs (2 * i + 1) else 0
set_option maxRecDepth 100000 in
set_option maxHeartbeats 1600000 in
theorem pair_any (A : Option Addr) (c : Nat) (xs : List Int) (i : Nat) (hi : i ≤ 1000) (hm : xs.length ≤ maxLen) (w : World) (h : RdU w A xs) :
  Calls Try.prog 63 #[.slice A xs.length c, .int .i64 (i : Int)] w fun e w' => e = .returned (.tuple #[.int .u16 (prA xs i), .int .u16 (prB xs i)]) ∧ Below w.heap.size w w' := by
 have h1 : IntKind.i64.wrap (2 * (i : Int)) = 2 * (i : Int) := by rw [IntKind.wrap_i64]; omega
 have h2 : IntKind.i64.wrap (2 * (i : Int) + 1) = 2 * (i : Int) + 1 := by rw [IntKind.wrap_i64]; omega
 unfold maxLen at hm
 by_cases hx : 2 * i + 1 < xs.length
 ·have hz : ¬ (xs.length : Int) ≤ 2 * (i : Int) + 1 := by omega
  have e1 : prA xs i = nth xs (2 * i) := if_pos hx
  have e2 : prB xs i = nth xs (2 * i + 1) := if_pos hx
  rw [e1, e2]
  clear e1 e2
  obtain ⟨b, off, rfl, hc⟩ := h (by omega)
  have z0 : w.drew.cell? ⟨b, off + 2 * i, none⟩ = some (.int .u16 (nth xs (2 * i))) := hc _ (by omega)
  have z1 : w.drew.cell? ⟨b, off + (2 * i + 1), none⟩ = some (.int .u16 (nth xs (2 * i + 1))) := hc _ hx
  have HB := Lib.hid (Below.refl w.heap.size w).drew
  clear hc h
  go_enter Try.func63, Try.ntmps63
  go_upto_region 3 with fail
  refine wp_region_R (fun _ => true) ?_
  generalize w.drew = X at *
  have hp1 : (2 * (i : Int)) < (xs.length : Int) := by omega
  have hp2 : (2 * (i : Int) + 1) < (xs.length : Int) := by omega
  have hp3 : (0 : Int) ≤ 2 * (i : Int) := by omega
  have hp4 : (0 : Int) ≤ 2 * (i : Int) + 1 := by omega
  have t1 : (2 * (i : Int)).toNat = 2 * i := by omega
  have t2 : (2 * (i : Int) + 1).toNat = 2 * i + 1 := by omega
  refine bF 0 rfl ?_
  refine bF 1 rfl ?_
  refine bF 2 rfl ?_
  refine bF 3 rfl ?_
  refine bT z0 4 rfl ?_
  refine bF 5 rfl ?_
  refine bF 6 rfl ?_
  refine bF 7 rfl ?_
  refine bF 8 rfl ?_
  refine bF 9 rfl ?_
  refine bT z1 10 rfl ?_
  refine bF 11 rfl ?_
  refine bF 12 rfl ?_
  refine bD ?_
  go_wp2
  go_ret2
  exact ⟨rfl, HB.out⟩
 ·have hz : (xs.length : Int) ≤ 2 * (i : Int) + 1 := by omega
  have e1 : prA xs i = 0 := if_neg hx
  have e2 : prB xs i = 0 := if_neg hx
  rw [e1, e2]
  go_enter Try.func63, Try.ntmps63
  go_wp2
  go_ret2
  exact ⟨rfl, Below.refl _ _⟩
def nrA (lo hi a : Int) : Int := lo + a % (hi - lo + 1)
def nrB (lo hi a b : Int) : Int := nrA lo hi a + b % (hi - nrA lo hi a + 1)
theorem nr_in {lo hi a : Int} (h : lo ≤ hi) : lo ≤ nrA lo hi a ∧ nrA lo hi a ≤ hi := by
 unfold nrA
 have h1 := Int.emod_nonneg a (show hi - lo + 1 ≠ 0 by omega)
 have h2 := Int.emod_lt_of_pos a (show 0 < hi - lo + 1 by omega)
 omega
theorem nrB_in {lo hi a b : Int} (h : lo ≤ hi) : nrA lo hi a ≤ nrB lo hi a b ∧ nrB lo hi a b ≤ hi := nr_in (lo := nrA lo hi a) (a := b) (nr_in h).2
set_option maxRecDepth 100000 in
set_option maxHeartbeats 1600000 in
theorem narrow_any (lo hi a b : Int) (h0 : 0 ≤ lo) (h1 : lo ≤ hi) (h2 : hi ≤ 1099511627776) (ha : 0 ≤ a ∧ a ≤ 65535) (hb : 0 ≤ b ∧ b ≤ 65535) (w : World) :
  Calls Try.prog 64 #[.agg #[.int .i64 lo, .int .i64 hi], .int .u16 a, .int .u16 b] w fun e w' => e = .returned (.agg #[.int .i64 (nrA lo hi a), .int .i64 (nrB lo hi a b)]) ∧ Below w.heap.size w w' := by
 have hbw : Below w.heap.size w (((w.alloc (.cells #[.int .i64 lo, .int .i64 hi] 40)).alloc (.cells #[.int .i64 0, .int .i64 0] 40))).drew := (((Below.refl _ w).alloc (Nat.le_refl _) _).alloc (by simp) _).drew
 have k0 : Blk (((w.alloc (.cells #[.int .i64 lo, .int .i64 hi] 40)).alloc (.cells #[.int .i64 0, .int .i64 0] 40))).drew w.heap.size #[.int .i64 lo, .int .i64 hi] 40 := blk_alloc (blk_new w #[.int .i64 lo, .int .i64 hi] 40 rfl) _
 have k1 : Blk (((w.alloc (.cells #[.int .i64 lo, .int .i64 hi] 40)).alloc (.cells #[.int .i64 0, .int .i64 0] 40))).drew (w.heap.size + 1) #[.int .i64 0, .int .i64 0] 40 := blk_new (w.alloc (.cells #[.int .i64 lo, .int .i64 hi] 40)) #[.int .i64 0, .int .i64 0] 40 (by simp)
 have hA := nr_in (a := a) h1
 have hB := nrB_in (a := a) (b := b) h1
 have m1 : IntKind.i64.wrap (hi - lo) = hi - lo := by rw [IntKind.wrap_i64]; omega
 have m2 : IntKind.i64.wrap (hi - lo + 1) = hi - lo + 1 := by rw [IntKind.wrap_i64]; omega
 have m3 : ¬ hi - lo + 1 = 0 := by omega
 have m4 : IntKind.i64.wrap (lo + a % (hi - lo + 1)) = nrA lo hi a := by rw [IntKind.wrap_i64]; unfold nrA at *; omega
 have m4' : IntKind.i64.wrap (lo + (IntKind.i64.wrap a).tmod (hi - lo + 1)) = nrA lo hi a := by
  rw [show IntKind.i64.wrap a = a by rw [IntKind.wrap_i64]; omega, Int.tmod_eq_emod_of_nonneg ha.1]
  exact m4
 have HA := Lib.hid hA
 have HB := Lib.hid hB
 have HE : Hid (nrB lo hi a b = nrA lo hi a + b % (hi - nrA lo hi a + 1)) := Lib.hid rfl
 clear hA hB
 generalize nrB lo hi a b = NB at *
 generalize nrA lo hi a = n at *
 go_enter Try.func64, Try.ntmps64
 go_upto_region 1 with fail
 refine wp_region_R (fun _ => true) ?_
 generalize (((w.alloc (.cells #[.int .i64 lo, .int .i64 hi] 40)).alloc (.cells #[.int .i64 0, .int .i64 0] 40))).drew = X at *
 have z0 := cr 0 k0
 have z1 := cr 1 k0
 refine bF 0 rfl ?_
 refine bF 4 rfl ?_
 refine bF 6 rfl ?_
 refine bT z0 1 rfl ?_
 refine bT z0 7 rfl ?_
 refine bT z1 5 rfl ?_
 refine bF 2 rfl ?_
 refine bF 3 rfl ?_
 refine bF 8 rfl ?_
 refine bF 9 rfl ?_
 refine bF 10 rfl ?_
 refine bF 11 rfl ?_
 refine bF 12 rfl ?_
 refine bD ?_
 clear z0 z1 m4'
 have hn := HA.out
 have hN := HB.out
 have m5 : IntKind.i64.wrap (hi - n) = hi - n := by rw [IntKind.wrap_i64]; omega
 have m6 : IntKind.i64.wrap (hi - n + 1) = hi - n + 1 := by rw [IntKind.wrap_i64]; omega
 have m7 : ¬ hi - n + 1 = 0 := by omega
 have m8 : IntKind.i64.wrap (n + b % (hi - n + 1)) = NB := by rw [← HE.out, IntKind.wrap_i64]; omega
 have z1 := cr 1 k0
 have y0 := cr 0 k1
 have y1 := cr 1 k1
 have f0 := bf 0 k1
 have f1 := bf 1 k1
 have HK := hd2 k1 hbw
 clear k0 k1 hbw m1 m2 m3 m4 hn hN
 go_wp2
 have h3 := blk_set2 HK.out.1 (.int .i64 n) (.int .i64 NB)
 have h4 := (HK.out.2.setCell (p := ⟨(w.heap.size + 1), 0, none⟩) (by show w.heap.size ≤ (w.heap.size + 1); omega) (.int .i64 n)).setCell (p := ⟨(w.heap.size + 1), 1, none⟩) (by show w.heap.size ≤ (w.heap.size + 1); omega) (.int .i64 NB)
 have v0 := cr 0 h3
 have v1 := cr 1 h3
 clear y0 y1 f0 f1
 generalize (X.setCell ⟨(w.heap.size + 1), 0, none⟩ (.int .i64 n)).setCell ⟨(w.heap.size + 1), 1, none⟩ (.int .i64 NB) = wz at *
 exact bodyPost_ret (v := .agg #[.int .i64 n, .int .i64 NB]) (by simp [results, Try.results64, go_sem, v0, v1]) rfl ⟨rfl, h4⟩
end Go.Proofs.Ytdadoelajhemjaa
