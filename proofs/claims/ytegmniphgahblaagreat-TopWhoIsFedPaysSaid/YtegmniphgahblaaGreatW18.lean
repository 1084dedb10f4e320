/- Walks: sum, isPence, sums, fair, Fair. -/
import Derived.Test.YtegmniphgahblaaGreatW17
import Derived.Test.YtegmniphgahblaaGreatW14
import Derived.Test.YtegmniphgahblaaGreatW13
import Derived.BigQuiet
namespace Go.Proofs.YtegmniphgahblaaGreat
open Go.RowKit Go.Shelf

theorem sum1_any (x : Int) (w : World) : Calls Tryz.prog 91 #[.int .i64 x] w fun e w' => e = .returned (.int .i64 x) ∧ w = w' := by
 go_enter Tryz.func91, Tryz.ntmps91
 go_wp2
 go_ret
 exact ⟨rfl, rfl⟩
/-- Pence that may be asked about. -/
structure PenceOk (n : Nat) (xs : List Int) : Prop where
 len : xs.length = n
 rng : ∀ i, i < n → 0 ≤ nth xs i ∧ nth xs i ≤ 1073741824
theorem PenceOk.sum {n : Nat} {xs : List Int} (h : PenceOk n xs) (hn : n ≤ 24) {k : Nat} (hk : k ≤ n) : 0 ≤ sumTo (nth xs) k ∧ sumTo (nth xs) k ≤ 1073741824 * 24 := by
 have := sumTo_rng (by decide) h.rng k hk
 omega
set_option maxRecDepth 100000 in
theorem sum_any (n : Nat) (hn : n ≤ 24) (C : Option Addr) (e : Nat) (xs : List Int) (hx : PenceOk n xs) (w : World) (hp : Rd w w.heap.size C xs) :
  Calls Tryz.prog 76 #[.slice C xs.length e] w fun e w' => e = .returned (.int .i64 (sumTo (nth xs) n)) ∧ w = w' := by
 have hsum := fun k (hk : k ≤ n) => hx.sum hn hk
 have hrng := hx.rng
 have hlen := hx.len
 have HT := hd3 hp hsum hrng
 clear hx hp hsum hrng
 subst hlen
 have total : Calls Tryz.prog 90 #[.slice C xs.length e, .func (.func 91) #[] #[]] w fun e w' => e = .returned (.int .i64 (sumTo (nth xs) xs.length)) ∧ w = w' := by
  go_enter Tryz.func90, Tryz.ntmps90
  go_upto_region 3 with fail
  go_loopg [5, 10] xs.length (fun gg s i wr => ∃ k : Nat, k ≤ xs.length ∧ xs.length - k ≤ gg ∧ i = .int .i64 (k : Int) ∧ s = .int .i64 (sumTo (nth xs) k) ∧ w = wr)
  case atStart => exact ⟨0, Nat.zero_le _, Nat.le_refl _, by go_num, rfl, rfl⟩
  case round =>
   obtain ⟨k, hk, hgg, rfl, rfl, rfl⟩ := hrel
   by_cases hlt : k < xs.length
   ·have hltz : (k : Int) < (xs.length : Int) := by omega
    obtain ⟨b, off, rfl, lb, hc⟩ := HT.out.1 (by omega)
    have q0 := hc k hlt
    have h1 := HT.out.2.1 k hk
    have h2 := HT.out.2.2 k hlt
    have hw : IntKind.i64.wrap (sumTo (nth xs) k + nth xs k) = sumTo (nth xs) k + nth xs k := IntWalk.i64_in _ (by omega)
    have hs : sumTo (nth xs) (k + 1) = sumTo (nth xs) k + nth xs k := rfl
    have HS := Lib.hid hs
    clear hc h1 h2 hs
    go_wp2_with (refine (sum1_any _ _).mono ?_; rintro e w1 ⟨rfl, rfl⟩)
    go_roundg (xs.length - (k + 1))
    case measure => omega
    case rel => exact ⟨k + 1, by omega, by omega, by go_num, by rw [HS.out], rfl⟩
   ·obtain rfl : k = xs.length := by omega
    go_wp2
    go_ret
    exact ⟨rfl, rfl⟩
 go_enter Tryz.func76, Tryz.ntmps76
 go_wp2_with (refine total.mono ?_; rintro e w1 ⟨rfl, rfl⟩)
 go_ret
 exact ⟨rfl, rfl⟩
theorem isPence1_any (x : Int) (h : 0 ≤ x ∧ x ≤ 1073741824) (w : World) : Calls Tryz.prog 89 #[.int .i64 x] w fun e w' => e = .returned (.bool false) ∧ w = w' := by
 have hw : withinB x 0 1073741824 = true := decide_eq_true h
 have hc := lwithin_any x 0 1073741824 w
 rw [hw] at hc
 clear h hw
 go_enter Tryz.func89, Tryz.ntmps89
 go_wp2_with (refine hc.mono ?_; rintro e w1 ⟨rfl, rfl⟩)
 go_ret
 exact ⟨rfl, rfl⟩
set_option maxRecDepth 100000 in
theorem containsF_any (C : Option Addr) (e : Nat) (xs : List Int) (hx : PenceOk xs.length xs) (hn : xs.length ≤ 24) (w : World) (hp : Rd w w.heap.size C xs) :
  Calls Tryz.prog 88 #[.slice C xs.length e, .func (.func 89) #[] #[]] w fun e w' => e = .returned (.bool false) ∧ w = w' := by
 have HT := hd2 hp hx.rng
 clear hx hp
 have idx : Calls Tryz.prog 107 #[.slice C xs.length e, .func (.func 89) #[] #[]] w fun e w' => e = .returned (.int .i64 (-1)) ∧ w = w' := by
  go_enter Tryz.func107, Tryz.ntmps107
  go_upto_region 2 with fail
  go_loopg [8] xs.length (fun gg i wr => ∃ k : Nat, k ≤ xs.length ∧ xs.length - k ≤ gg ∧ i = .int .i64 (k : Int) ∧ w = wr)
  case atStart => exact ⟨0, Nat.zero_le _, Nat.le_refl _, by go_num, rfl⟩
  case round =>
   obtain ⟨k, hk, hgg, rfl, rfl⟩ := hrel
   by_cases hlt : k < xs.length
   ·have hltz : (k : Int) < (xs.length : Int) := by omega
    obtain ⟨b, off, rfl, lb, hc⟩ := HT.out.1 (by omega)
    have q0 := hc k hlt
    have h2 := HT.out.2 k hlt
    have HC := Lib.hid (isPence1_any (nth xs k) h2 w)
    clear hc h2
    go_wp2_with (refine HC.out.mono ?_; rintro e w1 ⟨rfl, rfl⟩)
    go_roundg (xs.length - (k + 1))
    case measure => omega
    case rel => exact ⟨k + 1, by omega, by omega, by go_num, rfl⟩
   ·obtain rfl : k = xs.length := by omega
    go_wp2
    go_ret
    exact ⟨rfl, rfl⟩
 go_enter Tryz.func88, Tryz.ntmps88
 go_wp2_with (refine idx.mono ?_; rintro e w1 ⟨rfl, rfl⟩)
 go_ret
 exact ⟨rfl, rfl⟩
set_option maxRecDepth 100000 in
theorem sums_any (t : Tr) (ok : RsOk t.rs) (pk : PsOk t.rs t.ps) (C : Option Addr) (e : Nat) (xs : List Int) (hx : PenceOk t.ps.length xs) (w : World) (ht : TrAt w w.heap.size t) (hp : Rd w w.heap.size C xs) :
  Calls Tryz.prog 58 #[t.v, .slice C xs.length e] w fun e w' => e = .returned (.int .i64 0) ∧ Below w.heap.size w w' := by
 have hn24 := pk.n
 have hr24 := ok.n
 have hlen := hx.len
 have hisp : ∀ W, Rd W W.heap.size C xs → Calls Tryz.prog 75 #[t.v, .slice C xs.length e] W fun e w' => e = .returned (.bool true) ∧ Below W.heap.size W w' := fun W hW => by
  obtain ⟨A, c, rs, B, d, ps⟩ := t
  dsimp only [Tr.v] at *
  have hc := containsF_any C e xs (by rw [hlen]; exact hx) (by rw [hlen]; exact hn24) (W.alloc (.cells #[.slice A rs.length c, .slice B ps.length d] 42)) ((hW.below ((Below.refl _ W).alloc (Nat.le_refl _) _) (Nat.le_refl _)).mono (by simp))
  have hb := (Below.refl _ W).alloc (Nat.le_refl _) (.cells #[.slice A rs.length c, .slice B ps.length d] 42)
  have HK := hd3 hb hc (blk_new W (g := W.heap.size) #[.slice A rs.length c, .slice B ps.length d] 42 rfl)
  have hle : ((xs.length : Int) == (ps.length : Int)) = true := by rw [hlen]; simp
  clear hb hc hW ht hp hx ok pk hlen hn24 hr24
  go_enter Tryz.func75, Tryz.ntmps75
  go_upto_region 1 with fail
  generalize W.alloc (.cells #[.slice A rs.length c, .slice B ps.length d] 42) = W1 at *
  have r0 := cr 0 HK.out.2.2
  have r1 := cr 1 HK.out.2.2
  go_wp2_with (refine HK.out.2.1.mono ?_; rintro e w1 ⟨rfl, rfl⟩)
  go_ret
  exact ⟨rfl, HK.out.1⟩
 obtain ⟨A, c, rs, B, d, ps⟩ := t
 have hb1 := (Below.refl _ w).alloc (Nat.le_refl _) (.cells #[.slice A rs.length c, .slice B ps.length d] 42)
 have hch := checkT_any ⟨A, c, rs, B, d, ps⟩ (w.alloc (.cells #[.slice A rs.length c, .slice B ps.length d] 42)) ((ht.ext hb1 (Nat.le_refl _)).mono hb1.size) (by unfold maxLen; omega) (by unfold maxLen; omega)
 dsimp only [Tr.v] at *
 have HK := hd6 hb1 hch (blk_new w (g := w.heap.size) #[.slice A rs.length c, .slice B ps.length d] 42 rfl) (show RsOk rs ∧ PsOk rs ps from ⟨ok, pk⟩) hisp hp
 clear hb1 hch ht hp hx ok pk hlen hn24 hr24 hisp
 go_enter Tryz.func58, Tryz.ntmps58
 go_upto_region 1 with fail
 generalize w.alloc (.cells #[.slice A rs.length c, .slice B ps.length d] 42) = W1 at *
 have r0 := cr 0 HK.out.2.2.1
 have r1 := cr 1 HK.out.2.2.1
 go_wp2_with (first | (go_at_call 7; refine HK.out.2.1.mono ?_; rintro e w1 ⟨⟨E, rfl, hE⟩, hb2⟩; obtain rfl := hE.2 HK.out.2.2.2.1; have HK1 := hd2 (HK.out.1.trans (hb2.mono HK.out.1.size)) ((hb2.block w.heap.size (Array.getElem?_eq_some_iff.1 HK.out.2.2.1).1).trans HK.out.2.2.1); clear hb2 hE r0 r1; have r0 := cr 0 HK1.out.2; have r1 := cr 1 HK1.out.2; have HI := Lib.hid (HK.out.2.2.2.2.1 w1 ((HK.out.2.2.2.2.2.below HK1.out.1 (Nat.le_refl _)).mono HK1.out.1.size))) | (go_at_call 75; refine HI.out.mono ?_; rintro e w2 ⟨rfl, hb3⟩; have HK2 := Lib.hid (HK1.out.1.trans (hb3.mono HK1.out.1.size)); clear hb3))
 go_ret
 exact ⟨rfl, HK2.out⟩
end Go.Proofs.YtegmniphgahblaaGreat
