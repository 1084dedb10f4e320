/- Walks: fair, Fair, between. -/
import Derived.Test.YtegmniphgahblaaGreatW18
namespace Go.Proofs.YtegmniphgahblaaGreat
open Go.RowKit Go.Shelf

/-- A Boolean answer that tells whether something holds. -/
def SaysB (e : Ending) (p : Prop) : Prop := ∃ b, e = .returned (.bool b) ∧ (b = true ↔ p)
theorem wholeF_rng {rs : List Rch} {ps : List Pay} (ok : RsOk rs) : 0 ≤ wholeF rs ps ∧ wholeF rs ps ≤ 65536 * 24 := by
 have := sumTo_rng (x := cuF rs ps) (n := rs.length) (C := 65536) (by decide) (fun r hr => by
  have h1 := cuF_rng (ps := ps) ok r hr
  have h2 := (ok.co r hr).2
  have h3 : coF rs r = (rAt rs r).co := rfl
  omega) rs.length (Nat.le_refl _)
 have := ok.n
 unfold wholeF
 omega
set_option maxRecDepth 100000 in
set_option maxHeartbeats 1600000 in
theorem fair_any (t : Tr) (ok : RsOk t.rs) (pk : PsOk t.rs t.ps) (C : Option Addr) (e : Nat) (xs : List Int) (hx : PenceOk t.ps.length xs) (hf : FairF t.rs t.ps (nth xs)) (w : World) (ht : TrAt w w.heap.size t) (hp : Rd w w.heap.size C xs) :
  Calls Tryz.prog 59 #[pgV t C e xs] w fun e w' => e = .returned (.bool true) ∧ Below w.heap.size w w' := by
 have hsum := fun W hW => sum_any t.ps.length pk.n C e xs hx W hW
 have hwh := fun W hW => whole_any t ok pk W hW
 have hov := fun W hW1 hW2 => over_any t ok pk C e xs hx.len hx.rng W hW1 hW2
 rw [hf.1] at hsum
 unfold overF at hov
 rw [hf.2] at hov
 obtain ⟨A, c, rs, B, d, ps⟩ := t
 unfold pgV Tr.v at *
 dsimp only at *
 have hb1 : Below w.heap.size w (w.alloc (.cells #[.slice A rs.length c, .slice B ps.length d, .slice C xs.length e] 124)) := (Below.refl _ w).alloc (Nat.le_refl _) _
 have HK := hd4 hb1 (blk_new w (g := w.heap.size) #[.slice A rs.length c, .slice B ps.length d, .slice C xs.length e] 124 rfl) ht hp
 have HS := hd3 hsum hwh hov
 clear hb1 ht hp hx hf ok pk hsum hwh hov
 go_enter Tryz.func59, Tryz.ntmps59
 go_upto_region 1 with fail
 generalize w.alloc (.cells #[.slice A rs.length c, .slice B ps.length d, .slice C xs.length e] 124) = W1 at *
 have hlt : w.heap.size < W1.heap.size := (Array.getElem?_eq_some_iff.1 HK.out.2.1).1
 have r0 := cr 0 HK.out.2.1
 have r1 := cr 1 HK.out.2.1
 have r2 := cr 2 HK.out.2.1
 refine wp_region_ext (by kernel_rfl) (by kernel_rfl) ?_
 intro ι _ X hX hC
 have rX := fun k => (bcell (hX k)).1
 have q1 := fun k => HS.out.1 (X k) ((HK.out.2.2.2.below (HK.out.1.trans ((hX k).mono HK.out.1.size)) (Nat.le_refl _)).mono (Nat.le_trans HK.out.1.size (hX k).size))
 have q2 := fun k => HS.out.2.1 (X k) ((HK.out.2.2.1.ext (HK.out.1.trans ((hX k).mono HK.out.1.size)) (Nat.le_refl _)).mono (Nat.le_trans HK.out.1.size (hX k).size))
 have q3 := fun k => HS.out.2.2 (X k) ((HK.out.2.2.1.ext (HK.out.1.trans ((hX k).mono HK.out.1.size)) (Nat.le_refl _)).mono (Nat.le_trans HK.out.1.size (hX k).size)) ((HK.out.2.2.2.below (HK.out.1.trans ((hX k).mono HK.out.1.size)) (Nat.le_refl _)).mono (Nat.le_trans HK.out.1.size (hX k).size))
 have HQ := hd3 q1 q2 q3
 clear q1 q2 q3
 repeat (first | go_big_quiet_skip | (go_big_quiet_want; go_big_quiet_op; first | go_big_quiet_on | (apply Exists.intro; refine ⟨fun _ => ?_, ?_⟩; (focus (first | (go_at_call 76; exact Calls.ext_same (HQ.out.1 _)) | (go_at_call 77; exact Calls.ext_of hX hC (HQ.out.2.1 _)) | (go_at_call 78; exact Calls.ext_of hX hC (HQ.out.2.2 _)))); go_big_quiet_on)))
 refine wpQuiet_nil ?_
 intro w1 hb1
 clear rX hX hC
 have HB := Lib.hid hb1
 clear hb1
 go_wp2
 go_ret
 exact ⟨rfl, HK.out.1.trans (HB.out.mono HK.out.1.size)⟩
set_option maxRecDepth 100000 in
theorem Fair_any (t : Tr) (ok : RsOk t.rs) (pk : PsOk t.rs t.ps) (C : Option Addr) (e : Nat) (xs : List Int) (hx : PenceOk t.ps.length xs) (hf : FairF t.rs t.ps (nth xs)) (w : World) (ht : TrAt w w.heap.size t) (hp : Rd w w.heap.size C xs) :
  Calls Tryz.prog 25 #[t.v, .slice C xs.length e] w fun e w' => e = .returned (.tuple #[.bool true, .int .i64 0]) ∧ Below w.heap.size w w' := by
 have hs := fun W hW1 hW2 => sums_any t ok pk C e xs hx W hW1 hW2
 have hfa := fun W hW1 hW2 => fair_any t ok pk C e xs hx hf W hW1 hW2
 obtain ⟨A, c, rs, B, d, ps⟩ := t
 unfold pgV at *
 dsimp only [Tr.v] at *
 have hb1 := (Below.refl _ w).alloc (Nat.le_refl _) (.cells #[.slice A rs.length c, .slice B ps.length d] 42)
 have h1 := hs (w.alloc (.cells #[.slice A rs.length c, .slice B ps.length d] 42)) ((ht.ext hb1 (Nat.le_refl _)).mono hb1.size) ((hp.below hb1 (Nat.le_refl _)).mono hb1.size)
 have HK := hd6 hb1 h1 (blk_new w (g := w.heap.size) #[.slice A rs.length c, .slice B ps.length d] 42 rfl) hfa ht hp
 clear hb1 h1 ht hp hx hf ok pk hs hfa
 go_enter Tryz.func25, Tryz.ntmps25
 go_upto_region 1 with fail
 generalize w.alloc (.cells #[.slice A rs.length c, .slice B ps.length d] 42) = W1 at *
 have r0 := cr 0 HK.out.2.2.1
 have r1 := cr 1 HK.out.2.2.1
 go_wp2_with (first | (go_at_call 58; refine HK.out.2.1.mono ?_; rintro e w1 ⟨rfl, hb2⟩; have HK1 := hd2 (HK.out.1.trans (hb2.mono HK.out.1.size)) ((hb2.block w.heap.size (Array.getElem?_eq_some_iff.1 HK.out.2.2.1).1).trans HK.out.2.2.1); clear hb2 r0 r1; have r0 := cr 0 HK1.out.2; have r1 := cr 1 HK1.out.2; have HI := Lib.hid (HK.out.2.2.2.1 w1 ((HK.out.2.2.2.2.1.ext HK1.out.1 (Nat.le_refl _)).mono HK1.out.1.size) ((HK.out.2.2.2.2.2.below HK1.out.1 (Nat.le_refl _)).mono HK1.out.1.size))) | (go_at_call 59; refine HI.out.mono ?_; rintro e w2 ⟨rfl, hb3⟩; have HK2 := Lib.hid (HK1.out.1.trans (hb3.mono HK1.out.1.size)); clear hb3))
 go_ret2
 exact ⟨rfl, HK2.out⟩
set_option maxRecDepth 100000 in
set_option maxHeartbeats 1600000 in
theorem between_any (t : Tr) (ok : RsOk t.rs) (pk : PsOk t.rs t.ps) (C : Option Addr) (e : Nat) (xs : List Int) (hx : PenceOk t.ps.length xs) (D : Option Addr) (f : Nat) (ys : List Int) (hy : PenceOk t.ps.length ys) (w : World) (ht : TrAt w w.heap.size t) (hp : Rd w w.heap.size C xs) (hq : Rd w w.heap.size D ys) :
  Calls Tryz.prog 74 #[t.v, .slice C xs.length e, .slice D ys.length f] w fun e' w' => SaysB e' (Btw (abF t.rs) (coF t.rs) (rcF t.ps) t.ps.length t.rs.length (wholeF t.rs t.ps) (nth xs) (nth ys)) ∧ Below w.heap.size w w' := by
 have hsum := fun W hW => sum_any t.ps.length pk.n D f ys hy W hW
 have hwh := fun W hW => whole_any t ok pk W hW
 have hov := fun W hW1 hW2 => over_any t ok pk C e xs hx.len hx.rng W hW1 hW2
 have hov2 := fun W hW1 hW2 => over_any t ok pk D f ys hy.len hy.rng W hW1 hW2
 have hwr : IntKind.i64.wrap (sumTo (nth ys) t.ps.length - wholeF t.rs t.ps) = sumTo (nth ys) t.ps.length - wholeF t.rs t.ps := by
  have h1 := hy.sum pk.n (Nat.le_refl t.ps.length)
  have h2 := wholeF_rng (ps := t.ps) ok
  exact IntWalk.i64_in _ (by omega)
 have hBt : Btw (abF t.rs) (coF t.rs) (rcF t.ps) t.ps.length t.rs.length (wholeF t.rs t.ps) (nth xs) (nth ys) ↔ (overF t.rs t.ps (nth xs) = 0 ∧ overF t.rs t.ps (nth ys) ≤ sumTo (nth ys) t.ps.length - wholeF t.rs t.ps) := Iff.rfl
 generalize overF t.rs t.ps (nth xs) = V at *
 generalize overF t.rs t.ps (nth ys) = V2 at *
 generalize hS : sumTo (nth ys) t.ps.length = S at *
 generalize wholeF t.rs t.ps = Wh at *
 obtain ⟨A, c, rs, B, d, ps⟩ := t
 unfold pgV Tr.v at *
 dsimp only at *
 have hb1 : Below w.heap.size w (w.alloc (.cells #[.slice A rs.length c, .slice B ps.length d] 42)) := (Below.refl _ w).alloc (Nat.le_refl _) _
 have HK := hd5 hb1 (blk_new w (g := w.heap.size) #[.slice A rs.length c, .slice B ps.length d] 42 rfl) ht hp hq
 have HS := hd4 hsum hwh hov hov2
 have HB := Lib.hid hBt
 clear hb1 ht hp hx hy hq ok pk hsum hwh hov hov2 hBt hS
 go_enter Tryz.func74, Tryz.ntmps74
 go_upto_region 1 with fail
 generalize w.alloc (.cells #[.slice A rs.length c, .slice B ps.length d] 42) = W1 at *
 have hlt : w.heap.size < W1.heap.size := (Array.getElem?_eq_some_iff.1 HK.out.2.1).1
 refine wp_region_R (fun _ => true) ?_
 have q0 : W1.drew.cell? ⟨w.heap.size, 0, none⟩ = _ := cr 0 HK.out.2.1
 have q1 : W1.drew.cell? ⟨w.heap.size, 1, none⟩ = _ := cr 1 HK.out.2.1
 have hbd : Below w.heap.size w W1.drew := HK.out.1.drew
 have hkd : Blk W1.drew w.heap.size #[.slice A rs.length c, .slice B ps.length d] 42 := HK.out.2.1
 have hld : w.heap.size < W1.drew.heap.size := hlt
 generalize W1.drew = W2 at *
 refine bP q0 q1 0 rfl ?_
 refine bF 1 rfl ?_
 refine bF 2 rfl ?_
 refine bF 3 rfl ?_
 refine bP q0 q1 4 rfl ?_
 refine bF 5 rfl ?_
 refine bF 6 rfl ?_
 refine bF 7 rfl ?_
 refine bF 8 rfl ?_
 refine bF 9 rfl ?_
 refine bD ?_
 have HD := hd2 hbd hkd
 clear hbd hkd q0 q1 hlt
 go_upto_region 2 with fail
 have r0 := cr 0 HD.out.2
 have r1 := cr 1 HD.out.2
 by_cases hV : V = 0
 ·subst hV
  refine wp_region_ext (by kernel_rfl) (by kernel_rfl) ?_
  intro ι _ X hX hC
  have rX := fun k => (bcell (hX k)).1
  have q1 := fun k => HS.out.1 (X k) ((HK.out.2.2.2.2.below (HD.out.1.trans ((hX k).mono HD.out.1.size)) (Nat.le_refl _)).mono (Nat.le_trans HD.out.1.size (hX k).size))
  have q2 := fun k => HS.out.2.1 (X k) ((HK.out.2.2.1.ext (HD.out.1.trans ((hX k).mono HD.out.1.size)) (Nat.le_refl _)).mono (Nat.le_trans HD.out.1.size (hX k).size))
  have q3 := fun k => HS.out.2.2.1 (X k) ((HK.out.2.2.1.ext (HD.out.1.trans ((hX k).mono HD.out.1.size)) (Nat.le_refl _)).mono (Nat.le_trans HD.out.1.size (hX k).size)) ((HK.out.2.2.2.1.below (HD.out.1.trans ((hX k).mono HD.out.1.size)) (Nat.le_refl _)).mono (Nat.le_trans HD.out.1.size (hX k).size))
  have q4 := fun k => HS.out.2.2.2 (X k) ((HK.out.2.2.1.ext (HD.out.1.trans ((hX k).mono HD.out.1.size)) (Nat.le_refl _)).mono (Nat.le_trans HD.out.1.size (hX k).size)) ((HK.out.2.2.2.2.below (HD.out.1.trans ((hX k).mono HD.out.1.size)) (Nat.le_refl _)).mono (Nat.le_trans HD.out.1.size (hX k).size))
  have HQ := hd4 q1 q2 q3 q4
  clear q1 q2 q3 q4
  repeat (first | go_big_quiet_skip | (go_big_quiet_want; go_big_quiet_op; first | go_big_quiet_on | (apply Exists.intro; refine ⟨fun _ => ?_, ?_⟩; (focus (first | (with_reducible exact Calls.ext_same (HQ.out.1 _)) | (with_reducible exact Calls.ext_of hX hC (HQ.out.2.1 _)) | (with_reducible exact Calls.ext_of hX hC (HQ.out.2.2.1 _)) | (with_reducible exact Calls.ext_of hX hC (HQ.out.2.2.2 _)))); go_big_quiet_on)))
  refine wpQuiet_nil ?_
  intro w1 hb1
  clear rX hX hC
  have HB2 := Lib.hid hb1
  clear hb1
  go_wp2
  go_ret
  exact ⟨⟨_, rfl, by rw [HB.out]; simp⟩, HD.out.1.trans (HB2.out.mono HD.out.1.size)⟩
 ·have hV2 : (V == 0) = false := by simpa using hV
  refine wp_region_ext (by kernel_rfl) (by kernel_rfl) ?_
  intro ι _ X hX hC
  have rX := fun k => (bcell (hX k)).1
  have q3 := fun k => HS.out.2.2.1 (X k) ((HK.out.2.2.1.ext (HD.out.1.trans ((hX k).mono HD.out.1.size)) (Nat.le_refl _)).mono (Nat.le_trans HD.out.1.size (hX k).size)) ((HK.out.2.2.2.1.below (HD.out.1.trans ((hX k).mono HD.out.1.size)) (Nat.le_refl _)).mono (Nat.le_trans HD.out.1.size (hX k).size))
  have HQ := Lib.hid q3
  clear q3
  repeat (first | go_big_quiet_skip | (go_big_quiet_want; go_big_quiet_op; first | go_big_quiet_on | (apply Exists.intro; refine ⟨fun _ => ?_, ?_⟩; (focus (with_reducible exact Calls.ext_of hX hC (HQ.out _))); go_big_quiet_on)))
  refine wpQuiet_nil ?_
  intro w1 hb1
  clear rX hX hC
  have HB2 := Lib.hid hb1
  clear hb1
  go_wp2
  go_ret
  exact ⟨⟨_, rfl, by rw [HB.out]; simp [hV]⟩, HD.out.1.trans (HB2.out.mono HD.out.1.size)⟩
end Go.Proofs.YtegmniphgahblaaGreat
