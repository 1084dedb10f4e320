/- Walks: fedHead. -/
import Derived.Test.YtegmniphgahblaaGreatM16
import Derived.Test.YtegmniphgahblaaGreatW34
import Derived.Test.YtegmniphgahblaaGreatW24
namespace Go.Proofs.YtegmniphgahblaaGreat
open Go.RowKit Go.Shelf

theorem rdU_blk {W : World} {g : Nat} {x y : Int} {ty : TypeId} (h : Blk W g #[.int .u16 x, .int .u16 y] ty) (hx : 0 ≤ x ∧ x ≤ 65535) (hy : 0 ≤ y ∧ y ≤ 65535) : RdU W W.heap.size (some ⟨g, 0, none⟩) [x, y] := by
 refine ⟨fun i hi => ?_, fun _ => ⟨g, 0, rfl, (Array.getElem?_eq_some_iff.1 h).1, fun i hi => ?_⟩⟩
 ·match i, hi with
  | 0, _ => exact hx
  | 1, _ => exact hy
 ·rw [Nat.zero_add, cell_row h]
  match i, hi with
  | 0, _ => rfl
  | 1, _ => rfl
/-- The meadow's tree, and its shares. -/
structure HdT (t : Tr) : Prop where
 rok : RsOk t.rs
 pok : PsOk t.rs t.ps
 np : t.ps.length = 3
 sh : shTo t.rs t.ps 3 = [3 * lcmT, 5 * lcmT, 5 * lcmT]
theorem hdT_of (m : MA) {s : Wt} (hs : exN s) {t : Tr} (h1 : t.rs = rsTo (mead m) [9, 4] (mead m).length) (h2 : t.ps = psTo (mead m) (flowsO (mead m) s) (outs (mead m)).length) : HdT t := by
 rw [ex_flow m hs] at h2
 have r1 : RsOk t.rs := by
  rw [h1]
  exact rsTo_ok (ex_good m) (by show 2 ≤ 6; omega) fun i hi => by
   match i, hi with
   | 0, _ => exact ⟨by decide, by decide⟩
   | 1, _ => exact ⟨by decide, by decide⟩
 have r2 : PsOk t.rs t.ps := by
  rw [h1, h2]
  exact psTo_ok (ex_good m) (by show 4 ≤ 14; omega)
 have e1 : t.rs = exR := h1.trans (ex_rs m)
 have e2 : t.ps = exP := h2.trans (ex_pl m)
 exact ⟨r1, r2, by rw [e2]; rfl, by rw [e1, e2]; exact ex_sh⟩
theorem fedTree_head (A : Option Addr) (c : Nat) (m : MA) (s : Wt) (w2 : World) (h : Wk w2 A (mead m)) (hs : Wet w2 s) (hn : exN s) :
  Calls Tryz.prog 6 #[.agg #[.slice A (mead m).length c], s.v, .slice (some ⟨w2.heap.size, 0, none⟩) 2 2] (w2.alloc (.cells #[.int .u16 9, .int .u16 4] 48)) fun e w' => (∃ t : Tr, e = .returned (.tuple #[t.v, .int .i64 0]) ∧ HdT t ∧ TrAt w' w'.heap.size t) ∧ Below w2.heap.size w2 w' := by
 have hb := (Below.refl _ w2).alloc (Nat.le_refl _) (.cells #[.int .u16 9, .int .u16 4] 48)
 refine (fedTree_any A c (mead m) s (some ⟨w2.heap.size, 0, none⟩) 2 [9, 4] _ (h.ext hb) (hs.ext hb) (rdU_blk (blk_new w2 #[.int .u16 9, .int .u16 4] 48 rfl) (by decide) (by decide)) (ex_good m) (ex_cw m hn) (by show 2 ≤ 6; omega) (by show 4 ≤ 14; omega)).mono ?_
 rintro e w4 ⟨⟨t, h1, h2, rfl, htr⟩, hb4⟩
 exact ⟨⟨t, rfl, hdT_of m hn h1 h2, htr⟩, hb.trans (hb4.mono hb.size)⟩
set_option maxRecDepth 100000 in
set_option maxHeartbeats 3200000 in
theorem fedHead_any (w : World) : Calls Tryz.prog 4 #[] w fun e w' => e = .returned (.bool true) ∧ Below w.heap.size w w' := by
 have hsh := fun t ok pk W hW => Shares_any t ok pk W hW
 have HS := Lib.hid hsh
 clear hsh
 go_enter Tryz.func4, Tryz.ntmps4
 go_upto_region 2 with (first
  | (go_at_call 11; refine (Meadow_any w).mono ?_; rintro e w1 ⟨m, A, c, rfl, hwk, hb⟩; have K1 := Lib.hid ((stays_bl hb).and (stays_wk hwk)); clear hb hwk)
  | (go_at_call 12; refine (Now_any w1).mono ?_; rintro e w2 ⟨s, rfl, hs, hwt, hb⟩; have K2 := Lib.hid ((K1.out.on hb).and (stays_wet hwt)); have HN := Lib.hid (show exN s from hs); clear hb hwt hs)
  | (go_at_call 6; refine (fedTree_head A c m s w2 K2.out.1.1.2 K2.out.1.2 HN.out).mono ?_; rintro e w4 ⟨⟨t, rfl, hd, htr⟩, hb⟩; have HD := Lib.hid hd; have K4 := Lib.hid ((K2.out.on hb).and (stays_tr htr)); clear hb htr hd; unfold Tr.v))
 have K5 := Lib.hid ((K4.out.on ((Below.refl _ w4).alloc (Nat.le_refl _) (.cells #[.slice t.A t.rs.length t.c, .slice t.B t.ps.length t.d] 42))).and (stays_blk (blk_new w4 #[.slice t.A t.rs.length t.c, .slice t.B t.ps.length t.d] 42 rfl)))
 generalize w4.alloc (.cells #[.slice t.A t.rs.length t.c, .slice t.B t.ps.length t.d] 42) = w5 at *
 generalize w4.heap.size = g4 at *
 have r0 := cr 0 K5.out.1.2
 have r1 := cr 1 K5.out.1.2
 go_upto_region 3 with (go_at_call 10; refine (HS.out t HD.out.rok HD.out.pok w5 K5.out.1.1.2).mono ?_; rintro e w6 ⟨⟨B, d, rfl, ho⟩, hb⟩; have K6 := Lib.hid (K5.out.on hb); have HO := Lib.hid ho; clear hb ho r0 r1)
 have r1 := cr 1 K6.out.1.2
 have hnp := HD.out.np
 have ho := HO.out
 rw [hnp, HD.out.sh] at ho
 obtain ⟨B', d', e2, h2⟩ := OwnK.rd (f := shL) (fun _ => rfl) 0 ho
 have e3 : B = B' ∧ (3 : Nat) = [3 * lcmT, 5 * lcmT, 5 * lcmT].length ∧ d = d' := by simpa using e2
 obtain ⟨rfl, -, rfl⟩ := e3
 obtain ⟨g, rfl, -, -, hc⟩ := h2 (by decide)
 clear ho e2
 have u0 := hc 0 0 (.int .i64 3) (by decide) (by decide) (by rw [show [3 * lcmT, 5 * lcmT, 5 * lcmT].getD 0 0 = 3 * lcmT from rfl, ex_sh3]; rfl)
 have u1 := hc 0 1 (.int .i64 1) (by decide) (by decide) (by rw [show [3 * lcmT, 5 * lcmT, 5 * lcmT].getD 0 0 = 3 * lcmT from rfl, ex_sh3]; rfl)
 have u2 := hc 1 0 (.int .i64 5) (by decide) (by decide) (by rw [show [3 * lcmT, 5 * lcmT, 5 * lcmT].getD 1 0 = 5 * lcmT from rfl, ex_sh5]; rfl)
 have u3 := hc 1 1 (.int .i64 1) (by decide) (by decide) (by rw [show [3 * lcmT, 5 * lcmT, 5 * lcmT].getD 1 0 = 5 * lcmT from rfl, ex_sh5]; rfl)
 have u4 := hc 2 0 (.int .i64 5) (by decide) (by decide) (by rw [show [3 * lcmT, 5 * lcmT, 5 * lcmT].getD 2 0 = 5 * lcmT from rfl, ex_sh5]; rfl)
 have u5 := hc 2 1 (.int .i64 1) (by decide) (by decide) (by rw [show [3 * lcmT, 5 * lcmT, 5 * lcmT].getD 2 0 = 5 * lcmT from rfl, ex_sh5]; rfl)
 clear hc h2
 simp only [Nat.zero_mul, Nat.one_mul, Nat.reduceMul, Nat.reduceAdd] at u0 u1 u2 u3 u4 u5
 have HB := Lib.hid (K6.out.1.1.1.1.1)
 rw [hnp]
 rw [hnp] at r1
 clear hnp HO HD
 go_wp2
 go_ret
 exact ⟨rfl, HB.out⟩
end Go.Proofs.YtegmniphgahblaaGreat
