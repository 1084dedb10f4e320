/- Walks: the law TopWhoIsFedPays. -/
import Derived.Test.YtegmniphgahblaaGreatF18
import Derived.Test.YtegmniphgahblaaGreatW35
import Derived.Test.YtegmniphgahblaaGreatW36
import Derived.Test.YtegmniphgahblaaGreatM14
import Derived.Test.YtegmniphgahblaaGreatW13
namespace Go.Proofs.YtegmniphgahblaaGreat
open Go.RowKit Go.Shelf

theorem stays_trB {W : World} {B : Nat} {t : Tr} (h : TrAt W B t) (hB : B ≤ W.heap.size) : Stays (fun X => TrAt X B t ∧ B ≤ X.heap.size) W := ⟨⟨h, hB⟩, fun _ _ a b => ⟨a.1.ext b a.2, Nat.le_trans a.2 b.size⟩⟩
theorem fedTree_told (A : Option Addr) (c : Nat) (ws : List Car) (s : Wt) (K : Option Addr) (kc : Nat) (cost : List Int) (W : World) (h : Wk W A ws) (hs : Wet W s) (hk : RdU W W.heap.size K cost) (g : Good ws) (he : cwE ws s = 0) (hm : ws.length ≤ 6) (hN : (outs ws).length ≤ 14) :
  Calls Tryz.prog 6 #[.agg #[.slice A ws.length c], .agg #[.slice s.A0 s.ri.length s.c0, .slice s.A1 s.bo.length s.c1, .slice s.A2 s.lk.length s.c2, .slice s.A3 s.lo.length s.c3], .slice K cost.length kc] W fun e w' => ∃ TA tc TB td, e = .returned (.tuple #[.agg #[.slice TA (rsTo ws cost ws.length).length tc, .slice TB (psTo ws (flowsO ws s) (outs ws).length).length td], .int .i64 0]) ∧ TrAt w' w'.heap.size ⟨TA, tc, rsTo ws cost ws.length, TB, td, psTo ws (flowsO ws s) (outs ws).length⟩ ∧ Below W.heap.size W w' :=
 (fedTree_any A c ws s K kc cost W h hs hk g he hm hN).mono fun e w' ⟨⟨t, h1, h2, h3, h4⟩, hb⟩ => by
  obtain ⟨TA, tc, rs, TB, td, ps⟩ := t
  dsimp only at h1 h2
  subst h1 h2
  exact ⟨TA, tc, TB, td, h3, h4, hb⟩
set_option maxRecDepth 100000 in
set_option maxHeartbeats 8000000 in
theorem TopWhoIsFedPays_row (w : World) (A : Option Addr) (c : Nat) (ws : List Car) (r0 : WkIn w A ws) (cs : Cs) (r1 : CsIn w cs) (s : Wt) (r2 : WtIn w s) (K : Option Addr) (kc : Nat) (cost : List Int) (r3 : RdU w w.heap.size K cost) (hcl : cost.length ≤ maxLen) (M : Option Addr) (mc : Nat) (more : List Int) (r4 : RdU w w.heap.size M more) (hml : more.length ≤ maxLen) :
  Calls Tryz.prog 3 #[.agg #[.slice A ws.length c], cs.v, s.v, .slice K cost.length kc, .slice M more.length mc] w fun e w' => e = .returned (.bool true) ∧ Below w.heap.size w w' := by
 show Calls _ _ #[.agg #[.slice A ws.length c], .agg #[.slice cs.A0 cs.ri.length cs.c0, .slice cs.A1 cs.bo.length cs.c1], .agg #[.slice s.A0 s.ri.length s.c0, .slice s.A1 s.bo.length s.c1, .slice s.A2 s.lk.length s.c2, .slice s.A3 s.lo.length s.c3], .slice K cost.length kc, .slice M more.length mc] _ _
 have hb3 : Below w.heap.size w (((w.alloc (.cells #[.slice A ws.length c] 24)).alloc (.cells #[.slice cs.A0 cs.ri.length cs.c0, .slice cs.A1 cs.bo.length cs.c1] 27)).alloc (.cells #[.slice s.A0 s.ri.length s.c0, .slice s.A1 s.bo.length s.c1, .slice s.A2 s.lk.length s.c2, .slice s.A3 s.lo.length s.c3] 30)) := (((Below.refl _ w).alloc (Nat.le_refl _) _).alloc (by simp) _).alloc (by simp; omega) _
 have k0 : Blk (((w.alloc (.cells #[.slice A ws.length c] 24)).alloc (.cells #[.slice cs.A0 cs.ri.length cs.c0, .slice cs.A1 cs.bo.length cs.c1] 27)).alloc (.cells #[.slice s.A0 s.ri.length s.c0, .slice s.A1 s.bo.length s.c1, .slice s.A2 s.lk.length s.c2, .slice s.A3 s.lo.length s.c3] 30)) w.heap.size #[.slice A ws.length c] 24 := blk_alloc (blk_alloc (blk_new w _ _ rfl) _) _
 have k1 : Blk (((w.alloc (.cells #[.slice A ws.length c] 24)).alloc (.cells #[.slice cs.A0 cs.ri.length cs.c0, .slice cs.A1 cs.bo.length cs.c1] 27)).alloc (.cells #[.slice s.A0 s.ri.length s.c0, .slice s.A1 s.bo.length s.c1, .slice s.A2 s.lk.length s.c2, .slice s.A3 s.lo.length s.c3] 30)) (w.heap.size + 1) #[.slice cs.A0 cs.ri.length cs.c0, .slice cs.A1 cs.bo.length cs.c1] 27 := blk_alloc (blk_new (w.alloc (.cells #[.slice A ws.length c] 24)) (g := w.heap.size + 1) _ _ (by simp)) _
 have k2 : Blk (((w.alloc (.cells #[.slice A ws.length c] 24)).alloc (.cells #[.slice cs.A0 cs.ri.length cs.c0, .slice cs.A1 cs.bo.length cs.c1] 27)).alloc (.cells #[.slice s.A0 s.ri.length s.c0, .slice s.A1 s.bo.length s.c1, .slice s.A2 s.lk.length s.c2, .slice s.A3 s.lo.length s.c3] 30)) (w.heap.size + 1 + 1) #[.slice s.A0 s.ri.length s.c0, .slice s.A1 s.bo.length s.c1, .slice s.A2 s.lk.length s.c2, .slice s.A3 s.lo.length s.c3] 30 := blk_new ((w.alloc (.cells #[.slice A ws.length c] 24)).alloc (.cells #[.slice cs.A0 cs.ri.length cs.c0, .slice cs.A1 cs.bo.length cs.c1] 27)) (g := w.heap.size + 1 + 1) _ _ (by simp)
 have HK := Lib.hid (((stays_bl hb3).and (stays_blk k0)).and ((stays_blk k1).and (stays_blk k2)))
 have n0 := r0.n0
 have cm0 := r1.m0
 have cm1 := r1.m1
 have sm0 := r2.m0
 have sm1 := r2.m1
 have sm2 := r2.m2
 have sm3 := r2.m3
 have hrb : reachBytes ≤ 140737488355328 := by decide
 have HR := hd6 r0 r1 r2 r3 r4 hrb
 have HH := Lib.hid (fun W => fedHead_any W)
 unfold maxLen at n0 cm0 cm1 sm0 sm1 sm2 sm3 hcl hml
 clear hb3 k0 k1 k2 r0 r1 r2 r3 r4 hrb
 go_enter Tryz.func3, Tryz.ntmps3
 go_upto_region 1 with fail
 generalize (((w.alloc (.cells #[.slice A ws.length c] 24)).alloc (.cells #[.slice cs.A0 cs.ri.length cs.c0, .slice cs.A1 cs.bo.length cs.c1] 27)).alloc (.cells #[.slice s.A0 s.ri.length s.c0, .slice s.A1 s.bo.length s.c1, .slice s.A2 s.lk.length s.c2, .slice s.A3 s.lo.length s.c3] 30)) = W0 at *
 go_upto_region 3 with fail
 have x0 := cr 0 HK.out.1.1.2
 go_loopg [11, 12] ws.length (fun gg n i wr => ∃ (t : Nat) (m : Int), t ≤ ws.length ∧ ws.length - t ≤ gg ∧ i = .int .i64 t ∧ n = .int .i64 m ∧ W0 = wr ∧ Aside (ws.length ≤ 6 → m = start ws t))
 case atStart => exact ⟨0, 0, Nat.zero_le _, Nat.le_refl _, rfl, rfl, rfl, fun _ => rfl⟩
 case round =>
  obtain ⟨t, m, hlt0, hgg, rfl, rfl, rfl, hA⟩ := hrel
  by_cases hlt : t < ws.length
  ·have hltz : (t : Int) < (ws.length : Int) := by omega
   obtain ⟨b, off, rfl, hbl, hcs⟩ := HR.out.1.rd (by omega)
   have p1 := (HK.out.1.1.1.cell (p := ⟨b, off + t, none⟩) hbl).trans (hcs t hlt).1
   have hlo := HR.out.1.n1 t hlt
   clear hcs
   generalize (cAt ws t).A = A2 at *
   have HM := Lib.hid (show (ws.length ≤ 6 → wrap64 (m + ((cAt ws t).os.length : Int)) = start ws (t + 1)) from fun h6 => by
    have h1 := start_sum HR.out.1.n1 t (by omega)
    have h2 := hA.out h6
    have h3 := HR.out.2.2.2.2.2
    have h4 : t * reachBytes ≤ 6 * reachBytes := Nat.mul_le_mul_right _ (by omega)
    have h5 := start_succ hlt
    unfold wrap64
    omega)
   clear hA
   have hlo2 : (cAt ws t).os.length ≤ 140737488355328 := Nat.le_trans hlo HR.out.2.2.2.2.2
   clear hlo
   go_upto_region 5 with fail
   go_wp2
   go_roundg (ws.length - (t + 1))
   case measure => omega
   case rel => exact ⟨t + 1, _, by omega, by omega, by go_num, rfl, rfl, HM.out⟩
  ·obtain rfl : t = ws.length := by omega
   have HM := Lib.hid (show ws.length ≤ 6 → m = (outs ws).length from fun h => by rw [hA.out h, start_all])
   clear hA
   obtain ⟨Q, hQ⟩ : ∃ Q, manyB ws m cs s cost more = Q := ⟨_, rfl⟩
   go_upto_region 6 with fail
   have c0 := cr 0 HK.out.1.2.1
   have c1 := cr 1 HK.out.1.2.1
   have s0 := cr 0 HK.out.1.2.2
   have s1 := cr 1 HK.out.1.2.2
   have s2 := cr 2 HK.out.1.2.2
   have s3 := cr 3 HK.out.1.2.2
   go_cut [98] from 29 to 98 (fun q w' => q = .bool Q ∧ W0 = w')
   case first =>
    by_cases h1 : (ws.length : Int) > 6
    ·obtain rfl : Q = true := by
      rw [← hQ]
      first
       | exact manyB_iff.2 (by omega)
       | exact Bool.eq_false_iff.2 (fun h => by have := manyB_iff.1 h; omega)
     clear hQ
     go_wp2_with fail
     go_meet
     case rel => exact ⟨rfl, rfl⟩
    by_cases h2 : m > 14
    ·obtain rfl : Q = true := by
      rw [← hQ]
      first
       | exact manyB_iff.2 (by omega)
       | exact Bool.eq_false_iff.2 (fun h => by have := manyB_iff.1 h; omega)
     clear hQ
     go_wp2_with fail
     go_meet
     case rel => exact ⟨rfl, rfl⟩
    by_cases h3 : (cost.length : Int) > 20
    ·obtain rfl : Q = true := by
      rw [← hQ]
      first
       | exact manyB_iff.2 (by omega)
       | exact Bool.eq_false_iff.2 (fun h => by have := manyB_iff.1 h; omega)
     clear hQ
     go_wp2_with fail
     go_meet
     case rel => exact ⟨rfl, rfl⟩
    by_cases h4 : (more.length : Int) > 20
    ·obtain rfl : Q = true := by
      rw [← hQ]
      first
       | exact manyB_iff.2 (by omega)
       | exact Bool.eq_false_iff.2 (fun h => by have := manyB_iff.1 h; omega)
     clear hQ
     go_wp2_with fail
     go_meet
     case rel => exact ⟨rfl, rfl⟩
    by_cases h5 : (s.ri.length : Int) > 20
    ·obtain rfl : Q = true := by
      rw [← hQ]
      first
       | exact manyB_iff.2 (by omega)
       | exact Bool.eq_false_iff.2 (fun h => by have := manyB_iff.1 h; omega)
     clear hQ
     go_wp2_with fail
     go_meet
     case rel => exact ⟨rfl, rfl⟩
    by_cases h6 : (s.bo.length : Int) > 40
    ·obtain rfl : Q = true := by
      rw [← hQ]
      first
       | exact manyB_iff.2 (by omega)
       | exact Bool.eq_false_iff.2 (fun h => by have := manyB_iff.1 h; omega)
     clear hQ
     go_wp2_with fail
     go_meet
     case rel => exact ⟨rfl, rfl⟩
    by_cases h7 : (s.lk.length : Int) > 40
    ·obtain rfl : Q = true := by
      rw [← hQ]
      first
       | exact manyB_iff.2 (by omega)
       | exact Bool.eq_false_iff.2 (fun h => by have := manyB_iff.1 h; omega)
     clear hQ
     go_wp2_with fail
     go_meet
     case rel => exact ⟨rfl, rfl⟩
    by_cases h8 : (s.lo.length : Int) > 40
    ·obtain rfl : Q = true := by
      rw [← hQ]
      first
       | exact manyB_iff.2 (by omega)
       | exact Bool.eq_false_iff.2 (fun h => by have := manyB_iff.1 h; omega)
     clear hQ
     go_wp2_with fail
     go_meet
     case rel => exact ⟨rfl, rfl⟩
    by_cases h9 : (cs.ri.length : Int) > 20
    ·obtain rfl : Q = true := by
      rw [← hQ]
      first
       | exact manyB_iff.2 (by omega)
       | exact Bool.eq_false_iff.2 (fun h => by have := manyB_iff.1 h; omega)
     clear hQ
     go_wp2_with fail
     go_meet
     case rel => exact ⟨rfl, rfl⟩
    by_cases h10 : (cs.bo.length : Int) > 40
    ·obtain rfl : Q = true := by
      rw [← hQ]
      first
       | exact manyB_iff.2 (by omega)
       | exact Bool.eq_false_iff.2 (fun h => by have := manyB_iff.1 h; omega)
     clear hQ
     go_wp2_with fail
     go_meet
     case rel => exact ⟨rfl, rfl⟩
    obtain rfl : Q = false := by
     rw [← hQ]
     first
      | exact manyB_iff.2 (by omega)
      | exact Bool.eq_false_iff.2 (fun h => by have := manyB_iff.1 h; omega)
    clear hQ
    go_wp2_with fail
    go_meet
    case rel => exact ⟨rfl, rfl⟩
   obtain ⟨rfl, rfl⟩ := hcut
   cases Q with
   | true =>
    go_wp2_with (go_at_call 4; refine (HH.out W0).mono ?_; rintro e w9 ⟨rfl, hb⟩; have HB9 := Lib.hid (HK.out.on hb); clear hb)
    go_ret
    exact ⟨rfl, HB9.out.1.1.1⟩
   | false =>
    have hq : ¬ (6 < ws.length ∨ 14 < m ∨ 20 < cost.length ∨ 20 < more.length ∨ 20 < s.ri.length ∨ 40 < s.bo.length ∨ 40 < s.lk.length ∨ 40 < s.lo.length ∨ 20 < cs.ri.length ∨ 40 < cs.bo.length) := fun h => by
     have := manyB_iff.2 h
     rw [hQ] at this
     cases this
    have q1 : ws.length ≤ 6 := by omega
    have q2 : (outs ws).length ≤ 14 := by have := HM.out q1; omega
    have hwk := many_wk HR.out.1 q1 q2
    have hcd : Csd w cs := ⟨HR.out.2.1.r0, HR.out.2.1.r1, by omega, by omega⟩
    have hwe : Wet w s := ⟨HR.out.2.2.1.r0, HR.out.2.2.1.r1, HR.out.2.2.1.r2, HR.out.2.2.1.r3, by omega, by omega, by omega, by omega⟩
    have q3 : cost.length ≤ 20 := by omega
    have q4 : more.length ≤ 20 := by omega
    have q5 : s.ri.length ≤ 20 := by omega
    have hbw := HK.out.1.1.1
    have K2 := Lib.hid (HK.out.and (((stays_wk (hwk.ext hbw)).and (stays_csd (hcd.ext hbw))).and (stays_wet (hwe.ext hbw))))
    have HFI := Lib.hid (fun W hW hc hs => Fits_any A c ws cs s W hW hc hs)
    have HW := hd3 hwk hcd hwe
    dsimp only [Wt.v, Cs.v] at HFI
    clear hq hQ HM n0 cm0 cm1 sm0 sm1 sm2 sm3 hcl hml hwk hcd hwe hbw HK
    go_upto_region 9 with (go_at_call 5; refine (HFI.out W0 K2.out.1.2.1.1 K2.out.1.2.1.2 K2.out.1.2.2).mono ?_; rintro e w1 ⟨rfl, hb⟩; have K3 := Lib.hid (K2.out.on hb); clear hb)
    clear x0 c0 c1 s0 s1 s2 s3 K2 HFI
    obtain ⟨E, hE⟩ : ∃ E, fitE ws cs s = E := ⟨_, rfl⟩
    obtain ⟨F, hF⟩ : ∃ F, fitR ws cs s = F := ⟨_, rfl⟩
    rw [hE, hF]
    cases F with
    | false =>
     clear hF hE
     by_cases hz : E = 0
     ·have hz' : (E != 0) = false := by simpa using hz
      clear hz
      go_wp2_with (go_at_call 4; refine (HH.out w1).mono ?_; rintro e w9 ⟨rfl, hb⟩; have HB9 := Lib.hid (K3.out.on hb); clear hb)
      go_ret
      exact ⟨rfl, HB9.out.1.1.1.1⟩
     ·have hz' : (E != 0) = true := by simpa using hz
      clear hz
      go_wp2_with (go_at_call 4; refine (HH.out w1).mono ?_; rintro e w9 ⟨rfl, hb⟩; have HB9 := Lib.hid (K3.out.on hb); clear hb)
      go_ret
      exact ⟨rfl, HB9.out.1.1.1.1⟩
    | true =>
     have he0 : E = 0 := by
      unfold fitR at hF
      split at hF
      ·rename_i h; rw [← hE]; exact h
      ·cases hF
     subst he0
     have hfb : fitsB cs s = true := by
      unfold fitR at hF
      rwa [if_pos hE] at hF
     have hcc : ccE ws cs = 0 := by
      unfold fitE at hE
      by_cases h : ccE ws cs = 0
      ·exact h
      ·rw [if_neg h] at hE; exact absurd hE h
     have hok : Ok ws s := by
      unfold fitE at hE
      rw [if_pos hcc] at hE
      exact water_iff.1 hE
     have hck : checkE ws = 0 := by
      unfold ccE at hcc
      by_cases h : checkE ws = 0
      ·exact h
      ·rw [if_neg h] at hcc; exact absurd hcc h
     have hg := (cc_good hcc).1
     have hft := fun W hb => fedTree_told A c ws s K kc cost W (HW.out.1.ext hb) (HW.out.2.2.ext hb) (HR.out.2.2.2.1.up hb) hg (cw_ok hck hok) q1 q2
     have hco := HR.out.2.2.2.1.1
     have rok := rsTo_ok hg q1 hco
     have pok := psTo_ok (cost := cost) (fl := flowsO ws s) hg q2
     have hfr := fun t W h1 h2 h3 e1 e2 => fedRight_any A c ws cs s cost t W h1 h2 h3 hck hcc hok hfb q1 q2 hco e1 e2
     obtain ⟨rs, ers⟩ : ∃ rs, rsTo ws cost ws.length = rs := ⟨_, rfl⟩
     obtain ⟨ps, eps⟩ : ∃ ps, psTo ws (flowsO ws s) (outs ws).length = ps := ⟨_, rfl⟩
     rw [ers, eps] at hft hfr
     rw [ers] at rok pok
     rw [eps] at pok
     have HFT := hd2 hft hfr
     have HOK := hd2 rok pok
     have HG := hd5 hck hg hok ers eps
     clear hft hfr rok pok hck hcc hfb hok hE hF ers eps hg hco
     have x0 := cr 0 K3.out.1.1.1.2
     have s0 := cr 0 K3.out.1.1.2.2
     have s1 := cr 1 K3.out.1.1.2.2
     have s2 := cr 2 K3.out.1.1.2.2
     have s3 := cr 3 K3.out.1.1.2.2
     go_upto_region 12 with (go_at_call 6; refine (HFT.out.1 w1 K3.out.1.1.1.1).mono ?_; rintro e w2 ⟨TA, tc, TB, td, rfl, htr, hb⟩; have K4 := Lib.hid ((K3.out.on hb).and (stays_trB htr (Nat.le_refl _))); clear hb htr)
     have hgT : w.heap.size + 3 ≤ w2.heap.size := (Array.getElem?_eq_some_iff.1 K4.out.1.1.1.2.2).1
     have K5 := Lib.hid ((K4.out.on ((Below.refl _ w2).alloc (Nat.le_refl _) (.cells #[.slice TA rs.length tc, .slice TB ps.length td] 42))).and (stays_blk (blk_new w2 #[.slice TA rs.length tc, .slice TB ps.length td] 42 rfl)))
     generalize w2.alloc (.cells #[.slice TA rs.length tc, .slice TB ps.length td] 42) = w3 at *
     generalize w2.heap.size = gT at *
     have hck := fun W hW => checkT_any ⟨TA, tc, rs, TB, td, ps⟩ W hW (by have := HOK.out.1.n; show rs.length ≤ maxLen; unfold maxLen; omega) (by have := HOK.out.2.n; show ps.length ≤ maxLen; unfold maxLen; omega)
     have hfp := fun W hW => fedPaid_any ⟨TA, tc, rs, TB, td, ps⟩ HOK.out.1 HOK.out.2 W hW
     have HCK := hd2 hck hfp
     clear x0 s0 s1 s2 s3 hck hfp K4 K3
     have x0 := cr 0 K5.out.1.1.1.1.1.2
     have c0 := cr 0 K5.out.1.1.1.1.2.1
     have c1 := cr 1 K5.out.1.1.1.1.2.1
     have y0 := cr 0 K5.out.1.2
     have y1 := cr 1 K5.out.1.2
     go_upto_region 14 with (first
      | (go_at_call 7; refine (HCK.out.1 w3 (K5.out.1.1.2.1.mono K5.out.1.1.2.2)).mono ?_; rintro e w4 ⟨⟨Z, rfl, hZ⟩, hb⟩; obtain rfl : Z = 0 := hZ.2 HOK.out; have K6 := Lib.hid (K5.out.on hb); clear hb hZ x0 c0 c1 y0 y1; have x0 := cr 0 K6.out.1.1.1.1.1.2; have c0 := cr 0 K6.out.1.1.1.1.2.1; have c1 := cr 1 K6.out.1.1.1.1.2.1; have y0 := cr 0 K6.out.1.2; have y1 := cr 1 K6.out.1.2)
      | (go_at_call 8; refine (HFT.out.2 ⟨TA, tc, rs, TB, td, ps⟩ w4 K6.out.1.1.1.2.1.1 K6.out.1.1.1.2.1.2 (K6.out.1.1.2.1.mono K6.out.1.1.2.2) rfl rfl).mono ?_; rintro e w5 ⟨rfl, hb⟩; have K7 := Lib.hid (K6.out.on hb); clear hb x0 c0 c1 y0 y1; have y0 := cr 0 K7.out.1.2; have y1 := cr 1 K7.out.1.2)
      | (go_at_call 9; refine (HCK.out.2 w5 (K7.out.1.1.2.1.mono K7.out.1.1.2.2)).mono ?_; rintro e w6 ⟨rfl, hb⟩; have K8 := Lib.hid (K7.out.on hb); clear hb y0 y1))
     clear HCK K5 K6 K7
     have s0 := cr 0 K8.out.1.1.1.1.2.2
     have s1 := cr 1 K8.out.1.1.1.1.2.2
     have s2 := cr 2 K8.out.1.1.1.1.2.2
     have s3 := cr 3 K8.out.1.1.1.1.2.2
     go_upto_region 17 with fail
     have k7 := blk_new w6 #[.slice none 0 0, .slice s.A1 s.bo.length s.c1, .slice s.A2 s.lk.length s.c2, .slice s.A3 s.lo.length s.c3] 30 rfl
     have hz7 : (w6.alloc (.cells #[.slice none 0 0, .slice s.A1 s.bo.length s.c1, .slice s.A2 s.lk.length s.c2, .slice s.A3 s.lo.length s.c3] 30)).heap.size = w6.heap.size + 1 := by simp
     have K9 := Lib.hid (K8.out.on ((Below.refl _ w6).alloc (Nat.le_refl _) (.cells #[.slice none 0 0, .slice s.A1 s.bo.length s.c1, .slice s.A2 s.lk.length s.c2, .slice s.A3 s.lo.length s.c3] 30)))
     have hgR : gT < w6.heap.size := (Array.getElem?_eq_some_iff.1 K8.out.1.2).1
     clear K8 s0 s1 s2 s3
     generalize w6.alloc (.cells #[.slice none 0 0, .slice s.A1 s.bo.length s.c1, .slice s.A2 s.lk.length s.c2, .slice s.A3 s.lo.length s.c3] 30) = V at *
     have R0 : RcI V V w6.heap.size s none 0 (richL s.ri more 0) := ⟨ButB.refl _ _, k7, Own.nil _ _⟩
     clear k7
     generalize w6.heap.size = gR at *
     go_loopg [18, 19] s.ri.length (fun gg i _ wr => ∃ k : Nat, k ≤ s.ri.length ∧ s.ri.length - k ≤ gg ∧ i = .int .i64 (k : Int) ∧ Aside (∃ A1 c1, RcI V wr gR s A1 c1 (richL s.ri more k)))
     case atStart => exact ⟨0, Nat.zero_le _, Nat.le_refl _, by go_num, none, 0, R0⟩
     case round =>
      obtain ⟨k, hk, hgk, rfl, hB⟩ := hrel
      obtain ⟨A1, c1, hI⟩ : ∃ A1 c1, RcI V wr gR s A1 c1 (richL s.ri more k) := hB.out
      clear hB R0
      rename World => wr
      have hbw : Below w.heap.size w wr := K9.out.1.1.1.1.1.1.trans (hI.bt.below (by omega) (by intro b hb; omega))
      have s0 := hI.bt.cell (cr 0 K9.out.1.1.1.1.2.2) (by show w.heap.size + 1 + 1 ≠ gR; omega)
      by_cases hlk : k < s.ri.length
      ·have hlkz : (k : Int) < (s.ri.length : Int) := by omega
       obtain ⟨b, off, hA0, lb, hc⟩ := HW.out.2.2.r0 (by omega)
       have u0 := (hbw.cell (p := ⟨b, off + k, none⟩) lb).trans (hc k hlk)
       rw [hA0] at s0
       obtain ⟨by', hby⟩ : ∃ by' : Int, (if k < more.length then nth more k else 0) = by' := ⟨_, rfl⟩
       have hbr : 0 ≤ by' ∧ by' ≤ 65535 := by
        rw [← hby]
        by_cases e : k < more.length
        ·rw [if_pos e]; exact HR.out.2.2.2.2.1.1 k e
        ·rw [if_neg e]; omega
       have HI := Lib.hid hI
       clear hc hI hA0
       go_upto_if 152 with fail
       go_cut [19] from 142 to 170 (fun q w' => q = .int .i64 by' ∧ wr = w')
       case first =>
        by_cases e : k < more.length
        ·have ez : (k : Int) < (more.length : Int) := by omega
         rw [if_pos e] at hby
         obtain ⟨b', off', rfl, lb', hc'⟩ := HR.out.2.2.2.2.1.2 (by omega)
         have q0 := (hbw.cell (p := ⟨b', off' + k, none⟩) lb').trans (hc' k e)
         rw [hby] at q0
         have hcv : IntKind.i64.wrap by' = by' := IntWalk.i64_in _ (by omega)
         clear hc'
         go_wp2_with fail
         go_meet
         case rel => exact ⟨rfl, rfl⟩
        ·have ez : ¬ (k : Int) < (more.length : Int) := by omega
         rw [if_neg e] at hby
         subst hby
         go_wp2_with fail
         go_meet
         case rel => exact ⟨rfl, rfl⟩
       obtain ⟨rfl, rfl⟩ := hcut
       have hor := HG.out.2.2.1.r0 k hlk
       have hwr : IntKind.i64.wrap (nth s.ri k + by') = nth s.ri k + by' := IntWalk.i64_in _ (by omega)
       have hrv : richV s.ri more k = min 1048576 (nth s.ri k + by') := by
        unfold richV
        rw [hby]
       have hll := richL_len s.ri more k
       have hsc := richL_succ s.ri more k
       rw [hrv] at hsc
       clear hrv
       generalize richL s.ri more k = L at *
       generalize nth s.ri k = z at *
       have HSC := hd2 hsc hll
       have HBW := Lib.hid hbw
       have hl20 : L.length ≤ 1000000 := by omega
       clear hsc hby hbw hll
       go_upto_region 22 with fail
       refine wp_region_R (fun j => j != 11 && j != 13) ?_
       have hbd : Below wr.heap.size wr wr.drew := (Below.refl _ _).drew
       have HI2 := Lib.hid (HI.out.later (by omega) hbd)
       have s1 : wr.drew.cell? ⟨w.heap.size + 1 + 1, 0, none⟩ = _ := s0
       have u1 : wr.drew.cell? ⟨b, off + k, none⟩ = _ := u0
       clear s0 u0 HI HBW hbd
       generalize wr.drew = X0 at *
       have r0 := cr 0 HI2.out.bk
       refine bF 0 rfl ?_
       refine bT r0 1 rfl ?_
       refine bF 2 rfl ?_
       refine bT s1 3 rfl ?_
       refine bF 4 rfl ?_
       refine bF 5 rfl ?_
       refine bT u1 6 rfl ?_
       refine bF 7 rfl ?_
       refine bF 8 rfl ?_
       refine bF 9 rfl ?_
       refine bR 10 rfl fun K hK => ?_
       go_simp
       refine hK.out _ _ (fun _ => (Below.refl _ _).alloc (Nat.le_refl _) _) ?_
       clear hK s1 u1 r0
       have hbn := (Below.refl _ X0).alloc (Nat.le_refl _) (.cells #[.int .i64 (min 1048576 (z + by'))] 3)
       have HI3 := Lib.hid (HI2.out.later (by omega) hbn)
       have cn := blk_new X0 (g := X0.heap.size) #[.int .i64 (min 1048576 (z + by'))] 3 rfl
       have hvs : V.heap.size ≤ (X0.alloc (.cells #[.int .i64 (min 1048576 (z + by'))] 3)).heap.size := HI3.out.bt.size
       clear hbn HI2
       refine bR 11 rfl fun K hK => ?_
       refine wp_append_int (.tmp 159) (.tmp 168) rfl V.heap.size (.slice A1 L.length c1) L (min 1048576 (z + by')) rfl HI3.out.ow hl20 X0.heap.size rfl (cr 0 cn) hvs ?_
       intro v' X3 ho hg _
       obtain ⟨A', c', rfl⟩ := ho.slice (n := L.length + 1) (by rw [List.length_append]; rfl)
       refine hK.out _ _ (fun h => by cases h) ?_
       clear hK cn
       have HP := Lib.hid (HI3.out.push (by omega) rfl hg ho)
       have hk3 := HI3.out.app (by omega) hg
       have eb := cr 0 hk3
       have fb := bf 0 hk3
       clear ho hg hk3 hvs HI3
       go_frame
       refine bF 12 rfl ?_
       refine bR 13 rfl fun K hK => ?_
       go_simp
       refine hK.out _ _ (fun h => by cases h) ?_
       clear hK eb fb
       refine bD ?_
       go_wp2
       go_roundg (s.ri.length - (k + 1))
       case measure => omega
       case rel => exact ⟨k + 1, by omega, by omega, by go_num, (show ∃ A1 c1, RcI V _ gR s A1 c1 (richL s.ri more (k + 1)) from ⟨A', c', by rw [HSC.out.1]; exact HP.out⟩)⟩
      ·obtain rfl : k = s.ri.length := by omega
       have hrd0 : Rd wr wr.heap.size A1 (richL s.ri more s.ri.length) := by
        obtain ⟨A', c', e, hr, -⟩ := hI.ow.rd
        have e3 : A1 = A' ∧ c1 = c' := by simpa using e
        rw [e3.1]
        exact hr
       obtain ⟨u, hu⟩ : ∃ u : Wt, u = ⟨A1, s.A1, s.A2, s.A3, c1, s.c1, s.c2, s.c3, richL s.ri more s.ri.length, s.bo, s.lk, s.lo⟩ := ⟨_, rfl⟩
       have hru : Richer s u more := by subst hu; exact ⟨rfl, rfl, rfl, rfl⟩
       have hwu : Wet wr u := by
        have h := HW.out.2.2.ext hbw
        subst hu
        exact ⟨hrd0, h.r1, h.r2, h.r3, by show (richL s.ri more s.ri.length).length ≤ 1000; rw [richL_len]; omega, h.m1, h.m2, h.m3⟩
       have hmr := HR.out.2.2.2.2.1.1
       have hpm := hru.pays hmr HG.out.1 HG.out.2.1 HG.out.2.2.1
       have hft := fedTree_told A c ws u K kc cost wr (HW.out.1.ext hbw) hwu (HR.out.2.2.2.1.up hbw) HG.out.2.1 (cw_ok HG.out.1 (hru.ok hmr HG.out.2.2.1)) q1 q2
       have pku := psTo_ok (cost := cost) (fl := flowsO ws u) HG.out.2.1 q2
       have hsp := fun i j hi hj e => shares_pair (i := i) (j := j) HG.out.2.1 q1 q2 HR.out.2.2.2.1.1 hpm hi hj e
       have hpa := fun i hi => pays_again (i := i) hpm hi
       have hsh := fun W hW => Shares_any ⟨TA, tc, rs, TB, td, ps⟩ HOK.out.1 HOK.out.2 W hW
       obtain ⟨pu, epu⟩ : ∃ pu, psTo ws (flowsO ws u) (outs ws).length = pu := ⟨_, rfl⟩
       rw [epu] at hft pku hsp hpa
       rw [HG.out.2.2.2.1] at hft pku hsp
       rw [HG.out.2.2.2.2] at hsp hpa
       have hun := fun TA2 tc2 TB2 td2 W hW => Shares_any ⟨TA2, tc2, rs, TB2, td2, pu⟩ HOK.out.1 pku W hW
       dsimp only [Tr.v] at hsh hun
       have hbl := hI.bt
       have kw : Blk wr w.heap.size #[.slice A ws.length c] 24 := hbl.heap K9.out.1.1.1.1.1.2 (by show w.heap.size ≠ gR; omega)
       have kt : Blk wr gT #[.slice TA rs.length tc, .slice TB ps.length td] 42 := hbl.heap K9.out.1.2 (by show gT ≠ gR; omega)
       have ktr : TrAt wr gT ⟨TA, tc, rs, TB, td, ps⟩ := K9.out.1.1.2.1.keep (fun b hb => hbl.same b (by have := K9.out.1.1.2.2; omega) (by show b ≠ gR; omega))
       have kr : Blk wr gR #[.slice A1 u.ri.length c1, .slice u.A1 u.bo.length u.c1, .slice u.A2 u.lk.length u.c2, .slice u.A3 u.lo.length u.c3] 30 := by subst hu; exact hI.bk
       have hpn := HOK.out.2.n
       have hun24 := pku.n
       have K10 := Lib.hid (((((stays_bl hbw).and (stays_blk kw)).and (stays_blk kt)).and (stays_tr (ktr.mono (by have := hbl.size; have := (Array.getElem?_eq_some_iff.1 kt).1; have := (Array.getElem?_eq_some_iff.1 kw).1; have := K9.out.1.1.2.2; omega)))).and (stays_blk kr))
       have hA1 : u.A0 = A1 ∧ u.c0 = c1 := by subst hu; exact ⟨rfl, rfl⟩
       have HFU := hd3 hft hsh hun
       have HSP := hd2 hsp hpa
       rw [hA1.1, hA1.2] at HFU
       clear hrd0 hu hru hwu hmr hpm hft pku hsp hpa hsh epu hun hbl kw kt ktr kr hA1 hI K9 HFT
       have z0 := cr 0 K10.out.1.1.1.1.2
       have v0 := cr 0 K10.out.1.2
       have v1 := cr 1 K10.out.1.2
       have v2 := cr 2 K10.out.1.2
       have v3 := cr 3 K10.out.1.2
       go_upto_region 24 with (go_at_call 6; refine HFU.out.1.mono ?_; rintro e x1 ⟨UA, uc, UB, ud, rfl, htr, hb⟩; have K11 := Lib.hid ((K10.out.on hb).and (stays_tr htr)); clear hb htr)
       have K12 := Lib.hid ((K11.out.on ((Below.refl _ x1).alloc (Nat.le_refl _) (.cells #[.slice UA rs.length uc, .slice UB pu.length ud] 42))).and (stays_blk (blk_new x1 #[.slice UA rs.length uc, .slice UB pu.length ud] 42 rfl)))
       generalize x1.alloc (.cells #[.slice UA rs.length uc, .slice UB pu.length ud] 42) = x2 at *
       generalize x1.heap.size = gU at *
       clear z0 v0 v1 v2 v3 K10 K11
       have y0 := cr 0 K12.out.1.1.1.1.1.2
       have y1 := cr 1 K12.out.1.1.1.1.1.2
       go_upto_region 25 with (go_at_call 10; refine (HFU.out.2.1 x2 K12.out.1.1.1.1.2).mono ?_; rintro e x3 ⟨⟨SA, sc, rfl, ho⟩, hb⟩; have K13 := Lib.hid ((K12.out.on hb).and (stays_rdT (rdT_of ho))); clear hb ho y0 y1)
       clear K12
       have z0 := cr 0 K13.out.1.1.2
       have z1 := cr 1 K13.out.1.1.2
       go_upto_region 26 with (go_at_call 10; refine (HFU.out.2.2 UA uc UB ud x3 K13.out.1.1.1.2).mono ?_; rintro e x4 ⟨⟨SB, sd, rfl, ho⟩, hb⟩; have K14 := Lib.hid ((K13.out.on hb).and (stays_rdT (rdT_of ho))); clear hb ho z0 z1)
       clear K13 HFU
       have y1 := cr 1 K14.out.1.1.1.1.1.1.1.2
       have z1 := cr 1 K14.out.1.1.1.2
       go_upto_region 29 with fail
       clear y1 z1
       go_loopg [26, 27, 28] ps.length (fun gg i _ _ wr => ∃ k : Nat, k ≤ ps.length ∧ ps.length - k ≤ gg ∧ i = .int .i64 (k : Int) ∧ Aside (Below x4.heap.size x4 wr))
       case atStart => exact ⟨0, Nat.zero_le _, Nat.le_refl _, by go_num, Below.refl _ _⟩
       case round =>
        obtain ⟨k, hk, hgk, rfl, hB⟩ := hrel
        have HB := Lib.hid hB.out
        clear hB
        rename World => x5
        have K15 := Lib.hid (K14.out.on HB.out)
        have y1 := cr 1 K15.out.1.1.1.1.1.1.1.2
        by_cases hlk : k < ps.length
        ·have hlkz : (k : Int) < (ps.length : Int) := by omega
         obtain ⟨ID, hID⟩ : ∃ ID, (yAt ps k).id = ID := ⟨_, rfl⟩
         have hfd := HSP.out.2 k hlk
         rw [hID] at hfd
         have HFD := Lib.hid hfd
         have HID := Lib.hid hID
         clear hfd hID
         go_upto_region 33 with fail
         clear y1
         go_loopg [27, 28] pu.length (fun gg f j wr => ∃ n : Nat, n ≤ pu.length ∧ pu.length - n ≤ gg ∧ j = .int .i64 (n : Int) ∧ f = .bool (payId pu ID n) ∧ Aside (Below x5.heap.size x5 wr))
         case atStart => exact ⟨0, Nat.zero_le _, Nat.le_refl _, by go_num, rfl, Below.refl _ _⟩
         case round =>
          obtain ⟨n, hn, hgn, rfl, rfl, hB⟩ := hrel
          have HB2 := Lib.hid hB.out
          clear hB
          rename World => x6
          have K16 := Lib.hid (K15.out.on HB2.out)
          have y1 := cr 1 K16.out.1.1.1.1.1.1.1.2
          have z1 := cr 1 K16.out.1.1.1.2
          obtain ⟨P, hP⟩ : ∃ P, payId pu ID n = P := ⟨_, rfl⟩
          rw [hP]
          by_cases hln : n < pu.length
          ·have hlnz : (n : Int) < (pu.length : Int) := by omega
           have hsc := payId_succ pu ID n
           rw [hP] at hsc
           obtain ⟨bT, oT, rfl, lT, hcT⟩ := K16.out.1.1.1.1.1.1.2.p (by show 0 < ps.length; omega)
           obtain ⟨bU', oU, rfl, lU, hcU⟩ := K16.out.1.1.1.1.2.p (by show 0 < pu.length; omega)
           have dT := (hcT k hlk).1
           have dU := (hcU n hln).1
           dsimp only at dT dU lT lU
           rw [HID.out] at dT
           have l1 : gT < x6.heap.size := (Array.getElem?_eq_some_iff.1 K16.out.1.1.1.1.1.1.1.2).1
           have l2 : gU < x6.heap.size := (Array.getElem?_eq_some_iff.1 K16.out.1.1.1.2).1
           clear hcT hcU hP
           by_cases e : (yAt pu n).id = ID
           ·have he : ((yAt pu n).id == ID) = true := by simpa using e
            have HSC := Lib.hid (show payId pu ID (n + 1) = true from by rw [hsc, decide_eq_true e, Bool.or_true])
            have HEQ := Lib.hid e
            clear hsc e
            go_upto_region 35 with fail
            refine wp_region_ext (by kernel_rfl) (by kernel_rfl) ?_
            intro ι _ X hX hC
            have rX := fun k => (bcell (hX k)).1
            repeat (first | go_big_quiet_skip | (go_big_quiet_want; go_big_quiet_op; first | go_big_quiet_on | (apply Exists.intro; refine ⟨fun _ => ?_, ?_⟩; (focus (fail)); go_big_quiet_on)))
            refine wpQuiet_nil ?_
            intro x7 hb7
            clear rX hX hC
            have K17 := Lib.hid (K16.out.on hb7)
            have HB3 := Lib.hid (HB2.out.trans (hb7.mono HB2.out.size))
            clear y1 z1 dT dU lT lU l1 l2 hb7
            obtain ⟨gA, rfl, lA, hcA⟩ := K17.out.1.1.2 (by omega)
            obtain ⟨gB, rfl, lB, hcB⟩ := K17.out.1.2 (by omega)
            obtain ⟨a1, a2⟩ := hcA k hlk
            obtain ⟨b1, b2⟩ := hcB n hln
            obtain ⟨m1, m2, hle⟩ := HSP.out.1 k n hlk hln (HEQ.out.trans HID.out.symm)
            clear hcA hcB
            go_upto_region 37 with fail
            generalize ratN (shN rs pu n) lcmT = bN at *
            generalize ratD (shN rs pu n) lcmT = bD at *
            generalize ratN (shN rs ps k) lcmT = aN at *
            generalize ratD (shN rs ps k) lcmT = aD at *
            have hng : ¬ ((bN : Int) * (aD : Int) > (aN : Int) * (bD : Int)) := Int.not_lt.2 hle
            clear hle
            refine wp_region_ext (by kernel_rfl) (by kernel_rfl) ?_
            intro ι _ X hX hC
            have rX := fun k => (bcell (hX k)).1
            repeat (first | go_big_quiet_skip | (go_big_quiet_want; go_big_quiet_op; first | go_big_quiet_on | (apply Exists.intro; refine ⟨fun _ => ?_, ?_⟩; (focus (fail)); go_big_quiet_on)))
            refine wpQuiet_nil ?_
            intro x8 hb8
            clear rX hX hC
            have HZ := Lib.hid (HB3.out.trans (hb8.mono HB3.out.size))
            clear a1 a2 b1 b2 hb8
            go_wp2
            go_roundg (pu.length - (n + 1))
            case measure => omega
            case rel => exact ⟨n + 1, by omega, by omega, by go_num, by rw [HSC.out], HZ.out⟩
           ·have he : ((yAt pu n).id == ID) = false := by simpa using e
            have HSC := Lib.hid (show payId pu ID (n + 1) = P from by rw [hsc, decide_eq_false e, Bool.or_false])
            clear hsc e
            go_upto_region 35 with fail
            refine wp_region_ext (by kernel_rfl) (by kernel_rfl) ?_
            intro ι _ X hX hC
            have rX := fun k => (bcell (hX k)).1
            repeat (first | go_big_quiet_skip | (go_big_quiet_want; go_big_quiet_op; first | go_big_quiet_on | (apply Exists.intro; refine ⟨fun _ => ?_, ?_⟩; (focus (fail)); go_big_quiet_on)))
            refine wpQuiet_nil ?_
            intro x7 hb7
            clear rX hX hC
            have HZ := Lib.hid (HB2.out.trans (hb7.mono HB2.out.size))
            clear y1 z1 dT dU lT lU l1 l2 hb7
            go_wp2
            go_roundg (pu.length - (n + 1))
            case measure => omega
            case rel => exact ⟨n + 1, by omega, by omega, by go_num, by rw [HSC.out], HZ.out⟩
          ·obtain rfl : n = pu.length := by omega
           obtain rfl : P = true := hP.symm.trans HFD.out
           have HZ := Lib.hid (HB.out.trans (HB2.out.mono HB.out.size))
           clear hP
           go_wp2
           go_roundg (ps.length - (k + 1))
           case measure => omega
           case rel => exact ⟨k + 1, by omega, by omega, by go_num, HZ.out⟩
        ·obtain rfl : k = ps.length := by omega
         go_wp2_with (go_at_call 4; refine (HH.out x5).mono ?_; rintro e w9 ⟨rfl, hb⟩; have HB9 := Lib.hid (K15.out.on hb); clear hb)
         go_ret
         exact ⟨rfl, HB9.out.1.1.1.1.1.1.1.1.1⟩
end Go.Proofs.YtegmniphgahblaaGreat
