/- Walks: few, wet of the laws. -/
import Derived.Test.YtdadoelajhemjaaM12
namespace Go.Proofs.Ytdadoelajhemjaa
open Go.RowKit Go.Shelf

/-- What few's yes tells. -/
structure FewOk (ws : List Car) : Prop where
 n1 : ws.length ≤ 30
 n2 : (outs ws).length ≤ 90
 n3 : ∀ i, i < (outs ws).length → (oAt (outs ws) i).ps.length ≤ 20
theorem start_few {ws : List Car} (h : ∀ i, i < ws.length → (cAt ws i).os.length ≤ reachBytes) : ∀ t, t ≤ ws.length → start ws t ≤ t * reachBytes
 | 0, _ => by simp [start_zero]
 | t + 1, ht => by
  rw [start_succ ht]
  have := start_few h t (by omega)
  have := h t ht
  rw [Nat.succ_mul]
  omega
theorem fewOk_of {ws : List Car} (h1 : ws.length ≤ 30) (h2 : (outs ws).length ≤ 90) (h3 : ∀ a, a < ws.length → ∀ j, j < (cAt ws a).os.length → (oAt (cAt ws a).os j).ps.length ≤ 20) : FewOk ws := by
 refine ⟨h1, h2, fun i hi => ?_⟩
 obtain ⟨c, k, hc, hk, e⟩ := place_of hi
 subst e
 rw [oAt_outs hc hk]
 exact h3 c hc k hk

/-- What few answers. -/
def fewB (ws : List Car) : Bool := (decide (ws.length ≤ 6) || (decide (16 < ws.length) && decide (ws.length ≤ 30))) && (decide ((outs ws).length ≤ 14) || (decide (60 < (outs ws).length) && decide ((outs ws).length ≤ 90))) && (outs ws).all fun o => decide (o.ps.length ≤ 20)
theorem fewB_ok {ws : List Car} (h : fewB ws = true) : FewOk ws := by
 unfold fewB at h
 simp only [Bool.and_eq_true, Bool.or_eq_true, decide_eq_true_eq, List.all_eq_true] at h
 exact ⟨by omega, by omega, fun i hi => h.2 _ (oAt_mem hi)⟩
theorem fewB_yes {ws : List Car} (h : FewOk ws) (h1 : ws.length ≤ 6 ∨ 16 < ws.length) (h2 : (outs ws).length ≤ 14 ∨ 60 < (outs ws).length) : fewB ws = true := by
 have a := h.n1
 have b := h.n2
 unfold fewB
 simp only [Bool.and_eq_true, Bool.or_eq_true, decide_eq_true_eq, List.all_eq_true]
 refine ⟨⟨by omega, by omega⟩, fun o ho => ?_⟩
 obtain ⟨i, hi, rfl⟩ := List.getElem_of_mem ho
 have := h.n3 i hi
 unfold oAt at this
 rwa [List.getD_eq_getElem?_getD, List.getElem?_eq_getElem hi] at this
theorem fewB_no {ws : List Car} (h : FewOk ws → (ws.length ≤ 6 ∨ 16 < ws.length) → ((outs ws).length ≤ 14 ∨ 60 < (outs ws).length) → False) : fewB ws = false := by
 cases hb : fewB ws with
 | false => rfl
 | true =>
  have k := fewB_ok hb
  have h' := h k
  unfold fewB at hb
  simp only [Bool.and_eq_true, Bool.or_eq_true, decide_eq_true_eq, List.all_eq_true] at hb
  exact (h' (by omega) (by omega)).elim
def wetB (s : Wt) : Bool := decide (s.ri.length ≤ 100) && decide (s.bo.length ≤ 100) && decide (s.lk.length ≤ 100) && decide (s.lo.length ≤ 100)
theorem lenCases (n : Nat) : (n : Int) ≤ 6 ∨ (¬ (n : Int) ≤ 6 ∧ (16 : Int) < n ∧ (n : Int) ≤ 30) ∨ (¬ (n : Int) ≤ 6 ∧ (16 : Int) < n ∧ ¬ (n : Int) ≤ 30) ∨ (¬ (n : Int) ≤ 6 ∧ ¬ (16 : Int) < n) := by omega
theorem intCases (n : Int) : n ≤ 14 ∨ (¬ n ≤ 14 ∧ (60 : Int) < n ∧ n ≤ 90) ∨ (¬ n ≤ 14 ∧ (60 : Int) < n ∧ ¬ n ≤ 90) ∨ (¬ n ≤ 14 ∧ ¬ (60 : Int) < n) := by omega

set_option maxRecDepth 100000 in
set_option maxHeartbeats 1600000 in
theorem few_any (A : Option Addr) (c : Nat) (ws : List Car) (w : World) (h : WkIn w A ws) :
  Calls Try.prog 18 #[.agg #[.slice A ws.length c]] w fun e w' => e = .returned (.bool (fewB ws)) ∧ Below w.heap.size w w' := by
 obtain ⟨hrd, n0, n1, n2⟩ := h
 have hb0 : Below w.heap.size w (w.alloc (.cells #[.slice A ws.length c] 24)) := (Below.refl _ w).alloc (Nat.le_refl _) _
 have q0 : Blk (w.alloc (.cells #[.slice A ws.length c] 24)) w.heap.size #[.slice A ws.length c] 24 := blk_new _ _ _ rfl
 have hrd1 := hrd.ext hb0
 have hrb : reachBytes ≤ 140737488355328 := by decide
 have HN := hd3 n1 n2 hrb
 unfold maxLen at n0
 clear hrd n1 n2 hrb
 obtain ⟨R, hR⟩ : ∃ R, fewB ws = R := ⟨_, rfl⟩
 rw [hR]
 have HRR := Lib.hid hR
 clear hR
 go_enter Try.func18, Try.ntmps18
 go_upto_region 3 with fail
 have HK := hd3 hb0 q0 hrd1
 clear hb0 q0 hrd1
 generalize w.alloc (.cells #[.slice A ws.length c] 24) = W1 at *
 go_loopg [3, 4, 5] ws.length (fun gg n i _ wr => ∃ (t : Nat) (m : Int), t ≤ ws.length ∧ ws.length - t ≤ gg ∧ i = .int .i64 t ∧ n = .int .i64 m ∧ Aside (Below W1.heap.size W1 wr ∧ (ws.length ≤ 30 → m = start ws t) ∧ ∀ a, a < t → ∀ j, j < (cAt ws a).os.length → (oAt (cAt ws a).os j).ps.length ≤ 20))
 case atStart => exact ⟨0, 0, Nat.zero_le _, by omega, rfl, rfl, Below.refl _ _, fun _ => rfl, fun j hj => absurd hj (Nat.not_lt_zero _)⟩
 case round =>
  obtain ⟨t, m, hlt0, hgg, rfl, rfl, hA⟩ := hrel
  have HA := Lib.hid hA.out
  clear hA
  have p0 := cr 0 (blk_on HK.out.2.1 HA.out.1)
  by_cases hlt : t < ws.length
  ·have hltz : (t : Int) < (ws.length : Int) := by omega
   obtain ⟨b, off, rfl, hbl, hcs⟩ := HK.out.2.2 (by omega)
   have p1 := (HA.out.1.cell (p := ⟨b, off + t, none⟩) hbl).trans (hcs t hlt).1
   have HO := Lib.hid (hcs t hlt).2
   have hlo := HN.out.1 t hlt
   clear hcs
   generalize (cAt ws t).A = A2 at *
   go_upto_region 7 with fail
   have HM := Lib.hid (show (ws.length ≤ 30 → wrap64 (m + ((cAt ws t).os.length : Int)) = start ws (t + 1)) from fun h30 => by
    have h1 := start_few HN.out.1 t (by omega)
    have h2 := HA.out.2.1 h30
    have h3 := HN.out.2.2
    have h4 : t * reachBytes ≤ 30 * reachBytes := Nat.mul_le_mul_right _ (by omega)
    have h5 := start_succ hlt
    unfold wrap64
    omega)
   generalize wrap64 (m + ((cAt ws t).os.length : Int)) = m' at *
   have hlo2 : (cAt ws t).os.length ≤ 140737488355328 := Nat.le_trans hlo HN.out.2.2
   clear hlo
   have HB := Lib.hid (HA.out.1)
   have q0 : wr.cell? ⟨w.heap.size, 0, none⟩ = some (.slice (some ⟨b, off, none⟩) ws.length c) := p0
   have q1 : wr.cell? ⟨b, off + t, none⟩ = some (.slice A2 (cAt ws t).os.length (cAt ws t).c) := p1
   clear p0 p1
   generalize wr = w5 at *
   go_loopg [5] (cAt ws t).os.length (fun gg k wr => ∃ d : Nat, d ≤ (cAt ws t).os.length ∧ (cAt ws t).os.length - d ≤ gg ∧ k = .int .i64 d ∧ Aside (Below w5.heap.size w5 wr ∧ ∀ j, j < d → (oAt (cAt ws t).os j).ps.length ≤ 20))
   case atStart => exact ⟨0, Nat.zero_le _, by omega, rfl, Below.refl _ _, fun j hj => absurd hj (Nat.not_lt_zero _)⟩
   case round =>
    obtain ⟨d, hd0, hdg, rfl, hC⟩ := hrel
    have HC := Lib.hid hC.out
    clear hC
    have p0 := (HC.out.1.cell (p := ⟨w.heap.size, 0, none⟩) (lt_of_cell q0)).trans q0
    have p1 := (HC.out.1.cell (p := ⟨b, off + t, none⟩) (lt_of_cell q1)).trans q1
    by_cases hdl : d < (cAt ws t).os.length
    ·have hdz : (d : Int) < ((cAt ws t).os.length : Int) := by omega
     obtain ⟨b2, o2, rfl, hb2, hc2⟩ := HO.out (by omega)
     have p2 := ((HB.out.trans (HC.out.1.mono HB.out.size)).cell (p := ⟨b2, o2 + d * 7 + 2, none⟩) hb2).trans (hc2 d hdl).c2
     clear hc2
     by_cases h20 : (oAt (cAt ws t).os d).ps.length ≤ 20
     ·have h20z : ¬ (20 : Int) < ((oAt (cAt ws t).os d).ps.length : Int) := by omega
      have H20 := Lib.hid h20
      clear h20
      go_wp2
      go_roundg ((cAt ws t).os.length - (d + 1))
      case measure => omega
      case rel => exact ⟨d + 1, by omega, by omega, by go_num, (show _ ∧ _ from ⟨HC.out.1, fun j hj => by
       by_cases e : j = d
       ·subst e; exact H20.out
       ·exact HC.out.2 j (by omega)⟩)⟩
     ·have h20z : (20 : Int) < ((oAt (cAt ws t).os d).ps.length : Int) := by omega
      clear h20
      go_wp2
      go_ret
      obtain rfl : R = false := HRR.out.symm.trans (fewB_no (fun h _ _ => absurd (h.n3 _ (start_lt hlt hdl)) (by rw [oAt_outs hlt hdl]; omega)))
      exact ⟨rfl, HK.out.1.trans ((HB.out.trans (HC.out.1.mono HB.out.size)).mono HK.out.1.size)⟩
    ·have hdz : ¬ (d : Int) < ((cAt ws t).os.length : Int) := by omega
     obtain rfl : d = (cAt ws t).os.length := by omega
     go_wp2
     go_roundg (ws.length - (t + 1))
     case measure => omega
     case rel => exact ⟨t + 1, m', by omega, by omega, by go_num, rfl, (show _ ∧ _ ∧ _ from ⟨HB.out.trans (HC.out.1.mono HB.out.size), HM.out, fun a ha j hj => by
      by_cases e : a = t
      ·subst e; exact HC.out.2 j hj
      ·exact HA.out.2.2 a (by omega) j hj⟩)⟩
  ·have hltz : ¬ (t : Int) < (ws.length : Int) := by omega
   obtain rfl : t = ws.length := by omega
   have HF := hd4 HK.out.1 HA.out.1 HA.out.2.1 HA.out.2.2
   have HR : Hid ((((ws.length : Int) ≤ 6 ∨ ((16 : Int) < ws.length ∧ (ws.length : Int) ≤ 30)) → (m ≤ 14 ∨ ((60 : Int) < m ∧ m ≤ 90)) → fewB ws = true) ∧ (¬ ((ws.length : Int) ≤ 6 ∨ ((16 : Int) < ws.length ∧ (ws.length : Int) ≤ 30)) → fewB ws = false) ∧ (ws.length ≤ 30 → ¬ (m ≤ 14 ∨ ((60 : Int) < m ∧ m ≤ 90)) → fewB ws = false)) := by
    refine Lib.hid ⟨fun h1 h2 => ?_, fun h1 => fewB_no (fun k a b => ?_), fun h30 h2 => fewB_no (fun k a b => ?_)⟩
    ·have e := HF.out.2.2.1 (by omega)
     rw [start_all] at e
     exact fewB_yes (fewOk_of (by omega) (by omega) HF.out.2.2.2) (by omega) (by omega)
    ·have := k.n1
     omega
    ·have e := HF.out.2.2.1 h30
     rw [start_all] at e
     have := k.n2
     omega
   have HG := Lib.hid (HF.out.1.trans (HF.out.2.1.mono HF.out.1.size))
   clear HA HN HK HF
   rw [HRR.out] at HR
   clear HRR
   have p1 := lenCases ws.length
   have p2 := intCases m
   rcases p1 with p1 | ⟨p1, p2', p3⟩ | ⟨p1, p2', p3⟩ | ⟨p1, p2'⟩
   all_goals (rcases p2 with d1 | ⟨d1, d2, d3⟩ | ⟨d1, d2, d3⟩ | ⟨d1, d2⟩)
   ·obtain rfl : R = true := HR.out.1 (by omega) (by omega)
    clear HR
    go_wp2
    go_ret
    exact ⟨rfl, HG.out⟩
   ·obtain rfl : R = true := HR.out.1 (by omega) (by omega)
    clear HR
    go_wp2
    go_ret
    exact ⟨rfl, HG.out⟩
   ·obtain rfl : R = false := HR.out.2.2 (by omega) (by omega)
    clear HR
    go_wp2
    go_ret
    exact ⟨rfl, HG.out⟩
   ·obtain rfl : R = false := HR.out.2.2 (by omega) (by omega)
    clear HR
    go_wp2
    go_ret
    exact ⟨rfl, HG.out⟩
   ·obtain rfl : R = true := HR.out.1 (by omega) (by omega)
    clear HR
    go_wp2
    go_ret
    exact ⟨rfl, HG.out⟩
   ·obtain rfl : R = true := HR.out.1 (by omega) (by omega)
    clear HR
    go_wp2
    go_ret
    exact ⟨rfl, HG.out⟩
   ·obtain rfl : R = false := HR.out.2.2 (by omega) (by omega)
    clear HR
    go_wp2
    go_ret
    exact ⟨rfl, HG.out⟩
   ·obtain rfl : R = false := HR.out.2.2 (by omega) (by omega)
    clear HR
    go_wp2
    go_ret
    exact ⟨rfl, HG.out⟩
   ·obtain rfl : R = false := HR.out.2.1 (by omega)
    clear HR
    go_wp2
    go_ret
    exact ⟨rfl, HG.out⟩
   ·obtain rfl : R = false := HR.out.2.1 (by omega)
    clear HR
    go_wp2
    go_ret
    exact ⟨rfl, HG.out⟩
   ·obtain rfl : R = false := HR.out.2.1 (by omega)
    clear HR
    go_wp2
    go_ret
    exact ⟨rfl, HG.out⟩
   ·obtain rfl : R = false := HR.out.2.1 (by omega)
    clear HR
    go_wp2
    go_ret
    exact ⟨rfl, HG.out⟩
   ·obtain rfl : R = false := HR.out.2.1 (by omega)
    clear HR
    go_wp2
    go_ret
    exact ⟨rfl, HG.out⟩
   ·obtain rfl : R = false := HR.out.2.1 (by omega)
    clear HR
    go_wp2
    go_ret
    exact ⟨rfl, HG.out⟩
   ·obtain rfl : R = false := HR.out.2.1 (by omega)
    clear HR
    go_wp2
    go_ret
    exact ⟨rfl, HG.out⟩
   ·obtain rfl : R = false := HR.out.2.1 (by omega)
    clear HR
    go_wp2
    go_ret
    exact ⟨rfl, HG.out⟩

theorem wetCases (n : Nat) : ((n : Int) ≤ 100 ∧ decide (n ≤ 100) = true) ∨ (¬ (n : Int) ≤ 100 ∧ decide (n ≤ 100) = false) := by
 rw [decide_eq_true_eq, decide_eq_false_iff_not]
 omega
set_option maxRecDepth 100000 in
set_option maxHeartbeats 1600000 in
theorem wet_any (s : Wt) (w : World) (h : WtIn w s) :
  Calls Try.prog 19 #[s.v] w fun e w' => e = .returned (.bool (wetB s)) ∧ Below w.heap.size w w' := by
 obtain ⟨A0, A1, A2, A3, c0, c1, c2, c3, ri, bo, lk, lo⟩ := s
 obtain ⟨r0, r1, r2, r3, m0, m1, m2, m3⟩ := h
 have hR : wetB ⟨A0, A1, A2, A3, c0, c1, c2, c3, ri, bo, lk, lo⟩ = (decide (ri.length ≤ 100) && decide (bo.length ≤ 100) && decide (lk.length ≤ 100) && decide (lo.length ≤ 100)) := rfl
 rw [hR]
 clear hR
 show Calls _ _ #[.agg #[.slice A0 ri.length c0, .slice A1 bo.length c1, .slice A2 lk.length c2, .slice A3 lo.length c3]] _ _
 have g0 := wetCases ri.length
 have g1 := wetCases bo.length
 have g2 := wetCases lk.length
 have g3 := wetCases lo.length
 generalize decide (ri.length ≤ 100) = b0 at *
 generalize decide (bo.length ≤ 100) = b1 at *
 generalize decide (lk.length ≤ 100) = b2 at *
 generalize decide (lo.length ≤ 100) = b3 at *
 have hb0 : Below w.heap.size w (w.alloc (.cells #[.slice A0 ri.length c0, .slice A1 bo.length c1, .slice A2 lk.length c2, .slice A3 lo.length c3] 27)) := (Below.refl _ w).alloc (Nat.le_refl _) _
 have q0 : Blk (w.alloc (.cells #[.slice A0 ri.length c0, .slice A1 bo.length c1, .slice A2 lk.length c2, .slice A3 lo.length c3] 27)) w.heap.size #[.slice A0 ri.length c0, .slice A1 bo.length c1, .slice A2 lk.length c2, .slice A3 lo.length c3] 27 := blk_new _ _ _ rfl
 go_enter Try.func19, Try.ntmps19
 go_upto_region 1 with fail
 have HB := Lib.hid hb0
 have p0 := cr 0 q0
 have p1 := cr 1 q0
 have p2 := cr 2 q0
 have p3 := cr 3 q0
 clear hb0 q0
 generalize w.alloc (.cells #[.slice A0 ri.length c0, .slice A1 bo.length c1, .slice A2 lk.length c2, .slice A3 lo.length c3] 27) = w1 at *
 rcases g0 with ⟨d0, rfl⟩ | ⟨d0, rfl⟩
 rcases g1 with ⟨d1, rfl⟩ | ⟨d1, rfl⟩
 rcases g2 with ⟨d2, rfl⟩ | ⟨d2, rfl⟩
 rcases g3 with ⟨d3, rfl⟩ | ⟨d3, rfl⟩
 all_goals (go_wp2; go_ret; exact ⟨rfl, HB.out⟩)
theorem wetB_ok {s : Wt} {w : World} (h : WtIn w s) (hb : wetB s = true) : Wet w s := by
 unfold wetB at hb
 simp only [Bool.and_eq_true, decide_eq_true_eq] at hb
 exact ⟨h.r0, h.r1, h.r2, h.r3, by omega, by omega, by omega, by omega⟩
theorem few_wk {w : World} {A : Option Addr} {ws : List Car} (h : WkIn w A ws) (hf : fewB ws = true) : Wk w A ws := by
 have k := fewB_ok hf
 have a := k.n1
 have b := k.n2
 exact ⟨h.rd, by omega, by omega, fun i hi => by have := k.n3 i hi; omega⟩
theorem WkIn.ext {w w' : World} {A : Option Addr} {ws : List Car} (h : WkIn w A ws) (hb : Below w.heap.size w w') : WkIn w' A ws := ⟨h.rd.ext hb, h.n0, h.n1, h.n2⟩
theorem WtIn.ext {w w' : World} {s : Wt} (h : WtIn w s) (hb : Below w.heap.size w w') : WtIn w' s := ⟨h.r0.ext hb, h.r1.ext hb, h.r2.ext hb, h.r3.ext hb, h.m0, h.m1, h.m2, h.m3⟩
theorem stays_wkIn {W : World} {A : Option Addr} {ws : List Car} (h : WkIn W A ws) : Stays (fun X => WkIn X A ws) W := ⟨h, fun _ _ a b => a.ext b⟩
theorem stays_wtIn {W : World} {s : Wt} (h : WtIn W s) : Stays (fun X => WtIn X s) W := ⟨h, fun _ _ a b => a.ext b⟩
end Go.Proofs.Ytdadoelajhemjaa
