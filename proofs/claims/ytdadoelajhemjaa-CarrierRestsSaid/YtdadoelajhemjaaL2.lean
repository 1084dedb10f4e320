/- Walk: the law CarrierKeeps. -/
import Derived.Test.YtdadoelajhemjaaM12
import Derived.Test.YtdadoelajhemjaaL1
import Derived.Test.YtdadoelajhemjaaP4
namespace Go.Proofs.Ytdadoelajhemjaa
open Go.RowKit Go.Shelf

theorem WkIn.ext {w w' : World} {A : Option Addr} {ws : List Car} (h : WkIn w A ws) (hb : Below w.heap.size w w') : WkIn w' A ws := ⟨h.rd.ext hb, h.n0, h.n1, h.n2⟩
theorem WtIn.ext {w w' : World} {s : Wt} (h : WtIn w s) (hb : Below w.heap.size w w') : WtIn w' s := ⟨h.r0.ext hb, h.r1.ext hb, h.r2.ext hb, h.r3.ext hb, h.m0, h.m1, h.m2, h.m3⟩
theorem stays_wkIn {W : World} {A : Option Addr} {ws : List Car} (h : WkIn W A ws) : Stays (fun X => WkIn X A ws) W := ⟨h, fun _ _ a b => a.ext b⟩
theorem stays_wtIn {W : World} {s : Wt} (h : WtIn W s) : Stays (fun X => WtIn X s) W := ⟨h, fun _ _ a b => a.ext b⟩

set_option maxRecDepth 100000 in
set_option maxHeartbeats 8000000 in
theorem CarrierKeeps_row (w : World) (A1 : Option Addr) (c1 : Nat) (ws : List Car) (r1 : WkIn w A1 ws) (s : Wt) (r2 : WtIn w s) :
    Calls Try.prog 3 #[.agg #[.slice A1 ws.length c1], s.v] w fun e w' => e = .returned (.bool true) ∧ Below w.heap.size w w' := by
  obtain ⟨A0, B1, A2, A3, d0, d1, d2, d3, ri, bo, lk, lo⟩ := s
  show Calls _ _ #[.agg #[.slice A1 ws.length c1], .agg #[.slice A0 ri.length d0, .slice B1 bo.length d1, .slice A2 lk.length d2, .slice A3 lo.length d3]] _ _
  have hb : Below w.heap.size w ((w.alloc (.cells #[.slice A1 ws.length c1] 24)).alloc (.cells #[.slice A0 ri.length d0, .slice B1 bo.length d1, .slice A2 lk.length d2, .slice A3 lo.length d3] 27)) := ((Below.refl _ w).alloc (Nat.le_refl _) _).alloc (by simp) _
  have K := Lib.hid ((((stays_bl hb).and (stays_blk (blk_alloc (blk_new w #[.slice A1 ws.length c1] 24 rfl) _))).and (stays_blk (g := w.heap.size + 1) (blk_new (w.alloc (.cells #[.slice A1 ws.length c1] 24)) #[.slice A0 ri.length d0, .slice B1 bo.length d1, .slice A2 lk.length d2, .slice A3 lo.length d3] 27 (by simp)))).and ((stays_wkIn (r1.ext hb)).and (stays_wtIn (r2.ext hb))))
  clear hb
  cases hf : fewB ws with
  | false =>
    have F0 := Lib.hid hf
    clear hf r1 r2
    go_enter Try.func3, Try.ntmps3
    go_upto_region 1 with fail
    generalize (w.alloc (.cells #[.slice A1 ws.length c1] 24)).alloc (.cells #[.slice A0 ri.length d0, .slice B1 bo.length d1, .slice A2 lk.length d2, .slice A3 lo.length d3] 27) = W0 at *
    have p0 := cell_row (i := 0) K.out.1.1.1.2
    have p1 := cell_row (i := 0) K.out.1.1.2
    have p2 := cell_row (i := 1) K.out.1.1.2
    have p3 := cell_row (i := 2) K.out.1.1.2
    have p4 := cell_row (i := 3) K.out.1.1.2
    go_wp2_with (first
      | (go_at_call 20; refine (sanity_any _).mono ?_; rintro e w2 ⟨rfl, hb⟩; have L2 := Lib.hid (L1.out.on hb); clear hb)
      | (go_at_call 18; refine (few_any A1 c1 ws _ K.out.1.2.1).mono ?_; rw [F0.out]; rintro e w1 ⟨rfl, hb⟩; have L1 := Lib.hid (K.out.on hb); clear hb))
    go_ret
    exact ⟨rfl, L2.out.1.1.1.1⟩
  | true =>
  have F0 := Lib.hid hf
  cases hw : wetB ⟨A0, B1, A2, A3, d0, d1, d2, d3, ri, bo, lk, lo⟩ with
  | false =>
    have F1 := Lib.hid hw
    clear hf hw r1 r2
    go_enter Try.func3, Try.ntmps3
    go_upto_region 1 with fail
    generalize (w.alloc (.cells #[.slice A1 ws.length c1] 24)).alloc (.cells #[.slice A0 ri.length d0, .slice B1 bo.length d1, .slice A2 lk.length d2, .slice A3 lo.length d3] 27) = W0 at *
    have p0 := cell_row (i := 0) K.out.1.1.1.2
    have p1 := cell_row (i := 0) K.out.1.1.2
    have p2 := cell_row (i := 1) K.out.1.1.2
    have p3 := cell_row (i := 2) K.out.1.1.2
    have p4 := cell_row (i := 3) K.out.1.1.2
    go_wp2_with (first
      | (go_at_call 20; refine (sanity_any _).mono ?_; rintro e w3 ⟨rfl, hb⟩; have L3 := Lib.hid (L2.out.on hb); clear hb)
      | (go_at_call 19; refine (wet_any ⟨A0, B1, A2, A3, d0, d1, d2, d3, ri, bo, lk, lo⟩ _ L1.out.1.2.2).mono ?_; rw [F1.out]; rintro e w2 ⟨rfl, hb⟩; have L2 := Lib.hid (L1.out.on hb); clear hb)
      | (go_at_call 18; refine (few_any A1 c1 ws _ K.out.1.2.1).mono ?_; rw [F0.out]; rintro e w1 ⟨rfl, hb⟩; have L1 := Lib.hid (K.out.on hb); have q1 := cell_row (i := 0) L1.out.1.1.2; have q2 := cell_row (i := 1) L1.out.1.1.2; have q3 := cell_row (i := 2) L1.out.1.1.2; have q4 := cell_row (i := 3) L1.out.1.1.2; clear hb))
    go_ret
    exact ⟨rfl, L3.out.1.1.1.1⟩
  | true =>
  have F1 := Lib.hid hw
  have hk := few_wk r1 hf
  have hs := wetB_ok r2 hw
  have hbw : Below w.heap.size w ((w.alloc (.cells #[.slice A1 ws.length c1] 24)).alloc (.cells #[.slice A0 ri.length d0, .slice B1 bo.length d1, .slice A2 lk.length d2, .slice A3 lo.length d3] 27)) := K.out.1.1.1.1
  have K' := Lib.hid ((K.out.push (stays_wet (hs.ext hbw))).push (stays_wk (hk.ext hbw)))
  clear K
  have K := K'
  clear K' hbw hk hs hf hw r1 r2
  have hF := fun W hk hs => Flow_any A1 c1 ws ⟨A0, B1, A2, A3, d0, d1, d2, d3, ri, bo, lk, lo⟩ W hk hs
  have hT := fun W hk hs => Tails_any A1 c1 ws ⟨A0, B1, A2, A3, d0, d1, d2, d3, ri, bo, lk, lo⟩ W hk hs
  have hL := fun W hk hs => Lost_any A1 c1 ws ⟨A0, B1, A2, A3, d0, d1, d2, d3, ri, bo, lk, lo⟩ W hk hs
  by_cases h0 : cwE ws ⟨A0, B1, A2, A3, d0, d1, d2, d3, ri, bo, lk, lo⟩ = 0
  rotate_left
  · generalize cwE ws ⟨A0, B1, A2, A3, d0, d1, d2, d3, ri, bo, lk, lo⟩ = E at *
    have hz : (E != 0) = true := by simpa using h0
    have HC := Lib.hid (And.intro hF (And.intro hT hL))
    clear hF hT hL h0
    go_enter Try.func3, Try.ntmps3
    go_upto_region 1 with fail
    generalize (w.alloc (.cells #[.slice A1 ws.length c1] 24)).alloc (.cells #[.slice A0 ri.length d0, .slice B1 bo.length d1, .slice A2 lk.length d2, .slice A3 lo.length d3] 27) = W0 at *
    have p0 := cell_row (i := 0) K.out.1.1.1.2
    have p1 := cell_row (i := 0) K.out.1.1.2
    have p2 := cell_row (i := 1) K.out.1.1.2
    have p3 := cell_row (i := 2) K.out.1.1.2
    have p4 := cell_row (i := 3) K.out.1.1.2
    go_upto_region 3 with (first
      | (go_at_call 19; refine (wet_any ⟨A0, B1, A2, A3, d0, d1, d2, d3, ri, bo, lk, lo⟩ _ L1.out.1.2.2.2.2).mono ?_; rw [F1.out]; rintro e w2 ⟨rfl, hb⟩; have L2 := Lib.hid (L1.out.on hb); clear hb)
      | (go_at_call 18; refine (few_any A1 c1 ws _ K.out.1.2.2.2.1).mono ?_; rw [F0.out]; rintro e w1 ⟨rfl, hb⟩; have L1 := Lib.hid (K.out.on hb); have q1 := cell_row (i := 0) L1.out.1.1.2; have q2 := cell_row (i := 1) L1.out.1.1.2; have q3 := cell_row (i := 2) L1.out.1.1.2; have q4 := cell_row (i := 3) L1.out.1.1.2; clear hb))
    clear p0 p1 p2 p3 p4 q1 q2 q3 q4 K L1
    have p0 := cell_row (i := 0) L2.out.1.1.1.2
    have p1 := cell_row (i := 0) L2.out.1.1.2
    have p2 := cell_row (i := 1) L2.out.1.1.2
    have p3 := cell_row (i := 2) L2.out.1.1.2
    have p4 := cell_row (i := 3) L2.out.1.1.2
    go_upto_region 4 with (go_at_call 21; refine (HC.out.1 _ L2.out.1.2.1 L2.out.1.2.2.1).mono ?_; rintro e w3 ⟨A5, c5, rfl, hr, -, hb⟩; have L3 := Lib.hid ((L2.out.on hb).push (stays_rd hr)); clear hr hb)
    clear p0 p1 p2 p3 p4 L2
    have p0 := cell_row (i := 0) L3.out.1.1.1.2
    have p1 := cell_row (i := 0) L3.out.1.1.2
    have p2 := cell_row (i := 1) L3.out.1.1.2
    have p3 := cell_row (i := 2) L3.out.1.1.2
    have p4 := cell_row (i := 3) L3.out.1.1.2
    go_upto_region 5 with (go_at_call 22; refine (HC.out.2.1 _ L3.out.1.2.2.1 L3.out.1.2.2.2.1).mono ?_; rintro e w4 ⟨A6, c6, rfl, hr, -, hb⟩; have L4 := Lib.hid ((L3.out.on hb).push (stays_rd hr)); clear hr hb)
    clear p0 p1 p2 p3 p4 L3
    have p0 := cell_row (i := 0) L4.out.1.1.1.2
    have p1 := cell_row (i := 0) L4.out.1.1.2
    have p2 := cell_row (i := 1) L4.out.1.1.2
    have p3 := cell_row (i := 2) L4.out.1.1.2
    have p4 := cell_row (i := 3) L4.out.1.1.2
    go_upto_region 6 with (go_at_call 23; refine (HC.out.2.2 _ L4.out.1.2.2.2.1 L4.out.1.2.2.2.2.1).mono ?_; rintro e w5 ⟨rfl, hb⟩; have L5 := Lib.hid (L4.out.on hb); clear hb)
    clear p0 p1 p2 p3 p4 L4 F0 F1 HC
    go_wp2_with (go_at_call 20; refine (sanity_any _).mono ?_; rintro e w6 ⟨rfl, hb⟩; have L6 := Lib.hid (L5.out.on hb); clear hb)
    go_ret
    exact ⟨rfl, L6.out.1.1.1.1⟩
  obtain ⟨S0, S1, S2, hK⟩ := keepsK h0
  rw [h0] at hF hT hL
  rw [hK.lF] at hF
  rw [hK.lT] at hT
  generalize flowsO ws ⟨A0, B1, A2, A3, d0, d1, d2, d3, ri, bo, lk, lo⟩ = F at *
  generalize tailsO ws ⟨A0, B1, A2, A3, d0, d1, d2, d3, ri, bo, lk, lo⟩ = T at *
  generalize lostO ws ⟨A0, B1, A2, A3, d0, d1, d2, d3, ri, bo, lk, lo⟩ = n at *
  have HC := Lib.hid (And.intro hF (And.intro hT hL))
  have HK := Lib.hid hK
  clear hF hT hL h0 hK
  dsimp only at HK
  go_enter Try.func3, Try.ntmps3
  go_upto_region 1 with fail
  generalize (w.alloc (.cells #[.slice A1 ws.length c1] 24)).alloc (.cells #[.slice A0 ri.length d0, .slice B1 bo.length d1, .slice A2 lk.length d2, .slice A3 lo.length d3] 27) = W0 at *
  have p0 := cell_row (i := 0) K.out.1.1.1.2
  have p1 := cell_row (i := 0) K.out.1.1.2
  have p2 := cell_row (i := 1) K.out.1.1.2
  have p3 := cell_row (i := 2) K.out.1.1.2
  have p4 := cell_row (i := 3) K.out.1.1.2
  go_upto_region 3 with (first
    | (go_at_call 19; refine (wet_any ⟨A0, B1, A2, A3, d0, d1, d2, d3, ri, bo, lk, lo⟩ _ L1.out.1.2.2.2.2).mono ?_; rw [F1.out]; rintro e w2 ⟨rfl, hb⟩; have L2 := Lib.hid (L1.out.on hb); clear hb)
    | (go_at_call 18; refine (few_any A1 c1 ws _ K.out.1.2.2.2.1).mono ?_; rw [F0.out]; rintro e w1 ⟨rfl, hb⟩; have L1 := Lib.hid (K.out.on hb); have q1 := cell_row (i := 0) L1.out.1.1.2; have q2 := cell_row (i := 1) L1.out.1.1.2; have q3 := cell_row (i := 2) L1.out.1.1.2; have q4 := cell_row (i := 3) L1.out.1.1.2; clear hb))
  clear p0 p1 p2 p3 p4 q1 q2 q3 q4 K L1
  have p0 := cell_row (i := 0) L2.out.1.1.1.2
  have p1 := cell_row (i := 0) L2.out.1.1.2
  have p2 := cell_row (i := 1) L2.out.1.1.2
  have p3 := cell_row (i := 2) L2.out.1.1.2
  have p4 := cell_row (i := 3) L2.out.1.1.2
  go_upto_region 4 with (go_at_call 21; refine (HC.out.1 _ L2.out.1.2.1 L2.out.1.2.2.1).mono ?_; rintro e w3 ⟨A5, c5, rfl, hr, -, hb⟩; have L3 := Lib.hid ((L2.out.on hb).push (stays_rd hr)); clear hr hb)
  clear p0 p1 p2 p3 p4 L2
  have p0 := cell_row (i := 0) L3.out.1.1.1.2
  have p1 := cell_row (i := 0) L3.out.1.1.2
  have p2 := cell_row (i := 1) L3.out.1.1.2
  have p3 := cell_row (i := 2) L3.out.1.1.2
  have p4 := cell_row (i := 3) L3.out.1.1.2
  go_upto_region 5 with (go_at_call 22; refine (HC.out.2.1 _ L3.out.1.2.2.1 L3.out.1.2.2.2.1).mono ?_; rintro e w4 ⟨A6, c6, rfl, hr, -, hb⟩; have L4 := Lib.hid ((L3.out.on hb).push (stays_rd hr)); clear hr hb)
  clear p0 p1 p2 p3 p4 L3
  have p0 := cell_row (i := 0) L4.out.1.1.1.2
  have p1 := cell_row (i := 0) L4.out.1.1.2
  have p2 := cell_row (i := 1) L4.out.1.1.2
  have p3 := cell_row (i := 2) L4.out.1.1.2
  have p4 := cell_row (i := 3) L4.out.1.1.2
  go_upto_region 6 with (go_at_call 23; refine (HC.out.2.2 _ L4.out.1.2.2.2.1 L4.out.1.2.2.2.2.1).mono ?_; rintro e w5 ⟨rfl, hb⟩; have L5 := Lib.hid (L4.out.on hb); clear hb)
  clear p0 p1 p2 p3 p4 L4 F0 F1 HC
  go_upto_region 12 with fail
  have hlr : ri.length ≤ 1000 := L5.out.1.2.2.2.2.1.m0
  go_loopg [11, 12] ri.length (fun gg sm i wr => ∃ t : Nat, t ≤ ri.length ∧ ri.length - t ≤ gg ∧ i = .int .i64 t ∧ sm = .int .i64 (S2 t) ∧ Aside (Below w5.heap.size w5 wr))
  case atStart => exact ⟨0, Nat.zero_le _, by omega, rfl, by rw [HK.out.z2], Below.refl _ _⟩
  case round =>
    obtain ⟨t, hlt0, hgg, rfl, rfl, hA⟩ := hrel
    have M := Lib.hid (L5.out.on hA.out)
    have HB := Lib.hid hA.out
    clear hA
    have p1 := cell_row (i := 0) M.out.1.1.2
    by_cases hlt : t < ri.length
    · have hltz : (t : Int) < (ri.length : Int) := by omega
      have hr0 : Rd wr wr.heap.size A0 ri := M.out.1.2.2.2.2.1.r0
      obtain ⟨b0, o0, rfl, _, hc0⟩ := hr0 (show 0 < ri.length by omega)
      have p2 := hc0 t hlt
      clear hc0 hr0
      have hs1 := Lib.hid (HK.out.s2 t hlt)
      obtain ⟨hb1, hb2⟩ := HK.out.b2 t hlt0
      obtain ⟨hb3, hb4⟩ := HK.out.b2 (t + 1) hlt
      rw [hs1.out] at hb3 hb4
      go_wp2
      go_roundg (ri.length - (t + 1))
      case measure => omega
      case rel => exact ⟨t + 1, by omega, by omega, by go_num, by rw [hs1.out], HB.out⟩
    · have hltz : ¬ (t : Int) < (ri.length : Int) := by omega
      obtain rfl : t = ri.length := by omega
      clear hlt hlt0 hgg L5 HB
      go_upto_region 18 with fail
      clear hltz p1
      generalize wr = w6 at *
      have hlw := M.out.1.2.2.2.1.n1
      have hlo := M.out.1.2.2.2.1.n2
      go_loopg [13, 14, 15, 16] ws.length (fun gg out k c _ w7 => ∃ t : Nat, t ≤ ws.length ∧ ws.length - t ≤ gg ∧ c = .int .i64 t ∧ k = .int .i64 (start ws t : Nat) ∧ out = .int .i64 (S0 (start ws t)) ∧ Aside (Below w6.heap.size w6 w7))
      case atStart => exact ⟨0, Nat.zero_le _, by omega, rfl, rfl, by rw [start_zero, HK.out.z0], Below.refl _ _⟩
      case round =>
        obtain ⟨t, hlt0, hgg, rfl, rfl, rfl, hA⟩ := hrel
        have N := Lib.hid (M.out.on hA.out)
        have HB := Lib.hid hA.out
        clear hA
        have p0 := cell_row (i := 0) N.out.1.1.1.2
        by_cases hlt : t < ws.length
        · have hltz : (t : Int) < (ws.length : Int) := by omega
          have hrw : RdW wr wr.heap.size A1 ws := N.out.1.2.2.2.1.rd
          obtain ⟨b, off, rfl, hbl, hcs⟩ := hrw (by omega)
          have p1 := (hcs t hlt).1
          have HO := Lib.hid (hcs t hlt).2
          clear hcs hrw hbl
          generalize (cAt ws t).A = Ao at *
          have hls := start_succ hlt
          have hlm : start ws (t + 1) ≤ (outs ws).length := by rw [← start_all]; exact start_mono hlt (Nat.le_refl _)
          go_upto_region 21 with fail
          generalize wr = w7 at *
          clear p0
          have q1 := p1
          clear p1
          go_loopg [13, 14, 16] (cAt ws t).os.length (fun gg out k i w8 => ∃ d : Nat, d ≤ (cAt ws t).os.length ∧ (cAt ws t).os.length - d ≤ gg ∧ i = .int .i64 d ∧ k = .int .i64 ((start ws t + d : Nat) : Int) ∧ out = .int .i64 (S0 (start ws t + d)) ∧ Aside (Below w7.heap.size w7 w8))
          case atStart => exact ⟨0, Nat.zero_le _, by omega, rfl, rfl, rfl, Below.refl _ _⟩
          case round =>
            obtain ⟨d, hd0, hdg, rfl, rfl, rfl, hC⟩ := hrel
            have O := Lib.hid (N.out.on hC.out)
            have HC := Lib.hid hC.out
            clear hC
            have p0 := cell_row (i := 0) O.out.1.1.1.2
            have p1 := (HC.out.cell (p := ⟨b, off + t, none⟩) (lt_of_cell q1)).trans q1
            by_cases hdl : d < (cAt ws t).os.length
            · have hdz : (d : Int) < ((cAt ws t).os.length : Int) := by omega
              obtain ⟨b2, o2, rfl, _, hc2⟩ := (HO.out.ext HC.out) (by omega)
              have p2 := (hc2 d hdl).c1
              clear hc2
              have hx0 : start ws t + d < (outs ws).length := start_lt hlt hdl
              have HIN := Lib.hid (oAt_outs hlt hdl)
              generalize hx : start ws t + d = x at *
              have HX := Lib.hid hx
              clear hx
              have hrF : Rd wr wr.heap.size A5 F := O.out.1.2.2.1
              obtain ⟨b3, o3, rfl, _, hcF⟩ := hrF (by rw [HK.out.lF]; omega)
              have p3 := hcF x (by rw [HK.out.lF]; exact hx0)
              clear hcF hrF
              have hp := HK.out.pF x hx0
              have hpz : ¬ nth F x < 0 := by omega
              have hxz : (x : Int) < ((outs ws).length : Int) := by omega
              have hxz2 : ¬ ((outs ws).length : Int) ≤ (x : Int) := by omega
              obtain ⟨hb1, hb2⟩ := HK.out.b0 x (by omega)
              by_cases hneg : (oAt (cAt ws t).os d).into < 0
              · have HS := Lib.hid (HK.out.y0 x hx0 (by rw [HIN.out]; exact hneg))
                obtain ⟨hb3, hb4⟩ := HK.out.b0 (x + 1) hx0
                rw [HS.out] at hb3 hb4
                go_wp2
                go_roundg ((cAt ws t).os.length - (d + 1))
                case measure => omega
                case rel => exact ⟨d + 1, by omega, by omega, by go_num, by rw [← Nat.add_assoc, HX.out]; go_num, by rw [← Nat.add_assoc, HX.out, HS.out], HC.out⟩
              · have HS := Lib.hid (HK.out.n0 x hx0 (by rw [HIN.out]; exact hneg))
                go_wp2
                go_roundg ((cAt ws t).os.length - (d + 1))
                case measure => omega
                case rel => exact ⟨d + 1, by omega, by omega, by go_num, by rw [← Nat.add_assoc, HX.out]; go_num, by rw [← Nat.add_assoc, HX.out, HS.out], HC.out⟩
            · have hdz : ¬ (d : Int) < ((cAt ws t).os.length : Int) := by omega
              obtain rfl : d = (cAt ws t).os.length := by omega
              have HL := Lib.hid hls
              clear hls
              go_wp2
              go_roundg (ws.length - (t + 1))
              case measure => omega
              case rel => exact ⟨t + 1, by omega, by omega, by go_num, by rw [HL.out, Int.natCast_add], by rw [HL.out], HB.out.trans (HC.out.mono HB.out.size)⟩
        · have hltz : ¬ (t : Int) < (ws.length : Int) := by omega
          obtain rfl : t = ws.length := by omega
          rw [start_all ws]
          clear hlt hlt0 hgg M HB
          go_upto_region 29 with fail
          clear hltz p0
          generalize wr = w7 at *
          go_loopg [13, 17] ws.length (fun gg out i w8 => ∃ t : Nat, t ≤ ws.length ∧ ws.length - t ≤ gg ∧ i = .int .i64 t ∧ out = .int .i64 (S1 t) ∧ Aside (Below w7.heap.size w7 w8))
          case atStart => exact ⟨0, Nat.zero_le _, by omega, rfl, by rw [HK.out.z1], Below.refl _ _⟩
          case round =>
            obtain ⟨t, hlt0, hgg, rfl, rfl, hA⟩ := hrel
            have O := Lib.hid (N.out.on hA.out)
            have HC := Lib.hid hA.out
            clear hA
            by_cases hlt : t < ws.length
            · have hltz : (t : Int) < (ws.length : Int) := by omega
              have hrT : Rd wr wr.heap.size A6 T := O.out.1.2.1
              obtain ⟨b3, o3, rfl, _, hcT⟩ := hrT (by rw [HK.out.lT]; omega)
              have p3 := hcT t (by rw [HK.out.lT]; exact hlt)
              clear hcT hrT
              have hp := HK.out.pT t hlt
              have hpz : ¬ nth T t < 0 := by omega
              have HS := Lib.hid (HK.out.s1 t hlt)
              obtain ⟨hb1, hb2⟩ := HK.out.b1 t hlt0
              obtain ⟨hb3, hb4⟩ := HK.out.b1 (t + 1) hlt
              rw [HS.out] at hb3 hb4
              go_wp2
              go_roundg (ws.length - (t + 1))
              case measure => omega
              case rel => exact ⟨t + 1, by omega, by omega, by go_num, by rw [HS.out], HC.out⟩
            · have hltz : ¬ (t : Int) < (ws.length : Int) := by omega
              obtain rfl : t = ws.length := by omega
              have hpn := HK.out.pn
              rw [HK.out.e]
              have p0 := cell_row (i := 0) O.out.1.1.1.2
              go_wp2_with (go_at_call 20; refine (sanity_any _).mono ?_; rintro e w9 ⟨rfl, hb⟩; have L6 := Lib.hid (O.out.on hb); have p9 := cell_row (i := 0) L6.out.1.1.1.2; clear hb)
              go_ret
              exact ⟨rfl, L6.out.1.1.1.1⟩
end Go.Proofs.Ytdadoelajhemjaa
