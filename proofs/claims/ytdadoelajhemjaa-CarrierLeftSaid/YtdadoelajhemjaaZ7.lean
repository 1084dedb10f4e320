/- Walk: the law CarrierWithout. -/
import Derived.Test.YtdadoelajhemjaaZ3
import Derived.Test.YtdadoelajhemjaaZ5
import Derived.Test.YtdadoelajhemjaaZ6
import Derived.Test.YtdadoelajhemjaaL1
namespace Go.Proofs.Ytdadoelajhemjaa
open Go.RowKit Go.Shelf

theorem cont_bound {ws vs : List Car} {n : Int} (h : contW vs = withC ws n) (n1 : ws.length ≤ 1000) (n2 : (outs ws).length ≤ 1000) (n3 : ∀ i, i < (outs ws).length → (oAt (outs ws) i).ps.length ≤ 1000) :
  vs.length ≤ 1000 ∧ ∀ i, i < vs.length → (cAt vs i).os.length ≤ 1000 ∧ ∀ j, j < (cAt vs i).os.length → (oAt (cAt vs i).os j).ps.length ≤ 1000 := by
 have hl : (contW vs).length = vs.length := by simp [contW]
 unfold withC at h
 by_cases he : withE ws n = 0
 ·rw [if_pos he] at h
  have h2 := cntB_le ws n ws.length
  rw [← wioTo_length, ← h, hl] at h2
  refine ⟨by omega, fun i hi => ?_⟩
  have hm : (cAt vs i).os.map Ot.oc ∈ wioTo ws n ws.length := by
   rw [← h]
   exact List.mem_map.2 ⟨cAt vs i, cAt_mem hi, rfl⟩
  unfold wioTo at hm
  obtain ⟨k, hk, e⟩ := List.mem_map.1 hm
  have hkl : k < ws.length := by
   have := (List.mem_filter.1 hk).1
   simpa using this
  have hlen : (cAt vs i).os.length = (cAt ws k).os.length := by
   have := congrArg List.length e
   simpa using this.symm
  have hs : start ws k + (cAt ws k).os.length ≤ (outs ws).length := by
   have h1 := start_succ hkl
   have h3 := start_mono (ws := ws) (c := k + 1) (d := ws.length) hkl (Nat.le_refl _)
   rw [start_all] at h3
   omega
  refine ⟨by omega, fun j hj => ?_⟩
  have hj2 : j < (cAt ws k).os.length := by omega
  have h4 := n3 (start ws k + j) (by omega)
  rw [oAt_outs hkl hj2] at h4
  have h5 := congrArg (fun l => l[j]?) e
  simp only [List.getElem?_map, List.getElem?_eq_getElem hj, List.getElem?_eq_getElem hj2, Option.map_some, Option.some.injEq] at h5
  have h6 := congrArg Oc.ps h5
  have e1 : oAt (cAt vs i).os j = (cAt vs i).os[j] := by unfold oAt; rw [List.getD_eq_getElem?_getD, List.getElem?_eq_getElem hj]; rfl
  have e2 : oAt (cAt ws k).os j = (cAt ws k).os[j] := by unfold oAt; rw [List.getD_eq_getElem?_getD, List.getElem?_eq_getElem hj2]; rfl
  rw [e1]
  rw [e2] at h4
  have h7 : (cAt ws k).os[j].ps = (cAt vs i).os[j].ps := h6
  rw [← h7]
  exact h4
 ·rw [if_neg he] at h
  rw [h] at hl
  have : vs.length = 0 := hl.symm
  exact ⟨by omega, fun i hi => absurd hi (by omega)⟩
theorem stays_rdw {W : World} {A : Option Addr} {l : List Car} (h : RdW W W.heap.size A l) : Stays (fun X => RdW X X.heap.size A l) W := ⟨h, fun _ _ a b => a.ext b⟩
set_option maxRecDepth 100000 in
set_option maxHeartbeats 3200000 in
theorem CarrierWithout_row (w : World) (A1 : Option Addr) (c1 : Nat) (ws : List Car) (r0 : WkIn w A1 ws) (n : Int) (_ : (Lit.int .i64 n).wf = true) :
  Calls Try.prog 13 #[.agg #[.slice A1 ws.length c1], .int .i64 n] w fun e w' => e = .returned (.bool true) ∧ Below w.heap.size w w' := by
 have hb : Below w.heap.size w (w.alloc (.cells #[.slice A1 ws.length c1] 24)) := (Below.refl _ w).alloc (Nat.le_refl _) _
 have K := Lib.hid (((stays_bl hb).and (stays_blk (blk_new w #[.slice A1 ws.length c1] 24 rfl))).and (stays_wkIn (r0.ext hb)))
 cases hf : fewB ws with
 | false =>
  have F0 := Lib.hid hf
  clear hf hb
  go_enter Try.func13, Try.ntmps13
  go_upto_region 1 with fail
  generalize (w.alloc (.cells #[.slice A1 ws.length c1] 24)) = W0 at *
  have q0 := cr 0 K.out.1.1.2
  go_wp2_with (first
   | (go_at_call 20; have _t := K2; clear _t; refine (sanity_any _).mono ?_; rintro e w7 ⟨rfl, hb⟩; have K6 := Lib.hid (K2.out.on hb); clear hb)
   | (go_at_call 18; refine (few_any A1 c1 ws _ K.out.1.2).mono ?_; rw [F0.out]; rintro e w3 ⟨rfl, hb⟩; have K2 := Lib.hid (K.out.on hb); clear hb))
  go_ret
  exact ⟨rfl, K6.out.1.1.1⟩
 | true =>
  have hwk := few_wk r0 hf
  replace K := Lib.hid (K.out.and (stays_wk (hwk.ext hb)))
  have F0 := Lib.hid hf
  have HB := Lib.hid (fun (vs : List Car) (h : contW vs = withC ws n) => cont_bound h hwk.n1 hwk.n2 hwk.n3)
  clear hf hb hwk
  go_enter Try.func13, Try.ntmps13
  go_upto_region 1 with fail
  generalize (w.alloc (.cells #[.slice A1 ws.length c1] 24)) = W0 at *
  have q0 := cr 0 K.out.1.1.1.2
  go_upto_region 3 with (go_at_call 18; refine (few_any A1 c1 ws _ K.out.1.1.2).mono ?_; rw [F0.out]; rintro e w3 ⟨rfl, hb⟩; have K2 := Lib.hid (K.out.on hb); clear hb)
  clear q0 K
  have q0 := cr 0 K2.out.1.1.1.2
  have hwi := Without_any A1 c1 ws n w3 K2.out.1.2
  have hrw := fun W (hW : Wk W A1 ws) => rWithout_any A1 c1 ws n W hW
  unfold WithR at hwi
  unfold RWithR at hrw
  generalize withE ws n = E at *
  have HWI := hd2 hwi hrw
  clear hwi hrw
  go_upto_region 4 with (go_at_call 51; refine HWI.out.1.mono ?_; rintro e w5 ⟨A2, c2, vs, rfl, hr, hc, hb⟩; have K4 := Lib.hid ((K2.out.on hb).and (stays_rdw hr)); have HC := Lib.hid hc; clear hb hr hc)
  clear q0 K2
  have hbx := (Below.refl _ w5).alloc (Nat.le_refl _) (.cells #[.slice A2 vs.length c2] 24)
  have K5 := Lib.hid ((K4.out.on hbx).and (stays_blk (blk_new w5 #[.slice A2 vs.length c2] 24 rfl)))
  clear hbx K4
  generalize w5.alloc (.cells #[.slice A2 vs.length c2] 24) = X1 at *
  generalize w5.heap.size = g5 at *
  have q0 := cr 0 K5.out.1.1.1.1.1.2
  go_upto_region 5 with (go_at_call 52; refine (HWI.out.2 _ K5.out.1.1.1.2).mono ?_; rintro e w6 ⟨A3, c3, us, rfl, hr, hc, hb⟩; have K6 := Lib.hid ((K5.out.on hb).and (stays_rdw hr)); have HD := Lib.hid hc; clear hb hr hc)
  clear q0 K5
  have hbx := (Below.refl _ w6).alloc (Nat.le_refl _) (.cells #[.slice A3 us.length c3, .int .i64 E] 87)
  have K7 := Lib.hid ((K6.out.on hbx).and (stays_blk (blk_new w6 #[.slice A3 us.length c3, .int .i64 E] 87 rfl)))
  clear hbx K6
  generalize w6.alloc (.cells #[.slice A3 us.length c3, .int .i64 E] 87) = X2 at *
  generalize w6.heap.size = g7 at *
  have hEE : (E == E) = true := by simp
  go_wp2_with (first
   | (go_at_call 53; have _t := K8; clear _t; refine (sameWorks_yes A2 c2 vs A3 c3 us _ K8.out.1.1.1.1.2 K8.out.1.1.2 (by rw [HC.out, HD.out]) (HB.out vs HC.out)).mono ?_; rintro e w9 ⟨rfl, hb⟩; have K9 := Lib.hid (K8.out.on hb); have y1 := cr 1 K9.out.1.2; clear hb)
   | (go_at_call 20; refine (sanity_any _).mono ?_; rintro e w8 ⟨rfl, hb⟩; have K8 := Lib.hid (K7.out.on hb); have z0 := cr 0 K8.out.1.1.1.2; have y0 := cr 0 K8.out.1.2; clear hb))
  go_ret
  exact ⟨rfl, K9.out.1.1.1.1.1.1.1.1⟩
end Go.Proofs.Ytdadoelajhemjaa
