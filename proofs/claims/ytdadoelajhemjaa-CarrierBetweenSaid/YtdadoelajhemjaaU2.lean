/- Plain: the flow stands between the ends of its case; a narrower case's ends lie inside. -/
import Derived.Test.YtdadoelajhemjaaP7
import Derived.Test.YtdadoelajhemjaaD2
import Derived.Test.YtdadoelajhemjaaH4
import Derived.Test.YtdadoelajhemjaaH1
namespace Go.Proofs.Ytdadoelajhemjaa
open Go.RowKit

theorem endV_mid {v n : Int} {p : Sp} (h : p.1 ≤ n ∧ n ≤ p.2) : v * endV false v p ≤ v * n ∧ v * n ≤ v * endV true v p := by
 rcases Int.lt_trichotomy v 0 with hv | hv | hv
 ·have e1 : endV false v p = p.2 := if_pos (by unfold endB; simp [hv])
  have e2 : endV true v p = p.1 := if_neg (by unfold endB; simp; omega)
  rw [e1, e2]
  exact ⟨Int.mul_le_mul_of_nonpos_left (by omega) h.2, Int.mul_le_mul_of_nonpos_left (by omega) h.1⟩
 ·subst hv; simp
 ·have e1 : endV false v p = p.1 := if_neg (by unfold endB; simp; omega)
  have e2 : endV true v p = p.2 := if_pos (by unfold endB; simp [hv])
  rw [e1, e2]
  exact ⟨Int.mul_le_mul_of_nonneg_left h.1 (by omega), Int.mul_le_mul_of_nonneg_left h.2 (by omega)⟩
theorem corW_is (ws : List Car) (cs : Cs) (x : Nat) (most : Bool) : Corner ws cs x most (corW ws cs x most) := ⟨rfl, rfl, rfl, rfl⟩
/-- Water that is right and fits the case lies between its corners. -/
theorem up_corners {ws : List Car} {cs : Cs} {s : Wt} (k : CsOk ws cs) (ok : Ok ws s) (hf : fitsB cs s = true) (x : Nat) : Up ws x (corW ws cs x false) s ∧ Up ws x s (corW ws cs x true) := by
 obtain ⟨f0, f1⟩ := fitsB_iff.1 hf
 have a : ∀ i, i < (headsTo ws ws.length).length → _ := fun i hi => endV_mid (v := nth (rivS ws x) i) (within_iff.1 (f0 i (by rw [k.l0]; exact hi)))
 have b : ∀ i, i < (outs ws).length → _ := fun i hi => endV_mid (v := hatV ws x i) (within_iff.1 (f1 i (by rw [k.l1]; exact hi)))
 have c : ∀ i, i < (outs ws).length → _ := fun i hi => endV_mid (v := hatV ws x i) (p := ((oAt (outs ws) i).kl, (oAt (outs ws) i).kh)) (ok.r2 i hi)
 have d : ∀ i, i < (outs ws).length → _ := fun i hi => endV_mid (v := reaV ws x i) (p := ((oAt (outs ws) i).sl, (oAt (outs ws) i).sh)) (ok.r3 i hi)
 have e0 : ∀ m i, i < (headsTo ws ws.length).length → nth (corW ws cs x m).ri i = endV m (nth (rivS ws x) i) (sAt cs.ri i) := fun m i hi => nth_range _ (by rw [k.l0]; exact hi)
 have e1 : ∀ m i, i < (outs ws).length → nth (corW ws cs x m).bo i = endV m (hatV ws x i) (sAt cs.bo i) := fun m i hi => nth_range _ hi
 have e2 : ∀ m i, i < (outs ws).length → nth (corW ws cs x m).lk i = endV m (hatV ws x i) ((oAt (outs ws) i).kl, (oAt (outs ws) i).kh) := fun m i hi => nth_range _ hi
 have e3 : ∀ m i, i < (outs ws).length → nth (corW ws cs x m).lo i = endV m (reaV ws x i) ((oAt (outs ws) i).sl, (oAt (outs ws) i).sh) := fun m i hi => nth_range _ hi
 exact ⟨⟨fun i hi => by rw [e0 _ i hi]; exact (a i hi).1, fun i hi => by rw [e1 _ i hi]; exact (b i hi).1, fun i hi => by rw [e2 _ i hi]; exact (c i hi).1, fun i hi => by rw [e3 _ i hi]; exact (d i hi).1⟩,
  ⟨fun i hi => by rw [e0 _ i hi]; exact (a i hi).2, fun i hi => by rw [e1 _ i hi]; exact (b i hi).2, fun i hi => by rw [e2 _ i hi]; exact (c i hi).2, fun i hi => by rw [e3 _ i hi]; exact (d i hi).2⟩⟩
theorem flow_between {ws : List Car} {cs : Cs} {s : Wt} (g : Good ws) (k : CsOk ws cs) (ok : Ok ws s) (hf : fitsB cs s = true) {x : Nat} (hx : x < (outs ws).length) : (endsF ws cs x).1 ≤ flowF ws s x ∧ flowF ws s x ≤ (endsF ws cs x).2 := by
 obtain ⟨u1, u2⟩ := up_corners k ok hf x
 exact ⟨mono_flow g ((corW_is ws cs x false).ok g k) ok hx u1, mono_flow g ok ((corW_is ws cs x true).ok g k) hx u2⟩
/-- A corner fits its case. -/
theorem corner_fits {ws : List Car} {cs : Cs} {s : Wt} {x : Nat} {most : Bool} (k : CsOk ws cs) (h : Corner ws cs x most s) : fitsB cs s = true := by
 rw [fitsB_iff]
 refine ⟨fun i hi => within_iff.2 ?_, fun i hi => within_iff.2 ?_⟩
 ·have := k.r0 i hi
  rw [h.ri]; unfold cRi; rw [nth_range _ hi]
  rcases endV_or most (nth (rivS ws x) i) (sAt cs.ri i) with e | e <;> rw [e] <;> omega
 ·have := k.r1 i (by rw [← k.l1]; exact hi)
  rw [h.bo]; unfold cBo; rw [nth_range _ (by rw [← k.l1]; exact hi)]
  rcases endV_or most (hatV ws x i) (sAt cs.bo i) with e | e <;> rw [e] <;> omega
theorem ends_order {ws : List Car} {cs : Cs} (g : Good ws) (k : CsOk ws cs) {x : Nat} (hx : x < (outs ws).length) : 0 ≤ (endsF ws cs x).1 ∧ (endsF ws cs x).1 ≤ (endsF ws cs x).2 := by
 have ok := (corW_is ws cs x true).ok g k
 have h := flow_between g k ok (corner_fits k (corW_is ws cs x true)) hx
 have okf := (corW_is ws cs x false).ok g k
 have hB := flow_bounds g okf (firsts (outs ws).length x)
 have hv := step_vals g okf hB hx
 have e : flowF ws (corW ws cs x false) x = thrOf ws (corW ws cs x false) (flowL ws (corW ws cs x false) (firsts (outs ws).length x)) (caAt ws x) x := through_eq g hx
 exact ⟨by show 0 ≤ flowF ws (corW ws cs x false) x; omega, h.1⟩
/-- A case within a case. -/
structure Inside (ws : List Car) (cs cs' : Cs) : Prop where
 l0 : cs'.ri.length = cs.ri.length
 l1 : cs'.bo.length = cs.bo.length
 r0 : ∀ i, i < cs.ri.length → (sAt cs.ri i).1 ≤ (sAt cs'.ri i).1 ∧ (sAt cs'.ri i).1 ≤ (sAt cs'.ri i).2 ∧ (sAt cs'.ri i).2 ≤ (sAt cs.ri i).2
 r1 : ∀ i, i < cs.bo.length → (sAt cs.bo i).1 ≤ (sAt cs'.bo i).1 ∧ (sAt cs'.bo i).1 ≤ (sAt cs'.bo i).2 ∧ (sAt cs'.bo i).2 ≤ (sAt cs.bo i).2
theorem Inside.ok {ws : List Car} {cs cs' : Cs} (h : Inside ws cs cs') (k : CsOk ws cs) : CsOk ws cs' :=
 ⟨h.l0.trans k.l0, h.l1.trans k.l1, fun i hi => by have a := h.r0 i (by rw [← h.l0]; exact hi); have b := k.r0 i (by rw [← h.l0]; exact hi); omega,
  fun i hi => by have a := h.r1 i (by rw [k.l1]; exact hi); have b := k.r1 i hi; omega⟩
theorem Inside.fits {ws : List Car} {cs cs' : Cs} (h : Inside ws cs cs') {s : Wt} (hf : fitsB cs' s = true) : fitsB cs s = true := by
 obtain ⟨f0, f1⟩ := fitsB_iff.1 hf
 refine fitsB_iff.2 ⟨fun i hi => within_iff.2 ?_, fun i hi => within_iff.2 ?_⟩
 ·have a := h.r0 i hi
  have b := within_iff.1 (f0 i (by rw [h.l0]; exact hi))
  omega
 ·have a := h.r1 i hi
  have b := within_iff.1 (f1 i (by rw [h.l1]; exact hi))
  omega
theorem ends_inside {ws : List Car} {cs cs' : Cs} (g : Good ws) (k : CsOk ws cs) (h : Inside ws cs cs') {x : Nat} (hx : x < (outs ws).length) : (endsF ws cs x).1 ≤ (endsF ws cs' x).1 ∧ (endsF ws cs' x).2 ≤ (endsF ws cs x).2 := by
 have k' := h.ok k
 exact ⟨(flow_between g k ((corW_is ws cs' x false).ok g k') (h.fits (corner_fits k' (corW_is ws cs' x false))) hx).1, (flow_between g k ((corW_is ws cs' x true).ok g k') (h.fits (corner_fits k' (corW_is ws cs' x true))) hx).2⟩
theorem water_of_ok {ws : List Car} {s : Wt} (k : Ok ws s) : waterE ws s = 0 := by
 have h0 : wB0 ws s = true := allB_iff.2 ⟨k.l0, fun i hi => within_iff.2 (k.r0 i hi)⟩
 have h1 : wB1 ws s = true := allB_iff.2 ⟨k.l1, fun i hi => within_iff.2 (k.r1 i (by rw [← k.l1]; exact hi))⟩
 have h2 : wB2 ws s = true := allB_iff.2 ⟨k.l2, fun i hi => within_iff.2 (k.r2 i (by rw [← k.l2]; exact hi))⟩
 have h3 : wB3 ws s = true := allB_iff.2 ⟨k.l3, fun i hi => within_iff.2 (k.r3 i (by rw [← k.l3]; exact hi))⟩
 unfold waterE waterB
 rw [if_pos (by rw [h0, h1, h2, h3]; rfl)]
/-- What Ends says is what CheckEnds takes. -/
theorem chk_own {ws : List Car} {cs : Cs} {id : Int} {x : Nat} {s t : Wt} (ha : askE ws cs id = 0) (hx : idxO ws id = some x) (g : Good ws) (k : CsOk ws cs) (hs : Corner ws cs x false s) (ht : Corner ws cs x true t) : chkE ws cs id (endsF ws cs x) s t = 0 := by
 have a1 : hasB ws cs x s (endsF ws cs x).1 = true := by
  unfold hasB
  rw [water_of_ok (hs.ok g k), corner_fits k hs, show flowF ws s x = (endsF ws cs x).1 by rw [hs.flow]; rfl]
  simp
 have a2 : hasB ws cs x t (endsF ws cs x).2 = true := by
  unfold hasB
  rw [water_of_ok (ht.ok g k), corner_fits k ht, show flowF ws t x = (endsF ws cs x).2 by rw [ht.flow]; rfl]
  simp
 unfold chkE
 rw [if_pos ha, hx]
 dsimp only
 rw [a1, a2]
 simp
theorem spn_at {ws : List Car} {cs : Cs} (h : ccE ws cs = 0) {x : Nat} (hx : x < (outs ws).length) : (spnE ws cs).length = (outs ws).length ∧ sAt (spnE ws cs) x = endsF ws cs x := by
 unfold spnE
 rw [if_pos h]
 exact ⟨spnTo_length _ _ _, by unfold spnTo sAt; simp [hx]⟩
theorem cc_of_ask {ws : List Car} {cs : Cs} {id : Int} (h : askE ws cs id = 0) : ccE ws cs = 0 := by
 unfold askE at h
 by_cases h0 : ccE ws cs = 0
 ·exact h0
 ·rw [if_neg h0] at h; exact h
/-- A narrower case answers as well. -/
theorem ask_inside {ws : List Car} {cs cs' : Cs} {id : Int} (h : askE ws cs id = 0) (hi : Inside ws cs cs') : askE ws cs' id = 0 := by
 have hc := cc_of_ask h
 have ⟨g, k⟩ := cc_good hc
 have hch : checkE ws = 0 := by
  unfold ccE at hc
  by_cases h0 : checkE ws = 0
  ·exact h0
  ·rw [if_neg h0] at hc; exact hc
 have hc' : ccE ws cs' = 0 := by
  unfold ccE
  rw [if_pos hch]
  exact caseE_zero.2 (hi.ok k)
 unfold askE at h ⊢
 rw [if_pos hc] at h
 rw [if_pos hc']
 exact h
end Go.Proofs.Ytdadoelajhemjaa
