/- Walk: the law CarrierCases. -/
import Derived.Test.YtdadoelajhemjaaD3
namespace Go.Proofs.Ytdadoelajhemjaa
open Go.RowKit Go.Shelf


set_option maxRecDepth 100000 in
set_option maxHeartbeats 8000000 in
theorem CarrierCases_row (w : World) (A1 : Option Addr) (c1 : Nat) (ws : List Car) (r0 : WkIn w A1 ws) (cs : Cs) (r1 : CsIn w cs) (s : Wt) (r2 : WtIn w s) :
    Calls Try.prog 11 #[.agg #[.slice A1 ws.length c1], cs.v, s.v] w fun e w' => e = .returned (.bool true) ∧ Below w.heap.size w w' := by
  show Calls _ _ #[.agg #[.slice A1 ws.length c1], .agg #[.slice cs.A0 cs.ri.length cs.c0, .slice cs.A1 cs.bo.length cs.c1], .agg #[.slice s.A0 s.ri.length s.c0, .slice s.A1 s.bo.length s.c1, .slice s.A2 s.lk.length s.c2, .slice s.A3 s.lo.length s.c3]] _ _
  have hb : Below w.heap.size w (((w.alloc (.cells #[.slice A1 ws.length c1] 24)).alloc (.cells #[.slice cs.A0 cs.ri.length cs.c0, .slice cs.A1 cs.bo.length cs.c1] 51)).alloc (.cells #[.slice s.A0 s.ri.length s.c0, .slice s.A1 s.bo.length s.c1, .slice s.A2 s.lk.length s.c2, .slice s.A3 s.lo.length s.c3] 27)) := ((((Below.refl _ w).alloc (Nat.le_refl _) _).alloc (by simp) _).alloc (by simp; omega) _)
  have K := Lib.hid (((((stays_bl hb).and (stays_blk (g := w.heap.size) (blk_alloc (blk_alloc (blk_new w #[.slice A1 ws.length c1] 24 rfl) _) _))).and (stays_blk (g := w.heap.size + 1) (blk_alloc (blk_new (w.alloc (.cells #[.slice A1 ws.length c1] 24)) #[.slice cs.A0 cs.ri.length cs.c0, .slice cs.A1 cs.bo.length cs.c1] 51 (by simp)) _))).and (stays_blk (g := w.heap.size + 1 + 1) (blk_new ((w.alloc (.cells #[.slice A1 ws.length c1] 24)).alloc (.cells #[.slice cs.A0 cs.ri.length cs.c0, .slice cs.A1 cs.bo.length cs.c1] 51)) #[.slice s.A0 s.ri.length s.c0, .slice s.A1 s.bo.length s.c1, .slice s.A2 s.lk.length s.c2, .slice s.A3 s.lo.length s.c3] 27 (by simp)))).and (show Stays (fun _ => True) _ from ⟨trivial, fun _ _ _ _ => trivial⟩))
  replace K := Lib.hid (K.out.push (stays_wkIn (r0.ext hb)))
  replace K := Lib.hid (K.out.push (stays_csIn (r1.ext hb)))
  replace K := Lib.hid (K.out.push (stays_wtIn (r2.ext hb)))
  clear hb
  cases hf : fewB ws with
  | false =>
    have F0 := Lib.hid hf
    clear hf
    go_enter Try.func11, Try.ntmps11
    go_upto_region 1 with fail
    generalize ((w.alloc (.cells #[.slice A1 ws.length c1] 24)).alloc (.cells #[.slice cs.A0 cs.ri.length cs.c0, .slice cs.A1 cs.bo.length cs.c1] 51)).alloc (.cells #[.slice s.A0 s.ri.length s.c0, .slice s.A1 s.bo.length s.c1, .slice s.A2 s.lk.length s.c2, .slice s.A3 s.lo.length s.c3] 27) = W0 at *
    have q1 := cell_row (i := 0) (K.out.1.1.1.1.2)
    go_wp2_with (first
      | (go_at_call 20; have _t := K2; clear _t; refine (sanity_any _).mono ?_; rintro e w9 ⟨rfl, hb⟩; have K8 := Lib.hid (K2.out.on hb); clear hb)
      | (go_at_call 18; have _t := K; clear _t; refine (few_any A1 c1 ws _ K.out.1.2.2.2.1).mono ?_; rw [F0.out]; rintro e w3 ⟨rfl, hb⟩; have K2 := Lib.hid (K.out.on hb); have q4 := cell_row (i := 0) (K2.out.1.1.2); have q5 := cell_row (i := 1) (K2.out.1.1.2); have q6 := cell_row (i := 2) (K2.out.1.1.2); have q7 := cell_row (i := 3) (K2.out.1.1.2); clear hb))
    go_ret
    exact ⟨rfl, K8.out.1.1.1.1.1⟩
  | true =>
  have F0 := Lib.hid hf
  cases hs : wetB s with
  | false =>
    have F1 := Lib.hid hs
    clear hs
    go_enter Try.func11, Try.ntmps11
    go_upto_region 1 with fail
    generalize ((w.alloc (.cells #[.slice A1 ws.length c1] 24)).alloc (.cells #[.slice cs.A0 cs.ri.length cs.c0, .slice cs.A1 cs.bo.length cs.c1] 51)).alloc (.cells #[.slice s.A0 s.ri.length s.c0, .slice s.A1 s.bo.length s.c1, .slice s.A2 s.lk.length s.c2, .slice s.A3 s.lo.length s.c3] 27) = W0 at *
    have q1 := cell_row (i := 0) (K.out.1.1.1.1.2)
    go_wp2_with (first
      | (go_at_call 20; have _t := K8; clear _t; refine (sanity_any _).mono ?_; rintro e w13 ⟨rfl, hb⟩; have K12 := Lib.hid (K8.out.on hb); clear hb)
      | (go_at_call 19; have _t := K2; clear _t; refine (wet_any s _ K2.out.1.2.1).mono ?_; rw [F1.out]; rintro e w9 ⟨rfl, hb⟩; have K8 := Lib.hid (K2.out.on hb); have q10 := cell_row (i := 0) (K8.out.1.1.1.2); have q11 := cell_row (i := 1) (K8.out.1.1.1.2); clear hb)
      | (go_at_call 18; have _t := K; clear _t; refine (few_any A1 c1 ws _ K.out.1.2.2.2.1).mono ?_; rw [F0.out]; rintro e w3 ⟨rfl, hb⟩; have K2 := Lib.hid (K.out.on hb); have q4 := cell_row (i := 0) (K2.out.1.1.2); have q5 := cell_row (i := 1) (K2.out.1.1.2); have q6 := cell_row (i := 2) (K2.out.1.1.2); have q7 := cell_row (i := 3) (K2.out.1.1.2); clear hb))
    go_ret
    exact ⟨rfl, K12.out.1.1.1.1.1⟩
  | true =>
  have F1 := Lib.hid hs
  cases hc : casedB cs with
  | false =>
    have F2 := Lib.hid hc
    clear hc
    go_enter Try.func11, Try.ntmps11
    go_upto_region 1 with fail
    generalize ((w.alloc (.cells #[.slice A1 ws.length c1] 24)).alloc (.cells #[.slice cs.A0 cs.ri.length cs.c0, .slice cs.A1 cs.bo.length cs.c1] 51)).alloc (.cells #[.slice s.A0 s.ri.length s.c0, .slice s.A1 s.bo.length s.c1, .slice s.A2 s.lk.length s.c2, .slice s.A3 s.lo.length s.c3] 27) = W0 at *
    have q1 := cell_row (i := 0) (K.out.1.1.1.1.2)
    go_wp2_with (first
      | (go_at_call 20; have _t := K12; clear _t; refine (sanity_any _).mono ?_; rintro e w15 ⟨rfl, hb⟩; have K14 := Lib.hid (K12.out.on hb); clear hb)
      | (go_at_call 30; have _t := K8; clear _t; refine (cased_any cs _ K8.out.1.2.2.1).mono ?_; rw [F2.out]; rintro e w13 ⟨rfl, hb⟩; have K12 := Lib.hid (K8.out.on hb); clear hb)
      | (go_at_call 19; have _t := K2; clear _t; refine (wet_any s _ K2.out.1.2.1).mono ?_; rw [F1.out]; rintro e w9 ⟨rfl, hb⟩; have K8 := Lib.hid (K2.out.on hb); have q10 := cell_row (i := 0) (K8.out.1.1.1.2); have q11 := cell_row (i := 1) (K8.out.1.1.1.2); clear hb)
      | (go_at_call 18; have _t := K; clear _t; refine (few_any A1 c1 ws _ K.out.1.2.2.2.1).mono ?_; rw [F0.out]; rintro e w3 ⟨rfl, hb⟩; have K2 := Lib.hid (K.out.on hb); have q4 := cell_row (i := 0) (K2.out.1.1.2); have q5 := cell_row (i := 1) (K2.out.1.1.2); have q6 := cell_row (i := 2) (K2.out.1.1.2); have q7 := cell_row (i := 3) (K2.out.1.1.2); clear hb))
    go_ret
    exact ⟨rfl, K14.out.1.1.1.1.1⟩
  | true =>
  have F2 := Lib.hid hc
  have hbw : Below w.heap.size w _ := K.out.1.1.1.1.1
  have hk := few_wk r0 hf
  have hws := wetB_ok r2 hs
  have hcs := casedB_ok r1 hc
  clear hf hs hc
  replace K := Lib.hid (K.out.push (stays_wk (hk.ext hbw)))
  replace K := Lib.hid (K.out.push (stays_wet (hws.ext hbw)))
  replace K := Lib.hid (K.out.push (stays_csd (hcs.ext hbw)))
  clear hbw hk hws hcs
  have hF := fun W hk hc hs => Fits_any A1 c1 ws cs s W hk hc hs
  have rF := fun W hk hc hs => rFits_any A1 c1 ws cs s W hk hc hs
  have hC := fun W hk hs => CheckCase_any A1 c1 ws cs W hk hs
  have rC := fun W hk hs => rCheckCase_any A1 c1 ws cs W hk hs
  generalize fitR ws cs s = R at *
  generalize fitE ws cs s = E at *
  generalize ccE ws cs = E2 at *
  have HC := Lib.hid (And.intro hF (And.intro rF (And.intro hC rC)))
  clear hF rF hC rC
  go_enter Try.func11, Try.ntmps11
  go_upto_region 1 with fail
  generalize ((w.alloc (.cells #[.slice A1 ws.length c1] 24)).alloc (.cells #[.slice cs.A0 cs.ri.length cs.c0, .slice cs.A1 cs.bo.length cs.c1] 51)).alloc (.cells #[.slice s.A0 s.ri.length s.c0, .slice s.A1 s.bo.length s.c1, .slice s.A2 s.lk.length s.c2, .slice s.A3 s.lo.length s.c3] 27) = W0 at *
  have q1 := cell_row (i := 0) (K.out.1.1.1.1.2)
  go_upto_region 3 with (first
    | (go_at_call 30; have _t := K8; clear _t; refine (cased_any cs _ K8.out.1.2.2.2.2.2.1).mono ?_; rw [F2.out]; rintro e w13 ⟨rfl, hb⟩; have K12 := Lib.hid (K8.out.on hb); clear hb)
    | (go_at_call 19; have _t := K2; clear _t; refine (wet_any s _ K2.out.1.2.2.2.2.1).mono ?_; rw [F1.out]; rintro e w9 ⟨rfl, hb⟩; have K8 := Lib.hid (K2.out.on hb); have q10 := cell_row (i := 0) (K8.out.1.1.1.2); have q11 := cell_row (i := 1) (K8.out.1.1.1.2); clear hb)
    | (go_at_call 18; have _t := K; clear _t; refine (few_any A1 c1 ws _ K.out.1.2.2.2.2.2.2.1).mono ?_; rw [F0.out]; rintro e w3 ⟨rfl, hb⟩; have K2 := Lib.hid (K.out.on hb); have q4 := cell_row (i := 0) (K2.out.1.1.2); have q5 := cell_row (i := 1) (K2.out.1.1.2); have q6 := cell_row (i := 2) (K2.out.1.1.2); have q7 := cell_row (i := 3) (K2.out.1.1.2); clear hb))
  clear q1 q4 q5 q6 q7 q10 q11
  clear K K2 K8
  have q14 := cell_row (i := 0) (K12.out.1.1.1.1.2)
  have q15 := cell_row (i := 0) (K12.out.1.1.1.2)
  have q16 := cell_row (i := 1) (K12.out.1.1.1.2)
  have q17 := cell_row (i := 0) (K12.out.1.1.2)
  have q18 := cell_row (i := 1) (K12.out.1.1.2)
  have q19 := cell_row (i := 2) (K12.out.1.1.2)
  have q20 := cell_row (i := 3) (K12.out.1.1.2)
  go_upto_region 4 with (go_at_call 46; have _t := K12; clear _t; refine (HC.out.1 _ K12.out.1.2.2.2.1 K12.out.1.2.1 K12.out.1.2.2.1).mono ?_; rintro e w22 ⟨rfl, hb⟩; have K21 := Lib.hid (K12.out.on hb); clear hb)
  clear q14 q15 q16 q17 q18 q19 q20
  clear K12
  have q23 := cell_row (i := 0) (K21.out.1.1.1.1.2)
  have q24 := cell_row (i := 0) (K21.out.1.1.1.2)
  have q25 := cell_row (i := 1) (K21.out.1.1.1.2)
  have q26 := cell_row (i := 0) (K21.out.1.1.2)
  have q27 := cell_row (i := 1) (K21.out.1.1.2)
  have q28 := cell_row (i := 2) (K21.out.1.1.2)
  have q29 := cell_row (i := 3) (K21.out.1.1.2)
  go_upto_region 5 with (go_at_call 47; have _t := K21; clear _t; refine (HC.out.2.1 _ K21.out.1.2.2.2.1 K21.out.1.2.1 K21.out.1.2.2.1).mono ?_; rintro e w31 ⟨rfl, hb⟩; have K30 := Lib.hid (K21.out.on hb); clear hb)
  clear q23 q24 q25 q26 q27 q28 q29
  clear K21
  have KX := Lib.hid (K30.out.on ((Below.refl _ w31).drew))
  clear K30
  refine wp_region_K (by kernel_rfl) (casS w.heap.size (w.heap.size + 1) (.slice A1 ws.length c1) (.slice cs.A0 cs.ri.length cs.c0) (.slice cs.A1 cs.bo.length cs.c1)) (fun _ _ => true) ?_
  generalize w31.drew = X0 at *
  have s0 : casS w.heap.size (w.heap.size + 1) (.slice A1 ws.length c1) (.slice cs.A0 cs.ri.length cs.c0) (.slice cs.A1 cs.bo.length cs.c1) 0 X0 := cell_row (i := 0) (KX.out.1.1.1.1.2)
  have s1 : casS w.heap.size (w.heap.size + 1) (.slice A1 ws.length c1) (.slice cs.A0 cs.ri.length cs.c0) (.slice cs.A1 cs.bo.length cs.c1) 1 X0 := ⟨cell_row (i := 0) (KX.out.1.1.1.2), cell_row (i := 1) (KX.out.1.1.1.2)⟩
  refine wpAnyK_ready (rs := [0]) (by kernel_rfl) (by simp) (AllK.consL rfl (by rfl) (fun K hK => ?_) AllK.nil)
  go_simp
  refine (sanity_any X0).mono ?_
  rintro e X1 ⟨rfl, hb⟩
  dsimp only
  refine hK.out _ _ (fun k _ h => casS_on hb h) ?_
  have KA := Lib.hid (KX.out.on hb)
  replace s0 := casS_on hb s0
  replace s1 := casS_on hb s1
  clear hK hb KX
  refine kt 5 (i := 1) (v := ?_) rfl (by kernel_rfl) (fun _ _ _ h => h) (by first | assumption | trivial) (Or.inl ⟨by rfl, ?_⟩) ?_
  rotate_left
  · intro w hSw; (try dsimp only at hSw); (try change _ = _ at hSw); (try (obtain ⟨_, _⟩ : _ ∧ _ := hSw)); go_simp; (try with_reducible rfl)
  (try go_frame)
  refine kt 0 (i := 2) (v := ?_) rfl (by kernel_rfl) (fun _ _ _ h => h) (by first | assumption | trivial) (Or.inl ⟨by rfl, ?_⟩) ?_
  rotate_left
  · intro w hSw; (try dsimp only at hSw); (try change _ = _ at hSw); (try (obtain ⟨_, _⟩ : _ ∧ _ := hSw)); go_simp; (try with_reducible rfl)
  (try go_frame)
  refine kt 1 (i := 3) (v := ?_) rfl (by kernel_rfl) (fun _ _ _ h => h) (by first | assumption | trivial) (Or.inl ⟨by rfl, ?_⟩) ?_
  rotate_left
  · intro w hSw; (try dsimp only at hSw); (try change _ = _ at hSw); (try (obtain ⟨_, _⟩ : _ ∧ _ := hSw)); go_simp; (try with_reducible rfl)
  (try go_frame)
  refine kt 0 (i := 5) (v := ?_) rfl (by kernel_rfl) (fun _ _ _ h => h) (by first | assumption | trivial) (Or.inl ⟨by rfl, ?_⟩) ?_
  rotate_left
  · intro w hSw; (try dsimp only at hSw); (try change _ = _ at hSw); (try (obtain ⟨_, _⟩ : _ ∧ _ := hSw)); go_simp; (try with_reducible rfl)
  (try go_frame)
  refine kt 1 (i := 6) (v := ?_) rfl (by kernel_rfl) (fun _ _ _ h => h) (by first | assumption | trivial) (Or.inl ⟨by rfl, ?_⟩) ?_
  rotate_left
  · intro w hSw; (try dsimp only at hSw); (try change _ = _ at hSw); (try (obtain ⟨_, _⟩ : _ ∧ _ := hSw)); go_simp; (try with_reducible rfl)
  (try go_frame)
  refine wpAnyK_ready (rs := [4]) (by kernel_rfl) (by simp) (AllK.consL rfl (by rfl) (fun K hK => ?_) AllK.nil)
  go_simp
  refine (HC.out.2.2.1 X1 KA.out.1.2.2.2.1 KA.out.1.2.1).mono ?_
  rintro e X2 ⟨rfl, hb⟩
  dsimp only
  refine hK.out _ _ (fun k _ h => casS_on hb h) ?_
  have KB := Lib.hid (KA.out.on hb)
  replace s0 := casS_on hb s0
  replace s1 := casS_on hb s1
  clear hK hb KA
  refine wpAnyK_ready (rs := [7]) (by kernel_rfl) (by simp) (AllK.consL rfl (by rfl) (fun K hK => ?_) AllK.nil)
  go_simp
  refine (HC.out.2.2.2 X2 KB.out.1.2.2.2.1 KB.out.1.2.1).mono ?_
  rintro e X3 ⟨rfl, hb⟩
  dsimp only
  refine hK.out _ _ (fun k _ h => casS_on hb h) ?_
  have KC := Lib.hid (KB.out.on hb)
  replace s0 := casS_on hb s0
  replace s1 := casS_on hb s1
  clear hK hb KB
  refine kt 5 (i := 8) (v := ?_) rfl (by kernel_rfl) (fun _ _ _ h => h) (by first | assumption | trivial) (Or.inl ⟨by rfl, ?_⟩) ?_
  rotate_left
  · intro w hSw; (try dsimp only at hSw); (try change _ = _ at hSw); (try (obtain ⟨_, _⟩ : _ ∧ _ := hSw)); go_simp; (try with_reducible rfl)
  (try go_frame)
  refine kt 5 (i := 9) (v := ?_) rfl (by kernel_rfl) (fun _ _ _ h => h) (by first | assumption | trivial) (Or.inl ⟨by rfl, ?_⟩) ?_
  rotate_left
  · intro w hSw; (try dsimp only at hSw); (try change _ = _ at hSw); (try (obtain ⟨_, _⟩ : _ ∧ _ := hSw)); go_simp; (try with_reducible rfl)
  (try go_frame)
  refine kt 5 (i := 10) (v := ?_) rfl (by kernel_rfl) (fun _ _ _ h => h) (by first | assumption | trivial) (Or.inl ⟨by rfl, ?_⟩) ?_
  rotate_left
  · intro w hSw; (try dsimp only at hSw); (try change _ = _ at hSw); (try (obtain ⟨_, _⟩ : _ ∧ _ := hSw)); go_simp; (try with_reducible rfl)
  (try go_frame)
  refine kt 5 (i := 11) (v := ?_) rfl (by kernel_rfl) (fun _ _ _ h => h) (by first | assumption | trivial) (Or.inl ⟨by rfl, ?_⟩) ?_
  rotate_left
  · intro w hSw; (try dsimp only at hSw); (try change _ = _ at hSw); (try (obtain ⟨_, _⟩ : _ ∧ _ := hSw)); go_simp; (try with_reducible rfl)
  (try go_frame)
  refine kt 5 (i := 12) (v := ?_) rfl (by kernel_rfl) (fun _ _ _ h => h) (by first | assumption | trivial) (Or.inl ⟨by rfl, ?_⟩) ?_
  rotate_left
  · intro w hSw; (try dsimp only at hSw); (try change _ = _ at hSw); (try (obtain ⟨_, _⟩ : _ ∧ _ := hSw)); go_simp; (try with_reducible rfl)
  (try go_frame)
  refine kt 5 (i := 13) (v := ?_) rfl (by kernel_rfl) (fun _ _ _ h => h) (by first | assumption | trivial) (Or.inl ⟨by rfl, ?_⟩) ?_
  rotate_left
  · intro w hSw; (try dsimp only at hSw); (try change _ = _ at hSw); (try (obtain ⟨_, _⟩ : _ ∧ _ := hSw)); go_simp; (try with_reducible rfl)
  (try go_frame)
  refine kt 5 (i := 14) (v := ?_) rfl (by kernel_rfl) (fun _ _ _ h => h) (by first | assumption | trivial) (Or.inl ⟨by rfl, ?_⟩) ?_
  rotate_left
  · intro w hSw; (try dsimp only at hSw); (try change _ = _ at hSw); (try (obtain ⟨_, _⟩ : _ ∧ _ := hSw)); go_simp; (try with_reducible rfl)
  (try go_frame)
  refine kt 5 (i := 15) (v := ?_) rfl (by kernel_rfl) (fun _ _ _ h => h) (by first | assumption | trivial) (Or.inl ⟨by rfl, ?_⟩) ?_
  rotate_left
  · intro w hSw; (try dsimp only at hSw); (try change _ = _ at hSw); (try (obtain ⟨_, _⟩ : _ ∧ _ := hSw)); go_simp; (try with_reducible rfl)
  (try go_frame)
  refine kt 5 (i := 16) (v := ?_) rfl (by kernel_rfl) (fun _ _ _ h => h) (by first | assumption | trivial) (Or.inl ⟨by rfl, ?_⟩) ?_
  rotate_left
  · intro w hSw; (try dsimp only at hSw); (try change _ = _ at hSw); (try (obtain ⟨_, _⟩ : _ ∧ _ := hSw)); go_simp; (try with_reducible rfl)
  (try go_frame)
  refine kt 5 (i := 17) (v := ?_) rfl (by kernel_rfl) (fun _ _ _ h => h) (by first | assumption | trivial) (Or.inl ⟨by rfl, ?_⟩) ?_
  rotate_left
  · intro w hSw; (try dsimp only at hSw); (try change _ = _ at hSw); (try (obtain ⟨_, _⟩ : _ ∧ _ := hSw)); go_simp; (try with_reducible rfl)
  (try go_frame)
  refine kt 5 (i := 18) (v := ?_) rfl (by kernel_rfl) (fun _ _ _ h => h) (by first | assumption | trivial) (Or.inl ⟨by rfl, ?_⟩) ?_
  rotate_left
  · intro w hSw; (try dsimp only at hSw); (try change _ = _ at hSw); (try (obtain ⟨_, _⟩ : _ ∧ _ := hSw)); go_simp; (try with_reducible rfl)
  (try go_frame)
  refine kt 5 (i := 19) (v := ?_) rfl (by kernel_rfl) (fun _ _ _ h => h) (by first | assumption | trivial) (Or.inl ⟨by rfl, ?_⟩) ?_
  rotate_left
  · intro w hSw; (try dsimp only at hSw); (try change _ = _ at hSw); (try (obtain ⟨_, _⟩ : _ ∧ _ := hSw)); go_simp; (try with_reducible rfl)
  (try go_frame)
  refine kt 5 (i := 20) (v := ?_) rfl (by kernel_rfl) (fun _ _ _ h => h) (by first | assumption | trivial) (Or.inl ⟨by rfl, ?_⟩) ?_
  rotate_left
  · intro w hSw; (try dsimp only at hSw); (try change _ = _ at hSw); (try (obtain ⟨_, _⟩ : _ ∧ _ := hSw)); go_simp; (try with_reducible rfl)
  (try go_frame)
  refine wpAnyK_done (by kernel_rfl) ?_ _
  clear s0 s1
  go_wp2
  go_ret
  exact ⟨rfl, KC.out.1.1.1.1.1⟩
end Go.Proofs.Ytdadoelajhemjaa
