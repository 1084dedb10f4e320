/- Walk: the law CarrierFlows. -/
import Derived.Test.YtdadoelajhemjaaL2
import Derived.Test.YtdadoelajhemjaaC10
namespace Go.Proofs.Ytdadoelajhemjaa
open Go.RowKit Go.Shelf

def flwS (g g1 g7 g8 : Nat) (v u0 u1 u2 u3 x2 x3 x4 x5 : Value) (k : Nat) (X : World) : Prop := match k with
  | 0 => X.cell? ⟨g, 0, none⟩ = some v
  | 1 => X.cell? ⟨g1, 0, none⟩ = some u0 ∧ X.cell? ⟨g1, 1, none⟩ = some u1 ∧ X.cell? ⟨g1, 2, none⟩ = some u2 ∧ X.cell? ⟨g1, 3, none⟩ = some u3
  | 2 => X.cell? ⟨g7, 0, none⟩ = some x2
  | 3 => X.cell? ⟨g7, 1, none⟩ = some x3
  | 4 => X.cell? ⟨g8, 0, none⟩ = some x4
  | 5 => X.cell? ⟨g8, 1, none⟩ = some x5
  | _ => True
theorem flwS_on {g g1 g7 g8 : Nat} {v u0 u1 u2 u3 x2 x3 x4 x5 : Value} {k : Nat} {X Y : World} (hb : Below X.heap.size X Y) (h : flwS g g1 g7 g8 v u0 u1 u2 u3 x2 x3 x4 x5 k X) : flwS g g1 g7 g8 v u0 u1 u2 u3 x2 x3 x4 x5 k Y := by
  have c := fun {a : Addr} {u : Value} (e : X.cell? a = some u) => (hb.cell (p := a) (lt_of_cell e)).trans e
  match k, h with
  | 0, h => exact c h
  | 1, h => exact ⟨c h.1, c h.2.1, c h.2.2.1, c h.2.2.2⟩
  | 2, h => exact c h
  | 3, h => exact c h
  | 4, h => exact c h
  | 5, h => exact c h
  | _ + 6, _ => trivial

set_option maxRecDepth 100000 in
set_option maxHeartbeats 8000000 in
theorem CarrierFlows_row (w : World) (A1 : Option Addr) (c1 : Nat) (ws : List Car) (r0 : WkIn w A1 ws) (s : Wt) (r1 : WtIn w s) :
    Calls Try.prog 4 #[.agg #[.slice A1 ws.length c1], s.v] w fun e w' => e = .returned (.bool true) ∧ Below w.heap.size w w' := by
  show Calls _ _ #[.agg #[.slice A1 ws.length c1], .agg #[.slice s.A0 s.ri.length s.c0, .slice s.A1 s.bo.length s.c1, .slice s.A2 s.lk.length s.c2, .slice s.A3 s.lo.length s.c3]] _ _
  have hb : Below w.heap.size w ((w.alloc (.cells #[.slice A1 ws.length c1] 24)).alloc (.cells #[.slice s.A0 s.ri.length s.c0, .slice s.A1 s.bo.length s.c1, .slice s.A2 s.lk.length s.c2, .slice s.A3 s.lo.length s.c3] 27)) := (((Below.refl _ w).alloc (Nat.le_refl _) _).alloc (by simp) _)
  have K := Lib.hid ((((stays_bl hb).and (stays_blk (g := w.heap.size) (blk_alloc (blk_new w #[.slice A1 ws.length c1] 24 rfl) _))).and (stays_blk (g := w.heap.size + 1) (blk_new (w.alloc (.cells #[.slice A1 ws.length c1] 24)) #[.slice s.A0 s.ri.length s.c0, .slice s.A1 s.bo.length s.c1, .slice s.A2 s.lk.length s.c2, .slice s.A3 s.lo.length s.c3] 27 (by simp)))).and (show Stays (fun _ => True) _ from ⟨trivial, fun _ _ _ _ => trivial⟩))
  replace K := Lib.hid (K.out.push (stays_wkIn (r0.ext hb)))
  replace K := Lib.hid (K.out.push (stays_wtIn (r1.ext hb)))
  clear hb
  cases hf : fewB ws with
  | false =>
    have F0 := Lib.hid hf
    clear hf
    go_enter Try.func4, Try.ntmps4
    go_upto_region 1 with fail
    generalize (w.alloc (.cells #[.slice A1 ws.length c1] 24)).alloc (.cells #[.slice s.A0 s.ri.length s.c0, .slice s.A1 s.bo.length s.c1, .slice s.A2 s.lk.length s.c2, .slice s.A3 s.lo.length s.c3] 27) = W0 at *
    have q1 := cell_row (i := 0) (K.out.1.1.1.2)
    go_wp2_with (first
      | (go_at_call 20; have _t := K2; clear _t; refine (sanity_any _).mono ?_; rintro e w9 ⟨rfl, hb⟩; have K8 := Lib.hid (K2.out.on hb); clear hb)
      | (go_at_call 18; have _t := K; clear _t; refine (few_any A1 c1 ws _ K.out.1.2.2.1).mono ?_; rw [F0.out]; rintro e w3 ⟨rfl, hb⟩; have K2 := Lib.hid (K.out.on hb); have q4 := cell_row (i := 0) (K2.out.1.1.2); have q5 := cell_row (i := 1) (K2.out.1.1.2); have q6 := cell_row (i := 2) (K2.out.1.1.2); have q7 := cell_row (i := 3) (K2.out.1.1.2); clear hb))
    go_ret
    exact ⟨rfl, K8.out.1.1.1.1⟩
  | true =>
  have F0 := Lib.hid hf
  cases hs : wetB s with
  | false =>
    have F1 := Lib.hid hs
    clear hs
    go_enter Try.func4, Try.ntmps4
    go_upto_region 1 with fail
    generalize (w.alloc (.cells #[.slice A1 ws.length c1] 24)).alloc (.cells #[.slice s.A0 s.ri.length s.c0, .slice s.A1 s.bo.length s.c1, .slice s.A2 s.lk.length s.c2, .slice s.A3 s.lo.length s.c3] 27) = W0 at *
    have q1 := cell_row (i := 0) (K.out.1.1.1.2)
    go_wp2_with (first
      | (go_at_call 20; have _t := K8; clear _t; refine (sanity_any _).mono ?_; rintro e w11 ⟨rfl, hb⟩; have K10 := Lib.hid (K8.out.on hb); clear hb)
      | (go_at_call 19; have _t := K2; clear _t; refine (wet_any s _ K2.out.1.2.1).mono ?_; rw [F1.out]; rintro e w9 ⟨rfl, hb⟩; have K8 := Lib.hid (K2.out.on hb); clear hb)
      | (go_at_call 18; have _t := K; clear _t; refine (few_any A1 c1 ws _ K.out.1.2.2.1).mono ?_; rw [F0.out]; rintro e w3 ⟨rfl, hb⟩; have K2 := Lib.hid (K.out.on hb); have q4 := cell_row (i := 0) (K2.out.1.1.2); have q5 := cell_row (i := 1) (K2.out.1.1.2); have q6 := cell_row (i := 2) (K2.out.1.1.2); have q7 := cell_row (i := 3) (K2.out.1.1.2); clear hb))
    go_ret
    exact ⟨rfl, K10.out.1.1.1.1⟩
  | true =>
  have F1 := Lib.hid hs
  have hbw : Below w.heap.size w _ := K.out.1.1.1.1
  have hk := few_wk r0 hf
  have hws := wetB_ok r1 hs
  clear hf hs
  replace K := Lib.hid (K.out.push (stays_wk (hk.ext hbw)))
  replace K := Lib.hid (K.out.push (stays_wet (hws.ext hbw)))
  have hm1 : (flowsO ws s).length ≤ 1000 := by
    unfold flowsO
    by_cases h : cwE ws s = 0
    · rw [if_pos h]; have := hk.n2; simp; omega
    · rw [if_neg h]; simp
  have hm2 : (tailsO ws s).length ≤ 1000 := by
    unfold tailsO
    by_cases h : cwE ws s = 0
    · rw [if_pos h]; have := hk.n1; simp; omega
    · rw [if_neg h]; simp
  clear hbw hk hws
  have hF := fun W hk hs => Flow_any A1 c1 ws s W hk hs
  have hT := fun W hk hs => Tails_any A1 c1 ws s W hk hs
  have hL := fun W hk hs => Lost_any A1 c1 ws s W hk hs
  have rF := fun W hk hs => rFlowI_any A1 c1 ws s W hk hs
  have rT := fun W hk hs => rTails_any A1 c1 ws s W hk hs
  have rL := fun W hk hs => rLost_any A1 c1 ws s W hk hs
  have hC := fun W hk hs => CheckWater_any A1 c1 ws s W hk hs
  have rC := fun W hk hs => rCheckWater_any A1 c1 ws s W hk hs
  generalize flowsO ws s = F at *
  generalize tailsO ws s = T at *
  generalize lostO ws s = n at *
  generalize cwE ws s = E at *
  have HC := Lib.hid (And.intro hF (And.intro hT (And.intro hL (And.intro rF (And.intro rT (And.intro rL (And.intro hC rC)))))))
  clear hF hT hL rF rT rL hC rC
  go_enter Try.func4, Try.ntmps4
  go_upto_region 1 with fail
  generalize (w.alloc (.cells #[.slice A1 ws.length c1] 24)).alloc (.cells #[.slice s.A0 s.ri.length s.c0, .slice s.A1 s.bo.length s.c1, .slice s.A2 s.lk.length s.c2, .slice s.A3 s.lo.length s.c3] 27) = W0 at *
  have q1 := cell_row (i := 0) (K.out.1.1.1.2)
  go_upto_region 3 with (first
    | (go_at_call 19; have _t := K2; clear _t; refine (wet_any s _ K2.out.1.2.2.2.1).mono ?_; rw [F1.out]; rintro e w9 ⟨rfl, hb⟩; have K8 := Lib.hid (K2.out.on hb); clear hb)
    | (go_at_call 18; have _t := K; clear _t; refine (few_any A1 c1 ws _ K.out.1.2.2.2.2.1).mono ?_; rw [F0.out]; rintro e w3 ⟨rfl, hb⟩; have K2 := Lib.hid (K.out.on hb); have q4 := cell_row (i := 0) (K2.out.1.1.2); have q5 := cell_row (i := 1) (K2.out.1.1.2); have q6 := cell_row (i := 2) (K2.out.1.1.2); have q7 := cell_row (i := 3) (K2.out.1.1.2); clear hb))
  clear q1 q4 q5 q6 q7
  clear K K2
  have q10 := cell_row (i := 0) (K8.out.1.1.1.2)
  have q11 := cell_row (i := 0) (K8.out.1.1.2)
  have q12 := cell_row (i := 1) (K8.out.1.1.2)
  have q13 := cell_row (i := 2) (K8.out.1.1.2)
  have q14 := cell_row (i := 3) (K8.out.1.1.2)
  go_upto_region 4 with (go_at_call 21; have _t := K8; clear _t; refine (HC.out.1 _ K8.out.1.2.2.1 K8.out.1.2.1).mono ?_; rintro e w16 ⟨A4, c4, rfl, hr, -, hb⟩; have K15 := Lib.hid ((K8.out.on hb).push (stays_rd hr)); clear hr; clear hb)
  clear q10 q11 q12 q13 q14
  clear K8
  have q17 := cell_row (i := 0) (K15.out.1.1.1.2)
  have q18 := cell_row (i := 0) (K15.out.1.1.2)
  have q19 := cell_row (i := 1) (K15.out.1.1.2)
  have q20 := cell_row (i := 2) (K15.out.1.1.2)
  have q21 := cell_row (i := 3) (K15.out.1.1.2)
  go_upto_region 5 with (go_at_call 24; have _t := K15; clear _t; refine (HC.out.2.2.2.1 _ K15.out.1.2.2.2.1 K15.out.1.2.2.1).mono ?_; rintro e w23 ⟨A5, c5, rfl, hr, hb⟩; have K22 := Lib.hid ((K15.out.on hb).push (stays_rd hr)); clear hr; clear hb)
  clear q17 q18 q19 q20 q21
  clear K15
  have K24 := Lib.hid ((K22.out.on ((Below.refl _ w23).alloc (Nat.le_refl _) (.cells #[.slice A5 F.length c5, .int .i64 E] 45))).push (stays_blk (blk_new w23 #[.slice A5 F.length c5, .int .i64 E] 45 rfl)))
  generalize w23.alloc (.cells #[.slice A5 F.length c5, .int .i64 E] 45) = w25 at *
  generalize w23.heap.size = g7 at *
  clear K22
  have q26 := cell_row (i := 0) (K24.out.1.1.1.2)
  have q27 := cell_row (i := 0) (K24.out.1.1.2)
  have q28 := cell_row (i := 1) (K24.out.1.1.2)
  have q29 := cell_row (i := 2) (K24.out.1.1.2)
  have q30 := cell_row (i := 3) (K24.out.1.1.2)
  go_upto_region 6 with (go_at_call 22; have _t := K24; clear _t; refine (HC.out.2.1 _ K24.out.1.2.2.2.2.2.1 K24.out.1.2.2.2.2.1).mono ?_; rintro e w32 ⟨A6, c6, rfl, hr, -, hb⟩; have K31 := Lib.hid ((K24.out.on hb).push (stays_rd hr)); clear hr; clear hb)
  clear q26 q27 q28 q29 q30
  clear K24
  have q33 := cell_row (i := 0) (K31.out.1.1.1.2)
  have q34 := cell_row (i := 0) (K31.out.1.1.2)
  have q35 := cell_row (i := 1) (K31.out.1.1.2)
  have q36 := cell_row (i := 2) (K31.out.1.1.2)
  have q37 := cell_row (i := 3) (K31.out.1.1.2)
  go_upto_region 7 with (go_at_call 25; have _t := K31; clear _t; refine (HC.out.2.2.2.2.1 _ K31.out.1.2.2.2.2.2.2.1 K31.out.1.2.2.2.2.2.1).mono ?_; rintro e w39 ⟨A7, c7, rfl, hr, hb⟩; have K38 := Lib.hid ((K31.out.on hb).push (stays_rd hr)); clear hr; clear hb)
  clear q33 q34 q35 q36 q37
  clear K31
  have K40 := Lib.hid ((K38.out.on ((Below.refl _ w39).alloc (Nat.le_refl _) (.cells #[.slice A7 T.length c7, .int .i64 E] 45))).push (stays_blk (blk_new w39 #[.slice A7 T.length c7, .int .i64 E] 45 rfl)))
  generalize w39.alloc (.cells #[.slice A7 T.length c7, .int .i64 E] 45) = w41 at *
  generalize w39.heap.size = g8 at *
  clear K38
  have q42 := cell_row (i := 0) (K40.out.1.1.1.2)
  have q43 := cell_row (i := 0) (K40.out.1.1.2)
  have q44 := cell_row (i := 1) (K40.out.1.1.2)
  have q45 := cell_row (i := 2) (K40.out.1.1.2)
  have q46 := cell_row (i := 3) (K40.out.1.1.2)
  go_upto_region 8 with (go_at_call 23; have _t := K40; clear _t; refine (HC.out.2.2.1 _ K40.out.1.2.2.2.2.2.2.2.2.1 K40.out.1.2.2.2.2.2.2.2.1).mono ?_; rintro e w48 ⟨rfl, hb⟩; have K47 := Lib.hid (K40.out.on hb); clear hb)
  clear q42 q43 q44 q45 q46
  clear K40
  have q49 := cell_row (i := 0) (K47.out.1.1.1.2)
  have q50 := cell_row (i := 0) (K47.out.1.1.2)
  have q51 := cell_row (i := 1) (K47.out.1.1.2)
  have q52 := cell_row (i := 2) (K47.out.1.1.2)
  have q53 := cell_row (i := 3) (K47.out.1.1.2)
  go_upto_region 9 with (go_at_call 26; have _t := K47; clear _t; refine (HC.out.2.2.2.2.2.1 _ K47.out.1.2.2.2.2.2.2.2.2.1 K47.out.1.2.2.2.2.2.2.2.1).mono ?_; rintro e w55 ⟨rfl, hb⟩; have K54 := Lib.hid (K47.out.on hb); clear hb)
  clear q49 q50 q51 q52 q53
  clear K47
  have KX := Lib.hid (K54.out.on ((Below.refl _ w55).drew))
  clear K54
  refine wp_region_K (by kernel_rfl) (flwS w.heap.size (w.heap.size + 1) g7 g8 (.slice A1 ws.length c1) (.slice s.A0 s.ri.length s.c0) (.slice s.A1 s.bo.length s.c1) (.slice s.A2 s.lk.length s.c2) (.slice s.A3 s.lo.length s.c3) (.slice A5 F.length c5) (.int .i64 E) (.slice A7 T.length c7) (.int .i64 E)) (fun _ _ => true) ?_
  generalize w55.drew = X0 at *
  have s0 : flwS w.heap.size (w.heap.size + 1) g7 g8 (.slice A1 ws.length c1) (.slice s.A0 s.ri.length s.c0) (.slice s.A1 s.bo.length s.c1) (.slice s.A2 s.lk.length s.c2) (.slice s.A3 s.lo.length s.c3) (.slice A5 F.length c5) (.int .i64 E) (.slice A7 T.length c7) (.int .i64 E) 0 X0 := cell_row (i := 0) (KX.out.1.1.1.2)
  have s1 : flwS w.heap.size (w.heap.size + 1) g7 g8 (.slice A1 ws.length c1) (.slice s.A0 s.ri.length s.c0) (.slice s.A1 s.bo.length s.c1) (.slice s.A2 s.lk.length s.c2) (.slice s.A3 s.lo.length s.c3) (.slice A5 F.length c5) (.int .i64 E) (.slice A7 T.length c7) (.int .i64 E) 1 X0 := ⟨cell_row (i := 0) (KX.out.1.1.2), cell_row (i := 1) (KX.out.1.1.2), cell_row (i := 2) (KX.out.1.1.2), cell_row (i := 3) (KX.out.1.1.2)⟩
  have s2 : flwS w.heap.size (w.heap.size + 1) g7 g8 (.slice A1 ws.length c1) (.slice s.A0 s.ri.length s.c0) (.slice s.A1 s.bo.length s.c1) (.slice s.A2 s.lk.length s.c2) (.slice s.A3 s.lo.length s.c3) (.slice A5 F.length c5) (.int .i64 E) (.slice A7 T.length c7) (.int .i64 E) 2 X0 := cell_row (i := 0) (KX.out.1.2.2.2.2.1)
  have s3 : flwS w.heap.size (w.heap.size + 1) g7 g8 (.slice A1 ws.length c1) (.slice s.A0 s.ri.length s.c0) (.slice s.A1 s.bo.length s.c1) (.slice s.A2 s.lk.length s.c2) (.slice s.A3 s.lo.length s.c3) (.slice A5 F.length c5) (.int .i64 E) (.slice A7 T.length c7) (.int .i64 E) 3 X0 := cell_row (i := 1) (KX.out.1.2.2.2.2.1)
  have s4 : flwS w.heap.size (w.heap.size + 1) g7 g8 (.slice A1 ws.length c1) (.slice s.A0 s.ri.length s.c0) (.slice s.A1 s.bo.length s.c1) (.slice s.A2 s.lk.length s.c2) (.slice s.A3 s.lo.length s.c3) (.slice A5 F.length c5) (.int .i64 E) (.slice A7 T.length c7) (.int .i64 E) 4 X0 := cell_row (i := 0) (KX.out.1.2.1)
  have s5 : flwS w.heap.size (w.heap.size + 1) g7 g8 (.slice A1 ws.length c1) (.slice s.A0 s.ri.length s.c0) (.slice s.A1 s.bo.length s.c1) (.slice s.A2 s.lk.length s.c2) (.slice s.A3 s.lo.length s.c3) (.slice A5 F.length c5) (.int .i64 E) (.slice A7 T.length c7) (.int .i64 E) 5 X0 := cell_row (i := 1) (KX.out.1.2.1)
  refine wpAnyK_ready (rs := [0]) (by kernel_rfl) (by simp) (AllK.consL rfl (by rfl) (fun K hK => ?_) AllK.nil)
  go_simp
  refine (sanity_any X0).mono ?_
  rintro e X1 ⟨rfl, hb⟩
  dsimp only
  refine hK.out _ _ (fun k _ h => flwS_on hb h) ?_
  have KA := Lib.hid (KX.out.on hb)
  replace s0 := flwS_on hb s0
  replace s1 := flwS_on hb s1
  replace s2 := flwS_on hb s2
  replace s3 := flwS_on hb s3
  replace s4 := flwS_on hb s4
  replace s5 := flwS_on hb s5
  clear hK hb KX
  refine kt 6 (i := 1) (v := ?_) rfl (by kernel_rfl) (fun _ _ _ h => h) (by first | assumption | trivial) (Or.inl ⟨by rfl, ?_⟩) ?_
  rotate_left
  · intro w hSw; (try dsimp only at hSw); (try change _ = _ at hSw); (try (obtain ⟨_, _⟩ : _ ∧ _ := hSw)); go_simp; (try with_reducible rfl)
  (try go_frame)
  refine kt 0 (i := 2) (v := ?_) rfl (by kernel_rfl) (fun _ _ _ h => h) (by first | assumption | trivial) (Or.inl ⟨by rfl, ?_⟩) ?_
  rotate_left
  · intro w hSw; (try dsimp only at hSw); (try change _ = _ at hSw); (try (obtain ⟨_, _⟩ : _ ∧ _ := hSw)); go_simp; (try with_reducible rfl)
  (try go_frame)
  refine kt 1 (i := 3) (v := ?_) rfl (by kernel_rfl) (fun _ _ _ h => h) (by first | assumption | trivial) (Or.inl ⟨by rfl, ?_⟩) ?_
  rotate_left
  · intro w hSw; (try dsimp only at hSw); (try change _ = _ at hSw); (try (obtain ⟨_, _⟩ : _ ∧ _ := hSw)); go_simp; (try with_reducible rfl)
  (try go_frame)
  refine kt 0 (i := 5) (v := ?_) rfl (by kernel_rfl) (fun _ _ _ h => h) (by first | assumption | trivial) (Or.inl ⟨by rfl, ?_⟩) ?_
  rotate_left
  · intro w hSw; (try dsimp only at hSw); (try change _ = _ at hSw); (try (obtain ⟨_, _⟩ : _ ∧ _ := hSw)); go_simp; (try with_reducible rfl)
  (try go_frame)
  refine kt 1 (i := 6) (v := ?_) rfl (by kernel_rfl) (fun _ _ _ h => h) (by first | assumption | trivial) (Or.inl ⟨by rfl, ?_⟩) ?_
  rotate_left
  · intro w hSw; (try dsimp only at hSw); (try change _ = _ at hSw); (try (obtain ⟨_, _⟩ : _ ∧ _ := hSw)); go_simp; (try with_reducible rfl)
  (try go_frame)
  refine wpAnyK_ready (rs := [4]) (by kernel_rfl) (by simp) (AllK.consL rfl (by rfl) (fun K hK => ?_) AllK.nil)
  go_simp
  refine (HC.out.2.2.2.2.2.2.1 X1 KA.out.1.2.2.2.2.2.2.2.2.1 KA.out.1.2.2.2.2.2.2.2.1).mono ?_
  rintro e X2 ⟨rfl, hb⟩
  dsimp only
  refine hK.out _ _ (fun k _ h => flwS_on hb h) ?_
  have KB := Lib.hid (KA.out.on hb)
  replace s0 := flwS_on hb s0
  replace s1 := flwS_on hb s1
  replace s2 := flwS_on hb s2
  replace s3 := flwS_on hb s3
  replace s4 := flwS_on hb s4
  replace s5 := flwS_on hb s5
  clear hK hb KA
  refine wpAnyK_ready (rs := [7]) (by kernel_rfl) (by simp) (AllK.consL rfl (by rfl) (fun K hK => ?_) AllK.nil)
  go_simp
  refine (HC.out.2.2.2.2.2.2.2 X2 KB.out.1.2.2.2.2.2.2.2.2.1 KB.out.1.2.2.2.2.2.2.2.1).mono ?_
  rintro e X3 ⟨rfl, hb⟩
  dsimp only
  refine hK.out _ _ (fun k _ h => flwS_on hb h) ?_
  have KC := Lib.hid (KB.out.on hb)
  replace s0 := flwS_on hb s0
  replace s1 := flwS_on hb s1
  replace s2 := flwS_on hb s2
  replace s3 := flwS_on hb s3
  replace s4 := flwS_on hb s4
  replace s5 := flwS_on hb s5
  clear hK hb KB
  refine kt 6 (i := 8) (v := ?_) rfl (by kernel_rfl) (fun _ _ _ h => h) (by first | assumption | trivial) (Or.inl ⟨by rfl, ?_⟩) ?_
  rotate_left
  · intro w hSw; (try dsimp only at hSw); (try change _ = _ at hSw); (try (obtain ⟨_, _⟩ : _ ∧ _ := hSw)); go_simp; (try with_reducible rfl)
  (try go_frame)
  refine kt 6 (i := 9) (v := ?_) rfl (by kernel_rfl) (fun _ _ _ h => h) (by first | assumption | trivial) (Or.inl ⟨by rfl, ?_⟩) ?_
  rotate_left
  · intro w hSw; (try dsimp only at hSw); (try change _ = _ at hSw); (try (obtain ⟨_, _⟩ : _ ∧ _ := hSw)); go_simp; (try with_reducible rfl)
  (try go_frame)
  refine kt 6 (i := 10) (v := ?_) rfl (by kernel_rfl) (fun _ _ _ h => h) (by first | assumption | trivial) (Or.inl ⟨by rfl, ?_⟩) ?_
  rotate_left
  · intro w hSw; (try dsimp only at hSw); (try change _ = _ at hSw); (try (obtain ⟨_, _⟩ : _ ∧ _ := hSw)); go_simp; (try with_reducible rfl)
  (try go_frame)
  refine kt 6 (i := 11) (v := ?_) rfl (by kernel_rfl) (fun _ _ _ h => h) (by first | assumption | trivial) (Or.inl ⟨by rfl, ?_⟩) ?_
  rotate_left
  · intro w hSw; (try dsimp only at hSw); (try change _ = _ at hSw); (try (obtain ⟨_, _⟩ : _ ∧ _ := hSw)); go_simp; (try with_reducible rfl)
  (try go_frame)
  refine kt 6 (i := 12) (v := ?_) rfl (by kernel_rfl) (fun _ _ _ h => h) (by first | assumption | trivial) (Or.inl ⟨by rfl, ?_⟩) ?_
  rotate_left
  · intro w hSw; (try dsimp only at hSw); (try change _ = _ at hSw); (try (obtain ⟨_, _⟩ : _ ∧ _ := hSw)); go_simp; (try with_reducible rfl)
  (try go_frame)
  refine kt 2 (i := 13) (v := ?_) rfl (by kernel_rfl) (fun _ _ _ h => h) (by first | assumption | trivial) (Or.inl ⟨by rfl, ?_⟩) ?_
  rotate_left
  · intro w hSw; (try dsimp only at hSw); (try change _ = _ at hSw); (try (obtain ⟨_, _⟩ : _ ∧ _ := hSw)); go_simp; (try with_reducible rfl)
  (try go_frame)
  refine wpAnyK_ready (rs := [14]) (by kernel_rfl) (by simp) (AllK.consL rfl (by rfl) (fun K hK => ?_) AllK.nil)
  go_simp
  refine (same_yes A4 A5 c4 c5 F X3 KC.out.1.2.2.2.2.2.2.1 KC.out.1.2.2.2.2.2.1 hm1).mono ?_
  rintro e X4 ⟨rfl, hb⟩
  dsimp only
  refine hK.out _ _ (fun k _ h => flwS_on hb h) ?_
  have KD := Lib.hid (KC.out.on hb)
  replace s0 := flwS_on hb s0
  replace s1 := flwS_on hb s1
  replace s2 := flwS_on hb s2
  replace s3 := flwS_on hb s3
  replace s4 := flwS_on hb s4
  replace s5 := flwS_on hb s5
  clear hK hb KC
  refine kt 6 (i := 15) (v := ?_) rfl (by kernel_rfl) (fun _ _ _ h => h) (by first | assumption | trivial) (Or.inl ⟨by rfl, ?_⟩) ?_
  rotate_left
  · intro w hSw; (try dsimp only at hSw); (try change _ = _ at hSw); (try (obtain ⟨_, _⟩ : _ ∧ _ := hSw)); go_simp; (try with_reducible rfl)
  (try go_frame)
  refine kt 6 (i := 16) (v := ?_) rfl (by kernel_rfl) (fun _ _ _ h => h) (by first | assumption | trivial) (Or.inl ⟨by rfl, ?_⟩) ?_
  rotate_left
  · intro w hSw; (try dsimp only at hSw); (try change _ = _ at hSw); (try (obtain ⟨_, _⟩ : _ ∧ _ := hSw)); go_simp; (try with_reducible rfl)
  (try go_frame)
  refine kt 6 (i := 17) (v := ?_) rfl (by kernel_rfl) (fun _ _ _ h => h) (by first | assumption | trivial) (Or.inl ⟨by rfl, ?_⟩) ?_
  rotate_left
  · intro w hSw; (try dsimp only at hSw); (try change _ = _ at hSw); (try (obtain ⟨_, _⟩ : _ ∧ _ := hSw)); go_simp; (try with_reducible rfl)
  (try go_frame)
  refine kt 6 (i := 18) (v := ?_) rfl (by kernel_rfl) (fun _ _ _ h => h) (by first | assumption | trivial) (Or.inl ⟨by rfl, ?_⟩) ?_
  rotate_left
  · intro w hSw; (try dsimp only at hSw); (try change _ = _ at hSw); (try (obtain ⟨_, _⟩ : _ ∧ _ := hSw)); go_simp; (try with_reducible rfl)
  (try go_frame)
  refine kt 3 (i := 19) (v := ?_) rfl (by kernel_rfl) (fun _ _ _ h => h) (by first | assumption | trivial) (Or.inl ⟨by rfl, ?_⟩) ?_
  rotate_left
  · intro w hSw; (try dsimp only at hSw); (try change _ = _ at hSw); (try (obtain ⟨_, _⟩ : _ ∧ _ := hSw)); go_simp; (try with_reducible rfl)
  (try go_frame)
  refine kt 6 (i := 20) (v := ?_) rfl (by kernel_rfl) (fun _ _ _ h => h) (by first | assumption | trivial) (Or.inl ⟨by rfl, ?_⟩) ?_
  rotate_left
  · intro w hSw; (try dsimp only at hSw); (try change _ = _ at hSw); (try (obtain ⟨_, _⟩ : _ ∧ _ := hSw)); go_simp; (try with_reducible rfl)
  (try go_frame)
  refine kt 6 (i := 21) (v := ?_) rfl (by kernel_rfl) (fun _ _ _ h => h) (by first | assumption | trivial) (Or.inl ⟨by rfl, ?_⟩) ?_
  rotate_left
  · intro w hSw; (try dsimp only at hSw); (try change _ = _ at hSw); (try (obtain ⟨_, _⟩ : _ ∧ _ := hSw)); go_simp; (try with_reducible rfl)
  (try go_frame)
  refine kt 6 (i := 22) (v := ?_) rfl (by kernel_rfl) (fun _ _ _ h => h) (by first | assumption | trivial) (Or.inl ⟨by rfl, ?_⟩) ?_
  rotate_left
  · intro w hSw; (try dsimp only at hSw); (try change _ = _ at hSw); (try (obtain ⟨_, _⟩ : _ ∧ _ := hSw)); go_simp; (try with_reducible rfl)
  (try go_frame)
  refine kt 6 (i := 23) (v := ?_) rfl (by kernel_rfl) (fun _ _ _ h => h) (by first | assumption | trivial) (Or.inl ⟨by rfl, ?_⟩) ?_
  rotate_left
  · intro w hSw; (try dsimp only at hSw); (try change _ = _ at hSw); (try (obtain ⟨_, _⟩ : _ ∧ _ := hSw)); go_simp; (try with_reducible rfl)
  (try go_frame)
  refine kt 6 (i := 24) (v := ?_) rfl (by kernel_rfl) (fun _ _ _ h => h) (by first | assumption | trivial) (Or.inl ⟨by rfl, ?_⟩) ?_
  rotate_left
  · intro w hSw; (try dsimp only at hSw); (try change _ = _ at hSw); (try (obtain ⟨_, _⟩ : _ ∧ _ := hSw)); go_simp; (try with_reducible rfl)
  (try go_frame)
  refine kt 4 (i := 25) (v := ?_) rfl (by kernel_rfl) (fun _ _ _ h => h) (by first | assumption | trivial) (Or.inl ⟨by rfl, ?_⟩) ?_
  rotate_left
  · intro w hSw; (try dsimp only at hSw); (try change _ = _ at hSw); (try (obtain ⟨_, _⟩ : _ ∧ _ := hSw)); go_simp; (try with_reducible rfl)
  (try go_frame)
  refine wpAnyK_ready (rs := [26]) (by kernel_rfl) (by simp) (AllK.consL rfl (by rfl) (fun K hK => ?_) AllK.nil)
  go_simp
  refine (same_yes A6 A7 c6 c7 T X4 KD.out.1.2.2.2.1 KD.out.1.2.2.1 hm2).mono ?_
  rintro e X5 ⟨rfl, hb⟩
  dsimp only
  refine hK.out _ _ (fun k _ h => flwS_on hb h) ?_
  have KE := Lib.hid (KD.out.on hb)
  replace s0 := flwS_on hb s0
  replace s1 := flwS_on hb s1
  replace s2 := flwS_on hb s2
  replace s3 := flwS_on hb s3
  replace s4 := flwS_on hb s4
  replace s5 := flwS_on hb s5
  clear hK hb KD
  refine kt 6 (i := 27) (v := ?_) rfl (by kernel_rfl) (fun _ _ _ h => h) (by first | assumption | trivial) (Or.inl ⟨by rfl, ?_⟩) ?_
  rotate_left
  · intro w hSw; (try dsimp only at hSw); (try change _ = _ at hSw); (try (obtain ⟨_, _⟩ : _ ∧ _ := hSw)); go_simp; (try with_reducible rfl)
  (try go_frame)
  refine kt 6 (i := 28) (v := ?_) rfl (by kernel_rfl) (fun _ _ _ h => h) (by first | assumption | trivial) (Or.inl ⟨by rfl, ?_⟩) ?_
  rotate_left
  · intro w hSw; (try dsimp only at hSw); (try change _ = _ at hSw); (try (obtain ⟨_, _⟩ : _ ∧ _ := hSw)); go_simp; (try with_reducible rfl)
  (try go_frame)
  refine kt 6 (i := 29) (v := ?_) rfl (by kernel_rfl) (fun _ _ _ h => h) (by first | assumption | trivial) (Or.inl ⟨by rfl, ?_⟩) ?_
  rotate_left
  · intro w hSw; (try dsimp only at hSw); (try change _ = _ at hSw); (try (obtain ⟨_, _⟩ : _ ∧ _ := hSw)); go_simp; (try with_reducible rfl)
  (try go_frame)
  refine kt 6 (i := 30) (v := ?_) rfl (by kernel_rfl) (fun _ _ _ h => h) (by first | assumption | trivial) (Or.inl ⟨by rfl, ?_⟩) ?_
  rotate_left
  · intro w hSw; (try dsimp only at hSw); (try change _ = _ at hSw); (try (obtain ⟨_, _⟩ : _ ∧ _ := hSw)); go_simp; (try with_reducible rfl)
  (try go_frame)
  refine kt 5 (i := 31) (v := ?_) rfl (by kernel_rfl) (fun _ _ _ h => h) (by first | assumption | trivial) (Or.inl ⟨by rfl, ?_⟩) ?_
  rotate_left
  · intro w hSw; (try dsimp only at hSw); (try change _ = _ at hSw); (try (obtain ⟨_, _⟩ : _ ∧ _ := hSw)); go_simp; (try with_reducible rfl)
  (try go_frame)
  refine kt 6 (i := 32) (v := ?_) rfl (by kernel_rfl) (fun _ _ _ h => h) (by first | assumption | trivial) (Or.inl ⟨by rfl, ?_⟩) ?_
  rotate_left
  · intro w hSw; (try dsimp only at hSw); (try change _ = _ at hSw); (try (obtain ⟨_, _⟩ : _ ∧ _ := hSw)); go_simp; (try with_reducible rfl)
  (try go_frame)
  refine kt 6 (i := 33) (v := ?_) rfl (by kernel_rfl) (fun _ _ _ h => h) (by first | assumption | trivial) (Or.inl ⟨by rfl, ?_⟩) ?_
  rotate_left
  · intro w hSw; (try dsimp only at hSw); (try change _ = _ at hSw); (try (obtain ⟨_, _⟩ : _ ∧ _ := hSw)); go_simp; (try with_reducible rfl)
  (try go_frame)
  refine kt 6 (i := 34) (v := ?_) rfl (by kernel_rfl) (fun _ _ _ h => h) (by first | assumption | trivial) (Or.inl ⟨by rfl, ?_⟩) ?_
  rotate_left
  · intro w hSw; (try dsimp only at hSw); (try change _ = _ at hSw); (try (obtain ⟨_, _⟩ : _ ∧ _ := hSw)); go_simp; (try with_reducible rfl)
  (try go_frame)
  refine kt 6 (i := 35) (v := ?_) rfl (by kernel_rfl) (fun _ _ _ h => h) (by first | assumption | trivial) (Or.inl ⟨by rfl, ?_⟩) ?_
  rotate_left
  · intro w hSw; (try dsimp only at hSw); (try change _ = _ at hSw); (try (obtain ⟨_, _⟩ : _ ∧ _ := hSw)); go_simp; (try with_reducible rfl)
  (try go_frame)
  refine kt 6 (i := 36) (v := ?_) rfl (by kernel_rfl) (fun _ _ _ h => h) (by first | assumption | trivial) (Or.inl ⟨by rfl, ?_⟩) ?_
  rotate_left
  · intro w hSw; (try dsimp only at hSw); (try change _ = _ at hSw); (try (obtain ⟨_, _⟩ : _ ∧ _ := hSw)); go_simp; (try with_reducible rfl)
  (try go_frame)
  refine kt 6 (i := 37) (v := ?_) rfl (by kernel_rfl) (fun _ _ _ h => h) (by first | assumption | trivial) (Or.inl ⟨by rfl, ?_⟩) ?_
  rotate_left
  · intro w hSw; (try dsimp only at hSw); (try change _ = _ at hSw); (try (obtain ⟨_, _⟩ : _ ∧ _ := hSw)); go_simp; (try with_reducible rfl)
  (try go_frame)
  refine kt 6 (i := 38) (v := ?_) rfl (by kernel_rfl) (fun _ _ _ h => h) (by first | assumption | trivial) (Or.inl ⟨by rfl, ?_⟩) ?_
  rotate_left
  · intro w hSw; (try dsimp only at hSw); (try change _ = _ at hSw); (try (obtain ⟨_, _⟩ : _ ∧ _ := hSw)); go_simp; (try with_reducible rfl)
  (try go_frame)
  refine kt 6 (i := 39) (v := ?_) rfl (by kernel_rfl) (fun _ _ _ h => h) (by first | assumption | trivial) (Or.inl ⟨by rfl, ?_⟩) ?_
  rotate_left
  · intro w hSw; (try dsimp only at hSw); (try change _ = _ at hSw); (try (obtain ⟨_, _⟩ : _ ∧ _ := hSw)); go_simp; (try with_reducible rfl)
  (try go_frame)
  refine kt 6 (i := 40) (v := ?_) rfl (by kernel_rfl) (fun _ _ _ h => h) (by first | assumption | trivial) (Or.inl ⟨by rfl, ?_⟩) ?_
  rotate_left
  · intro w hSw; (try dsimp only at hSw); (try change _ = _ at hSw); (try (obtain ⟨_, _⟩ : _ ∧ _ := hSw)); go_simp; (try with_reducible rfl)
  (try go_frame)
  refine kt 6 (i := 41) (v := ?_) rfl (by kernel_rfl) (fun _ _ _ h => h) (by first | assumption | trivial) (Or.inl ⟨by rfl, ?_⟩) ?_
  rotate_left
  · intro w hSw; (try dsimp only at hSw); (try change _ = _ at hSw); (try (obtain ⟨_, _⟩ : _ ∧ _ := hSw)); go_simp; (try with_reducible rfl)
  (try go_frame)
  refine kt 6 (i := 42) (v := ?_) rfl (by kernel_rfl) (fun _ _ _ h => h) (by first | assumption | trivial) (Or.inl ⟨by rfl, ?_⟩) ?_
  rotate_left
  · intro w hSw; (try dsimp only at hSw); (try change _ = _ at hSw); (try (obtain ⟨_, _⟩ : _ ∧ _ := hSw)); go_simp; (try with_reducible rfl)
  (try go_frame)
  refine kt 6 (i := 43) (v := ?_) rfl (by kernel_rfl) (fun _ _ _ h => h) (by first | assumption | trivial) (Or.inl ⟨by rfl, ?_⟩) ?_
  rotate_left
  · intro w hSw; (try dsimp only at hSw); (try change _ = _ at hSw); (try (obtain ⟨_, _⟩ : _ ∧ _ := hSw)); go_simp; (try with_reducible rfl)
  (try go_frame)
  refine kt 6 (i := 44) (v := ?_) rfl (by kernel_rfl) (fun _ _ _ h => h) (by first | assumption | trivial) (Or.inl ⟨by rfl, ?_⟩) ?_
  rotate_left
  · intro w hSw; (try dsimp only at hSw); (try change _ = _ at hSw); (try (obtain ⟨_, _⟩ : _ ∧ _ := hSw)); go_simp; (try with_reducible rfl)
  (try go_frame)
  refine wpAnyK_done (by kernel_rfl) ?_ _
  clear s0 s1 s2 s3 s4 s5
  go_wp2
  go_ret
  exact ⟨rfl, KE.out.1.1.1.1⟩
end Go.Proofs.Ytdadoelajhemjaa
