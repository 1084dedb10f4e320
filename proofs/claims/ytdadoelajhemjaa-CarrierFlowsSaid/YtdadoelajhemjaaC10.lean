/- Walks: the specification's Flow, Tails, Lost. -/
import Derived.Test.YtdadoelajhemjaaC9
namespace Go.Proofs.Ytdadoelajhemjaa
open Go.RowKit Go.Shelf

theorem field_fl0 (A : Option Addr) (n c : Nat) (B : Option Addr) (m d : Nat) (k : Int) (w : World) : (Instr.field 128 (.agg #[.slice A n c, .slice B m d, .int .i64 k]) 0).run Try.prog w = .ok (.slice A n c) w := by kernel_rfl
theorem field_fl1 (A : Option Addr) (n c : Nat) (B : Option Addr) (m d : Nat) (k : Int) (w : World) : (Instr.field 128 (.agg #[.slice A n c, .slice B m d, .int .i64 k]) 1).run Try.prog w = .ok (.slice B m d) w := by kernel_rfl
theorem field_fl2 (A : Option Addr) (n c : Nat) (B : Option Addr) (m d : Nat) (k : Int) (w : World) : (Instr.field 128 (.agg #[.slice A n c, .slice B m d, .int .i64 k]) 2).run Try.prog w = .ok (.int .i64 k) w := by kernel_rfl
set_option maxRecDepth 100000 in
set_option maxHeartbeats 3200000 in
theorem rFlowI_any (A : Option Addr) (c : Nat) (ws : List Car) (s : Wt) (w : World) (h : Wk w A ws) (hs : Wet w s) :
    Calls Try.prog 24 #[.agg #[.slice A ws.length c], s.v] w fun e w' => ∃ A' c', e = .returned (.agg #[.slice A' (flowsO ws s).length c', .int .i64 (cwE ws s)]) ∧ Rd w' w'.heap.size A' (flowsO ws s) ∧ Below w.heap.size w w' := by
  obtain ⟨A0, B1, A2, A3, d0, d1, d2, d3, ri, bo, lk, lo⟩ := s
  show Calls _ _ #[.agg #[.slice A ws.length c], .agg #[.slice A0 ri.length d0, .slice B1 bo.length d1, .slice A2 lk.length d2, .slice A3 lo.length d3]] _ _
  have hb : Below w.heap.size w (((w.alloc (.cells #[.slice A ws.length c] 24)).alloc (.cells #[.slice A0 ri.length d0, .slice B1 bo.length d1, .slice A2 lk.length d2, .slice A3 lo.length d3] 27)).alloc (.cells #[.slice none 0 0, .int .i64 0] 45)) := (((Below.refl _ w).alloc (Nat.le_refl _) _).alloc (by simp) _).alloc (by simp; omega) _
  have K := Lib.hid (((((stays_bl hb).and (stays_blk (blk_alloc (blk_alloc (blk_new w #[.slice A ws.length c] 24 rfl) _) _))).and (stays_blk (g := w.heap.size + 1) (blk_alloc (blk_new (w.alloc (.cells #[.slice A ws.length c] 24)) #[.slice A0 ri.length d0, .slice B1 bo.length d1, .slice A2 lk.length d2, .slice A3 lo.length d3] 27 (by simp)) _))).and (stays_blk (g := w.heap.size + 1 + 1) (blk_new ((w.alloc (.cells #[.slice A ws.length c] 24)).alloc (.cells #[.slice A0 ri.length d0, .slice B1 bo.length d1, .slice A2 lk.length d2, .slice A3 lo.length d3] 27)) #[.slice none 0 0, .int .i64 0] 45 (by simp)))).and ((stays_wk (h.ext hb)).and (stays_wet (hs.ext hb))))
  have HS := Lib.hid (show w.heap.size + 3 = (((w.alloc (.cells #[.slice A ws.length c] 24)).alloc (.cells #[.slice A0 ri.length d0, .slice B1 bo.length d1, .slice A2 lk.length d2, .slice A3 lo.length d3] 27)).alloc (.cells #[.slice none 0 0, .int .i64 0] 45)).heap.size by simp)
  clear hb h hs
  have HC := Lib.hid (fun W hW hs => rCheckWater_any A c ws ⟨A0, B1, A2, A3, d0, d1, d2, d3, ri, bo, lk, lo⟩ W hW hs)
  by_cases h0 : cwE ws ⟨A0, B1, A2, A3, d0, d1, d2, d3, ri, bo, lk, lo⟩ = 0
  · have hg := cw_good h0
    have HF := Lib.hid (fun W hW hs => rFlow_any A c ws ⟨A0, B1, A2, A3, d0, d1, d2, d3, ri, bo, lk, lo⟩ W hW hs hg.1 hg.2)
    have e1 : flowsO ws ⟨A0, B1, A2, A3, d0, d1, d2, d3, ri, bo, lk, lo⟩ = FLto ws ⟨A0, B1, A2, A3, d0, d1, d2, d3, ri, bo, lk, lo⟩ (outs ws).length := by unfold flowsO; rw [if_pos h0]; rfl
    have e2 : (FLto ws ⟨A0, B1, A2, A3, d0, d1, d2, d3, ri, bo, lk, lo⟩ (outs ws).length).length = (outs ws).length := FLto_length _ _ _
    rw [e1, e2, h0]
    rw [h0] at HC
    clear h0 e1 e2 hg
    go_enter Try.func24, Try.ntmps24
    go_upto_region 1 with fail
    generalize ((w.alloc (.cells #[.slice A ws.length c] 24)).alloc (.cells #[.slice A0 ri.length d0, .slice B1 bo.length d1, .slice A2 lk.length d2, .slice A3 lo.length d3] 27)).alloc (.cells #[.slice none 0 0, .int .i64 0] 45) = W0 at *
    have p0 := cell_row (i := 0) K.out.1.1.1.1.2
    have p1 := cell_row (i := 0) K.out.1.1.1.2
    have p2 := cell_row (i := 1) K.out.1.1.1.2
    have p3 := cell_row (i := 2) K.out.1.1.1.2
    have p4 := cell_row (i := 3) K.out.1.1.1.2
    go_upto_region 4 with (go_at_call 28; refine (HC.out _ K.out.1.2.1 K.out.1.2.2).mono ?_; rintro e w1 ⟨rfl, hb⟩; have HB := Lib.hid hb; have K1 := Lib.hid (K.out.on hb); clear hb)
    clear p0 p1 p2 p3 p4
    have p0 := cell_row (i := 0) K1.out.1.1.1.1.2
    have p1 := cell_row (i := 0) K1.out.1.1.1.2
    have p2 := cell_row (i := 1) K1.out.1.1.1.2
    have p3 := cell_row (i := 2) K1.out.1.1.1.2
    have p4 := cell_row (i := 3) K1.out.1.1.1.2
    generalize LOto ws ⟨A0, B1, A2, A3, d0, d1, d2, d3, ri, bo, lk, lo⟩ (outs ws).length = LN at *
    have qf0 := field_fl0
    have qf1 := field_fl1
    have qf2 := field_fl2
    go_wp2_with (go_at_call 82; refine (HF.out _ K1.out.1.2.1 K1.out.1.2.2).mono ?_; rintro e w9 ⟨A5, c5, A6, c6, rfl, r5, r6, f5, f6, hb⟩; have K2 := Lib.hid (And.intro (K1.out.on hb) (And.intro (And.intro r5 f5) (And.intro r6 f6))); have y0 := cell_row (i := 0) K2.out.1.1.1.2; have y1 := cell_row (i := 1) K2.out.1.1.1.2; have z0 := blk_frozen (i := 0) K2.out.1.1.1.2; have z1 := blk_frozen (i := 1) K2.out.1.1.1.2; clear r5 r6 f5 f6 hb)
    have HFin : Hid (Blk ((w9.setCell ⟨w.heap.size + 1 + 1, 0, none⟩ (.slice A5 (outs ws).length c5)).setCell ⟨w.heap.size + 1 + 1, 1, none⟩ (.int .i64 0)) (w.heap.size + 1 + 1) #[(.slice A5 (outs ws).length c5), .int .i64 0] 45 ∧ (∀ k, k ≠ w.heap.size + 1 + 1 → ((w9.setCell ⟨w.heap.size + 1 + 1, 0, none⟩ (.slice A5 (outs ws).length c5)).setCell ⟨w.heap.size + 1 + 1, 1, none⟩ (.int .i64 0)).heap[k]? = w9.heap[k]?) ∧ Below w.heap.size w ((w9.setCell ⟨w.heap.size + 1 + 1, 0, none⟩ (.slice A5 (outs ws).length c5)).setCell ⟨w.heap.size + 1 + 1, 1, none⟩ (.int .i64 0)) ∧ ((w9.setCell ⟨w.heap.size + 1 + 1, 0, none⟩ (.slice A5 (outs ws).length c5)).setCell ⟨w.heap.size + 1 + 1, 1, none⟩ (.int .i64 0)).heap.size = w9.heap.size) :=
      Lib.hid ⟨blk_set2 K2.out.1.1.1.2 _ _, fun k hk => (Below.heap_setCell _ _ _ _ hk).trans (Below.heap_setCell _ _ _ _ hk), (K2.out.1.1.1.1.1.1.setCell (p := ⟨w.heap.size + 1 + 1, 0, none⟩) (by show w.heap.size ≤ w.heap.size + 1 + 1; omega) _).setCell (p := ⟨w.heap.size + 1 + 1, 1, none⟩) (by show w.heap.size ≤ w.heap.size + 1 + 1; omega) _, by rw [World.size_setCell, World.size_setCell]⟩
    have v0 := cell_row (i := 0) HFin.out.1
    have v1 := cell_row (i := 1) HFin.out.1
    have hr := K2.out.2.1.1.moved (b := w.heap.size + 1 + 1) (K2.out.2.1.2.nb (by have := HS.out; have := HB.out.size; omega)) HFin.out.2.1 (by rw [HFin.out.2.2.2]; exact Nat.le_refl _)
    have HRR := Lib.hid hr
    clear hr y0 y1 z0 z1 p0 p1 p2 p3 p4
    generalize ((w9.setCell ⟨w.heap.size + 1 + 1, 0, none⟩ (.slice A5 (outs ws).length c5)).setCell ⟨w.heap.size + 1 + 1, 1, none⟩ (.int .i64 0)) = wz at *
    exact bodyPost_ret (v := .agg #[.slice A5 (outs ws).length c5, .int .i64 0]) (by simp [results, Try.results24, go_sem, v0, v1]) rfl ⟨A5, c5, rfl, HRR.out, HFin.out.2.2.1⟩
  · have e1 : flowsO ws ⟨A0, B1, A2, A3, d0, d1, d2, d3, ri, bo, lk, lo⟩ = [] := if_neg h0
    rw [e1]
    generalize cwE ws ⟨A0, B1, A2, A3, d0, d1, d2, d3, ri, bo, lk, lo⟩ = E at *
    have hz : (E != 0) = true := by simpa using h0
    clear h0 e1
    go_enter Try.func24, Try.ntmps24
    go_upto_region 1 with fail
    generalize ((w.alloc (.cells #[.slice A ws.length c] 24)).alloc (.cells #[.slice A0 ri.length d0, .slice B1 bo.length d1, .slice A2 lk.length d2, .slice A3 lo.length d3] 27)).alloc (.cells #[.slice none 0 0, .int .i64 0] 45) = W0 at *
    have p0 := cell_row (i := 0) K.out.1.1.1.1.2
    have p1 := cell_row (i := 0) K.out.1.1.1.2
    have p2 := cell_row (i := 1) K.out.1.1.1.2
    have p3 := cell_row (i := 2) K.out.1.1.1.2
    have p4 := cell_row (i := 3) K.out.1.1.1.2
    go_wp2_with (go_at_call 28; refine (HC.out _ K.out.1.2.1 K.out.1.2.2).mono ?_; rintro e w9 ⟨rfl, hb⟩; have K1 := Lib.hid (K.out.on hb); have y0 := cell_row (i := 0) K1.out.1.1.2; have y1 := cell_row (i := 1) K1.out.1.1.2; have z0 := blk_frozen (i := 0) K1.out.1.1.2; have z1 := blk_frozen (i := 1) K1.out.1.1.2; clear hb)
    have HFin : Hid (Blk ((w9.setCell ⟨w.heap.size + 1 + 1, 0, none⟩ (.slice none 0 0)).setCell ⟨w.heap.size + 1 + 1, 1, none⟩ (.int .i64 E)) (w.heap.size + 1 + 1) #[(.slice none 0 0), .int .i64 E] 45 ∧ (∀ k, k ≠ w.heap.size + 1 + 1 → ((w9.setCell ⟨w.heap.size + 1 + 1, 0, none⟩ (.slice none 0 0)).setCell ⟨w.heap.size + 1 + 1, 1, none⟩ (.int .i64 E)).heap[k]? = w9.heap[k]?) ∧ Below w.heap.size w ((w9.setCell ⟨w.heap.size + 1 + 1, 0, none⟩ (.slice none 0 0)).setCell ⟨w.heap.size + 1 + 1, 1, none⟩ (.int .i64 E)) ∧ ((w9.setCell ⟨w.heap.size + 1 + 1, 0, none⟩ (.slice none 0 0)).setCell ⟨w.heap.size + 1 + 1, 1, none⟩ (.int .i64 E)).heap.size = w9.heap.size) :=
      Lib.hid ⟨blk_set2 K1.out.1.1.2 _ _, fun k hk => (Below.heap_setCell _ _ _ _ hk).trans (Below.heap_setCell _ _ _ _ hk), (K1.out.1.1.1.1.1.setCell (p := ⟨w.heap.size + 1 + 1, 0, none⟩) (by show w.heap.size ≤ w.heap.size + 1 + 1; omega) _).setCell (p := ⟨w.heap.size + 1 + 1, 1, none⟩) (by show w.heap.size ≤ w.heap.size + 1 + 1; omega) _, by rw [World.size_setCell, World.size_setCell]⟩
    have v0 := cell_row (i := 0) HFin.out.1
    have v1 := cell_row (i := 1) HFin.out.1
    generalize ((w9.setCell ⟨w.heap.size + 1 + 1, 0, none⟩ (.slice none 0 0)).setCell ⟨w.heap.size + 1 + 1, 1, none⟩ (.int .i64 E)) = wz at *
    exact bodyPost_ret (v := .agg #[.slice none 0 0, .int .i64 E]) (by simp [results, Try.results24, go_sem, v0, v1]) rfl ⟨none, 0, rfl, Rd.nil, HFin.out.2.2.1⟩
set_option maxRecDepth 100000 in
set_option maxHeartbeats 3200000 in
theorem rTails_any (A : Option Addr) (c : Nat) (ws : List Car) (s : Wt) (w : World) (h : Wk w A ws) (hs : Wet w s) :
    Calls Try.prog 25 #[.agg #[.slice A ws.length c], s.v] w fun e w' => ∃ A' c', e = .returned (.agg #[.slice A' (tailsO ws s).length c', .int .i64 (cwE ws s)]) ∧ Rd w' w'.heap.size A' (tailsO ws s) ∧ Below w.heap.size w w' := by
  obtain ⟨A0, B1, A2, A3, d0, d1, d2, d3, ri, bo, lk, lo⟩ := s
  show Calls _ _ #[.agg #[.slice A ws.length c], .agg #[.slice A0 ri.length d0, .slice B1 bo.length d1, .slice A2 lk.length d2, .slice A3 lo.length d3]] _ _
  have hb : Below w.heap.size w (((w.alloc (.cells #[.slice A ws.length c] 24)).alloc (.cells #[.slice A0 ri.length d0, .slice B1 bo.length d1, .slice A2 lk.length d2, .slice A3 lo.length d3] 27)).alloc (.cells #[.slice none 0 0, .int .i64 0] 45)) := (((Below.refl _ w).alloc (Nat.le_refl _) _).alloc (by simp) _).alloc (by simp; omega) _
  have K := Lib.hid (((((stays_bl hb).and (stays_blk (blk_alloc (blk_alloc (blk_new w #[.slice A ws.length c] 24 rfl) _) _))).and (stays_blk (g := w.heap.size + 1) (blk_alloc (blk_new (w.alloc (.cells #[.slice A ws.length c] 24)) #[.slice A0 ri.length d0, .slice B1 bo.length d1, .slice A2 lk.length d2, .slice A3 lo.length d3] 27 (by simp)) _))).and (stays_blk (g := w.heap.size + 1 + 1) (blk_new ((w.alloc (.cells #[.slice A ws.length c] 24)).alloc (.cells #[.slice A0 ri.length d0, .slice B1 bo.length d1, .slice A2 lk.length d2, .slice A3 lo.length d3] 27)) #[.slice none 0 0, .int .i64 0] 45 (by simp)))).and ((stays_wk (h.ext hb)).and (stays_wet (hs.ext hb))))
  have HS := Lib.hid (show w.heap.size + 3 = (((w.alloc (.cells #[.slice A ws.length c] 24)).alloc (.cells #[.slice A0 ri.length d0, .slice B1 bo.length d1, .slice A2 lk.length d2, .slice A3 lo.length d3] 27)).alloc (.cells #[.slice none 0 0, .int .i64 0] 45)).heap.size by simp)
  clear hb h hs
  have HC := Lib.hid (fun W hW hs => rCheckWater_any A c ws ⟨A0, B1, A2, A3, d0, d1, d2, d3, ri, bo, lk, lo⟩ W hW hs)
  by_cases h0 : cwE ws ⟨A0, B1, A2, A3, d0, d1, d2, d3, ri, bo, lk, lo⟩ = 0
  · have hg := cw_good h0
    have HF := Lib.hid (fun W hW hs => rFlow_any A c ws ⟨A0, B1, A2, A3, d0, d1, d2, d3, ri, bo, lk, lo⟩ W hW hs hg.1 hg.2)
    have e1 : tailsO ws ⟨A0, B1, A2, A3, d0, d1, d2, d3, ri, bo, lk, lo⟩ = TLto ws ⟨A0, B1, A2, A3, d0, d1, d2, d3, ri, bo, lk, lo⟩ ws.length := by unfold tailsO; rw [if_pos h0]; rfl
    have e2 : (TLto ws ⟨A0, B1, A2, A3, d0, d1, d2, d3, ri, bo, lk, lo⟩ ws.length).length = ws.length := TLto_length _ _ _
    rw [e1, e2, h0]
    rw [h0] at HC
    clear h0 e1 e2 hg
    go_enter Try.func25, Try.ntmps25
    go_upto_region 1 with fail
    generalize ((w.alloc (.cells #[.slice A ws.length c] 24)).alloc (.cells #[.slice A0 ri.length d0, .slice B1 bo.length d1, .slice A2 lk.length d2, .slice A3 lo.length d3] 27)).alloc (.cells #[.slice none 0 0, .int .i64 0] 45) = W0 at *
    have p0 := cell_row (i := 0) K.out.1.1.1.1.2
    have p1 := cell_row (i := 0) K.out.1.1.1.2
    have p2 := cell_row (i := 1) K.out.1.1.1.2
    have p3 := cell_row (i := 2) K.out.1.1.1.2
    have p4 := cell_row (i := 3) K.out.1.1.1.2
    go_upto_region 4 with (go_at_call 28; refine (HC.out _ K.out.1.2.1 K.out.1.2.2).mono ?_; rintro e w1 ⟨rfl, hb⟩; have HB := Lib.hid hb; have K1 := Lib.hid (K.out.on hb); clear hb)
    clear p0 p1 p2 p3 p4
    have p0 := cell_row (i := 0) K1.out.1.1.1.1.2
    have p1 := cell_row (i := 0) K1.out.1.1.1.2
    have p2 := cell_row (i := 1) K1.out.1.1.1.2
    have p3 := cell_row (i := 2) K1.out.1.1.1.2
    have p4 := cell_row (i := 3) K1.out.1.1.1.2
    generalize LOto ws ⟨A0, B1, A2, A3, d0, d1, d2, d3, ri, bo, lk, lo⟩ (outs ws).length = LN at *
    have qf0 := field_fl0
    have qf1 := field_fl1
    have qf2 := field_fl2
    go_wp2_with (go_at_call 82; refine (HF.out _ K1.out.1.2.1 K1.out.1.2.2).mono ?_; rintro e w9 ⟨A5, c5, A6, c6, rfl, r5, r6, f5, f6, hb⟩; have K2 := Lib.hid (And.intro (K1.out.on hb) (And.intro (And.intro r5 f5) (And.intro r6 f6))); have y0 := cell_row (i := 0) K2.out.1.1.1.2; have y1 := cell_row (i := 1) K2.out.1.1.1.2; have z0 := blk_frozen (i := 0) K2.out.1.1.1.2; have z1 := blk_frozen (i := 1) K2.out.1.1.1.2; clear r5 r6 f5 f6 hb)
    have HFin : Hid (Blk ((w9.setCell ⟨w.heap.size + 1 + 1, 0, none⟩ (.slice A6 ws.length c6)).setCell ⟨w.heap.size + 1 + 1, 1, none⟩ (.int .i64 0)) (w.heap.size + 1 + 1) #[(.slice A6 ws.length c6), .int .i64 0] 45 ∧ (∀ k, k ≠ w.heap.size + 1 + 1 → ((w9.setCell ⟨w.heap.size + 1 + 1, 0, none⟩ (.slice A6 ws.length c6)).setCell ⟨w.heap.size + 1 + 1, 1, none⟩ (.int .i64 0)).heap[k]? = w9.heap[k]?) ∧ Below w.heap.size w ((w9.setCell ⟨w.heap.size + 1 + 1, 0, none⟩ (.slice A6 ws.length c6)).setCell ⟨w.heap.size + 1 + 1, 1, none⟩ (.int .i64 0)) ∧ ((w9.setCell ⟨w.heap.size + 1 + 1, 0, none⟩ (.slice A6 ws.length c6)).setCell ⟨w.heap.size + 1 + 1, 1, none⟩ (.int .i64 0)).heap.size = w9.heap.size) :=
      Lib.hid ⟨blk_set2 K2.out.1.1.1.2 _ _, fun k hk => (Below.heap_setCell _ _ _ _ hk).trans (Below.heap_setCell _ _ _ _ hk), (K2.out.1.1.1.1.1.1.setCell (p := ⟨w.heap.size + 1 + 1, 0, none⟩) (by show w.heap.size ≤ w.heap.size + 1 + 1; omega) _).setCell (p := ⟨w.heap.size + 1 + 1, 1, none⟩) (by show w.heap.size ≤ w.heap.size + 1 + 1; omega) _, by rw [World.size_setCell, World.size_setCell]⟩
    have v0 := cell_row (i := 0) HFin.out.1
    have v1 := cell_row (i := 1) HFin.out.1
    have hr := K2.out.2.2.1.moved (b := w.heap.size + 1 + 1) (K2.out.2.2.2.nb (by have := HS.out; have := HB.out.size; omega)) HFin.out.2.1 (by rw [HFin.out.2.2.2]; exact Nat.le_refl _)
    have HRR := Lib.hid hr
    clear hr y0 y1 z0 z1 p0 p1 p2 p3 p4
    generalize ((w9.setCell ⟨w.heap.size + 1 + 1, 0, none⟩ (.slice A6 ws.length c6)).setCell ⟨w.heap.size + 1 + 1, 1, none⟩ (.int .i64 0)) = wz at *
    exact bodyPost_ret (v := .agg #[.slice A6 ws.length c6, .int .i64 0]) (by simp [results, Try.results25, go_sem, v0, v1]) rfl ⟨A6, c6, rfl, HRR.out, HFin.out.2.2.1⟩
  · have e1 : tailsO ws ⟨A0, B1, A2, A3, d0, d1, d2, d3, ri, bo, lk, lo⟩ = [] := if_neg h0
    rw [e1]
    generalize cwE ws ⟨A0, B1, A2, A3, d0, d1, d2, d3, ri, bo, lk, lo⟩ = E at *
    have hz : (E != 0) = true := by simpa using h0
    clear h0 e1
    go_enter Try.func25, Try.ntmps25
    go_upto_region 1 with fail
    generalize ((w.alloc (.cells #[.slice A ws.length c] 24)).alloc (.cells #[.slice A0 ri.length d0, .slice B1 bo.length d1, .slice A2 lk.length d2, .slice A3 lo.length d3] 27)).alloc (.cells #[.slice none 0 0, .int .i64 0] 45) = W0 at *
    have p0 := cell_row (i := 0) K.out.1.1.1.1.2
    have p1 := cell_row (i := 0) K.out.1.1.1.2
    have p2 := cell_row (i := 1) K.out.1.1.1.2
    have p3 := cell_row (i := 2) K.out.1.1.1.2
    have p4 := cell_row (i := 3) K.out.1.1.1.2
    go_wp2_with (go_at_call 28; refine (HC.out _ K.out.1.2.1 K.out.1.2.2).mono ?_; rintro e w9 ⟨rfl, hb⟩; have K1 := Lib.hid (K.out.on hb); have y0 := cell_row (i := 0) K1.out.1.1.2; have y1 := cell_row (i := 1) K1.out.1.1.2; have z0 := blk_frozen (i := 0) K1.out.1.1.2; have z1 := blk_frozen (i := 1) K1.out.1.1.2; clear hb)
    have HFin : Hid (Blk ((w9.setCell ⟨w.heap.size + 1 + 1, 0, none⟩ (.slice none 0 0)).setCell ⟨w.heap.size + 1 + 1, 1, none⟩ (.int .i64 E)) (w.heap.size + 1 + 1) #[(.slice none 0 0), .int .i64 E] 45 ∧ (∀ k, k ≠ w.heap.size + 1 + 1 → ((w9.setCell ⟨w.heap.size + 1 + 1, 0, none⟩ (.slice none 0 0)).setCell ⟨w.heap.size + 1 + 1, 1, none⟩ (.int .i64 E)).heap[k]? = w9.heap[k]?) ∧ Below w.heap.size w ((w9.setCell ⟨w.heap.size + 1 + 1, 0, none⟩ (.slice none 0 0)).setCell ⟨w.heap.size + 1 + 1, 1, none⟩ (.int .i64 E)) ∧ ((w9.setCell ⟨w.heap.size + 1 + 1, 0, none⟩ (.slice none 0 0)).setCell ⟨w.heap.size + 1 + 1, 1, none⟩ (.int .i64 E)).heap.size = w9.heap.size) :=
      Lib.hid ⟨blk_set2 K1.out.1.1.2 _ _, fun k hk => (Below.heap_setCell _ _ _ _ hk).trans (Below.heap_setCell _ _ _ _ hk), (K1.out.1.1.1.1.1.setCell (p := ⟨w.heap.size + 1 + 1, 0, none⟩) (by show w.heap.size ≤ w.heap.size + 1 + 1; omega) _).setCell (p := ⟨w.heap.size + 1 + 1, 1, none⟩) (by show w.heap.size ≤ w.heap.size + 1 + 1; omega) _, by rw [World.size_setCell, World.size_setCell]⟩
    have v0 := cell_row (i := 0) HFin.out.1
    have v1 := cell_row (i := 1) HFin.out.1
    generalize ((w9.setCell ⟨w.heap.size + 1 + 1, 0, none⟩ (.slice none 0 0)).setCell ⟨w.heap.size + 1 + 1, 1, none⟩ (.int .i64 E)) = wz at *
    exact bodyPost_ret (v := .agg #[.slice none 0 0, .int .i64 E]) (by simp [results, Try.results25, go_sem, v0, v1]) rfl ⟨none, 0, rfl, Rd.nil, HFin.out.2.2.1⟩
set_option maxRecDepth 100000 in
set_option maxHeartbeats 3200000 in
theorem rLost_any (A : Option Addr) (c : Nat) (ws : List Car) (s : Wt) (w : World) (h : Wk w A ws) (hs : Wet w s) :
    Calls Try.prog 26 #[.agg #[.slice A ws.length c], s.v] w fun e w' => e = .returned (.tuple #[.int .i64 (lostO ws s), .int .i64 (cwE ws s)]) ∧ Below w.heap.size w w' := by
  obtain ⟨A0, B1, A2, A3, d0, d1, d2, d3, ri, bo, lk, lo⟩ := s
  show Calls _ _ #[.agg #[.slice A ws.length c], .agg #[.slice A0 ri.length d0, .slice B1 bo.length d1, .slice A2 lk.length d2, .slice A3 lo.length d3]] _ _
  have hb : Below w.heap.size w ((w.alloc (.cells #[.slice A ws.length c] 24)).alloc (.cells #[.slice A0 ri.length d0, .slice B1 bo.length d1, .slice A2 lk.length d2, .slice A3 lo.length d3] 27)) := ((Below.refl _ w).alloc (Nat.le_refl _) _).alloc (by simp) _
  have K := Lib.hid ((((stays_bl hb).and (stays_blk (blk_alloc (blk_new w #[.slice A ws.length c] 24 rfl) _))).and (stays_blk (g := w.heap.size + 1) (blk_new (w.alloc (.cells #[.slice A ws.length c] 24)) #[.slice A0 ri.length d0, .slice B1 bo.length d1, .slice A2 lk.length d2, .slice A3 lo.length d3] 27 (by simp)))).and ((stays_wk (h.ext hb)).and (stays_wet (hs.ext hb))))
  clear hb h hs
  have HC := Lib.hid (fun W hW hs => rCheckWater_any A c ws ⟨A0, B1, A2, A3, d0, d1, d2, d3, ri, bo, lk, lo⟩ W hW hs)
  by_cases h0 : cwE ws ⟨A0, B1, A2, A3, d0, d1, d2, d3, ri, bo, lk, lo⟩ = 0
  · have hg := cw_good h0
    have HF := Lib.hid (fun W hW hs => rFlow_any A c ws ⟨A0, B1, A2, A3, d0, d1, d2, d3, ri, bo, lk, lo⟩ W hW hs hg.1 hg.2)
    have e1 : lostO ws ⟨A0, B1, A2, A3, d0, d1, d2, d3, ri, bo, lk, lo⟩ = LOto ws ⟨A0, B1, A2, A3, d0, d1, d2, d3, ri, bo, lk, lo⟩ (outs ws).length := by unfold lostO LOto; rw [if_pos h0, flowK_all]
    rw [e1, h0]
    rw [h0] at HC
    clear h0 e1 hg
    generalize LOto ws ⟨A0, B1, A2, A3, d0, d1, d2, d3, ri, bo, lk, lo⟩ (outs ws).length = LN at *
    go_enter Try.func26, Try.ntmps26
    go_upto_region 1 with fail
    generalize (w.alloc (.cells #[.slice A ws.length c] 24)).alloc (.cells #[.slice A0 ri.length d0, .slice B1 bo.length d1, .slice A2 lk.length d2, .slice A3 lo.length d3] 27) = W0 at *
    have p0 := cell_row (i := 0) K.out.1.1.1.2
    have p1 := cell_row (i := 0) K.out.1.1.2
    have p2 := cell_row (i := 1) K.out.1.1.2
    have p3 := cell_row (i := 2) K.out.1.1.2
    have p4 := cell_row (i := 3) K.out.1.1.2
    go_upto_region 4 with (go_at_call 28; refine (HC.out _ K.out.1.2.1 K.out.1.2.2).mono ?_; rintro e w1 ⟨rfl, hb⟩; have K1 := Lib.hid (K.out.on hb); clear hb)
    clear p0 p1 p2 p3 p4
    have p0 := cell_row (i := 0) K1.out.1.1.1.2
    have p1 := cell_row (i := 0) K1.out.1.1.2
    have p2 := cell_row (i := 1) K1.out.1.1.2
    have p3 := cell_row (i := 2) K1.out.1.1.2
    have p4 := cell_row (i := 3) K1.out.1.1.2
    have qf2 := field_fl2
    go_wp2_with (go_at_call 82; refine (HF.out _ K1.out.1.2.1 K1.out.1.2.2).mono ?_; rintro e w9 ⟨A5, c5, A6, c6, rfl, -, -, -, -, hb⟩; have K2 := Lib.hid (K1.out.on hb); clear hb)
    go_ret2
    exact ⟨rfl, K2.out.1.1.1.1⟩
  · have e1 : lostO ws ⟨A0, B1, A2, A3, d0, d1, d2, d3, ri, bo, lk, lo⟩ = 0 := if_neg h0
    rw [e1]
    generalize cwE ws ⟨A0, B1, A2, A3, d0, d1, d2, d3, ri, bo, lk, lo⟩ = E at *
    have hz : (E != 0) = true := by simpa using h0
    clear h0 e1
    go_enter Try.func26, Try.ntmps26
    go_upto_region 1 with fail
    generalize (w.alloc (.cells #[.slice A ws.length c] 24)).alloc (.cells #[.slice A0 ri.length d0, .slice B1 bo.length d1, .slice A2 lk.length d2, .slice A3 lo.length d3] 27) = W0 at *
    have p0 := cell_row (i := 0) K.out.1.1.1.2
    have p1 := cell_row (i := 0) K.out.1.1.2
    have p2 := cell_row (i := 1) K.out.1.1.2
    have p3 := cell_row (i := 2) K.out.1.1.2
    have p4 := cell_row (i := 3) K.out.1.1.2
    go_wp2_with (go_at_call 28; refine (HC.out _ K.out.1.2.1 K.out.1.2.2).mono ?_; rintro e w9 ⟨rfl, hb⟩; have K1 := Lib.hid (K.out.on hb); clear hb)
    go_ret2
    exact ⟨rfl, K1.out.1.1.1.1⟩
end Go.Proofs.Ytdadoelajhemjaa
