/- Walks: the specification's Signs. -/
import Derived.Test.YtdadoelajhemjaaE3
import Derived.Test.YtdadoelajhemjaaB3
namespace Go.Proofs.Ytdadoelajhemjaa
open Go.RowKit Go.Shelf

/-- Three lists and a number in a struct are returned. -/
def SigG (l1 l2 l3 : List Int) (E : Int) (w' : World) (e : Ending) : Prop := ∃ A1 c1 A2 c2 A3 c3, e = .returned (.agg #[.slice A1 l1.length c1, .slice A2 l2.length c2, .slice A3 l3.length c3, .int .i64 E]) ∧ Rd w' w'.heap.size A1 l1 ∧ Rd w' w'.heap.size A2 l2 ∧ Rd w' w'.heap.size A3 l3
set_option maxRecDepth 100000 in
set_option maxHeartbeats 1600000 in
theorem rSignsI_any (A : Option Addr) (c : Nat) (ws : List Car) (id : Int) (w : World) (h : Wk w A ws) :
    Calls Try.prog 43 #[.agg #[.slice A ws.length c], .int .i64 id] w fun e w' => SigG (sgL ws id rivS) (sgL ws id hatS) (sgL ws id reaS) (sigE ws id) w' e ∧ Below w.heap.size w w' := by
  have hb : Below w.heap.size w ((w.alloc (.cells #[.slice A ws.length c] 24)).alloc (.cells #[.slice none 0 0, .slice none 0 0, .slice none 0 0, .int .i64 0] 69)) := ((Below.refl _ w).alloc (Nat.le_refl _) _).alloc (by simp) _
  have K := Lib.hid ((((stays_bl hb).and (stays_blk (blk_alloc (blk_new w #[.slice A ws.length c] 24 rfl) _))).and (stays_blk (g := w.heap.size + 1) (blk_new (w.alloc (.cells #[.slice A ws.length c] 24)) #[.slice none 0 0, .slice none 0 0, .slice none 0 0, .int .i64 0] 69 (by simp)))).and (stays_wk (h.ext hb)))
  have HS := Lib.hid (show w.heap.size + 2 = ((w.alloc (.cells #[.slice A ws.length c] 24)).alloc (.cells #[.slice none 0 0, .slice none 0 0, .slice none 0 0, .int .i64 0] 69)).heap.size by simp)
  clear hb h
  have HC := Lib.hid (fun W hW => rKnown_any A c ws id W hW)
  by_cases h0 : sigE ws id = 0
  · obtain ⟨g, x, hx, hl, hs⟩ := sig_zero h0
    have hk : knI ws id = (x : Int) := by unfold knI; rw [if_pos h0, hx]; rfl
    rw [hs, hs, hs, h0]
    rw [hk, h0] at HC
    have hF := fun W hW => rSigns0_any A c ws x hl W hW g
    have l1 : (rivS ws x).length = (headsTo ws ws.length).length := rivTo_length (Nat.le_refl _)
    have l2 : (hatS ws x).length = (outs ws).length := hatTo_length ws x _
    have l3 : (reaS ws x).length = (outs ws).length := reaTo_length ws x _
    rw [← l1, ← l2] at hF
    have HF := Lib.hid (And.intro hF (l3.trans l2.symm))
    clear h0 hk hs hF l1 l2 l3 hx g hl
    generalize rivS ws x = L1 at *
    generalize hatS ws x = L2 at *
    generalize reaS ws x = L3 at *
    go_enter Try.func43, Try.ntmps43
    go_upto_region 1 with fail
    generalize (w.alloc (.cells #[.slice A ws.length c] 24)).alloc (.cells #[.slice none 0 0, .slice none 0 0, .slice none 0 0, .int .i64 0] 69) = W0 at *
    have p0 := cell_row (i := 0) K.out.1.1.1.2
    go_upto_region 4 with (go_at_call 104; refine (HC.out _ K.out.1.2).mono ?_; rintro e w1 ⟨rfl, hb⟩; have K1 := Lib.hid (K.out.on hb); have HB := Lib.hid hb; clear hb)
    clear p0
    have p0 := cell_row (i := 0) K1.out.1.1.1.2
    go_wp2_with (go_at_call 101; refine (HF.out.1 _ K1.out.1.2).mono ?_; rintro e w9 ⟨A1, c1, A2, c2, A3, c3, rfl, hr, hf, hb⟩; have K2 := Lib.hid (And.intro (K1.out.on hb) (And.intro hr hf)); have y0 := cell_row (i := 0) K2.out.1.1.1.2; have y1 := cell_row (i := 1) K2.out.1.1.1.2; have y2 := cell_row (i := 2) K2.out.1.1.1.2; have y3 := cell_row (i := 3) K2.out.1.1.1.2; have z0 := blk_frozen (i := 0) K2.out.1.1.1.2; have z1 := blk_frozen (i := 1) K2.out.1.1.1.2; have z2 := blk_frozen (i := 2) K2.out.1.1.1.2; have z3 := blk_frozen (i := 3) K2.out.1.1.1.2; clear hr hf hb)
    have HFin : Hid (Blk ((((w9.setCell ⟨w.heap.size + 1, 0, none⟩ (.slice A1 L1.length c1)).setCell ⟨w.heap.size + 1, 1, none⟩ (.slice A2 L2.length c2)).setCell ⟨w.heap.size + 1, 2, none⟩ (.slice A3 L2.length c3)).setCell ⟨w.heap.size + 1, 3, none⟩ (.int .i64 0)) (w.heap.size + 1) #[(.slice A1 L1.length c1), (.slice A2 L2.length c2), (.slice A3 L2.length c3), .int .i64 0] 69 ∧ (∀ k, k ≠ w.heap.size + 1 → ((((w9.setCell ⟨w.heap.size + 1, 0, none⟩ (.slice A1 L1.length c1)).setCell ⟨w.heap.size + 1, 1, none⟩ (.slice A2 L2.length c2)).setCell ⟨w.heap.size + 1, 2, none⟩ (.slice A3 L2.length c3)).setCell ⟨w.heap.size + 1, 3, none⟩ (.int .i64 0)).heap[k]? = w9.heap[k]?) ∧ Below w.heap.size w ((((w9.setCell ⟨w.heap.size + 1, 0, none⟩ (.slice A1 L1.length c1)).setCell ⟨w.heap.size + 1, 1, none⟩ (.slice A2 L2.length c2)).setCell ⟨w.heap.size + 1, 2, none⟩ (.slice A3 L2.length c3)).setCell ⟨w.heap.size + 1, 3, none⟩ (.int .i64 0)) ∧ ((((w9.setCell ⟨w.heap.size + 1, 0, none⟩ (.slice A1 L1.length c1)).setCell ⟨w.heap.size + 1, 1, none⟩ (.slice A2 L2.length c2)).setCell ⟨w.heap.size + 1, 2, none⟩ (.slice A3 L2.length c3)).setCell ⟨w.heap.size + 1, 3, none⟩ (.int .i64 0)).heap.size = w9.heap.size) :=
      Lib.hid ⟨blk_set4 K2.out.1.1.1.2 _ _ _ _, fun k hk => (Below.heap_setCell _ _ _ _ hk).trans ((Below.heap_setCell _ _ _ _ hk).trans ((Below.heap_setCell _ _ _ _ hk).trans (Below.heap_setCell _ _ _ _ hk))), (((K2.out.1.1.1.1.1.setCell (p := ⟨w.heap.size + 1, 0, none⟩) (by show w.heap.size ≤ w.heap.size + 1; omega) _).setCell (p := ⟨w.heap.size + 1, 1, none⟩) (by show w.heap.size ≤ w.heap.size + 1; omega) _).setCell (p := ⟨w.heap.size + 1, 2, none⟩) (by show w.heap.size ≤ w.heap.size + 1; omega) _).setCell (p := ⟨w.heap.size + 1, 3, none⟩) (by show w.heap.size ≤ w.heap.size + 1; omega) _, by simp only [World.size_setCell]⟩
    have v0 := cell_row (i := 0) HFin.out.1
    have v1 := cell_row (i := 1) HFin.out.1
    have v2 := cell_row (i := 2) HFin.out.1
    have v3 := cell_row (i := 3) HFin.out.1
    generalize ((((w9.setCell ⟨w.heap.size + 1, 0, none⟩ (.slice A1 L1.length c1)).setCell ⟨w.heap.size + 1, 1, none⟩ (.slice A2 L2.length c2)).setCell ⟨w.heap.size + 1, 2, none⟩ (.slice A3 L2.length c3)).setCell ⟨w.heap.size + 1, 3, none⟩ (.int .i64 0)) = wz at *
    have hs1 : w.heap.size + 2 ≤ w1.heap.size := by rw [HS.out]; exact HB.out.size
    have e := HFin.out.2.2.2
    have m1 := K2.out.2.1.1.moved (b := w.heap.size + 1) (K2.out.2.2.1.nb (by omega)) HFin.out.2.1 (by rw [e]; exact Nat.le_refl _)
    have m2 := K2.out.2.1.2.1.moved (b := w.heap.size + 1) (K2.out.2.2.2.1.nb (by omega)) HFin.out.2.1 (by rw [e]; exact Nat.le_refl _)
    have m3 := K2.out.2.1.2.2.moved (b := w.heap.size + 1) (K2.out.2.2.2.2.nb (by omega)) HFin.out.2.1 (by rw [e]; exact Nat.le_refl _)
    exact bodyPost_ret (v := .agg #[.slice A1 L1.length c1, .slice A2 L2.length c2, .slice A3 L2.length c3, .int .i64 0]) (by simp [results, Try.results43, go_sem, v0, v1, v2, v3]) rfl ⟨⟨A1, c1, A2, c2, A3, c3, by rw [HF.out.2], m1, m2, m3⟩, HFin.out.2.2.1⟩
  · rw [sgL_no h0, sgL_no h0, sgL_no h0]
    have hk : knI ws id = 0 := if_neg h0
    rw [hk] at HC
    generalize sigE ws id = E at *
    have hz : (E != 0) = true := by simpa using h0
    clear h0 hk
    go_enter Try.func43, Try.ntmps43
    go_upto_region 1 with fail
    generalize (w.alloc (.cells #[.slice A ws.length c] 24)).alloc (.cells #[.slice none 0 0, .slice none 0 0, .slice none 0 0, .int .i64 0] 69) = W0 at *
    have p0 := cell_row (i := 0) K.out.1.1.1.2
    go_wp2_with (go_at_call 104; refine (HC.out _ K.out.1.2).mono ?_; rintro e w9 ⟨rfl, hb⟩; have K1 := Lib.hid (K.out.on hb); have y0 := cell_row (i := 0) K1.out.1.1.2; have y1 := cell_row (i := 1) K1.out.1.1.2; have y2 := cell_row (i := 2) K1.out.1.1.2; have y3 := cell_row (i := 3) K1.out.1.1.2; have z0 := blk_frozen (i := 0) K1.out.1.1.2; have z1 := blk_frozen (i := 1) K1.out.1.1.2; have z2 := blk_frozen (i := 2) K1.out.1.1.2; have z3 := blk_frozen (i := 3) K1.out.1.1.2; clear hb)
    have HFin : Hid (Blk ((((w9.setCell ⟨w.heap.size + 1, 0, none⟩ (.slice none 0 0)).setCell ⟨w.heap.size + 1, 1, none⟩ (.slice none 0 0)).setCell ⟨w.heap.size + 1, 2, none⟩ (.slice none 0 0)).setCell ⟨w.heap.size + 1, 3, none⟩ (.int .i64 E)) (w.heap.size + 1) #[(.slice none 0 0), (.slice none 0 0), (.slice none 0 0), .int .i64 E] 69 ∧ (∀ k, k ≠ w.heap.size + 1 → ((((w9.setCell ⟨w.heap.size + 1, 0, none⟩ (.slice none 0 0)).setCell ⟨w.heap.size + 1, 1, none⟩ (.slice none 0 0)).setCell ⟨w.heap.size + 1, 2, none⟩ (.slice none 0 0)).setCell ⟨w.heap.size + 1, 3, none⟩ (.int .i64 E)).heap[k]? = w9.heap[k]?) ∧ Below w.heap.size w ((((w9.setCell ⟨w.heap.size + 1, 0, none⟩ (.slice none 0 0)).setCell ⟨w.heap.size + 1, 1, none⟩ (.slice none 0 0)).setCell ⟨w.heap.size + 1, 2, none⟩ (.slice none 0 0)).setCell ⟨w.heap.size + 1, 3, none⟩ (.int .i64 E)) ∧ ((((w9.setCell ⟨w.heap.size + 1, 0, none⟩ (.slice none 0 0)).setCell ⟨w.heap.size + 1, 1, none⟩ (.slice none 0 0)).setCell ⟨w.heap.size + 1, 2, none⟩ (.slice none 0 0)).setCell ⟨w.heap.size + 1, 3, none⟩ (.int .i64 E)).heap.size = w9.heap.size) :=
      Lib.hid ⟨blk_set4 K1.out.1.1.2 _ _ _ _, fun k hk => (Below.heap_setCell _ _ _ _ hk).trans ((Below.heap_setCell _ _ _ _ hk).trans ((Below.heap_setCell _ _ _ _ hk).trans (Below.heap_setCell _ _ _ _ hk))), (((K1.out.1.1.1.1.setCell (p := ⟨w.heap.size + 1, 0, none⟩) (by show w.heap.size ≤ w.heap.size + 1; omega) _).setCell (p := ⟨w.heap.size + 1, 1, none⟩) (by show w.heap.size ≤ w.heap.size + 1; omega) _).setCell (p := ⟨w.heap.size + 1, 2, none⟩) (by show w.heap.size ≤ w.heap.size + 1; omega) _).setCell (p := ⟨w.heap.size + 1, 3, none⟩) (by show w.heap.size ≤ w.heap.size + 1; omega) _, by simp only [World.size_setCell]⟩
    have v0 := cell_row (i := 0) HFin.out.1
    have v1 := cell_row (i := 1) HFin.out.1
    have v2 := cell_row (i := 2) HFin.out.1
    have v3 := cell_row (i := 3) HFin.out.1
    generalize ((((w9.setCell ⟨w.heap.size + 1, 0, none⟩ (.slice none 0 0)).setCell ⟨w.heap.size + 1, 1, none⟩ (.slice none 0 0)).setCell ⟨w.heap.size + 1, 2, none⟩ (.slice none 0 0)).setCell ⟨w.heap.size + 1, 3, none⟩ (.int .i64 E)) = wz at *
    exact bodyPost_ret (v := .agg #[.slice none 0 0, .slice none 0 0, .slice none 0 0, .int .i64 E]) (by simp [results, Try.results43, go_sem, v0, v1, v2, v3]) rfl ⟨⟨none, 0, none, 0, none, 0, rfl, Rd.nil, Rd.nil, Rd.nil⟩, HFin.out.2.2.1⟩
end Go.Proofs.Ytdadoelajhemjaa
