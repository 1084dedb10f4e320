/- Walk: the reference's apart. -/
import Derived.Test.YtknkneccnhgjmaaG1
import Derived.StillTailTactics
namespace Go.Proofs.Ytknkneccnhgjmaa
open Go.RowKit Go.Shelf

theorem Row.set3 {W : World} {g : Nat} {a b c : Value} {ty : TypeId} (h : Row W g #[a, b, c] ty) (x y z : Value) : Row (((W.setCell ⟨g, 0, none⟩ x).setCell ⟨g, 1, none⟩ y).setCell ⟨g, 2, none⟩ z) g #[x, y, z] ty :=
  ⟨heap_setCell_same _ _ _ _ _ _ (heap_setCell_same _ _ _ _ _ _ (heap_setCell_same _ _ _ _ _ _ h.row))⟩
theorem Row.drew {W : World} {g : Nat} {cs : Array Value} {ty : TypeId} (h : Row W g cs ty) : Row W.drew g cs ty := ⟨h.row⟩

/-- What is known in apart's loop. -/
structure ApartI (w w1 wr : World) (N S : Int) : Prop where
  bl : Below (w.heap.size + 1 + 1 + 1) w1 wr
  out : Row wr (w.heap.size + 1 + 1 + 1) #[.int .i64 N, .int .i64 S, .int .i64 0] 51
theorem topI_succ (h : Nat → Int) (k : Nat) : topI h (k + 1) = if (topI h k).2 < h k then (k, h k) else topI h k := rfl

set_option maxRecDepth 100000 in
set_option maxHeartbeats 3200000 in
theorem rapart_any (A1 A2 : Option Addr) (c1 c2 : Nat) (xs ys : List Int) (w : World) (r1 : Rd w w.heap.size A1 xs) (r2 : Rd w w.heap.size A2 ys) (h1 : 1 ≤ xs.length) (h2 : xs.length ≤ 1000) (h3 : ys.length = xs.length) (sx : Small xs) (sy : Small ys) :
    Calls Try.prog 94 #[.agg #[.slice A1 xs.length c1], .agg #[.slice A2 ys.length c2]] w fun e w' =>
      e = .returned (.agg #[.int .i64 (topI (fun t => nth xs t - nth ys t) xs.length).2, .int .i64 ((topI (fun t => nth xs t - nth ys t) xs.length).1 : Nat), .int .i64 0]) ∧ Below w.heap.size w w' := by
  obtain ⟨b1, o1, rfl, lb1, g1⟩ := r1 (by omega)
  obtain ⟨b2, o2, rfl, lb2, g2⟩ := r2 (by omega)
  have H3 := Lib.hid h3
  have HS := Lib.hid (And.intro sx sy)
  clear r1 r2 h3 sx sy
  generalize hh : (fun t => nth xs t - nth ys t) = h at *
  have HH := Lib.hid (fun t => congrFun hh t)
  clear hh
  go_enter Try.func94, Try.ntmps94
  go_upto_region 2 with fail
  have hb0 : Below w.heap.size w ((((w.alloc (.cells #[.slice (some ⟨b1, o1, none⟩) xs.length c1] 26)).alloc (.cells #[.slice (some ⟨b2, o2, none⟩) ys.length c2] 26)).alloc (.cells #[.int .i64 0, .int .i64 0, .int .i64 0] 51)).alloc (.cells #[.int .i64 0, .int .i64 0, .int .i64 0] 51)) :=
    ((((Below.refl _ w).alloc (Nat.le_refl _) _).alloc (by simp) _).alloc (by simp; omega) _).alloc (by simp; omega) _
  have p1 : ((((w.alloc (.cells #[.slice (some ⟨b1, o1, none⟩) xs.length c1] 26)).alloc (.cells #[.slice (some ⟨b2, o2, none⟩) ys.length c2] 26)).alloc (.cells #[.int .i64 0, .int .i64 0, .int .i64 0] 51)).alloc (.cells #[.int .i64 0, .int .i64 0, .int .i64 0] 51)).cell? ⟨w.heap.size, 0, none⟩ = some (.slice (some ⟨b1, o1, none⟩) xs.length c1) := by simp [go_sem]
  have p2 : ((((w.alloc (.cells #[.slice (some ⟨b1, o1, none⟩) xs.length c1] 26)).alloc (.cells #[.slice (some ⟨b2, o2, none⟩) ys.length c2] 26)).alloc (.cells #[.int .i64 0, .int .i64 0, .int .i64 0] 51)).alloc (.cells #[.int .i64 0, .int .i64 0, .int .i64 0] 51)).cell? ⟨w.heap.size + 1, 0, none⟩ = some (.slice (some ⟨b2, o2, none⟩) ys.length c2) := by simp [go_sem]
  have row3 : Row (((w.alloc (.cells #[.slice (some ⟨b1, o1, none⟩) xs.length c1] 26)).alloc (.cells #[.slice (some ⟨b2, o2, none⟩) ys.length c2] 26)).alloc (.cells #[.int .i64 0, .int .i64 0, .int .i64 0] 51)) (w.heap.size + 1 + 1) #[.int .i64 0, .int .i64 0, .int .i64 0] 51 := ⟨by
    have := heap_alloc_new ((w.alloc (.cells #[.slice (some ⟨b1, o1, none⟩) xs.length c1] 26)).alloc (.cells #[.slice (some ⟨b2, o2, none⟩) ys.length c2] 26)) (.cells #[.int .i64 0, .int .i64 0, .int .i64 0] 51)
    simpa only [World.size_alloc] using this⟩
  have row3' : Row ((((w.alloc (.cells #[.slice (some ⟨b1, o1, none⟩) xs.length c1] 26)).alloc (.cells #[.slice (some ⟨b2, o2, none⟩) ys.length c2] 26)).alloc (.cells #[.int .i64 0, .int .i64 0, .int .i64 0] 51)).alloc (.cells #[.int .i64 0, .int .i64 0, .int .i64 0] 51)) (w.heap.size + 1 + 1) #[.int .i64 0, .int .i64 0, .int .i64 0] 51 := row3.ext ((Below.refl _ _).alloc (Nat.le_refl _) _) row3.lt
  have row4 : Row ((((w.alloc (.cells #[.slice (some ⟨b1, o1, none⟩) xs.length c1] 26)).alloc (.cells #[.slice (some ⟨b2, o2, none⟩) ys.length c2] 26)).alloc (.cells #[.int .i64 0, .int .i64 0, .int .i64 0] 51)).alloc (.cells #[.int .i64 0, .int .i64 0, .int .i64 0] 51)) (w.heap.size + 1 + 1 + 1) #[.int .i64 0, .int .i64 0, .int .i64 0] 51 := ⟨by
    have := heap_alloc_new (((w.alloc (.cells #[.slice (some ⟨b1, o1, none⟩) xs.length c1] 26)).alloc (.cells #[.slice (some ⟨b2, o2, none⟩) ys.length c2] 26)).alloc (.cells #[.int .i64 0, .int .i64 0, .int .i64 0] 51)) (.cells #[.int .i64 0, .int .i64 0, .int .i64 0] 51)
    simpa only [World.size_alloc] using this⟩
  clear row3
  generalize ((((w.alloc (.cells #[.slice (some ⟨b1, o1, none⟩) xs.length c1] 26)).alloc (.cells #[.slice (some ⟨b2, o2, none⟩) ys.length c2] 26)).alloc (.cells #[.int .i64 0, .int .i64 0, .int .i64 0] 51)).alloc (.cells #[.int .i64 0, .int .i64 0, .int .i64 0] 51)) = w1 at *
  have HO := Lib.hid (And.intro p1 (And.intro p2 (And.intro row3' hb0)))
  have HR := Lib.hid row4
  clear p1 p2 row3' row4 hb0
  go_wp2
  go_loopg [6] xs.length (fun gg s wr => ∃ t : Nat, t ≤ xs.length ∧ xs.length - t ≤ gg ∧ s = .int .i64 t ∧ Aside (ApartI w w1 wr (topI h t).2 ((topI h t).1 : Nat)))
  case atStart => exact ⟨0, Nat.zero_le _, by omega, rfl, Below.refl _ _, HR.out⟩
  case round =>
    obtain ⟨t, ht, hg, rfl, hI⟩ := hrel
    have HI := Lib.hid hI.out
    clear hI
    have l3 : w.heap.size + 1 + 1 + 1 < wr.heap.size := HI.out.out.lt
    have l1 : w.heap.size < wr.heap.size := by omega
    have l2 : w.heap.size + 1 < wr.heap.size := by omega
    have l4 : b1 < wr.heap.size := by omega
    have l5 : b2 < wr.heap.size := by omega
    have p1 := (HI.out.bl.cell (p := ⟨w.heap.size, 0, none⟩) (show w.heap.size < _ by omega)).trans HO.out.1
    have p2 := (HI.out.bl.cell (p := ⟨w.heap.size + 1, 0, none⟩) (show w.heap.size + 1 < _ by omega)).trans HO.out.2.1
    have z0 := HI.out.out.cell (i := 0)
    have z1 := HI.out.out.cell (i := 1)
    have z2 := HI.out.out.cell (i := 2)
    simp only [List.getElem?_toArray, List.getElem?_cons_zero, List.getElem?_cons_succ] at z0 z1 z2
    by_cases hlt : t < xs.length
    · have hltz : (t : Int) < (xs.length : Int) := by omega
      have hltz2 : (t : Int) < (ys.length : Int) := by have := H3.out; omega
      have k1 := (HI.out.bl.cell (p := ⟨b1, o1 + t, none⟩) (show b1 < _ by omega)).trans ((HO.out.2.2.2.cell (p := ⟨b1, o1 + t, none⟩) lb1).trans (g1 t hlt))
      have k2 := (HI.out.bl.cell (p := ⟨b2, o2 + t, none⟩) (show b2 < _ by omega)).trans ((HO.out.2.2.2.cell (p := ⟨b2, o2 + t, none⟩) lb2).trans (g2 t (by omega)))
      have hs := topI_succ h t
      have ht' := HH.out t
      obtain ⟨m1, m2⟩ := HS.out.1 t
      obtain ⟨m3, m4⟩ := HS.out.2 t
      have hw : IntKind.i64.wrap (nth xs t - nth ys t) = nth xs t - nth ys t := IntWalk.i64_in _ (by omega)
      by_cases hq : (topI h t).2 < nth xs t - nth ys t
      · rw [← ht', if_pos (by exact hq)] at hs
        have Hs := Lib.hid (And.intro hs ht')
        clear hs ht'
        generalize hT : topI h t = T at *
        obtain ⟨S, N⟩ := T
        clear hT
        dsimp only at z0 z1 hq HI
        go_wp2
        refine wp_region_ext (by kernel_rfl) (by kernel_rfl) ?_
        intro ι _ X hX hC
        have rX := fun k => (bcell (hX k)).1
        repeat (first | go_big_quiet_skip | (go_big_quiet_want; go_big_quiet_op; first | go_big_quiet_on | (apply Exists.intro; refine ⟨fun _ => ?_, ?_⟩; (focus (fail)); go_big_quiet_on)))
        refine wpQuiet_nil ?_
        intro w1 hb1
        clear rX hX hC
        have HI2 := Lib.hid (ApartI.mk (HI.out.bl.trans (hb1.mono (by omega))) (HI.out.out.ext hb1 l3))
        have p1' := (hb1.cell (p := ⟨w.heap.size, 0, none⟩) l1).trans p1
        have p2' := (hb1.cell (p := ⟨w.heap.size + 1, 0, none⟩) l2).trans p2
        have k1' := (hb1.cell (p := ⟨b1, o1 + t, none⟩) l4).trans k1
        have k2' := (hb1.cell (p := ⟨b2, o2 + t, none⟩) l5).trans k2
        have z0' := (hb1.cell (p := ⟨w.heap.size + 1 + 1 + 1, 0, none⟩) l3).trans z0
        have z1' := (hb1.cell (p := ⟨w.heap.size + 1 + 1 + 1, 1, none⟩) l3).trans z1
        have z2' := (hb1.cell (p := ⟨w.heap.size + 1 + 1 + 1, 2, none⟩) l3).trans z2
        have f0' := HI2.out.out.free (i := 0)
        have f1' := HI2.out.out.free (i := 1)
        have f2' := HI2.out.out.free (i := 2)
        clear p1 p2 k1 k2 z0 z1 z2 hb1 HI
        go_wp2
        go_still_tail 13, (by kernel_rfl)
        have HI3 := Lib.hid (ApartI.mk (((HI2.out.bl.setCell (p := ⟨w.heap.size + 1 + 1 + 1, 0, none⟩) (Nat.le_refl _) (.int .i64 (nth xs t - nth ys t))).setCell (p := ⟨w.heap.size + 1 + 1 + 1, 1, none⟩) (Nat.le_refl _) (.int .i64 t)).setCell (p := ⟨w.heap.size + 1 + 1 + 1, 2, none⟩) (Nat.le_refl _) (.int .i64 0)).drew (HI2.out.out.set3 (.int .i64 (nth xs t - nth ys t)) (.int .i64 t) (.int .i64 0)).drew)
        change wpList _ _ _ _ _ w1.drew
        go_wp2
        go_roundg (xs.length - (t + 1))
        case measure => omega
        case rel => exact ⟨t + 1, by omega, by omega, by go_num, by rw [Hs.out.1]; exact HI3.out⟩
      · have hs2 : topI h (t + 1) = topI h t := by rw [hs, if_neg (by rw [← ht']; exact hq)]
        have Hs := Lib.hid hs2
        clear hs ht' hs2
        generalize hT : topI h t = T at *
        obtain ⟨S, N⟩ := T
        clear hT
        dsimp only at z0 z1 hq HI
        go_wp2
        refine wp_region_ext (by kernel_rfl) (by kernel_rfl) ?_
        intro ι _ X hX hC
        have rX := fun k => (bcell (hX k)).1
        repeat (first | go_big_quiet_skip | (go_big_quiet_want; go_big_quiet_op; first | go_big_quiet_on | (apply Exists.intro; refine ⟨fun _ => ?_, ?_⟩; (focus (fail)); go_big_quiet_on)))
        refine wpQuiet_nil ?_
        intro w1 hb1
        clear rX hX hC
        have HI2 := Lib.hid (ApartI.mk (HI.out.bl.trans (hb1.mono (by omega))) (HI.out.out.ext hb1 l3))
        go_wp2
        go_roundg (xs.length - (t + 1))
        case measure => omega
        case rel => exact ⟨t + 1, by omega, by omega, by go_num, by rw [Hs.out]; exact HI2.out⟩
    · have hltz : ¬ (t : Int) < (xs.length : Int) := by omega
      obtain rfl : t = xs.length := by omega
      generalize hT : topI h xs.length = T at *
      obtain ⟨S, N⟩ := T
      have HTe := Lib.hid hT
      clear hT
      dsimp only at z0 z1 HI
      have hrow := HO.out.2.2.1.ext HI.out.bl (by omega)
      obtain ⟨y0, y1, y2, yf⟩ := three_cells hrow.row
      have f0 := yf 0
      have f1 := yf 1
      have f2 := yf 2
      have HT := Lib.hid (three_set hrow.row (.int .i64 N) (.int .i64 S) (.int .i64 0))
      have HB := Lib.hid ((((HO.out.2.2.2.trans (HI.out.bl.mono (by omega))).setCell (p := ⟨w.heap.size + 1 + 1, 0, none⟩) (by show w.heap.size ≤ w.heap.size + 1 + 1; omega) (.int .i64 N)).setCell (p := ⟨w.heap.size + 1 + 1, 1, none⟩) (by show w.heap.size ≤ w.heap.size + 1 + 1; omega) (.int .i64 S)).setCell (p := ⟨w.heap.size + 1 + 1, 2, none⟩) (by show w.heap.size ≤ w.heap.size + 1 + 1; omega) (.int .i64 0))
      clear hrow yf
      go_wp2
      obtain ⟨q0, q1, q2⟩ := HT.out
      exact bodyPost_ret (v := .agg #[.int .i64 N, .int .i64 S, .int .i64 0]) (by simp [results, Try.results94, go_sem, q0, q1, q2]) rfl ⟨by rw [HTe.out], HB.out⟩
end Go.Proofs.Ytknkneccnhgjmaa
