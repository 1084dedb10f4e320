/- Walks: the reference's Backlog, Delay, Served, Obeys, Stored, Waited, Split, Check. -/
import Derived.Test.YtknkneccnhgjmaaG2
import Derived.Test.YtknkneccnhgjmaaG3
import Derived.Test.YtknkneccnhgjmaaG6
namespace Go.Proofs.Ytknkneccnhgjmaa
open Go.RowKit Go.Shelf

theorem set_oth {g : Nat} {b o : Nat} (h : b < g) : ∀ (W : World) (j : Nat) (v : Value), (W.setCell ⟨g, j, none⟩ v).cell? ⟨b, o, none⟩ = W.cell? ⟨b, o, none⟩ := fun W j v =>
  World.cell?_setCell_other W _ _ v (fun e => by have e := congrArg Addr.block e; dsimp only at e; omega)
theorem Row.set4 {W : World} {g : Nat} {a b c d : Value} {ty : TypeId} (h : Row W g #[a, b, c, d] ty) (x y z u : Value) : Row ((((W.setCell ⟨g, 0, none⟩ x).setCell ⟨g, 1, none⟩ y).setCell ⟨g, 2, none⟩ z).setCell ⟨g, 3, none⟩ u) g #[x, y, z, u] ty :=
  ⟨heap_setCell_same _ _ _ _ _ _ (heap_setCell_same _ _ _ _ _ _ (heap_setCell_same _ _ _ _ _ _ (heap_setCell_same _ _ _ _ _ _ h.row)))⟩

set_option maxRecDepth 100000 in
set_option maxHeartbeats 3200000 in
theorem rServed_any (A1 : Option Addr) (A2 : Option Addr) (A3 : Option Addr) (c1 : Nat) (c2 : Nat) (c3 : Nat) (xs : List Int) (ys : List Int) (zs : List Int) (w : World) (r1 : Rd w w.heap.size A1 xs) (r2 : Rd w w.heap.size A2 ys) (r3 : Rd w w.heap.size A3 zs) (m1 : xs.length ≤ maxLen) (m2 : ys.length ≤ maxLen) (m3 : zs.length ≤ maxLen) :
    Calls Try.prog 37 #[.agg #[.slice A1 xs.length c1], .agg #[.slice A2 ys.length c2], .agg #[.slice A3 zs.length c3]] w fun e w' => e = .returned (.agg #[.int .i64 (if ok3' xs ys zs then servedI xs ys zs else 0), .bool (ok3' xs ys zs && servedOk xs ys zs), .int .i64 (errB (ok3' xs ys zs))]) ∧ Below w.heap.size w w' := by
  have hK : Ex w w [] [] := ⟨Below.refl _ _, fun p hp => (by cases hp), fun p hp => (by cases hp)⟩
  have hK0 := ((hK.addRd r1).addRd r2).addRd r3
  have M := Lib.hid (And.intro m1 (And.intro m2 m3))
  clear hK r1 m1 r2 m2 r3 m3
  cases ho : ok3' xs ys zs with
  | false =>
    have HO := Lib.hid ho
    rw [if_neg (by simp), Bool.false_and, errB_f]
    clear ho
    go_enter Try.func37, Try.ntmps37
    go_upto_region 1 with fail
    have hK1 := (((hK0.one (.slice A1 xs.length c1) 26).one (.slice A2 ys.length c2) 26).one (.slice A3 zs.length c3) 26)
    have hb1 := (Below.refl _ (((w.alloc (.cells #[.slice A1 xs.length c1] 26)).alloc (.cells #[.slice A2 ys.length c2] 26)).alloc (.cells #[.slice A3 zs.length c3] 26))).alloc (Nat.le_refl _) (.cells #[.int .i64 0, .bool false, .int .i64 0] 58)
    have hr1 : Row ((((w.alloc (.cells #[.slice A1 xs.length c1] 26)).alloc (.cells #[.slice A2 ys.length c2] 26)).alloc (.cells #[.slice A3 zs.length c3] 26)).alloc (.cells #[.int .i64 0, .bool false, .int .i64 0] 58)) (w.heap.size + 1 + 1 + 1) #[.int .i64 0, .bool false, .int .i64 0] 58 := ⟨by
      have := heap_alloc_new (((w.alloc (.cells #[.slice A1 xs.length c1] 26)).alloc (.cells #[.slice A2 ys.length c2] 26)).alloc (.cells #[.slice A3 zs.length c3] 26)) (.cells #[.int .i64 0, .bool false, .int .i64 0] 58)
      simpa only [World.size_alloc] using this⟩
    have hK2 := hK1.ext hb1
    simp only [World.size_alloc] at hK2
    generalize hgW : (((w.alloc (.cells #[.slice A1 xs.length c1] 26)).alloc (.cells #[.slice A2 ys.length c2] 26)).alloc (.cells #[.slice A3 zs.length c3] 26)).alloc (.cells #[.int .i64 0, .bool false, .int .i64 0] 58) = W0 at *
    clear hK0 hK1 hb1 hgW
    have K := Lib.hid (And.intro hK2 hr1)
    clear hK2 hr1
    have q1 := (K.out.1.cells (⟨w.heap.size, 0, none⟩, .slice A1 xs.length c1) (List.mem_of_getElem? (i := 2) rfl)).2
    have q2 := (K.out.1.cells (⟨w.heap.size + 1, 0, none⟩, .slice A2 ys.length c2) (List.mem_of_getElem? (i := 1) rfl)).2
    have q3 := (K.out.1.cells (⟨w.heap.size + 1 + 1, 0, none⟩, .slice A3 zs.length c3) (List.mem_of_getElem? (i := 0) rfl)).2
    go_wp2_with (go_at_call 97; refine (three_any A1 A2 A3 c1 c2 c3 xs ys zs _ (K.out.1.rds (A1, xs) (List.mem_of_getElem? (i := 2) rfl)) (K.out.1.rds (A2, ys) (List.mem_of_getElem? (i := 1) rfl)) (K.out.1.rds (A3, zs) (List.mem_of_getElem? (i := 0) rfl)) M.out.1 M.out.2.1 M.out.2.2).mono ?_; rw [HO.out, errB_f]; rintro e y1 ⟨rfl, hb⟩; have K1 := Lib.hid (And.intro (K.out.1.ext hb) (And.intro (K.out.2.ext hb K.out.2.lt) (trivial))); obtain ⟨z0, z1, z2, zf⟩ := three_cells K1.out.2.1.row; have f0 := zf 0; have f1 := zf 1; have f2 := zf 2; clear zf; have HS := Lib.hid (And.intro (K1.out.2.1.set3 (.int .i64 0) (.bool false) (.int .i64 1)) (((K1.out.1.bl.setCell (p := ⟨w.heap.size + 1 + 1 + 1, 0, none⟩) (by show w.heap.size ≤ w.heap.size + 1 + 1 + 1; omega) (.int .i64 0)).setCell (p := ⟨w.heap.size + 1 + 1 + 1, 1, none⟩) (by show w.heap.size ≤ w.heap.size + 1 + 1 + 1; omega) (.bool false)).setCell (p := ⟨w.heap.size + 1 + 1 + 1, 2, none⟩) (by show w.heap.size ≤ w.heap.size + 1 + 1 + 1; omega) (.int .i64 1))); clear hb)
    have q90 := HS.out.1.cell (i := 0)
    have q91 := HS.out.1.cell (i := 1)
    have q92 := HS.out.1.cell (i := 2)
    simp only [List.getElem?_toArray, List.getElem?_cons_zero, List.getElem?_cons_succ] at q90 q91 q92
    exact bodyPost_ret (v := .agg #[.int .i64 0, .bool false, .int .i64 1]) (by simp [results, Try.results37, go_sem, q90, q91, q92]) rfl ⟨rfl, HS.out.2⟩
  | true =>
    have HO := Lib.hid ho
    have V := Lib.hid (show (Valid xs ∧ Valid ys ∧ ys.length = xs.length) ∧ (Valid xs ∧ Valid zs ∧ zs.length = xs.length) from by
      unfold ok3' at ho
      rw [Bool.and_eq_true] at ho
      exact ⟨ok2_iff.1 ho.1, ok2_iff.1 ho.2⟩)
    rw [if_pos rfl, Bool.true_and, errB_t]
    clear ho
    go_enter Try.func37, Try.ntmps37
    go_upto_region 1 with fail
    have hK1 := (((hK0.one (.slice A1 xs.length c1) 26).one (.slice A2 ys.length c2) 26).one (.slice A3 zs.length c3) 26)
    have hb1 := (Below.refl _ (((w.alloc (.cells #[.slice A1 xs.length c1] 26)).alloc (.cells #[.slice A2 ys.length c2] 26)).alloc (.cells #[.slice A3 zs.length c3] 26))).alloc (Nat.le_refl _) (.cells #[.int .i64 0, .bool false, .int .i64 0] 58)
    have hr1 : Row ((((w.alloc (.cells #[.slice A1 xs.length c1] 26)).alloc (.cells #[.slice A2 ys.length c2] 26)).alloc (.cells #[.slice A3 zs.length c3] 26)).alloc (.cells #[.int .i64 0, .bool false, .int .i64 0] 58)) (w.heap.size + 1 + 1 + 1) #[.int .i64 0, .bool false, .int .i64 0] 58 := ⟨by
      have := heap_alloc_new (((w.alloc (.cells #[.slice A1 xs.length c1] 26)).alloc (.cells #[.slice A2 ys.length c2] 26)).alloc (.cells #[.slice A3 zs.length c3] 26)) (.cells #[.int .i64 0, .bool false, .int .i64 0] 58)
      simpa only [World.size_alloc] using this⟩
    have hK2 := hK1.ext hb1
    simp only [World.size_alloc] at hK2
    generalize hgW : (((w.alloc (.cells #[.slice A1 xs.length c1] 26)).alloc (.cells #[.slice A2 ys.length c2] 26)).alloc (.cells #[.slice A3 zs.length c3] 26)).alloc (.cells #[.int .i64 0, .bool false, .int .i64 0] 58) = W0 at *
    clear hK0 hK1 hb1 hgW
    have K := Lib.hid (And.intro hK2 hr1)
    clear hK2 hr1
    have q1 := (K.out.1.cells (⟨w.heap.size, 0, none⟩, .slice A1 xs.length c1) (List.mem_of_getElem? (i := 2) rfl)).2
    have q2 := (K.out.1.cells (⟨w.heap.size + 1, 0, none⟩, .slice A2 ys.length c2) (List.mem_of_getElem? (i := 1) rfl)).2
    have q3 := (K.out.1.cells (⟨w.heap.size + 1 + 1, 0, none⟩, .slice A3 zs.length c3) (List.mem_of_getElem? (i := 0) rfl)).2
    go_wp2_with (first
      | (go_at_call 99; have _t := K1; clear _t; refine (rserved_any A1 A2 A3 c1 c2 c3 xs ys zs _ (K1.out.1.rds (A1, xs) (List.mem_of_getElem? (i := 2) rfl)) (K1.out.1.rds (A2, ys) (List.mem_of_getElem? (i := 1) rfl)) (K1.out.1.rds (A3, zs) (List.mem_of_getElem? (i := 0) rfl)) (by have := V.out.1.1.2.1; omega) V.out.1.2.2 V.out.2.2.2 V.out.1.1.small V.out.2.2.1.small).mono ?_; rintro e y2 ⟨rfl, hb⟩; have K2 := Lib.hid (And.intro (K1.out.1.ext hb) (And.intro (K1.out.2.1.ext hb K1.out.2.1.lt) (trivial))); obtain ⟨z0, z1, z2, zf⟩ := three_cells K2.out.2.1.row; have f0 := zf 0; have f1 := zf 1; have f2 := zf 2; clear zf; have HS := Lib.hid (And.intro (K2.out.2.1.set3 (.int .i64 (servedI xs ys zs)) (.bool (servedOk xs ys zs)) (.int .i64 0)) (((K2.out.1.bl.setCell (p := ⟨w.heap.size + 1 + 1 + 1, 0, none⟩) (by show w.heap.size ≤ w.heap.size + 1 + 1 + 1; omega) (.int .i64 (servedI xs ys zs))).setCell (p := ⟨w.heap.size + 1 + 1 + 1, 1, none⟩) (by show w.heap.size ≤ w.heap.size + 1 + 1 + 1; omega) (.bool (servedOk xs ys zs))).setCell (p := ⟨w.heap.size + 1 + 1 + 1, 2, none⟩) (by show w.heap.size ≤ w.heap.size + 1 + 1 + 1; omega) (.int .i64 0))); clear hb)
      | (go_at_call 97; refine (three_any A1 A2 A3 c1 c2 c3 xs ys zs _ (K.out.1.rds (A1, xs) (List.mem_of_getElem? (i := 2) rfl)) (K.out.1.rds (A2, ys) (List.mem_of_getElem? (i := 1) rfl)) (K.out.1.rds (A3, zs) (List.mem_of_getElem? (i := 0) rfl)) M.out.1 M.out.2.1 M.out.2.2).mono ?_; rw [HO.out, errB_t]; rintro e y1 ⟨rfl, hb⟩; have K1 := Lib.hid (And.intro (K.out.1.ext hb) (And.intro (K.out.2.ext hb K.out.2.lt) (trivial))); have s1_1 := (K1.out.1.cells (⟨w.heap.size, 0, none⟩, .slice A1 xs.length c1) (List.mem_of_getElem? (i := 2) rfl)).2; have s1_2 := (K1.out.1.cells (⟨w.heap.size + 1, 0, none⟩, .slice A2 ys.length c2) (List.mem_of_getElem? (i := 1) rfl)).2; have s1_3 := (K1.out.1.cells (⟨w.heap.size + 1 + 1, 0, none⟩, .slice A3 zs.length c3) (List.mem_of_getElem? (i := 0) rfl)).2; clear hb))
    have q90 := HS.out.1.cell (i := 0)
    have q91 := HS.out.1.cell (i := 1)
    have q92 := HS.out.1.cell (i := 2)
    simp only [List.getElem?_toArray, List.getElem?_cons_zero, List.getElem?_cons_succ] at q90 q91 q92
    exact bodyPost_ret (v := .agg #[.int .i64 (servedI xs ys zs), .bool (servedOk xs ys zs), .int .i64 0]) (by simp [results, Try.results37, go_sem, q90, q91, q92]) rfl ⟨rfl, HS.out.2⟩
set_option maxRecDepth 100000 in
set_option maxHeartbeats 3200000 in
theorem rObeys_any (A1 : Option Addr) (A2 : Option Addr) (c1 : Nat) (c2 : Nat) (xs : List Int) (ys : List Int) (w : World) (r1 : Rd w w.heap.size A1 xs) (r2 : Rd w w.heap.size A2 ys) (m1 : xs.length ≤ maxLen) (m2 : ys.length ≤ maxLen) :
    Calls Try.prog 58 #[.agg #[.slice A1 xs.length c1], .agg #[.slice A2 ys.length c2]] w fun e w' => e = .returned (.agg #[.int .i64 (pickI (ok2 xs ys) (brkLo (brk xs ys))), .int .i64 (pickI (ok2 xs ys) (brkHi (brk xs ys))), .bool (ok2 xs ys && obeysB xs ys), .int .i64 (errB (ok2 xs ys))]) ∧ Below w.heap.size w w' := by
  have hK : Ex w w [] [] := ⟨Below.refl _ _, fun p hp => (by cases hp), fun p hp => (by cases hp)⟩
  have hK0 := (hK.addRd r1).addRd r2
  have M := Lib.hid (And.intro m1 (And.intro m2 trivial))
  clear hK r1 m1 r2 m2
  cases ho : ok2 xs ys with
  | false =>
    have HO := Lib.hid ho
    rw [pickI_f, pickI_f, Bool.false_and, errB_f]
    clear ho
    go_enter Try.func58, Try.ntmps58
    go_upto_region 1 with fail
    have hK1 := ((hK0.one (.slice A1 xs.length c1) 26).one (.slice A2 ys.length c2) 26)
    have hb1 := (Below.refl _ ((w.alloc (.cells #[.slice A1 xs.length c1] 26)).alloc (.cells #[.slice A2 ys.length c2] 26))).alloc (Nat.le_refl _) (.cells #[.int .i64 0, .int .i64 0, .bool false, .int .i64 0] 77)
    have hr1 : Row (((w.alloc (.cells #[.slice A1 xs.length c1] 26)).alloc (.cells #[.slice A2 ys.length c2] 26)).alloc (.cells #[.int .i64 0, .int .i64 0, .bool false, .int .i64 0] 77)) (w.heap.size + 1 + 1) #[.int .i64 0, .int .i64 0, .bool false, .int .i64 0] 77 := ⟨by
      have := heap_alloc_new ((w.alloc (.cells #[.slice A1 xs.length c1] 26)).alloc (.cells #[.slice A2 ys.length c2] 26)) (.cells #[.int .i64 0, .int .i64 0, .bool false, .int .i64 0] 77)
      simpa only [World.size_alloc] using this⟩
    have hK2 := hK1.ext hb1
    simp only [World.size_alloc] at hK2
    generalize hgW : ((w.alloc (.cells #[.slice A1 xs.length c1] 26)).alloc (.cells #[.slice A2 ys.length c2] 26)).alloc (.cells #[.int .i64 0, .int .i64 0, .bool false, .int .i64 0] 77) = W0 at *
    clear hK0 hK1 hb1 hgW
    have K := Lib.hid (And.intro hK2 hr1)
    clear hK2 hr1
    have q1 := (K.out.1.cells (⟨w.heap.size, 0, none⟩, .slice A1 xs.length c1) (List.mem_of_getElem? (i := 1) rfl)).2
    have q2 := (K.out.1.cells (⟨w.heap.size + 1, 0, none⟩, .slice A2 ys.length c2) (List.mem_of_getElem? (i := 0) rfl)).2
    go_wp2_with (go_at_call 93; refine (Both_any A1 A2 c1 c2 xs ys _ (K.out.1.rds (A1, xs) (List.mem_of_getElem? (i := 1) rfl)) (K.out.1.rds (A2, ys) (List.mem_of_getElem? (i := 0) rfl)) M.out.1 M.out.2.1).mono ?_; rw [HO.out, errB_f]; rintro e y1 ⟨rfl, hb⟩; have K1 := Lib.hid (And.intro (K.out.1.ext hb) (And.intro (K.out.2.ext hb K.out.2.lt) (trivial))); obtain ⟨z0, z1, z2, z3, zf⟩ := four_cells K1.out.2.1.row; have f0 := zf 0; have f1 := zf 1; have f2 := zf 2; have f3 := zf 3; clear zf; have HS := Lib.hid (And.intro (K1.out.2.1.set4 (.int .i64 0) (.int .i64 0) (.bool false) (.int .i64 1)) ((((K1.out.1.bl.setCell (p := ⟨w.heap.size + 1 + 1, 0, none⟩) (by show w.heap.size ≤ w.heap.size + 1 + 1; omega) (.int .i64 0)).setCell (p := ⟨w.heap.size + 1 + 1, 1, none⟩) (by show w.heap.size ≤ w.heap.size + 1 + 1; omega) (.int .i64 0)).setCell (p := ⟨w.heap.size + 1 + 1, 2, none⟩) (by show w.heap.size ≤ w.heap.size + 1 + 1; omega) (.bool false)).setCell (p := ⟨w.heap.size + 1 + 1, 3, none⟩) (by show w.heap.size ≤ w.heap.size + 1 + 1; omega) (.int .i64 1))); clear hb)
    have q90 := HS.out.1.cell (i := 0)
    have q91 := HS.out.1.cell (i := 1)
    have q92 := HS.out.1.cell (i := 2)
    have q93 := HS.out.1.cell (i := 3)
    simp only [List.getElem?_toArray, List.getElem?_cons_zero, List.getElem?_cons_succ] at q90 q91 q92 q93
    exact bodyPost_ret (v := .agg #[.int .i64 0, .int .i64 0, .bool false, .int .i64 1]) (by simp [results, Try.results58, go_sem, q90, q91, q92, q93]) rfl ⟨rfl, HS.out.2⟩
  | true =>
    have HO := Lib.hid ho
    have V := Lib.hid (ok2_iff.1 ho)
    rw [pickI_t, pickI_t, Bool.true_and, errB_t]
    clear ho
    go_enter Try.func58, Try.ntmps58
    go_upto_region 1 with fail
    have hK1 := ((hK0.one (.slice A1 xs.length c1) 26).one (.slice A2 ys.length c2) 26)
    have hb1 := (Below.refl _ ((w.alloc (.cells #[.slice A1 xs.length c1] 26)).alloc (.cells #[.slice A2 ys.length c2] 26))).alloc (Nat.le_refl _) (.cells #[.int .i64 0, .int .i64 0, .bool false, .int .i64 0] 77)
    have hr1 : Row (((w.alloc (.cells #[.slice A1 xs.length c1] 26)).alloc (.cells #[.slice A2 ys.length c2] 26)).alloc (.cells #[.int .i64 0, .int .i64 0, .bool false, .int .i64 0] 77)) (w.heap.size + 1 + 1) #[.int .i64 0, .int .i64 0, .bool false, .int .i64 0] 77 := ⟨by
      have := heap_alloc_new ((w.alloc (.cells #[.slice A1 xs.length c1] 26)).alloc (.cells #[.slice A2 ys.length c2] 26)) (.cells #[.int .i64 0, .int .i64 0, .bool false, .int .i64 0] 77)
      simpa only [World.size_alloc] using this⟩
    have hK2 := hK1.ext hb1
    simp only [World.size_alloc] at hK2
    generalize hgW : ((w.alloc (.cells #[.slice A1 xs.length c1] 26)).alloc (.cells #[.slice A2 ys.length c2] 26)).alloc (.cells #[.int .i64 0, .int .i64 0, .bool false, .int .i64 0] 77) = W0 at *
    clear hK0 hK1 hb1 hgW
    have K := Lib.hid (And.intro hK2 hr1)
    clear hK2 hr1
    have q1 := (K.out.1.cells (⟨w.heap.size, 0, none⟩, .slice A1 xs.length c1) (List.mem_of_getElem? (i := 1) rfl)).2
    have q2 := (K.out.1.cells (⟨w.heap.size + 1, 0, none⟩, .slice A2 ys.length c2) (List.mem_of_getElem? (i := 0) rfl)).2
    go_wp2_with (first
      | (go_at_call 98; have _t := K1; clear _t; refine (robeys_any A1 A2 c1 c2 xs ys _ (K1.out.1.rds (A1, xs) (List.mem_of_getElem? (i := 1) rfl)) (K1.out.1.rds (A2, ys) (List.mem_of_getElem? (i := 0) rfl)) V.out.1.1 (by have := V.out.1.2.1; omega) V.out.2.2 V.out.1.small (V.out.2.1.bd 0).1).mono ?_; rintro e y2 ⟨rfl, hb⟩; have K2 := Lib.hid (And.intro (K1.out.1.ext hb) (And.intro (K1.out.2.1.ext hb K1.out.2.1.lt) (trivial))); obtain ⟨z0, z1, z2, z3, zf⟩ := four_cells K2.out.2.1.row; have f0 := zf 0; have f1 := zf 1; have f2 := zf 2; have f3 := zf 3; clear zf; have HS := Lib.hid (And.intro (K2.out.2.1.set4 (.int .i64 (brkLo (brk xs ys))) (.int .i64 (brkHi (brk xs ys))) (.bool (brk xs ys).isNone) (.int .i64 0)) ((((K2.out.1.bl.setCell (p := ⟨w.heap.size + 1 + 1, 0, none⟩) (by show w.heap.size ≤ w.heap.size + 1 + 1; omega) (.int .i64 (brkLo (brk xs ys)))).setCell (p := ⟨w.heap.size + 1 + 1, 1, none⟩) (by show w.heap.size ≤ w.heap.size + 1 + 1; omega) (.int .i64 (brkHi (brk xs ys)))).setCell (p := ⟨w.heap.size + 1 + 1, 2, none⟩) (by show w.heap.size ≤ w.heap.size + 1 + 1; omega) (.bool (brk xs ys).isNone)).setCell (p := ⟨w.heap.size + 1 + 1, 3, none⟩) (by show w.heap.size ≤ w.heap.size + 1 + 1; omega) (.int .i64 0))); clear hb)
      | (go_at_call 93; refine (Both_any A1 A2 c1 c2 xs ys _ (K.out.1.rds (A1, xs) (List.mem_of_getElem? (i := 1) rfl)) (K.out.1.rds (A2, ys) (List.mem_of_getElem? (i := 0) rfl)) M.out.1 M.out.2.1).mono ?_; rw [HO.out, errB_t]; rintro e y1 ⟨rfl, hb⟩; have K1 := Lib.hid (And.intro (K.out.1.ext hb) (And.intro (K.out.2.ext hb K.out.2.lt) (trivial))); have s1_1 := (K1.out.1.cells (⟨w.heap.size, 0, none⟩, .slice A1 xs.length c1) (List.mem_of_getElem? (i := 1) rfl)).2; have s1_2 := (K1.out.1.cells (⟨w.heap.size + 1, 0, none⟩, .slice A2 ys.length c2) (List.mem_of_getElem? (i := 0) rfl)).2; clear hb))
    have q90 := HS.out.1.cell (i := 0)
    have q91 := HS.out.1.cell (i := 1)
    have q92 := HS.out.1.cell (i := 2)
    have q93 := HS.out.1.cell (i := 3)
    simp only [List.getElem?_toArray, List.getElem?_cons_zero, List.getElem?_cons_succ] at q90 q91 q92 q93
    exact bodyPost_ret (v := .agg #[.int .i64 (brkLo (brk xs ys)), .int .i64 (brkHi (brk xs ys)), .bool (brk xs ys).isNone, .int .i64 0]) (by simp [results, Try.results58, go_sem, q90, q91, q92, q93]) rfl ⟨rfl, HS.out.2⟩
set_option maxRecDepth 100000 in
set_option maxHeartbeats 3200000 in
theorem rCheck_any (A1 : Option Addr) (c1 : Nat) (xs : List Int) (w : World) (r1 : Rd w w.heap.size A1 xs) (m1 : xs.length ≤ maxLen) :
    Calls Try.prog 52 #[.agg #[.slice A1 xs.length c1]] w fun e w' => e = .returned (.int .i64 (errB (validB xs))) ∧ Below w.heap.size w w' := by
  have hK : Ex w w [] [] := ⟨Below.refl _ _, fun p hp => (by cases hp), fun p hp => (by cases hp)⟩
  have hK0 := hK.addRd r1
  have M := Lib.hid (And.intro m1 trivial)
  clear hK r1 m1
  cases ho : validB xs
  all_goals
    have HO := Lib.hid ho
    first | rw [errB_f] | rw [errB_t]
    clear ho
    go_enter Try.func52, Try.ntmps52
    go_upto_region 1 with fail
    have hK1 := (hK0.one (.slice A1 xs.length c1) 26)
    generalize hgW : w.alloc (.cells #[.slice A1 xs.length c1] 26) = W0 at *
    clear hK0 hgW
    have K := Lib.hid (And.intro hK1 trivial)
    clear hK1
    have q1 := (K.out.1.cells (⟨w.heap.size, 0, none⟩, .slice A1 xs.length c1) (List.mem_of_getElem? (i := 0) rfl)).2
    go_wp2_with (go_at_call 113; refine (Valid_any A1 c1 xs _ (K.out.1.rds (A1, xs) (List.mem_of_getElem? (i := 0) rfl)) M.out.1).mono ?_; rw [HO.out]; rintro e y1 ⟨rfl, hb⟩; have K1 := Lib.hid (And.intro (K.out.1.ext hb) (And.intro trivial (trivial))); clear hb)
    go_ret
    exact ⟨rfl, K1.out.1.bl⟩
set_option maxRecDepth 100000 in
set_option maxHeartbeats 3200000 in
theorem rSplit_any (A1 : Option Addr) (A2 : Option Addr) (c1 : Nat) (c2 : Nat) (xs : List Int) (ys : List Int) (step : Int) (w : World) (r1 : Rd w w.heap.size A1 xs) (r2 : Rd w w.heap.size A2 ys) (m1 : xs.length ≤ maxLen) (m2 : ys.length ≤ maxLen) :
    Calls Try.prog 51 #[.agg #[.slice A1 xs.length c1], .agg #[.slice A2 ys.length c2], .int .i64 step] w fun e w' => e = .returned (.tuple #[.int .i64 (splitN xs ys step), .int .i64 (stepE (ok2 xs ys) xs step)]) ∧ Below w.heap.size w w' := by
  have hK : Ex w w [] [] := ⟨Below.refl _ _, fun p hp => (by cases hp), fun p hp => (by cases hp)⟩
  have hK0 := (hK.addRd r1).addRd r2
  have M := Lib.hid (And.intro m1 (And.intro m2 trivial))
  clear hK r1 m1 r2 m2
  cases ho : ok2 xs ys with
  | false =>
    have HO := Lib.hid ho
    rw [show splitN xs ys step = 0 by simp [splitN, ho], show stepE false xs step = 1 from rfl]
    clear ho
    go_enter Try.func51, Try.ntmps51
    go_upto_region 1 with fail
    have hK1 := ((hK0.one (.slice A1 xs.length c1) 26).one (.slice A2 ys.length c2) 26)
    simp only [World.size_alloc] at hK1
    generalize hgW : (w.alloc (.cells #[.slice A1 xs.length c1] 26)).alloc (.cells #[.slice A2 ys.length c2] 26) = W0 at *
    clear hK0 hgW
    have K := Lib.hid (And.intro hK1 trivial)
    clear hK1
    have q1 := (K.out.1.cells (⟨w.heap.size, 0, none⟩, .slice A1 xs.length c1) (List.mem_of_getElem? (i := 1) rfl)).2
    have q2 := (K.out.1.cells (⟨w.heap.size + 1, 0, none⟩, .slice A2 ys.length c2) (List.mem_of_getElem? (i := 0) rfl)).2
    go_wp2_with (go_at_call 93; refine (Both_any A1 A2 c1 c2 xs ys _ (K.out.1.rds (A1, xs) (List.mem_of_getElem? (i := 1) rfl)) (K.out.1.rds (A2, ys) (List.mem_of_getElem? (i := 0) rfl)) M.out.1 M.out.2.1).mono ?_; rw [HO.out, errB_f]; rintro e y1 ⟨rfl, hb⟩; have K1 := Lib.hid (And.intro (K.out.1.ext hb) (And.intro trivial (trivial))); clear hb)
    go_ret2
    exact ⟨rfl, K1.out.1.bl⟩
  | true =>
    have HO := Lib.hid ho
    have V := Lib.hid (ok2_iff.1 ho)
    have h121 := V.out.1.2.1
    have h1 := V.out.1.1
    cases hs : withinB step 0 ((xs.length : Int) - 1) with
    | false =>
      rw [show splitN xs ys step = 0 by simp [splitN, hs], show stepE true xs step = 1 by simp [stepE, hs]]
      have HW := Lib.hid hs
      clear ho hs
      go_enter Try.func51, Try.ntmps51
      go_upto_region 1 with fail
      have hK1 := ((hK0.one (.slice A1 xs.length c1) 26).one (.slice A2 ys.length c2) 26)
      simp only [World.size_alloc] at hK1
      generalize hgW : (w.alloc (.cells #[.slice A1 xs.length c1] 26)).alloc (.cells #[.slice A2 ys.length c2] 26) = W0 at *
      clear hK0 hgW
      have K := Lib.hid (And.intro hK1 trivial)
      clear hK1
      have q1 := (K.out.1.cells (⟨w.heap.size, 0, none⟩, .slice A1 xs.length c1) (List.mem_of_getElem? (i := 1) rfl)).2
      have q2 := (K.out.1.cells (⟨w.heap.size + 1, 0, none⟩, .slice A2 ys.length c2) (List.mem_of_getElem? (i := 0) rfl)).2
      go_wp2_with (first
        | (go_at_call 77; refine (in_any _ _ _ _).mono ?_; rw [HW.out]; rintro e y2 ⟨rfl, rfl⟩)
        | (go_at_call 93; refine (Both_any A1 A2 c1 c2 xs ys _ (K.out.1.rds (A1, xs) (List.mem_of_getElem? (i := 1) rfl)) (K.out.1.rds (A2, ys) (List.mem_of_getElem? (i := 0) rfl)) M.out.1 M.out.2.1).mono ?_; rw [HO.out, errB_t]; rintro e y1 ⟨rfl, hb⟩; have K1 := Lib.hid (And.intro (K.out.1.ext hb) (And.intro trivial (trivial))); have s1_1 := (K1.out.1.cells (⟨w.heap.size, 0, none⟩, .slice A1 xs.length c1) (List.mem_of_getElem? (i := 1) rfl)).2; have s1_2 := (K1.out.1.cells (⟨w.heap.size + 1, 0, none⟩, .slice A2 ys.length c2) (List.mem_of_getElem? (i := 0) rfl)).2; clear hb))
      go_ret2
      exact ⟨rfl, K1.out.1.bl⟩
    | true =>
      have hst : 0 ≤ step ∧ step ≤ (xs.length : Int) - 1 := by unfold withinB at hs; simpa using hs
      obtain ⟨t, rfl⟩ : ∃ t : Nat, step = (t : Int) := ⟨step.toNat, by omega⟩
      rw [show splitN xs ys t = splitAt xs ys t by simp [splitN, ho, hs], show stepE true xs t = 0 by simp [stepE, hs]]
      have HW := Lib.hid hs
      have ht : t < xs.length := by omega
      clear ho hs hst
      go_enter Try.func51, Try.ntmps51
      go_upto_region 1 with fail
      have hK1 := ((hK0.one (.slice A1 xs.length c1) 26).one (.slice A2 ys.length c2) 26)
      simp only [World.size_alloc] at hK1
      generalize hgW : (w.alloc (.cells #[.slice A1 xs.length c1] 26)).alloc (.cells #[.slice A2 ys.length c2] 26) = W0 at *
      clear hK0 hgW
      have K := Lib.hid (And.intro hK1 trivial)
      clear hK1
      have q1 := (K.out.1.cells (⟨w.heap.size, 0, none⟩, .slice A1 xs.length c1) (List.mem_of_getElem? (i := 1) rfl)).2
      have q2 := (K.out.1.cells (⟨w.heap.size + 1, 0, none⟩, .slice A2 ys.length c2) (List.mem_of_getElem? (i := 0) rfl)).2
      go_wp2_with (first
        | (go_at_call 112; refine (rleast_any t A1 A2 c1 c2 xs ys _ (K1.out.1.rds (A1, xs) (List.mem_of_getElem? (i := 1) rfl)) (K1.out.1.rds (A2, ys) (List.mem_of_getElem? (i := 0) rfl)) ht (by omega) V.out.2.2 V.out.1.small V.out.2.1.small).mono ?_; rintro e y3 ⟨rfl, hb⟩; have K3 := Lib.hid (K1.out.1.ext hb); clear hb)
        | (go_at_call 77; refine (in_any _ _ _ _).mono ?_; rw [HW.out]; rintro e y2 ⟨rfl, rfl⟩)
        | (go_at_call 93; refine (Both_any A1 A2 c1 c2 xs ys _ (K.out.1.rds (A1, xs) (List.mem_of_getElem? (i := 1) rfl)) (K.out.1.rds (A2, ys) (List.mem_of_getElem? (i := 0) rfl)) M.out.1 M.out.2.1).mono ?_; rw [HO.out, errB_t]; rintro e y1 ⟨rfl, hb⟩; have K1 := Lib.hid (And.intro (K.out.1.ext hb) (And.intro trivial (trivial))); have s1_1 := (K1.out.1.cells (⟨w.heap.size, 0, none⟩, .slice A1 xs.length c1) (List.mem_of_getElem? (i := 1) rfl)).2; have s1_2 := (K1.out.1.cells (⟨w.heap.size + 1, 0, none⟩, .slice A2 ys.length c2) (List.mem_of_getElem? (i := 0) rfl)).2; clear hb))
      go_ret2
      exact ⟨rfl, K3.out.bl⟩
theorem flowE_cases (xs ys : List Int) : (ok2 xs ys = false ∧ flowE xs ys = 1) ∨ (ok2 xs ys = true ∧ clashB xs ys = true ∧ flowE xs ys = 9) ∨ (ok2 xs ys = true ∧ clashB xs ys = false ∧ flowE xs ys = 0) := by
  unfold flowE
  cases ok2 xs ys
  · exact .inl ⟨rfl, by simp⟩
  · cases clashB xs ys
    · exact .inr (.inr ⟨rfl, rfl, by simp⟩)
    · exact .inr (.inl ⟨rfl, rfl, by simp⟩)
/-- The greatest difference of two curves, and where. -/
def apartT (xs ys : List Int) : Nat × Int := topI (fun t => nth xs t - nth ys t) xs.length

set_option maxRecDepth 100000 in
set_option maxHeartbeats 3200000 in
theorem rStored_any (A1 : Option Addr) (A2 : Option Addr) (c1 : Nat) (c2 : Nat) (xs : List Int) (ys : List Int) (w : World) (r1 : Rd w w.heap.size A1 xs) (r2 : Rd w w.heap.size A2 ys) (m1 : xs.length ≤ maxLen) (m2 : ys.length ≤ maxLen) :
    Calls Try.prog 44 #[.agg #[.slice A1 xs.length c1], .agg #[.slice A2 ys.length c2]] w fun e w' => e = .returned (.agg #[.int .i64 (if flowE xs ys = 0 then (apartT xs ys).2 else 0), .int .i64 (if flowE xs ys = 0 then ((apartT xs ys).1 : Nat) else 0), .int .i64 (flowE xs ys)]) ∧ Below w.heap.size w w' := by
  have hK : Ex w w [] [] := ⟨Below.refl _ _, fun p hp => (by cases hp), fun p hp => (by cases hp)⟩
  have hK0 := (hK.addRd r1).addRd r2
  have M := Lib.hid (And.intro m1 (And.intro m2 trivial))
  clear hK r1 m1 r2 m2
  rcases flowE_cases xs ys with ⟨ho, he⟩ | ⟨ho, hc, he⟩ | ⟨ho, hc, he⟩
  · have HO := Lib.hid ho
    rw [he, if_neg (by decide), if_neg (by decide)]
    clear ho he
    go_enter Try.func44, Try.ntmps44
    go_upto_region 1 with fail
    have hK1 := ((hK0.one (.slice A1 xs.length c1) 26).one (.slice A2 ys.length c2) 26)
    have hb1 := (Below.refl _ ((w.alloc (.cells #[.slice A1 xs.length c1] 26)).alloc (.cells #[.slice A2 ys.length c2] 26))).alloc (Nat.le_refl _) (.cells #[.int .i64 0, .int .i64 0, .int .i64 0] 51)
    have hr1 : Row (((w.alloc (.cells #[.slice A1 xs.length c1] 26)).alloc (.cells #[.slice A2 ys.length c2] 26)).alloc (.cells #[.int .i64 0, .int .i64 0, .int .i64 0] 51)) (w.heap.size + 1 + 1) #[.int .i64 0, .int .i64 0, .int .i64 0] 51 := ⟨by
      have := heap_alloc_new ((w.alloc (.cells #[.slice A1 xs.length c1] 26)).alloc (.cells #[.slice A2 ys.length c2] 26)) (.cells #[.int .i64 0, .int .i64 0, .int .i64 0] 51)
      simpa only [World.size_alloc] using this⟩
    have hK2 := hK1.ext hb1
    simp only [World.size_alloc] at hK2
    generalize hgW : ((w.alloc (.cells #[.slice A1 xs.length c1] 26)).alloc (.cells #[.slice A2 ys.length c2] 26)).alloc (.cells #[.int .i64 0, .int .i64 0, .int .i64 0] 51) = W0 at *
    clear hK0 hK1 hb1 hgW
    have K := Lib.hid (And.intro hK2 hr1)
    clear hK2 hr1
    have q1 := (K.out.1.cells (⟨w.heap.size, 0, none⟩, .slice A1 xs.length c1) (List.mem_of_getElem? (i := 1) rfl)).2
    have q2 := (K.out.1.cells (⟨w.heap.size + 1, 0, none⟩, .slice A2 ys.length c2) (List.mem_of_getElem? (i := 0) rfl)).2
    go_wp2_with (go_at_call 93; refine (Both_any A1 A2 c1 c2 xs ys _ (K.out.1.rds (A1, xs) (List.mem_of_getElem? (i := 1) rfl)) (K.out.1.rds (A2, ys) (List.mem_of_getElem? (i := 0) rfl)) M.out.1 M.out.2.1).mono ?_; rw [HO.out, errB_f]; rintro e y1 ⟨rfl, hb⟩; have K1 := Lib.hid (And.intro (K.out.1.ext hb) (And.intro (K.out.2.ext hb K.out.2.lt) (trivial))); obtain ⟨z0, z1, z2, zf⟩ := three_cells K1.out.2.1.row; have f0 := zf 0; have f1 := zf 1; have f2 := zf 2; clear zf; have HS := Lib.hid (And.intro (K1.out.2.1.set3 (.int .i64 0) (.int .i64 0) (.int .i64 1)) (((K1.out.1.bl.setCell (p := ⟨w.heap.size + 1 + 1, 0, none⟩) (by show w.heap.size ≤ w.heap.size + 1 + 1; omega) (.int .i64 0)).setCell (p := ⟨w.heap.size + 1 + 1, 1, none⟩) (by show w.heap.size ≤ w.heap.size + 1 + 1; omega) (.int .i64 0)).setCell (p := ⟨w.heap.size + 1 + 1, 2, none⟩) (by show w.heap.size ≤ w.heap.size + 1 + 1; omega) (.int .i64 1))); clear hb)
    have q90 := HS.out.1.cell (i := 0)
    have q91 := HS.out.1.cell (i := 1)
    have q92 := HS.out.1.cell (i := 2)
    simp only [List.getElem?_toArray, List.getElem?_cons_zero, List.getElem?_cons_succ] at q90 q91 q92
    exact bodyPost_ret (v := .agg #[.int .i64 0, .int .i64 0, .int .i64 1]) (by simp [results, Try.results44, go_sem, q90, q91, q92]) rfl ⟨rfl, HS.out.2⟩
  · have HO := Lib.hid ho
    have V := Lib.hid (ok2_iff.1 ho)
    have HC := Lib.hid (show (!clashB xs ys) = false by rw [hc]; rfl)
    rw [he, if_neg (by decide), if_neg (by decide)]
    clear ho hc he
    go_enter Try.func44, Try.ntmps44
    go_upto_region 1 with fail
    have hK1 := ((hK0.one (.slice A1 xs.length c1) 26).one (.slice A2 ys.length c2) 26)
    have hb1 := (Below.refl _ ((w.alloc (.cells #[.slice A1 xs.length c1] 26)).alloc (.cells #[.slice A2 ys.length c2] 26))).alloc (Nat.le_refl _) (.cells #[.int .i64 0, .int .i64 0, .int .i64 0] 51)
    have hr1 : Row (((w.alloc (.cells #[.slice A1 xs.length c1] 26)).alloc (.cells #[.slice A2 ys.length c2] 26)).alloc (.cells #[.int .i64 0, .int .i64 0, .int .i64 0] 51)) (w.heap.size + 1 + 1) #[.int .i64 0, .int .i64 0, .int .i64 0] 51 := ⟨by
      have := heap_alloc_new ((w.alloc (.cells #[.slice A1 xs.length c1] 26)).alloc (.cells #[.slice A2 ys.length c2] 26)) (.cells #[.int .i64 0, .int .i64 0, .int .i64 0] 51)
      simpa only [World.size_alloc] using this⟩
    have hK2 := hK1.ext hb1
    simp only [World.size_alloc] at hK2
    generalize hgW : ((w.alloc (.cells #[.slice A1 xs.length c1] 26)).alloc (.cells #[.slice A2 ys.length c2] 26)).alloc (.cells #[.int .i64 0, .int .i64 0, .int .i64 0] 51) = W0 at *
    clear hK0 hK1 hb1 hgW
    have K := Lib.hid (And.intro hK2 hr1)
    clear hK2 hr1
    have q1 := (K.out.1.cells (⟨w.heap.size, 0, none⟩, .slice A1 xs.length c1) (List.mem_of_getElem? (i := 1) rfl)).2
    have q2 := (K.out.1.cells (⟨w.heap.size + 1, 0, none⟩, .slice A2 ys.length c2) (List.mem_of_getElem? (i := 0) rfl)).2
    go_wp2_with (first
      | (go_at_call 108; have _t := K1; clear _t; refine (rbelow_any A2 A1 c2 c1 ys xs _ (K1.out.1.rds (A2, ys) (List.mem_of_getElem? (i := 0) rfl)) (K1.out.1.rds (A1, xs) (List.mem_of_getElem? (i := 1) rfl)) (by have := V.out.2.1.2.1; omega) V.out.2.2.symm).mono ?_; rw [HC.out]; rintro e y2 ⟨rfl, hb⟩; have K2 := Lib.hid (And.intro (K1.out.1.ext hb) (And.intro (K1.out.2.1.ext hb K1.out.2.1.lt) (trivial))); obtain ⟨z0, z1, z2, zf⟩ := three_cells K2.out.2.1.row; have f0 := zf 0; have f1 := zf 1; have f2 := zf 2; clear zf; have HS := Lib.hid (And.intro (K2.out.2.1.set3 (.int .i64 0) (.int .i64 0) (.int .i64 9)) (((K2.out.1.bl.setCell (p := ⟨w.heap.size + 1 + 1, 0, none⟩) (by show w.heap.size ≤ w.heap.size + 1 + 1; omega) (.int .i64 0)).setCell (p := ⟨w.heap.size + 1 + 1, 1, none⟩) (by show w.heap.size ≤ w.heap.size + 1 + 1; omega) (.int .i64 0)).setCell (p := ⟨w.heap.size + 1 + 1, 2, none⟩) (by show w.heap.size ≤ w.heap.size + 1 + 1; omega) (.int .i64 9))); clear hb)
      | (go_at_call 93; refine (Both_any A1 A2 c1 c2 xs ys _ (K.out.1.rds (A1, xs) (List.mem_of_getElem? (i := 1) rfl)) (K.out.1.rds (A2, ys) (List.mem_of_getElem? (i := 0) rfl)) M.out.1 M.out.2.1).mono ?_; rw [HO.out, errB_t]; rintro e y1 ⟨rfl, hb⟩; have K1 := Lib.hid (And.intro (K.out.1.ext hb) (And.intro (K.out.2.ext hb K.out.2.lt) (trivial))); have s1_1 := (K1.out.1.cells (⟨w.heap.size, 0, none⟩, .slice A1 xs.length c1) (List.mem_of_getElem? (i := 1) rfl)).2; have s1_2 := (K1.out.1.cells (⟨w.heap.size + 1, 0, none⟩, .slice A2 ys.length c2) (List.mem_of_getElem? (i := 0) rfl)).2; clear hb))
    have q90 := HS.out.1.cell (i := 0)
    have q91 := HS.out.1.cell (i := 1)
    have q92 := HS.out.1.cell (i := 2)
    simp only [List.getElem?_toArray, List.getElem?_cons_zero, List.getElem?_cons_succ] at q90 q91 q92
    exact bodyPost_ret (v := .agg #[.int .i64 0, .int .i64 0, .int .i64 9]) (by simp [results, Try.results44, go_sem, q90, q91, q92]) rfl ⟨rfl, HS.out.2⟩
  · have HO := Lib.hid ho
    have V := Lib.hid (ok2_iff.1 ho)
    have HC := Lib.hid (show (!clashB xs ys) = true by rw [hc]; rfl)
    rw [he, if_pos rfl, if_pos rfl]
    clear ho hc he
    go_enter Try.func44, Try.ntmps44
    go_upto_region 1 with fail
    have hK1 := ((hK0.one (.slice A1 xs.length c1) 26).one (.slice A2 ys.length c2) 26)
    have hb1 := (Below.refl _ ((w.alloc (.cells #[.slice A1 xs.length c1] 26)).alloc (.cells #[.slice A2 ys.length c2] 26))).alloc (Nat.le_refl _) (.cells #[.int .i64 0, .int .i64 0, .int .i64 0] 51)
    have hr1 : Row (((w.alloc (.cells #[.slice A1 xs.length c1] 26)).alloc (.cells #[.slice A2 ys.length c2] 26)).alloc (.cells #[.int .i64 0, .int .i64 0, .int .i64 0] 51)) (w.heap.size + 1 + 1) #[.int .i64 0, .int .i64 0, .int .i64 0] 51 := ⟨by
      have := heap_alloc_new ((w.alloc (.cells #[.slice A1 xs.length c1] 26)).alloc (.cells #[.slice A2 ys.length c2] 26)) (.cells #[.int .i64 0, .int .i64 0, .int .i64 0] 51)
      simpa only [World.size_alloc] using this⟩
    have hK2 := hK1.ext hb1
    simp only [World.size_alloc] at hK2
    generalize hgW : ((w.alloc (.cells #[.slice A1 xs.length c1] 26)).alloc (.cells #[.slice A2 ys.length c2] 26)).alloc (.cells #[.int .i64 0, .int .i64 0, .int .i64 0] 51) = W0 at *
    clear hK0 hK1 hb1 hgW
    have K := Lib.hid (And.intro hK2 hr1)
    clear hK2 hr1
    have q1 := (K.out.1.cells (⟨w.heap.size, 0, none⟩, .slice A1 xs.length c1) (List.mem_of_getElem? (i := 1) rfl)).2
    have q2 := (K.out.1.cells (⟨w.heap.size + 1, 0, none⟩, .slice A2 ys.length c2) (List.mem_of_getElem? (i := 0) rfl)).2
    go_wp2_with (first
      | (go_at_call 94; have _t := K2; clear _t; refine (rapart_any A1 A2 c1 c2 xs ys _ (K2.out.1.rds (A1, xs) (List.mem_of_getElem? (i := 1) rfl)) (K2.out.1.rds (A2, ys) (List.mem_of_getElem? (i := 0) rfl)) V.out.1.1 (by have := V.out.1.2.1; omega) V.out.2.2 V.out.1.small V.out.2.1.small).mono ?_; rintro e y3 ⟨rfl, hb⟩; have K3 := Lib.hid (And.intro (K2.out.1.ext hb) (And.intro (K2.out.2.1.ext hb K2.out.2.1.lt) (trivial))); obtain ⟨z0, z1, z2, zf⟩ := three_cells K3.out.2.1.row; have f0 := zf 0; have f1 := zf 1; have f2 := zf 2; clear zf; have HS := Lib.hid (And.intro (K3.out.2.1.set3 (.int .i64 (topI (fun t => nth xs t - nth ys t) xs.length).2) (.int .i64 ((topI (fun t => nth xs t - nth ys t) xs.length).1 : Nat)) (.int .i64 0)) (((K3.out.1.bl.setCell (p := ⟨w.heap.size + 1 + 1, 0, none⟩) (by show w.heap.size ≤ w.heap.size + 1 + 1; omega) (.int .i64 (topI (fun t => nth xs t - nth ys t) xs.length).2)).setCell (p := ⟨w.heap.size + 1 + 1, 1, none⟩) (by show w.heap.size ≤ w.heap.size + 1 + 1; omega) (.int .i64 ((topI (fun t => nth xs t - nth ys t) xs.length).1 : Nat))).setCell (p := ⟨w.heap.size + 1 + 1, 2, none⟩) (by show w.heap.size ≤ w.heap.size + 1 + 1; omega) (.int .i64 0))); clear hb)
      | (go_at_call 108; have _t := K1; clear _t; refine (rbelow_any A2 A1 c2 c1 ys xs _ (K1.out.1.rds (A2, ys) (List.mem_of_getElem? (i := 0) rfl)) (K1.out.1.rds (A1, xs) (List.mem_of_getElem? (i := 1) rfl)) (by have := V.out.2.1.2.1; omega) V.out.2.2.symm).mono ?_; rw [HC.out]; rintro e y2 ⟨rfl, hb⟩; have K2 := Lib.hid (And.intro (K1.out.1.ext hb) (And.intro (K1.out.2.1.ext hb K1.out.2.1.lt) (trivial))); have s2_1 := (K2.out.1.cells (⟨w.heap.size, 0, none⟩, .slice A1 xs.length c1) (List.mem_of_getElem? (i := 1) rfl)).2; have s2_2 := (K2.out.1.cells (⟨w.heap.size + 1, 0, none⟩, .slice A2 ys.length c2) (List.mem_of_getElem? (i := 0) rfl)).2; clear hb)
      | (go_at_call 93; refine (Both_any A1 A2 c1 c2 xs ys _ (K.out.1.rds (A1, xs) (List.mem_of_getElem? (i := 1) rfl)) (K.out.1.rds (A2, ys) (List.mem_of_getElem? (i := 0) rfl)) M.out.1 M.out.2.1).mono ?_; rw [HO.out, errB_t]; rintro e y1 ⟨rfl, hb⟩; have K1 := Lib.hid (And.intro (K.out.1.ext hb) (And.intro (K.out.2.ext hb K.out.2.lt) (trivial))); have s1_1 := (K1.out.1.cells (⟨w.heap.size, 0, none⟩, .slice A1 xs.length c1) (List.mem_of_getElem? (i := 1) rfl)).2; have s1_2 := (K1.out.1.cells (⟨w.heap.size + 1, 0, none⟩, .slice A2 ys.length c2) (List.mem_of_getElem? (i := 0) rfl)).2; clear hb))
    have q90 := HS.out.1.cell (i := 0)
    have q91 := HS.out.1.cell (i := 1)
    have q92 := HS.out.1.cell (i := 2)
    simp only [List.getElem?_toArray, List.getElem?_cons_zero, List.getElem?_cons_succ] at q90 q91 q92
    exact bodyPost_ret (v := .agg #[.int .i64 (topI (fun t => nth xs t - nth ys t) xs.length).2, .int .i64 ((topI (fun t => nth xs t - nth ys t) xs.length).1 : Nat), .int .i64 0]) (by simp [results, Try.results44, go_sem, q90, q91, q92]) rfl ⟨rfl, HS.out.2⟩
set_option maxRecDepth 100000 in
set_option maxHeartbeats 3200000 in
theorem rWaited_any (A1 : Option Addr) (A2 : Option Addr) (c1 : Nat) (c2 : Nat) (xs : List Int) (ys : List Int) (w : World) (r1 : Rd w w.heap.size A1 xs) (r2 : Rd w w.heap.size A2 ys) (m1 : xs.length ≤ maxLen) (m2 : ys.length ≤ maxLen) :
    Calls Try.prog 46 #[.agg #[.slice A1 xs.length c1], .agg #[.slice A2 ys.length c2]] w fun e w' => e = .returned (.tuple #[.int .i64 (if flowE xs ys = 0 then waitI xs ys else 0), .int .i64 (flowE xs ys)]) ∧ Below w.heap.size w w' := by
  have hK : Ex w w [] [] := ⟨Below.refl _ _, fun p hp => (by cases hp), fun p hp => (by cases hp)⟩
  have hK0 := (hK.addRd r1).addRd r2
  have M := Lib.hid (And.intro m1 (And.intro m2 trivial))
  clear hK r1 m1 r2 m2
  rcases flowE_cases xs ys with ⟨ho, he⟩ | ⟨ho, hc, he⟩ | ⟨ho, hc, he⟩
  · have HO := Lib.hid ho
    rw [he, if_neg (by decide)]
    clear ho he
    go_enter Try.func46, Try.ntmps46
    go_upto_region 1 with fail
    have hK1 := ((hK0.one (.slice A1 xs.length c1) 26).one (.slice A2 ys.length c2) 26)
    simp only [World.size_alloc] at hK1
    generalize hgW : (w.alloc (.cells #[.slice A1 xs.length c1] 26)).alloc (.cells #[.slice A2 ys.length c2] 26) = W0 at *
    clear hK0 hgW
    have K := Lib.hid (And.intro hK1 trivial)
    clear hK1
    have q1 := (K.out.1.cells (⟨w.heap.size, 0, none⟩, .slice A1 xs.length c1) (List.mem_of_getElem? (i := 1) rfl)).2
    have q2 := (K.out.1.cells (⟨w.heap.size + 1, 0, none⟩, .slice A2 ys.length c2) (List.mem_of_getElem? (i := 0) rfl)).2
    go_wp2_with (go_at_call 93; refine (Both_any A1 A2 c1 c2 xs ys _ (K.out.1.rds (A1, xs) (List.mem_of_getElem? (i := 1) rfl)) (K.out.1.rds (A2, ys) (List.mem_of_getElem? (i := 0) rfl)) M.out.1 M.out.2.1).mono ?_; rw [HO.out, errB_f]; rintro e y1 ⟨rfl, hb⟩; have K1 := Lib.hid (And.intro (K.out.1.ext hb) (And.intro trivial (trivial))); clear hb)
    go_ret2
    exact ⟨rfl, K1.out.1.bl⟩
  · have HO := Lib.hid ho
    have V := Lib.hid (ok2_iff.1 ho)
    have HC := Lib.hid (show (!clashB xs ys) = false by rw [hc]; rfl)
    rw [he, if_neg (by decide)]
    clear ho hc he
    go_enter Try.func46, Try.ntmps46
    go_upto_region 1 with fail
    have hK1 := ((hK0.one (.slice A1 xs.length c1) 26).one (.slice A2 ys.length c2) 26)
    simp only [World.size_alloc] at hK1
    generalize hgW : (w.alloc (.cells #[.slice A1 xs.length c1] 26)).alloc (.cells #[.slice A2 ys.length c2] 26) = W0 at *
    clear hK0 hgW
    have K := Lib.hid (And.intro hK1 trivial)
    clear hK1
    have q1 := (K.out.1.cells (⟨w.heap.size, 0, none⟩, .slice A1 xs.length c1) (List.mem_of_getElem? (i := 1) rfl)).2
    have q2 := (K.out.1.cells (⟨w.heap.size + 1, 0, none⟩, .slice A2 ys.length c2) (List.mem_of_getElem? (i := 0) rfl)).2
    go_wp2_with (first
      | (go_at_call 108; have _t := K1; clear _t; refine (rbelow_any A2 A1 c2 c1 ys xs _ (K1.out.1.rds (A2, ys) (List.mem_of_getElem? (i := 0) rfl)) (K1.out.1.rds (A1, xs) (List.mem_of_getElem? (i := 1) rfl)) (by have := V.out.2.1.2.1; omega) V.out.2.2.symm).mono ?_; rw [HC.out]; rintro e y2 ⟨rfl, hb⟩; have K2 := Lib.hid (And.intro (K1.out.1.ext hb) (And.intro trivial (trivial))); clear hb)
      | (go_at_call 93; refine (Both_any A1 A2 c1 c2 xs ys _ (K.out.1.rds (A1, xs) (List.mem_of_getElem? (i := 1) rfl)) (K.out.1.rds (A2, ys) (List.mem_of_getElem? (i := 0) rfl)) M.out.1 M.out.2.1).mono ?_; rw [HO.out, errB_t]; rintro e y1 ⟨rfl, hb⟩; have K1 := Lib.hid (And.intro (K.out.1.ext hb) (And.intro trivial (trivial))); have s1_1 := (K1.out.1.cells (⟨w.heap.size, 0, none⟩, .slice A1 xs.length c1) (List.mem_of_getElem? (i := 1) rfl)).2; have s1_2 := (K1.out.1.cells (⟨w.heap.size + 1, 0, none⟩, .slice A2 ys.length c2) (List.mem_of_getElem? (i := 0) rfl)).2; clear hb))
    go_ret2
    exact ⟨rfl, K2.out.1.bl⟩
  · have HO := Lib.hid ho
    have V := Lib.hid (ok2_iff.1 ho)
    have HC := Lib.hid (show (!clashB xs ys) = true by rw [hc]; rfl)
    rw [he, if_pos rfl]
    clear ho hc he
    go_enter Try.func46, Try.ntmps46
    go_upto_region 1 with fail
    have hK1 := ((hK0.one (.slice A1 xs.length c1) 26).one (.slice A2 ys.length c2) 26)
    simp only [World.size_alloc] at hK1
    generalize hgW : (w.alloc (.cells #[.slice A1 xs.length c1] 26)).alloc (.cells #[.slice A2 ys.length c2] 26) = W0 at *
    clear hK0 hgW
    have K := Lib.hid (And.intro hK1 trivial)
    clear hK1
    have q1 := (K.out.1.cells (⟨w.heap.size, 0, none⟩, .slice A1 xs.length c1) (List.mem_of_getElem? (i := 1) rfl)).2
    have q2 := (K.out.1.cells (⟨w.heap.size + 1, 0, none⟩, .slice A2 ys.length c2) (List.mem_of_getElem? (i := 0) rfl)).2
    go_wp2_with (first
      | (go_at_call 96; have _t := K2; clear _t; refine (rlater_any A1 A2 c1 c2 xs ys _ (K2.out.1.rds (A1, xs) (List.mem_of_getElem? (i := 1) rfl)) (K2.out.1.rds (A2, ys) (List.mem_of_getElem? (i := 0) rfl)) V.out.1.1 (by have := V.out.1.2.1; omega) V.out.2.2).mono ?_; rintro e y3 ⟨rfl, hb⟩; have K3 := Lib.hid (And.intro (K2.out.1.ext hb) (And.intro trivial (trivial))); clear hb)
      | (go_at_call 108; have _t := K1; clear _t; refine (rbelow_any A2 A1 c2 c1 ys xs _ (K1.out.1.rds (A2, ys) (List.mem_of_getElem? (i := 0) rfl)) (K1.out.1.rds (A1, xs) (List.mem_of_getElem? (i := 1) rfl)) (by have := V.out.2.1.2.1; omega) V.out.2.2.symm).mono ?_; rw [HC.out]; rintro e y2 ⟨rfl, hb⟩; have K2 := Lib.hid (And.intro (K1.out.1.ext hb) (And.intro trivial (trivial))); have s2_1 := (K2.out.1.cells (⟨w.heap.size, 0, none⟩, .slice A1 xs.length c1) (List.mem_of_getElem? (i := 1) rfl)).2; have s2_2 := (K2.out.1.cells (⟨w.heap.size + 1, 0, none⟩, .slice A2 ys.length c2) (List.mem_of_getElem? (i := 0) rfl)).2; clear hb)
      | (go_at_call 93; refine (Both_any A1 A2 c1 c2 xs ys _ (K.out.1.rds (A1, xs) (List.mem_of_getElem? (i := 1) rfl)) (K.out.1.rds (A2, ys) (List.mem_of_getElem? (i := 0) rfl)) M.out.1 M.out.2.1).mono ?_; rw [HO.out, errB_t]; rintro e y1 ⟨rfl, hb⟩; have K1 := Lib.hid (And.intro (K.out.1.ext hb) (And.intro trivial (trivial))); have s1_1 := (K1.out.1.cells (⟨w.heap.size, 0, none⟩, .slice A1 xs.length c1) (List.mem_of_getElem? (i := 1) rfl)).2; have s1_2 := (K1.out.1.cells (⟨w.heap.size + 1, 0, none⟩, .slice A2 ys.length c2) (List.mem_of_getElem? (i := 0) rfl)).2; clear hb))
    go_ret2
    exact ⟨rfl, K3.out.1.bl⟩
set_option maxRecDepth 100000 in
set_option maxHeartbeats 3200000 in
theorem rBacklog_any (A1 : Option Addr) (A2 : Option Addr) (c1 : Nat) (c2 : Nat) (xs : List Int) (ys : List Int) (w : World) (r1 : Rd w w.heap.size A1 xs) (r2 : Rd w w.heap.size A2 ys) (m1 : xs.length ≤ maxLen) (m2 : ys.length ≤ maxLen) :
    Calls Try.prog 32 #[.agg #[.slice A1 xs.length c1], .agg #[.slice A2 ys.length c2]] w fun e w' => e = .returned (.agg #[.int .i64 (if ok2 xs ys then (apartT (closedL xs) ys).2 else 0), .int .i64 (if ok2 xs ys then ((apartT (closedL xs) ys).1 : Nat) else 0), .int .i64 (errB (ok2 xs ys))]) ∧ Below w.heap.size w w' := by
  have hK : Ex w w [] [] := ⟨Below.refl _ _, fun p hp => (by cases hp), fun p hp => (by cases hp)⟩
  have hK0 := (hK.addRd r1).addRd r2
  have M := Lib.hid (And.intro m1 (And.intro m2 trivial))
  clear hK r1 m1 r2 m2
  cases ho : ok2 xs ys with
  | false =>
    have HO := Lib.hid ho
    rw [if_neg (by simp), if_neg (by simp), errB_f]
    clear ho
    go_enter Try.func32, Try.ntmps32
    go_upto_region 1 with fail
    have hK1 := ((hK0.one (.slice A1 xs.length c1) 26).one (.slice A2 ys.length c2) 26)
    have hb1 := (Below.refl _ ((w.alloc (.cells #[.slice A1 xs.length c1] 26)).alloc (.cells #[.slice A2 ys.length c2] 26))).alloc (Nat.le_refl _) (.cells #[.int .i64 0, .int .i64 0, .int .i64 0] 51)
    have hr1 : Row (((w.alloc (.cells #[.slice A1 xs.length c1] 26)).alloc (.cells #[.slice A2 ys.length c2] 26)).alloc (.cells #[.int .i64 0, .int .i64 0, .int .i64 0] 51)) (w.heap.size + 1 + 1) #[.int .i64 0, .int .i64 0, .int .i64 0] 51 := ⟨by
      have := heap_alloc_new ((w.alloc (.cells #[.slice A1 xs.length c1] 26)).alloc (.cells #[.slice A2 ys.length c2] 26)) (.cells #[.int .i64 0, .int .i64 0, .int .i64 0] 51)
      simpa only [World.size_alloc] using this⟩
    have hK2 := hK1.ext hb1
    simp only [World.size_alloc] at hK2
    generalize hgW : ((w.alloc (.cells #[.slice A1 xs.length c1] 26)).alloc (.cells #[.slice A2 ys.length c2] 26)).alloc (.cells #[.int .i64 0, .int .i64 0, .int .i64 0] 51) = W0 at *
    clear hK0 hK1 hb1 hgW
    have K := Lib.hid (And.intro hK2 hr1)
    clear hK2 hr1
    have q1 := (K.out.1.cells (⟨w.heap.size, 0, none⟩, .slice A1 xs.length c1) (List.mem_of_getElem? (i := 1) rfl)).2
    have q2 := (K.out.1.cells (⟨w.heap.size + 1, 0, none⟩, .slice A2 ys.length c2) (List.mem_of_getElem? (i := 0) rfl)).2
    go_wp2_with (go_at_call 93; refine (Both_any A1 A2 c1 c2 xs ys _ (K.out.1.rds (A1, xs) (List.mem_of_getElem? (i := 1) rfl)) (K.out.1.rds (A2, ys) (List.mem_of_getElem? (i := 0) rfl)) M.out.1 M.out.2.1).mono ?_; rw [HO.out, errB_f]; rintro e y1 ⟨rfl, hb⟩; have K1 := Lib.hid (And.intro (K.out.1.ext hb) (And.intro (K.out.2.ext hb K.out.2.lt) (trivial))); obtain ⟨z0, z1, z2, zf⟩ := three_cells K1.out.2.1.row; have f0 := zf 0; have f1 := zf 1; have f2 := zf 2; clear zf; have HS := Lib.hid (And.intro (K1.out.2.1.set3 (.int .i64 0) (.int .i64 0) (.int .i64 1)) (((K1.out.1.bl.setCell (p := ⟨w.heap.size + 1 + 1, 0, none⟩) (by show w.heap.size ≤ w.heap.size + 1 + 1; omega) (.int .i64 0)).setCell (p := ⟨w.heap.size + 1 + 1, 1, none⟩) (by show w.heap.size ≤ w.heap.size + 1 + 1; omega) (.int .i64 0)).setCell (p := ⟨w.heap.size + 1 + 1, 2, none⟩) (by show w.heap.size ≤ w.heap.size + 1 + 1; omega) (.int .i64 1))); clear hb)
    have q90 := HS.out.1.cell (i := 0)
    have q91 := HS.out.1.cell (i := 1)
    have q92 := HS.out.1.cell (i := 2)
    simp only [List.getElem?_toArray, List.getElem?_cons_zero, List.getElem?_cons_succ] at q90 q91 q92
    exact bodyPost_ret (v := .agg #[.int .i64 0, .int .i64 0, .int .i64 1]) (by simp [results, Try.results32, go_sem, q90, q91, q92]) rfl ⟨rfl, HS.out.2⟩
  | true =>
    have HO := Lib.hid ho
    have V := Lib.hid (ok2_iff.1 ho)
    rw [if_pos rfl, if_pos rfl, errB_t]
    clear ho
    go_enter Try.func32, Try.ntmps32
    go_upto_region 1 with fail
    have hK1 := ((hK0.one (.slice A1 xs.length c1) 26).one (.slice A2 ys.length c2) 26)
    have hb1 := (Below.refl _ ((w.alloc (.cells #[.slice A1 xs.length c1] 26)).alloc (.cells #[.slice A2 ys.length c2] 26))).alloc (Nat.le_refl _) (.cells #[.int .i64 0, .int .i64 0, .int .i64 0] 51)
    have hr1 : Row (((w.alloc (.cells #[.slice A1 xs.length c1] 26)).alloc (.cells #[.slice A2 ys.length c2] 26)).alloc (.cells #[.int .i64 0, .int .i64 0, .int .i64 0] 51)) (w.heap.size + 1 + 1) #[.int .i64 0, .int .i64 0, .int .i64 0] 51 := ⟨by
      have := heap_alloc_new ((w.alloc (.cells #[.slice A1 xs.length c1] 26)).alloc (.cells #[.slice A2 ys.length c2] 26)) (.cells #[.int .i64 0, .int .i64 0, .int .i64 0] 51)
      simpa only [World.size_alloc] using this⟩
    have hK2 := hK1.ext hb1
    simp only [World.size_alloc] at hK2
    generalize hgW : ((w.alloc (.cells #[.slice A1 xs.length c1] 26)).alloc (.cells #[.slice A2 ys.length c2] 26)).alloc (.cells #[.int .i64 0, .int .i64 0, .int .i64 0] 51) = W0 at *
    clear hK0 hK1 hb1 hgW
    have K := Lib.hid (And.intro hK2 hr1)
    clear hK2 hr1
    have q1 := (K.out.1.cells (⟨w.heap.size, 0, none⟩, .slice A1 xs.length c1) (List.mem_of_getElem? (i := 1) rfl)).2
    have q2 := (K.out.1.cells (⟨w.heap.size + 1, 0, none⟩, .slice A2 ys.length c2) (List.mem_of_getElem? (i := 0) rfl)).2
    go_wp2_with (go_at_call 93; refine (Both_any A1 A2 c1 c2 xs ys _ (K.out.1.rds (A1, xs) (List.mem_of_getElem? (i := 1) rfl)) (K.out.1.rds (A2, ys) (List.mem_of_getElem? (i := 0) rfl)) M.out.1 M.out.2.1).mono ?_; rw [HO.out, errB_t]; rintro e y1 ⟨rfl, hb⟩; have K1 := Lib.hid (And.intro (K.out.1.ext hb) (And.intro (K.out.2.ext hb K.out.2.lt) (trivial))); have s1_1 := (K1.out.1.cells (⟨w.heap.size, 0, none⟩, .slice A1 xs.length c1) (List.mem_of_getElem? (i := 1) rfl)).2; have s1_2 := (K1.out.1.cells (⟨w.heap.size + 1, 0, none⟩, .slice A2 ys.length c2) (List.mem_of_getElem? (i := 0) rfl)).2; clear hb)
    clear q1 q2
    have q1 := (K1.out.1.cells (⟨w.heap.size, 0, none⟩, .slice A1 xs.length c1) (List.mem_of_getElem? (i := 1) rfl)).2
    have q2 := (K1.out.1.cells (⟨w.heap.size + 1, 0, none⟩, .slice A2 ys.length c2) (List.mem_of_getElem? (i := 0) rfl)).2
    have hdr : Below y1.heap.size y1 y1.drew := (Below.refl _ _).drew
    have HD := Lib.hid hdr
    clear hdr
    have n1 := set_oth (g := w.heap.size + 1 + 1) (b := w.heap.size) (o := 0) (by omega)
    have n2 := set_oth (g := w.heap.size + 1 + 1) (b := w.heap.size + 1) (o := 0) (by omega)
    go_region_held3 (fun W => W.cell? ⟨w.heap.size, 0, none⟩ = some (.slice A1 xs.length c1) ∧ W.cell? ⟨w.heap.size + 1, 0, none⟩ = some (.slice A2 ys.length c2)) (first | exact ⟨q1, q2⟩ | exact ⟨s1, s2⟩ | exact ⟨t1, t2⟩ | go_keep) (first
      | (go_at_call 94; have _t := K8; clear _t; refine (rapart_any A9 A2 c9 c2 (closedL xs) ys _ K8.out.2.2 (K8.out.1.rds (A2, ys) (List.mem_of_getElem? (i := 0) rfl)) (by rw [closedL_length]; exact V.out.1.1) (by rw [closedL_length]; have := V.out.1.2.1; omega) (by rw [closedL_length]; exact V.out.2.2) (closedL_small V.out.1) V.out.2.1.small).mono ?_; rintro e y9 ⟨rfl, hb⟩; have K9 := Lib.hid (And.intro (K8.out.1.ext hb) (And.intro (K8.out.2.1.ext hb K8.out.2.1.lt) trivial)); have t1 := (K9.out.1.cells (⟨w.heap.size, 0, none⟩, .slice A1 xs.length c1) (List.mem_of_getElem? (i := 1) rfl)).2; have t2 := (K9.out.1.cells (⟨w.heap.size + 1, 0, none⟩, .slice A2 ys.length c2) (List.mem_of_getElem? (i := 0) rfl)).2; obtain ⟨z0, z1, z2, zf⟩ := three_cells K9.out.2.1.row; have f0 := zf 0; have f1 := zf 1; have f2 := zf 2; clear zf; have HS := Lib.hid (And.intro (K9.out.2.1.set3 (.int .i64 (topI (fun t => nth (closedL xs) t - nth ys t) (closedL xs).length).2) (.int .i64 ((topI (fun t => nth (closedL xs) t - nth ys t) (closedL xs).length).1 : Nat)) (.int .i64 0)) (((K9.out.1.bl.setCell (p := ⟨w.heap.size + 1 + 1, 0, none⟩) (by show w.heap.size ≤ w.heap.size + 1 + 1; omega) (.int .i64 (topI (fun t => nth (closedL xs) t - nth ys t) (closedL xs).length).2)).setCell (p := ⟨w.heap.size + 1 + 1, 1, none⟩) (by show w.heap.size ≤ w.heap.size + 1 + 1; omega) (.int .i64 ((topI (fun t => nth (closedL xs) t - nth ys t) (closedL xs).length).1 : Nat))).setCell (p := ⟨w.heap.size + 1 + 1, 2, none⟩) (by show w.heap.size ≤ w.heap.size + 1 + 1; omega) (.int .i64 0))); clear hb)
      | (go_at_call 95; refine (rclosed_any A1 c1 xs _ ((K1.out.1.rds (A1, xs) (List.mem_of_getElem? (i := 1) rfl)).ext HD.out) V.out.1).mono ?_; rintro e y8 ⟨A9, c9, rfl, hr, hf, hb⟩; have hb' := HD.out.trans hb; have K8 := Lib.hid (And.intro (K1.out.1.ext hb') (And.intro (K1.out.2.1.ext hb' K1.out.2.1.lt) hr)); clear hb hb' hr hf; have s1 := (K8.out.1.cells (⟨w.heap.size, 0, none⟩, .slice A1 xs.length c1) (List.mem_of_getElem? (i := 1) rfl)).2; have s2 := (K8.out.1.cells (⟨w.heap.size + 1, 0, none⟩, .slice A2 ys.length c2) (List.mem_of_getElem? (i := 0) rfl)).2))
    go_wp2
    have q90 := HS.out.1.cell (i := 0)
    have q91 := HS.out.1.cell (i := 1)
    have q92 := HS.out.1.cell (i := 2)
    simp only [List.getElem?_toArray, List.getElem?_cons_zero, List.getElem?_cons_succ] at q90 q91 q92
    exact bodyPost_ret (v := .agg #[.int .i64 (topI (fun t => nth (closedL xs) t - nth ys t) (closedL xs).length).2, .int .i64 ((topI (fun t => nth (closedL xs) t - nth ys t) (closedL xs).length).1 : Nat), .int .i64 0]) (by simp [results, Try.results32, go_sem, q90, q91, q92]) rfl ⟨rfl, HS.out.2⟩
set_option maxRecDepth 100000 in
set_option maxHeartbeats 3200000 in
theorem rDelay_any (A1 : Option Addr) (A2 : Option Addr) (c1 : Nat) (c2 : Nat) (xs : List Int) (ys : List Int) (w : World) (r1 : Rd w w.heap.size A1 xs) (r2 : Rd w w.heap.size A2 ys) (m1 : xs.length ≤ maxLen) (m2 : ys.length ≤ maxLen) :
    Calls Try.prog 33 #[.agg #[.slice A1 xs.length c1], .agg #[.slice A2 ys.length c2]] w fun e w' => e = .returned (.tuple #[.int .i64 (if ok2 xs ys then delayI xs ys else 0), .int .i64 (errB (ok2 xs ys))]) ∧ Below w.heap.size w w' := by
  have hK : Ex w w [] [] := ⟨Below.refl _ _, fun p hp => (by cases hp), fun p hp => (by cases hp)⟩
  have hK0 := (hK.addRd r1).addRd r2
  have M := Lib.hid (And.intro m1 (And.intro m2 trivial))
  clear hK r1 m1 r2 m2
  cases ho : ok2 xs ys with
  | false =>
    have HO := Lib.hid ho
    rw [if_neg (by simp), errB_f]
    clear ho
    go_enter Try.func33, Try.ntmps33
    go_upto_region 1 with fail
    have hK1 := ((hK0.one (.slice A1 xs.length c1) 26).one (.slice A2 ys.length c2) 26)
    simp only [World.size_alloc] at hK1
    generalize hgW : (w.alloc (.cells #[.slice A1 xs.length c1] 26)).alloc (.cells #[.slice A2 ys.length c2] 26) = W0 at *
    clear hK0 hgW
    have K := Lib.hid (And.intro hK1 trivial)
    clear hK1
    have q1 := (K.out.1.cells (⟨w.heap.size, 0, none⟩, .slice A1 xs.length c1) (List.mem_of_getElem? (i := 1) rfl)).2
    have q2 := (K.out.1.cells (⟨w.heap.size + 1, 0, none⟩, .slice A2 ys.length c2) (List.mem_of_getElem? (i := 0) rfl)).2
    go_wp2_with (go_at_call 93; refine (Both_any A1 A2 c1 c2 xs ys _ (K.out.1.rds (A1, xs) (List.mem_of_getElem? (i := 1) rfl)) (K.out.1.rds (A2, ys) (List.mem_of_getElem? (i := 0) rfl)) M.out.1 M.out.2.1).mono ?_; rw [HO.out, errB_f]; rintro e y1 ⟨rfl, hb⟩; have K1 := Lib.hid (And.intro (K.out.1.ext hb) (And.intro trivial (trivial))); clear hb)
    go_ret2
    exact ⟨rfl, K1.out.1.bl⟩
  | true =>
    have HO := Lib.hid ho
    have V := Lib.hid (ok2_iff.1 ho)
    rw [if_pos rfl, errB_t]
    clear ho
    go_enter Try.func33, Try.ntmps33
    go_upto_region 1 with fail
    have hK1 := ((hK0.one (.slice A1 xs.length c1) 26).one (.slice A2 ys.length c2) 26)
    simp only [World.size_alloc] at hK1
    generalize hgW : (w.alloc (.cells #[.slice A1 xs.length c1] 26)).alloc (.cells #[.slice A2 ys.length c2] 26) = W0 at *
    clear hK0 hgW
    have K := Lib.hid (And.intro hK1 trivial)
    clear hK1
    have q1 := (K.out.1.cells (⟨w.heap.size, 0, none⟩, .slice A1 xs.length c1) (List.mem_of_getElem? (i := 1) rfl)).2
    have q2 := (K.out.1.cells (⟨w.heap.size + 1, 0, none⟩, .slice A2 ys.length c2) (List.mem_of_getElem? (i := 0) rfl)).2
    go_wp2_with (go_at_call 93; refine (Both_any A1 A2 c1 c2 xs ys _ (K.out.1.rds (A1, xs) (List.mem_of_getElem? (i := 1) rfl)) (K.out.1.rds (A2, ys) (List.mem_of_getElem? (i := 0) rfl)) M.out.1 M.out.2.1).mono ?_; rw [HO.out, errB_t]; rintro e y1 ⟨rfl, hb⟩; have K1 := Lib.hid (And.intro (K.out.1.ext hb) (And.intro trivial (trivial))); have s1_1 := (K1.out.1.cells (⟨w.heap.size, 0, none⟩, .slice A1 xs.length c1) (List.mem_of_getElem? (i := 1) rfl)).2; have s1_2 := (K1.out.1.cells (⟨w.heap.size + 1, 0, none⟩, .slice A2 ys.length c2) (List.mem_of_getElem? (i := 0) rfl)).2; clear hb)
    clear q1 q2
    have q1 := (K1.out.1.cells (⟨w.heap.size, 0, none⟩, .slice A1 xs.length c1) (List.mem_of_getElem? (i := 1) rfl)).2
    have q2 := (K1.out.1.cells (⟨w.heap.size + 1, 0, none⟩, .slice A2 ys.length c2) (List.mem_of_getElem? (i := 0) rfl)).2
    have hdr : Below y1.heap.size y1 y1.drew := (Below.refl _ _).drew
    have HD := Lib.hid hdr
    clear hdr
    go_region_held3 (fun W => W.cell? ⟨w.heap.size, 0, none⟩ = some (.slice A1 xs.length c1) ∧ W.cell? ⟨w.heap.size + 1, 0, none⟩ = some (.slice A2 ys.length c2)) (first | exact ⟨q1, q2⟩ | exact ⟨s1, s2⟩ | exact ⟨t1, t2⟩ | go_keep) (first
      | (go_at_call 96; have _t := K8; clear _t; refine (rlater_any A9 A2 c9 c2 (closedL xs) ys _ K8.out.2.2 (K8.out.1.rds (A2, ys) (List.mem_of_getElem? (i := 0) rfl)) (by rw [closedL_length]; exact V.out.1.1) (by rw [closedL_length]; have := V.out.1.2.1; omega) (by rw [closedL_length]; exact V.out.2.2)).mono ?_; rintro e y9 ⟨rfl, hb⟩; have K9 := Lib.hid (And.intro (K8.out.1.ext hb) (And.intro trivial trivial)); have t1 := (K9.out.1.cells (⟨w.heap.size, 0, none⟩, .slice A1 xs.length c1) (List.mem_of_getElem? (i := 1) rfl)).2; have t2 := (K9.out.1.cells (⟨w.heap.size + 1, 0, none⟩, .slice A2 ys.length c2) (List.mem_of_getElem? (i := 0) rfl)).2; clear hb)
      | (go_at_call 95; refine (rclosed_any A1 c1 xs _ ((K1.out.1.rds (A1, xs) (List.mem_of_getElem? (i := 1) rfl)).ext HD.out) V.out.1).mono ?_; rintro e y8 ⟨A9, c9, rfl, hr, hf, hb⟩; have hb' := HD.out.trans hb; have K8 := Lib.hid (And.intro (K1.out.1.ext hb') (And.intro trivial hr)); clear hb hb' hr hf; have s1 := (K8.out.1.cells (⟨w.heap.size, 0, none⟩, .slice A1 xs.length c1) (List.mem_of_getElem? (i := 1) rfl)).2; have s2 := (K8.out.1.cells (⟨w.heap.size + 1, 0, none⟩, .slice A2 ys.length c2) (List.mem_of_getElem? (i := 0) rfl)).2))
    go_wp2
    go_ret2
    exact ⟨rfl, K9.out.1.bl⟩
end Go.Proofs.Ytknkneccnhgjmaa
