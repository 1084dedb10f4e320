/- Walks: the reference's Join, Lower, Lead, Least, Close, Tightest. -/
import Derived.Test.YtknkneccnhgjmaaG4
import Derived.Test.YtknkneccnhgjmaaG5
import Derived.Test.YtknkneccnhgjmaaF5
namespace Go.Proofs.Ytknkneccnhgjmaa
open Go.RowKit Go.Shelf

theorem Ex.made {w W : World} {M : List (Addr × Value)} {R : List (Option Addr × List Int)} {g : Nat} {A : Option Addr} {c : Nat} {xs : List Int} {E : Int} (h : Ex w W M R) (hg : w.heap.size ≤ g) (hr : Rd W W.heap.size A xs) (hf : Fresh w.heap.size A) (hne : ∀ ad, A = some ad → ad.block ≠ g) :
    RMade w xs E (.returned (.agg #[.slice A xs.length c, .int .i64 E])) ((W.setCell ⟨g, 0, none⟩ (.slice A xs.length c)).setCell ⟨g, 1, none⟩ (.int .i64 E)) := made_fin h.bl hg hr hf hne
theorem Fresh.ne {L g : Nat} {A : Option Addr} (h : Fresh L A) (hg : g < L) : ∀ ad, A = some ad → ad.block ≠ g := fun ad e => by have := h ad e; omega
theorem none_fresh {L : Nat} : Fresh L none := fun _ e => by cases e
theorem none_ne {g : Nat} : ∀ ad : Addr, (none : Option Addr) = some ad → ad.block ≠ g := fun _ e => by cases e

set_option maxRecDepth 100000 in
set_option maxHeartbeats 3200000 in
theorem rLower_any (A1 : Option Addr) (A2 : Option Addr) (c1 : Nat) (c2 : Nat) (xs : List Int) (ys : List Int) (w : World) (r1 : Rd w w.heap.size A1 xs) (r2 : Rd w w.heap.size A2 ys) (m1 : xs.length ≤ maxLen) (m2 : ys.length ≤ maxLen) :
    Calls Try.prog 48 #[.agg #[.slice A1 xs.length c1], .agg #[.slice A2 ys.length c2]] w fun e w' => RMade w (pick (ok2 xs ys) (lowerL xs ys)) (errB (ok2 xs ys)) e w' := by
  have hK : Ex w w [] [] := ⟨Below.refl _ _, fun p hp => (by cases hp), fun p hp => (by cases hp)⟩
  have hK0 := (hK.addRd r1).addRd r2
  have M := Lib.hid (And.intro m1 (And.intro m2 trivial))
  clear hK r1 m1 r2 m2
  cases ho : ok2 xs ys with
  | false =>
    have HO := Lib.hid ho
    rw [pick_f, errB_f]
    clear ho
    go_enter Try.func48, Try.ntmps48
    go_upto_region 1 with fail
    have hK1 := ((hK0.one (.slice A1 xs.length c1) 26).one (.slice A2 ys.length c2) 26)
    have hb1 := (Below.refl _ ((w.alloc (.cells #[.slice A1 xs.length c1] 26)).alloc (.cells #[.slice A2 ys.length c2] 26))).alloc (Nat.le_refl _) (.cells #[.slice none 0 0, .int .i64 0] 61)
    have hr1 : Row (((w.alloc (.cells #[.slice A1 xs.length c1] 26)).alloc (.cells #[.slice A2 ys.length c2] 26)).alloc (.cells #[.slice none 0 0, .int .i64 0] 61)) (w.heap.size + 1 + 1) #[.slice none 0 0, .int .i64 0] 61 := ⟨by
      have := heap_alloc_new ((w.alloc (.cells #[.slice A1 xs.length c1] 26)).alloc (.cells #[.slice A2 ys.length c2] 26)) (.cells #[.slice none 0 0, .int .i64 0] 61)
      simpa only [World.size_alloc] using this⟩
    have hK2 := hK1.ext hb1
    simp only [World.size_alloc] at hK2
    generalize hgW : ((w.alloc (.cells #[.slice A1 xs.length c1] 26)).alloc (.cells #[.slice A2 ys.length c2] 26)).alloc (.cells #[.slice none 0 0, .int .i64 0] 61) = W0 at *
    clear hK0 hK1 hb1 hgW
    have K := Lib.hid (And.intro hK2 hr1)
    clear hK2 hr1
    have q1 := (K.out.1.cells (⟨w.heap.size, 0, none⟩, .slice A1 xs.length c1) (List.mem_of_getElem? (i := 1) rfl)).2
    have q2 := (K.out.1.cells (⟨w.heap.size + 1, 0, none⟩, .slice A2 ys.length c2) (List.mem_of_getElem? (i := 0) rfl)).2
    go_wp2_with (go_at_call 93; refine (Both_any A1 A2 c1 c2 xs ys _ (K.out.1.rds (A1, xs) (List.mem_of_getElem? (i := 1) rfl)) (K.out.1.rds (A2, ys) (List.mem_of_getElem? (i := 0) rfl)) M.out.1 M.out.2.1).mono ?_; rw [HO.out, errB_f]; rintro e y1 ⟨rfl, hb⟩; have K1 := Lib.hid (And.intro (K.out.1.ext hb) (And.intro (K.out.2.ext hb K.out.2.lt) (trivial))); obtain ⟨z0, z1, f0, f1⟩ := two_cells K1.out.2.1.row; have HS := Lib.hid (made_set K1.out.2.1 (.slice none 0 0) (.int .i64 1)); have HF := Lib.hid (K1.out.1.made (c := 0) (xs := []) (E := 1) (g := w.heap.size + 1 + 1) (by omega) Rd.nil none_fresh none_ne); clear hb)
    obtain ⟨⟨q0, q9⟩, _⟩ := HS.out
    exact bodyPost_ret (v := .agg #[.slice none 0 0, .int .i64 1]) (by simp [results, Try.results48, go_sem, q0, q9]) rfl HF.out
  | true =>
    have HO := Lib.hid ho
    have V := Lib.hid (ok2_iff.1 ho)
    rw [pick_t, errB_t]
    clear ho
    go_enter Try.func48, Try.ntmps48
    go_upto_region 1 with fail
    have hK1 := ((hK0.one (.slice A1 xs.length c1) 26).one (.slice A2 ys.length c2) 26)
    have hb1 := (Below.refl _ ((w.alloc (.cells #[.slice A1 xs.length c1] 26)).alloc (.cells #[.slice A2 ys.length c2] 26))).alloc (Nat.le_refl _) (.cells #[.slice none 0 0, .int .i64 0] 61)
    have hr1 : Row (((w.alloc (.cells #[.slice A1 xs.length c1] 26)).alloc (.cells #[.slice A2 ys.length c2] 26)).alloc (.cells #[.slice none 0 0, .int .i64 0] 61)) (w.heap.size + 1 + 1) #[.slice none 0 0, .int .i64 0] 61 := ⟨by
      have := heap_alloc_new ((w.alloc (.cells #[.slice A1 xs.length c1] 26)).alloc (.cells #[.slice A2 ys.length c2] 26)) (.cells #[.slice none 0 0, .int .i64 0] 61)
      simpa only [World.size_alloc] using this⟩
    have hK2 := hK1.ext hb1
    simp only [World.size_alloc] at hK2
    generalize hgW : ((w.alloc (.cells #[.slice A1 xs.length c1] 26)).alloc (.cells #[.slice A2 ys.length c2] 26)).alloc (.cells #[.slice none 0 0, .int .i64 0] 61) = W0 at *
    clear hK0 hK1 hb1 hgW
    have K := Lib.hid (And.intro hK2 hr1)
    clear hK2 hr1
    have q1 := (K.out.1.cells (⟨w.heap.size, 0, none⟩, .slice A1 xs.length c1) (List.mem_of_getElem? (i := 1) rfl)).2
    have q2 := (K.out.1.cells (⟨w.heap.size + 1, 0, none⟩, .slice A2 ys.length c2) (List.mem_of_getElem? (i := 0) rfl)).2
    go_wp2_with (first
      | (go_at_call 110; have _t := K1; clear _t; refine (rlower_any A1 A2 c1 c2 xs ys _ (K1.out.1.rds (A1, xs) (List.mem_of_getElem? (i := 1) rfl)) (K1.out.1.rds (A2, ys) (List.mem_of_getElem? (i := 0) rfl)) (by have := V.out.1.2.1; omega) V.out.2.2).mono ?_; rintro e y2 ⟨A9, c9, rfl, hr, hf, hb⟩; have K2 := Lib.hid (And.intro (K1.out.1.ext hb) (And.intro (K1.out.2.1.ext hb K1.out.2.1.lt) (And.intro hr (And.intro (hf.mono K1.out.1.bl.size) (hf.ne K1.out.2.1.lt))))); obtain ⟨z0, z1, f0, f1⟩ := two_cells K2.out.2.1.row; have HS := Lib.hid (made_set K2.out.2.1 (.slice A9 (lowerL xs ys).length c9) (.int .i64 0)); have HF := Lib.hid (K2.out.1.made (c := c9) (E := 0) (g := w.heap.size + 1 + 1) (by omega) K2.out.2.2.1 K2.out.2.2.2.1 K2.out.2.2.2.2); clear hb hr hf)
      | (go_at_call 93; refine (Both_any A1 A2 c1 c2 xs ys _ (K.out.1.rds (A1, xs) (List.mem_of_getElem? (i := 1) rfl)) (K.out.1.rds (A2, ys) (List.mem_of_getElem? (i := 0) rfl)) M.out.1 M.out.2.1).mono ?_; rw [HO.out, errB_t]; rintro e y1 ⟨rfl, hb⟩; have K1 := Lib.hid (And.intro (K.out.1.ext hb) (And.intro (K.out.2.ext hb K.out.2.lt) (trivial))); have s1_1 := (K1.out.1.cells (⟨w.heap.size, 0, none⟩, .slice A1 xs.length c1) (List.mem_of_getElem? (i := 1) rfl)).2; have s1_2 := (K1.out.1.cells (⟨w.heap.size + 1, 0, none⟩, .slice A2 ys.length c2) (List.mem_of_getElem? (i := 0) rfl)).2; clear hb))
    obtain ⟨⟨q0, q9⟩, _⟩ := HS.out
    exact bodyPost_ret (v := .agg #[.slice A9 (lowerL xs ys).length c9, .int .i64 0]) (by simp [results, Try.results48, go_sem, q0, q9]) rfl HF.out
set_option maxRecDepth 100000 in
set_option maxHeartbeats 3200000 in
theorem rLead_any (A1 : Option Addr) (A2 : Option Addr) (c1 : Nat) (c2 : Nat) (xs : List Int) (ys : List Int) (w : World) (r1 : Rd w w.heap.size A1 xs) (r2 : Rd w w.heap.size A2 ys) (m1 : xs.length ≤ maxLen) (m2 : ys.length ≤ maxLen) :
    Calls Try.prog 50 #[.agg #[.slice A1 xs.length c1], .agg #[.slice A2 ys.length c2]] w fun e w' => RMade w (pick (ok2 xs ys) (leadL xs ys)) (errB (ok2 xs ys)) e w' := by
  have hK : Ex w w [] [] := ⟨Below.refl _ _, fun p hp => (by cases hp), fun p hp => (by cases hp)⟩
  have hK0 := (hK.addRd r1).addRd r2
  have M := Lib.hid (And.intro m1 (And.intro m2 trivial))
  clear hK r1 m1 r2 m2
  cases ho : ok2 xs ys with
  | false =>
    have HO := Lib.hid ho
    rw [pick_f, errB_f]
    clear ho
    go_enter Try.func50, Try.ntmps50
    go_upto_region 1 with fail
    have hK1 := ((hK0.one (.slice A1 xs.length c1) 26).one (.slice A2 ys.length c2) 26)
    have hb1 := (Below.refl _ ((w.alloc (.cells #[.slice A1 xs.length c1] 26)).alloc (.cells #[.slice A2 ys.length c2] 26))).alloc (Nat.le_refl _) (.cells #[.slice none 0 0, .int .i64 0] 61)
    have hr1 : Row (((w.alloc (.cells #[.slice A1 xs.length c1] 26)).alloc (.cells #[.slice A2 ys.length c2] 26)).alloc (.cells #[.slice none 0 0, .int .i64 0] 61)) (w.heap.size + 1 + 1) #[.slice none 0 0, .int .i64 0] 61 := ⟨by
      have := heap_alloc_new ((w.alloc (.cells #[.slice A1 xs.length c1] 26)).alloc (.cells #[.slice A2 ys.length c2] 26)) (.cells #[.slice none 0 0, .int .i64 0] 61)
      simpa only [World.size_alloc] using this⟩
    have hK2 := hK1.ext hb1
    simp only [World.size_alloc] at hK2
    generalize hgW : ((w.alloc (.cells #[.slice A1 xs.length c1] 26)).alloc (.cells #[.slice A2 ys.length c2] 26)).alloc (.cells #[.slice none 0 0, .int .i64 0] 61) = W0 at *
    clear hK0 hK1 hb1 hgW
    have K := Lib.hid (And.intro hK2 hr1)
    clear hK2 hr1
    have q1 := (K.out.1.cells (⟨w.heap.size, 0, none⟩, .slice A1 xs.length c1) (List.mem_of_getElem? (i := 1) rfl)).2
    have q2 := (K.out.1.cells (⟨w.heap.size + 1, 0, none⟩, .slice A2 ys.length c2) (List.mem_of_getElem? (i := 0) rfl)).2
    go_wp2_with (go_at_call 93; refine (Both_any A1 A2 c1 c2 xs ys _ (K.out.1.rds (A1, xs) (List.mem_of_getElem? (i := 1) rfl)) (K.out.1.rds (A2, ys) (List.mem_of_getElem? (i := 0) rfl)) M.out.1 M.out.2.1).mono ?_; rw [HO.out, errB_f]; rintro e y1 ⟨rfl, hb⟩; have K1 := Lib.hid (And.intro (K.out.1.ext hb) (And.intro (K.out.2.ext hb K.out.2.lt) (trivial))); obtain ⟨z0, z1, f0, f1⟩ := two_cells K1.out.2.1.row; have HS := Lib.hid (made_set K1.out.2.1 (.slice none 0 0) (.int .i64 1)); have HF := Lib.hid (K1.out.1.made (c := 0) (xs := []) (E := 1) (g := w.heap.size + 1 + 1) (by omega) Rd.nil none_fresh none_ne); clear hb)
    obtain ⟨⟨q0, q9⟩, _⟩ := HS.out
    exact bodyPost_ret (v := .agg #[.slice none 0 0, .int .i64 1]) (by simp [results, Try.results50, go_sem, q0, q9]) rfl HF.out
  | true =>
    have HO := Lib.hid ho
    have V := Lib.hid (ok2_iff.1 ho)
    rw [pick_t, errB_t]
    clear ho
    go_enter Try.func50, Try.ntmps50
    go_upto_region 1 with fail
    have hK1 := ((hK0.one (.slice A1 xs.length c1) 26).one (.slice A2 ys.length c2) 26)
    have hb1 := (Below.refl _ ((w.alloc (.cells #[.slice A1 xs.length c1] 26)).alloc (.cells #[.slice A2 ys.length c2] 26))).alloc (Nat.le_refl _) (.cells #[.slice none 0 0, .int .i64 0] 61)
    have hr1 : Row (((w.alloc (.cells #[.slice A1 xs.length c1] 26)).alloc (.cells #[.slice A2 ys.length c2] 26)).alloc (.cells #[.slice none 0 0, .int .i64 0] 61)) (w.heap.size + 1 + 1) #[.slice none 0 0, .int .i64 0] 61 := ⟨by
      have := heap_alloc_new ((w.alloc (.cells #[.slice A1 xs.length c1] 26)).alloc (.cells #[.slice A2 ys.length c2] 26)) (.cells #[.slice none 0 0, .int .i64 0] 61)
      simpa only [World.size_alloc] using this⟩
    have hK2 := hK1.ext hb1
    simp only [World.size_alloc] at hK2
    generalize hgW : ((w.alloc (.cells #[.slice A1 xs.length c1] 26)).alloc (.cells #[.slice A2 ys.length c2] 26)).alloc (.cells #[.slice none 0 0, .int .i64 0] 61) = W0 at *
    clear hK0 hK1 hb1 hgW
    have K := Lib.hid (And.intro hK2 hr1)
    clear hK2 hr1
    have q1 := (K.out.1.cells (⟨w.heap.size, 0, none⟩, .slice A1 xs.length c1) (List.mem_of_getElem? (i := 1) rfl)).2
    have q2 := (K.out.1.cells (⟨w.heap.size + 1, 0, none⟩, .slice A2 ys.length c2) (List.mem_of_getElem? (i := 0) rfl)).2
    go_wp2_with (first
      | (go_at_call 104; have _t := K1; clear _t; refine (rlead_any A1 A2 c1 c2 xs ys _ (K1.out.1.rds (A1, xs) (List.mem_of_getElem? (i := 1) rfl)) (K1.out.1.rds (A2, ys) (List.mem_of_getElem? (i := 0) rfl)) (by have := V.out.1.2.1; omega) V.out.2.2 V.out.1.bd V.out.2.1.bd).mono ?_; rintro e y2 ⟨A9, c9, rfl, hr, hf, hb⟩; have K2 := Lib.hid (And.intro (K1.out.1.ext hb) (And.intro (K1.out.2.1.ext hb K1.out.2.1.lt) (And.intro hr (And.intro (hf.mono K1.out.1.bl.size) (hf.ne K1.out.2.1.lt))))); obtain ⟨z0, z1, f0, f1⟩ := two_cells K2.out.2.1.row; have HS := Lib.hid (made_set K2.out.2.1 (.slice A9 (leadL xs ys).length c9) (.int .i64 0)); have HF := Lib.hid (K2.out.1.made (c := c9) (E := 0) (g := w.heap.size + 1 + 1) (by omega) K2.out.2.2.1 K2.out.2.2.2.1 K2.out.2.2.2.2); clear hb hr hf)
      | (go_at_call 93; refine (Both_any A1 A2 c1 c2 xs ys _ (K.out.1.rds (A1, xs) (List.mem_of_getElem? (i := 1) rfl)) (K.out.1.rds (A2, ys) (List.mem_of_getElem? (i := 0) rfl)) M.out.1 M.out.2.1).mono ?_; rw [HO.out, errB_t]; rintro e y1 ⟨rfl, hb⟩; have K1 := Lib.hid (And.intro (K.out.1.ext hb) (And.intro (K.out.2.ext hb K.out.2.lt) (trivial))); have s1_1 := (K1.out.1.cells (⟨w.heap.size, 0, none⟩, .slice A1 xs.length c1) (List.mem_of_getElem? (i := 1) rfl)).2; have s1_2 := (K1.out.1.cells (⟨w.heap.size + 1, 0, none⟩, .slice A2 ys.length c2) (List.mem_of_getElem? (i := 0) rfl)).2; clear hb))
    obtain ⟨⟨q0, q9⟩, _⟩ := HS.out
    exact bodyPost_ret (v := .agg #[.slice A9 (leadL xs ys).length c9, .int .i64 0]) (by simp [results, Try.results50, go_sem, q0, q9]) rfl HF.out
set_option maxRecDepth 100000 in
set_option maxHeartbeats 3200000 in
theorem rLeast_any (A1 : Option Addr) (A2 : Option Addr) (c1 : Nat) (c2 : Nat) (xs : List Int) (ys : List Int) (w : World) (r1 : Rd w w.heap.size A1 xs) (r2 : Rd w w.heap.size A2 ys) (m1 : xs.length ≤ maxLen) (m2 : ys.length ≤ maxLen) :
    Calls Try.prog 39 #[.agg #[.slice A1 xs.length c1], .agg #[.slice A2 ys.length c2]] w fun e w' => RMade w (pick (ok2 xs ys) (leastL xs ys)) (errB (ok2 xs ys)) e w' := by
  have hK : Ex w w [] [] := ⟨Below.refl _ _, fun p hp => (by cases hp), fun p hp => (by cases hp)⟩
  have hK0 := (hK.addRd r1).addRd r2
  have M := Lib.hid (And.intro m1 (And.intro m2 trivial))
  clear hK r1 m1 r2 m2
  cases ho : ok2 xs ys with
  | false =>
    have HO := Lib.hid ho
    rw [pick_f, errB_f]
    clear ho
    go_enter Try.func39, Try.ntmps39
    go_upto_region 1 with fail
    have hK1 := ((hK0.one (.slice A1 xs.length c1) 26).one (.slice A2 ys.length c2) 26)
    have hb1 := (Below.refl _ ((w.alloc (.cells #[.slice A1 xs.length c1] 26)).alloc (.cells #[.slice A2 ys.length c2] 26))).alloc (Nat.le_refl _) (.cells #[.slice none 0 0, .int .i64 0] 61)
    have hr1 : Row (((w.alloc (.cells #[.slice A1 xs.length c1] 26)).alloc (.cells #[.slice A2 ys.length c2] 26)).alloc (.cells #[.slice none 0 0, .int .i64 0] 61)) (w.heap.size + 1 + 1) #[.slice none 0 0, .int .i64 0] 61 := ⟨by
      have := heap_alloc_new ((w.alloc (.cells #[.slice A1 xs.length c1] 26)).alloc (.cells #[.slice A2 ys.length c2] 26)) (.cells #[.slice none 0 0, .int .i64 0] 61)
      simpa only [World.size_alloc] using this⟩
    have hK2 := hK1.ext hb1
    simp only [World.size_alloc] at hK2
    generalize hgW : ((w.alloc (.cells #[.slice A1 xs.length c1] 26)).alloc (.cells #[.slice A2 ys.length c2] 26)).alloc (.cells #[.slice none 0 0, .int .i64 0] 61) = W0 at *
    clear hK0 hK1 hb1 hgW
    have K := Lib.hid (And.intro hK2 hr1)
    clear hK2 hr1
    have q1 := (K.out.1.cells (⟨w.heap.size, 0, none⟩, .slice A1 xs.length c1) (List.mem_of_getElem? (i := 1) rfl)).2
    have q2 := (K.out.1.cells (⟨w.heap.size + 1, 0, none⟩, .slice A2 ys.length c2) (List.mem_of_getElem? (i := 0) rfl)).2
    go_wp2_with (go_at_call 93; refine (Both_any A1 A2 c1 c2 xs ys _ (K.out.1.rds (A1, xs) (List.mem_of_getElem? (i := 1) rfl)) (K.out.1.rds (A2, ys) (List.mem_of_getElem? (i := 0) rfl)) M.out.1 M.out.2.1).mono ?_; rw [HO.out, errB_f]; rintro e y1 ⟨rfl, hb⟩; have K1 := Lib.hid (And.intro (K.out.1.ext hb) (And.intro (K.out.2.ext hb K.out.2.lt) (trivial))); obtain ⟨z0, z1, f0, f1⟩ := two_cells K1.out.2.1.row; have HS := Lib.hid (made_set K1.out.2.1 (.slice none 0 0) (.int .i64 1)); have HF := Lib.hid (K1.out.1.made (c := 0) (xs := []) (E := 1) (g := w.heap.size + 1 + 1) (by omega) Rd.nil none_fresh none_ne); clear hb)
    obtain ⟨⟨q0, q9⟩, _⟩ := HS.out
    exact bodyPost_ret (v := .agg #[.slice none 0 0, .int .i64 1]) (by simp [results, Try.results39, go_sem, q0, q9]) rfl HF.out
  | true =>
    have HO := Lib.hid ho
    have V := Lib.hid (ok2_iff.1 ho)
    rw [pick_t, errB_t]
    clear ho
    go_enter Try.func39, Try.ntmps39
    go_upto_region 1 with fail
    have hK1 := ((hK0.one (.slice A1 xs.length c1) 26).one (.slice A2 ys.length c2) 26)
    have hb1 := (Below.refl _ ((w.alloc (.cells #[.slice A1 xs.length c1] 26)).alloc (.cells #[.slice A2 ys.length c2] 26))).alloc (Nat.le_refl _) (.cells #[.slice none 0 0, .int .i64 0] 61)
    have hr1 : Row (((w.alloc (.cells #[.slice A1 xs.length c1] 26)).alloc (.cells #[.slice A2 ys.length c2] 26)).alloc (.cells #[.slice none 0 0, .int .i64 0] 61)) (w.heap.size + 1 + 1) #[.slice none 0 0, .int .i64 0] 61 := ⟨by
      have := heap_alloc_new ((w.alloc (.cells #[.slice A1 xs.length c1] 26)).alloc (.cells #[.slice A2 ys.length c2] 26)) (.cells #[.slice none 0 0, .int .i64 0] 61)
      simpa only [World.size_alloc] using this⟩
    have hK2 := hK1.ext hb1
    simp only [World.size_alloc] at hK2
    generalize hgW : ((w.alloc (.cells #[.slice A1 xs.length c1] 26)).alloc (.cells #[.slice A2 ys.length c2] 26)).alloc (.cells #[.slice none 0 0, .int .i64 0] 61) = W0 at *
    clear hK0 hK1 hb1 hgW
    have K := Lib.hid (And.intro hK2 hr1)
    clear hK2 hr1
    have q1 := (K.out.1.cells (⟨w.heap.size, 0, none⟩, .slice A1 xs.length c1) (List.mem_of_getElem? (i := 1) rfl)).2
    have q2 := (K.out.1.cells (⟨w.heap.size + 1, 0, none⟩, .slice A2 ys.length c2) (List.mem_of_getElem? (i := 0) rfl)).2
    go_wp2_with (first
      | (go_at_call 102; have _t := K1; clear _t; refine (leastOf_any A1 A2 c1 c2 xs ys _ (K1.out.1.rds (A1, xs) (List.mem_of_getElem? (i := 1) rfl)) (K1.out.1.rds (A2, ys) (List.mem_of_getElem? (i := 0) rfl)) (by have := V.out.1.2.1; omega) V.out.2.2 V.out.1.small V.out.2.1.small).mono ?_; rintro e y2 ⟨A9, c9, rfl, hr, hf, hb⟩; have K2 := Lib.hid (And.intro (K1.out.1.ext hb) (And.intro (K1.out.2.1.ext hb K1.out.2.1.lt) (And.intro hr (And.intro (hf.mono K1.out.1.bl.size) (hf.ne K1.out.2.1.lt))))); obtain ⟨z0, z1, f0, f1⟩ := two_cells K2.out.2.1.row; have HS := Lib.hid (made_set K2.out.2.1 (.slice A9 (leastL xs ys).length c9) (.int .i64 0)); have HF := Lib.hid (K2.out.1.made (c := c9) (E := 0) (g := w.heap.size + 1 + 1) (by omega) K2.out.2.2.1 K2.out.2.2.2.1 K2.out.2.2.2.2); clear hb hr hf)
      | (go_at_call 93; refine (Both_any A1 A2 c1 c2 xs ys _ (K.out.1.rds (A1, xs) (List.mem_of_getElem? (i := 1) rfl)) (K.out.1.rds (A2, ys) (List.mem_of_getElem? (i := 0) rfl)) M.out.1 M.out.2.1).mono ?_; rw [HO.out, errB_t]; rintro e y1 ⟨rfl, hb⟩; have K1 := Lib.hid (And.intro (K.out.1.ext hb) (And.intro (K.out.2.ext hb K.out.2.lt) (trivial))); have s1_1 := (K1.out.1.cells (⟨w.heap.size, 0, none⟩, .slice A1 xs.length c1) (List.mem_of_getElem? (i := 1) rfl)).2; have s1_2 := (K1.out.1.cells (⟨w.heap.size + 1, 0, none⟩, .slice A2 ys.length c2) (List.mem_of_getElem? (i := 0) rfl)).2; clear hb))
    obtain ⟨⟨q0, q9⟩, _⟩ := HS.out
    exact bodyPost_ret (v := .agg #[.slice A9 (leastL xs ys).length c9, .int .i64 0]) (by simp [results, Try.results39, go_sem, q0, q9]) rfl HF.out
set_option maxRecDepth 100000 in
set_option maxHeartbeats 3200000 in
theorem rClose_any (A1 : Option Addr) (c1 : Nat) (xs : List Int) (w : World) (r1 : Rd w w.heap.size A1 xs) (m1 : xs.length ≤ maxLen) :
    Calls Try.prog 60 #[.agg #[.slice A1 xs.length c1]] w fun e w' => RMade w (pick (validB xs) (closedL xs)) (errB (validB xs)) e w' := by
  have hK : Ex w w [] [] := ⟨Below.refl _ _, fun p hp => (by cases hp), fun p hp => (by cases hp)⟩
  have hK0 := hK.addRd r1
  have M := Lib.hid (And.intro m1 trivial)
  clear hK r1 m1
  cases ho : validB xs with
  | false =>
    have HO := Lib.hid ho
    rw [pick_f, errB_f]
    clear ho
    go_enter Try.func60, Try.ntmps60
    go_upto_region 1 with fail
    have hK1 := (hK0.one (.slice A1 xs.length c1) 26)
    have hb1 := (Below.refl _ (w.alloc (.cells #[.slice A1 xs.length c1] 26))).alloc (Nat.le_refl _) (.cells #[.slice none 0 0, .int .i64 0] 61)
    have hr1 : Row ((w.alloc (.cells #[.slice A1 xs.length c1] 26)).alloc (.cells #[.slice none 0 0, .int .i64 0] 61)) (w.heap.size + 1) #[.slice none 0 0, .int .i64 0] 61 := ⟨by
      have := heap_alloc_new (w.alloc (.cells #[.slice A1 xs.length c1] 26)) (.cells #[.slice none 0 0, .int .i64 0] 61)
      simpa only [World.size_alloc] using this⟩
    have hK2 := hK1.ext hb1
    generalize hgW : (w.alloc (.cells #[.slice A1 xs.length c1] 26)).alloc (.cells #[.slice none 0 0, .int .i64 0] 61) = W0 at *
    clear hK0 hK1 hb1 hgW
    have K := Lib.hid (And.intro hK2 hr1)
    clear hK2 hr1
    have q1 := (K.out.1.cells (⟨w.heap.size, 0, none⟩, .slice A1 xs.length c1) (List.mem_of_getElem? (i := 0) rfl)).2
    go_wp2_with (go_at_call 113; refine (Valid_any A1 c1 xs _ (K.out.1.rds (A1, xs) (List.mem_of_getElem? (i := 0) rfl)) M.out.1).mono ?_; rw [HO.out]; rintro e y1 ⟨rfl, hb⟩; have K1 := Lib.hid (And.intro (K.out.1.ext hb) (And.intro (K.out.2.ext hb K.out.2.lt) (trivial))); obtain ⟨z0, z1, f0, f1⟩ := two_cells K1.out.2.1.row; have HS := Lib.hid (made_set K1.out.2.1 (.slice none 0 0) (.int .i64 1)); have HF := Lib.hid (K1.out.1.made (c := 0) (xs := []) (E := 1) (g := w.heap.size + 1) (by omega) Rd.nil none_fresh none_ne); clear hb)
    obtain ⟨⟨q0, q9⟩, _⟩ := HS.out
    exact bodyPost_ret (v := .agg #[.slice none 0 0, .int .i64 1]) (by simp [results, Try.results60, go_sem, q0, q9]) rfl HF.out
  | true =>
    have HO := Lib.hid ho
    have V := Lib.hid ((validB_iff _).1 ho)
    rw [pick_t, errB_t]
    clear ho
    go_enter Try.func60, Try.ntmps60
    go_upto_region 1 with fail
    have hK1 := (hK0.one (.slice A1 xs.length c1) 26)
    have hb1 := (Below.refl _ (w.alloc (.cells #[.slice A1 xs.length c1] 26))).alloc (Nat.le_refl _) (.cells #[.slice none 0 0, .int .i64 0] 61)
    have hr1 : Row ((w.alloc (.cells #[.slice A1 xs.length c1] 26)).alloc (.cells #[.slice none 0 0, .int .i64 0] 61)) (w.heap.size + 1) #[.slice none 0 0, .int .i64 0] 61 := ⟨by
      have := heap_alloc_new (w.alloc (.cells #[.slice A1 xs.length c1] 26)) (.cells #[.slice none 0 0, .int .i64 0] 61)
      simpa only [World.size_alloc] using this⟩
    have hK2 := hK1.ext hb1
    generalize hgW : (w.alloc (.cells #[.slice A1 xs.length c1] 26)).alloc (.cells #[.slice none 0 0, .int .i64 0] 61) = W0 at *
    clear hK0 hK1 hb1 hgW
    have K := Lib.hid (And.intro hK2 hr1)
    clear hK2 hr1
    have q1 := (K.out.1.cells (⟨w.heap.size, 0, none⟩, .slice A1 xs.length c1) (List.mem_of_getElem? (i := 0) rfl)).2
    go_wp2_with (first
      | (go_at_call 95; have _t := K1; clear _t; refine (rclosed_any A1 c1 xs _ (K1.out.1.rds (A1, xs) (List.mem_of_getElem? (i := 0) rfl)) V.out).mono ?_; rintro e y2 ⟨A9, c9, rfl, hr, hf, hb⟩; have K2 := Lib.hid (And.intro (K1.out.1.ext hb) (And.intro (K1.out.2.1.ext hb K1.out.2.1.lt) (And.intro hr (And.intro (hf.mono K1.out.1.bl.size) (hf.ne K1.out.2.1.lt))))); obtain ⟨z0, z1, f0, f1⟩ := two_cells K2.out.2.1.row; have HS := Lib.hid (made_set K2.out.2.1 (.slice A9 (closedL xs).length c9) (.int .i64 0)); have HF := Lib.hid (K2.out.1.made (c := c9) (E := 0) (g := w.heap.size + 1) (by omega) K2.out.2.2.1 K2.out.2.2.2.1 K2.out.2.2.2.2); clear hb hr hf)
      | (go_at_call 113; refine (Valid_any A1 c1 xs _ (K.out.1.rds (A1, xs) (List.mem_of_getElem? (i := 0) rfl)) M.out.1).mono ?_; rw [HO.out]; rintro e y1 ⟨rfl, hb⟩; have K1 := Lib.hid (And.intro (K.out.1.ext hb) (And.intro (K.out.2.ext hb K.out.2.lt) (trivial))); have s1_1 := (K1.out.1.cells (⟨w.heap.size, 0, none⟩, .slice A1 xs.length c1) (List.mem_of_getElem? (i := 0) rfl)).2; clear hb))
    obtain ⟨⟨q0, q9⟩, _⟩ := HS.out
    exact bodyPost_ret (v := .agg #[.slice A9 (closedL xs).length c9, .int .i64 0]) (by simp [results, Try.results60, go_sem, q0, q9]) rfl HF.out
set_option maxRecDepth 100000 in
set_option maxHeartbeats 3200000 in
theorem rJoin_any (A1 : Option Addr) (A2 : Option Addr) (c1 : Nat) (c2 : Nat) (xs : List Int) (ys : List Int) (w : World) (r1 : Rd w w.heap.size A1 xs) (r2 : Rd w w.heap.size A2 ys) (m1 : xs.length ≤ maxLen) (m2 : ys.length ≤ maxLen) :
    Calls Try.prog 49 #[.agg #[.slice A1 xs.length c1], .agg #[.slice A2 ys.length c2]] w fun e w' => RMade w (pick (ok2 xs ys && fitB (joinL xs ys)) (joinL xs ys)) (if ok2 xs ys then rngB (joinL xs ys) else 1) e w' := by
  have hK : Ex w w [] [] := ⟨Below.refl _ _, fun p hp => (by cases hp), fun p hp => (by cases hp)⟩
  have hK0 := (hK.addRd r1).addRd r2
  have M := Lib.hid (And.intro m1 (And.intro m2 trivial))
  clear hK r1 m1 r2 m2
  cases ho : ok2 xs ys with
  | false =>
    have HO := Lib.hid ho
    rw [show pick (false && fitB (joinL xs ys)) (joinL xs ys) = [] from rfl, if_neg (by simp)]
    clear ho
    go_enter Try.func49, Try.ntmps49
    go_upto_region 1 with fail
    have hK1 := ((hK0.one (.slice A1 xs.length c1) 26).one (.slice A2 ys.length c2) 26)
    have hb1 := (Below.refl _ ((w.alloc (.cells #[.slice A1 xs.length c1] 26)).alloc (.cells #[.slice A2 ys.length c2] 26))).alloc (Nat.le_refl _) (.cells #[.slice none 0 0, .int .i64 0] 61)
    have hr1 : Row (((w.alloc (.cells #[.slice A1 xs.length c1] 26)).alloc (.cells #[.slice A2 ys.length c2] 26)).alloc (.cells #[.slice none 0 0, .int .i64 0] 61)) (w.heap.size + 1 + 1) #[.slice none 0 0, .int .i64 0] 61 := ⟨by
      have := heap_alloc_new ((w.alloc (.cells #[.slice A1 xs.length c1] 26)).alloc (.cells #[.slice A2 ys.length c2] 26)) (.cells #[.slice none 0 0, .int .i64 0] 61)
      simpa only [World.size_alloc] using this⟩
    have hK2 := hK1.ext hb1
    simp only [World.size_alloc] at hK2
    generalize hgW : ((w.alloc (.cells #[.slice A1 xs.length c1] 26)).alloc (.cells #[.slice A2 ys.length c2] 26)).alloc (.cells #[.slice none 0 0, .int .i64 0] 61) = W0 at *
    clear hK0 hK1 hb1 hgW
    have K := Lib.hid (And.intro hK2 hr1)
    clear hK2 hr1
    have q1 := (K.out.1.cells (⟨w.heap.size, 0, none⟩, .slice A1 xs.length c1) (List.mem_of_getElem? (i := 1) rfl)).2
    have q2 := (K.out.1.cells (⟨w.heap.size + 1, 0, none⟩, .slice A2 ys.length c2) (List.mem_of_getElem? (i := 0) rfl)).2
    go_wp2_with (go_at_call 93; refine (Both_any A1 A2 c1 c2 xs ys _ (K.out.1.rds (A1, xs) (List.mem_of_getElem? (i := 1) rfl)) (K.out.1.rds (A2, ys) (List.mem_of_getElem? (i := 0) rfl)) M.out.1 M.out.2.1).mono ?_; rw [HO.out, errB_f]; rintro e y1 ⟨rfl, hb⟩; have K1 := Lib.hid (And.intro (K.out.1.ext hb) (And.intro (K.out.2.ext hb K.out.2.lt) (trivial))); obtain ⟨z0, z1, f0, f1⟩ := two_cells K1.out.2.1.row; have HS := Lib.hid (made_set K1.out.2.1 (.slice none 0 0) (.int .i64 1)); have HF := Lib.hid (K1.out.1.made (c := 0) (xs := []) (E := 1) (g := w.heap.size + 1 + 1) (by omega) Rd.nil none_fresh none_ne); clear hb)
    obtain ⟨⟨q0, q9⟩, _⟩ := HS.out
    exact bodyPost_ret (v := .agg #[.slice none 0 0, .int .i64 1]) (by simp [results, Try.results49, go_sem, q0, q9]) rfl HF.out
  | true =>
    have HO := Lib.hid ho
    have V := Lib.hid (ok2_iff.1 ho)
    have HRG := Lib.hid (rangedB_mono (joinL_mono V.out.1.2.2.1 V.out.2.1.2.2.1 V.out.2.2) (by rw [joinL_length]; exact V.out.1.1))
    have HL := Lib.hid (show (joinL xs ys).length ≤ 1000 by rw [joinL_length]; have := V.out.1.2.1; omega)
    rw [if_pos rfl, Bool.true_and]
    clear ho
    go_enter Try.func49, Try.ntmps49
    go_upto_region 1 with fail
    have hK1 := ((hK0.one (.slice A1 xs.length c1) 26).one (.slice A2 ys.length c2) 26)
    have hb1 := (Below.refl _ ((w.alloc (.cells #[.slice A1 xs.length c1] 26)).alloc (.cells #[.slice A2 ys.length c2] 26))).alloc (Nat.le_refl _) (.cells #[.slice none 0 0, .int .i64 0] 61)
    have hr1 : Row (((w.alloc (.cells #[.slice A1 xs.length c1] 26)).alloc (.cells #[.slice A2 ys.length c2] 26)).alloc (.cells #[.slice none 0 0, .int .i64 0] 61)) (w.heap.size + 1 + 1) #[.slice none 0 0, .int .i64 0] 61 := ⟨by
      have := heap_alloc_new ((w.alloc (.cells #[.slice A1 xs.length c1] 26)).alloc (.cells #[.slice A2 ys.length c2] 26)) (.cells #[.slice none 0 0, .int .i64 0] 61)
      simpa only [World.size_alloc] using this⟩
    have hK2 := hK1.ext hb1
    simp only [World.size_alloc] at hK2
    generalize hgW : ((w.alloc (.cells #[.slice A1 xs.length c1] 26)).alloc (.cells #[.slice A2 ys.length c2] 26)).alloc (.cells #[.slice none 0 0, .int .i64 0] 61) = W0 at *
    clear hK0 hK1 hb1 hgW
    have K := Lib.hid (And.intro hK2 hr1)
    clear hK2 hr1
    have q1 := (K.out.1.cells (⟨w.heap.size, 0, none⟩, .slice A1 xs.length c1) (List.mem_of_getElem? (i := 1) rfl)).2
    have q2 := (K.out.1.cells (⟨w.heap.size + 1, 0, none⟩, .slice A2 ys.length c2) (List.mem_of_getElem? (i := 0) rfl)).2
    go_wp2_with (first
      | (go_at_call 111; have _t := K1; clear _t; refine (rjoin_any A1 A2 c1 c2 xs ys _ (K1.out.1.rds (A1, xs) (List.mem_of_getElem? (i := 1) rfl)) (K1.out.1.rds (A2, ys) (List.mem_of_getElem? (i := 0) rfl)) (by have := V.out.1.2.1; omega) V.out.2.2 V.out.1.small V.out.2.1.small).mono ?_; rintro e y2 ⟨A9, c9, rfl, hr, hf, hb⟩; have K2 := Lib.hid (And.intro (K1.out.1.ext hb) (And.intro (K1.out.2.1.ext hb K1.out.2.1.lt) (And.intro hr (And.intro (hf.mono K1.out.1.bl.size) (hf.ne K1.out.2.1.lt))))); clear hb hr hf)
      | (go_at_call 93; refine (Both_any A1 A2 c1 c2 xs ys _ (K.out.1.rds (A1, xs) (List.mem_of_getElem? (i := 1) rfl)) (K.out.1.rds (A2, ys) (List.mem_of_getElem? (i := 0) rfl)) M.out.1 M.out.2.1).mono ?_; rw [HO.out, errB_t]; rintro e y1 ⟨rfl, hb⟩; have K1 := Lib.hid (And.intro (K.out.1.ext hb) (And.intro (K.out.2.ext hb K.out.2.lt) (trivial))); have s1_1 := (K1.out.1.cells (⟨w.heap.size, 0, none⟩, .slice A1 xs.length c1) (List.mem_of_getElem? (i := 1) rfl)).2; have s1_2 := (K1.out.1.cells (⟨w.heap.size + 1, 0, none⟩, .slice A2 ys.length c2) (List.mem_of_getElem? (i := 0) rfl)).2; clear hb)
      | (go_at_call 109; fail))
    have hC := ranged_any A9 c9 (joinL xs ys) _ K2.out.2.2.1 HL.out
    refine hC.mono ?_
    rintro e y3 ⟨hc, hb⟩
    have K3 := Lib.hid (And.intro (K2.out.1.ext hb) (And.intro (K2.out.2.1.ext hb K2.out.2.1.lt) (And.intro (K2.out.2.2.1.ext hb) K2.out.2.2.2)))
    clear hb hC
    obtain ⟨z0, z1, f0, f1⟩ := two_cells K3.out.2.1.row
    rcases hc with ⟨hc1, rfl⟩ | ⟨hc1, rfl⟩
    · rw [HRG.out] at hc1
      have HC := Lib.hid hc1
      have HS := Lib.hid (made_set K3.out.2.1 (.slice A9 (joinL xs ys).length c9) (.int .i64 0))
      have HF := Lib.hid (K3.out.1.made (c := c9) (E := 0) (g := w.heap.size + 1 + 1) (by omega) K3.out.2.2.1 K3.out.2.2.2.1 K3.out.2.2.2.2)
      clear hc1
      go_wp2
      obtain ⟨⟨q0, q9⟩, _⟩ := HS.out
      exact bodyPost_ret (v := .agg #[.slice A9 (joinL xs ys).length c9, .int .i64 0]) (by simp [results, Try.results49, go_sem, q0, q9]) rfl (by rw [HC.out, pick_t, show rngB (joinL xs ys) = 0 by simp [rngB, HC.out]]; exact HF.out)
    · rw [HRG.out] at hc1
      have HC := Lib.hid hc1
      have HS := Lib.hid (made_set K3.out.2.1 (.slice none 0 0) (.int .i64 3))
      have HF := Lib.hid (K3.out.1.made (c := 0) (xs := []) (E := 3) (g := w.heap.size + 1 + 1) (by omega) Rd.nil none_fresh none_ne)
      clear hc1
      go_wp2
      obtain ⟨⟨q0, q9⟩, _⟩ := HS.out
      exact bodyPost_ret (v := .agg #[.slice none 0 0, .int .i64 3]) (by simp [results, Try.results49, go_sem, q0, q9]) rfl (by rw [HC.out, pick_f, show rngB (joinL xs ys) = 3 by simp [rngB, HC.out]]; exact HF.out)
set_option maxRecDepth 100000 in
set_option maxHeartbeats 3200000 in
theorem rTightest_any (A1 : Option Addr) (c1 : Nat) (xs : List Int) (w : World) (r1 : Rd w w.heap.size A1 xs) (m1 : xs.length ≤ maxLen) :
    Calls Try.prog 54 #[.agg #[.slice A1 xs.length c1]] w fun e w' => RMade w (pick (validB xs) (leadL xs xs)) (errB (validB xs)) e w' := by
  have hK : Ex w w [] [] := ⟨Below.refl _ _, fun p hp => (by cases hp), fun p hp => (by cases hp)⟩
  have hK0 := hK.addRd r1
  have M := Lib.hid (And.intro m1 trivial)
  clear hK r1 m1
  have hv : ok2 xs xs = validB xs := by simp [ok2]
  have hL := fun W r r' => rLead_any A1 A1 c1 c1 xs xs W r r' M.out.1 M.out.1
  rw [hv] at hL
  generalize pick (validB xs) (leadL xs xs) = L at *
  generalize errB (validB xs) = E at *
  have HL := Lib.hid hL
  clear hL hv
  go_enter Try.func54, Try.ntmps54
  go_upto_region 1 with fail
  have hK1 := (hK0.one (.slice A1 xs.length c1) 26)
  have hb1 := (Below.refl _ (w.alloc (.cells #[.slice A1 xs.length c1] 26))).alloc (Nat.le_refl _) (.cells #[.slice none 0 0, .int .i64 0] 61)
  have hr1 : Row ((w.alloc (.cells #[.slice A1 xs.length c1] 26)).alloc (.cells #[.slice none 0 0, .int .i64 0] 61)) (w.heap.size + 1) #[.slice none 0 0, .int .i64 0] 61 := ⟨by
    have := heap_alloc_new (w.alloc (.cells #[.slice A1 xs.length c1] 26)) (.cells #[.slice none 0 0, .int .i64 0] 61)
    simpa only [World.size_alloc] using this⟩
  have hK2 := hK1.ext hb1
  generalize hgW : (w.alloc (.cells #[.slice A1 xs.length c1] 26)).alloc (.cells #[.slice none 0 0, .int .i64 0] 61) = W0 at *
  clear hK0 hK1 hb1 hgW
  have K := Lib.hid (And.intro hK2 hr1)
  clear hK2 hr1
  have q1 := (K.out.1.cells (⟨w.heap.size, 0, none⟩, .slice A1 xs.length c1) (List.mem_of_getElem? (i := 0) rfl)).2
  go_wp2_with fail
  refine (HL.out _ (K.out.1.rds (A1, xs) (List.mem_of_getElem? (i := 0) rfl)) (K.out.1.rds (A1, xs) (List.mem_of_getElem? (i := 0) rfl))).mono ?_
  rintro e y1 ⟨A9, c9, rfl, hr, hf, hb⟩
  have K1 := Lib.hid (And.intro (K.out.1.ext hb) (And.intro (K.out.2.ext hb K.out.2.lt) (And.intro hr (And.intro (hf.mono K.out.1.bl.size) (hf.ne K.out.2.lt)))))
  clear hb hr hf
  obtain ⟨z0, z1, f0, f1⟩ := two_cells K1.out.2.1.row
  have HS := Lib.hid (made_set K1.out.2.1 (.slice A9 L.length c9) (.int .i64 E))
  have HF := Lib.hid (K1.out.1.made (c := c9) (E := E) (g := w.heap.size + 1) (by omega) K1.out.2.2.1 K1.out.2.2.2.1 K1.out.2.2.2.2)
  go_wp2
  obtain ⟨⟨q0, q9⟩, _⟩ := HS.out
  exact bodyPost_ret (v := .agg #[.slice A9 L.length c9, .int .i64 E]) (by simp [results, Try.results54, go_sem, q0, q9]) rfl HF.out
end Go.Proofs.Ytknkneccnhgjmaa
