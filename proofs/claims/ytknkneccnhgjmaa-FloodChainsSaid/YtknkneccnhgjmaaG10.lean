/- Walks: the reference's Behind. -/
import Derived.Test.YtknkneccnhgjmaaG9
namespace Go.Proofs.Ytknkneccnhgjmaa
open Go.RowKit Go.Shelf

theorem behindL_length (xs ys : List Int) : (behindL xs ys).length = xs.length := by unfold behindL; rw [tab_length, closedL_length]

set_option maxRecDepth 100000 in
set_option maxHeartbeats 3200000 in
theorem rBehind_any (A1 : Option Addr) (A2 : Option Addr) (c1 : Nat) (c2 : Nat) (xs : List Int) (ys : List Int) (w : World) (r1 : Rd w w.heap.size A1 xs) (r2 : Rd w w.heap.size A2 ys) (m1 : xs.length ≤ maxLen) (m2 : ys.length ≤ maxLen) :
    Calls Try.prog 41 #[.agg #[.slice A1 xs.length c1], .agg #[.slice A2 ys.length c2]] w fun e w' => RMade w (pick (ok2 xs ys) (behindL xs ys)) (errB (ok2 xs ys)) e w' := by
  have hK : Ex w w [] [] := ⟨Below.refl _ _, fun p hp => (by cases hp), fun p hp => (by cases hp)⟩
  have hK0 := (hK.addRd r1).addRd r2
  have M := Lib.hid (And.intro m1 (And.intro m2 trivial))
  clear hK r1 m1 r2 m2
  cases ho : ok2 xs ys with
  | false =>
    have HO := Lib.hid ho
    rw [pick_f, errB_f]
    clear ho
    go_enter Try.func41, Try.ntmps41
    go_upto_region 1 with fail
    have hK1 := ((hK0.one (.slice A1 xs.length c1) 26).one (.slice A2 ys.length c2) 26)
    have hb1 := (Below.refl _ ((w.alloc (.cells #[.slice A1 xs.length c1] 26)).alloc (.cells #[.slice A2 ys.length c2] 26))).alloc (Nat.le_refl _) (.cells #[.slice none 0 0, .int .i64 0] 61)
    have hr1 : Row (((w.alloc (.cells #[.slice A1 xs.length c1] 26)).alloc (.cells #[.slice A2 ys.length c2] 26)).alloc (.cells #[.slice none 0 0, .int .i64 0] 61)) (w.heap.size + 1 + 1) #[.slice none 0 0, .int .i64 0] 61 := ⟨by
      have := heap_alloc_new ((w.alloc (.cells #[.slice A1 xs.length c1] 26)).alloc (.cells #[.slice A2 ys.length c2] 26)) (.cells #[.slice none 0 0, .int .i64 0] 61)
      simpa only [World.size_alloc] using this⟩
    have hK2 := hK1.ext hb1
    simp only [World.size_alloc] at hK2
    generalize hgW : ((w.alloc (.cells #[.slice A1 xs.length c1] 26)).alloc (.cells #[.slice A2 ys.length c2] 26)).alloc (.cells #[.slice none 0 0, .int .i64 0] 61) = W0 at *
    clear hK0 hK1 hb1 hgW
    have K := Lib.hid (And.intro hK2 hr1)
    clear hK2 hr1
    have q1 := (K.out.1.cells (⟨w.heap.size, 0, none⟩, .slice A1 xs.length c1) (List.mem_of_getElem? (i := 1) rfl)).2
    have q2 := (K.out.1.cells (⟨w.heap.size + 1, 0, none⟩, .slice A2 ys.length c2) (List.mem_of_getElem? (i := 0) rfl)).2
    go_wp2_with (go_at_call 93; refine (Both_any A1 A2 c1 c2 xs ys _ (K.out.1.rds (A1, xs) (List.mem_of_getElem? (i := 1) rfl)) (K.out.1.rds (A2, ys) (List.mem_of_getElem? (i := 0) rfl)) M.out.1 M.out.2.1).mono ?_; rw [HO.out, errB_f]; rintro e y1 ⟨rfl, hb⟩; have K1 := Lib.hid (And.intro (K.out.1.ext hb) (And.intro (K.out.2.ext hb K.out.2.lt) (trivial))); obtain ⟨z0, z1, f0, f1⟩ := two_cells K1.out.2.1.row; have HS := Lib.hid (made_set K1.out.2.1 (.slice none 0 0) (.int .i64 1)); have HF := Lib.hid (K1.out.1.made (c := 0) (xs := []) (E := 1) (g := w.heap.size + 1 + 1) (by omega) Rd.nil none_fresh none_ne); clear hb)
    obtain ⟨⟨q0, q9⟩, _⟩ := HS.out
    exact bodyPost_ret (v := .agg #[.slice none 0 0, .int .i64 1]) (by simp [results, Try.results41, go_sem, q0, q9]) rfl HF.out
  | true =>
    have HO := Lib.hid ho
    have V := Lib.hid (ok2_iff.1 ho)
    have h121 := V.out.1.2.1
    rw [pick_t, errB_t]
    clear ho
    obtain ⟨i0, hi0, hz0, hz1, hz2⟩ := info_parts info3
    go_enter Try.func41, Try.ntmps41
    go_upto_region 1 with fail
    have hK1 := ((hK0.one (.slice A1 xs.length c1) 26).one (.slice A2 ys.length c2) 26)
    have hb1 := (Below.refl _ ((w.alloc (.cells #[.slice A1 xs.length c1] 26)).alloc (.cells #[.slice A2 ys.length c2] 26))).alloc (Nat.le_refl _) (.cells #[.slice none 0 0, .int .i64 0] 61)
    have hr1 : Row (((w.alloc (.cells #[.slice A1 xs.length c1] 26)).alloc (.cells #[.slice A2 ys.length c2] 26)).alloc (.cells #[.slice none 0 0, .int .i64 0] 61)) (w.heap.size + 1 + 1) #[.slice none 0 0, .int .i64 0] 61 := ⟨by
      have := heap_alloc_new ((w.alloc (.cells #[.slice A1 xs.length c1] 26)).alloc (.cells #[.slice A2 ys.length c2] 26)) (.cells #[.slice none 0 0, .int .i64 0] 61)
      simpa only [World.size_alloc] using this⟩
    have hK2 := hK1.ext hb1
    simp only [World.size_alloc] at hK2
    generalize hgW : ((w.alloc (.cells #[.slice A1 xs.length c1] 26)).alloc (.cells #[.slice A2 ys.length c2] 26)).alloc (.cells #[.slice none 0 0, .int .i64 0] 61) = W0 at *
    clear hK0 hK1 hb1 hgW
    have K := Lib.hid (And.intro hK2 hr1)
    clear hK2 hr1
    have q1 := (K.out.1.cells (⟨w.heap.size, 0, none⟩, .slice A1 xs.length c1) (List.mem_of_getElem? (i := 1) rfl)).2
    have q2 := (K.out.1.cells (⟨w.heap.size + 1, 0, none⟩, .slice A2 ys.length c2) (List.mem_of_getElem? (i := 0) rfl)).2
    go_upto_region 5 with (first
      | (go_at_call 95; have _t := K1; clear _t; refine (rclosed_any A1 c1 xs _ (K1.out.1.rds (A1, xs) (List.mem_of_getElem? (i := 1) rfl)) V.out.1).mono ?_; rintro e y2 ⟨A8, c8, rfl, hr, hf, hb⟩; have K2 := Lib.hid (And.intro (K1.out.1.ext hb) (And.intro (K1.out.2.1.ext hb K1.out.2.1.lt) hr)); clear hb hr hf)
      | (go_at_call 93; refine (Both_any A1 A2 c1 c2 xs ys _ (K.out.1.rds (A1, xs) (List.mem_of_getElem? (i := 1) rfl)) (K.out.1.rds (A2, ys) (List.mem_of_getElem? (i := 0) rfl)) M.out.1 M.out.2.1).mono ?_; rw [HO.out, errB_t]; rintro e y1 ⟨rfl, hb⟩; have K1 := Lib.hid (And.intro (K.out.1.ext hb) (And.intro (K.out.2.ext hb K.out.2.lt) (trivial))); have s1_1 := (K1.out.1.cells (⟨w.heap.size, 0, none⟩, .slice A1 xs.length c1) (List.mem_of_getElem? (i := 1) rfl)).2; clear hb))
    have hK := K2.out.1.box (A := A8) (c := c8) K2.out.2.2
    have hR := K2.out.2.1.ext ((Below.refl _ y2).alloc (Nat.le_refl _) (.cells #[.slice A8 (closedL xs).length c8] 26)) K2.out.2.1.lt
    have G1 := K2.out.2.1.lt
    generalize hgW : y2.alloc (.cells #[.slice A8 (closedL xs).length c8] 26) = W5 at *
    generalize hgg : y2.heap.size = g8 at *
    clear K K1 K2 q1 q2 s1_1 hgW hgg
    have K := Lib.hid (And.intro hK hR)
    clear hK hR
    obtain ⟨l1, q1⟩ := K.out.1.cells (⟨g8, 0, none⟩, .slice A8 (closedL xs).length c8) (List.mem_of_getElem? (i := 0) rfl)
    obtain ⟨l2, q2⟩ := K.out.1.cells (⟨w.heap.size + 1, 0, none⟩, .slice A2 ys.length c2) (List.mem_of_getElem? (i := 1) rfl)
    dsimp only at l1 l2 q1 q2
    go_upto_region 6 with (go_at_call 104; refine (rlead_any A8 A2 c8 c2 (closedL xs) ys _ (K.out.1.rds (A8, (closedL xs)) (List.mem_of_getElem? (i := 0) rfl)) (K.out.1.rds (A2, ys) (List.mem_of_getElem? (i := 1) rfl)) (by rw [closedL_length]; omega) (by rw [closedL_length]; exact V.out.2.2) (fun i => closedL_bd V.out.1 i) V.out.2.1.bd).mono ?_; rintro e y3 ⟨A9, c9, rfl, hr, hf, hb⟩; have K2 := Lib.hid (And.intro (K.out.1.ext hb) (And.intro (K.out.2.ext hb K.out.2.lt) hr)); clear hb hr hf)
    have hK := K2.out.1.box (A := A9) (c := c9) K2.out.2.2
    have hR := K2.out.2.1.ext ((Below.refl _ y3).alloc (Nat.le_refl _) (.cells #[.slice A9 (leadL (closedL xs) ys).length c9] 26)) K2.out.2.1.lt
    generalize hgW : y3.alloc (.cells #[.slice A9 (leadL (closedL xs) ys).length c9] 26) = W6 at *
    generalize hgg : y3.heap.size = g9 at *
    clear K K2 q1 q2 l1 l2 hgW hgg
    have K1 := Lib.hid (And.intro hK (And.intro hR trivial))
    clear hK hR
    go_upto_region 7 with fail
    have hO := Outs.start W6
    generalize hgW : W6.alloc (.cells #[.slice none 0 0] 26) = v1 at *
    clear hgW
    have G2 := K1.out.1.blk
    have G3 := K1.out.2.1.lt
    have HCL := Lib.hid (closedL_length xs)
    go_wp2
    go_loopg [9] xs.length (fun gg s wr => ∃ t : Nat, t ≤ xs.length ∧ xs.length - t ≤ gg ∧ s = .int .i64 t ∧ ∃ A c, Outs W6 wr W6.heap.size (.slice A t c) (tab t (behindAt xs ys)))
    case atStart => exact ⟨0, Nat.zero_le _, by omega, rfl, _, _, hO⟩
    case round =>
      obtain ⟨t, ht, hg, rfl, A, c, hO'⟩ := hrel
      have hK' := K1.out.1.ext hO'.bl
      have l4 := hO'.lt
      obtain ⟨l1, p1⟩ := hK'.cells (⟨g8, 0, none⟩, .slice A8 (closedL xs).length c8) (List.mem_of_getElem? (i := 1) rfl)
      obtain ⟨l2, p2⟩ := hK'.cells (⟨g9, 0, none⟩, .slice A9 (leadL (closedL xs) ys).length c9) (List.mem_of_getElem? (i := 0) rfl)
      dsimp only at l1 l2 p1 p2
      by_cases hlt : t < xs.length
      · have hltz : (t : Int) < ((closedL xs).length : Int) := by rw [HCL.out]; omega
        have hltz2 : (t : Int) < ((leadL (closedL xs) ys).length : Int) := by rw [leadL_length, HCL.out]; omega
        have h0z : (0 : Int) ≤ (t : Int) := by omega
        obtain ⟨b1, o1, hA1, l5, hc1⟩ := (hK'.rds (A8, (closedL xs)) (List.mem_of_getElem? (i := 1) rfl)) (show 0 < (closedL xs).length by omega)
        obtain ⟨b2, o2, hA2, l6, hc2⟩ := (hK'.rds (A9, (leadL (closedL xs) ys)) (List.mem_of_getElem? (i := 0) rfl)) (show 0 < (leadL (closedL xs) ys).length by omega)
        dsimp only at hA1 hA2 hc1 hc2
        subst hA1 hA2
        have k1 := hc1 t (by omega)
        have k2 := hc2 t (by omega)
        have q4 := hO'.cell
        have hown := hO'.own
        have HO2 := Lib.hid hO'
        have hba : behindAt xs ys t = max (nth (closedL xs) t) (nth (leadL (closedL xs) ys) t) := rfl
        have HBA := Lib.hid hba
        clear hc1 hc2 hO' hK' hba
        unfold Own at hown
        rw [tab_length] at hown
        generalize nth (closedL xs) t = V1 at *
        generalize nth (leadL (closedL xs) ys) t = V2 at *
        go_wp2
        refine wp_region_made (fun W => W.cell? ⟨g8, 0, none⟩ = some (.slice (some ⟨b1, o1, none⟩) (closedL xs).length c8) ∧ W.cell? ⟨g9, 0, none⟩ = some (.slice (some ⟨b2, o2, none⟩) (leadL (closedL xs) ys).length c9) ∧ W.cell? ⟨W6.heap.size, 0, none⟩ = some (.slice A t c) ∧
            W.cell? ⟨b1, o1 + t, none⟩ = some (.int .i64 V1) ∧ W.cell? ⟨b2, o2 + t, none⟩ = some (.int .i64 V2)) 13 (by kernel_rfl) (by kernel_rfl) (by rfl) ⟨p1, p2, q4, k1, k2⟩ ?_
        simp only [List.take_succ_cons, List.take_zero]
        iterate 13
          refine wpReads_op (v := ?_) (by rfl) (fun W hW => ?_) ?_
          rotate_left
          focus
            obtain ⟨e1, e2, e3, e4, e5⟩ := hW
            go_simp
            try (with_reducible rfl)
          simp only [Act.put, List.setIfInBounds_toArray, List.set_cons_zero, List.set_cons_succ]
        have hmax : (if V1 < V2 then V2 else V1) = max V1 V2 := by split <;> omega
        generalize (if V1 < V2 then V2 else V1) = X at *
        have HX := Lib.hid (hmax.trans HBA.out.symm)
        clear hmax
        refine wpReads_nil ⟨by rfl, .slice (some ⟨wr.heap.size, 0, none⟩) 1 1, wr.drew.alloc (.cells #[.int .i64 X] 3), ?_, ?_, ?_⟩
        · go_simp
        · go_keep
        simp only [Act.put, List.setIfInBounds_toArray, List.set_cons_zero, List.set_cons_succ]
        have hBw : Below wr.heap.size wr (wr.drew.alloc (.cells #[.int .i64 X] 3)) := ((Below.refl _ wr).drew).alloc (Nat.le_refl _) _
        have hnew := World.news_of_block (cs := #[.int .i64 X]) (t := 3) (fr := (0, 0)) (heap_alloc_new wr.drew (.cells #[.int .i64 X] 3))
        have hown2 := hown.drew.alloc (.cells #[.int .i64 X] 3)
        have hsz : W6.heap.size + 1 ≤ (wr.drew.alloc (.cells #[.int .i64 X] 3)).heap.size := by have := HO2.out.lt; simp; omega
        generalize hgW : wr.drew.alloc (.cells #[.int .i64 X] 3) = W at *
        have HB := Lib.hid (And.intro hBw (And.intro hnew (And.intro hown2 hsz)))
        clear hBw hnew hown2 hsz hgW
        go_wp2_with (at_builtin; refine wpList_append_own_at _ rfl _ _ 24 rfl (W6.heap.size + 1) 3 i0 (.int .i64 0) 1 8 Try.underlying24 hi0 hz0 hz1 hz2 rfl (by decide) (.slice A t c) t _ rfl HB.out.2.2.1 ⟨wr.heap.size, 0, none⟩ 1 1 [.int .i64 X] rfl (by simp) HB.out.2.1 (by simp [Value.oneCell']) (by unfold maxLen; omega) (by omega) HB.out.2.2.2 ?_; intro v' w9 hown1 hgrow _ _; have hpush := HO2.out.push (nv := v') (x := X) HB.out.1 hgrow (by rw [tab_length]; exact hown1); obtain ⟨c2G, f2G, rc2⟩ := HO2.out.appended HB.out.1 hgrow; obtain ⟨A', c', rfl⟩ := hpush.slice (n := t + 1) (by simp [tab_length]); have HP := Lib.hid hpush; clear hpush hown1 hgrow rc2)
        go_roundg (xs.length - (t + 1))
        case measure => omega
        case rel => exact ⟨t + 1, by omega, by omega, by go_num, _, _, by rw [tab_succ, ← HX.out]; exact HP.out⟩
      · have hltz : ¬ (t : Int) < ((closedL xs).length : Int) := by rw [HCL.out]; omega
        obtain rfl : t = xs.length := by omega
        have hbL : tab xs.length (behindAt xs ys) = behindL xs ys := by unfold behindL; rw [closedL_length]
        rw [hbL] at hO'
        clear hbL
        have hrow := K1.out.2.1.ext hO'.bl K1.out.2.1.lt
        obtain ⟨A', c', e9, hrd, hfr⟩ := hO'.own.rd
        have q4 := hO'.cell
        have hEx := K1.out.1.ext hO'.bl
        have hlen : xs.length = (behindL xs ys).length := by rw [behindL_length]
        rw [hlen] at q4 e9
        cases e9
        obtain ⟨_, _, f0, f1⟩ := two_cells hrow.row
        obtain ⟨z0, z1, _, _⟩ := two_cells hrow.row
        have HS := Lib.hid (made_set hrow (.slice A (behindL xs ys).length c) (.int .i64 0))
        have HF := Lib.hid (hEx.made (c := c) (E := 0) (g := w.heap.size + 1 + 1) (by omega) hrd (hfr.mono (by have := K1.out.1.blk; omega)) (hfr.ne (by have := K1.out.2.1.lt; omega)))
        clear hO' hK' hrow hEx hrd hfr hlen
        go_wp2
        obtain ⟨⟨q0, q9⟩, _⟩ := HS.out
        exact bodyPost_ret (v := .agg #[.slice A (behindL xs ys).length c, .int .i64 0]) (by simp [results, Try.results41, go_sem, q0, q9]) rfl HF.out
end Go.Proofs.Ytknkneccnhgjmaa
