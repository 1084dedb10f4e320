/- Walks: the reference's Sum. -/
import Derived.Test.YtknkneccnhgjmaaG9
namespace Go.Proofs.Ytknkneccnhgjmaa
open Go.RowKit Go.Shelf

theorem sumL_mono {xs ys : List Int} (hx : Mono xs) (hy : Mono ys) (he : ys.length = xs.length) : Mono (sumL xs ys) := fun i hi => by
  rw [sumL_length] at hi
  rw [nth_sumL (by omega), nth_sumL hi]
  have := hx i hi
  have := hy i (by omega)
  omega

set_option maxRecDepth 100000 in
set_option maxHeartbeats 3200000 in
theorem rSum_any (A1 : Option Addr) (A2 : Option Addr) (c1 : Nat) (c2 : Nat) (xs : List Int) (ys : List Int) (w : World) (r1 : Rd w w.heap.size A1 xs) (r2 : Rd w w.heap.size A2 ys) (m1 : xs.length ≤ maxLen) (m2 : ys.length ≤ maxLen) :
    Calls Try.prog 47 #[.agg #[.slice A1 xs.length c1], .agg #[.slice A2 ys.length c2]] w fun e w' => RMade w (pick (ok2 xs ys && fitB (sumL xs ys)) (sumL xs ys)) (if ok2 xs ys then rngB (sumL xs ys) else 1) e w' := by
  have hK : Ex w w [] [] := ⟨Below.refl _ _, fun p hp => (by cases hp), fun p hp => (by cases hp)⟩
  have hK0 := (hK.addRd r1).addRd r2
  have M := Lib.hid (And.intro m1 (And.intro m2 trivial))
  clear hK r1 m1 r2 m2
  cases ho : ok2 xs ys with
  | false =>
    have HO := Lib.hid ho
    rw [show pick (false && fitB (sumL xs ys)) (sumL xs ys) = [] from rfl, if_neg (by simp)]
    clear ho
    go_enter Try.func47, Try.ntmps47
    go_upto_region 1 with fail
    have hK1 := ((hK0.one (.slice A1 xs.length c1) 26).one (.slice A2 ys.length c2) 26)
    have hb1 := (Below.refl _ ((w.alloc (.cells #[.slice A1 xs.length c1] 26)).alloc (.cells #[.slice A2 ys.length c2] 26))).alloc (Nat.le_refl _) (.cells #[.slice none 0 0, .int .i64 0] 61)
    have hr1 : Row (((w.alloc (.cells #[.slice A1 xs.length c1] 26)).alloc (.cells #[.slice A2 ys.length c2] 26)).alloc (.cells #[.slice none 0 0, .int .i64 0] 61)) (w.heap.size + 1 + 1) #[.slice none 0 0, .int .i64 0] 61 := ⟨by
      have := heap_alloc_new ((w.alloc (.cells #[.slice A1 xs.length c1] 26)).alloc (.cells #[.slice A2 ys.length c2] 26)) (.cells #[.slice none 0 0, .int .i64 0] 61)
      simpa only [World.size_alloc] using this⟩
    have hK2 := hK1.ext hb1
    simp only [World.size_alloc] at hK2
    generalize hgW : ((w.alloc (.cells #[.slice A1 xs.length c1] 26)).alloc (.cells #[.slice A2 ys.length c2] 26)).alloc (.cells #[.slice none 0 0, .int .i64 0] 61) = W0 at *
    clear hK0 hK1 hb1 hgW
    have K := Lib.hid (And.intro hK2 hr1)
    clear hK2 hr1
    have q1 := (K.out.1.cells (⟨w.heap.size, 0, none⟩, .slice A1 xs.length c1) (List.mem_of_getElem? (i := 1) rfl)).2
    have q2 := (K.out.1.cells (⟨w.heap.size + 1, 0, none⟩, .slice A2 ys.length c2) (List.mem_of_getElem? (i := 0) rfl)).2
    go_wp2_with (go_at_call 93; refine (Both_any A1 A2 c1 c2 xs ys _ (K.out.1.rds (A1, xs) (List.mem_of_getElem? (i := 1) rfl)) (K.out.1.rds (A2, ys) (List.mem_of_getElem? (i := 0) rfl)) M.out.1 M.out.2.1).mono ?_; rw [HO.out, errB_f]; rintro e y1 ⟨rfl, hb⟩; have K1 := Lib.hid (And.intro (K.out.1.ext hb) (And.intro (K.out.2.ext hb K.out.2.lt) (trivial))); obtain ⟨z0, z1, f0, f1⟩ := two_cells K1.out.2.1.row; have HS := Lib.hid (made_set K1.out.2.1 (.slice none 0 0) (.int .i64 1)); have HF := Lib.hid (K1.out.1.made (c := 0) (xs := []) (E := 1) (g := w.heap.size + 1 + 1) (by omega) Rd.nil none_fresh none_ne); clear hb)
    obtain ⟨⟨q0, q9⟩, _⟩ := HS.out
    exact bodyPost_ret (v := .agg #[.slice none 0 0, .int .i64 1]) (by simp [results, Try.results47, go_sem, q0, q9]) rfl HF.out
  | true =>
    have HO := Lib.hid ho
    have V := Lib.hid (ok2_iff.1 ho)
    have HRG := Lib.hid (rangedB_mono (sumL_mono V.out.1.2.2.1 V.out.2.1.2.2.1 V.out.2.2) (by rw [sumL_length]; exact V.out.1.1))
    have HL := Lib.hid (show (sumL xs ys).length ≤ 1000 by rw [sumL_length]; have := V.out.1.2.1; omega)
    have h121 := V.out.1.2.1
    rw [if_pos rfl, Bool.true_and]
    clear ho
    obtain ⟨i0, hi0, hz0, hz1, hz2⟩ := info_parts info3
    go_enter Try.func47, Try.ntmps47
    go_upto_region 1 with fail
    have hK1 := ((hK0.one (.slice A1 xs.length c1) 26).one (.slice A2 ys.length c2) 26)
    have hb1 := (Below.refl _ ((w.alloc (.cells #[.slice A1 xs.length c1] 26)).alloc (.cells #[.slice A2 ys.length c2] 26))).alloc (Nat.le_refl _) (.cells #[.slice none 0 0, .int .i64 0] 61)
    have hr1 : Row (((w.alloc (.cells #[.slice A1 xs.length c1] 26)).alloc (.cells #[.slice A2 ys.length c2] 26)).alloc (.cells #[.slice none 0 0, .int .i64 0] 61)) (w.heap.size + 1 + 1) #[.slice none 0 0, .int .i64 0] 61 := ⟨by
      have := heap_alloc_new ((w.alloc (.cells #[.slice A1 xs.length c1] 26)).alloc (.cells #[.slice A2 ys.length c2] 26)) (.cells #[.slice none 0 0, .int .i64 0] 61)
      simpa only [World.size_alloc] using this⟩
    have hK2 := hK1.ext hb1
    simp only [World.size_alloc] at hK2
    generalize hgW : ((w.alloc (.cells #[.slice A1 xs.length c1] 26)).alloc (.cells #[.slice A2 ys.length c2] 26)).alloc (.cells #[.slice none 0 0, .int .i64 0] 61) = W0 at *
    clear hK0 hK1 hb1 hgW
    have K := Lib.hid (And.intro hK2 hr1)
    clear hK2 hr1
    have q1 := (K.out.1.cells (⟨w.heap.size, 0, none⟩, .slice A1 xs.length c1) (List.mem_of_getElem? (i := 1) rfl)).2
    have q2 := (K.out.1.cells (⟨w.heap.size + 1, 0, none⟩, .slice A2 ys.length c2) (List.mem_of_getElem? (i := 0) rfl)).2
    go_upto_region 5 with (go_at_call 93; refine (Both_any A1 A2 c1 c2 xs ys _ (K.out.1.rds (A1, xs) (List.mem_of_getElem? (i := 1) rfl)) (K.out.1.rds (A2, ys) (List.mem_of_getElem? (i := 0) rfl)) M.out.1 M.out.2.1).mono ?_; rw [HO.out, errB_t]; rintro e y1 ⟨rfl, hb⟩; have K1 := Lib.hid (And.intro (K.out.1.ext hb) (And.intro (K.out.2.ext hb K.out.2.lt) (trivial))); clear hb)
    clear q1 q2 K
    have hO := Outs.start y1
    generalize hgW : y1.alloc (.cells #[.slice none 0 0] 26) = v1 at *
    clear hgW
    have G1 := K1.out.1.blk
    have G2 := K1.out.2.1.lt
    go_wp2
    go_loopg [7] xs.length (fun gg s wr => ∃ t : Nat, t ≤ xs.length ∧ xs.length - t ≤ gg ∧ s = .int .i64 t ∧ ∃ A c, Outs y1 wr y1.heap.size (.slice A t c) (tab t (fun i => nth xs i + nth ys i)))
    case atStart => exact ⟨0, Nat.zero_le _, by omega, rfl, _, _, hO⟩
    case round =>
      obtain ⟨t, ht, hg, rfl, A, c, hO'⟩ := hrel
      have hK' := K1.out.1.ext hO'.bl
      have l4 := hO'.lt
      obtain ⟨l1, p1⟩ := hK'.cells (⟨w.heap.size, 0, none⟩, .slice A1 xs.length c1) (List.mem_of_getElem? (i := 1) rfl)
      obtain ⟨l2, p2⟩ := hK'.cells (⟨w.heap.size + 1, 0, none⟩, .slice A2 ys.length c2) (List.mem_of_getElem? (i := 0) rfl)
      dsimp only at l1 l2 p1 p2
      by_cases hlt : t < xs.length
      · have hltz : (t : Int) < (xs.length : Int) := by omega
        have hltz2 : (t : Int) < (ys.length : Int) := by have := V.out.2.2; omega
        have h0z : (0 : Int) ≤ (t : Int) := by omega
        obtain ⟨b1, o1, hA1, l5, hc1⟩ := (hK'.rds (A1, xs) (List.mem_of_getElem? (i := 1) rfl)) (show 0 < xs.length by omega)
        obtain ⟨b2, o2, hA2, l6, hc2⟩ := (hK'.rds (A2, ys) (List.mem_of_getElem? (i := 0) rfl)) (show 0 < ys.length by have := V.out.2.2; omega)
        dsimp only at hA1 hA2 hc1 hc2
        subst hA1 hA2
        have k1 := hc1 t hlt
        have k2 := hc2 t (by have := V.out.2.2; omega)
        obtain ⟨n1, n2⟩ := V.out.1.bd t
        obtain ⟨n3, n4⟩ := V.out.2.1.bd t
        have q4 := hO'.cell
        have hown := hO'.own
        have HO2 := Lib.hid hO'
        clear hc1 hc2 hO' hK'
        unfold Own at hown
        rw [tab_length] at hown
        obtain ⟨V1, hV1⟩ : ∃ V1, V1 = nth xs t := ⟨_, rfl⟩
        obtain ⟨V2, hV2⟩ : ∃ V2, V2 = nth ys t := ⟨_, rfl⟩
        rw [← hV1] at k1 n1 n2
        rw [← hV2] at k2 n3 n4
        have HVV := Lib.hid (And.intro hV1 hV2)
        clear hV1 hV2
        have hw : IntKind.i64.wrap (V1 + V2) = V1 + V2 := by rw [IntKind.wrap_i64]; omega
        go_wp2
        refine wp_region_made (fun W => W.cell? ⟨w.heap.size, 0, none⟩ = some (.slice (some ⟨b1, o1, none⟩) xs.length c1) ∧ W.cell? ⟨w.heap.size + 1, 0, none⟩ = some (.slice (some ⟨b2, o2, none⟩) ys.length c2) ∧ W.cell? ⟨y1.heap.size, 0, none⟩ = some (.slice A t c) ∧
            W.cell? ⟨b1, o1 + t, none⟩ = some (.int .i64 V1) ∧ W.cell? ⟨b2, o2 + t, none⟩ = some (.int .i64 V2)) 13 (by kernel_rfl) (by kernel_rfl) (by rfl) ⟨p1, p2, q4, k1, k2⟩ ?_
        simp only [List.take_succ_cons, List.take_zero]
        iterate 13
          refine wpReads_op (v := ?_) (by rfl) (fun W hW => ?_) ?_
          rotate_left
          focus
            obtain ⟨e1, e2, e3, e4, e5⟩ := hW
            go_simp
            try (with_reducible rfl)
          simp only [Act.put, List.setIfInBounds_toArray, List.set_cons_zero, List.set_cons_succ]
        clear hw
        obtain ⟨X, hX⟩ : ∃ X, X = V1 + V2 := ⟨_, rfl⟩
        rw [← hX]
        have HX := Lib.hid (show X = nth xs t + nth ys t by rw [hX, HVV.out.1, HVV.out.2])
        clear hX
        refine wpReads_nil ⟨by rfl, .slice (some ⟨wr.heap.size, 0, none⟩) 1 1, wr.drew.alloc (.cells #[.int .i64 X] 3), ?_, ?_, ?_⟩
        · go_simp
        · go_keep
        simp only [Act.put, List.setIfInBounds_toArray, List.set_cons_zero, List.set_cons_succ]
        have hBw : Below wr.heap.size wr (wr.drew.alloc (.cells #[.int .i64 X] 3)) := ((Below.refl _ wr).drew).alloc (Nat.le_refl _) _
        have hnew := World.news_of_block (cs := #[.int .i64 X]) (t := 3) (fr := (0, 0)) (heap_alloc_new wr.drew (.cells #[.int .i64 X] 3))
        have hown2 := hown.drew.alloc (.cells #[.int .i64 X] 3)
        have hsz : y1.heap.size + 1 ≤ (wr.drew.alloc (.cells #[.int .i64 X] 3)).heap.size := by have := HO2.out.lt; simp; omega
        generalize hgW : wr.drew.alloc (.cells #[.int .i64 X] 3) = W at *
        have HB := Lib.hid (And.intro hBw (And.intro hnew (And.intro hown2 hsz)))
        clear hBw hnew hown2 hsz hgW
        go_wp2_with (at_builtin; refine wpList_append_own_at _ rfl _ _ 24 rfl (y1.heap.size + 1) 3 i0 (.int .i64 0) 1 8 Try.underlying24 hi0 hz0 hz1 hz2 rfl (by decide) (.slice A t c) t _ rfl HB.out.2.2.1 ⟨wr.heap.size, 0, none⟩ 1 1 [.int .i64 X] rfl (by simp) HB.out.2.1 (by simp [Value.oneCell']) (by unfold maxLen; omega) (by omega) HB.out.2.2.2 ?_; intro v' w9 hown1 hgrow _ _; have hpush := HO2.out.push (nv := v') (x := X) HB.out.1 hgrow (by rw [tab_length]; exact hown1); obtain ⟨c2G, f2G, rc2⟩ := HO2.out.appended HB.out.1 hgrow; obtain ⟨A', c', rfl⟩ := hpush.slice (n := t + 1) (by simp [tab_length]); have HP := Lib.hid hpush; clear hpush hown1 hgrow rc2)
        go_roundg (xs.length - (t + 1))
        case measure => omega
        case rel => exact ⟨t + 1, by omega, by omega, by go_num, _, _, by rw [tab_succ, ← HX.out]; exact HP.out⟩
      · have hltz : ¬ (t : Int) < (xs.length : Int) := by omega
        obtain rfl : t = xs.length := by omega
        change Outs y1 _ _ _ (sumL xs ys) at hO'
        have hrow := K1.out.2.1.ext hO'.bl K1.out.2.1.lt
        obtain ⟨A', c', e9, hrd, hfr⟩ := hO'.own.rd
        have q4 := hO'.cell
        have hEx := K1.out.1.ext hO'.bl
        have hlen : xs.length = (sumL xs ys).length := by rw [sumL_length]
        rw [hlen] at q4 e9
        cases e9
        have HEX := Lib.hid (And.intro hEx (And.intro hrow (And.intro hrd (And.intro (hfr.mono (show w.heap.size ≤ y1.heap.size + 1 by have := K1.out.1.blk; omega)) (hfr.ne (show w.heap.size + 1 + 1 < y1.heap.size + 1 by have := K1.out.2.1.lt; omega))))))
        clear hO' hK' hrow hEx hrd hfr hlen
        go_wp2_with fail
        refine (ranged_any A c (sumL xs ys) _ HEX.out.2.2.1 HL.out).mono ?_
        rintro e y9 ⟨hc, hb⟩
        have HE2 := Lib.hid (And.intro (HEX.out.1.ext hb) (And.intro (HEX.out.2.1.ext hb HEX.out.2.1.lt) (HEX.out.2.2.1.ext hb)))
        clear hb
        obtain ⟨z0, z1, f0, f1⟩ := two_cells HE2.out.2.1.row
        rcases hc with ⟨hc1, rfl⟩ | ⟨hc1, rfl⟩
        · rw [HRG.out] at hc1
          have HC := Lib.hid hc1
          have HS := Lib.hid (made_set HE2.out.2.1 (.slice A (sumL xs ys).length c) (.int .i64 0))
          have HF := Lib.hid (HE2.out.1.made (c := c) (E := 0) (g := w.heap.size + 1 + 1) (by omega) HE2.out.2.2 HEX.out.2.2.2.1 HEX.out.2.2.2.2)
          clear hc1
          go_wp2
          obtain ⟨⟨q0, q9⟩, _⟩ := HS.out
          exact bodyPost_ret (v := .agg #[.slice A (sumL xs ys).length c, .int .i64 0]) (by simp [results, Try.results47, go_sem, q0, q9]) rfl (by rw [HC.out, pick_t, show rngB (sumL xs ys) = 0 by simp [rngB, HC.out]]; exact HF.out)
        · rw [HRG.out] at hc1
          have HC := Lib.hid hc1
          have HS := Lib.hid (made_set HE2.out.2.1 (.slice none 0 0) (.int .i64 3))
          have HF := Lib.hid (HE2.out.1.made (c := 0) (xs := []) (E := 3) (g := w.heap.size + 1 + 1) (by omega) Rd.nil none_fresh none_ne)
          clear hc1
          go_wp2
          obtain ⟨⟨q0, q9⟩, _⟩ := HS.out
          exact bodyPost_ret (v := .agg #[.slice none 0 0, .int .i64 3]) (by simp [results, Try.results47, go_sem, q0, q9]) rfl (by rw [HC.out, pick_f, show rngB (sumL xs ys) = 3 by simp [rngB, HC.out]]; exact HF.out)
end Go.Proofs.Ytknkneccnhgjmaa
