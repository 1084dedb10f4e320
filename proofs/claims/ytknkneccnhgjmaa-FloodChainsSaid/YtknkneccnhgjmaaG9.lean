/- Walks: the reference's Left. -/
import Derived.Test.YtknkneccnhgjmaaG6
namespace Go.Proofs.Ytknkneccnhgjmaa
open Go.RowKit Go.Shelf

theorem Ex.blk {w W : World} {M : List (Addr × Value)} {R : List (Option Addr × List Int)} (h : Ex w W M R) : w.heap.size ≤ W.heap.size := h.bl.size

set_option maxRecDepth 100000 in
set_option maxHeartbeats 3200000 in
theorem rLeft_any (A1 : Option Addr) (A2 : Option Addr) (c1 : Nat) (c2 : Nat) (xs : List Int) (ys : List Int) (w : World) (r1 : Rd w w.heap.size A1 xs) (r2 : Rd w w.heap.size A2 ys) (m1 : xs.length ≤ maxLen) (m2 : ys.length ≤ maxLen) :
    Calls Try.prog 42 #[.agg #[.slice A1 xs.length c1], .agg #[.slice A2 ys.length c2]] w fun e w' => RMade w (pick (ok2 xs ys) (leftL xs ys)) (errB (ok2 xs ys)) e w' := by
  have hK : Ex w w [] [] := ⟨Below.refl _ _, fun p hp => (by cases hp), fun p hp => (by cases hp)⟩
  have hK0 := (hK.addRd r1).addRd r2
  have M := Lib.hid (And.intro m1 (And.intro m2 trivial))
  clear hK r1 m1 r2 m2
  cases ho : ok2 xs ys with
  | false =>
    have HO := Lib.hid ho
    rw [pick_f, errB_f]
    clear ho
    go_enter Try.func42, Try.ntmps42
    go_upto_region 1 with fail
    have hK1 := ((hK0.one (.slice A1 xs.length c1) 26).one (.slice A2 ys.length c2) 26)
    have hb1 := (Below.refl _ ((w.alloc (.cells #[.slice A1 xs.length c1] 26)).alloc (.cells #[.slice A2 ys.length c2] 26))).alloc (Nat.le_refl _) (.cells #[.slice none 0 0, .int .i64 0] 61)
    have hr1 : Row (((w.alloc (.cells #[.slice A1 xs.length c1] 26)).alloc (.cells #[.slice A2 ys.length c2] 26)).alloc (.cells #[.slice none 0 0, .int .i64 0] 61)) (w.heap.size + 1 + 1) #[.slice none 0 0, .int .i64 0] 61 := ⟨by
      have := heap_alloc_new ((w.alloc (.cells #[.slice A1 xs.length c1] 26)).alloc (.cells #[.slice A2 ys.length c2] 26)) (.cells #[.slice none 0 0, .int .i64 0] 61)
      simpa only [World.size_alloc] using this⟩
    have hK2 := hK1.ext hb1
    simp only [World.size_alloc] at hK2
    generalize hgW : ((w.alloc (.cells #[.slice A1 xs.length c1] 26)).alloc (.cells #[.slice A2 ys.length c2] 26)).alloc (.cells #[.slice none 0 0, .int .i64 0] 61) = W0 at *
    clear hK0 hK1 hb1 hgW
    have K := Lib.hid (And.intro hK2 hr1)
    clear hK2 hr1
    have q1 := (K.out.1.cells (⟨w.heap.size, 0, none⟩, .slice A1 xs.length c1) (List.mem_of_getElem? (i := 1) rfl)).2
    have q2 := (K.out.1.cells (⟨w.heap.size + 1, 0, none⟩, .slice A2 ys.length c2) (List.mem_of_getElem? (i := 0) rfl)).2
    go_wp2_with (go_at_call 93; refine (Both_any A1 A2 c1 c2 xs ys _ (K.out.1.rds (A1, xs) (List.mem_of_getElem? (i := 1) rfl)) (K.out.1.rds (A2, ys) (List.mem_of_getElem? (i := 0) rfl)) M.out.1 M.out.2.1).mono ?_; rw [HO.out, errB_f]; rintro e y1 ⟨rfl, hb⟩; have K1 := Lib.hid (And.intro (K.out.1.ext hb) (And.intro (K.out.2.ext hb K.out.2.lt) (trivial))); obtain ⟨z0, z1, f0, f1⟩ := two_cells K1.out.2.1.row; have HS := Lib.hid (made_set K1.out.2.1 (.slice none 0 0) (.int .i64 1)); have HF := Lib.hid (K1.out.1.made (c := 0) (xs := []) (E := 1) (g := w.heap.size + 1 + 1) (by omega) Rd.nil none_fresh none_ne); clear hb)
    obtain ⟨⟨q0, q9⟩, _⟩ := HS.out
    exact bodyPost_ret (v := .agg #[.slice none 0 0, .int .i64 1]) (by simp [results, Try.results42, go_sem, q0, q9]) rfl HF.out
  | true =>
    have HO := Lib.hid ho
    have V := Lib.hid (ok2_iff.1 ho)
    have h121 := V.out.1.2.1
    rw [pick_t, errB_t]
    clear ho
    obtain ⟨i0, hi0, hz0, hz1, hz2⟩ := info_parts info3
    go_enter Try.func42, Try.ntmps42
    go_upto_region 1 with fail
    have hK1 := ((hK0.one (.slice A1 xs.length c1) 26).one (.slice A2 ys.length c2) 26)
    have hb1 := (Below.refl _ ((w.alloc (.cells #[.slice A1 xs.length c1] 26)).alloc (.cells #[.slice A2 ys.length c2] 26))).alloc (Nat.le_refl _) (.cells #[.slice none 0 0, .int .i64 0] 61)
    have hr1 : Row (((w.alloc (.cells #[.slice A1 xs.length c1] 26)).alloc (.cells #[.slice A2 ys.length c2] 26)).alloc (.cells #[.slice none 0 0, .int .i64 0] 61)) (w.heap.size + 1 + 1) #[.slice none 0 0, .int .i64 0] 61 := ⟨by
      have := heap_alloc_new ((w.alloc (.cells #[.slice A1 xs.length c1] 26)).alloc (.cells #[.slice A2 ys.length c2] 26)) (.cells #[.slice none 0 0, .int .i64 0] 61)
      simpa only [World.size_alloc] using this⟩
    have hK2 := hK1.ext hb1
    simp only [World.size_alloc] at hK2
    generalize hgW : ((w.alloc (.cells #[.slice A1 xs.length c1] 26)).alloc (.cells #[.slice A2 ys.length c2] 26)).alloc (.cells #[.slice none 0 0, .int .i64 0] 61) = W0 at *
    clear hK0 hK1 hb1 hgW
    have K := Lib.hid (And.intro hK2 hr1)
    clear hK2 hr1
    have q1 := (K.out.1.cells (⟨w.heap.size, 0, none⟩, .slice A1 xs.length c1) (List.mem_of_getElem? (i := 1) rfl)).2
    have q2 := (K.out.1.cells (⟨w.heap.size + 1, 0, none⟩, .slice A2 ys.length c2) (List.mem_of_getElem? (i := 0) rfl)).2
    go_upto_region 6 with (go_at_call 93; refine (Both_any A1 A2 c1 c2 xs ys _ (K.out.1.rds (A1, xs) (List.mem_of_getElem? (i := 1) rfl)) (K.out.1.rds (A2, ys) (List.mem_of_getElem? (i := 0) rfl)) M.out.1 M.out.2.1).mono ?_; rw [HO.out, errB_t]; rintro e y1 ⟨rfl, hb⟩; have K1 := Lib.hid (And.intro (K.out.1.ext hb) (And.intro (K.out.2.ext hb K.out.2.lt) (trivial))); clear hb)
    clear q1 q2 K
    have hO := Outs.start y1
    generalize hgW : y1.alloc (.cells #[.slice none 0 0] 26) = v1 at *
    clear hgW
    have G1 := K1.out.1.blk
    have G2 := K1.out.2.1.lt
    go_wp2
    go_loopg [7, 8] xs.length (fun gg n s wr => ∃ t : Nat, t ≤ xs.length ∧ xs.length - t ≤ gg ∧ s = .int .i64 t ∧ n = .int .i64 (maxTo (fun s => nth xs s - nth ys s) t) ∧ ∃ A c, Outs y1 wr y1.heap.size (.slice A t c) (tab t (leftAt xs ys)))
    case atStart => exact ⟨0, Nat.zero_le _, by omega, rfl, rfl, _, _, hO⟩
    case round =>
      obtain ⟨t, ht, hg, rfl, rfl, A, c, hO'⟩ := hrel
      have hK' := K1.out.1.ext hO'.bl
      have l4 := hO'.lt
      obtain ⟨l1, p1⟩ := hK'.cells (⟨w.heap.size, 0, none⟩, .slice A1 xs.length c1) (List.mem_of_getElem? (i := 1) rfl)
      obtain ⟨l2, p2⟩ := hK'.cells (⟨w.heap.size + 1, 0, none⟩, .slice A2 ys.length c2) (List.mem_of_getElem? (i := 0) rfl)
      dsimp only at l1 l2 p1 p2
      by_cases hlt : t < xs.length
      · have hltz : (t : Int) < (xs.length : Int) := by omega
        have hltz2 : (t : Int) < (ys.length : Int) := by have := V.out.2.2; omega
        obtain ⟨b1, o1, hA1, l5, hc1⟩ := (hK'.rds (A1, xs) (List.mem_of_getElem? (i := 1) rfl)) (show 0 < xs.length by omega)
        obtain ⟨b2, o2, hA2, l6, hc2⟩ := (hK'.rds (A2, ys) (List.mem_of_getElem? (i := 0) rfl)) (show 0 < ys.length by have := V.out.2.2; omega)
        dsimp only at hA1 hA2 hc1 hc2
        subst hA1 hA2
        have k1 := hc1 t hlt
        have k2 := hc2 t (by have := V.out.2.2; omega)
        obtain ⟨n1, n2⟩ := V.out.1.bd t
        obtain ⟨n3, n4⟩ := V.out.2.1.bd t
        obtain ⟨n5, n6⟩ := maxTo_bd (fun s => nth xs s - nth ys s) 1073741824 (by omega) t (fun i _ => by have := (V.out.1.bd i).2; have := (V.out.2.1.bd i).1; omega)
        have hs : maxTo (fun s => nth xs s - nth ys s) (t + 1) = max (maxTo (fun s => nth xs s - nth ys s) t) (nth xs t - nth ys t) := rfl
        have hs2 : leftAt xs ys t = maxTo (fun s => nth xs s - nth ys s) (t + 1) := rfl
        have HO3 := Lib.hid hO'
        clear hc1 hc2 hO' hK'
        generalize maxTo (fun s => nth xs s - nth ys s) t = M1 at *
        have HS := Lib.hid (And.intro hs (hs2.trans hs))
        clear hs hs2
        have hw : IntKind.i64.wrap (nth xs t - nth ys t) = nth xs t - nth ys t := by rw [IntKind.wrap_i64]; omega
        go_upto_region 9 with fail
        refine wp_region_ext (by kernel_rfl) (by kernel_rfl) ?_
        intro ι _ X hX hC
        have rX := fun k => (bcell (hX k)).1
        repeat (first | go_big_quiet_skip | (go_big_quiet_want; go_big_quiet_op; first | go_big_quiet_on | (apply Exists.intro; refine ⟨fun _ => ?_, ?_⟩; (focus (fail)); go_big_quiet_on)))
        refine wpQuiet_nil ?_
        intro v2 hv2
        clear rX hX hC
        have HO2 := Lib.hid (HO3.out.later hv2)
        have hx : (if M1 < nth xs t - nth ys t then nth xs t - nth ys t else M1) = max M1 (nth xs t - nth ys t) := by split <;> omega
        generalize (if M1 < nth xs t - nth ys t then nth xs t - nth ys t else M1) = X at *
        have HXX := Lib.hid (And.intro (hx.trans HS.out.1.symm) (hx.trans HS.out.2.symm))
        have q4 := HO2.out.cell
        have hown := HO2.out.own
        clear hx hw hv2 p1 p2 k1 k2
        unfold Own at hown
        rw [tab_length] at hown
        have hBw : Below v2.heap.size v2 (v2.alloc (.cells #[.int .i64 X] 3)) := (Below.refl _ v2).alloc (Nat.le_refl _) _
        have hnew := World.news_of_block (cs := #[.int .i64 X]) (t := 3) (fr := (0, 0)) (heap_alloc_new v2 (.cells #[.int .i64 X] 3))
        have hown2 := hown.alloc (.cells #[.int .i64 X] 3)
        have hsz : y1.heap.size + 1 ≤ (v2.alloc (.cells #[.int .i64 X] 3)).heap.size := by have := HO2.out.lt; simp; omega
        have HB := Lib.hid (And.intro hBw (And.intro hnew (And.intro hown2 hsz)))
        clear hBw hnew hown2 hsz hown
        go_wp2_with (at_builtin; refine wpList_append_own_at _ rfl _ _ 24 rfl (y1.heap.size + 1) 3 i0 (.int .i64 0) 1 8 Try.underlying24 hi0 hz0 hz1 hz2 rfl (by decide) (.slice A t c) t _ rfl HB.out.2.2.1 ⟨v2.heap.size, 0, none⟩ 1 1 [.int .i64 X] rfl (by simp) HB.out.2.1 (by simp [Value.oneCell']) (by unfold maxLen; omega) (by omega) HB.out.2.2.2 ?_; intro v' w9 hown1 hgrow _ _; have hpush := HO2.out.push (nv := v') (x := X) HB.out.1 hgrow (by rw [tab_length]; exact hown1); obtain ⟨c2G, f2G, rc2⟩ := HO2.out.appended HB.out.1 hgrow; obtain ⟨A', c', rfl⟩ := hpush.slice (n := t + 1) (by simp [tab_length]); have HP := Lib.hid hpush; clear hpush hown1 hgrow rc2)
        go_roundg (xs.length - (t + 1))
        case measure => omega
        case rel => exact ⟨t + 1, by omega, by omega, by go_num, int_eq HXX.out.1, _, _, by rw [tab_succ, ← HXX.out.2]; exact HP.out⟩
      · have hltz : ¬ (t : Int) < (xs.length : Int) := by omega
        obtain rfl : t = xs.length := by omega
        change Outs y1 _ _ _ (leftL xs ys) at hO'
        have hrow := K1.out.2.1.ext hO'.bl K1.out.2.1.lt
        obtain ⟨A', c', e9, hrd, hfr⟩ := hO'.own.rd
        have q4 := hO'.cell
        have hEx := K1.out.1.ext hO'.bl
        have hlen : xs.length = (leftL xs ys).length := by rw [leftL_length]
        rw [hlen] at q4 e9
        cases e9
        obtain ⟨_, _, f0, f1⟩ := two_cells hrow.row
        obtain ⟨z0, z1, _, _⟩ := two_cells hrow.row
        have HS := Lib.hid (made_set hrow (.slice A (leftL xs ys).length c) (.int .i64 0))
        have HF := Lib.hid (hEx.made (c := c) (E := 0) (g := w.heap.size + 1 + 1) (by omega) hrd (hfr.mono (by have := K1.out.1.blk; omega)) (hfr.ne (by have := K1.out.2.1.lt; omega)))
        clear hO' hK' hrow hEx hrd hfr hlen
        go_wp2
        obtain ⟨⟨q0, q9⟩, _⟩ := HS.out
        exact bodyPost_ret (v := .agg #[.slice A (leftL xs ys).length c, .int .i64 0]) (by simp [results, Try.results42, go_sem, q0, q9]) rfl HF.out
end Go.Proofs.Ytknkneccnhgjmaa
