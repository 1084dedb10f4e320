/- Walk: the law FloodChains. -/
import Derived.Test.YtknkneccnhgjmaaG16
import Derived.Test.YtknkneccnhgjmaaL11
namespace Go.Proofs.Ytknkneccnhgjmaa
open Go.RowKit Go.Shelf

set_option maxRecDepth 100000 in
set_option maxHeartbeats 8000000 in
theorem FloodChains_row (w : World) (A : Option Addr) (c : Nat) (cs : List Cv) (h : RdC w w.heap.size A cs) (m : cs.length ≤ maxLen ∧ cs.length ≤ c ∧ ∀ i, i < cs.length → cs[i]!.xs.length ≤ maxLen) :
    Calls Try.prog 11 #[.slice A cs.length c] w fun e w' => e = .returned (.bool true) ∧ Below w.heap.size w w' := by
  have hK : Ex w w [] [] := ⟨Below.refl _ _, fun p hp => (by cases hp), fun p hp => (by cases hp)⟩
  have K := Lib.hid hK
  obtain ⟨_, hcap, hl⟩ := m
  have HL := Lib.hid hl
  have HC := Lib.hid (fun W (hW : Below w.heap.size w W) => h.ext hW)
  clear hK h hl
  by_cases ha30 : cs.length ≤ 12 ∧ 4 < cs.length
  · have z4 : (4 : Int) < (cs.length : Int) := by omega
    have z12 : (cs.length : Int) ≤ 12 := by omega
    go_enter Try.func11, Try.ntmps11
    go_wp2_with (go_at_call 16; refine (sanity_any _).mono ?_; rintro e y2 ⟨rfl, hb⟩; have K1 := Lib.hid (And.intro (K.out.ext hb) (trivial)); clear hb)
    go_ret
    exact ⟨rfl, K1.out.1.bl⟩
  by_cases ha14 : 16 < cs.length
  · have z4 : (4 : Int) < (cs.length : Int) := by omega
    have z12 : ¬ (cs.length : Int) ≤ 12 := by omega
    have z16 : (16 : Int) < (cs.length : Int) := by omega
    go_enter Try.func11, Try.ntmps11
    go_wp2_with (go_at_call 16; refine (sanity_any _).mono ?_; rintro e y2 ⟨rfl, hb⟩; have K1 := Lib.hid (And.intro (K.out.ext hb) (trivial)); clear hb)
    go_ret
    exact ⟨rfl, K1.out.1.bl⟩
  by_cases h4 : 4 < cs.length
  · have z4 : (4 : Int) < (cs.length : Int) := by omega
    have z12 : ¬ (cs.length : Int) ≤ 12 := by omega
    have z16 : ¬ (16 : Int) < (cs.length : Int) := by omega
    have hch := fun W (hW : Below w.heap.size w W) => Chain_any A c cs W (HC.out W hW) (by omega) HL.out hcap
    have hrc := fun W (hW : Below w.heap.size w W) => rChain_any A c cs W (HC.out W hW) (by omega) HL.out
    have hn := chainR_len (cs := cs)
    generalize pick (decide (chainE cs = 0)) (chainTo cs (cs.length - 1)) = R at *
    generalize chainE cs = E at *
    have HCh := Lib.hid (And.intro hch (And.intro hrc hn))
    clear hch hrc hn
    go_enter Try.func11, Try.ntmps11
    go_wp2
    go_loopg [3, 4, 5, 6] cs.length (fun gg i _ _ _ wr => ∃ t : Nat, t ≤ cs.length ∧ cs.length - t ≤ gg ∧ i = .int .i64 t ∧ Aside (Below w.heap.size w wr))
    case atStart => exact ⟨0, Nat.zero_le _, by omega, rfl, Below.refl _ _⟩
    case round =>
      obtain ⟨t, ht, hg, rfl, hb⟩ := hrel
      have K0 : Hid (Ex w wr [] []) := Lib.hid ⟨hb.out, fun p hp => (by cases hp), fun p hp => (by cases hp)⟩
      clear K hb
      by_cases hlt : t < cs.length
      rotate_left
      · have hltz : ¬ (t : Int) < (cs.length : Int) := by omega
        have K := K0
        clear K0
        go_wp2_with fail
        refine (HCh.out.1 _ K.out.bl).mono ?_
        rintro e y1 ⟨A7, c7, rfl, hr, hf, hb⟩
        have K1 := Lib.hid (And.intro (K.out.ext hb) hr)
        clear hr hf hb
        go_upto_region 13 with fail
        have hK := K1.out.1.box (A := A7) (c := c7) K1.out.2
        generalize hgW : y1.alloc (.cells #[.slice A7 R.length c7] 26) = W7 at *
        generalize hgg : y1.heap.size = g7 at *
        clear K K1 hgW hgg
        have K := Lib.hid hK
        clear hK
        go_upto_region 14 with (go_at_call 56; refine (HCh.out.2.1 _ K.out.bl).mono ?_; rintro e y2 ⟨A9, c9, rfl, hr, hf, hb⟩; have K2 := Lib.hid (And.intro (K.out.ext hb) hr); clear hr hf hb)
        have hK := (K2.out.1.addRd K2.out.2).two (.slice A9 R.length c9) (.int .i64 E) 61
        generalize hgW : y2.alloc (.cells #[.slice A9 R.length c9, .int .i64 E] 61) = W9 at *
        generalize hgg : y2.heap.size = g9 at *
        clear K K2 hgW hgg
        have K := Lib.hid hK
        clear hK
        go_wp2_with (first
          | (go_at_call 19; have _t := K1; clear _t; refine (Same_ex A7 A9 c7 c9 R _ (K1.out.1.rds (A7, R) (List.mem_of_getElem? (i := 1) rfl)) (K1.out.1.rds (A9, R) (List.mem_of_getElem? (i := 0) rfl)) HCh.out.2.2).mono ?_; rintro e y6 ⟨rfl, hb⟩; have K5 := Lib.hid (And.intro (K1.out.1.ext hb) (trivial)); have q7 := (K5.out.1.cells (⟨g9, 1, none⟩, .int .i64 E) (List.mem_of_getElem? (i := 1) rfl)).2; clear hb)
          | (go_at_call 16; refine (sanity_any _).mono ?_; rintro e y2 ⟨rfl, hb⟩; have K1 := Lib.hid (And.intro (K.out.ext hb) (trivial)); have q3 := (K1.out.1.cells (⟨g7, 0, none⟩, .slice A7 R.length c7) (List.mem_of_getElem? (i := 2) rfl)).2; have q4 := (K1.out.1.cells (⟨g9, 0, none⟩, .slice A9 R.length c9) (List.mem_of_getElem? (i := 0) rfl)).2; clear hb))
        go_ret
        exact ⟨by simp, K5.out.1.bl⟩
      have hltz : (t : Int) < (cs.length : Int) := by omega
      have hw := HC.out wr K0.out.bl
      have lt := HL.out t hlt
      obtain ⟨b, off, e0, lb, hc⟩ := hw.1 (by omega)
      have k1 := hc t hlt
      have r1 := hw.2 t hlt
      unfold Cv.v at k1
      subst e0
      have HC2 := HC
      have HL2 := HL
      have HCh2 := HCh
      clear hw hc HC HL HCh
      generalize cs[t]! = E1 at *
      obtain ⟨B1, b1, xs⟩ := E1
      dsimp only at k1 r1 lt
      have hK : Ex w wr [(⟨b, off + t, none⟩, .slice B1 xs.length b1)] [(B1, xs)] := ⟨K0.out.bl, fun p hp => (by
        rcases List.mem_cons.1 hp with rfl | hp
        · exact ⟨lb, k1⟩
        · cases hp), fun p hp => (by
        rcases List.mem_cons.1 hp with rfl | hp
        · exact r1
        · cases hp)⟩
      have K := Lib.hid hK
      have H8 := Lib.hid lt
      have HT := Lib.hid (fun W r => Tightest_any B1 b1 xs W r H8.out)
      have HT2 := Lib.hid (fun W r => rTightest_any B1 b1 xs W r H8.out)
      have HPL := Lib.hid (show (pick (validB xs) (leadL xs xs)).length ≤ 1000 from pick_valid fun h => by rw [leadL_length]; exact ((validB_iff _).1 h).2.1)
      generalize pick (validB xs) (leadL xs xs) = T at *
      generalize errB (validB xs) = F at *
      clear hK k1 r1 lb lt K0
      cases hfw : fewB xs
      · skip
        have HF := Lib.hid hfw
        clear hfw HT HT2 HPL HC2 HL2 HCh2
        have q1 := (K.out.cells (⟨b, off + t, none⟩, .slice B1 xs.length b1) (List.mem_of_getElem? (i := 0) rfl)).2
        go_wp2_with (first
          | (go_at_call 16; have _t := K2; clear _t; refine (sanity_any _).mono ?_; rintro e y5 ⟨rfl, hb⟩; have K4 := Lib.hid (And.intro (K2.out.1.ext hb) (trivial)); clear hb)
          | (go_at_call 20; refine (few_any B1 b1 xs _ H8.out).mono ?_; rw [HF.out]; rintro e y3 ⟨rfl, hb⟩; have K2 := Lib.hid (And.intro (K.out.ext hb) (trivial)); clear hb))
        go_ret
        exact ⟨rfl, K4.out.1.bl⟩
      have HF := Lib.hid hfw
      clear hfw
      have q1 := (K.out.cells (⟨b, off + t, none⟩, .slice B1 xs.length b1) (List.mem_of_getElem? (i := 0) rfl)).2
      go_upto_region 8 with (go_at_call 20; refine (few_any B1 b1 xs _ H8.out).mono ?_; rw [HF.out]; rintro e y3 ⟨rfl, hb⟩; have K2 := Lib.hid (And.intro (K.out.ext hb) (trivial)); clear hb)
      have hK := K2.out.1
      generalize hgW : y3 = W8 at *
      clear K K2 q1 hgW
      have K := Lib.hid hK
      clear hK
      have q4 := (K.out.cells (⟨b, off + t, none⟩, .slice B1 xs.length b1) (List.mem_of_getElem? (i := 0) rfl)).2
      go_upto_region 9 with (go_at_call 53; refine (HT.out _ (K.out.rds (B1, xs) (List.mem_of_getElem? (i := 0) rfl))).mono ?_; rintro e y6 ⟨A4, c4, rfl, hr, hf, hb⟩; have K5 := Lib.hid (And.intro (K.out.ext hb) hr); clear hr hf hb)
      have hK := K5.out.1.box (A := A4) (c := c4) K5.out.2
      generalize hgW : y6.alloc (.cells #[.slice A4 T.length c4] 26) = W4 at *
      generalize hgg : y6.heap.size = g4 at *
      clear K K5 q4 hgW hgg
      have K := Lib.hid hK
      clear hK
      have q7 := (K.out.cells (⟨b, off + t, none⟩, .slice B1 xs.length b1) (List.mem_of_getElem? (i := 1) rfl)).2
      go_upto_region 10 with (go_at_call 54; refine (HT2.out _ (K.out.rds (B1, xs) (List.mem_of_getElem? (i := 1) rfl))).mono ?_; rintro e y9 ⟨A6, c6, rfl, hr, hf, hb⟩; have K8 := Lib.hid (And.intro (K.out.ext hb) hr); clear hr hf hb)
      have hK := (K8.out.1.addRd K8.out.2).two (.slice A6 T.length c6) (.int .i64 F) 61
      generalize hgW : y9.alloc (.cells #[.slice A6 T.length c6, .int .i64 F] 61) = W6 at *
      generalize hgg : y9.heap.size = g6 at *
      clear K K8 q7 hgW hgg
      have K := Lib.hid hK
      clear hK
      have q10 := (K.out.cells (⟨g4, 0, none⟩, .slice A4 T.length c4) (List.mem_of_getElem? (i := 2) rfl)).2
      have q11 := (K.out.cells (⟨g6, 0, none⟩, .slice A6 T.length c6) (List.mem_of_getElem? (i := 0) rfl)).2
      have hFF : (F != F) = false := by simp
      go_wp2_with (go_at_call 19; refine (Same_ex A4 A6 c4 c6 T _ (K.out.rds (A4, T) (List.mem_of_getElem? (i := 1) rfl)) (K.out.rds (A6, T) (List.mem_of_getElem? (i := 0) rfl)) HPL.out).mono ?_; rintro e y13 ⟨rfl, hb⟩; have K12 := Lib.hid (And.intro (K.out.ext hb) (trivial)); have q14 := (K12.out.1.cells (⟨g6, 1, none⟩, .int .i64 F) (List.mem_of_getElem? (i := 1) rfl)).2; clear hb)
      go_roundg (cs.length - (t + 1))
      case measure => omega
      case rel => exact ⟨t + 1, by omega, by omega, by go_num, K12.out.1.bl⟩
  · have z4 : ¬ (4 : Int) < (cs.length : Int) := by omega
    have z16 : ¬ (16 : Int) < (cs.length : Int) := by omega
    have hch := fun W (hW : Below w.heap.size w W) => Chain_any A c cs W (HC.out W hW) (by omega) HL.out hcap
    have hrc := fun W (hW : Below w.heap.size w W) => rChain_any A c cs W (HC.out W hW) (by omega) HL.out
    have hn := chainR_len (cs := cs)
    generalize pick (decide (chainE cs = 0)) (chainTo cs (cs.length - 1)) = R at *
    generalize chainE cs = E at *
    have HCh := Lib.hid (And.intro hch (And.intro hrc hn))
    clear hch hrc hn
    go_enter Try.func11, Try.ntmps11
    go_wp2
    go_loopg [3, 4, 5, 6] cs.length (fun gg i _ _ _ wr => ∃ t : Nat, t ≤ cs.length ∧ cs.length - t ≤ gg ∧ i = .int .i64 t ∧ Aside (Below w.heap.size w wr))
    case atStart => exact ⟨0, Nat.zero_le _, by omega, rfl, Below.refl _ _⟩
    case round =>
      obtain ⟨t, ht, hg, rfl, hb⟩ := hrel
      have K0 : Hid (Ex w wr [] []) := Lib.hid ⟨hb.out, fun p hp => (by cases hp), fun p hp => (by cases hp)⟩
      clear K hb
      by_cases hlt : t < cs.length
      rotate_left
      · have hltz : ¬ (t : Int) < (cs.length : Int) := by omega
        have K := K0
        clear K0
        go_wp2_with fail
        refine (HCh.out.1 _ K.out.bl).mono ?_
        rintro e y1 ⟨A7, c7, rfl, hr, hf, hb⟩
        have K1 := Lib.hid (And.intro (K.out.ext hb) hr)
        clear hr hf hb
        go_upto_region 13 with fail
        have hK := K1.out.1.box (A := A7) (c := c7) K1.out.2
        generalize hgW : y1.alloc (.cells #[.slice A7 R.length c7] 26) = W7 at *
        generalize hgg : y1.heap.size = g7 at *
        clear K K1 hgW hgg
        have K := Lib.hid hK
        clear hK
        go_upto_region 14 with (go_at_call 56; refine (HCh.out.2.1 _ K.out.bl).mono ?_; rintro e y2 ⟨A9, c9, rfl, hr, hf, hb⟩; have K2 := Lib.hid (And.intro (K.out.ext hb) hr); clear hr hf hb)
        have hK := (K2.out.1.addRd K2.out.2).two (.slice A9 R.length c9) (.int .i64 E) 61
        generalize hgW : y2.alloc (.cells #[.slice A9 R.length c9, .int .i64 E] 61) = W9 at *
        generalize hgg : y2.heap.size = g9 at *
        clear K K2 hgW hgg
        have K := Lib.hid hK
        clear hK
        go_wp2_with (first
          | (go_at_call 19; have _t := K1; clear _t; refine (Same_ex A7 A9 c7 c9 R _ (K1.out.1.rds (A7, R) (List.mem_of_getElem? (i := 1) rfl)) (K1.out.1.rds (A9, R) (List.mem_of_getElem? (i := 0) rfl)) HCh.out.2.2).mono ?_; rintro e y6 ⟨rfl, hb⟩; have K5 := Lib.hid (And.intro (K1.out.1.ext hb) (trivial)); have q7 := (K5.out.1.cells (⟨g9, 1, none⟩, .int .i64 E) (List.mem_of_getElem? (i := 1) rfl)).2; clear hb)
          | (go_at_call 16; refine (sanity_any _).mono ?_; rintro e y2 ⟨rfl, hb⟩; have K1 := Lib.hid (And.intro (K.out.ext hb) (trivial)); have q3 := (K1.out.1.cells (⟨g7, 0, none⟩, .slice A7 R.length c7) (List.mem_of_getElem? (i := 2) rfl)).2; have q4 := (K1.out.1.cells (⟨g9, 0, none⟩, .slice A9 R.length c9) (List.mem_of_getElem? (i := 0) rfl)).2; clear hb))
        go_ret
        exact ⟨by simp, K5.out.1.bl⟩
      have hltz : (t : Int) < (cs.length : Int) := by omega
      have hw := HC.out wr K0.out.bl
      have lt := HL.out t hlt
      obtain ⟨b, off, e0, lb, hc⟩ := hw.1 (by omega)
      have k1 := hc t hlt
      have r1 := hw.2 t hlt
      unfold Cv.v at k1
      subst e0
      have HC2 := HC
      have HL2 := HL
      have HCh2 := HCh
      clear hw hc HC HL HCh
      generalize cs[t]! = E1 at *
      obtain ⟨B1, b1, xs⟩ := E1
      dsimp only at k1 r1 lt
      have hK : Ex w wr [(⟨b, off + t, none⟩, .slice B1 xs.length b1)] [(B1, xs)] := ⟨K0.out.bl, fun p hp => (by
        rcases List.mem_cons.1 hp with rfl | hp
        · exact ⟨lb, k1⟩
        · cases hp), fun p hp => (by
        rcases List.mem_cons.1 hp with rfl | hp
        · exact r1
        · cases hp)⟩
      have K := Lib.hid hK
      have H8 := Lib.hid lt
      have HT := Lib.hid (fun W r => Tightest_any B1 b1 xs W r H8.out)
      have HT2 := Lib.hid (fun W r => rTightest_any B1 b1 xs W r H8.out)
      have HPL := Lib.hid (show (pick (validB xs) (leadL xs xs)).length ≤ 1000 from pick_valid fun h => by rw [leadL_length]; exact ((validB_iff _).1 h).2.1)
      generalize pick (validB xs) (leadL xs xs) = T at *
      generalize errB (validB xs) = F at *
      clear hK k1 r1 lb lt K0
      cases hfw : fewB xs
      · skip
        have HF := Lib.hid hfw
        clear hfw HT HT2 HPL HC2 HL2 HCh2
        have q1 := (K.out.cells (⟨b, off + t, none⟩, .slice B1 xs.length b1) (List.mem_of_getElem? (i := 0) rfl)).2
        go_wp2_with (first
          | (go_at_call 16; have _t := K2; clear _t; refine (sanity_any _).mono ?_; rintro e y5 ⟨rfl, hb⟩; have K4 := Lib.hid (And.intro (K2.out.1.ext hb) (trivial)); clear hb)
          | (go_at_call 20; refine (few_any B1 b1 xs _ H8.out).mono ?_; rw [HF.out]; rintro e y3 ⟨rfl, hb⟩; have K2 := Lib.hid (And.intro (K.out.ext hb) (trivial)); clear hb))
        go_ret
        exact ⟨rfl, K4.out.1.bl⟩
      have HF := Lib.hid hfw
      clear hfw
      have q1 := (K.out.cells (⟨b, off + t, none⟩, .slice B1 xs.length b1) (List.mem_of_getElem? (i := 0) rfl)).2
      go_upto_region 8 with (go_at_call 20; refine (few_any B1 b1 xs _ H8.out).mono ?_; rw [HF.out]; rintro e y3 ⟨rfl, hb⟩; have K2 := Lib.hid (And.intro (K.out.ext hb) (trivial)); clear hb)
      have hK := K2.out.1
      generalize hgW : y3 = W8 at *
      clear K K2 q1 hgW
      have K := Lib.hid hK
      clear hK
      have q4 := (K.out.cells (⟨b, off + t, none⟩, .slice B1 xs.length b1) (List.mem_of_getElem? (i := 0) rfl)).2
      go_upto_region 9 with (go_at_call 53; refine (HT.out _ (K.out.rds (B1, xs) (List.mem_of_getElem? (i := 0) rfl))).mono ?_; rintro e y6 ⟨A4, c4, rfl, hr, hf, hb⟩; have K5 := Lib.hid (And.intro (K.out.ext hb) hr); clear hr hf hb)
      have hK := K5.out.1.box (A := A4) (c := c4) K5.out.2
      generalize hgW : y6.alloc (.cells #[.slice A4 T.length c4] 26) = W4 at *
      generalize hgg : y6.heap.size = g4 at *
      clear K K5 q4 hgW hgg
      have K := Lib.hid hK
      clear hK
      have q7 := (K.out.cells (⟨b, off + t, none⟩, .slice B1 xs.length b1) (List.mem_of_getElem? (i := 1) rfl)).2
      go_upto_region 10 with (go_at_call 54; refine (HT2.out _ (K.out.rds (B1, xs) (List.mem_of_getElem? (i := 1) rfl))).mono ?_; rintro e y9 ⟨A6, c6, rfl, hr, hf, hb⟩; have K8 := Lib.hid (And.intro (K.out.ext hb) hr); clear hr hf hb)
      have hK := (K8.out.1.addRd K8.out.2).two (.slice A6 T.length c6) (.int .i64 F) 61
      generalize hgW : y9.alloc (.cells #[.slice A6 T.length c6, .int .i64 F] 61) = W6 at *
      generalize hgg : y9.heap.size = g6 at *
      clear K K8 q7 hgW hgg
      have K := Lib.hid hK
      clear hK
      have q10 := (K.out.cells (⟨g4, 0, none⟩, .slice A4 T.length c4) (List.mem_of_getElem? (i := 2) rfl)).2
      have q11 := (K.out.cells (⟨g6, 0, none⟩, .slice A6 T.length c6) (List.mem_of_getElem? (i := 0) rfl)).2
      have hFF : (F != F) = false := by simp
      go_wp2_with (go_at_call 19; refine (Same_ex A4 A6 c4 c6 T _ (K.out.rds (A4, T) (List.mem_of_getElem? (i := 1) rfl)) (K.out.rds (A6, T) (List.mem_of_getElem? (i := 0) rfl)) HPL.out).mono ?_; rintro e y13 ⟨rfl, hb⟩; have K12 := Lib.hid (And.intro (K.out.ext hb) (trivial)); have q14 := (K12.out.1.cells (⟨g6, 1, none⟩, .int .i64 F) (List.mem_of_getElem? (i := 1) rfl)).2; clear hb)
      go_roundg (cs.length - (t + 1))
      case measure => omega
      case rel => exact ⟨t + 1, by omega, by omega, by go_num, K12.out.1.bl⟩
end Go.Proofs.Ytknkneccnhgjmaa
