/- Walk: the reference's later. -/
import Derived.Test.YtknkneccnhgjmaaG1
namespace Go.Proofs.Ytknkneccnhgjmaa
open Go.RowKit Go.Shelf

set_option maxRecDepth 100000 in
set_option maxHeartbeats 32000000 in
theorem rlater_any (A1 A2 : Option Addr) (c1 c2 : Nat) (xs ys : List Int) (w : World) (r1 : Rd w w.heap.size A1 xs) (r2 : Rd w w.heap.size A2 ys) (h1 : 1 ≤ xs.length) (h2 : xs.length ≤ 1000) (h3 : ys.length = xs.length) :
    Calls Try.prog 96 #[.agg #[.slice A1 xs.length c1], .agg #[.slice A2 ys.length c2]] w fun e w' => e = .returned (.int .i64 (waitI xs ys)) ∧ Below w.heap.size w w' := by
  obtain ⟨b1, o1, rfl, lb1, g1⟩ := r1 (by omega)
  obtain ⟨b2, o2, rfl, lb2, g2⟩ := r2 (by omega)
  have H3 := Lib.hid h3
  clear r1 r2 h3
  have hw0 : Below w.heap.size w ((w.alloc (.cells #[.slice (some ⟨b1, o1, none⟩) xs.length c1] 26)).alloc (.cells #[.slice (some ⟨b2, o2, none⟩) ys.length c2] 26)) := ((Below.refl _ w).alloc (Nat.le_refl _) _).alloc (by simp) _
  have p1 : ((w.alloc (.cells #[.slice (some ⟨b1, o1, none⟩) xs.length c1] 26)).alloc (.cells #[.slice (some ⟨b2, o2, none⟩) ys.length c2] 26)).cell? ⟨w.heap.size, 0, none⟩ = some (.slice (some ⟨b1, o1, none⟩) xs.length c1) := by simp [go_sem]
  have p2 : ((w.alloc (.cells #[.slice (some ⟨b1, o1, none⟩) xs.length c1] 26)).alloc (.cells #[.slice (some ⟨b2, o2, none⟩) ys.length c2] 26)).cell? ⟨w.heap.size + 1, 0, none⟩ = some (.slice (some ⟨b2, o2, none⟩) ys.length c2) := by simp [go_sem]
  have hs0 : ((w.alloc (.cells #[.slice (some ⟨b1, o1, none⟩) xs.length c1] 26)).alloc (.cells #[.slice (some ⟨b2, o2, none⟩) ys.length c2] 26)).heap.size = w.heap.size + 1 + 1 := by simp
  go_enter Try.func96, Try.ntmps96
  go_upto_region 1 with fail
  generalize hwo : (w.alloc (.cells #[.slice (some ⟨b1, o1, none⟩) xs.length c1] 26)).alloc (.cells #[.slice (some ⟨b2, o2, none⟩) ys.length c2] 26) = wo at *
  have HO := Lib.hid (And.intro p1 (And.intro p2 (And.intro hs0 hw0)))
  clear hwo p1 p2 hs0 hw0
  go_wp2
  go_loopg [5] (xs.length + 1) (fun gk i wr => ∃ k : Nat, k ≤ xs.length ∧ xs.length + 1 - k ≤ gk ∧ i = .int .i64 k ∧ Aside (Below (w.heap.size + 1 + 1) wo wr) ∧ Aside (∀ j, j < k → lateB xs ys j = true))
  case atStart => exact ⟨0, Nat.zero_le _, by omega, rfl, Below.refl _ _, fun j hj => absurd hj (Nat.not_lt_zero _)⟩
  case round =>
    obtain ⟨k, hk, hgk, rfl, hb, hA⟩ := hrel
    have HB := Lib.hid hb.out
    have HA := Lib.hid hA.out
    have q1 := (hb.out.cell (p := ⟨w.heap.size, 0, none⟩) (show w.heap.size < _ by omega)).trans HO.out.1
    clear hb hA
    by_cases hkl : k < xs.length
    · have hkz : (k : Int) < (xs.length : Int) := by omega
      go_wp2
      clear q1
      obtain ⟨wp, hwp⟩ : ∃ wp : World, wp = wr := ⟨_, rfl⟩
      rw [← hwp] at HB ⊢
      clear hwp
      go_loopg [6, 7] (xs.length + 1) (fun gk2 l i wi => ∃ (t : Nat), t + k ≤ xs.length ∧ xs.length - k - t ≤ gk2 ∧ i = .int .i64 t ∧ l = .bool (!lateTo xs ys k t) ∧ Aside (Below (w.heap.size + 1 + 1) wo wi))
      case atStart => exact ⟨0, by omega, by omega, rfl, rfl, HB.out⟩
      case round =>
        obtain ⟨t, ht, hgt, rfl, rfl, hb⟩ := hrel
        have hbw := hb.out
        have p1 := (hbw.cell (p := ⟨w.heap.size, 0, none⟩) (show w.heap.size < _ by omega)).trans HO.out.1
        have p2 := (hbw.cell (p := ⟨w.heap.size + 1, 0, none⟩) (show w.heap.size + 1 < _ by omega)).trans HO.out.2.1
        have hsz := hbw.size
        have hso := HO.out.2.2.1
        have l1 : w.heap.size < wr.heap.size := by omega
        have l2 : w.heap.size + 1 < wr.heap.size := by omega
        have l3 : b1 < wr.heap.size := by omega
        have l4 : b2 < wr.heap.size := by omega
        have l5 : w.heap.size + 1 + 1 ≤ wr.heap.size := by omega
        have hls := lateTo_succ xs ys k t
        clear hso hbw
        by_cases hlt : t + k < xs.length
        · have hltz : (t : Int) + (k : Int) < (xs.length : Int) := by omega
          have hyl : t + k < ys.length := by rw [H3.out]; exact hlt
          have HB2 := Lib.hid hb.out
          cases hl : lateTo xs ys k t
          · rw [hl] at hls
            have k1 := (hb.out.cell (p := ⟨b1, o1 + t, none⟩) (show b1 < _ by omega)).trans ((HO.out.2.2.2.cell (p := ⟨b1, o1 + t, none⟩) lb1).trans (g1 t (by omega)))
            have k2 := (hb.out.cell (p := ⟨b2, o2 + (t + k), none⟩) (show b2 < _ by omega)).trans ((HO.out.2.2.2.cell (p := ⟨b2, o2 + (t + k), none⟩) lb2).trans (g2 (t + k) (by rw [H3.out]; omega)))
            by_cases hq : nth ys (t + k) < nth xs t
            · have HL := Lib.hid (show (false : Bool) = !lateTo xs ys k (t + 1) by rw [hls]; simp [hq])
              have hq2 : ¬ nth xs t ≤ nth ys (t + k) := by omega
              have hd : decide (nth xs t ≤ nth ys (t + k)) = false := decide_eq_false hq2
              clear hl hls hb
              go_wp2
              refine wp_region_ext (by kernel_rfl) (by kernel_rfl) ?_
              intro ι _ X hX hC
              have rX := fun k => (bcell (hX k)).1
              repeat (first | go_big_quiet_skip | (go_big_quiet_want; go_big_quiet_op; first | go_big_quiet_on | (apply Exists.intro; refine ⟨fun _ => ?_, ?_⟩; (focus (fail)); go_big_quiet_on)))
              refine wpQuiet_nil ?_
              intro w1 hb1
              clear rX hX hC
              go_wp2
              go_roundg (xs.length - k - (t + 1))
              case measure => omega
              case rel => exact ⟨t + 1, by omega, Nat.le_refl _, by go_num, by rw [← HL.out], HB2.out.trans (hb1.mono (by omega))⟩
            · have HL := Lib.hid (show (true : Bool) = !lateTo xs ys k (t + 1) by rw [hls]; simp [hq])
              have hq2 : nth xs t ≤ nth ys (t + k) := by omega
              have hd : decide (nth xs t ≤ nth ys (t + k)) = true := decide_eq_true hq2
              clear hl hls hb
              go_wp2
              refine wp_region_ext (by kernel_rfl) (by kernel_rfl) ?_
              intro ι _ X hX hC
              have rX := fun k => (bcell (hX k)).1
              repeat (first | go_big_quiet_skip | (go_big_quiet_want; go_big_quiet_op; first | go_big_quiet_on | (apply Exists.intro; refine ⟨fun _ => ?_, ?_⟩; (focus (fail)); go_big_quiet_on)))
              refine wpQuiet_nil ?_
              intro w1 hb1
              clear rX hX hC
              go_wp2
              go_roundg (xs.length - k - (t + 1))
              case measure => omega
              case rel => exact ⟨t + 1, by omega, Nat.le_refl _, by go_num, by rw [← HL.out], HB2.out.trans (hb1.mono (by omega))⟩
          · rw [hl] at hls
            have HL := Lib.hid (show (false : Bool) = !lateTo xs ys k (t + 1) by rw [hls]; rfl)
            clear hl hls hb
            simp only [Bool.not_true]
            go_wp2
            refine wp_region_ext (by kernel_rfl) (by kernel_rfl) ?_
            intro ι _ X hX hC
            have rX := fun k => (bcell (hX k)).1
            repeat (first | go_big_quiet_skip | (go_big_quiet_want; go_big_quiet_op; first | go_big_quiet_on | (apply Exists.intro; refine ⟨fun _ => ?_, ?_⟩; (focus (fail)); go_big_quiet_on)))
            refine wpQuiet_nil ?_
            intro w1 hb1
            clear rX hX hC
            go_wp2
            go_roundg (xs.length - k - (t + 1))
            case measure => omega
            case rel => exact ⟨t + 1, by omega, Nat.le_refl _, by go_num, by rw [← HL.out], HB2.out.trans (hb1.mono (by omega))⟩
        · have hltz : ¬ (t : Int) + (k : Int) < (xs.length : Int) := by omega
          have hlk : lateB xs ys k = lateTo xs ys k t := by unfold lateB; rw [show xs.length - k = t by omega]
          have HB2 := Lib.hid hb.out
          clear hls
          cases hl : lateTo xs ys k t
          · have hfin : waitI xs ys = (k : Int) := firstIdx_hit (by omega) (by show (!lateB xs ys k) = true; rw [hlk, hl]; rfl) (fun j hj => by show (!lateB xs ys j) = false; rw [HA.out j hj]; rfl)
            have HF := Lib.hid (And.intro hfin (HO.out.2.2.2.trans (hb.out.mono (by omega))))
            clear hfin hl hb hgt hlk
            go_wp2
            go_ret
            exact ⟨by rw [HF.out.1]; rfl, HF.out.2⟩
          · have HF := Lib.hid (hlk.trans hl)
            clear hl hb hgt hlk
            go_wp2
            go_roundg (xs.length + 1 - (k + 1))
            case measure => omega
            case rel =>
              refine ⟨k + 1, by omega, by omega, by go_num, HB2.out, (show Aside _ from fun j hj => ?_)⟩
              rcases Nat.lt_or_ge j k with e | e
              · exact HA.out j e
              · obtain rfl : j = k := by omega
                exact HF.out
    · have hkz : ¬ (k : Int) < (xs.length : Int) := by omega
      obtain rfl : k = xs.length := by omega
      have hend : lateB xs ys xs.length = false := lateB_false.2 fun t ht => by omega
      have hfin : waitI xs ys = (xs.length : Int) := firstIdx_hit (by omega) (by show (!lateB xs ys xs.length) = true; rw [hend]; rfl) (fun j hj => by show (!lateB xs ys j) = false; rw [HA.out j hj]; rfl)
      have HF := Lib.hid (And.intro hfin (HO.out.2.2.2.trans (HB.out.mono (by omega))))
      clear hfin hend
      go_wp2
      go_ret
      exact ⟨ret_int HF.out.1.symm, HF.out.2⟩
end Go.Proofs.Ytknkneccnhgjmaa
