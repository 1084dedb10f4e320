/- Walks: Sum. -/
import Derived.Test.YtknkneccnhgjmaaB3
namespace Go.Proofs.Ytknkneccnhgjmaa
open Go.RowKit Go.Shelf

def sumL (xs ys : List Int) : List Int := tab xs.length fun t => nth xs t + nth ys t
theorem sumL_length (xs ys : List Int) : (sumL xs ys).length = xs.length := tab_length _ _
theorem eg86 : ∀ args w, (callFunc 86 args).run Try.prog w = .ok (.enter 86 args) w := enters_of Try.func86 (by kernel_rfl) rfl

theorem sum_tells {w w1 : World} {A1 A2 : Option Addr} {c1 c2 : Nat} {xs ys : List Int} (v1 : Valid xs) (v2 : Valid ys) (h3 : ys.length = xs.length) (p1 : w1.cell? ⟨w.heap.size, 0, none⟩ = some (.slice A1 xs.length c1)) (p2 : w1.cell? ⟨w.heap.size + 1, 0, none⟩ = some (.slice A2 ys.length c2))
    (HH : Rd w1 w1.heap.size A1 xs ∧ Rd w1 w1.heap.size A2 ys ∧ Below w.heap.size w w1 ∧ w.heap.size + 1 + 1 < w1.heap.size) :
    ∀ (t : Nat) (W : World), t < xs.length → Below w1.heap.size w1 W → Calls Try.prog 86 (#[.int .i64 t] ++ #[.pointer (some ⟨w.heap.size, 0, none⟩), .pointer (some ⟨w.heap.size + 1, 0, none⟩)]) W fun e W' => e = .returned (.int .i64 (nth xs t + nth ys t)) ∧ Below W.heap.size W W' :=
  fun t W ht hW => sum1_any t _ _ xs ys W ((show Held w1 w.heap.size 0 xs from ⟨by omega, A1, c1, p1, HH.1⟩).below hW) ((show Held w1 (w.heap.size + 1) 0 ys from ⟨by omega, A2, c2, p2, HH.2.1⟩).below hW) ht (by omega) v1.small v2.small

set_option maxHeartbeats 400000 in
theorem Sum_any (A1 A2 : Option Addr) (c1 c2 : Nat) (xs ys : List Int) (w : World) (r1 : Rd w w.heap.size A1 xs) (r2 : Rd w w.heap.size A2 ys) (m1 : xs.length ≤ maxLen) (m2 : ys.length ≤ maxLen) :
    Calls Try.prog 27 #[.agg #[.slice A1 xs.length c1], .agg #[.slice A2 ys.length c2]] w fun e w' => RCE w (pick (ok2 xs ys && fitB (sumL xs ys)) (sumL xs ys)) (if ok2 xs ys then rngB (sumL xs ys) else 1) e w' := by
  have hb0 := w2c_below w A1 A2 xs.length c1 ys.length c2
  have hr := right2 A1 A2 c1 c2 xs ys (w2c w A1 A2 xs.length c1 ys.length c2) (r1.ext hb0) (r2.ext hb0) m1 m2
  rw [w2c_size'] at hr
  cases hv : ok2 xs ys
  · rw [hv] at hr
    simp only [errB_f, Bool.false_and, pick_f, Bool.false_eq_true, if_false] at hr ⊢
    have HR := Lib.hid (And.intro hr (And.intro r1 r2))
    clear hr r1 r2 hb0 hv
    go_enter Try.func27, Try.ntmps27
    go_wp2_with (go_at_call 78; refine HR.out.1.mono ?_; rintro e w1 ⟨rfl, hb⟩; obtain ⟨p1, p2, q1, q2, HH⟩ := w2c_after HR.out.2.1 HR.out.2.2 hb)
    exact bodyPost_ret (v := .tuple #[.agg #[.slice none 0 0], .int .i64 1]) (by simp [results, Try.results27, go_sem, q1]) rfl (fin_nil HH.out.2.2.1 (by omega))
  · have ⟨v1, v2, h3⟩ := ok2_iff.1 hv
    rw [hv] at hr
    simp only [errB_t, Bool.true_and, if_true] at hr ⊢
    have HR := Lib.hid (And.intro hr (And.intro r1 (And.intro r2 (And.intro v1 (And.intro v2 h3)))))
    have hlen := sumL_length xs ys
    have hl1 : 1 ≤ (sumL xs ys).length := by rw [hlen]; exact v1.1
    have hl2 : (sumL xs ys).length ≤ 121 := by rw [hlen]; exact v1.2.1
    clear hr r1 r2 hb0 hv v1 v2 h3 hlen
    rcases fit_cases (sumL xs ys) with ⟨hle, hf, hr⟩ | ⟨hgt, hf, hr⟩
    · rw [hf, hr]
      clear hf hr
      simp only [pick_t]
      go_enter Try.func27, Try.ntmps27
      go_wp2_with (first | (go_at_call 78; refine HR.out.1.mono ?_; rintro e w1 ⟨rfl, hb⟩; obtain ⟨p1, p2, q1, q2, HH⟩ := w2c_after HR.out.2.1 HR.out.2.2.1 hb) | (go_at_call 71; refine (each_pure 86 #[.pointer (some ⟨w.heap.size, 0, none⟩), .pointer (some ⟨w.heap.size + 1, 0, none⟩)] eg86 xs.length HR.out.2.2.2.1.1 HR.out.2.2.2.1.2.1 (fun t => nth xs t + nth ys t) _ (sum_tells HR.out.2.2.2.1 HR.out.2.2.2.2.1 HR.out.2.2.2.2.2 p1 p2 HH.out)).mono ?_; rintro e w2 ⟨A, c, rfl, hrd, hfr, hb2⟩; have HL := Lib.hid (And.intro hrd (And.intro hfr hb2)); clear hrd hfr hb2) | (go_at_call 80; refine (bounded_ok A c (sumL xs ys) _ HL.out.1 hl1 hl2 hle).mono ?_))
      rintro e w3 ⟨rfl, hb3⟩
      have hb2 := HL.out.2.2.trans (hb3.mono HL.out.2.2.size)
      have s1 := (hb2.cell (p := ⟨w.heap.size + 1 + 1, 0, none⟩) HH.out.2.2.2).trans q1
      have s2 := (hb2.frozen (p := ⟨w.heap.size + 1 + 1, 0, none⟩) HH.out.2.2.2).trans q2
      have HF := Lib.hid (fin_ce (E := 0) (c := c) (g := w.heap.size + 1 + 1) HH.out.2.2.1 hb2 (HL.out.1.ext hb3) HL.out.2.1 (by omega) HH.out.2.2.2)
      clear hb2 hb3
      go_wp2
      exact bodyPost_ret (v := .tuple #[.agg #[.slice A (sumL xs ys).length c], .int .i64 0]) (by simp [results, Try.results27, go_sem, s1]) rfl HF.out
    · rw [hf, hr]
      clear hf hr
      simp only [pick_f]
      go_enter Try.func27, Try.ntmps27
      go_wp2_with (first | (go_at_call 78; refine HR.out.1.mono ?_; rintro e w1 ⟨rfl, hb⟩; obtain ⟨p1, p2, q1, q2, HH⟩ := w2c_after HR.out.2.1 HR.out.2.2.1 hb) | (go_at_call 71; refine (each_pure 86 #[.pointer (some ⟨w.heap.size, 0, none⟩), .pointer (some ⟨w.heap.size + 1, 0, none⟩)] eg86 xs.length HR.out.2.2.2.1.1 HR.out.2.2.2.1.2.1 (fun t => nth xs t + nth ys t) _ (sum_tells HR.out.2.2.2.1 HR.out.2.2.2.2.1 HR.out.2.2.2.2.2 p1 p2 HH.out)).mono ?_; rintro e w2 ⟨A, c, rfl, hrd, hfr, hb2⟩; have HL := Lib.hid (And.intro hrd (And.intro hfr hb2)); clear hrd hfr hb2) | (go_at_call 80; refine (bounded_no A c (sumL xs ys) _ HL.out.1 hl1 hl2 hgt).mono ?_))
      rintro e w3 ⟨rfl, hb3⟩
      have hb2 := HL.out.2.2.trans (hb3.mono HL.out.2.2.size)
      have s1 := (hb2.cell (p := ⟨w.heap.size + 1 + 1, 0, none⟩) HH.out.2.2.2).trans q1
      have s2 := (hb2.frozen (p := ⟨w.heap.size + 1 + 1, 0, none⟩) HH.out.2.2.2).trans q2
      have HF := Lib.hid (fin_nil (E := 3) (g := w.heap.size + 1 + 1) (v := .slice none 0 0) (HH.out.2.2.1.trans (hb2.mono HH.out.2.2.1.size)) (by omega))
      clear hb2 hb3
      go_wp2
      exact bodyPost_ret (v := .tuple #[.agg #[.slice none 0 0], .int .i64 3]) (by simp [results, Try.results27, go_sem, s1]) rfl HF.out

end Go.Proofs.Ytknkneccnhgjmaa
