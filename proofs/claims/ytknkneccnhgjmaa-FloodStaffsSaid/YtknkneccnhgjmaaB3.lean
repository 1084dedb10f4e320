/- Walks: least, Least. -/
import Derived.Test.YtknkneccnhgjmaaB2
import Derived.Deep.RegionHeld3
namespace Go.Proofs.Ytknkneccnhgjmaa
open Go.RowKit Go.Shelf

def leastL (xs ys : List Int) : List Int := lowerL xs (joinL xs ys)
theorem joinL_length (xs ys : List Int) : (joinL xs ys).length = xs.length := tab_length _ _
theorem lowerL_length (xs ys : List Int) : (lowerL xs ys).length = xs.length := tab_length _ _
theorem leadL_length (xs ys : List Int) : (leadL xs ys).length = xs.length := tab_length _ _

set_option maxRecDepth 100000 in
set_option maxHeartbeats 800000 in
theorem least_any (A1 A2 : Option Addr) (c1 c2 : Nat) (xs ys : List Int) (w : World) (r1 : Rd w w.heap.size A1 xs) (r2 : Rd w w.heap.size A2 ys) (h1 : 1 ≤ xs.length) (h2 : xs.length ≤ 121) (h3 : ys.length = xs.length) (sx : Small xs) (sy : Small ys) :
    Calls Try.prog 89 #[.agg #[.slice A1 xs.length c1], .agg #[.slice A2 ys.length c2]] w fun e w' => RCurve w (leastL xs ys) e w' := by
  have hb0 := w2c_below w A1 A2 xs.length c1 ys.length c2
  have hs0 := w2c_size' w A1 A2 xs.length c1 ys.length c2
  have H := Lib.hid (And.intro hb0 (And.intro r1 (And.intro r2 (And.intro h3 (And.intro sx (And.intro sy hs0))))))
  clear hb0 hs0 r1 r2 h3 sx sy
  go_enter Try.func89, Try.ntmps89
  go_wp2
  go_region_held3 (fun W => W.cell? ⟨w.heap.size, 0, none⟩ = some (.slice A1 xs.length c1) ∧ W.cell? ⟨w.heap.size + 1, 0, none⟩ = some (.slice A2 ys.length c2)) (go_keep) (first
    | (go_at_call 81; refine (join_any A1 A2 c1 c2 xs ys _ (H.out.2.1.ext H.out.1.drew) (H.out.2.2.1.ext H.out.1.drew) h1 h2 H.out.2.2.2.1 H.out.2.2.2.2.1 H.out.2.2.2.2.2.1).mono ?_; rintro e w1 ⟨A, c, rfl, hrd, hfr, hb⟩; obtain ⟨p1, p2, q1, q2, HH⟩ := w2c_after (c1 := c1) (c2 := c2) H.out.2.1 H.out.2.2.1 (((Below.refl (w.heap.size + 1 + 1 + 1) (w2c w A1 A2 xs.length c1 ys.length c2)).drew).trans (hb.mono (Nat.le_of_eq H.out.2.2.2.2.2.2.symm))); have HJ := Lib.hid hrd; clear hrd hfr hb)
    | (go_at_call 87; refine (lower_any A1 A c1 c xs (joinL xs ys) _ HH.out.1 HJ.out h1 h2 (joinL_length _ _)).mono ?_; rintro e w2 ⟨A', c', rfl, hrd, hfr, hb⟩; have s1 := (hb.cell (p := ⟨w.heap.size + 1 + 1, 0, none⟩) HH.out.2.2.2).trans q1; have s2 := (hb.frozen (p := ⟨w.heap.size + 1 + 1, 0, none⟩) HH.out.2.2.2).trans q2; have t1 := (hb.cell (p := ⟨w.heap.size, 0, none⟩) (show w.heap.size < _ by have := HH.out.2.2.2; omega)).trans p1; have t2 := (hb.cell (p := ⟨w.heap.size + 1, 0, none⟩) (show w.heap.size + 1 < _ by have := HH.out.2.2.2; omega)).trans p2; have u1 := fun v => (World.cell?_setCell_other w2 ⟨w.heap.size + 1 + 1, 0, none⟩ ⟨w.heap.size, 0, none⟩ v (by simp)).trans t1; have HL := Lib.hid (And.intro hrd (And.intro hfr hb)); clear hrd hfr hb))
  go_wp2
  have hfin : RCurve w (leastL xs ys) (.returned (.agg #[.slice A' (leastL xs ys).length c'])) (w2.setCell ⟨w.heap.size + 1 + 1, 0, none⟩ (.slice A' (leastL xs ys).length c')) :=
    fin_curve (H := w1.heap.size) (HH.out.2.2.1.trans (HL.out.2.2.mono HH.out.2.2.1.size)) HH.out.2.2.1.size HL.out.1 HL.out.2.1 (by omega) HH.out.2.2.2
  exact bodyPost_ret (v := .agg #[.slice A' (leastL xs ys).length c']) (by simp [results, Try.results89, go_sem, s1]; rfl) rfl hfin
set_option maxHeartbeats 400000 in
theorem Least_any (A1 A2 : Option Addr) (c1 c2 : Nat) (xs ys : List Int) (w : World) (r1 : Rd w w.heap.size A1 xs) (r2 : Rd w w.heap.size A2 ys) (m1 : xs.length ≤ maxLen) (m2 : ys.length ≤ maxLen) :
    Calls Try.prog 38 #[.agg #[.slice A1 xs.length c1], .agg #[.slice A2 ys.length c2]] w fun e w' => RCE w (pick (ok2 xs ys) (leastL xs ys)) (errB (ok2 xs ys)) e w' := by
  have hb0 := w2c_below w A1 A2 xs.length c1 ys.length c2
  have hr := right2 A1 A2 c1 c2 xs ys (w2c w A1 A2 xs.length c1 ys.length c2) (r1.ext hb0) (r2.ext hb0) m1 m2
  rw [w2c_size'] at hr
  cases hv : ok2 xs ys
  · rw [hv] at hr
    simp only [errB_f, pick_f] at hr ⊢
    have HR := Lib.hid (And.intro hr (And.intro r1 r2))
    clear hr r1 r2 hb0 hv
    go_enter Try.func38, Try.ntmps38
    go_wp2_with (go_at_call 78; refine HR.out.1.mono ?_; rintro e w1 ⟨rfl, hb⟩; obtain ⟨p1, p2, q1, q2, HH⟩ := w2c_after HR.out.2.1 HR.out.2.2 hb)
    exact bodyPost_ret (v := .tuple #[.agg #[.slice none 0 0], .int .i64 1]) (by simp [results, Try.results38, go_sem, q1]) rfl (fin_nil HH.out.2.2.1 (by omega))
  · have ⟨v1, v2, h3⟩ := ok2_iff.1 hv
    rw [hv] at hr
    simp only [errB_t, pick_t] at hr ⊢
    have HR := Lib.hid (And.intro hr (And.intro r1 (And.intro r2 (And.intro v1 (And.intro v2 h3)))))
    clear hr r1 r2 hb0 hv v1 v2 h3
    go_enter Try.func38, Try.ntmps38
    go_wp2_with (first | (go_at_call 78; refine HR.out.1.mono ?_; rintro e w1 ⟨rfl, hb⟩; obtain ⟨p1, p2, q1, q2, HH⟩ := w2c_after HR.out.2.1 HR.out.2.2.1 hb) | (go_at_call 89; refine (least_any A1 A2 c1 c2 xs ys _ HH.out.1 HH.out.2.1 HR.out.2.2.2.1.1 HR.out.2.2.2.1.2.1 HR.out.2.2.2.2.2 HR.out.2.2.2.1.small HR.out.2.2.2.2.1.small).mono ?_))
    rintro e w2 ⟨A, c, rfl, hrd, hfr, hb2⟩
    have s1 := (hb2.cell (p := ⟨w.heap.size + 1 + 1, 0, none⟩) HH.out.2.2.2).trans q1
    have s2 := (hb2.frozen (p := ⟨w.heap.size + 1 + 1, 0, none⟩) HH.out.2.2.2).trans q2
    have HF := Lib.hid (fin_ce (E := 0) (c := c) (g := w.heap.size + 1 + 1) HH.out.2.2.1 hb2 hrd hfr (by omega) HH.out.2.2.2)
    clear hrd hfr hb2
    go_wp2
    exact bodyPost_ret (v := .tuple #[.agg #[.slice A (leastL xs ys).length c], .int .i64 0]) (by simp [results, Try.results38, go_sem, s1]) rfl HF.out

def fitB (xs : List Int) : Bool := decide (nth xs (xs.length - 1) ≤ 1073741824)
def rngB (xs : List Int) : Int := if fitB xs then 0 else 3
theorem fit_cases (xs : List Int) : (nth xs (xs.length - 1) ≤ 1073741824 ∧ fitB xs = true ∧ rngB xs = 0) ∨ (1073741824 < nth xs (xs.length - 1) ∧ fitB xs = false ∧ rngB xs = 3) := by
  by_cases h : nth xs (xs.length - 1) ≤ 1073741824
  · exact .inl ⟨h, by simp [fitB, h], by simp [rngB, fitB, h]⟩
  · exact .inr ⟨by omega, by simp [fitB, h], by simp [rngB, fitB, h]⟩

set_option maxHeartbeats 400000 in
theorem Join_any (A1 A2 : Option Addr) (c1 c2 : Nat) (xs ys : List Int) (w : World) (r1 : Rd w w.heap.size A1 xs) (r2 : Rd w w.heap.size A2 ys) (m1 : xs.length ≤ maxLen) (m2 : ys.length ≤ maxLen) :
    Calls Try.prog 22 #[.agg #[.slice A1 xs.length c1], .agg #[.slice A2 ys.length c2]] w fun e w' => RCE w (pick (ok2 xs ys && fitB (joinL xs ys)) (joinL xs ys)) (if ok2 xs ys then rngB (joinL xs ys) else 1) e w' := by
  have hb0 := w2c_below w A1 A2 xs.length c1 ys.length c2
  have hr := right2 A1 A2 c1 c2 xs ys (w2c w A1 A2 xs.length c1 ys.length c2) (r1.ext hb0) (r2.ext hb0) m1 m2
  rw [w2c_size'] at hr
  cases hv : ok2 xs ys
  · rw [hv] at hr
    simp only [errB_f, Bool.false_and, pick_f, Bool.false_eq_true, if_false] at hr ⊢
    have HR := Lib.hid (And.intro hr (And.intro r1 r2))
    clear hr r1 r2 hb0 hv
    go_enter Try.func22, Try.ntmps22
    go_wp2_with (go_at_call 78; refine HR.out.1.mono ?_; rintro e w1 ⟨rfl, hb⟩; obtain ⟨p1, p2, q1, q2, HH⟩ := w2c_after HR.out.2.1 HR.out.2.2 hb)
    exact bodyPost_ret (v := .tuple #[.agg #[.slice none 0 0], .int .i64 1]) (by simp [results, Try.results22, go_sem, q1]) rfl (fin_nil HH.out.2.2.1 (by omega))
  · have ⟨v1, v2, h3⟩ := ok2_iff.1 hv
    rw [hv] at hr
    simp only [errB_t, Bool.true_and, if_true] at hr ⊢
    have HR := Lib.hid (And.intro hr (And.intro r1 (And.intro r2 (And.intro v1 (And.intro v2 h3)))))
    have hlen := joinL_length xs ys
    have hl1 : 1 ≤ (joinL xs ys).length := by rw [hlen]; exact v1.1
    have hl2 : (joinL xs ys).length ≤ 121 := by rw [hlen]; exact v1.2.1
    clear hr r1 r2 hb0 hv v1 v2 h3 hlen
    rcases fit_cases (joinL xs ys) with ⟨hle, hf, hr⟩ | ⟨hgt, hf, hr⟩
    · rw [hf, hr]
      clear hf hr
      simp only [pick_t]
      go_enter Try.func22, Try.ntmps22
      go_wp2_with (first | (go_at_call 78; refine HR.out.1.mono ?_; rintro e w1 ⟨rfl, hb⟩; obtain ⟨p1, p2, q1, q2, HH⟩ := w2c_after HR.out.2.1 HR.out.2.2.1 hb) | (go_at_call 81; refine (join_any A1 A2 c1 c2 xs ys _ HH.out.1 HH.out.2.1 HR.out.2.2.2.1.1 HR.out.2.2.2.1.2.1 HR.out.2.2.2.2.2 HR.out.2.2.2.1.small HR.out.2.2.2.2.1.small).mono ?_; rintro e w2 ⟨A, c, rfl, hrd, hfr, hb2⟩; have HL := Lib.hid (And.intro hrd (And.intro hfr hb2)); clear hrd hfr hb2) | (go_at_call 80; refine (bounded_ok A c (joinL xs ys) _ HL.out.1 hl1 hl2 hle).mono ?_))
      rintro e w3 ⟨rfl, hb3⟩
      have hb2 := HL.out.2.2.trans (hb3.mono HL.out.2.2.size)
      have s1 := (hb2.cell (p := ⟨w.heap.size + 1 + 1, 0, none⟩) HH.out.2.2.2).trans q1
      have s2 := (hb2.frozen (p := ⟨w.heap.size + 1 + 1, 0, none⟩) HH.out.2.2.2).trans q2
      have HF := Lib.hid (fin_ce (E := 0) (c := c) (g := w.heap.size + 1 + 1) HH.out.2.2.1 hb2 (HL.out.1.ext hb3) HL.out.2.1 (by omega) HH.out.2.2.2)
      clear hb2 hb3
      go_wp2
      exact bodyPost_ret (v := .tuple #[.agg #[.slice A (joinL xs ys).length c], .int .i64 0]) (by simp [results, Try.results22, go_sem, s1]) rfl HF.out
    · rw [hf, hr]
      clear hf hr
      simp only [pick_f]
      go_enter Try.func22, Try.ntmps22
      go_wp2_with (first | (go_at_call 78; refine HR.out.1.mono ?_; rintro e w1 ⟨rfl, hb⟩; obtain ⟨p1, p2, q1, q2, HH⟩ := w2c_after HR.out.2.1 HR.out.2.2.1 hb) | (go_at_call 81; refine (join_any A1 A2 c1 c2 xs ys _ HH.out.1 HH.out.2.1 HR.out.2.2.2.1.1 HR.out.2.2.2.1.2.1 HR.out.2.2.2.2.2 HR.out.2.2.2.1.small HR.out.2.2.2.2.1.small).mono ?_; rintro e w2 ⟨A, c, rfl, hrd, hfr, hb2⟩; have HL := Lib.hid (And.intro hrd (And.intro hfr hb2)); clear hrd hfr hb2) | (go_at_call 80; refine (bounded_no A c (joinL xs ys) _ HL.out.1 hl1 hl2 hgt).mono ?_))
      rintro e w3 ⟨rfl, hb3⟩
      have hb2 := HL.out.2.2.trans (hb3.mono HL.out.2.2.size)
      have s1 := (hb2.cell (p := ⟨w.heap.size + 1 + 1, 0, none⟩) HH.out.2.2.2).trans q1
      have s2 := (hb2.frozen (p := ⟨w.heap.size + 1 + 1, 0, none⟩) HH.out.2.2.2).trans q2
      have HF := Lib.hid (fin_nil (E := 3) (g := w.heap.size + 1 + 1) (v := .slice none 0 0) (HH.out.2.2.1.trans (hb2.mono HH.out.2.2.1.size)) (by omega))
      clear hb2 hb3
      go_wp2
      exact bodyPost_ret (v := .tuple #[.agg #[.slice none 0 0], .int .i64 3]) (by simp [results, Try.results22, go_sem, s1]) rfl HF.out

end Go.Proofs.Ytknkneccnhgjmaa
