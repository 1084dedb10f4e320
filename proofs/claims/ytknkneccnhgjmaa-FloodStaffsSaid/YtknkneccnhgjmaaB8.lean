/- Walks: fails, Served. -/
import Derived.Test.YtknkneccnhgjmaaB7
namespace Go.Proofs.Ytknkneccnhgjmaa
open Go.RowKit Go.Shelf

/-- Three boxed curves. -/
def w3b (w : World) (A1 A2 A3 : Option Addr) (n1 c1 n2 c2 n3 c3 : Nat) : World := ((w.alloc (.cells #[.slice A1 n1 c1] 26)).alloc (.cells #[.slice A2 n2 c2] 26)).alloc (.cells #[.slice A3 n3 c3] 26)
theorem w3b_below (w : World) (A1 A2 A3 : Option Addr) (n1 c1 n2 c2 n3 c3 : Nat) : Below w.heap.size w (w3b w A1 A2 A3 n1 c1 n2 c2 n3 c3) := (((Below.refl _ w).alloc (Nat.le_refl _) _).alloc (by simp) _).alloc (by simp; omega) _
theorem w3b_size (w : World) (A1 A2 A3 : Option Addr) (n1 c1 n2 c2 n3 c3 : Nat) : (w3b w A1 A2 A3 n1 c1 n2 c2 n3 c3).heap.size = w.heap.size + 1 + 1 + 1 := by simp [w3b]
/-- What is known of a world behind three boxed curves. -/
structure In3 (w w1 : World) (A1 A2 A3 : Option Addr) (xs ys zs : List Int) : Prop where
  r1 : Rd w1 w1.heap.size A1 xs
  r2 : Rd w1 w1.heap.size A2 ys
  r3 : Rd w1 w1.heap.size A3 zs
  below : Below w.heap.size w w1
  size : w.heap.size + 1 + 1 < w1.heap.size
theorem w3b_after {w w1 : World} {A1 A2 A3 : Option Addr} {c1 c2 c3 : Nat} {xs ys zs : List Int} (r1 : Rd w w.heap.size A1 xs) (r2 : Rd w w.heap.size A2 ys) (r3 : Rd w w.heap.size A3 zs) (hb : Below (w.heap.size + 1 + 1 + 1) (w3b w A1 A2 A3 xs.length c1 ys.length c2 zs.length c3) w1) :
    w1.cell? ⟨w.heap.size, 0, none⟩ = some (.slice A1 xs.length c1) ∧ w1.cell? ⟨w.heap.size + 1, 0, none⟩ = some (.slice A2 ys.length c2) ∧ w1.cell? ⟨w.heap.size + 1 + 1, 0, none⟩ = some (.slice A3 zs.length c3) ∧ In3 w w1 A1 A2 A3 xs ys zs := by
  obtain ⟨rc, rf⟩ := bcell hb
  have h0 := w3b_below w A1 A2 A3 xs.length c1 ys.length c2 zs.length c3
  have hs := w3b_size w A1 A2 A3 xs.length c1 ys.length c2 zs.length c3
  have h1 : Below w.heap.size w w1 := h0.trans (hb.mono (by omega))
  have := hb.size
  exact ⟨by rw [rc _ _ (by omega)]; simp [w3b, go_sem], by rw [rc _ _ (by omega)]; simp [w3b, go_sem], by rw [rc _ _ (by omega)]; simp [w3b, go_sem], ⟨r1.ext h1, r2.ext h1, r3.ext h1, h1, by omega⟩⟩

def failAt (xs ys low : List Int) (t : Nat) : Bool := decide (nth xs t < nth ys t) || decide (nth ys t < nth low t)
def failsI (xs ys zs : List Int) : Int := firstIdx (failAt xs ys (leastL xs zs)) xs.length
theorem leastL_length (xs ys : List Int) : (leastL xs ys).length = xs.length := tab_length _ _
theorem eg122 : ∀ args w, (callFunc 122 args).run Try.prog w = .ok (.enter 122 args) w := enters_of Try.func122 (by kernel_rfl) rfl

set_option maxRecDepth 100000 in
set_option maxHeartbeats 800000 in
theorem fails_any (A1 A2 A3 : Option Addr) (c1 c2 c3 : Nat) (xs ys zs : List Int) (w : World) (r1 : Rd w w.heap.size A1 xs) (r2 : Rd w w.heap.size A2 ys) (r3 : Rd w w.heap.size A3 zs)
    (h1 : 1 ≤ xs.length) (h2 : xs.length ≤ 121) (h3 : ys.length = xs.length) (h4 : zs.length = xs.length) (sx : Small xs) (sz : Small zs) :
    Calls Try.prog 101 #[.agg #[.slice A1 xs.length c1], .agg #[.slice A2 ys.length c2], .agg #[.slice A3 zs.length c3]] w fun e w' => e = .returned (.int .i64 (failsI xs ys zs)) ∧ Below w.heap.size w w' := by
  have hb0 := w3b_below w A1 A2 A3 xs.length c1 ys.length c2 zs.length c3
  have hs0 := w3b_size w A1 A2 A3 xs.length c1 ys.length c2 zs.length c3
  have hl := least_any A1 A3 c1 c3 xs zs (w3b w A1 A2 A3 xs.length c1 ys.length c2 zs.length c3) (r1.ext hb0) (r3.ext hb0) h1 h2 h4 sx sz
  have H := Lib.hid (And.intro hl (And.intro r1 (And.intro r2 (And.intro r3 (And.intro h3 (And.intro h4 hs0))))))
  clear hb0 hs0 hl r1 r2 r3 h3 h4 sx sz
  go_enter Try.func101, Try.ntmps101
  go_upto_region 2 with (go_at_call 89; refine H.out.1.mono ?_; rintro e w1 ⟨A, c, rfl, hrd, hfr, hb⟩; obtain ⟨p1, p2, p3, HI⟩ := w3b_after H.out.2.1 H.out.2.2.1 H.out.2.2.2.1 (hb.mono (Nat.le_of_eq H.out.2.2.2.2.2.2.symm)); have HL := Lib.hid hrd; clear hrd hfr hb)
  have hw2 : Below w1.heap.size w1 (w1.alloc (.cells #[.slice A (leastL xs zs).length c] 26)) := (Below.refl _ w1).alloc (Nat.le_refl _) _
  have hx : Held (w1.alloc (.cells #[.slice A (leastL xs zs).length c] 26)) w.heap.size 0 xs := ⟨by have := HI.size; simp; omega, A1, c1, by rw [World.cell?_alloc_past _ _ _ (by have := HI.size; omega)]; exact p1, HI.r1.ext hw2⟩
  have hy : Held (w1.alloc (.cells #[.slice A (leastL xs zs).length c] 26)) (w.heap.size + 1) 0 ys := ⟨by have := HI.size; simp; omega, A2, c2, by rw [World.cell?_alloc_past _ _ _ (by have := HI.size; omega)]; exact p2, HI.r2.ext hw2⟩
  have hz : Held (w1.alloc (.cells #[.slice A (leastL xs zs).length c] 26)) w1.heap.size 0 (leastL xs zs) := ⟨by simp, A, c, by simp [go_sem], HL.out.ext hw2⟩
  have q1 : (w1.alloc (.cells #[.slice A (leastL xs zs).length c] 26)).cell? ⟨w.heap.size, 0, none⟩ = some (.slice A1 xs.length c1) := by rw [World.cell?_alloc_past _ _ _ (by have := HI.size; omega)]; exact p1
  have hst := steps_any A1 c1 xs (w1.alloc (.cells #[.slice A (leastL xs zs).length c] 26)) (by omega)
  have hwb := HI.below.trans (hw2.mono HI.below.size)
  have HW := Lib.hid (And.intro hst (And.intro hx (And.intro hy (And.intro hz hwb))))
  clear hw2 hx hy hz p1 p2 p3 hst hwb
  go_wp2_with (go_at_call 75; refine HW.out.1.mono ?_; rintro e w3 ⟨A', c', rfl, hrd, hfr, hb⟩; have HL3 := Lib.hid (And.intro hrd hb); clear hrd hfr hb)
  refine (indexFunc_any 122 #[] #[.pointer (some ⟨w.heap.size, 0, none⟩), .pointer (some ⟨w.heap.size + 1, 0, none⟩), .pointer (some ⟨w1.heap.size, 0, none⟩)] eg122 A' c' (upto xs.length) (failAt xs ys (leastL xs zs)) w3 HL3.out.1 (by rw [upto_length]; omega) ?_).mono ?_
  · intro i W hi hW
    rw [upto_length] at hi
    have hb := HL3.out.2.trans (hW.mono HL3.out.2.size)
    have := fails1_any i w.heap.size (w.heap.size + 1) w1.heap.size xs ys (leastL xs zs) W (HW.out.2.1.below hb) (HW.out.2.2.1.below hb) (HW.out.2.2.2.1.below hb) hi (by rw [H.out.2.2.2.2.1]; exact hi) (by rw [leastL_length]; exact hi)
    rw [nth_upto hi]
    exact this
  · rintro e w4 ⟨rfl, hb4⟩
    rw [upto_length]
    have HF := Lib.hid (HW.out.2.2.2.2.trans ((HL3.out.2.trans (hb4.mono HL3.out.2.size)).mono HW.out.2.2.2.2.size))
    clear hb4
    go_wp2
    go_ret
    exact ⟨rfl, HF.out⟩
end Go.Proofs.Ytknkneccnhgjmaa
