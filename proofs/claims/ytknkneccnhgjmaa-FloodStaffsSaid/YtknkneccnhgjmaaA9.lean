/- Walks: lower, lead, join. -/
import Derived.Test.YtknkneccnhgjmaaA8
namespace Go.Proofs.Ytknkneccnhgjmaa
open Go.RowKit Go.Shelf

/-- The curve of n numbers. -/
def tab (n : Nat) (F : Nat → Int) : List Int := (List.range n).map F
theorem tab_length (n : Nat) (F : Nat → Int) : (tab n F).length = n := by simp [tab]
theorem nth_tab {n : Nat} {F : Nat → Int} {i : Nat} (h : i < n) : nth (tab n F) i = F i := by simp [nth, tab, List.getD, h]

theorem RSlice.mk {w w' : World} {xs : List Int} {A : Option Addr} {c n : Nat} (hn : n = xs.length) (h1 : Rd w' w'.heap.size A xs) (h2 : Fresh w.heap.size A) (h3 : Below w.heap.size w w') : RSlice w xs (.returned (.slice A n c)) w' :=
  ⟨A, c, by rw [hn], h1, h2, h3⟩

/-- each over a function value that keeps all that lay. -/
theorem each_pure (g : Nat) (caps : Array Value) (eg : ∀ args w, (callFunc g args).run Try.prog w = .ok (.enter g args) w) (n : Nat) (h1 : 1 ≤ n) (hn : n ≤ 121) (F : Nat → Int) (w : World)
    (hcall : ∀ (t : Nat) (W : World), t < n → Below w.heap.size w W → Calls Try.prog g (#[.int .i64 t] ++ caps) W fun e W' => e = .returned (.int .i64 (F t)) ∧ Below W.heap.size W W') :
    Calls Try.prog 71 #[.int .i64 n, .func (.func g) #[] caps] w fun e w' => RCurve w (tab n F) e w' := by
  refine (each_any g caps eg n h1 hn F (fun _ W => Below w.heap.size w W) w (Below.refl _ _) ⟨fun t W W' h h' => h.trans h', fun t W ht hI _ => (hcall t W ht hI).mono fun e W' ⟨he, hb⟩ => ⟨he, hI.trans (hb.mono hI.size), Above.of_below hb⟩⟩).mono ?_
  rintro e w' ⟨A, c, rfl, hrd, hfr, hb⟩
  exact ⟨A, c, by rw [tab_length], hrd, hfr, hb⟩

def lowerL (xs ys : List Int) : List Int := tab xs.length fun t => min (nth xs t) (nth ys t)
def leadL (xs ys : List Int) : List Int := tab xs.length fun t => leadAt xs ys t
def joinL (xs ys : List Int) : List Int := tab xs.length fun t => joinAt xs ys t

/-- The world in which each is called by a function of two curves. -/
def w2c (w : World) (A1 A2 : Option Addr) (n1 c1 n2 c2 : Nat) : World := ((w.alloc (.cells #[.slice A1 n1 c1] 26)).alloc (.cells #[.slice A2 n2 c2] 26)).alloc (.cells #[.slice none 0 0] 26)

theorem w2c_below (w : World) (A1 A2 : Option Addr) (n1 c1 n2 c2 : Nat) : Below w.heap.size w (w2c w A1 A2 n1 c1 n2 c2) := (((Below.refl _ w).alloc (Nat.le_refl _) _).alloc (by simp) _).alloc (by simp; omega) _
theorem w2c_size (w : World) (A1 A2 : Option Addr) (n1 c1 n2 c2 : Nat) : (w2c w A1 A2 n1 c1 n2 c2).heap.size = w.heap.size + 3 := by simp [w2c]
theorem w2c_held {w : World} {A1 A2 : Option Addr} {c1 c2 : Nat} {xs ys : List Int} (r1 : Rd w w.heap.size A1 xs) (r2 : Rd w w.heap.size A2 ys) :
    Held (w2c w A1 A2 xs.length c1 ys.length c2) w.heap.size 0 xs ∧ Held (w2c w A1 A2 xs.length c1 ys.length c2) (w.heap.size + 1) 0 ys := by
  have hb := w2c_below w A1 A2 xs.length c1 ys.length c2
  have hs := w2c_size w A1 A2 xs.length c1 ys.length c2
  exact ⟨⟨by omega, A1, c1, by simp [w2c, go_sem], (r1.below hb (Nat.le_refl _)).mono (by omega)⟩, ⟨by omega, A2, c2, by simp [w2c, go_sem], (r2.below hb (Nat.le_refl _)).mono (by omega)⟩⟩

theorem eg121 : ∀ args w, (callFunc 121 args).run Try.prog w = .ok (.enter 121 args) w := enters_of Try.func121 (by kernel_rfl) rfl
theorem eg117 : ∀ args w, (callFunc 117 args).run Try.prog w = .ok (.enter 117 args) w := enters_of Try.func117 (by kernel_rfl) rfl
theorem eg118 : ∀ args w, (callFunc 118 args).run Try.prog w = .ok (.enter 118 args) w := enters_of Try.func118 (by kernel_rfl) rfl

/-- What a function leaves that stores the curve of a callee in its result's cell. -/
theorem fin_curve {w w1 : World} {H g : Nat} {zs : List Int} {A : Option Addr} {c : Nat} (h0 : Below w.heap.size w w1) (hH : w.heap.size ≤ H) (hrd : Rd w1 w1.heap.size A zs) (hfr : Fresh H A) (hg : w.heap.size ≤ g) (hg2 : g < H) :
    RCurve w zs (.returned (.agg #[.slice A zs.length c])) (w1.setCell ⟨g, 0, none⟩ (.slice A zs.length c)) :=
  ⟨A, c, rfl, by rw [World.size_setCell]; exact hrd.setCell (fun ad e => by have := hfr ad e; show ad.block ≠ g; omega) _, hfr.mono hH, h0.setCell (by exact hg) _⟩

set_option maxHeartbeats 400000 in
theorem lower_any (A1 A2 : Option Addr) (c1 c2 : Nat) (xs ys : List Int) (w : World) (r1 : Rd w w.heap.size A1 xs) (r2 : Rd w w.heap.size A2 ys) (h1 : 1 ≤ xs.length) (h2 : xs.length ≤ 121) (h3 : ys.length = xs.length) :
    Calls Try.prog 87 #[.agg #[.slice A1 xs.length c1], .agg #[.slice A2 ys.length c2]] w fun e w' => RCurve w (lowerL xs ys) e w' := by
  obtain ⟨hx, hy⟩ := w2c_held (c1 := c1) (c2 := c2) r1 r2
  have hb0 := w2c_below w A1 A2 xs.length c1 ys.length c2
  have hs0 := w2c_size w A1 A2 xs.length c1 ys.length c2
  have he := each_pure 121 #[.pointer (some ⟨w.heap.size, 0, none⟩), .pointer (some ⟨w.heap.size + 1, 0, none⟩)] eg121 xs.length h1 h2 (fun t => min (nth xs t) (nth ys t)) (w2c w A1 A2 xs.length c1 ys.length c2)
    (fun t W ht hW => lower1_any t _ _ xs ys W (hx.below hW) (hy.below hW) ht (by omega))
  have HE := Lib.hid (And.intro he (And.intro hb0 hs0))
  clear he hb0 hs0 hx hy r1 r2 h3
  go_enter Try.func87, Try.ntmps87
  go_wp2_with (go_at_call 71; refine HE.out.1.mono ?_)
  rintro e w1 ⟨A, c, rfl, hrd, hfr, hb⟩
  obtain ⟨rc, rf⟩ := bcell hb
  have q1 : w1.cell? ⟨w.heap.size + 1 + 1, 0, none⟩ = some (.slice none 0 0) := by rw [rc _ _ (by rw [HE.out.2.2]; omega)]; simp [w2c, go_sem]
  have q2 : w1.frozen? ⟨w.heap.size + 1 + 1, 0, none⟩ = false := by rw [rf _ _ (by rw [HE.out.2.2]; omega)]; simp [w2c, go_sem]
  have hfin := fin_curve (c := c) (g := w.heap.size + 1 + 1) (HE.out.2.1.trans (hb.mono (by rw [HE.out.2.2]; omega))) (by rw [HE.out.2.2]; omega) hrd hfr (by omega) (by rw [HE.out.2.2]; omega)
  have HF := Lib.hid hfin
  clear hfin hrd hfr hb rc rf
  go_wp2
  exact bodyPost_ret (v := .agg #[.slice A (tab xs.length fun t => min (nth xs t) (nth ys t)).length c]) (by simp [results, Try.results87, go_sem, q1]) rfl HF.out
set_option maxHeartbeats 400000 in
theorem lead_any (A1 A2 : Option Addr) (c1 c2 : Nat) (xs ys : List Int) (w : World) (r1 : Rd w w.heap.size A1 xs) (r2 : Rd w w.heap.size A2 ys) (h1 : 1 ≤ xs.length) (h2 : xs.length ≤ 121) (h3 : ys.length = xs.length) (sx : Small xs) (sy : Small ys) :
    Calls Try.prog 79 #[.agg #[.slice A1 xs.length c1], .agg #[.slice A2 ys.length c2]] w fun e w' => RCurve w (leadL xs ys) e w' := by
  obtain ⟨hx, hy⟩ := w2c_held (c1 := c1) (c2 := c2) r1 r2
  have hb0 := w2c_below w A1 A2 xs.length c1 ys.length c2
  have hs0 := w2c_size w A1 A2 xs.length c1 ys.length c2
  have he := each_pure 117 #[.pointer (some ⟨w.heap.size, 0, none⟩), .pointer (some ⟨w.heap.size + 1, 0, none⟩)] eg117 xs.length h1 h2 (fun t => leadAt xs ys t) (w2c w A1 A2 xs.length c1 ys.length c2)
    (fun t W ht hW => lead1_any t _ _ xs ys W (hx.below hW) (hy.below hW) ht h3 (by omega) sx sy)
  have HE := Lib.hid (And.intro he (And.intro hb0 hs0))
  clear he hb0 hs0 hx hy r1 r2 h3
  go_enter Try.func79, Try.ntmps79
  go_wp2_with (go_at_call 71; refine HE.out.1.mono ?_)
  rintro e w1 ⟨A, c, rfl, hrd, hfr, hb⟩
  obtain ⟨rc, rf⟩ := bcell hb
  have q1 : w1.cell? ⟨w.heap.size + 1 + 1, 0, none⟩ = some (.slice none 0 0) := by rw [rc _ _ (by rw [HE.out.2.2]; omega)]; simp [w2c, go_sem]
  have q2 : w1.frozen? ⟨w.heap.size + 1 + 1, 0, none⟩ = false := by rw [rf _ _ (by rw [HE.out.2.2]; omega)]; simp [w2c, go_sem]
  have hfin := fin_curve (c := c) (g := w.heap.size + 1 + 1) (HE.out.2.1.trans (hb.mono (by rw [HE.out.2.2]; omega))) (by rw [HE.out.2.2]; omega) hrd hfr (by omega) (by rw [HE.out.2.2]; omega)
  have HF := Lib.hid hfin
  clear hfin hrd hfr hb rc rf
  go_wp2
  exact bodyPost_ret (v := .agg #[.slice A (tab xs.length fun t => leadAt xs ys t).length c]) (by simp [results, Try.results79, go_sem, q1]) rfl HF.out
set_option maxHeartbeats 400000 in
theorem join_any (A1 A2 : Option Addr) (c1 c2 : Nat) (xs ys : List Int) (w : World) (r1 : Rd w w.heap.size A1 xs) (r2 : Rd w w.heap.size A2 ys) (h1 : 1 ≤ xs.length) (h2 : xs.length ≤ 121) (h3 : ys.length = xs.length) (sx : Small xs) (sy : Small ys) :
    Calls Try.prog 81 #[.agg #[.slice A1 xs.length c1], .agg #[.slice A2 ys.length c2]] w fun e w' => RCurve w (joinL xs ys) e w' := by
  obtain ⟨hx, hy⟩ := w2c_held (c1 := c1) (c2 := c2) r1 r2
  have hb0 := w2c_below w A1 A2 xs.length c1 ys.length c2
  have hs0 := w2c_size w A1 A2 xs.length c1 ys.length c2
  have he := each_pure 118 #[.pointer (some ⟨w.heap.size, 0, none⟩), .pointer (some ⟨w.heap.size + 1, 0, none⟩)] eg118 xs.length h1 h2 (fun t => joinAt xs ys t) (w2c w A1 A2 xs.length c1 ys.length c2)
    (fun t W ht hW => join1_any t _ _ xs ys W (hx.below hW) (hy.below hW) ht (by omega) (by omega) sx sy)
  have HE := Lib.hid (And.intro he (And.intro hb0 hs0))
  clear he hb0 hs0 hx hy r1 r2 h3
  go_enter Try.func81, Try.ntmps81
  go_wp2_with (go_at_call 71; refine HE.out.1.mono ?_)
  rintro e w1 ⟨A, c, rfl, hrd, hfr, hb⟩
  obtain ⟨rc, rf⟩ := bcell hb
  have q1 : w1.cell? ⟨w.heap.size + 1 + 1, 0, none⟩ = some (.slice none 0 0) := by rw [rc _ _ (by rw [HE.out.2.2]; omega)]; simp [w2c, go_sem]
  have q2 : w1.frozen? ⟨w.heap.size + 1 + 1, 0, none⟩ = false := by rw [rf _ _ (by rw [HE.out.2.2]; omega)]; simp [w2c, go_sem]
  have hfin := fin_curve (c := c) (g := w.heap.size + 1 + 1) (HE.out.2.1.trans (hb.mono (by rw [HE.out.2.2]; omega))) (by rw [HE.out.2.2]; omega) hrd hfr (by omega) (by rw [HE.out.2.2]; omega)
  have HF := Lib.hid hfin
  clear hfin hrd hfr hb rc rf
  go_wp2
  exact bodyPost_ret (v := .agg #[.slice A (tab xs.length fun t => joinAt xs ys t).length c]) (by simp [results, Try.results81, go_sem, q1]) rfl HF.out
end Go.Proofs.Ytknkneccnhgjmaa
