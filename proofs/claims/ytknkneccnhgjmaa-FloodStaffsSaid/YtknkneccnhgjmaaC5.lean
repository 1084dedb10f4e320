/- Walk: Left. -/
import Derived.Test.YtknkneccnhgjmaaC4
namespace Go.Proofs.Ytknkneccnhgjmaa
open Go.RowKit Go.Shelf

def leftAt (S L : List Int) (t : Nat) : Int := maxTo (fun s => nth S s - nth L s) (t + 1)
def leftL (S L : List Int) : List Int := tab S.length (leftAt S L)
theorem leftL_length (S L : List Int) : (leftL S L).length = S.length := tab_length _ _
theorem eg92 : ∀ args w, (callFunc 92 args).run Try.prog w = .ok (.enter 92 args) w := enters_of Try.func92 (by kernel_rfl) rfl

/-- The state of Left's closure. -/
def LeftI (w1 : World) (h : Nat → Int) (t : Nat) (W : World) : Prop :=
  W.cell? ⟨w1.heap.size, 0, none⟩ = some (.int .i64 (maxTo h t)) ∧ W.frozen? ⟨w1.heap.size, 0, none⟩ = false ∧ Below w1.heap.size w1 W ∧ w1.heap.size < W.heap.size

theorem left_tells {w1 : World} {B1 B2 : Nat} {xs ys : List Int} (hx : Held w1 B1 0 xs) (hy : Held w1 B2 0 ys) (h3 : ys.length = xs.length) (sx : Small xs) (sy : Small ys) (H : Nat) (hH : H = w1.heap.size + 1) :
    Tells 92 #[.pointer (some ⟨w1.heap.size, 0, none⟩), .pointer (some ⟨B1, 0, none⟩), .pointer (some ⟨B2, 0, none⟩)] xs.length H (leftAt xs ys) (LeftI w1 (fun s => nth xs s - nth ys s)) := by
  refine ⟨fun t W W' ⟨h1, h2, h4, h5⟩ hb => ⟨(hb.cell (p := ⟨w1.heap.size, 0, none⟩) (show w1.heap.size < H by omega)).trans h1, (hb.frozen (p := ⟨w1.heap.size, 0, none⟩) (show w1.heap.size < H by omega)).trans h2, h4.trans (hb.mono (by omega)), Nat.lt_of_lt_of_le h5 hb.size⟩, fun t W ht ⟨h1, h2, h4, h5⟩ hs => ?_⟩
  refine (left1_any t w1.heap.size B1 B2 _ xs ys W h1 h2 (hx.below h4) (hy.below h4) ht (by omega) sx sy).mono ?_
  rintro e W' ⟨rfl, h6, h7, hg⟩
  have hb : Below w1.heap.size W W' := ⟨hg.os, hg.tape, hg.output, hg.size, fun k hk => hg.block k (by omega) (fun e => by injection e; omega)⟩
  exact ⟨rfl, ⟨h6, h7, h4.trans hb, Nat.lt_of_lt_of_le h5 hg.size⟩, ⟨hg.size, fun k hk hl => hg.block k hl (fun e => by injection e; omega)⟩⟩

set_option maxRecDepth 100000 in
set_option maxHeartbeats 1600000 in
theorem Left_any (A1 A2 : Option Addr) (c1 c2 : Nat) (xs ys : List Int) (w : World) (r1 : Rd w w.heap.size A1 xs) (r2 : Rd w w.heap.size A2 ys) (m1 : xs.length ≤ maxLen) (m2 : ys.length ≤ maxLen) :
    Calls Try.prog 31 #[.agg #[.slice A1 xs.length c1], .agg #[.slice A2 ys.length c2]] w fun e w' => RCE w (pick (ok2 xs ys) (leftL xs ys)) (errB (ok2 xs ys)) e w' := by
  have hb0 := w2c_below w A1 A2 xs.length c1 ys.length c2
  have hr := right2 A1 A2 c1 c2 xs ys (w2c w A1 A2 xs.length c1 ys.length c2) (r1.ext hb0) (r2.ext hb0) m1 m2
  rw [w2c_size'] at hr
  cases hv : ok2 xs ys
  · rw [hv] at hr
    simp only [errB_f, pick_f] at hr ⊢
    have HR := Lib.hid (And.intro hr (And.intro r1 r2))
    clear hr r1 r2 hb0 hv
    go_enter Try.func31, Try.ntmps31
    go_wp2_with (go_at_call 78; refine HR.out.1.mono ?_; rintro e w1 ⟨rfl, hb⟩; obtain ⟨p1, p2, q1, q2, HH⟩ := w2c_after HR.out.2.1 HR.out.2.2 hb)
    exact bodyPost_ret (v := .tuple #[.agg #[.slice none 0 0], .int .i64 1]) (by simp [results, Try.results31, go_sem, q1]) rfl (fin_nil HH.out.2.2.1 (by omega))
  · have ⟨v1, v2, h3⟩ := ok2_iff.1 hv
    rw [hv] at hr
    simp only [errB_t, pick_t] at hr ⊢
    have HR := Lib.hid (And.intro hr (And.intro r1 (And.intro r2 (And.intro v1 (And.intro v2 h3)))))
    clear hr r1 r2 hb0 hv v1 v2 h3
    go_enter Try.func31, Try.ntmps31
    go_upto_region 5 with (go_at_call 78; refine HR.out.1.mono ?_; rintro e w1 ⟨rfl, hb⟩; obtain ⟨p1, p2, q1, q2, HH⟩ := w2c_after HR.out.2.1 HR.out.2.2.1 hb)
    have hsz := HH.out.2.2.2
    have hw5 : Below w1.heap.size w1 (w1.alloc (.cells #[.int .i64 0] 3)) := (Below.refl _ w1).alloc (Nat.le_refl _) _
    have hx : Held w1 w.heap.size 0 xs := ⟨by omega, A1, c1, p1, HH.out.1⟩
    have hy : Held w1 (w.heap.size + 1) 0 ys := ⟨by omega, A2, c2, p2, HH.out.2.1⟩
    have he := each_any 92 #[.pointer (some ⟨w1.heap.size, 0, none⟩), .pointer (some ⟨w.heap.size, 0, none⟩), .pointer (some ⟨w.heap.size + 1, 0, none⟩)] eg92 xs.length HR.out.2.2.2.1.1 HR.out.2.2.2.1.2.1 (leftAt xs ys) (LeftI w1 (fun s => nth xs s - nth ys s)) (w1.alloc (.cells #[.int .i64 0] 3))
      ⟨by simp [go_sem, maxTo], by simp [go_sem], hw5, by simp⟩ (left_tells hx hy HR.out.2.2.2.2.2 HR.out.2.2.2.1.small HR.out.2.2.2.2.1.small _ (by simp))
    have t1 : (w1.alloc (.cells #[.int .i64 0] 3)).cell? ⟨w.heap.size, 0, none⟩ = some (.slice A1 xs.length c1) := by rw [World.cell?_alloc_past _ _ _ (by omega)]; exact p1
    have HE := Lib.hid he
    clear he hx hy hw5
    go_wp2_with (go_at_call 71; refine HE.out.mono ?_)
    rintro e w6 ⟨A6, c6, rfl, hrd6, hfr6, hI6⟩
    obtain ⟨_, _, hb6, _⟩ := hI6
    have u1 := (hb6.cell (p := ⟨w.heap.size + 1 + 1, 0, none⟩) hsz).trans q1
    have u2 := (hb6.frozen (p := ⟨w.heap.size + 1 + 1, 0, none⟩) hsz).trans q2
    have hl6 := leftL_length xs ys
    have HF := Lib.hid (fin_ce (E := 0) (zs := leftL xs ys) (c := c6) (g := w.heap.size + 1 + 1) HH.out.2.2.1 hb6 hrd6 (hfr6.mono (by simp)) (by omega) HH.out.2.2.2)
    rw [hl6] at HF
    clear hrd6 hfr6 hb6 t1 p1 p2 q1 q2 hl6
    go_wp2
    exact bodyPost_ret (v := .tuple #[.agg #[.slice A6 xs.length c6], .int .i64 0]) (by simp [results, Try.results31, go_sem, u1]) rfl HF.out
end Go.Proofs.Ytknkneccnhgjmaa
