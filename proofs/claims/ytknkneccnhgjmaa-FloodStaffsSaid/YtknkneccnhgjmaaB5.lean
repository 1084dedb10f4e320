/- Walk: closed. -/
import Derived.Test.YtknkneccnhgjmaaM1
import Derived.Deep.DeepCutAuto
namespace Go.Proofs.Ytknkneccnhgjmaa
open Go.RowKit Go.Shelf

/-- What closed hands back: the curve, and the last parts. -/
def RClosed (w : World) (L : List Int) (e : Ending) (w' : World) : Prop :=
  ∃ A c A' c', e = .returned (.tuple #[.agg #[.slice A (closedL L).length c], .slice A' (lastsL L).length c']) ∧ Rd w' w'.heap.size A (closedL L) ∧ Rd w' w'.heap.size A' (lastsL L) ∧ Fresh w.heap.size A ∧ Fresh w.heap.size A' ∧ Below w.heap.size w w'

/-- Block g is a row of n ints of the call's own that holds F below t. -/
def RowTo (w : World) (g n t : Nat) (F : Nat → Int) : Prop := ∃ cs : Array Value, w.heap[g]? = some (.cells cs 3 (0, 0)) ∧ cs.size = n ∧ ∀ j, j < t → cs[j]? = some (.int .i64 (F j))
theorem RowTo.cell {w : World} {g n t : Nat} {F : Nat → Int} (h : RowTo w g n t F) {j : Nat} (hj : j < t) : w.cell? ⟨g, j, none⟩ = some (.int .i64 (F j)) := by
  obtain ⟨cs, h1, h2, h3⟩ := h
  rw [cell_of_row w g j cs _ _ h1, h3 j hj]
theorem RowTo.has {w : World} {g n t : Nat} {F : Nat → Int} (h : RowTo w g n t F) {j : Nat} (hj : j < n) : (∃ v, w.cell? ⟨g, j, none⟩ = some v) ∧ w.frozen? ⟨g, j, none⟩ = false := by
  obtain ⟨cs, h1, h2, h3⟩ := h
  exact ⟨⟨cs[j], by rw [cell_of_row w g j cs _ _ h1, Array.getElem?_eq_getElem (by omega)]⟩, frozen_of_row w g j cs _ h1⟩
theorem RowTo.lt {w : World} {g n t : Nat} {F : Nat → Int} (h : RowTo w g n t F) : g < w.heap.size := by
  obtain ⟨cs, h1, _⟩ := h
  exact (Array.getElem?_eq_some_iff.1 h1).1
theorem RowTo.same {w w' : World} {g n t : Nat} {F : Nat → Int} (h : RowTo w g n t F) (hs : w'.heap[g]? = w.heap[g]?) : RowTo w' g n t F := by
  obtain ⟨cs, h1, h2, h3⟩ := h
  exact ⟨cs, hs.trans h1, h2, h3⟩
theorem RowTo.other {w : World} {g n t : Nat} {F : Nat → Int} (h : RowTo w g n t F) {p : Addr} (hp : g ≠ p.block) (v : Value) : RowTo (w.setCell p v) g n t F := h.same (heap_setCell_other _ _ _ _ hp)
theorem RowTo.less {w : World} {g n t t' : Nat} {F : Nat → Int} (h : RowTo w g n t F) (ht : t' ≤ t) : RowTo w g n t' F := by
  obtain ⟨cs, h1, h2, h3⟩ := h
  exact ⟨cs, h1, h2, fun j hj => h3 j (by omega)⟩
theorem RowTo.set {w : World} {g n t : Nat} {F F' : Nat → Int} (h : RowTo w g n t F) (ht : t < n) (x : Int) (hx : F' t = x) (hF : ∀ j, j < t → F' j = F j) : RowTo (w.setCell ⟨g, t, none⟩ (.int .i64 x)) g n (t + 1) F' := by
  obtain ⟨cs, h1, h2, h3⟩ := h
  refine ⟨_, heap_setCell_same _ _ _ _ _ _ h1, by rw [Array.size_setIfInBounds]; exact h2, fun j hj => ?_⟩
  rw [Array.getElem?_setIfInBounds]
  split
  · rename_i e; subst e; rw [if_pos (by omega), hx]
  · rw [h3 j (by omega), hF j (by omega)]
theorem RowTo.congr {w : World} {g n t : Nat} {F F' : Nat → Int} (h : RowTo w g n t F) (hF : ∀ j, j < t → F j = F' j) : RowTo w g n t F' := by
  obtain ⟨cs, h1, h2, h3⟩ := h
  exact ⟨cs, h1, h2, fun j hj => by rw [h3 j hj, hF j hj]⟩
def upd (F : Nat → Int) (t : Nat) (x : Int) (j : Nat) : Int := if j = t then x else F j
theorem upd_same (F : Nat → Int) (t : Nat) (x : Int) : upd F t x t = x := by simp [upd]
theorem upd_ne (F : Nat → Int) {t j : Nat} (x : Int) (h : j ≠ t) : upd F t x j = F j := by simp [upd, h]
theorem RowTo.add {w : World} {g n t : Nat} {F : Nat → Int} (h : RowTo w g n t F) (ht : t < n) (x : Int) : RowTo (w.setCell ⟨g, t, none⟩ (.int .i64 x)) g n (t + 1) (upd F t x) :=
  h.set ht x (upd_same _ _ _) (fun j hj => upd_ne _ _ (by omega))
theorem RowTo.put {w : World} {g n t : Nat} {F : Nat → Int} {y : Int} (h : RowTo w g n (t + 1) (upd F t y)) (ht : t < n) (x : Int) : RowTo (w.setCell ⟨g, t, none⟩ (.int .i64 x)) g n (t + 1) (upd F t x) :=
  RowTo.add ((h.less (Nat.le_succ t)).congr (fun j hj => upd_ne _ _ (by omega))) ht x
theorem RowTo.rd {w : World} {g n : Nat} {F : Nat → Int} (h : RowTo w g n n F) : Rd w w.heap.size (some ⟨g, 0, none⟩) (tab n F) := fun _ => ⟨g, 0, rfl, h.lt, fun i hi => by
  rw [tab_length] at hi
  rw [Nat.zero_add, h.cell hi, nth_tab hi]⟩
theorem RowTo.of_own {w : World} {base g n : Nat} (h : w.ownsRow base 3 1 (.slice (some ⟨g, 0, none⟩) n n) n (madeCells #[.int .i64 0] (n * 1)).toList) : RowTo w g n n (fun _ => 0) := by
  have hl := h.1
  have hc := World.ownsRow.cells h (g := g) rfl
  rcases h.2 with ⟨e, _⟩ | ⟨g', cap, cur, e, _, hh, _, _, hcs, ht⟩
  · cases e
  · simp only [Value.slice.injEq, Option.some.injEq, Addr.mk.injEq, and_true, true_and] at e
    obtain ⟨rfl, rfl⟩ := e
    refine ⟨cur, hh, by omega, fun j hj => ?_⟩
    have h1 := hc j (.int .i64 0) (by rw [Nat.mul_one, toList_madeCells_one, List.getElem?_replicate, if_pos hj])
    rw [add_eq, Nat.zero_add, cell_of_row w _ j cur _ _ hh] at h1
    exact h1

theorem below_grown {w w' : World} (hg : w.grownBy w' none) : Below w.heap.size w w' := ⟨hg.os, hg.tape, hg.output, hg.size, fun k hk => hg.block k hk (by simp)⟩

def lastI (L : List Int) (t : Nat) : Int := (lastAt L t : Int)
/-- What closed's two rows hold in the inner loop, behind part k. -/
def InClosed (w2 : World) (B g : Nat) (L : List Int) (t k : Nat) (wr : World) : Prop :=
  Below (B + 1 + 1) w2 wr ∧ RowTo wr (B + 1 + 1) L.length (t + 1) (upd (lastI L) t ((minPart L (closAt L) t k).1 : Int)) ∧ RowTo wr g L.length (t + 1) (upd (closAt L) t (minPart L (closAt L) t k).2)

set_option maxRecDepth 100000 in
set_option maxHeartbeats 1600000 in
theorem closed_any (A : Option Addr) (c : Nat) (L : List Int) (w : World) (r : Rd w w.heap.size A L) (v : Valid L) :
    Calls Try.prog 88 #[.agg #[.slice A L.length c]] w fun e w' => RClosed w L e w' := by
  obtain ⟨i0, hi, hz0, hz1, hz2⟩ := info_parts info3
  obtain ⟨b, off, rfl, lb, hc⟩ := r (by have := v.1; omega)
  have hn1 := v.1
  have hn2 := v.2.1
  have hbd := v.bd
  have HR := Lib.hid r
  clear r
  go_enter Try.func88, Try.ntmps88
  go_upto_region 2 with (at_make; refine wpList_make_full _ rfl _ _ 24 rfl (w.heap.size + 1) 3 i0 (.int .i64 0) 1 Try.underlying24 hi hz0 hz1 .i64 .i64 L.length L.length L.length rfl rfl rfl rfl (by rw [hz2]; omega) (by unfold maxLen; omega) (by simp) ?_; intro w1 hown hgrow)
  obtain ⟨rc, rf⟩ := bcell (below_grown hgrow)
  have p1 : w1.cell? ⟨w.heap.size, 0, none⟩ = some (.slice (some ⟨b, off, none⟩) L.length c) := (rc w.heap.size 0 (by simp; omega)).trans (by simp [go_sem])
  have q1 : w1.cell? ⟨w.heap.size + 1, 0, none⟩ = some (.slice none 0 0) := (rc (w.heap.size + 1) 0 (by simp)).trans (by simp [go_sem])
  have q2 : w1.frozen? ⟨w.heap.size + 1, 0, none⟩ = false := (rf (w.heap.size + 1) 0 (by simp)).trans (by simp [go_sem])
  have hA := RowTo.of_own hown
  simp only [World.size_alloc] at hA
  have hB : Below w.heap.size w w1 := (((Below.refl _ w).alloc (Nat.le_refl _) _).alloc (by simp) _).trans ((below_grown hgrow).mono (by simp; omega))
  have HA := Lib.hid (And.intro hA hB)
  clear hown hgrow rc rf hA hB
  go_upto_region 3 with (at_make; refine wpList_make_full _ rfl _ _ 24 rfl (w.heap.size + 1) 3 i0 (.int .i64 0) 1 Try.underlying24 hi hz0 hz1 .i64 .i64 L.length L.length L.length rfl rfl rfl rfl (by rw [hz2]; omega) (by unfold maxLen; omega) (by have := HA.out.1.lt; omega) ?_; intro w2 hown hgrow)
  obtain ⟨rc, rf⟩ := bcell (below_grown hgrow)
  have hA := RowTo.of_own hown
  have hlt := HA.out.1.lt
  have p2 : w2.cell? ⟨w.heap.size, 0, none⟩ = some (.slice (some ⟨b, off, none⟩) L.length c) := (rc w.heap.size 0 (by omega)).trans p1
  have q3 : w2.cell? ⟨w.heap.size + 1, 0, none⟩ = some (.slice none 0 0) := (rc (w.heap.size + 1) 0 (by omega)).trans q1
  have q4 : w2.frozen? ⟨w.heap.size + 1, 0, none⟩ = false := (rf (w.heap.size + 1) 0 (by omega)).trans q2
  have h1 : RowTo w2 (w.heap.size + 1 + 1) L.length L.length (fun _ => 0) := HA.out.1.same ((below_grown hgrow).block _ hlt)
  have h2 : Below w.heap.size w w2 := HA.out.2.trans ((below_grown hgrow).mono (by omega))
  have hg : w.heap.size + 1 + 1 < w1.heap.size := hlt
  clear HA rc rf p1 q1 q2 hlt hown hgrow
  generalize w1.heap.size = g at *
  have HS := Lib.hid (And.intro h1 (And.intro hA (And.intro h2 (And.intro p2 (And.intro q3 q4)))))
  clear h1 hA h2 p2 q3 q4
  go_wp2
  go_loopg [6] L.length (fun gk i wr => ∃ t : Nat, 1 ≤ t ∧ t ≤ L.length ∧ L.length - t ≤ gk ∧ i = .int .i64 t ∧ Aside (Below (w.heap.size + 1 + 1) w2 wr ∧ RowTo wr (w.heap.size + 1 + 1) L.length t (lastI L) ∧ RowTo wr g L.length t (closAt L)))
  case atStart =>
    refine ⟨1, Nat.le_refl _, hn1, by omega, rfl, Below.refl _ _, (HS.out.1.less hn1).congr (fun j hj => ?_), (HS.out.2.1.less hn1).congr (fun j hj => ?_)⟩
    · obtain rfl : j = 0 := by omega
      rfl
    · obtain rfl : j = 0 := by omega
      rfl
  case round =>
    obtain ⟨t, ht1, ht, hgk, rfl, hI⟩ := hrel
    have hbw := hI.out.1
    have p3 := (hbw.cell (p := ⟨w.heap.size, 0, none⟩) (show w.heap.size < _ by omega)).trans HS.out.2.2.2.1
    have q5 := (hbw.cell (p := ⟨w.heap.size + 1, 0, none⟩) (show w.heap.size + 1 < _ by omega)).trans HS.out.2.2.2.2.1
    have q6 := (hbw.frozen (p := ⟨w.heap.size + 1, 0, none⟩) (show w.heap.size + 1 < _ by omega)).trans HS.out.2.2.2.2.2
    have hrow : ∀ i, i < L.length → wr.cell? ⟨b, off + i, none⟩ = some (.int .i64 (nth L i)) := fun i hi => (hbw.cell (p := ⟨b, off + i, none⟩) (show b < _ by omega)).trans ((HS.out.2.2.1.cell (p := ⟨b, off + i, none⟩) lb).trans (hc i hi))
    by_cases hlt : t < L.length
    · have hltz : (t : Int) < (L.length : Int) := by omega
      have k1 := hrow t hlt
      obtain ⟨⟨v1, e1⟩, f1⟩ := hI.out.2.1.has hlt
      obtain ⟨⟨v2, e2⟩, f2⟩ := hI.out.2.2.has hlt
      have hne : ¬ (w.heap.size + 1 + 1 = g) := by omega
      have hne2 : ¬ (g = w.heap.size + 1 + 1) := by omega
      clear hrow hbw
      go_wp2
      have hW : InClosed w2 w.heap.size g L t 0 ((wr.setCell ⟨w.heap.size + 1 + 1, t, none⟩ (.int .i64 t)).setCell ⟨g, t, none⟩ (.int .i64 (nth L t))) :=
        ⟨(hI.out.1.setCell (Nat.le_refl _) _).setCell (by show w.heap.size + 1 + 1 ≤ g; omega) _, (hI.out.2.1.add hlt _).other (by exact hne) _, (hI.out.2.2.other (by exact hne2) _).add hlt _⟩
      obtain ⟨wo, hwo⟩ : ∃ wo : World, wo = (wr.setCell ⟨w.heap.size + 1 + 1, t, none⟩ (.int .i64 t)).setCell ⟨g, t, none⟩ (.int .i64 (nth L t)) := ⟨_, rfl⟩
      rw [← hwo] at hW ⊢
      have HW := Lib.hid hW
      clear hW hwo e1 e2 f1 f2 k1 p3 q5 q6 hI
      go_loopg [7] t (fun gk2 i wi => ∃ p : Nat, 1 ≤ p ∧ p ≤ t ∧ t - p ≤ gk2 ∧ i = .int .i64 p ∧ Aside (InClosed w2 w.heap.size g L t (p - 1) wi))
      case atStart => exact ⟨1, Nat.le_refl _, ht1, by omega, rfl, HW.out⟩
      case round =>
        obtain ⟨p, hp1, hp, hgp, rfl, hI⟩ := hrel
        have hbw := hI.out.1
        have p3 := (hbw.cell (p := ⟨w.heap.size, 0, none⟩) (show w.heap.size < _ by omega)).trans HS.out.2.2.2.1
        have hrow : ∀ i, i < L.length → wr.cell? ⟨b, off + i, none⟩ = some (.int .i64 (nth L i)) := fun i hi => (hbw.cell (p := ⟨b, off + i, none⟩) (show b < _ by omega)).trans ((HS.out.2.2.1.cell (p := ⟨b, off + i, none⟩) lb).trans (hc i hi))
        by_cases hpt : p < t
        · have hptz : (p : Int) < (t : Int) := by omega
          have k1 := hrow p (by omega)
          have e0 : wr.cell? ⟨g, t - p, none⟩ = some (.int .i64 (closAt L (t - p))) := (hI.out.2.2.cell (j := t - p) (by omega)).trans (by rw [upd_ne _ _ (by omega)])
          have e1 : wr.cell? ⟨g, t, none⟩ = some (.int .i64 (minPart L (closAt L) t (p - 1)).2) := (hI.out.2.2.cell (j := t) (by omega)).trans (by rw [upd_same])
          have hlb := (Nat.lt_of_lt_of_le lb HS.out.2.2.1.size)
          have hgl : g < wr.heap.size := hI.out.2.2.lt
          have hlb2 : b < wr.heap.size := by omega
          have hB0 : w.heap.size < wr.heap.size := by omega
          have n1 := closAt_bd hbd (t - p)
          have n2 := hbd p
          have n3 := minPart_bd hbd (t := t) (p - 1) (by omega) (fun j _ => closAt_bd hbd j)
          have hsub : IntKind.i64.wrap ((t : Int) - (p : Int)) = ((t - p : Nat) : Int) := by rw [IntWalk.i64_in _ (by omega)]; omega
          have hmp : minPart L (closAt L) t p = if closAt L (t - p) + nth L p < (minPart L (closAt L) t (p - 1)).2 then (p, closAt L (t - p) + nth L p) else minPart L (closAt L) t (p - 1) := by
            obtain ⟨q, rfl⟩ : ∃ q, p = q + 1 := ⟨p - 1, by omega⟩
            rfl
          have HM := Lib.hid hmp
          have HI := Lib.hid hI.out
          obtain ⟨⟨v3, e3⟩, f3⟩ := hI.out.2.1.has hlt
          have f4 := (hI.out.2.2.has hlt).2
          clear hrow hbw hmp hI hc hbd
          generalize hm2 : (minPart L (closAt L) t (p - 1)).2 = m2 at *
          have HM2 := Lib.hid hm2
          clear hm2
          by_cases hcm : closAt L (t - p) + nth L p < m2
          · go_wp2
            refine wp_region_ext (by kernel_rfl) (by kernel_rfl) ?_
            intro ι _ X hX hC
            have rX := fun k => (bcell (hX k)).1
            repeat (first | go_big_quiet_skip | (go_big_quiet_want; go_big_quiet_op; first | go_big_quiet_on | (apply Exists.intro; refine ⟨fun _ => ?_, ?_⟩; (focus (fail)); go_big_quiet_on)))
            refine wpQuiet_nil ?_
            intro w1 hb1
            clear rX hX hC
            obtain ⟨rc, rf⟩ := bcell hb1
            have HI1 : InClosed w2 w.heap.size g L t (p - 1) w1 := ⟨HI.out.1.trans (hb1.mono (by omega)), HI.out.2.1.same (hb1.block _ (by omega)), HI.out.2.2.same (hb1.block _ hgl)⟩
            have hB2 : w.heap.size + 1 + 1 < wr.heap.size := by omega
            have Hb1 := Lib.hid hb1
            clear hb1
            go_wp2
            go_roundg (t - (p + 1))
            case measure => omega
            case rel =>
              refine ⟨p + 1, by omega, by omega, by omega, by go_num, (HI1.1.setCell (Nat.le_refl _) _).setCell (by show w.heap.size + 1 + 1 ≤ g; omega) _, ?_, ?_⟩
              · rw [Nat.add_sub_cancel, HM.out, if_pos hcm]
                exact (HI1.2.1.put hlt _).other (by exact hne) _
              · rw [Nat.add_sub_cancel, HM.out, if_pos hcm]
                exact (HI1.2.2.other (by exact hne2) _).put hlt _
          · go_wp2
            refine wp_region_ext (by kernel_rfl) (by kernel_rfl) ?_
            intro ι _ X hX hC
            have rX := fun k => (bcell (hX k)).1
            repeat (first | go_big_quiet_skip | (go_big_quiet_want; go_big_quiet_op; first | go_big_quiet_on | (apply Exists.intro; refine ⟨fun _ => ?_, ?_⟩; (focus (fail)); go_big_quiet_on)))
            refine wpQuiet_nil ?_
            intro w1 hb1
            clear rX hX hC
            obtain ⟨rc, rf⟩ := bcell hb1
            have HI1 : InClosed w2 w.heap.size g L t (p - 1) w1 := ⟨HI.out.1.trans (hb1.mono (by omega)), HI.out.2.1.same (hb1.block _ (by omega)), HI.out.2.2.same (hb1.block _ hgl)⟩
            have Hb1 := Lib.hid hb1
            clear hb1
            go_wp2
            go_roundg (t - (p + 1))
            case measure => omega
            case rel =>
              refine ⟨p + 1, by omega, by omega, by omega, by go_num, ?_⟩
              have e : minPart L (closAt L) t (p + 1 - 1) = minPart L (closAt L) t (p - 1) := by rw [Nat.add_sub_cancel, HM.out, if_neg (by omega)]
              unfold InClosed
              rw [e]
              exact HI1
        · have hptz : ¬ (p : Int) < (t : Int) := by omega
          obtain rfl : p = t := by omega
          have HI := Lib.hid hI.out
          clear hrow hbw hI
          go_wp2
          go_roundg (L.length - (p + 1))
          case measure => omega
          case rel =>
            refine ⟨p + 1, by omega, by omega, by omega, by go_num, HI.out.1, HI.out.2.1.congr (fun j hj => ?_), HI.out.2.2.congr (fun j hj => ?_)⟩
            · rcases Nat.lt_or_ge j p with e | e
              · rw [upd_ne _ _ (by omega)]
              · obtain rfl : j = p := by omega
                rw [upd_same]; unfold lastI lastAt; rw [if_neg (by omega)]
            · rcases Nat.lt_or_ge j p with e | e
              · rw [upd_ne _ _ (by omega)]
              · obtain rfl : j = p := by omega
                rw [upd_same, closAt_eq L (by omega)]
    · have hltz : ¬ (t : Int) < (L.length : Int) := by omega
      obtain rfl : t = L.length := by omega
      have hl1 := closedL_length L
      have hl2 := lastsL_length L
      have hfin : RClosed w L (.returned (.tuple #[.agg #[.slice (some ⟨g, 0, none⟩) L.length L.length], .slice (some ⟨w.heap.size + 1 + 1, 0, none⟩) L.length L.length])) (wr.setCell ⟨w.heap.size + 1, 0, none⟩ (.slice (some ⟨g, 0, none⟩) L.length L.length)) :=
        ⟨some ⟨g, 0, none⟩, L.length, some ⟨w.heap.size + 1 + 1, 0, none⟩, L.length, by rw [hl1, hl2], by rw [World.size_setCell]; exact hI.out.2.2.rd.setCell (fun ad e => by cases e; show g ≠ w.heap.size + 1; omega) _,
          by rw [World.size_setCell]; exact hI.out.2.1.rd.setCell (fun ad e => by cases e; show w.heap.size + 1 + 1 ≠ w.heap.size + 1; omega) _, fun ad e => by cases e; show w.heap.size ≤ g; omega, fun ad e => by cases e; show w.heap.size ≤ w.heap.size + 1 + 1; omega,
          (HS.out.2.2.1.trans (hI.out.1.mono (by omega))).setCell (by show w.heap.size ≤ w.heap.size + 1; omega) _⟩
      have HF := Lib.hid hfin
      clear hfin hI hrow hbw hl1 hl2
      go_wp2
      exact bodyPost_ret (v := .tuple #[.agg #[.slice (some ⟨g, 0, none⟩) L.length L.length], .slice (some ⟨w.heap.size + 1 + 1, 0, none⟩) L.length L.length]) (by simp [results, Try.results88, go_sem, q5]) rfl HF.out
end Go.Proofs.Ytknkneccnhgjmaa
