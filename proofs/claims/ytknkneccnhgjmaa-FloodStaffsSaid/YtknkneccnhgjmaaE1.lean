/- Walks: the reference's Between. -/
import Derived.Test.YtknkneccnhgjmaaD9
namespace Go.Proofs.Ytknkneccnhgjmaa
open Go.RowKit Go.Shelf

/-- Where the result's three cells lie. -/
structure InR (w W : World) : Prop where
  row : W.heap[w.heap.size]? = some (.cells #[.slice none 0 0, .slice none 0 0, .int .i64 0] 31 (0, 0))
  bl : Below w.heap.size w W
  lt : w.heap.size < W.heap.size
theorem InR.ext {w w1 w2 : World} (h : InR w w1) (hb : Below w1.heap.size w1 w2) : InR w w2 := ⟨(hb.block _ h.lt).trans h.row, h.bl.trans (hb.mono h.bl.size), Nat.lt_of_lt_of_le h.lt hb.size⟩
theorem inR_known (w : World) : InR w (w.alloc (.cells #[.slice none 0 0, .slice none 0 0, .int .i64 0] 31)) := ⟨heap_alloc_new w _, (Below.refl _ w).alloc (Nat.le_refl _) _, by simp⟩
theorem InR.rends {w W : World} (h : InR w W) (E : Int) : REnds w [] [] E (.returned (.agg #[.slice none 0 0, .slice none 0 0, .int .i64 E])) (((W.setCell ⟨w.heap.size, 0, none⟩ (.slice none 0 0)).setCell ⟨w.heap.size, 1, none⟩ (.slice none 0 0)).setCell ⟨w.heap.size, 2, none⟩ (.int .i64 E)) :=
  ⟨none, 0, none, 0, rfl, Rd.nil, Rd.nil, ((h.bl.setCell (by exact Nat.le_refl _) _).setCell (by exact Nat.le_refl _) _).setCell (by exact Nat.le_refl _) _⟩
theorem rends_err {l : List Sv} {last E : Int} {X Y : List Int} {w w' : World} {e : Ending} (hE : betE l last = E) (h0 : E ≠ 0) (h : REnds w [] [] E e w') : REnds w (pick (decide (betE l last = 0)) X) (pick (decide (betE l last = 0)) Y) (betE l last) e w' := by
  rw [hE, decide_eq_false h0]
  exact h

theorem RdS.below {w w' : World} {B n : Nat} {A : Option Addr} {l : List Sv} (h : RdS w B A l) (hb : Below n w w') (hB : B ≤ n) : RdS w' B A l := fun hn => by
  obtain ⟨b, off, e, hlt, hc⟩ := h hn
  refine ⟨b, off, e, hlt, fun i hi => ?_⟩
  obtain ⟨h1, h2, h3⟩ := hc i hi
  have hbn : b < n := Nat.lt_of_lt_of_le hlt hB
  exact ⟨(hb.cell (p := ⟨b, _, none⟩) hbn).trans h1, (hb.cell (p := ⟨b, _, none⟩) hbn).trans h2, (hb.cell (p := ⟨b, _, none⟩) hbn).trans h3⟩
theorem InR.later {w W W' : World} {n : Nat} (h : InR w W) (hb : Below n W W') (hn : w.heap.size < n) : InR w W' := ⟨(hb.block _ hn).trans h.row, h.bl.trans (hb.mono (Nat.le_of_lt hn)), Nat.lt_of_lt_of_le h.lt hb.size⟩
/-- What is known in the second loop of the reference's Between. -/
structure BtR (w w2 W : World) (G : Nat) (A : Option Addr) (l : List Sv) : Prop where
  res : InR w W
  rd : RdS W G A l
  hG : w.heap.size < G
theorem BtR.later {w w2 W W' : World} {G : Nat} {A : Option Addr} {l : List Sv} (h : BtR w w2 W G A l) (hb : Below G W W') : BtR w w2 W' G A l := ⟨h.res.later hb h.hG, h.rd.below hb (Nat.le_refl _), h.hG⟩
theorem outs2_start (w : World) : Outs2 (w.alloc (.cells #[.slice none 0 0, .slice none 0 0, .int .i64 0] 31)) (w.alloc (.cells #[.slice none 0 0, .slice none 0 0, .int .i64 0] 31)) w.heap.size (.slice none 0 0) (.slice none 0 0) [] [] := by
  obtain ⟨z0, z1, z2, zf⟩ := three_cells (heap_alloc_new w (.cells #[.slice none 0 0, .slice none 0 0, .int .i64 0] 31))
  exact ⟨Below.refl _ _, Own.nil _ _, Own.nil _ _, fun k e => by simp [Value.ownBlock] at e, z0, z1, z2, zf, by simp⟩
theorem Outs2.slices {w1 wr : World} {G : Nat} {o0 o1 : Value} {xs ys : List Int} {n m : Nat} (h : Outs2 w1 wr G o0 o1 xs ys) (hn : xs.length = n) (hm : ys.length = m) : (∃ A c, o0 = .slice A n c) ∧ ∃ A c, o1 = .slice A m c := by
  obtain ⟨A, c, hv, _, _⟩ := h.own0.rd
  obtain ⟨A', c', hv', _, _⟩ := h.own1.rd
  exact ⟨⟨A, c, by rw [hv, hn]⟩, ⟨A', c', by rw [hv', hm]⟩⟩
theorem Outs2.ends {w w2 wr : World} {G n n' k0 k1 : Nat} {A0 A1 : Option Addr} {xs ys : List Int} (h : Outs2 w2 wr G (.slice A0 n k0) (.slice A1 n' k1) xs ys) (hR : InR w wr) (hG : w.heap.size < G) :
    REnds w xs ys 0 (.returned (.agg #[.slice A0 n k0, .slice A1 n' k1, .int .i64 0])) (((wr.setCell ⟨w.heap.size, 0, none⟩ (.slice A0 n k0)).setCell ⟨w.heap.size, 1, none⟩ (.slice A1 n' k1)).setCell ⟨w.heap.size, 2, none⟩ (.int .i64 0)) := by
  obtain ⟨B0, d0, e0, hrd0, hfr0⟩ := h.own0.rd
  obtain ⟨B1, d1, e1, hrd1, hfr1⟩ := h.own1.rd
  cases e0
  cases e1
  have ne0 : ∀ (i : Nat) (ad : Addr), A0 = some ad → ad.block ≠ (⟨w.heap.size, i, none⟩ : Addr).block := fun i ad e => by have := hfr0 ad e; show ad.block ≠ w.heap.size; omega
  have ne1 : ∀ (i : Nat) (ad : Addr), A1 = some ad → ad.block ≠ (⟨w.heap.size, i, none⟩ : Addr).block := fun i ad e => by have := hfr1 ad e; show ad.block ≠ w.heap.size; omega
  refine ⟨A0, k0, A1, k1, rfl, ?_, ?_, ((hR.bl.setCell (by exact Nat.le_refl _) _).setCell (by exact Nat.le_refl _) _).setCell (by exact Nat.le_refl _) _⟩
  · simp only [World.size_setCell]; exact ((hrd0.setCell (ne0 0) _).setCell (ne0 1) _).setCell (ne0 2) _
  · simp only [World.size_setCell]; exact ((hrd1.setCell (ne1 0) _).setCell (ne1 1) _).setCell (ne1 2) _
theorem rends_ok {l : List Sv} {last : Int} {X Y : List Int} {w w' : World} {e : Ending} (hE : betE l last = 0) (h : REnds w X Y 0 e w') : REnds w (pick (decide (betE l last = 0)) X) (pick (decide (betE l last = 0)) Y) (betE l last) e w' := by
  rw [hE]
  exact h

theorem loTo_bd (l : List Sv) (t : Int) (h : ∀ j, j < l.length → 0 ≤ (nthS l j).lo ∧ (nthS l j).lo ≤ 1073741824) : ∀ k, k ≤ l.length → 0 ≤ loTo l t k ∧ loTo l t k ≤ 1073741824 := by
  intro k
  induction k with
  | zero => intro _; simp [loTo]
  | succ k ih =>
    intro hk
    have := ih (by omega)
    have := h k (by omega)
    unfold loTo
    split <;> omega

set_option maxRecDepth 100000 in
set_option maxHeartbeats 3200000 in
theorem rBetween_any (A : Option Addr) (c : Nat) (l : List Sv) (last : Int) (w : World) (h : RdS w w.heap.size A l) (hm : l.length ≤ maxLen) :
    Calls Try.prog 18 #[.slice A l.length c, .int .i64 last] w fun e w' => REnds w (pick (decide (betE l last = 0)) (loL l (last.toNat + 1))) (pick (decide (betE l last = 0)) (hiL l (last.toNat + 1))) (betE l last) e w' := by
  obtain ⟨i0, hi0, hz0, hz1, hz2⟩ := info_parts info3
  have hR := inR_known w
  have hm' := hm
  unfold maxLen at hm
  by_cases h60 : 60 < l.length
  · have hE : betE l last = 2 := by simp [betE, h60]
    rw [hE, show decide ((2 : Int) = 0) = false from rfl, pick_f, pick_f]
    have h60z : (60 : Int) < (l.length : Int) := by omega
    obtain ⟨z0, z1, z2, zf⟩ := three_cells hR.row
    have f0 := zf 0
    have f1 := zf 1
    have f2 := zf 2
    have HT := Lib.hid (And.intro (three_set hR.row (.slice none 0 0) (.slice none 0 0) (.int .i64 2)) (hR.rends 2))
    clear hE hR h zf
    go_enter Try.func18, Try.ntmps18
    go_upto_region 1 with fail
    generalize w.alloc (.cells #[.slice none 0 0, .slice none 0 0, .int .i64 0] 31) = w1 at *
    go_wp2
    obtain ⟨⟨q0, q1, q2⟩, HF⟩ := HT.out
    exact bodyPost_ret (v := .agg #[.slice none 0 0, .slice none 0 0, .int .i64 2]) (by simp [results, Try.results18, go_sem, q0, q1, q2]) rfl HF
  have h60z : ¬ (60 : Int) < (l.length : Int) := by omega
  cases hw : withinB last 0 120 with
  | false =>
    have hE : betE l last = 1 := by simp [betE, h60, hw]
    rw [hE, show decide ((1 : Int) = 0) = false from rfl, pick_f, pick_f]
    obtain ⟨z0, z1, z2, zf⟩ := three_cells hR.row
    have f0 := zf 0
    have f1 := zf 1
    have f2 := zf 2
    have HT := Lib.hid (And.intro (three_set hR.row (.slice none 0 0) (.slice none 0 0) (.int .i64 1)) (hR.rends 1))
    clear hE hR h zf
    go_enter Try.func18, Try.ntmps18
    go_upto_region 1 with fail
    generalize w.alloc (.cells #[.slice none 0 0, .slice none 0 0, .int .i64 0] 31) = w1 at *
    go_wp2_with (go_at_call 77; refine (in_any _ _ _ _).mono ?_; rw [hw]; rintro e w' ⟨rfl, rfl⟩)
    obtain ⟨⟨q0, q1, q2⟩, HF⟩ := HT.out
    exact bodyPost_ret (v := .agg #[.slice none 0 0, .slice none 0 0, .int .i64 1]) (by simp [results, Try.results18, go_sem, q0, q1, q2]) rfl HF
  | true =>
  have hlast : 0 ≤ last ∧ last ≤ 120 := by unfold withinB at hw; simpa using hw
  obtain ⟨m, rfl⟩ : ∃ m : Nat, last = (m : Int) := ⟨last.toNat, by omega⟩
  have hm120 : m ≤ 120 := by omega
  have hE1 : anyWrong m l = true → betE l m = 1 := fun ha => by simp [betE, h60, hw, ha]
  have hE2 : anyWrong m l = false → betE l m = if clashB (hiL l (m + 1)) (loL l (m + 1)) then 9 else 0 := fun ha => by simp [betE, h60, hw, ha]
  have hrd := h.ext hR.bl
  rw [Int.toNat_natCast]
  have HE := Lib.hid (And.intro hE1 hE2)
  clear hE1 hE2 h hlast
  go_enter Try.func18, Try.ntmps18
  go_upto_region 1 with fail
  generalize w.alloc (.cells #[.slice none 0 0, .slice none 0 0, .int .i64 0] 31) = w1 at *
  go_upto_region 5 with (go_at_call 77; refine (in_any _ _ _ _).mono ?_; rw [hw]; rintro e w' ⟨rfl, rfl⟩)
  go_wp2
  go_loopg [5] l.length (fun gg i wr => ∃ t : Nat, t ≤ l.length ∧ l.length - t ≤ gg ∧ i = .int .i64 t ∧ Aside (Below w1.heap.size w1 wr) ∧ Aside (∀ j, j < t → wrongB m (nthS l j) = false))
  case atStart => exact ⟨0, Nat.zero_le _, by omega, rfl, Below.refl _ _, fun j hj => absurd hj (Nat.not_lt_zero _)⟩
  case round =>
    obtain ⟨t, ht, hg, rfl, hb, hA⟩ := hrel
    by_cases hlt : t < l.length
    · have hltz : (t : Int) < (l.length : Int) := by omega
      obtain ⟨b, off, rfl, lb, hcs⟩ := hrd (by omega)
      obtain ⟨k1, k2, k3⟩ := hcs t hlt
      obtain ⟨rc, rf⟩ := bcell hb.out
      replace k1 := (rc _ _ lb).trans k1
      replace k2 := (rc _ _ lb).trans k2
      replace k3 := (rc _ _ lb).trans k3
      have hR' := hR.ext hb.out
      have hsz := hb.out.size
      have lb' : b < wr.heap.size := by omega
      clear hcs hrd rc rf
      have hq : wrongB m (nthS l t) = (!withinB (nthS l t).step 0 m || decide ((nthS l t).lo < 0) || decide ((nthS l t).hi < (nthS l t).lo) || decide (1073741824 < (nthS l t).hi)) := rfl
      generalize hsv : nthS l t = s at *
      obtain ⟨p, lo, hi⟩ := s
      dsimp only at k1 k2 k3 hq
      have HA := Lib.hid (And.intro hA.out (And.intro hb.out (And.intro hsv hR')))
      clear hA hb hsv hR'
      cases hp : withinB p 0 m with
      | false =>
        have HQ := Lib.hid (show wrongB m ⟨p, lo, hi⟩ = true by rw [hq, hp]; rfl)
        have HW := Lib.hid (anyWrong_hit hlt (by rw [HA.out.2.2.1]; exact HQ.out) HA.out.1)
        clear hq
        go_wp2
        refine wp_region_ext (by kernel_rfl) (by kernel_rfl) ?_
        intro ι _ X hX hC
        have rX := fun k => (bcell (hX k)).1
        repeat (first | go_big_quiet_skip | (go_big_quiet_want; go_big_quiet_op; first | go_big_quiet_on | (apply Exists.intro; refine ⟨fun _ => ?_, ?_⟩; (focus (go_at_call 77; exact Calls.ext_same (in_any _ _ _ _))); go_big_quiet_on)))
        refine wpQuiet_nil ?_
        intro w1 hb1
        clear rX hX hC
        have hR2 := HA.out.2.2.2.ext hb1
        obtain ⟨z0, z1, z2, zf⟩ := three_cells hR2.row
        have f0 := zf 0
        have f1 := zf 1
        have f2 := zf 2
        have HT := Lib.hid (And.intro (three_set hR2.row (.slice none 0 0) (.slice none 0 0) (.int .i64 1)) (hR2.rends 1))
        clear hR2 zf hb1
        go_wp2
        obtain ⟨⟨q0, q1, q2⟩, HF⟩ := HT.out
        exact bodyPost_ret (v := .agg #[.slice none 0 0, .slice none 0 0, .int .i64 1]) (by simp [results, Try.results18, go_sem, q0, q1, q2]) rfl (rends_err (HE.out.1 HW.out) (by omega) HF)
      | true =>
        by_cases h1 : lo < 0
        · have HQ := Lib.hid (show wrongB m ⟨p, lo, hi⟩ = true by rw [hq, hp, decide_eq_true h1]; rfl)
          have HW := Lib.hid (anyWrong_hit hlt (by rw [HA.out.2.2.1]; exact HQ.out) HA.out.1)
          clear hq
          go_wp2
          refine wp_region_ext (by kernel_rfl) (by kernel_rfl) ?_
          intro ι _ X hX hC
          have rX := fun k => (bcell (hX k)).1
          repeat (first | go_big_quiet_skip | (go_big_quiet_want; go_big_quiet_op; first | go_big_quiet_on | (apply Exists.intro; refine ⟨fun _ => ?_, ?_⟩; (focus (go_at_call 77; exact Calls.ext_same (in_any _ _ _ _))); go_big_quiet_on)))
          refine wpQuiet_nil ?_
          intro w1 hb1
          clear rX hX hC
          have hR2 := HA.out.2.2.2.ext hb1
          obtain ⟨z0, z1, z2, zf⟩ := three_cells hR2.row
          have f0 := zf 0
          have f1 := zf 1
          have f2 := zf 2
          have HT := Lib.hid (And.intro (three_set hR2.row (.slice none 0 0) (.slice none 0 0) (.int .i64 1)) (hR2.rends 1))
          clear hR2 zf hb1
          go_wp2
          obtain ⟨⟨q0, q1, q2⟩, HF⟩ := HT.out
          exact bodyPost_ret (v := .agg #[.slice none 0 0, .slice none 0 0, .int .i64 1]) (by simp [results, Try.results18, go_sem, q0, q1, q2]) rfl (rends_err (HE.out.1 HW.out) (by omega) HF)
        · by_cases h2 : hi < lo
          · have HQ := Lib.hid (show wrongB m ⟨p, lo, hi⟩ = true by rw [hq, hp, decide_eq_true h2]; simp)
            have HW := Lib.hid (anyWrong_hit hlt (by rw [HA.out.2.2.1]; exact HQ.out) HA.out.1)
            clear hq
            go_wp2
            refine wp_region_ext (by kernel_rfl) (by kernel_rfl) ?_
            intro ι _ X hX hC
            have rX := fun k => (bcell (hX k)).1
            have d1 : ¬ lo < 0 := by omega
            repeat (first | go_big_quiet_skip | (go_big_quiet_want; go_big_quiet_op; first | go_big_quiet_on | (apply Exists.intro; refine ⟨fun _ => ?_, ?_⟩; (focus (go_at_call 77; exact Calls.ext_same (in_any _ _ _ _))); go_big_quiet_on)))
            refine wpQuiet_nil ?_
            intro w1 hb1
            clear rX hX hC
            have hR2 := HA.out.2.2.2.ext hb1
            obtain ⟨z0, z1, z2, zf⟩ := three_cells hR2.row
            have f0 := zf 0
            have f1 := zf 1
            have f2 := zf 2
            have HT := Lib.hid (And.intro (three_set hR2.row (.slice none 0 0) (.slice none 0 0) (.int .i64 1)) (hR2.rends 1))
            clear hR2 zf hb1
            go_wp2
            obtain ⟨⟨q0, q1, q2⟩, HF⟩ := HT.out
            exact bodyPost_ret (v := .agg #[.slice none 0 0, .slice none 0 0, .int .i64 1]) (by simp [results, Try.results18, go_sem, q0, q1, q2]) rfl (rends_err (HE.out.1 HW.out) (by omega) HF)
          · by_cases h3 : 1073741824 < hi
            · have HQ := Lib.hid (show wrongB m ⟨p, lo, hi⟩ = true by rw [hq, hp, decide_eq_true h3]; simp)
              have HW := Lib.hid (anyWrong_hit hlt (by rw [HA.out.2.2.1]; exact HQ.out) HA.out.1)
              clear hq
              go_wp2
              refine wp_region_ext (by kernel_rfl) (by kernel_rfl) ?_
              intro ι _ X hX hC
              have rX := fun k => (bcell (hX k)).1
              have d1 : ¬ lo < 0 := by omega
              have d2 : ¬ hi < lo := by omega
              repeat (first | go_big_quiet_skip | (go_big_quiet_want; go_big_quiet_op; first | go_big_quiet_on | (apply Exists.intro; refine ⟨fun _ => ?_, ?_⟩; (focus (go_at_call 77; exact Calls.ext_same (in_any _ _ _ _))); go_big_quiet_on)))
              refine wpQuiet_nil ?_
              intro w1 hb1
              clear rX hX hC
              have hR2 := HA.out.2.2.2.ext hb1
              obtain ⟨z0, z1, z2, zf⟩ := three_cells hR2.row
              have f0 := zf 0
              have f1 := zf 1
              have f2 := zf 2
              have HT := Lib.hid (And.intro (three_set hR2.row (.slice none 0 0) (.slice none 0 0) (.int .i64 1)) (hR2.rends 1))
              clear hR2 zf hb1
              go_wp2
              obtain ⟨⟨q0, q1, q2⟩, HF⟩ := HT.out
              exact bodyPost_ret (v := .agg #[.slice none 0 0, .slice none 0 0, .int .i64 1]) (by simp [results, Try.results18, go_sem, q0, q1, q2]) rfl (rends_err (HE.out.1 HW.out) (by omega) HF)
            · have HQ := Lib.hid (show wrongB m ⟨p, lo, hi⟩ = false by rw [hq, hp, decide_eq_false h1, decide_eq_false h2, decide_eq_false h3]; rfl)
              clear hq
              go_wp2
              refine wp_region_ext (by kernel_rfl) (by kernel_rfl) ?_
              intro ι _ X hX hC
              have rX := fun k => (bcell (hX k)).1
              have d1 : ¬ lo < 0 := by omega
              have d2 : ¬ hi < lo := by omega
              repeat (first | go_big_quiet_skip | (go_big_quiet_want; go_big_quiet_op; first | go_big_quiet_on | (apply Exists.intro; refine ⟨fun _ => ?_, ?_⟩; (focus (go_at_call 77; exact Calls.ext_same (in_any _ _ _ _))); go_big_quiet_on)))
              refine wpQuiet_nil ?_
              intro w1 hb1
              clear rX hX hC
              have HB := Lib.hid (HA.out.2.1.trans (hb1.mono HA.out.2.1.size))
              clear hb1
              go_wp2
              go_roundg (l.length - (t + 1))
              case measure => omega
              case rel => exact ⟨t + 1, by omega, by omega, by go_num, HB.out, (show Aside _ from fun j hj => by
                by_cases e : j = t
                · subst e; rw [HA.out.2.2.1]; exact HQ.out
                · exact HA.out.1 j (by omega))⟩
    · have hltz : ¬ (t : Int) < (l.length : Int) := by omega
      obtain rfl : t = l.length := by omega
      have hW := anyWrong_miss hA.out
      have hEb := HE.out.2 hW
      have hbd : ∀ j, j < l.length → 0 ≤ (nthS l j).lo ∧ (nthS l j).lo ≤ 1073741824 := fun j hj => by
        have := hA.out j hj
        unfold wrongB at this
        simp only [Bool.or_eq_false_iff, decide_eq_false_iff_not] at this
        omega
      have hR' := hR.ext hb.out
      have hrd' := hrd.ext hb.out
      have HX := Lib.hid (And.intro hEb (And.intro hbd (And.intro hR' hrd')))
      clear hW hEb hbd hR' hrd' hA hb hR hrd HE
      go_upto_region 11 with fail
      have hO := outs2_start wr
      have hK : BtR w w1 (wr.alloc (.cells #[.slice none 0 0, .slice none 0 0, .int .i64 0] 31)) wr.heap.size A l :=
        ⟨HX.out.2.2.1.ext ((Below.refl _ wr).alloc (Nat.le_refl _) _), HX.out.2.2.2.below ((Below.refl _ wr).alloc (Nat.le_refl _) _) (Nat.le_refl _), HX.out.2.2.1.lt⟩
      generalize wr.alloc (.cells #[.slice none 0 0, .slice none 0 0, .int .i64 0] 31) = w2 at *
      generalize hgg : wr.heap.size = G at *
      have HX2 := Lib.hid (And.intro HX.out.1 HX.out.2.1)
      clear HX hgg
      have HO := Lib.hid (And.intro hO hK)
      clear hO hK
      go_wp2
      go_loopg [7] (m + 1) (fun gk s7 wr => ∃ t : Nat, t ≤ m + 1 ∧ m + 1 - t ≤ gk ∧ s7 = .int .i64 t ∧ ∃ A0 k0 A1 k1, Outs2 w2 wr G (.slice A0 t k0) (.slice A1 t k1) (tab t fun i => loTo l i l.length) (tab t fun i => hiTo l i l.length) ∧ (∀ j : Nat, j < t → ¬ hiTo l j l.length < loTo l j l.length))
      case atStart => exact ⟨0, Nat.zero_le _, by omega, rfl, none, 0, none, 0, HO.out.1, fun j hj => absurd hj (Nat.not_lt_zero _)⟩
      case round =>
        obtain ⟨t, ht, hgk, rfl, A0, k0, A1, k1, hO, hN⟩ := hrel
        have hK := HO.out.2.later hO.bl
        by_cases hlt : t < m + 1
        · have hltz : (t : Int) ≤ (m : Int) := by omega
          have HR := Lib.hid (And.intro hO (And.intro hK hN))
          clear hO hK hN
          go_wp2
          go_loopg [8, 9, 10] l.length (fun gj s8 s9 s10 wq => ∃ k : Nat, k ≤ l.length ∧ l.length - k ≤ gj ∧ s10 = .int .i64 k ∧ s8 = .int .i64 (loTo l t k) ∧ s9 = .int .i64 (hiTo l t k) ∧ Aside (Below wr.heap.size wr wq))
          case atStart => exact ⟨0, Nat.zero_le _, by omega, rfl, rfl, rfl, Below.refl _ _⟩
          case round =>
            obtain ⟨k, hk, hgj, rfl, rfl, rfl, hb⟩ := hrel
            by_cases hkl : k < l.length
            · have hklz : (k : Int) < (l.length : Int) := by omega
              obtain ⟨b, off, rfl, lb, hcs⟩ := HR.out.2.1.rd (by omega)
              obtain ⟨e1, e2, e3⟩ := hcs k hkl
              have hbl : b < _ := Nat.lt_trans lb HR.out.1.lt
              obtain ⟨rc, rf⟩ := bcell hb.out
              replace e1 := (rc _ _ hbl).trans e1
              replace e2 := (rc _ _ hbl).trans e2
              replace e3 := (rc _ _ hbl).trans e3
              clear hcs rc rf hbl lb
              have hs1 : loTo l t (k + 1) = if (nthS l k).step ≤ t then max (loTo l t k) (nthS l k).lo else loTo l t k := rfl
              have hs2 : hiTo l t (k + 1) = if t ≤ (nthS l k).step then min (hiTo l t k) (nthS l k).hi else hiTo l t k := rfl
              generalize nthS l k = s at *
              obtain ⟨p, lo, hi⟩ := s
              dsimp only at e1 e2 e3 hs1 hs2
              have HB := Lib.hid hb.out
              clear hb
              rcases (show (p ≤ t ∧ t ≤ p) ∨ (p ≤ t ∧ ¬ t ≤ p) ∨ (¬ p ≤ t ∧ t ≤ p) by omega) with ⟨hq1, hq2⟩ | ⟨hq1, hq2⟩ | ⟨hq1, hq2⟩
              all_goals
                simp only [hq1, hq2, if_true, if_false] at hs1 hs2
                have HS := Lib.hid (And.intro hs1 hs2)
                clear hs1 hs2
                generalize loTo l t k = M at *
                generalize hiTo l t k = N at *
                go_wp2
                all_goals
                  go_roundg (l.length - (k + 1))
                  case measure => omega
                  case rel => exact ⟨k + 1, by omega, by omega, by go_num, by rw [HS.out.1]; first | done | exact int_eq (by omega), by rw [HS.out.2]; first | done | exact int_eq (by omega), HB.out⟩
            · have hklz : ¬ (k : Int) < (l.length : Int) := by omega
              obtain rfl : k = l.length := by omega
              have hO2 := HR.out.1.later hb.out
              have hK2 := HR.out.2.1.later (hb.out.mono (Nat.le_of_lt HR.out.1.lt))
              obtain ⟨z0, z1, z2, zf⟩ := three_cells hK2.res.row
              have y0 := hO2.c0
              have y1 := hO2.c1
              have yf0 := hO2.fr 0
              have yf1 := hO2.fr 1
              by_cases hq : hiTo l t l.length < loTo l t l.length
              · have hc := clash_hit (n := m + 1) hlt hq (fun j hj => by have := HR.out.2.2 j hj; omega)
                have f0 := zf 0
                have f1 := zf 1
                have f2 := zf 2
                have HT := Lib.hid (And.intro (three_set hK2.res.row (.slice none 0 0) (.slice none 0 0) (.int .i64 9)) (And.intro (hK2.res.rends 9) (show betE l m = 9 by rw [HX2.out.1, hc]; rfl)))
                clear hO2 hK2 zf hb hc y0 y1 yf0 yf1
                generalize loTo l t l.length = M at *
                generalize hiTo l t l.length = N at *
                go_wp2
                obtain ⟨⟨q0, q1, q2⟩, HF, hE9⟩ := HT.out
                exact bodyPost_ret (v := .agg #[.slice none 0 0, .slice none 0 0, .int .i64 9]) (by simp [results, Try.results18, go_sem, q0, q1, q2]) rfl (rends_err hE9 (by omega) HF)
              · have HQ := Lib.hid (And.intro hq (And.intro hO2 hK2))
                clear hO2 hK2 zf hb z0 z1 z2
                generalize hgM : loTo l t l.length = M at *
                generalize hgN : hiTo l t l.length = N at *
                have HM := Lib.hid (And.intro hgM hgN)
                clear hgM hgN
                have hOW := HQ.out.2.1.later ((Below.refl _ wr).alloc (Nat.le_refl _) (.cells #[.int .i64 M] 3))
                have hown := hOW.own0
                have hnew := World.news_of_block (cs := #[.int .i64 M]) (t := 3) (fr := (0, 0)) (heap_alloc_new wr (.cells #[.int .i64 M] 3))
                unfold Own at hown
                rw [tab_length] at hown
                have hsz : G + 1 ≤ (wr.alloc (.cells #[.int .i64 M] 3)).heap.size := hOW.lt
                have HB := Lib.hid (And.intro hOW (And.intro hnew (And.intro hown hsz)))
                clear hOW hnew hown hsz
                go_upto_region 26 with (at_builtin; refine wpList_append_own_at _ rfl _ _ 24 rfl (G + 1) 3 i0 (.int .i64 0) 1 8 Try.underlying24 hi0 hz0 hz1 hz2 rfl (by decide) (.slice A0 t k0) t _ rfl HB.out.2.2.1 ⟨wr.heap.size, 0, none⟩ 1 1 [.int .i64 M] rfl (by simp) HB.out.2.1 (by simp [Value.oneCell']) (by unfold maxLen; omega) (by omega) HB.out.2.2.2 ?_; intro v' w9 hown1 hgrow _ hv; have hpush := HB.out.1.push0 (nv := v') (x := M) hgrow (by rw [tab_length]; exact hown1) hv; obtain ⟨c2G, _, _, f2G, _, _, _⟩ := HB.out.1.app0 hgrow; have fG := f2G 0; obtain ⟨⟨A', c', rfl⟩, _⟩ := hpush.slices (n := t + 1) (m := t) (by simp [tab_length]) (tab_length _ _); have HP := Lib.hid hpush; clear hpush hown1 hgrow f2G hv)
                generalize w9.setCell ⟨G, 0, none⟩ (.slice A' (t + 1) c') = wa at *
                clear y0 y1 yf0 yf1 c2G fG
                have y1 := HP.out.c1
                have hOW := HP.out.later ((Below.refl _ wa).alloc (Nat.le_refl _) (.cells #[.int .i64 N] 3))
                have hown := hOW.own1
                have hnew := World.news_of_block (cs := #[.int .i64 N]) (t := 3) (fr := (0, 0)) (heap_alloc_new wa (.cells #[.int .i64 N] 3))
                unfold Own at hown
                rw [tab_length] at hown
                have hsz : G + 1 ≤ (wa.alloc (.cells #[.int .i64 N] 3)).heap.size := hOW.lt
                have HB := Lib.hid (And.intro hOW (And.intro hnew (And.intro hown hsz)))
                clear hOW hnew hown hsz
                go_wp2_with (at_builtin; refine wpList_append_own_at _ rfl _ _ 24 rfl (G + 1) 3 i0 (.int .i64 0) 1 8 Try.underlying24 hi0 hz0 hz1 hz2 rfl (by decide) (.slice A1 t k1) t _ rfl HB.out.2.2.1 ⟨wa.heap.size, 0, none⟩ 1 1 [.int .i64 N] rfl (by simp) HB.out.2.1 (by simp [Value.oneCell']) (by unfold maxLen; omega) (by omega) HB.out.2.2.2 ?_; intro v' wb hown1 hgrow _ hv; have hpush := HB.out.1.push1 (nv := v') (x := N) hgrow (by rw [tab_length]; exact hown1) hv; obtain ⟨_, c3G, _, f2G, _, _, _⟩ := HB.out.1.app1 hgrow; have fG := f2G 1; obtain ⟨_, ⟨A2', c2', rfl⟩⟩ := hpush.slices (n := t + 1) (m := t + 1) (by simp [tab_length]) (by simp [tab_length]); have HP2 := Lib.hid hpush; clear hpush hown1 hgrow f2G hv)
                go_roundg (m + 1 - (t + 1))
                case measure => omega
                case rel => exact ⟨t + 1, by omega, by omega, by go_num, _, _, _, _, by simp only [tab_succ, HM.out.1, HM.out.2]; exact HP2.out, fun j hj => by
                  by_cases e : j = t
                  · subst e; rw [HM.out.1, HM.out.2]; have := HQ.out.1; omega
                  · have := HR.out.2.2 j (by omega); omega⟩
        · have hltz : ¬ (t : Int) ≤ (m : Int) := by omega
          obtain rfl : t = m + 1 := by omega
          have hc := clash_miss (l := l) (n := m + 1) (fun j hj => by have := hN j hj; omega)
          obtain ⟨z0, z1, z2, zf⟩ := three_cells hK.res.row
          have f0 := zf 0
          have f1 := zf 1
          have f2 := zf 2
          have y0 := hO.c0
          have y1 := hO.c1
          have y2 := hO.c2
          have HT := Lib.hid (And.intro (three_set hK.res.row (.slice A0 (m + 1) k0) (.slice A1 (m + 1) k1) (.int .i64 0)) (And.intro (hO.ends hK.res hK.hG) (show betE l m = 0 by rw [HX2.out.1, hc]; rfl)))
          clear hO hK hN zf hc
          go_wp2
          obtain ⟨⟨q0, q1, q2⟩, HF, hE0⟩ := HT.out
          exact bodyPost_ret (v := .agg #[.slice A0 (m + 1) k0, .slice A1 (m + 1) k1, .int .i64 0]) (by simp [results, Try.results18, go_sem, q0, q1, q2]) rfl (rends_ok hE0 HF)
end Go.Proofs.Ytknkneccnhgjmaa
