/- Walks: the reference's Between. | Walks: the laws' examples: curve, Limit, Service, Course. | The chapter's examples, each answer by its contract. | Walks: the laws' sanity. -/
import Derived.Test.YtknkneccnhgjmaaF4
namespace Go.Proofs.Ytknkneccnhgjmaa
open Go.RowKit Go.Shelf

/-- Where the result's three cells lie. -/
structure InR (w W : World) : Prop where
  row : W.heap[w.heap.size]? = some (.cells #[.slice none 0 0, .slice none 0 0, .int .i64 0] 31 (0, 0))
  bl : Below w.heap.size w W
  lt : w.heap.size < W.heap.size
theorem InR.ext {w w1 w2 : World} (h : InR w w1) (hb : Below w1.heap.size w1 w2) : InR w w2 := ⟨(hb.block _ h.lt).trans h.row, h.bl.trans (hb.mono h.bl.size), Nat.lt_of_lt_of_le h.lt hb.size⟩
theorem inR_known (w : World) : InR w (w.alloc (.cells #[.slice none 0 0, .slice none 0 0, .int .i64 0] 31)) := ⟨heap_alloc_new w _, (Below.refl _ w).alloc (Nat.le_refl _) _, by simp⟩
theorem InR.rends {w W : World} (h : InR w W) (E : Int) : REnds w [] [] E (.returned (.agg #[.slice none 0 0, .slice none 0 0, .int .i64 E])) (((W.setCell ⟨w.heap.size, 0, none⟩ (.slice none 0 0)).setCell ⟨w.heap.size, 1, none⟩ (.slice none 0 0)).setCell ⟨w.heap.size, 2, none⟩ (.int .i64 E)) :=
  ⟨none, 0, none, 0, rfl, Rd.nil, Rd.nil, ((h.bl.setCell (by exact Nat.le_refl _) _).setCell (by exact Nat.le_refl _) _).setCell (by exact Nat.le_refl _) _⟩
theorem rends_err {l : List Sv} {last E : Int} {X Y : List Int} {w w' : World} {e : Ending} (hE : betE l last = E) (h0 : E ≠ 0) (h : REnds w [] [] E e w') : REnds w (pick (decide (betE l last = 0)) X) (pick (decide (betE l last = 0)) Y) (betE l last) e w' := by
  rw [hE, decide_eq_false h0]
  exact h

theorem RdS.below {w w' : World} {B n : Nat} {A : Option Addr} {l : List Sv} (h : RdS w B A l) (hb : Below n w w') (hB : B ≤ n) : RdS w' B A l := fun hn => by
  obtain ⟨b, off, e, hlt, hc⟩ := h hn
  refine ⟨b, off, e, hlt, fun i hi => ?_⟩
  obtain ⟨h1, h2, h3⟩ := hc i hi
  have hbn : b < n := Nat.lt_of_lt_of_le hlt hB
  exact ⟨(hb.cell (p := ⟨b, _, none⟩) hbn).trans h1, (hb.cell (p := ⟨b, _, none⟩) hbn).trans h2, (hb.cell (p := ⟨b, _, none⟩) hbn).trans h3⟩
theorem InR.later {w W W' : World} {n : Nat} (h : InR w W) (hb : Below n W W') (hn : w.heap.size < n) : InR w W' := ⟨(hb.block _ hn).trans h.row, h.bl.trans (hb.mono (Nat.le_of_lt hn)), Nat.lt_of_lt_of_le h.lt hb.size⟩
/-- What is known in the second loop of the reference's Between. -/
structure BtR (w w2 W : World) (G : Nat) (A : Option Addr) (l : List Sv) : Prop where
  res : InR w W
  rd : RdS W G A l
  hG : w.heap.size < G
theorem BtR.later {w w2 W W' : World} {G : Nat} {A : Option Addr} {l : List Sv} (h : BtR w w2 W G A l) (hb : Below G W W') : BtR w w2 W' G A l := ⟨h.res.later hb h.hG, h.rd.below hb (Nat.le_refl _), h.hG⟩
theorem outs2_start (w : World) : Outs2 (w.alloc (.cells #[.slice none 0 0, .slice none 0 0, .int .i64 0] 31)) (w.alloc (.cells #[.slice none 0 0, .slice none 0 0, .int .i64 0] 31)) w.heap.size (.slice none 0 0) (.slice none 0 0) [] [] := by
  obtain ⟨z0, z1, z2, zf⟩ := three_cells (heap_alloc_new w (.cells #[.slice none 0 0, .slice none 0 0, .int .i64 0] 31))
  exact ⟨Below.refl _ _, Own.nil _ _, Own.nil _ _, fun k e => by simp [Value.ownBlock] at e, z0, z1, z2, zf, by simp⟩
theorem Outs2.slices {w1 wr : World} {G : Nat} {o0 o1 : Value} {xs ys : List Int} {n m : Nat} (h : Outs2 w1 wr G o0 o1 xs ys) (hn : xs.length = n) (hm : ys.length = m) : (∃ A c, o0 = .slice A n c) ∧ ∃ A c, o1 = .slice A m c := by
  obtain ⟨A, c, hv, _, _⟩ := h.own0.rd
  obtain ⟨A', c', hv', _, _⟩ := h.own1.rd
  exact ⟨⟨A, c, by rw [hv, hn]⟩, ⟨A', c', by rw [hv', hm]⟩⟩
theorem Outs2.ends {w w2 wr : World} {G n n' k0 k1 : Nat} {A0 A1 : Option Addr} {xs ys : List Int} (h : Outs2 w2 wr G (.slice A0 n k0) (.slice A1 n' k1) xs ys) (hR : InR w wr) (hG : w.heap.size < G) :
    REnds w xs ys 0 (.returned (.agg #[.slice A0 n k0, .slice A1 n' k1, .int .i64 0])) (((wr.setCell ⟨w.heap.size, 0, none⟩ (.slice A0 n k0)).setCell ⟨w.heap.size, 1, none⟩ (.slice A1 n' k1)).setCell ⟨w.heap.size, 2, none⟩ (.int .i64 0)) := by
  obtain ⟨B0, d0, e0, hrd0, hfr0⟩ := h.own0.rd
  obtain ⟨B1, d1, e1, hrd1, hfr1⟩ := h.own1.rd
  cases e0
  cases e1
  have ne0 : ∀ (i : Nat) (ad : Addr), A0 = some ad → ad.block ≠ (⟨w.heap.size, i, none⟩ : Addr).block := fun i ad e => by have := hfr0 ad e; show ad.block ≠ w.heap.size; omega
  have ne1 : ∀ (i : Nat) (ad : Addr), A1 = some ad → ad.block ≠ (⟨w.heap.size, i, none⟩ : Addr).block := fun i ad e => by have := hfr1 ad e; show ad.block ≠ w.heap.size; omega
  refine ⟨A0, k0, A1, k1, rfl, ?_, ?_, ((hR.bl.setCell (by exact Nat.le_refl _) _).setCell (by exact Nat.le_refl _) _).setCell (by exact Nat.le_refl _) _⟩
  · simp only [World.size_setCell]; exact ((hrd0.setCell (ne0 0) _).setCell (ne0 1) _).setCell (ne0 2) _
  · simp only [World.size_setCell]; exact ((hrd1.setCell (ne1 0) _).setCell (ne1 1) _).setCell (ne1 2) _
theorem rends_ok {l : List Sv} {last : Int} {X Y : List Int} {w w' : World} {e : Ending} (hE : betE l last = 0) (h : REnds w X Y 0 e w') : REnds w (pick (decide (betE l last = 0)) X) (pick (decide (betE l last = 0)) Y) (betE l last) e w' := by
  rw [hE]
  exact h

theorem loTo_bd (l : List Sv) (t : Int) (h : ∀ j, j < l.length → 0 ≤ (nthS l j).lo ∧ (nthS l j).lo ≤ 1073741824) : ∀ k, k ≤ l.length → 0 ≤ loTo l t k ∧ loTo l t k ≤ 1073741824 := by
  intro k
  induction k with
  | zero => intro _; simp [loTo]
  | succ k ih =>
    intro hk
    have := ih (by omega)
    have := h k (by omega)
    unfold loTo
    split <;> omega

set_option maxRecDepth 100000 in
set_option maxHeartbeats 3200000 in
theorem rBetween_any (A : Option Addr) (c : Nat) (l : List Sv) (last : Int) (w : World) (h : RdS w w.heap.size A l) (hm : l.length ≤ maxLen) :
    Calls Try.prog 18 #[.slice A l.length c, .int .i64 last] w fun e w' => REnds w (pick (decide (betE l last = 0)) (loL l (last.toNat + 1))) (pick (decide (betE l last = 0)) (hiL l (last.toNat + 1))) (betE l last) e w' := by
  obtain ⟨i0, hi0, hz0, hz1, hz2⟩ := info_parts info3
  have hR := inR_known w
  have hm' := hm
  unfold maxLen at hm
  by_cases h60 : 60 < l.length
  · have hE : betE l last = 2 := by simp [betE, h60]
    rw [hE, show decide ((2 : Int) = 0) = false from rfl, pick_f, pick_f]
    have h60z : (60 : Int) < (l.length : Int) := by omega
    obtain ⟨z0, z1, z2, zf⟩ := three_cells hR.row
    have f0 := zf 0
    have f1 := zf 1
    have f2 := zf 2
    have HT := Lib.hid (And.intro (three_set hR.row (.slice none 0 0) (.slice none 0 0) (.int .i64 2)) (hR.rends 2))
    clear hE hR h zf
    go_enter Try.func18, Try.ntmps18
    go_upto_region 1 with fail
    generalize w.alloc (.cells #[.slice none 0 0, .slice none 0 0, .int .i64 0] 31) = w1 at *
    go_wp2
    obtain ⟨⟨q0, q1, q2⟩, HF⟩ := HT.out
    exact bodyPost_ret (v := .agg #[.slice none 0 0, .slice none 0 0, .int .i64 2]) (by simp [results, Try.results18, go_sem, q0, q1, q2]) rfl HF
  have h60z : ¬ (60 : Int) < (l.length : Int) := by omega
  cases hw : withinB last 0 120 with
  | false =>
    have hE : betE l last = 1 := by simp [betE, h60, hw]
    rw [hE, show decide ((1 : Int) = 0) = false from rfl, pick_f, pick_f]
    obtain ⟨z0, z1, z2, zf⟩ := three_cells hR.row
    have f0 := zf 0
    have f1 := zf 1
    have f2 := zf 2
    have HT := Lib.hid (And.intro (three_set hR.row (.slice none 0 0) (.slice none 0 0) (.int .i64 1)) (hR.rends 1))
    clear hE hR h zf
    go_enter Try.func18, Try.ntmps18
    go_upto_region 1 with fail
    generalize w.alloc (.cells #[.slice none 0 0, .slice none 0 0, .int .i64 0] 31) = w1 at *
    go_wp2_with (go_at_call 77; refine (in_any _ _ _ _).mono ?_; rw [hw]; rintro e w' ⟨rfl, rfl⟩)
    obtain ⟨⟨q0, q1, q2⟩, HF⟩ := HT.out
    exact bodyPost_ret (v := .agg #[.slice none 0 0, .slice none 0 0, .int .i64 1]) (by simp [results, Try.results18, go_sem, q0, q1, q2]) rfl HF
  | true =>
  have hlast : 0 ≤ last ∧ last ≤ 120 := by unfold withinB at hw; simpa using hw
  obtain ⟨m, rfl⟩ : ∃ m : Nat, last = (m : Int) := ⟨last.toNat, by omega⟩
  have hm120 : m ≤ 120 := by omega
  have hE1 : anyWrong m l = true → betE l m = 1 := fun ha => by simp [betE, h60, hw, ha]
  have hE2 : anyWrong m l = false → betE l m = if clashB (hiL l (m + 1)) (loL l (m + 1)) then 9 else 0 := fun ha => by simp [betE, h60, hw, ha]
  have hrd := h.ext hR.bl
  rw [Int.toNat_natCast]
  have HE := Lib.hid (And.intro hE1 hE2)
  clear hE1 hE2 h hlast
  go_enter Try.func18, Try.ntmps18
  go_upto_region 1 with fail
  generalize w.alloc (.cells #[.slice none 0 0, .slice none 0 0, .int .i64 0] 31) = w1 at *
  go_upto_region 5 with (go_at_call 77; refine (in_any _ _ _ _).mono ?_; rw [hw]; rintro e w' ⟨rfl, rfl⟩)
  go_wp2
  go_loopg [5] l.length (fun gg i wr => ∃ t : Nat, t ≤ l.length ∧ l.length - t ≤ gg ∧ i = .int .i64 t ∧ Aside (Below w1.heap.size w1 wr) ∧ Aside (∀ j, j < t → wrongB m (nthS l j) = false))
  case atStart => exact ⟨0, Nat.zero_le _, by omega, rfl, Below.refl _ _, fun j hj => absurd hj (Nat.not_lt_zero _)⟩
  case round =>
    obtain ⟨t, ht, hg, rfl, hb, hA⟩ := hrel
    by_cases hlt : t < l.length
    · have hltz : (t : Int) < (l.length : Int) := by omega
      obtain ⟨b, off, rfl, lb, hcs⟩ := hrd (by omega)
      obtain ⟨k1, k2, k3⟩ := hcs t hlt
      obtain ⟨rc, rf⟩ := bcell hb.out
      replace k1 := (rc _ _ lb).trans k1
      replace k2 := (rc _ _ lb).trans k2
      replace k3 := (rc _ _ lb).trans k3
      have hR' := hR.ext hb.out
      have hsz := hb.out.size
      have lb' : b < wr.heap.size := by omega
      clear hcs hrd rc rf
      have hq : wrongB m (nthS l t) = (!withinB (nthS l t).step 0 m || decide ((nthS l t).lo < 0) || decide ((nthS l t).hi < (nthS l t).lo) || decide (1073741824 < (nthS l t).hi)) := rfl
      generalize hsv : nthS l t = s at *
      obtain ⟨p, lo, hi⟩ := s
      dsimp only at k1 k2 k3 hq
      have HA := Lib.hid (And.intro hA.out (And.intro hb.out (And.intro hsv hR')))
      clear hA hb hsv hR'
      cases hp : withinB p 0 m with
      | false =>
        have HQ := Lib.hid (show wrongB m ⟨p, lo, hi⟩ = true by rw [hq, hp]; rfl)
        have HW := Lib.hid (anyWrong_hit hlt (by rw [HA.out.2.2.1]; exact HQ.out) HA.out.1)
        clear hq
        go_wp2
        refine wp_region_ext (by kernel_rfl) (by kernel_rfl) ?_
        intro ι _ X hX hC
        have rX := fun k => (bcell (hX k)).1
        repeat (first | go_big_quiet_skip | (go_big_quiet_want; go_big_quiet_op; first | go_big_quiet_on | (apply Exists.intro; refine ⟨fun _ => ?_, ?_⟩; (focus (go_at_call 77; exact Calls.ext_same (in_any _ _ _ _))); go_big_quiet_on)))
        refine wpQuiet_nil ?_
        intro w1 hb1
        clear rX hX hC
        have hR2 := HA.out.2.2.2.ext hb1
        obtain ⟨z0, z1, z2, zf⟩ := three_cells hR2.row
        have f0 := zf 0
        have f1 := zf 1
        have f2 := zf 2
        have HT := Lib.hid (And.intro (three_set hR2.row (.slice none 0 0) (.slice none 0 0) (.int .i64 1)) (hR2.rends 1))
        clear hR2 zf hb1
        go_wp2
        obtain ⟨⟨q0, q1, q2⟩, HF⟩ := HT.out
        exact bodyPost_ret (v := .agg #[.slice none 0 0, .slice none 0 0, .int .i64 1]) (by simp [results, Try.results18, go_sem, q0, q1, q2]) rfl (rends_err (HE.out.1 HW.out) (by omega) HF)
      | true =>
        by_cases h1 : lo < 0
        · have HQ := Lib.hid (show wrongB m ⟨p, lo, hi⟩ = true by rw [hq, hp, decide_eq_true h1]; rfl)
          have HW := Lib.hid (anyWrong_hit hlt (by rw [HA.out.2.2.1]; exact HQ.out) HA.out.1)
          clear hq
          go_wp2
          refine wp_region_ext (by kernel_rfl) (by kernel_rfl) ?_
          intro ι _ X hX hC
          have rX := fun k => (bcell (hX k)).1
          repeat (first | go_big_quiet_skip | (go_big_quiet_want; go_big_quiet_op; first | go_big_quiet_on | (apply Exists.intro; refine ⟨fun _ => ?_, ?_⟩; (focus (go_at_call 77; exact Calls.ext_same (in_any _ _ _ _))); go_big_quiet_on)))
          refine wpQuiet_nil ?_
          intro w1 hb1
          clear rX hX hC
          have hR2 := HA.out.2.2.2.ext hb1
          obtain ⟨z0, z1, z2, zf⟩ := three_cells hR2.row
          have f0 := zf 0
          have f1 := zf 1
          have f2 := zf 2
          have HT := Lib.hid (And.intro (three_set hR2.row (.slice none 0 0) (.slice none 0 0) (.int .i64 1)) (hR2.rends 1))
          clear hR2 zf hb1
          go_wp2
          obtain ⟨⟨q0, q1, q2⟩, HF⟩ := HT.out
          exact bodyPost_ret (v := .agg #[.slice none 0 0, .slice none 0 0, .int .i64 1]) (by simp [results, Try.results18, go_sem, q0, q1, q2]) rfl (rends_err (HE.out.1 HW.out) (by omega) HF)
        · by_cases h2 : hi < lo
          · have HQ := Lib.hid (show wrongB m ⟨p, lo, hi⟩ = true by rw [hq, hp, decide_eq_true h2]; simp)
            have HW := Lib.hid (anyWrong_hit hlt (by rw [HA.out.2.2.1]; exact HQ.out) HA.out.1)
            clear hq
            go_wp2
            refine wp_region_ext (by kernel_rfl) (by kernel_rfl) ?_
            intro ι _ X hX hC
            have rX := fun k => (bcell (hX k)).1
            have d1 : ¬ lo < 0 := by omega
            repeat (first | go_big_quiet_skip | (go_big_quiet_want; go_big_quiet_op; first | go_big_quiet_on | (apply Exists.intro; refine ⟨fun _ => ?_, ?_⟩; (focus (go_at_call 77; exact Calls.ext_same (in_any _ _ _ _))); go_big_quiet_on)))
            refine wpQuiet_nil ?_
            intro w1 hb1
            clear rX hX hC
            have hR2 := HA.out.2.2.2.ext hb1
            obtain ⟨z0, z1, z2, zf⟩ := three_cells hR2.row
            have f0 := zf 0
            have f1 := zf 1
            have f2 := zf 2
            have HT := Lib.hid (And.intro (three_set hR2.row (.slice none 0 0) (.slice none 0 0) (.int .i64 1)) (hR2.rends 1))
            clear hR2 zf hb1
            go_wp2
            obtain ⟨⟨q0, q1, q2⟩, HF⟩ := HT.out
            exact bodyPost_ret (v := .agg #[.slice none 0 0, .slice none 0 0, .int .i64 1]) (by simp [results, Try.results18, go_sem, q0, q1, q2]) rfl (rends_err (HE.out.1 HW.out) (by omega) HF)
          · by_cases h3 : 1073741824 < hi
            · have HQ := Lib.hid (show wrongB m ⟨p, lo, hi⟩ = true by rw [hq, hp, decide_eq_true h3]; simp)
              have HW := Lib.hid (anyWrong_hit hlt (by rw [HA.out.2.2.1]; exact HQ.out) HA.out.1)
              clear hq
              go_wp2
              refine wp_region_ext (by kernel_rfl) (by kernel_rfl) ?_
              intro ι _ X hX hC
              have rX := fun k => (bcell (hX k)).1
              have d1 : ¬ lo < 0 := by omega
              have d2 : ¬ hi < lo := by omega
              repeat (first | go_big_quiet_skip | (go_big_quiet_want; go_big_quiet_op; first | go_big_quiet_on | (apply Exists.intro; refine ⟨fun _ => ?_, ?_⟩; (focus (go_at_call 77; exact Calls.ext_same (in_any _ _ _ _))); go_big_quiet_on)))
              refine wpQuiet_nil ?_
              intro w1 hb1
              clear rX hX hC
              have hR2 := HA.out.2.2.2.ext hb1
              obtain ⟨z0, z1, z2, zf⟩ := three_cells hR2.row
              have f0 := zf 0
              have f1 := zf 1
              have f2 := zf 2
              have HT := Lib.hid (And.intro (three_set hR2.row (.slice none 0 0) (.slice none 0 0) (.int .i64 1)) (hR2.rends 1))
              clear hR2 zf hb1
              go_wp2
              obtain ⟨⟨q0, q1, q2⟩, HF⟩ := HT.out
              exact bodyPost_ret (v := .agg #[.slice none 0 0, .slice none 0 0, .int .i64 1]) (by simp [results, Try.results18, go_sem, q0, q1, q2]) rfl (rends_err (HE.out.1 HW.out) (by omega) HF)
            · have HQ := Lib.hid (show wrongB m ⟨p, lo, hi⟩ = false by rw [hq, hp, decide_eq_false h1, decide_eq_false h2, decide_eq_false h3]; rfl)
              clear hq
              go_wp2
              refine wp_region_ext (by kernel_rfl) (by kernel_rfl) ?_
              intro ι _ X hX hC
              have rX := fun k => (bcell (hX k)).1
              have d1 : ¬ lo < 0 := by omega
              have d2 : ¬ hi < lo := by omega
              repeat (first | go_big_quiet_skip | (go_big_quiet_want; go_big_quiet_op; first | go_big_quiet_on | (apply Exists.intro; refine ⟨fun _ => ?_, ?_⟩; (focus (go_at_call 77; exact Calls.ext_same (in_any _ _ _ _))); go_big_quiet_on)))
              refine wpQuiet_nil ?_
              intro w1 hb1
              clear rX hX hC
              have HB := Lib.hid (HA.out.2.1.trans (hb1.mono HA.out.2.1.size))
              clear hb1
              go_wp2
              go_roundg (l.length - (t + 1))
              case measure => omega
              case rel => exact ⟨t + 1, by omega, by omega, by go_num, HB.out, (show Aside _ from fun j hj => by
                by_cases e : j = t
                · subst e; rw [HA.out.2.2.1]; exact HQ.out
                · exact HA.out.1 j (by omega))⟩
    · have hltz : ¬ (t : Int) < (l.length : Int) := by omega
      obtain rfl : t = l.length := by omega
      have hW := anyWrong_miss hA.out
      have hEb := HE.out.2 hW
      have hbd : ∀ j, j < l.length → 0 ≤ (nthS l j).lo ∧ (nthS l j).lo ≤ 1073741824 := fun j hj => by
        have := hA.out j hj
        unfold wrongB at this
        simp only [Bool.or_eq_false_iff, decide_eq_false_iff_not] at this
        omega
      have hR' := hR.ext hb.out
      have hrd' := hrd.ext hb.out
      have HX := Lib.hid (And.intro hEb (And.intro hbd (And.intro hR' hrd')))
      clear hW hEb hbd hR' hrd' hA hb hR hrd HE
      go_upto_region 11 with fail
      have hO := outs2_start wr
      have hK : BtR w w1 (wr.alloc (.cells #[.slice none 0 0, .slice none 0 0, .int .i64 0] 31)) wr.heap.size A l :=
        ⟨HX.out.2.2.1.ext ((Below.refl _ wr).alloc (Nat.le_refl _) _), HX.out.2.2.2.below ((Below.refl _ wr).alloc (Nat.le_refl _) _) (Nat.le_refl _), HX.out.2.2.1.lt⟩
      generalize wr.alloc (.cells #[.slice none 0 0, .slice none 0 0, .int .i64 0] 31) = w2 at *
      generalize hgg : wr.heap.size = G at *
      have HX2 := Lib.hid (And.intro HX.out.1 HX.out.2.1)
      clear HX hgg
      have HO := Lib.hid (And.intro hO hK)
      clear hO hK
      go_wp2
      go_loopg [7] (m + 1) (fun gk s7 wr => ∃ t : Nat, t ≤ m + 1 ∧ m + 1 - t ≤ gk ∧ s7 = .int .i64 t ∧ ∃ A0 k0 A1 k1, Outs2 w2 wr G (.slice A0 t k0) (.slice A1 t k1) (tab t fun i => loTo l i l.length) (tab t fun i => hiTo l i l.length) ∧ (∀ j : Nat, j < t → ¬ hiTo l j l.length < loTo l j l.length))
      case atStart => exact ⟨0, Nat.zero_le _, by omega, rfl, none, 0, none, 0, HO.out.1, fun j hj => absurd hj (Nat.not_lt_zero _)⟩
      case round =>
        obtain ⟨t, ht, hgk, rfl, A0, k0, A1, k1, hO, hN⟩ := hrel
        have hK := HO.out.2.later hO.bl
        by_cases hlt : t < m + 1
        · have hltz : (t : Int) ≤ (m : Int) := by omega
          have HR := Lib.hid (And.intro hO (And.intro hK hN))
          clear hO hK hN
          go_wp2
          go_loopg [8, 9, 10] l.length (fun gj s8 s9 s10 wq => ∃ k : Nat, k ≤ l.length ∧ l.length - k ≤ gj ∧ s10 = .int .i64 k ∧ s8 = .int .i64 (loTo l t k) ∧ s9 = .int .i64 (hiTo l t k) ∧ Aside (Below wr.heap.size wr wq))
          case atStart => exact ⟨0, Nat.zero_le _, by omega, rfl, rfl, rfl, Below.refl _ _⟩
          case round =>
            obtain ⟨k, hk, hgj, rfl, rfl, rfl, hb⟩ := hrel
            by_cases hkl : k < l.length
            · have hklz : (k : Int) < (l.length : Int) := by omega
              obtain ⟨b, off, rfl, lb, hcs⟩ := HR.out.2.1.rd (by omega)
              obtain ⟨e1, e2, e3⟩ := hcs k hkl
              have hbl : b < _ := Nat.lt_trans lb HR.out.1.lt
              obtain ⟨rc, rf⟩ := bcell hb.out
              replace e1 := (rc _ _ hbl).trans e1
              replace e2 := (rc _ _ hbl).trans e2
              replace e3 := (rc _ _ hbl).trans e3
              clear hcs rc rf hbl lb
              have hs1 : loTo l t (k + 1) = if (nthS l k).step ≤ t then max (loTo l t k) (nthS l k).lo else loTo l t k := rfl
              have hs2 : hiTo l t (k + 1) = if t ≤ (nthS l k).step then min (hiTo l t k) (nthS l k).hi else hiTo l t k := rfl
              generalize nthS l k = s at *
              obtain ⟨p, lo, hi⟩ := s
              dsimp only at e1 e2 e3 hs1 hs2
              have HB := Lib.hid hb.out
              clear hb
              rcases (show (p ≤ t ∧ t ≤ p) ∨ (p ≤ t ∧ ¬ t ≤ p) ∨ (¬ p ≤ t ∧ t ≤ p) by omega) with ⟨hq1, hq2⟩ | ⟨hq1, hq2⟩ | ⟨hq1, hq2⟩
              all_goals
                simp only [hq1, hq2, if_true, if_false] at hs1 hs2
                have HS := Lib.hid (And.intro hs1 hs2)
                clear hs1 hs2
                generalize loTo l t k = M at *
                generalize hiTo l t k = N at *
                go_wp2
                all_goals
                  go_roundg (l.length - (k + 1))
                  case measure => omega
                  case rel => exact ⟨k + 1, by omega, by omega, by go_num, by rw [HS.out.1]; first | done | exact int_eq (by omega), by rw [HS.out.2]; first | done | exact int_eq (by omega), HB.out⟩
            · have hklz : ¬ (k : Int) < (l.length : Int) := by omega
              obtain rfl : k = l.length := by omega
              have hO2 := HR.out.1.later hb.out
              have hK2 := HR.out.2.1.later (hb.out.mono (Nat.le_of_lt HR.out.1.lt))
              obtain ⟨z0, z1, z2, zf⟩ := three_cells hK2.res.row
              have y0 := hO2.c0
              have y1 := hO2.c1
              have yf0 := hO2.fr 0
              have yf1 := hO2.fr 1
              by_cases hq : hiTo l t l.length < loTo l t l.length
              · have hc := clash_hit (n := m + 1) hlt hq (fun j hj => by have := HR.out.2.2 j hj; omega)
                have f0 := zf 0
                have f1 := zf 1
                have f2 := zf 2
                have HT := Lib.hid (And.intro (three_set hK2.res.row (.slice none 0 0) (.slice none 0 0) (.int .i64 9)) (And.intro (hK2.res.rends 9) (show betE l m = 9 by rw [HX2.out.1, hc]; rfl)))
                clear hO2 hK2 zf hb hc y0 y1 yf0 yf1
                generalize loTo l t l.length = M at *
                generalize hiTo l t l.length = N at *
                go_wp2
                obtain ⟨⟨q0, q1, q2⟩, HF, hE9⟩ := HT.out
                exact bodyPost_ret (v := .agg #[.slice none 0 0, .slice none 0 0, .int .i64 9]) (by simp [results, Try.results18, go_sem, q0, q1, q2]) rfl (rends_err hE9 (by omega) HF)
              · have HQ := Lib.hid (And.intro hq (And.intro hO2 hK2))
                clear hO2 hK2 zf hb z0 z1 z2
                generalize hgM : loTo l t l.length = M at *
                generalize hgN : hiTo l t l.length = N at *
                have HM := Lib.hid (And.intro hgM hgN)
                clear hgM hgN
                have hOW := HQ.out.2.1.later ((Below.refl _ wr).alloc (Nat.le_refl _) (.cells #[.int .i64 M] 3))
                have hown := hOW.own0
                have hnew := World.news_of_block (cs := #[.int .i64 M]) (t := 3) (fr := (0, 0)) (heap_alloc_new wr (.cells #[.int .i64 M] 3))
                unfold Own at hown
                rw [tab_length] at hown
                have hsz : G + 1 ≤ (wr.alloc (.cells #[.int .i64 M] 3)).heap.size := hOW.lt
                have HB := Lib.hid (And.intro hOW (And.intro hnew (And.intro hown hsz)))
                clear hOW hnew hown hsz
                go_upto_region 26 with (at_builtin; refine wpList_append_own_at _ rfl _ _ 24 rfl (G + 1) 3 i0 (.int .i64 0) 1 8 Try.underlying24 hi0 hz0 hz1 hz2 rfl (by decide) (.slice A0 t k0) t _ rfl HB.out.2.2.1 ⟨wr.heap.size, 0, none⟩ 1 1 [.int .i64 M] rfl (by simp) HB.out.2.1 (by simp [Value.oneCell']) (by unfold maxLen; omega) (by omega) HB.out.2.2.2 ?_; intro v' w9 hown1 hgrow _ hv; have hpush := HB.out.1.push0 (nv := v') (x := M) hgrow (by rw [tab_length]; exact hown1) hv; obtain ⟨c2G, _, _, f2G, _, _, _⟩ := HB.out.1.app0 hgrow; have fG := f2G 0; obtain ⟨⟨A', c', rfl⟩, _⟩ := hpush.slices (n := t + 1) (m := t) (by simp [tab_length]) (tab_length _ _); have HP := Lib.hid hpush; clear hpush hown1 hgrow f2G hv)
                generalize w9.setCell ⟨G, 0, none⟩ (.slice A' (t + 1) c') = wa at *
                clear y0 y1 yf0 yf1 c2G fG
                have y1 := HP.out.c1
                have hOW := HP.out.later ((Below.refl _ wa).alloc (Nat.le_refl _) (.cells #[.int .i64 N] 3))
                have hown := hOW.own1
                have hnew := World.news_of_block (cs := #[.int .i64 N]) (t := 3) (fr := (0, 0)) (heap_alloc_new wa (.cells #[.int .i64 N] 3))
                unfold Own at hown
                rw [tab_length] at hown
                have hsz : G + 1 ≤ (wa.alloc (.cells #[.int .i64 N] 3)).heap.size := hOW.lt
                have HB := Lib.hid (And.intro hOW (And.intro hnew (And.intro hown hsz)))
                clear hOW hnew hown hsz
                go_wp2_with (at_builtin; refine wpList_append_own_at _ rfl _ _ 24 rfl (G + 1) 3 i0 (.int .i64 0) 1 8 Try.underlying24 hi0 hz0 hz1 hz2 rfl (by decide) (.slice A1 t k1) t _ rfl HB.out.2.2.1 ⟨wa.heap.size, 0, none⟩ 1 1 [.int .i64 N] rfl (by simp) HB.out.2.1 (by simp [Value.oneCell']) (by unfold maxLen; omega) (by omega) HB.out.2.2.2 ?_; intro v' wb hown1 hgrow _ hv; have hpush := HB.out.1.push1 (nv := v') (x := N) hgrow (by rw [tab_length]; exact hown1) hv; obtain ⟨_, c3G, _, f2G, _, _, _⟩ := HB.out.1.app1 hgrow; have fG := f2G 1; obtain ⟨_, ⟨A2', c2', rfl⟩⟩ := hpush.slices (n := t + 1) (m := t + 1) (by simp [tab_length]) (by simp [tab_length]); have HP2 := Lib.hid hpush; clear hpush hown1 hgrow f2G hv)
                go_roundg (m + 1 - (t + 1))
                case measure => omega
                case rel => exact ⟨t + 1, by omega, by omega, by go_num, _, _, _, _, by simp only [tab_succ, HM.out.1, HM.out.2]; exact HP2.out, fun j hj => by
                  by_cases e : j = t
                  · subst e; rw [HM.out.1, HM.out.2]; have := HQ.out.1; omega
                  · have := HR.out.2.2 j (by omega); omega⟩
        · have hltz : ¬ (t : Int) ≤ (m : Int) := by omega
          obtain rfl : t = m + 1 := by omega
          have hc := clash_miss (l := l) (n := m + 1) (fun j hj => by have := hN j hj; omega)
          obtain ⟨z0, z1, z2, zf⟩ := three_cells hK.res.row
          have f0 := zf 0
          have f1 := zf 1
          have f2 := zf 2
          have y0 := hO.c0
          have y1 := hO.c1
          have y2 := hO.c2
          have HT := Lib.hid (And.intro (three_set hK.res.row (.slice A0 (m + 1) k0) (.slice A1 (m + 1) k1) (.int .i64 0)) (And.intro (hO.ends hK.res hK.hG) (show betE l m = 0 by rw [HX2.out.1, hc]; rfl)))
          clear hO hK hN zf hc
          go_wp2
          obtain ⟨⟨q0, q1, q2⟩, HF, hE0⟩ := HT.out
          exact bodyPost_ret (v := .agg #[.slice A0 (m + 1) k0, .slice A1 (m + 1) k1, .int .i64 0]) (by simp [results, Try.results18, go_sem, q0, q1, q2]) rfl (rends_ok hE0 HF)
end Go.Proofs.Ytknkneccnhgjmaa
namespace Go.Proofs.Ytknkneccnhgjmaa
open Go.RowKit Go.Shelf

theorem rd_of_block {w : World} {g : Nat} {xs : List Int} {ty : TypeId} (h : w.heap[g]? = some (.cells (xs.map (Value.int .i64)).toArray ty (0, 0))) : Rd w w.heap.size (some ⟨g, 0, none⟩) xs := fun _ =>
  ⟨g, 0, rfl, (Array.getElem?_eq_some_iff.1 h).1, fun i hi => by
    rw [Nat.zero_add, cell_of_row w g i _ _ _ h]
    simpa using nth_map hi⟩

theorem curve_any (A : Option Addr) (n c : Nat) (w : World) : Calls Try.prog 66 #[.slice A n c] w fun e w' => e = .returned (.agg #[.slice A n c]) ∧ Below w.heap.size w w' := by
  have hb : Below w.heap.size w (w.alloc (.cells #[.slice A n c] 26)) := (Below.refl _ w).alloc (Nat.le_refl _) _
  go_enter Try.func66, Try.ntmps66
  go_wp2
  exact bodyPost_ret (v := .agg #[.slice A n c]) (by simp [results, Try.results66, go_sem]) rfl ⟨rfl, hb⟩

/-- The world in which curve is called by such an example. -/
def wEx (w : World) (xs : List Int) : World := (w.alloc (.cells #[.slice none 0 0] 26)).alloc (.cells (xs.map (Value.int .i64)).toArray 3)
theorem wEx_known (w : World) (xs : List Int) : Rd (wEx w xs) (wEx w xs).heap.size (some ⟨w.heap.size + 1, 0, none⟩) xs ∧ Below w.heap.size w (wEx w xs) ∧ (wEx w xs).cell? ⟨w.heap.size, 0, none⟩ = some (.slice none 0 0) ∧ (wEx w xs).frozen? ⟨w.heap.size, 0, none⟩ = false ∧ (wEx w xs).heap.size = w.heap.size + 1 + 1 := by
  refine ⟨rd_of_block (ty := 3) ?_, ((Below.refl _ w).alloc (Nat.le_refl _) _).alloc (by simp) _, by simp [wEx, go_sem], by simp [wEx, go_sem], by simp [wEx]⟩
  have := heap_alloc_new (w.alloc (.cells #[.slice none 0 0] 26)) (.cells (xs.map (Value.int .i64)).toArray 3)
  have hs1 : (w.alloc (.cells #[.slice none 0 0] 26)).heap.size = w.heap.size + 1 := by simp
  rwa [hs1] at this

theorem ex_fin {w w1 : World} {xs : List Int} (hb : Below (wEx w xs).heap.size (wEx w xs) w1) (n : Nat) (hn : n = xs.length) :
    (w1.setCell ⟨w.heap.size, 0, none⟩ (.slice (some ⟨w.heap.size + 1, 0, none⟩) n n)).cell? ⟨w.heap.size, 0, none⟩ = some (.slice (some ⟨w.heap.size + 1, 0, none⟩) n n) ∧
    RCurve w xs (.returned (.agg #[.slice (some ⟨w.heap.size + 1, 0, none⟩) n n])) (w1.setCell ⟨w.heap.size, 0, none⟩ (.slice (some ⟨w.heap.size + 1, 0, none⟩) n n)) := by
  obtain ⟨hrd, hb0, hc, hf, hs⟩ := wEx_known w xs
  subst hn
  refine ⟨World.cell?_setCell_same' _ _ _ (by rw [hb.cell (p := ⟨w.heap.size, 0, none⟩) (show w.heap.size < _ by omega), hc]; rfl), ?_⟩
  exact ⟨_, _, rfl, by rw [World.size_setCell]; exact (hrd.ext hb).setCell (fun ad e => by cases e; show w.heap.size + 1 ≠ w.heap.size; omega) _, fun ad e => by cases e; show w.heap.size ≤ w.heap.size + 1; omega, (hb0.trans (hb.mono (by omega))).setCell (by exact Nat.le_refl _) _⟩

def exLimit : List Int := [0, 4, 6, 7, 8]
def exService : List Int := [0, 0, 1, 3, 6]
def exCourse : List Int := [0, 3, 5, 7, 8]

set_option maxHeartbeats 800000 in
theorem Limit_any (w : World) : Calls Try.prog 64 #[] w fun e w' => RCurve w exLimit e w' := by
  have hc := curve_any (some ⟨w.heap.size + 1, 0, none⟩) 5 5 (wEx w exLimit)
  have HC := Lib.hid hc
  obtain ⟨_, _, h1, h2, hs⟩ := wEx_known w exLimit
  clear hc
  go_enter Try.func64, Try.ntmps64
  go_wp2_with (go_at_call 66; refine HC.out.mono ?_; rintro e w1 ⟨rfl, hb⟩; have c1 := (hb.cell (p := ⟨w.heap.size, 0, none⟩) (by rw [hs]; show w.heap.size < _; omega)).trans h1; have f1 := (hb.frozen (p := ⟨w.heap.size, 0, none⟩) (by rw [hs]; show w.heap.size < _; omega)).trans h2; have HF := Lib.hid (ex_fin hb 5 rfl); clear hb)
  obtain ⟨q1, HF⟩ := HF.out
  exact bodyPost_ret (v := .agg #[.slice (some ⟨w.heap.size + 1, 0, none⟩) 5 5]) (by simp [results, Try.results64, go_sem, q1]) rfl HF
set_option maxHeartbeats 800000 in
theorem Service_any (w : World) : Calls Try.prog 65 #[] w fun e w' => RCurve w exService e w' := by
  have hc := curve_any (some ⟨w.heap.size + 1, 0, none⟩) 5 5 (wEx w exService)
  have HC := Lib.hid hc
  obtain ⟨_, _, h1, h2, hs⟩ := wEx_known w exService
  clear hc
  go_enter Try.func65, Try.ntmps65
  go_wp2_with (go_at_call 66; refine HC.out.mono ?_; rintro e w1 ⟨rfl, hb⟩; have c1 := (hb.cell (p := ⟨w.heap.size, 0, none⟩) (by rw [hs]; show w.heap.size < _; omega)).trans h1; have f1 := (hb.frozen (p := ⟨w.heap.size, 0, none⟩) (by rw [hs]; show w.heap.size < _; omega)).trans h2; have HF := Lib.hid (ex_fin hb 5 rfl); clear hb)
  obtain ⟨q1, HF⟩ := HF.out
  exact bodyPost_ret (v := .agg #[.slice (some ⟨w.heap.size + 1, 0, none⟩) 5 5]) (by simp [results, Try.results65, go_sem, q1]) rfl HF
set_option maxHeartbeats 800000 in
theorem Course_any (w : World) : Calls Try.prog 67 #[] w fun e w' => RCurve w exCourse e w' := by
  have hc := curve_any (some ⟨w.heap.size + 1, 0, none⟩) 5 5 (wEx w exCourse)
  have HC := Lib.hid hc
  obtain ⟨_, _, h1, h2, hs⟩ := wEx_known w exCourse
  clear hc
  go_enter Try.func67, Try.ntmps67
  go_wp2_with (go_at_call 66; refine HC.out.mono ?_; rintro e w1 ⟨rfl, hb⟩; have c1 := (hb.cell (p := ⟨w.heap.size, 0, none⟩) (by rw [hs]; show w.heap.size < _; omega)).trans h1; have f1 := (hb.frozen (p := ⟨w.heap.size, 0, none⟩) (by rw [hs]; show w.heap.size < _; omega)).trans h2; have HF := Lib.hid (ex_fin hb 5 rfl); clear hb)
  obtain ⟨q1, HF⟩ := HF.out
  exact bodyPost_ret (v := .agg #[.slice (some ⟨w.heap.size + 1, 0, none⟩) 5 5]) (by simp [results, Try.results67, go_sem, q1]) rfl HF
end Go.Proofs.Ytknkneccnhgjmaa
namespace Go.Proofs.Ytknkneccnhgjmaa
open Go.RowKit Go.Shelf

def exJoin : List Int := [0, 0, 1, 3, 6]
def exLead : List Int := [5, 6, 7, 8, 8]
def exFive : List Int := [0, 5, 5, 7, 8]
def exOpen : List Int := [0, 4, 9, 9, 20]
def exClosed : List Int := [0, 4, 8, 9, 13]
def exServ : List Int := [0, 2, 5, 9, 14]
def exLeft : List Int := [0, 0, 0, 2, 6]
def exStaffs : List Sv := [⟨2, 3, 5⟩, ⟨3, 1, 4⟩]
def exLo : List Int := [0, 0, 3, 3, 3]
def exHi : List Int := [4, 4, 4, 4, 1073741824]

theorem Join_ex (A1 A2 : Option Addr) (c1 c2 : Nat) (w : World) (r1 : Rd w w.heap.size A1 exLimit) (r2 : Rd w w.heap.size A2 exService) :
    Calls Try.prog 22 #[.agg #[.slice A1 exLimit.length c1], .agg #[.slice A2 exService.length c2]] w fun e w' => RCE w exJoin 0 e w' := by
  have h := Join_any A1 A2 c1 c2 exLimit exService w r1 r2 (by decide) (by decide)
  rwa [show pick (ok2 exLimit exService && fitB (joinL exLimit exService)) (joinL exLimit exService) = exJoin by decide, show (if ok2 exLimit exService then rngB (joinL exLimit exService) else 1) = 0 by decide] at h
theorem Lead_ex (A1 A2 : Option Addr) (c1 c2 : Nat) (w : World) (r1 : Rd w w.heap.size A1 exLimit) (r2 : Rd w w.heap.size A2 exService) :
    Calls Try.prog 21 #[.agg #[.slice A1 exLimit.length c1], .agg #[.slice A2 exService.length c2]] w fun e w' => RCE w exLead 0 e w' := by
  have h := Lead_any A1 A2 c1 c2 exLimit exService w r1 r2 (by decide) (by decide)
  rwa [show pick (ok2 exLimit exService) (leadL exLimit exService) = exLead by decide, show errB (ok2 exLimit exService) = 0 by decide] at h
theorem Obeys_ex (A1 A2 : Option Addr) (c1 c2 : Nat) (w : World) (r1 : Rd w w.heap.size A1 exFive) (r2 : Rd w w.heap.size A2 exLimit) :
    Calls Try.prog 57 #[.agg #[.slice A1 exFive.length c1], .agg #[.slice A2 exLimit.length c2]] w fun e w' => e = .returned (.tuple #[.agg #[.int .i64 0, .int .i64 1], .bool false, .int .i64 0]) ∧ Below w.heap.size w w' := by
  have h := Obeys_any A1 A2 c1 c2 exFive exLimit w r1 r2 (by decide) (by decide)
  rwa [show pickI (ok2 exFive exLimit) (brkLo (brk exFive exLimit)) = 0 by decide, show pickI (ok2 exFive exLimit) (brkHi (brk exFive exLimit)) = 1 by decide, show (ok2 exFive exLimit && obeysB exFive exLimit) = false by decide, show errB (ok2 exFive exLimit) = 0 by decide] at h
theorem Close_ex (A1 : Option Addr) (c1 : Nat) (w : World) (r1 : Rd w w.heap.size A1 exOpen) :
    Calls Try.prog 59 #[.agg #[.slice A1 exOpen.length c1]] w fun e w' => RCE w exClosed 0 e w' := by
  have h := Close_any A1 c1 exOpen w r1 (by decide)
  rwa [show pick (validB exOpen) (closedL exOpen) = exClosed by decide, show errB (validB exOpen) = 0 by decide] at h
theorem Least_ex (A1 A2 : Option Addr) (c1 c2 : Nat) (w : World) (r1 : Rd w w.heap.size A1 exCourse) (r2 : Rd w w.heap.size A2 exService) :
    Calls Try.prog 38 #[.agg #[.slice A1 exCourse.length c1], .agg #[.slice A2 exService.length c2]] w fun e w' => RCE w exJoin 0 e w' := by
  have h := Least_any A1 A2 c1 c2 exCourse exService w r1 r2 (by decide) (by decide)
  rwa [show pick (ok2 exCourse exService) (leastL exCourse exService) = exJoin by decide, show errB (ok2 exCourse exService) = 0 by decide] at h
theorem Stored_ex (A1 A2 : Option Addr) (c1 c2 : Nat) (w : World) (r1 : Rd w w.heap.size A1 exCourse) (r2 : Rd w w.heap.size A2 exJoin) :
    Calls Try.prog 43 #[.agg #[.slice A1 exCourse.length c1], .agg #[.slice A2 exJoin.length c2]] w fun e w' => e = .returned (.tuple #[.int .i64 4, .int .i64 2, .int .i64 0]) ∧ Below w.heap.size w w' := by
  have h := Stored_any A1 A2 c1 c2 exCourse exJoin w r1 r2 (by decide) (by decide)
  rwa [show (if flowE exCourse exJoin = 0 then liesAt exCourse exJoin (mostAt exCourse exJoin) else 0) = 4 by decide, show (if flowE exCourse exJoin = 0 then ((mostAt exCourse exJoin : Nat) : Int) else 0) = 2 by decide, show flowE exCourse exJoin = 0 by decide] at h
theorem Waited_ex (A1 A2 : Option Addr) (c1 c2 : Nat) (w : World) (r1 : Rd w w.heap.size A1 exCourse) (r2 : Rd w w.heap.size A2 exJoin) :
    Calls Try.prog 45 #[.agg #[.slice A1 exCourse.length c1], .agg #[.slice A2 exJoin.length c2]] w fun e w' => e = .returned (.tuple #[.int .i64 2, .int .i64 0]) ∧ Below w.heap.size w w' := by
  have h := Waited_any A1 A2 c1 c2 exCourse exJoin w r1 r2 (by decide) (by decide)
  rwa [show (if flowE exCourse exJoin = 0 then waitI exCourse exJoin else 0) = 2 by decide, show flowE exCourse exJoin = 0 by decide] at h
theorem Backlog_ex (A1 A2 : Option Addr) (c1 c2 : Nat) (w : World) (r1 : Rd w w.heap.size A1 exLimit) (r2 : Rd w w.heap.size A2 exService) :
    Calls Try.prog 29 #[.agg #[.slice A1 exLimit.length c1], .agg #[.slice A2 exService.length c2]] w fun e w' => RSurge w 5 exLimit exJoin 2 0 e w' := by
  have h := Backlog_any A1 A2 c1 c2 exLimit exService w r1 r2 (by decide) (by decide)
  rwa [show pickI (ok2 exLimit exService) (backTop exLimit exService).2 = 5 by decide, show pick (ok2 exLimit exService) (closedL exLimit) = exLimit by decide, show pick (ok2 exLimit exService) (backOut exLimit exService) = exJoin by decide, show pickI (ok2 exLimit exService) ((backTop exLimit exService).1 : Nat) = 2 by decide, show errB (ok2 exLimit exService) = 0 by decide] at h
theorem Delay_ex (A1 A2 : Option Addr) (c1 c2 : Nat) (w : World) (r1 : Rd w w.heap.size A1 exLimit) (r2 : Rd w w.heap.size A2 exService) :
    Calls Try.prog 30 #[.agg #[.slice A1 exLimit.length c1], .agg #[.slice A2 exService.length c2]] w fun e w' => e = .returned (.tuple #[.int .i64 3, .int .i64 0]) ∧ Below w.heap.size w w' := by
  have h := Delay_any A1 A2 c1 c2 exLimit exService w r1 r2 (by decide) (by decide)
  rwa [show (if ok2 exLimit exService then delayI exLimit exService else 0) = 3 by decide, show errB (ok2 exLimit exService) = 0 by decide] at h
theorem Left_ex (A1 A2 : Option Addr) (c1 c2 : Nat) (w : World) (r1 : Rd w w.heap.size A1 exServ) (r2 : Rd w w.heap.size A2 exLimit) :
    Calls Try.prog 31 #[.agg #[.slice A1 exServ.length c1], .agg #[.slice A2 exLimit.length c2]] w fun e w' => RCE w exLeft 0 e w' := by
  have h := Left_any A1 A2 c1 c2 exServ exLimit w r1 r2 (by decide) (by decide)
  rwa [show pick (ok2 exServ exLimit) (leftL exServ exLimit) = exLeft by decide, show errB (ok2 exServ exLimit) = 0 by decide] at h
theorem Between_ex (A : Option Addr) (c : Nat) (w : World) (h : RdS w w.heap.size A exStaffs) :
    Calls Try.prog 17 #[.slice A exStaffs.length c, .int .i64 4] w fun e w' => RTwo w exLo exHi 0 e w' := by
  have h := Between_any A c exStaffs 4 w h (by decide)
  rwa [show pick (decide (betE exStaffs 4 = 0)) (loL exStaffs ((4 : Int).toNat + 1)) = exLo by decide, show pick (decide (betE exStaffs 4 = 0)) (hiL exStaffs ((4 : Int).toNat + 1)) = exHi by decide, show betE exStaffs 4 = 0 by decide] at h
theorem checkB_ex (A1 A2 A3 A4 : Option Addr) (c1 c2 c3 c4 : Nat) (w : World) (r1 : Rd w w.heap.size A1 exLimit) (r2 : Rd w w.heap.size A2 exService) (r3 : Rd w w.heap.size A3 exLimit) (r4 : Rd w w.heap.size A4 exJoin) :
    Calls Try.prog 34 #[.agg #[.slice A1 exLimit.length c1], .agg #[.slice A2 exService.length c2], .int .i64 5, .agg #[.slice A3 exLimit.length c3, .slice A4 exJoin.length c4, .int .i64 2]] w fun e w' => e = .returned (.int .i64 0) ∧ Below w.heap.size w w' := by
  have h := rcheckB_any A1 A2 A3 A4 c1 c2 c3 c4 exLimit exService exLimit exJoin 5 2 w r1 r2 r3 r4 (by decide) (by decide) (by decide) (by decide)
  rwa [show cbE exLimit exService 5 exLimit exJoin 2 = 0 by decide] at h
theorem Same_ex (A1 A2 : Option Addr) (c1 c2 : Nat) (xs : List Int) (w : World) (r1 : Rd w w.heap.size A1 xs) (r2 : Rd w w.heap.size A2 xs) (hm : xs.length ≤ 1000) :
    Calls Try.prog 19 #[.agg #[.slice A1 xs.length c1], .agg #[.slice A2 xs.length c2]] w fun e w' => e = .returned (.bool true) ∧ Below w.heap.size w w' := by
  have h := Same_any A1 A2 c1 c2 xs xs w r1 r2 hm hm
  rwa [show decide (xs = xs) = true from decide_eq_true rfl] at h
end Go.Proofs.Ytknkneccnhgjmaa
namespace Go.Proofs.Ytknkneccnhgjmaa
open Go.RowKit Go.Shelf

/-- What is known of a law's world: cells, and slices that read as lists. -/
structure Ex (w W : World) (M : List (Addr × Value)) (R : List (Option Addr × List Int)) : Prop where
  bl : Below w.heap.size w W
  cells : ∀ p ∈ M, p.1.block < W.heap.size ∧ W.cell? p.1 = some p.2
  rds : ∀ p ∈ R, Rd W W.heap.size p.1 p.2
theorem Ex.ext {w W W' : World} {M : List (Addr × Value)} {R : List (Option Addr × List Int)} (h : Ex w W M R) (hb : Below W.heap.size W W') : Ex w W' M R :=
  ⟨h.bl.trans (hb.mono h.bl.size), fun p hp => ⟨Nat.lt_of_lt_of_le (h.cells p hp).1 hb.size, (hb.cell (h.cells p hp).1).trans (h.cells p hp).2⟩, fun p hp => (h.rds p hp).ext hb⟩
theorem Ex.addRd {w W : World} {M : List (Addr × Value)} {R : List (Option Addr × List Int)} (h : Ex w W M R) {A : Option Addr} {xs : List Int} (hr : Rd W W.heap.size A xs) : Ex w W M ((A, xs) :: R) :=
  ⟨h.bl, h.cells, fun p hp => by
    rcases List.mem_cons.1 hp with rfl | hp
    · exact hr
    · exact h.rds p hp⟩
theorem Ex.one {w W : World} {M : List (Addr × Value)} {R : List (Option Addr × List Int)} (h : Ex w W M R) (u : Value) (ty : TypeId) : Ex w (W.alloc (.cells #[u] ty)) ((⟨W.heap.size, 0, none⟩, u) :: M) R := by
  have h' := h.ext ((Below.refl _ W).alloc (Nat.le_refl _) (.cells #[u] ty))
  refine ⟨h'.bl, fun p hp => ?_, h'.rds⟩
  rcases List.mem_cons.1 hp with rfl | hp
  · exact ⟨by simp, by rw [cell_of_row _ _ _ _ _ _ (heap_alloc_new W _)]; rfl⟩
  · exact h'.cells p hp
theorem Ex.box {w W : World} {M : List (Addr × Value)} {R : List (Option Addr × List Int)} (h : Ex w W M R) {A : Option Addr} {xs : List Int} {c : Nat} (hr : Rd W W.heap.size A xs) :
    Ex w (W.alloc (.cells #[.slice A xs.length c] 26)) ((⟨W.heap.size, 0, none⟩, .slice A xs.length c) :: M) ((A, xs) :: R) := (h.addRd hr).one _ 26
theorem Ex.two {w W : World} {M : List (Addr × Value)} {R : List (Option Addr × List Int)} (h : Ex w W M R) (u v : Value) (ty : TypeId) :
    Ex w (W.alloc (.cells #[u, v] ty)) ((⟨W.heap.size, 0, none⟩, u) :: (⟨W.heap.size, 1, none⟩, v) :: M) R := by
  have h' := h.ext ((Below.refl _ W).alloc (Nat.le_refl _) (.cells #[u, v] ty))
  obtain ⟨z0, z1, _, _⟩ := two_cells (heap_alloc_new W (.cells #[u, v] ty))
  refine ⟨h'.bl, fun p hp => ?_, h'.rds⟩
  rcases List.mem_cons.1 hp with rfl | hp
  · exact ⟨by simp, z0⟩
  · rcases List.mem_cons.1 hp with rfl | hp
    · exact ⟨by simp, z1⟩
    · exact h'.cells p hp
theorem Ex.three {w W : World} {M : List (Addr × Value)} {R : List (Option Addr × List Int)} (h : Ex w W M R) (u v x : Value) (ty : TypeId) :
    Ex w (W.alloc (.cells #[u, v, x] ty)) ((⟨W.heap.size, 0, none⟩, u) :: (⟨W.heap.size, 1, none⟩, v) :: (⟨W.heap.size, 2, none⟩, x) :: M) R := by
  have h' := h.ext ((Below.refl _ W).alloc (Nat.le_refl _) (.cells #[u, v, x] ty))
  obtain ⟨z0, z1, z2, _⟩ := three_cells (heap_alloc_new W (.cells #[u, v, x] ty))
  refine ⟨h'.bl, fun p hp => ?_, h'.rds⟩
  rcases List.mem_cons.1 hp with rfl | hp
  · exact ⟨by simp, z0⟩
  · rcases List.mem_cons.1 hp with rfl | hp
    · exact ⟨by simp, z1⟩
    · rcases List.mem_cons.1 hp with rfl | hp
      · exact ⟨by simp, z2⟩
      · exact h'.cells p hp

theorem rdS_ex (w : World) : RdS (w.alloc (.cells #[.int .i64 2, .int .i64 3, .int .i64 5, .int .i64 3, .int .i64 1, .int .i64 4] 86)) (w.alloc (.cells #[.int .i64 2, .int .i64 3, .int .i64 5, .int .i64 3, .int .i64 1, .int .i64 4] 86)).heap.size (some ⟨w.heap.size, 0, none⟩) exStaffs := fun _ => by
  have h := heap_alloc_new w (.cells #[.int .i64 2, .int .i64 3, .int .i64 5, .int .i64 3, .int .i64 1, .int .i64 4] 86)
  refine ⟨w.heap.size, 0, rfl, by simp, fun i hi => ?_⟩
  have hi2 : i < 2 := hi
  rcases (show i = 0 ∨ i = 1 by omega) with rfl | rfl
  · exact ⟨by rw [cell_of_row _ _ _ _ _ _ h]; rfl, by rw [cell_of_row _ _ _ _ _ _ h]; rfl, by rw [cell_of_row _ _ _ _ _ _ h]; rfl⟩
  · exact ⟨by rw [cell_of_row _ _ _ _ _ _ h]; rfl, by rw [cell_of_row _ _ _ _ _ _ h]; rfl, by rw [cell_of_row _ _ _ _ _ _ h]; rfl⟩

set_option maxRecDepth 100000 in
set_option maxHeartbeats 16000000 in
theorem sanity_any (w : World) : Calls Try.prog 16 #[] w fun e w' => e = .returned (.bool true) ∧ Below w.heap.size w w' := by
  have hK : Ex w w [] [] := ⟨Below.refl _ _, fun p hp => (by cases hp), fun p hp => (by cases hp)⟩
  have K := Lib.hid hK
  clear hK
  go_enter Try.func16, Try.ntmps16
  go_upto_region 2 with (first
    | (go_at_call 64; refine (Limit_any _).mono ?_; rintro e x10 ⟨B10, d10, rfl, hr, hf, hb⟩; have K10 := Lib.hid (And.intro (K.out.ext hb) hr); clear hr hf hb)
    | (go_at_call 65; refine (Service_any _).mono ?_; rintro e x11 ⟨B11, d11, rfl, hr, hf, hb⟩; have K11 := Lib.hid (And.intro (K10.out.1.ext hb) (And.intro (K10.out.2.ext hb) hr)); clear hr hf hb)
    | (go_at_call 22; refine (Join_ex B10 B11 d10 d11 _ K11.out.2.1 K11.out.2.2).mono ?_; rintro e y1 ⟨A1, c1, rfl, hr, hf, hb⟩; have K19 := Lib.hid (And.intro (K11.out.1.ext hb) hr); clear hr hf hb))
  have hK := K19.out.1.box (A := A1) (c := c1) K19.out.2
  generalize hgW : y1.alloc (.cells #[.slice A1 exJoin.length c1] 26) = W1 at *
  generalize hgg : y1.heap.size = g1 at *
  clear K K10 K11 K19 hgW hgg
  have K := Lib.hid hK
  clear hK
  go_upto_region 3 with (first
    | (go_at_call 64; refine (Limit_any _).mono ?_; rintro e x20 ⟨B20, d20, rfl, hr, hf, hb⟩; have K20 := Lib.hid (And.intro (K.out.ext hb) hr); clear hr hf hb)
    | (go_at_call 65; refine (Service_any _).mono ?_; rintro e x21 ⟨B21, d21, rfl, hr, hf, hb⟩; have K21 := Lib.hid (And.intro (K20.out.1.ext hb) (And.intro (K20.out.2.ext hb) hr)); clear hr hf hb)
    | (go_at_call 21; refine (Lead_ex B20 B21 d20 d21 _ K21.out.2.1 K21.out.2.2).mono ?_; rintro e y2 ⟨A2, c2, rfl, hr, hf, hb⟩; have K29 := Lib.hid (And.intro (K21.out.1.ext hb) hr); clear hr hf hb))
  have hK := K29.out.1.box (A := A2) (c := c2) K29.out.2
  generalize hgW : y2.alloc (.cells #[.slice A2 exLead.length c2] 26) = W2 at *
  generalize hgg : y2.heap.size = g2 at *
  clear K K20 K21 K29 hgW hgg
  have K := Lib.hid hK
  clear hK
  go_upto_region 4 with (first
    | (go_at_call 66; refine (curve_any _ _ _ _).mono ?_; rintro e x30 ⟨rfl, hb⟩; have K30 := Lib.hid (And.intro ((K.out.ext ((Below.refl _ W2).alloc (Nat.le_refl _) (.cells (exFive.map (Value.int .i64)).toArray 3))).ext hb) ((rd_of_block (ty := 3) (heap_alloc_new W2 (.cells (exFive.map (Value.int .i64)).toArray 3))).ext hb)); clear hb)
    | (go_at_call 64; refine (Limit_any _).mono ?_; rintro e x31 ⟨B31, d31, rfl, hr, hf, hb⟩; have K31 := Lib.hid (And.intro (K30.out.1.ext hb) (And.intro (K30.out.2.ext hb) hr)); clear hr hf hb)
    | (go_at_call 57; refine (Obeys_ex (some ⟨W2.heap.size, 0, none⟩) B31 5 d31 _ K31.out.2.1 K31.out.2.2).mono ?_; rintro e y3 ⟨rfl, hb⟩; have K39 := Lib.hid (K31.out.1.ext hb); clear hb))
  have hK := K39.out.two (.int .i64 0) (.int .i64 1) 73
  generalize hgW : y3.alloc (.cells #[.int .i64 0, .int .i64 1] 73) = W3 at *
  generalize hgg : y3.heap.size = g3 at *
  clear K K30 K31 K39 hgW hgg
  have K := Lib.hid hK
  clear hK
  go_upto_region 5 with (first
    | (go_at_call 66; refine (curve_any _ _ _ _).mono ?_; rintro e x40 ⟨rfl, hb⟩; have K40 := Lib.hid (And.intro ((K.out.ext ((Below.refl _ W3).alloc (Nat.le_refl _) (.cells (exOpen.map (Value.int .i64)).toArray 3))).ext hb) ((rd_of_block (ty := 3) (heap_alloc_new W3 (.cells (exOpen.map (Value.int .i64)).toArray 3))).ext hb)); clear hb)
    | (go_at_call 59; refine (Close_ex (some ⟨W3.heap.size, 0, none⟩) 5 _ K40.out.2).mono ?_; rintro e y4 ⟨A4, c4, rfl, hr, hf, hb⟩; have K49 := Lib.hid (And.intro (K40.out.1.ext hb) hr); clear hr hf hb))
  have hK := K49.out.1.box (A := A4) (c := c4) K49.out.2
  generalize hgW : y4.alloc (.cells #[.slice A4 exClosed.length c4] 26) = W4 at *
  generalize hgg : y4.heap.size = g4 at *
  clear K K40 K49 hgW hgg
  have K := Lib.hid hK
  clear hK
  go_upto_region 6 with (first
    | (go_at_call 67; refine (Course_any _).mono ?_; rintro e x50 ⟨B50, d50, rfl, hr, hf, hb⟩; have K50 := Lib.hid (And.intro (K.out.ext hb) hr); clear hr hf hb)
    | (go_at_call 65; refine (Service_any _).mono ?_; rintro e x51 ⟨B51, d51, rfl, hr, hf, hb⟩; have K51 := Lib.hid (And.intro (K50.out.1.ext hb) (And.intro (K50.out.2.ext hb) hr)); clear hr hf hb)
    | (go_at_call 38; refine (Least_ex B50 B51 d50 d51 _ K51.out.2.1 K51.out.2.2).mono ?_; rintro e y5 ⟨A5, c5, rfl, hr, hf, hb⟩; have K59 := Lib.hid (And.intro (K51.out.1.ext hb) hr); clear hr hf hb))
  have hK := K59.out.1.box (A := A5) (c := c5) K59.out.2
  generalize hgW : y5.alloc (.cells #[.slice A5 exJoin.length c5] 26) = W5 at *
  generalize hgg : y5.heap.size = g5 at *
  clear K K50 K51 K59 hgW hgg
  have K := Lib.hid hK
  clear hK
  obtain ⟨l5, h10⟩ := (K.out.cells (⟨g5, 0, none⟩, .slice A5 exJoin.length c5) (List.mem_of_getElem? (i := 0) rfl))
  have H10 := Lib.hid (K.out.rds (A5, exJoin) (List.mem_of_getElem? (i := 0) rfl))
  dsimp only at l5 h10
  go_region_held3 (fun W => W.cell? ⟨g5, 0, none⟩ = some (.slice A5 exJoin.length c5)) (first | exact h10 | exact s10 | exact t10) (first
    | (go_at_call 67; refine (Course_any _).mono ?_; rintro e x60 ⟨B60, d60, rfl, hr, hf, hb⟩; have K60 := Lib.hid (And.intro (K.out.ext (((Below.refl _ W5).drew).trans hb)) (And.intro hr (H10.out.ext (((Below.refl _ W5).drew).trans hb)))); have s10 := ((((Below.refl _ W5).drew).trans hb).cell (p := ⟨g5, 0, none⟩) l5).trans h10; have m5 := Nat.lt_of_lt_of_le l5 (((Below.refl _ W5).drew).trans hb).size; clear hr hf hb)
    | (go_at_call 43; refine (Stored_ex B60 A5 d60 c5 _ K60.out.2.1 K60.out.2.2).mono ?_; rintro e y6 ⟨rfl, hb⟩; have K69 := Lib.hid (K60.out.1.ext hb); have t10 := (hb.cell (p := ⟨g5, 0, none⟩) m5).trans s10; clear hb))
  clear K K60 H10 l5 h10 s10 m5 t10
  have K := K69
  clear K69
  go_upto_region 7 with fail
  obtain ⟨l5, h10⟩ := (K.out.cells (⟨g5, 0, none⟩, .slice A5 exJoin.length c5) (List.mem_of_getElem? (i := 0) rfl))
  have H10 := Lib.hid (K.out.rds (A5, exJoin) (List.mem_of_getElem? (i := 0) rfl))
  dsimp only at l5 h10
  go_region_held3 (fun W => W.cell? ⟨g5, 0, none⟩ = some (.slice A5 exJoin.length c5)) (first | exact h10 | exact s10 | exact t10) (first
    | (go_at_call 67; refine (Course_any _).mono ?_; rintro e x70 ⟨B70, d70, rfl, hr, hf, hb⟩; have K70 := Lib.hid (And.intro (K.out.ext (((Below.refl _ y6).drew).trans hb)) (And.intro hr (H10.out.ext (((Below.refl _ y6).drew).trans hb)))); have s10 := ((((Below.refl _ y6).drew).trans hb).cell (p := ⟨g5, 0, none⟩) l5).trans h10; have m5 := Nat.lt_of_lt_of_le l5 (((Below.refl _ y6).drew).trans hb).size; clear hr hf hb)
    | (go_at_call 45; refine (Waited_ex B70 A5 d70 c5 _ K70.out.2.1 K70.out.2.2).mono ?_; rintro e y7 ⟨rfl, hb⟩; have K79 := Lib.hid (K70.out.1.ext hb); have t10 := (hb.cell (p := ⟨g5, 0, none⟩) m5).trans s10; clear hb))
  clear K K70 H10 l5 h10 s10 m5 t10
  have K := K79
  clear K79
  go_upto_region 8 with fail
  go_upto_region 9 with (first
    | (go_at_call 64; refine (Limit_any _).mono ?_; rintro e x80 ⟨B80, d80, rfl, hr, hf, hb⟩; have K80 := Lib.hid (And.intro (K.out.ext hb) hr); clear hr hf hb)
    | (go_at_call 65; refine (Service_any _).mono ?_; rintro e x81 ⟨B81, d81, rfl, hr, hf, hb⟩; have K81 := Lib.hid (And.intro (K80.out.1.ext hb) (And.intro (K80.out.2.ext hb) hr)); clear hr hf hb)
    | (go_at_call 29; refine (Backlog_ex B80 B81 d80 d81 _ K81.out.2.1 K81.out.2.2).mono ?_; rintro e y8 ⟨A8, c8, A8', c8', rfl, hr, hr', hf, hf', hb⟩; have K89 := Lib.hid (And.intro (K81.out.1.ext hb) (And.intro hr hr')); clear hr hr' hf hf' hb))
  have hK := ((K89.out.1.addRd K89.out.2.1).addRd K89.out.2.2).three (.slice A8 exLimit.length c8) (.slice A8' exJoin.length c8') (.int .i64 2) 45
  generalize hgW : y8.alloc (.cells #[.slice A8 exLimit.length c8, .slice A8' exJoin.length c8', .int .i64 2] 45) = W8 at *
  generalize hgg : y8.heap.size = g8 at *
  clear K K80 K81 K89 hgW hgg
  have K := Lib.hid hK
  clear hK
  go_upto_region 10 with (first
    | (go_at_call 64; refine (Limit_any _).mono ?_; rintro e x90 ⟨B90, d90, rfl, hr, hf, hb⟩; have K90 := Lib.hid (And.intro (K.out.ext hb) hr); clear hr hf hb)
    | (go_at_call 65; refine (Service_any _).mono ?_; rintro e x91 ⟨B91, d91, rfl, hr, hf, hb⟩; have K91 := Lib.hid (And.intro (K90.out.1.ext hb) (And.intro (K90.out.2.ext hb) hr)); clear hr hf hb)
    | (go_at_call 30; refine (Delay_ex B90 B91 d90 d91 _ K91.out.2.1 K91.out.2.2).mono ?_; rintro e y9 ⟨rfl, hb⟩; have K99 := Lib.hid (K91.out.1.ext hb); clear hb))
  clear K K90 K91
  have K := K99
  clear K99
  go_upto_region 11 with (first
    | (go_at_call 66; refine (curve_any _ _ _ _).mono ?_; rintro e x100 ⟨rfl, hb⟩; have K100 := Lib.hid (And.intro ((K.out.ext ((Below.refl _ y9).alloc (Nat.le_refl _) (.cells (exServ.map (Value.int .i64)).toArray 3))).ext hb) ((rd_of_block (ty := 3) (heap_alloc_new y9 (.cells (exServ.map (Value.int .i64)).toArray 3))).ext hb)); clear hb)
    | (go_at_call 64; refine (Limit_any _).mono ?_; rintro e x101 ⟨B101, d101, rfl, hr, hf, hb⟩; have K101 := Lib.hid (And.intro (K100.out.1.ext hb) (And.intro (K100.out.2.ext hb) hr)); clear hr hf hb)
    | (go_at_call 31; refine (Left_ex (some ⟨y9.heap.size, 0, none⟩) B101 5 d101 _ K101.out.2.1 K101.out.2.2).mono ?_; rintro e y10 ⟨A10, c10, rfl, hr, hf, hb⟩; have K109 := Lib.hid (And.intro (K101.out.1.ext hb) hr); clear hr hf hb))
  have hK := K109.out.1.box (A := A10) (c := c10) K109.out.2
  generalize hgW : y10.alloc (.cells #[.slice A10 exLeft.length c10] 26) = W10 at *
  generalize hgg : y10.heap.size = g10 at *
  clear K K100 K101 K109 hgW hgg
  have K := Lib.hid hK
  clear hK
  go_upto_region 12 with (go_at_call 17; refine (Between_ex (some ⟨W10.heap.size, 0, none⟩) 2 _ (rdS_ex W10)).mono ?_; rintro e y11 ⟨A11, c11, A12, c12, rfl, hr, hr', hb⟩; have K119 := Lib.hid (And.intro ((K.out.ext ((Below.refl _ W10).alloc (Nat.le_refl _) _)).ext hb) (And.intro hr hr')); clear hr hr' hb)
  have hK := (K119.out.1.box (A := A11) (c := c11) K119.out.2.1).box (A := A12) (c := c12) (K119.out.2.2.ext ((Below.refl _ y11).alloc (Nat.le_refl _) _))
  rw [World.size_alloc] at hK
  generalize hgW : (y11.alloc (.cells #[.slice A11 exLo.length c11] 26)).alloc (.cells #[.slice A12 exHi.length c12] 26) = W11 at *
  generalize hgg : y11.heap.size = g11 at *
  clear K K119 hgW hgg
  have K := Lib.hid hK
  clear hK
  go_upto_region 14 with fail
  go_region_held3 (fun W => W.cell? ⟨g1, 0, none⟩ = some (.slice A1 exJoin.length c1) ∧ W.cell? ⟨g2, 0, none⟩ = some (.slice A2 exLead.length c2) ∧ W.cell? ⟨g3, 0, none⟩ = some (.int .i64 0) ∧ W.cell? ⟨g3, 1, none⟩ = some (.int .i64 1) ∧ W.cell? ⟨g4, 0, none⟩ = some (.slice A4 exClosed.length c4) ∧ W.cell? ⟨g5, 0, none⟩ = some (.slice A5 exJoin.length c5)) (first | exact ⟨(K14_7.out.1.cells (⟨g1, 0, none⟩, .slice A1 exJoin.length c1) (List.mem_of_getElem? (i := 11) rfl)).2, (K14_7.out.1.cells (⟨g2, 0, none⟩, .slice A2 exLead.length c2) (List.mem_of_getElem? (i := 10) rfl)).2, (K14_7.out.1.cells (⟨g3, 0, none⟩, .int .i64 0) (List.mem_of_getElem? (i := 8) rfl)).2, (K14_7.out.1.cells (⟨g3, 1, none⟩, .int .i64 1) (List.mem_of_getElem? (i := 9) rfl)).2, (K14_7.out.1.cells (⟨g4, 0, none⟩, .slice A4 exClosed.length c4) (List.mem_of_getElem? (i := 7) rfl)).2, (K14_7.out.1.cells (⟨g5, 0, none⟩, .slice A5 exJoin.length c5) (List.mem_of_getElem? (i := 6) rfl)).2⟩ | exact ⟨((K14_7.out.1.ext ((Below.refl _ _).alloc (Nat.le_refl _) _)).cells (⟨g1, 0, none⟩, .slice A1 exJoin.length c1) (List.mem_of_getElem? (i := 11) rfl)).2, ((K14_7.out.1.ext ((Below.refl _ _).alloc (Nat.le_refl _) _)).cells (⟨g2, 0, none⟩, .slice A2 exLead.length c2) (List.mem_of_getElem? (i := 10) rfl)).2, ((K14_7.out.1.ext ((Below.refl _ _).alloc (Nat.le_refl _) _)).cells (⟨g3, 0, none⟩, .int .i64 0) (List.mem_of_getElem? (i := 8) rfl)).2, ((K14_7.out.1.ext ((Below.refl _ _).alloc (Nat.le_refl _) _)).cells (⟨g3, 1, none⟩, .int .i64 1) (List.mem_of_getElem? (i := 9) rfl)).2, ((K14_7.out.1.ext ((Below.refl _ _).alloc (Nat.le_refl _) _)).cells (⟨g4, 0, none⟩, .slice A4 exClosed.length c4) (List.mem_of_getElem? (i := 7) rfl)).2, ((K14_7.out.1.ext ((Below.refl _ _).alloc (Nat.le_refl _) _)).cells (⟨g5, 0, none⟩, .slice A5 exJoin.length c5) (List.mem_of_getElem? (i := 6) rfl)).2⟩ | exact ⟨(K14_6.out.1.cells (⟨g1, 0, none⟩, .slice A1 exJoin.length c1) (List.mem_of_getElem? (i := 11) rfl)).2, (K14_6.out.1.cells (⟨g2, 0, none⟩, .slice A2 exLead.length c2) (List.mem_of_getElem? (i := 10) rfl)).2, (K14_6.out.1.cells (⟨g3, 0, none⟩, .int .i64 0) (List.mem_of_getElem? (i := 8) rfl)).2, (K14_6.out.1.cells (⟨g3, 1, none⟩, .int .i64 1) (List.mem_of_getElem? (i := 9) rfl)).2, (K14_6.out.1.cells (⟨g4, 0, none⟩, .slice A4 exClosed.length c4) (List.mem_of_getElem? (i := 7) rfl)).2, (K14_6.out.1.cells (⟨g5, 0, none⟩, .slice A5 exJoin.length c5) (List.mem_of_getElem? (i := 6) rfl)).2⟩ | exact ⟨((K14_6.out.1.ext ((Below.refl _ _).alloc (Nat.le_refl _) _)).cells (⟨g1, 0, none⟩, .slice A1 exJoin.length c1) (List.mem_of_getElem? (i := 11) rfl)).2, ((K14_6.out.1.ext ((Below.refl _ _).alloc (Nat.le_refl _) _)).cells (⟨g2, 0, none⟩, .slice A2 exLead.length c2) (List.mem_of_getElem? (i := 10) rfl)).2, ((K14_6.out.1.ext ((Below.refl _ _).alloc (Nat.le_refl _) _)).cells (⟨g3, 0, none⟩, .int .i64 0) (List.mem_of_getElem? (i := 8) rfl)).2, ((K14_6.out.1.ext ((Below.refl _ _).alloc (Nat.le_refl _) _)).cells (⟨g3, 1, none⟩, .int .i64 1) (List.mem_of_getElem? (i := 9) rfl)).2, ((K14_6.out.1.ext ((Below.refl _ _).alloc (Nat.le_refl _) _)).cells (⟨g4, 0, none⟩, .slice A4 exClosed.length c4) (List.mem_of_getElem? (i := 7) rfl)).2, ((K14_6.out.1.ext ((Below.refl _ _).alloc (Nat.le_refl _) _)).cells (⟨g5, 0, none⟩, .slice A5 exJoin.length c5) (List.mem_of_getElem? (i := 6) rfl)).2⟩ | exact ⟨(K14_5.out.1.cells (⟨g1, 0, none⟩, .slice A1 exJoin.length c1) (List.mem_of_getElem? (i := 11) rfl)).2, (K14_5.out.1.cells (⟨g2, 0, none⟩, .slice A2 exLead.length c2) (List.mem_of_getElem? (i := 10) rfl)).2, (K14_5.out.1.cells (⟨g3, 0, none⟩, .int .i64 0) (List.mem_of_getElem? (i := 8) rfl)).2, (K14_5.out.1.cells (⟨g3, 1, none⟩, .int .i64 1) (List.mem_of_getElem? (i := 9) rfl)).2, (K14_5.out.1.cells (⟨g4, 0, none⟩, .slice A4 exClosed.length c4) (List.mem_of_getElem? (i := 7) rfl)).2, (K14_5.out.1.cells (⟨g5, 0, none⟩, .slice A5 exJoin.length c5) (List.mem_of_getElem? (i := 6) rfl)).2⟩ | exact ⟨((K14_5.out.1.ext ((Below.refl _ _).alloc (Nat.le_refl _) _)).cells (⟨g1, 0, none⟩, .slice A1 exJoin.length c1) (List.mem_of_getElem? (i := 11) rfl)).2, ((K14_5.out.1.ext ((Below.refl _ _).alloc (Nat.le_refl _) _)).cells (⟨g2, 0, none⟩, .slice A2 exLead.length c2) (List.mem_of_getElem? (i := 10) rfl)).2, ((K14_5.out.1.ext ((Below.refl _ _).alloc (Nat.le_refl _) _)).cells (⟨g3, 0, none⟩, .int .i64 0) (List.mem_of_getElem? (i := 8) rfl)).2, ((K14_5.out.1.ext ((Below.refl _ _).alloc (Nat.le_refl _) _)).cells (⟨g3, 1, none⟩, .int .i64 1) (List.mem_of_getElem? (i := 9) rfl)).2, ((K14_5.out.1.ext ((Below.refl _ _).alloc (Nat.le_refl _) _)).cells (⟨g4, 0, none⟩, .slice A4 exClosed.length c4) (List.mem_of_getElem? (i := 7) rfl)).2, ((K14_5.out.1.ext ((Below.refl _ _).alloc (Nat.le_refl _) _)).cells (⟨g5, 0, none⟩, .slice A5 exJoin.length c5) (List.mem_of_getElem? (i := 6) rfl)).2⟩ | exact ⟨(K14_4.out.1.cells (⟨g1, 0, none⟩, .slice A1 exJoin.length c1) (List.mem_of_getElem? (i := 11) rfl)).2, (K14_4.out.1.cells (⟨g2, 0, none⟩, .slice A2 exLead.length c2) (List.mem_of_getElem? (i := 10) rfl)).2, (K14_4.out.1.cells (⟨g3, 0, none⟩, .int .i64 0) (List.mem_of_getElem? (i := 8) rfl)).2, (K14_4.out.1.cells (⟨g3, 1, none⟩, .int .i64 1) (List.mem_of_getElem? (i := 9) rfl)).2, (K14_4.out.1.cells (⟨g4, 0, none⟩, .slice A4 exClosed.length c4) (List.mem_of_getElem? (i := 7) rfl)).2, (K14_4.out.1.cells (⟨g5, 0, none⟩, .slice A5 exJoin.length c5) (List.mem_of_getElem? (i := 6) rfl)).2⟩ | exact ⟨((K14_4.out.1.ext ((Below.refl _ _).alloc (Nat.le_refl _) _)).cells (⟨g1, 0, none⟩, .slice A1 exJoin.length c1) (List.mem_of_getElem? (i := 11) rfl)).2, ((K14_4.out.1.ext ((Below.refl _ _).alloc (Nat.le_refl _) _)).cells (⟨g2, 0, none⟩, .slice A2 exLead.length c2) (List.mem_of_getElem? (i := 10) rfl)).2, ((K14_4.out.1.ext ((Below.refl _ _).alloc (Nat.le_refl _) _)).cells (⟨g3, 0, none⟩, .int .i64 0) (List.mem_of_getElem? (i := 8) rfl)).2, ((K14_4.out.1.ext ((Below.refl _ _).alloc (Nat.le_refl _) _)).cells (⟨g3, 1, none⟩, .int .i64 1) (List.mem_of_getElem? (i := 9) rfl)).2, ((K14_4.out.1.ext ((Below.refl _ _).alloc (Nat.le_refl _) _)).cells (⟨g4, 0, none⟩, .slice A4 exClosed.length c4) (List.mem_of_getElem? (i := 7) rfl)).2, ((K14_4.out.1.ext ((Below.refl _ _).alloc (Nat.le_refl _) _)).cells (⟨g5, 0, none⟩, .slice A5 exJoin.length c5) (List.mem_of_getElem? (i := 6) rfl)).2⟩ | exact ⟨(K14_3.out.1.cells (⟨g1, 0, none⟩, .slice A1 exJoin.length c1) (List.mem_of_getElem? (i := 11) rfl)).2, (K14_3.out.1.cells (⟨g2, 0, none⟩, .slice A2 exLead.length c2) (List.mem_of_getElem? (i := 10) rfl)).2, (K14_3.out.1.cells (⟨g3, 0, none⟩, .int .i64 0) (List.mem_of_getElem? (i := 8) rfl)).2, (K14_3.out.1.cells (⟨g3, 1, none⟩, .int .i64 1) (List.mem_of_getElem? (i := 9) rfl)).2, (K14_3.out.1.cells (⟨g4, 0, none⟩, .slice A4 exClosed.length c4) (List.mem_of_getElem? (i := 7) rfl)).2, (K14_3.out.1.cells (⟨g5, 0, none⟩, .slice A5 exJoin.length c5) (List.mem_of_getElem? (i := 6) rfl)).2⟩ | exact ⟨((K14_3.out.1.ext ((Below.refl _ _).alloc (Nat.le_refl _) _)).cells (⟨g1, 0, none⟩, .slice A1 exJoin.length c1) (List.mem_of_getElem? (i := 11) rfl)).2, ((K14_3.out.1.ext ((Below.refl _ _).alloc (Nat.le_refl _) _)).cells (⟨g2, 0, none⟩, .slice A2 exLead.length c2) (List.mem_of_getElem? (i := 10) rfl)).2, ((K14_3.out.1.ext ((Below.refl _ _).alloc (Nat.le_refl _) _)).cells (⟨g3, 0, none⟩, .int .i64 0) (List.mem_of_getElem? (i := 8) rfl)).2, ((K14_3.out.1.ext ((Below.refl _ _).alloc (Nat.le_refl _) _)).cells (⟨g3, 1, none⟩, .int .i64 1) (List.mem_of_getElem? (i := 9) rfl)).2, ((K14_3.out.1.ext ((Below.refl _ _).alloc (Nat.le_refl _) _)).cells (⟨g4, 0, none⟩, .slice A4 exClosed.length c4) (List.mem_of_getElem? (i := 7) rfl)).2, ((K14_3.out.1.ext ((Below.refl _ _).alloc (Nat.le_refl _) _)).cells (⟨g5, 0, none⟩, .slice A5 exJoin.length c5) (List.mem_of_getElem? (i := 6) rfl)).2⟩ | exact ⟨(K14_2.out.1.cells (⟨g1, 0, none⟩, .slice A1 exJoin.length c1) (List.mem_of_getElem? (i := 11) rfl)).2, (K14_2.out.1.cells (⟨g2, 0, none⟩, .slice A2 exLead.length c2) (List.mem_of_getElem? (i := 10) rfl)).2, (K14_2.out.1.cells (⟨g3, 0, none⟩, .int .i64 0) (List.mem_of_getElem? (i := 8) rfl)).2, (K14_2.out.1.cells (⟨g3, 1, none⟩, .int .i64 1) (List.mem_of_getElem? (i := 9) rfl)).2, (K14_2.out.1.cells (⟨g4, 0, none⟩, .slice A4 exClosed.length c4) (List.mem_of_getElem? (i := 7) rfl)).2, (K14_2.out.1.cells (⟨g5, 0, none⟩, .slice A5 exJoin.length c5) (List.mem_of_getElem? (i := 6) rfl)).2⟩ | exact ⟨((K14_2.out.1.ext ((Below.refl _ _).alloc (Nat.le_refl _) _)).cells (⟨g1, 0, none⟩, .slice A1 exJoin.length c1) (List.mem_of_getElem? (i := 11) rfl)).2, ((K14_2.out.1.ext ((Below.refl _ _).alloc (Nat.le_refl _) _)).cells (⟨g2, 0, none⟩, .slice A2 exLead.length c2) (List.mem_of_getElem? (i := 10) rfl)).2, ((K14_2.out.1.ext ((Below.refl _ _).alloc (Nat.le_refl _) _)).cells (⟨g3, 0, none⟩, .int .i64 0) (List.mem_of_getElem? (i := 8) rfl)).2, ((K14_2.out.1.ext ((Below.refl _ _).alloc (Nat.le_refl _) _)).cells (⟨g3, 1, none⟩, .int .i64 1) (List.mem_of_getElem? (i := 9) rfl)).2, ((K14_2.out.1.ext ((Below.refl _ _).alloc (Nat.le_refl _) _)).cells (⟨g4, 0, none⟩, .slice A4 exClosed.length c4) (List.mem_of_getElem? (i := 7) rfl)).2, ((K14_2.out.1.ext ((Below.refl _ _).alloc (Nat.le_refl _) _)).cells (⟨g5, 0, none⟩, .slice A5 exJoin.length c5) (List.mem_of_getElem? (i := 6) rfl)).2⟩ | exact ⟨(K14_1.out.1.cells (⟨g1, 0, none⟩, .slice A1 exJoin.length c1) (List.mem_of_getElem? (i := 11) rfl)).2, (K14_1.out.1.cells (⟨g2, 0, none⟩, .slice A2 exLead.length c2) (List.mem_of_getElem? (i := 10) rfl)).2, (K14_1.out.1.cells (⟨g3, 0, none⟩, .int .i64 0) (List.mem_of_getElem? (i := 8) rfl)).2, (K14_1.out.1.cells (⟨g3, 1, none⟩, .int .i64 1) (List.mem_of_getElem? (i := 9) rfl)).2, (K14_1.out.1.cells (⟨g4, 0, none⟩, .slice A4 exClosed.length c4) (List.mem_of_getElem? (i := 7) rfl)).2, (K14_1.out.1.cells (⟨g5, 0, none⟩, .slice A5 exJoin.length c5) (List.mem_of_getElem? (i := 6) rfl)).2⟩ | exact ⟨((K14_1.out.1.ext ((Below.refl _ _).alloc (Nat.le_refl _) _)).cells (⟨g1, 0, none⟩, .slice A1 exJoin.length c1) (List.mem_of_getElem? (i := 11) rfl)).2, ((K14_1.out.1.ext ((Below.refl _ _).alloc (Nat.le_refl _) _)).cells (⟨g2, 0, none⟩, .slice A2 exLead.length c2) (List.mem_of_getElem? (i := 10) rfl)).2, ((K14_1.out.1.ext ((Below.refl _ _).alloc (Nat.le_refl _) _)).cells (⟨g3, 0, none⟩, .int .i64 0) (List.mem_of_getElem? (i := 8) rfl)).2, ((K14_1.out.1.ext ((Below.refl _ _).alloc (Nat.le_refl _) _)).cells (⟨g3, 1, none⟩, .int .i64 1) (List.mem_of_getElem? (i := 9) rfl)).2, ((K14_1.out.1.ext ((Below.refl _ _).alloc (Nat.le_refl _) _)).cells (⟨g4, 0, none⟩, .slice A4 exClosed.length c4) (List.mem_of_getElem? (i := 7) rfl)).2, ((K14_1.out.1.ext ((Below.refl _ _).alloc (Nat.le_refl _) _)).cells (⟨g5, 0, none⟩, .slice A5 exJoin.length c5) (List.mem_of_getElem? (i := 6) rfl)).2⟩ | exact ⟨(K14_0.out.1.cells (⟨g1, 0, none⟩, .slice A1 exJoin.length c1) (List.mem_of_getElem? (i := 11) rfl)).2, (K14_0.out.1.cells (⟨g2, 0, none⟩, .slice A2 exLead.length c2) (List.mem_of_getElem? (i := 10) rfl)).2, (K14_0.out.1.cells (⟨g3, 0, none⟩, .int .i64 0) (List.mem_of_getElem? (i := 8) rfl)).2, (K14_0.out.1.cells (⟨g3, 1, none⟩, .int .i64 1) (List.mem_of_getElem? (i := 9) rfl)).2, (K14_0.out.1.cells (⟨g4, 0, none⟩, .slice A4 exClosed.length c4) (List.mem_of_getElem? (i := 7) rfl)).2, (K14_0.out.1.cells (⟨g5, 0, none⟩, .slice A5 exJoin.length c5) (List.mem_of_getElem? (i := 6) rfl)).2⟩ | exact ⟨((K14_0.out.1.ext ((Below.refl _ _).alloc (Nat.le_refl _) _)).cells (⟨g1, 0, none⟩, .slice A1 exJoin.length c1) (List.mem_of_getElem? (i := 11) rfl)).2, ((K14_0.out.1.ext ((Below.refl _ _).alloc (Nat.le_refl _) _)).cells (⟨g2, 0, none⟩, .slice A2 exLead.length c2) (List.mem_of_getElem? (i := 10) rfl)).2, ((K14_0.out.1.ext ((Below.refl _ _).alloc (Nat.le_refl _) _)).cells (⟨g3, 0, none⟩, .int .i64 0) (List.mem_of_getElem? (i := 8) rfl)).2, ((K14_0.out.1.ext ((Below.refl _ _).alloc (Nat.le_refl _) _)).cells (⟨g3, 1, none⟩, .int .i64 1) (List.mem_of_getElem? (i := 9) rfl)).2, ((K14_0.out.1.ext ((Below.refl _ _).alloc (Nat.le_refl _) _)).cells (⟨g4, 0, none⟩, .slice A4 exClosed.length c4) (List.mem_of_getElem? (i := 7) rfl)).2, ((K14_0.out.1.ext ((Below.refl _ _).alloc (Nat.le_refl _) _)).cells (⟨g5, 0, none⟩, .slice A5 exJoin.length c5) (List.mem_of_getElem? (i := 6) rfl)).2⟩ | exact ⟨(K.out.cells (⟨g1, 0, none⟩, .slice A1 exJoin.length c1) (List.mem_of_getElem? (i := 11) rfl)).2, (K.out.cells (⟨g2, 0, none⟩, .slice A2 exLead.length c2) (List.mem_of_getElem? (i := 10) rfl)).2, (K.out.cells (⟨g3, 0, none⟩, .int .i64 0) (List.mem_of_getElem? (i := 8) rfl)).2, (K.out.cells (⟨g3, 1, none⟩, .int .i64 1) (List.mem_of_getElem? (i := 9) rfl)).2, (K.out.cells (⟨g4, 0, none⟩, .slice A4 exClosed.length c4) (List.mem_of_getElem? (i := 7) rfl)).2, (K.out.cells (⟨g5, 0, none⟩, .slice A5 exJoin.length c5) (List.mem_of_getElem? (i := 6) rfl)).2⟩ | exact ⟨((K.out.ext ((Below.refl _ _).alloc (Nat.le_refl _) _)).cells (⟨g1, 0, none⟩, .slice A1 exJoin.length c1) (List.mem_of_getElem? (i := 11) rfl)).2, ((K.out.ext ((Below.refl _ _).alloc (Nat.le_refl _) _)).cells (⟨g2, 0, none⟩, .slice A2 exLead.length c2) (List.mem_of_getElem? (i := 10) rfl)).2, ((K.out.ext ((Below.refl _ _).alloc (Nat.le_refl _) _)).cells (⟨g3, 0, none⟩, .int .i64 0) (List.mem_of_getElem? (i := 8) rfl)).2, ((K.out.ext ((Below.refl _ _).alloc (Nat.le_refl _) _)).cells (⟨g3, 1, none⟩, .int .i64 1) (List.mem_of_getElem? (i := 9) rfl)).2, ((K.out.ext ((Below.refl _ _).alloc (Nat.le_refl _) _)).cells (⟨g4, 0, none⟩, .slice A4 exClosed.length c4) (List.mem_of_getElem? (i := 7) rfl)).2, ((K.out.ext ((Below.refl _ _).alloc (Nat.le_refl _) _)).cells (⟨g5, 0, none⟩, .slice A5 exJoin.length c5) (List.mem_of_getElem? (i := 6) rfl)).2⟩) (first
    | (go_at_call 19; refine (Same_ex A5 (some ⟨x14_5.heap.size, 0, none⟩) c5 5 exJoin _ (K14_6.out.1.rds (A5, exJoin) (List.mem_of_getElem? (i := 5) rfl)) K14_6.out.2 (by decide)).mono ?_; rintro e x14_7 ⟨rfl, hb⟩; have K14_7 := Lib.hid (And.intro (K14_6.out.1.ext hb) trivial); clear hb)
    | (go_at_call 66; refine (curve_any (some ⟨x14_5.heap.size, 0, none⟩) 5 5 (x14_5.alloc (.cells (exJoin.map (Value.int .i64)).toArray 3))).mono ?_; rintro e x14_6 ⟨rfl, hb⟩; have K14_6 := Lib.hid (And.intro ((K14_5.out.1.ext ((Below.refl _ x14_5).alloc (Nat.le_refl _) (.cells (exJoin.map (Value.int .i64)).toArray 3))).ext hb) ((rd_of_block (ty := 3) (heap_alloc_new x14_5 (.cells (exJoin.map (Value.int .i64)).toArray 3))).ext hb)); clear hb)
    | (go_at_call 19; refine (Same_ex A4 (some ⟨x14_3.heap.size, 0, none⟩) c4 5 exClosed _ (K14_4.out.1.rds (A4, exClosed) (List.mem_of_getElem? (i := 6) rfl)) K14_4.out.2 (by decide)).mono ?_; rintro e x14_5 ⟨rfl, hb⟩; have K14_5 := Lib.hid (And.intro (K14_4.out.1.ext hb) trivial); clear hb)
    | (go_at_call 66; refine (curve_any (some ⟨x14_3.heap.size, 0, none⟩) 5 5 (x14_3.alloc (.cells (exClosed.map (Value.int .i64)).toArray 3))).mono ?_; rintro e x14_4 ⟨rfl, hb⟩; have K14_4 := Lib.hid (And.intro ((K14_3.out.1.ext ((Below.refl _ x14_3).alloc (Nat.le_refl _) (.cells (exClosed.map (Value.int .i64)).toArray 3))).ext hb) ((rd_of_block (ty := 3) (heap_alloc_new x14_3 (.cells (exClosed.map (Value.int .i64)).toArray 3))).ext hb)); clear hb)
    | (go_at_call 19; refine (Same_ex A2 (some ⟨x14_1.heap.size, 0, none⟩) c2 5 exLead _ (K14_2.out.1.rds (A2, exLead) (List.mem_of_getElem? (i := 7) rfl)) K14_2.out.2 (by decide)).mono ?_; rintro e x14_3 ⟨rfl, hb⟩; have K14_3 := Lib.hid (And.intro (K14_2.out.1.ext hb) trivial); clear hb)
    | (go_at_call 66; refine (curve_any (some ⟨x14_1.heap.size, 0, none⟩) 5 5 (x14_1.alloc (.cells (exLead.map (Value.int .i64)).toArray 3))).mono ?_; rintro e x14_2 ⟨rfl, hb⟩; have K14_2 := Lib.hid (And.intro ((K14_1.out.1.ext ((Below.refl _ x14_1).alloc (Nat.le_refl _) (.cells (exLead.map (Value.int .i64)).toArray 3))).ext hb) ((rd_of_block (ty := 3) (heap_alloc_new x14_1 (.cells (exLead.map (Value.int .i64)).toArray 3))).ext hb)); clear hb)
    | (go_at_call 19; refine (Same_ex A1 B14_0 c1 d14_0 exJoin _ (K14_0.out.1.rds (A1, exJoin) (List.mem_of_getElem? (i := 8) rfl)) K14_0.out.2 (by decide)).mono ?_; rintro e x14_1 ⟨rfl, hb⟩; have K14_1 := Lib.hid (And.intro (K14_0.out.1.ext hb) trivial); clear hb)
    | (go_at_call 65; refine (Service_any _).mono ?_; rintro e x14_0 ⟨B14_0, d14_0, rfl, hr, hf, hb⟩; have K14_0 := Lib.hid (And.intro (K.out.ext ((Below.refl _ W11).drew.trans hb)) hr); clear hr hf hb))
  have hK := K14_7.out.1
  generalize hgW : x14_7 = y14 at *
  clear hgW
  clear K K14_0 K14_1 K14_2 K14_3 K14_4 K14_5 K14_6 K14_7 
  have K := Lib.hid hK
  clear hK
  go_upto_region 15 with fail
  go_region_held3 (fun W => W.cell? ⟨g8, 0, none⟩ = some (.slice A8 exLimit.length c8) ∧ W.cell? ⟨g8, 1, none⟩ = some (.slice A8' exJoin.length c8') ∧ W.cell? ⟨g8, 2, none⟩ = some (.int .i64 2)) (first | exact ⟨(K15_2.out.1.cells (⟨g8, 0, none⟩, .slice A8 exLimit.length c8) (List.mem_of_getElem? (i := 3) rfl)).2, (K15_2.out.1.cells (⟨g8, 1, none⟩, .slice A8' exJoin.length c8') (List.mem_of_getElem? (i := 4) rfl)).2, (K15_2.out.1.cells (⟨g8, 2, none⟩, .int .i64 2) (List.mem_of_getElem? (i := 5) rfl)).2⟩ | exact ⟨((K15_2.out.1.ext ((Below.refl _ _).alloc (Nat.le_refl _) _)).cells (⟨g8, 0, none⟩, .slice A8 exLimit.length c8) (List.mem_of_getElem? (i := 3) rfl)).2, ((K15_2.out.1.ext ((Below.refl _ _).alloc (Nat.le_refl _) _)).cells (⟨g8, 1, none⟩, .slice A8' exJoin.length c8') (List.mem_of_getElem? (i := 4) rfl)).2, ((K15_2.out.1.ext ((Below.refl _ _).alloc (Nat.le_refl _) _)).cells (⟨g8, 2, none⟩, .int .i64 2) (List.mem_of_getElem? (i := 5) rfl)).2⟩ | exact ⟨(K15_1.out.1.cells (⟨g8, 0, none⟩, .slice A8 exLimit.length c8) (List.mem_of_getElem? (i := 3) rfl)).2, (K15_1.out.1.cells (⟨g8, 1, none⟩, .slice A8' exJoin.length c8') (List.mem_of_getElem? (i := 4) rfl)).2, (K15_1.out.1.cells (⟨g8, 2, none⟩, .int .i64 2) (List.mem_of_getElem? (i := 5) rfl)).2⟩ | exact ⟨((K15_1.out.1.ext ((Below.refl _ _).alloc (Nat.le_refl _) _)).cells (⟨g8, 0, none⟩, .slice A8 exLimit.length c8) (List.mem_of_getElem? (i := 3) rfl)).2, ((K15_1.out.1.ext ((Below.refl _ _).alloc (Nat.le_refl _) _)).cells (⟨g8, 1, none⟩, .slice A8' exJoin.length c8') (List.mem_of_getElem? (i := 4) rfl)).2, ((K15_1.out.1.ext ((Below.refl _ _).alloc (Nat.le_refl _) _)).cells (⟨g8, 2, none⟩, .int .i64 2) (List.mem_of_getElem? (i := 5) rfl)).2⟩ | exact ⟨(K15_0.out.1.cells (⟨g8, 0, none⟩, .slice A8 exLimit.length c8) (List.mem_of_getElem? (i := 3) rfl)).2, (K15_0.out.1.cells (⟨g8, 1, none⟩, .slice A8' exJoin.length c8') (List.mem_of_getElem? (i := 4) rfl)).2, (K15_0.out.1.cells (⟨g8, 2, none⟩, .int .i64 2) (List.mem_of_getElem? (i := 5) rfl)).2⟩ | exact ⟨((K15_0.out.1.ext ((Below.refl _ _).alloc (Nat.le_refl _) _)).cells (⟨g8, 0, none⟩, .slice A8 exLimit.length c8) (List.mem_of_getElem? (i := 3) rfl)).2, ((K15_0.out.1.ext ((Below.refl _ _).alloc (Nat.le_refl _) _)).cells (⟨g8, 1, none⟩, .slice A8' exJoin.length c8') (List.mem_of_getElem? (i := 4) rfl)).2, ((K15_0.out.1.ext ((Below.refl _ _).alloc (Nat.le_refl _) _)).cells (⟨g8, 2, none⟩, .int .i64 2) (List.mem_of_getElem? (i := 5) rfl)).2⟩ | exact ⟨(K.out.cells (⟨g8, 0, none⟩, .slice A8 exLimit.length c8) (List.mem_of_getElem? (i := 3) rfl)).2, (K.out.cells (⟨g8, 1, none⟩, .slice A8' exJoin.length c8') (List.mem_of_getElem? (i := 4) rfl)).2, (K.out.cells (⟨g8, 2, none⟩, .int .i64 2) (List.mem_of_getElem? (i := 5) rfl)).2⟩ | exact ⟨((K.out.ext ((Below.refl _ _).alloc (Nat.le_refl _) _)).cells (⟨g8, 0, none⟩, .slice A8 exLimit.length c8) (List.mem_of_getElem? (i := 3) rfl)).2, ((K.out.ext ((Below.refl _ _).alloc (Nat.le_refl _) _)).cells (⟨g8, 1, none⟩, .slice A8' exJoin.length c8') (List.mem_of_getElem? (i := 4) rfl)).2, ((K.out.ext ((Below.refl _ _).alloc (Nat.le_refl _) _)).cells (⟨g8, 2, none⟩, .int .i64 2) (List.mem_of_getElem? (i := 5) rfl)).2⟩) (first
    | (go_at_call 34; refine (checkB_ex B15_0 B15_1 A8 A8' d15_0 d15_1 c8 c8' _ K15_1.out.2.1 K15_1.out.2.2 (K15_1.out.1.rds (A8, exLimit) (List.mem_of_getElem? (i := 4) rfl)) (K15_1.out.1.rds (A8', exJoin) (List.mem_of_getElem? (i := 3) rfl))).mono ?_; rintro e x15_2 ⟨rfl, hb⟩; have K15_2 := Lib.hid (And.intro (K15_1.out.1.ext hb) trivial); clear hb)
    | (go_at_call 65; refine (Service_any _).mono ?_; rintro e x15_1 ⟨B15_1, d15_1, rfl, hr, hf, hb⟩; have K15_1 := Lib.hid (And.intro (K15_0.out.1.ext (hb)) (And.intro (K15_0.out.2.ext hb) hr)); clear hr hf hb)
    | (go_at_call 64; refine (Limit_any _).mono ?_; rintro e x15_0 ⟨B15_0, d15_0, rfl, hr, hf, hb⟩; have K15_0 := Lib.hid (And.intro (K.out.ext ((Below.refl _ y14).drew.trans hb)) hr); clear hr hf hb))
  have hK := K15_2.out.1
  generalize hgW : x15_2 = y15 at *
  clear hgW
  clear K K15_0 K15_1 K15_2 
  have K := Lib.hid hK
  clear hK
  go_upto_region 16 with fail
  go_region_held3 (fun W => W.cell? ⟨g10, 0, none⟩ = some (.slice A10 exLeft.length c10) ∧ W.cell? ⟨g11, 0, none⟩ = some (.slice A11 exLo.length c11) ∧ W.cell? ⟨g11 + 1, 0, none⟩ = some (.slice A12 exHi.length c12)) (first | exact ⟨(K16_5.out.1.cells (⟨g10, 0, none⟩, .slice A10 exLeft.length c10) (List.mem_of_getElem? (i := 2) rfl)).2, (K16_5.out.1.cells (⟨g11, 0, none⟩, .slice A11 exLo.length c11) (List.mem_of_getElem? (i := 1) rfl)).2, (K16_5.out.1.cells (⟨g11 + 1, 0, none⟩, .slice A12 exHi.length c12) (List.mem_of_getElem? (i := 0) rfl)).2⟩ | exact ⟨((K16_5.out.1.ext ((Below.refl _ _).alloc (Nat.le_refl _) _)).cells (⟨g10, 0, none⟩, .slice A10 exLeft.length c10) (List.mem_of_getElem? (i := 2) rfl)).2, ((K16_5.out.1.ext ((Below.refl _ _).alloc (Nat.le_refl _) _)).cells (⟨g11, 0, none⟩, .slice A11 exLo.length c11) (List.mem_of_getElem? (i := 1) rfl)).2, ((K16_5.out.1.ext ((Below.refl _ _).alloc (Nat.le_refl _) _)).cells (⟨g11 + 1, 0, none⟩, .slice A12 exHi.length c12) (List.mem_of_getElem? (i := 0) rfl)).2⟩ | exact ⟨(K16_4.out.1.cells (⟨g10, 0, none⟩, .slice A10 exLeft.length c10) (List.mem_of_getElem? (i := 2) rfl)).2, (K16_4.out.1.cells (⟨g11, 0, none⟩, .slice A11 exLo.length c11) (List.mem_of_getElem? (i := 1) rfl)).2, (K16_4.out.1.cells (⟨g11 + 1, 0, none⟩, .slice A12 exHi.length c12) (List.mem_of_getElem? (i := 0) rfl)).2⟩ | exact ⟨((K16_4.out.1.ext ((Below.refl _ _).alloc (Nat.le_refl _) _)).cells (⟨g10, 0, none⟩, .slice A10 exLeft.length c10) (List.mem_of_getElem? (i := 2) rfl)).2, ((K16_4.out.1.ext ((Below.refl _ _).alloc (Nat.le_refl _) _)).cells (⟨g11, 0, none⟩, .slice A11 exLo.length c11) (List.mem_of_getElem? (i := 1) rfl)).2, ((K16_4.out.1.ext ((Below.refl _ _).alloc (Nat.le_refl _) _)).cells (⟨g11 + 1, 0, none⟩, .slice A12 exHi.length c12) (List.mem_of_getElem? (i := 0) rfl)).2⟩ | exact ⟨(K16_3.out.1.cells (⟨g10, 0, none⟩, .slice A10 exLeft.length c10) (List.mem_of_getElem? (i := 2) rfl)).2, (K16_3.out.1.cells (⟨g11, 0, none⟩, .slice A11 exLo.length c11) (List.mem_of_getElem? (i := 1) rfl)).2, (K16_3.out.1.cells (⟨g11 + 1, 0, none⟩, .slice A12 exHi.length c12) (List.mem_of_getElem? (i := 0) rfl)).2⟩ | exact ⟨((K16_3.out.1.ext ((Below.refl _ _).alloc (Nat.le_refl _) _)).cells (⟨g10, 0, none⟩, .slice A10 exLeft.length c10) (List.mem_of_getElem? (i := 2) rfl)).2, ((K16_3.out.1.ext ((Below.refl _ _).alloc (Nat.le_refl _) _)).cells (⟨g11, 0, none⟩, .slice A11 exLo.length c11) (List.mem_of_getElem? (i := 1) rfl)).2, ((K16_3.out.1.ext ((Below.refl _ _).alloc (Nat.le_refl _) _)).cells (⟨g11 + 1, 0, none⟩, .slice A12 exHi.length c12) (List.mem_of_getElem? (i := 0) rfl)).2⟩ | exact ⟨(K16_2.out.1.cells (⟨g10, 0, none⟩, .slice A10 exLeft.length c10) (List.mem_of_getElem? (i := 2) rfl)).2, (K16_2.out.1.cells (⟨g11, 0, none⟩, .slice A11 exLo.length c11) (List.mem_of_getElem? (i := 1) rfl)).2, (K16_2.out.1.cells (⟨g11 + 1, 0, none⟩, .slice A12 exHi.length c12) (List.mem_of_getElem? (i := 0) rfl)).2⟩ | exact ⟨((K16_2.out.1.ext ((Below.refl _ _).alloc (Nat.le_refl _) _)).cells (⟨g10, 0, none⟩, .slice A10 exLeft.length c10) (List.mem_of_getElem? (i := 2) rfl)).2, ((K16_2.out.1.ext ((Below.refl _ _).alloc (Nat.le_refl _) _)).cells (⟨g11, 0, none⟩, .slice A11 exLo.length c11) (List.mem_of_getElem? (i := 1) rfl)).2, ((K16_2.out.1.ext ((Below.refl _ _).alloc (Nat.le_refl _) _)).cells (⟨g11 + 1, 0, none⟩, .slice A12 exHi.length c12) (List.mem_of_getElem? (i := 0) rfl)).2⟩ | exact ⟨(K16_1.out.1.cells (⟨g10, 0, none⟩, .slice A10 exLeft.length c10) (List.mem_of_getElem? (i := 2) rfl)).2, (K16_1.out.1.cells (⟨g11, 0, none⟩, .slice A11 exLo.length c11) (List.mem_of_getElem? (i := 1) rfl)).2, (K16_1.out.1.cells (⟨g11 + 1, 0, none⟩, .slice A12 exHi.length c12) (List.mem_of_getElem? (i := 0) rfl)).2⟩ | exact ⟨((K16_1.out.1.ext ((Below.refl _ _).alloc (Nat.le_refl _) _)).cells (⟨g10, 0, none⟩, .slice A10 exLeft.length c10) (List.mem_of_getElem? (i := 2) rfl)).2, ((K16_1.out.1.ext ((Below.refl _ _).alloc (Nat.le_refl _) _)).cells (⟨g11, 0, none⟩, .slice A11 exLo.length c11) (List.mem_of_getElem? (i := 1) rfl)).2, ((K16_1.out.1.ext ((Below.refl _ _).alloc (Nat.le_refl _) _)).cells (⟨g11 + 1, 0, none⟩, .slice A12 exHi.length c12) (List.mem_of_getElem? (i := 0) rfl)).2⟩ | exact ⟨(K16_0.out.1.cells (⟨g10, 0, none⟩, .slice A10 exLeft.length c10) (List.mem_of_getElem? (i := 2) rfl)).2, (K16_0.out.1.cells (⟨g11, 0, none⟩, .slice A11 exLo.length c11) (List.mem_of_getElem? (i := 1) rfl)).2, (K16_0.out.1.cells (⟨g11 + 1, 0, none⟩, .slice A12 exHi.length c12) (List.mem_of_getElem? (i := 0) rfl)).2⟩ | exact ⟨((K16_0.out.1.ext ((Below.refl _ _).alloc (Nat.le_refl _) _)).cells (⟨g10, 0, none⟩, .slice A10 exLeft.length c10) (List.mem_of_getElem? (i := 2) rfl)).2, ((K16_0.out.1.ext ((Below.refl _ _).alloc (Nat.le_refl _) _)).cells (⟨g11, 0, none⟩, .slice A11 exLo.length c11) (List.mem_of_getElem? (i := 1) rfl)).2, ((K16_0.out.1.ext ((Below.refl _ _).alloc (Nat.le_refl _) _)).cells (⟨g11 + 1, 0, none⟩, .slice A12 exHi.length c12) (List.mem_of_getElem? (i := 0) rfl)).2⟩ | exact ⟨(K.out.cells (⟨g10, 0, none⟩, .slice A10 exLeft.length c10) (List.mem_of_getElem? (i := 2) rfl)).2, (K.out.cells (⟨g11, 0, none⟩, .slice A11 exLo.length c11) (List.mem_of_getElem? (i := 1) rfl)).2, (K.out.cells (⟨g11 + 1, 0, none⟩, .slice A12 exHi.length c12) (List.mem_of_getElem? (i := 0) rfl)).2⟩ | exact ⟨((K.out.ext ((Below.refl _ _).alloc (Nat.le_refl _) _)).cells (⟨g10, 0, none⟩, .slice A10 exLeft.length c10) (List.mem_of_getElem? (i := 2) rfl)).2, ((K.out.ext ((Below.refl _ _).alloc (Nat.le_refl _) _)).cells (⟨g11, 0, none⟩, .slice A11 exLo.length c11) (List.mem_of_getElem? (i := 1) rfl)).2, ((K.out.ext ((Below.refl _ _).alloc (Nat.le_refl _) _)).cells (⟨g11 + 1, 0, none⟩, .slice A12 exHi.length c12) (List.mem_of_getElem? (i := 0) rfl)).2⟩) (first
    | (go_at_call 19; refine (Same_ex A12 (some ⟨x16_3.heap.size, 0, none⟩) c12 5 exHi _ (K16_4.out.1.rds (A12, exHi) (List.mem_of_getElem? (i := 0) rfl)) K16_4.out.2 (by decide)).mono ?_; rintro e x16_5 ⟨rfl, hb⟩; have K16_5 := Lib.hid (And.intro (K16_4.out.1.ext hb) trivial); clear hb)
    | (go_at_call 66; refine (curve_any (some ⟨x16_3.heap.size, 0, none⟩) 5 5 (x16_3.alloc (.cells (exHi.map (Value.int .i64)).toArray 3))).mono ?_; rintro e x16_4 ⟨rfl, hb⟩; have K16_4 := Lib.hid (And.intro ((K16_3.out.1.ext ((Below.refl _ x16_3).alloc (Nat.le_refl _) (.cells (exHi.map (Value.int .i64)).toArray 3))).ext hb) ((rd_of_block (ty := 3) (heap_alloc_new x16_3 (.cells (exHi.map (Value.int .i64)).toArray 3))).ext hb)); clear hb)
    | (go_at_call 19; refine (Same_ex A11 (some ⟨x16_1.heap.size, 0, none⟩) c11 5 exLo _ (K16_2.out.1.rds (A11, exLo) (List.mem_of_getElem? (i := 1) rfl)) K16_2.out.2 (by decide)).mono ?_; rintro e x16_3 ⟨rfl, hb⟩; have K16_3 := Lib.hid (And.intro (K16_2.out.1.ext hb) trivial); clear hb)
    | (go_at_call 66; refine (curve_any (some ⟨x16_1.heap.size, 0, none⟩) 5 5 (x16_1.alloc (.cells (exLo.map (Value.int .i64)).toArray 3))).mono ?_; rintro e x16_2 ⟨rfl, hb⟩; have K16_2 := Lib.hid (And.intro ((K16_1.out.1.ext ((Below.refl _ x16_1).alloc (Nat.le_refl _) (.cells (exLo.map (Value.int .i64)).toArray 3))).ext hb) ((rd_of_block (ty := 3) (heap_alloc_new x16_1 (.cells (exLo.map (Value.int .i64)).toArray 3))).ext hb)); clear hb)
    | (go_at_call 19; refine (Same_ex A10 (some ⟨y15.drew.heap.size, 0, none⟩) c10 5 exLeft _ (K16_0.out.1.rds (A10, exLeft) (List.mem_of_getElem? (i := 2) rfl)) K16_0.out.2 (by decide)).mono ?_; rintro e x16_1 ⟨rfl, hb⟩; have K16_1 := Lib.hid (And.intro (K16_0.out.1.ext hb) trivial); clear hb)
    | (go_at_call 66; refine (curve_any (some ⟨y15.drew.heap.size, 0, none⟩) 5 5 (y15.drew.alloc (.cells (exLeft.map (Value.int .i64)).toArray 3))).mono ?_; rintro e x16_0 ⟨rfl, hb⟩; have K16_0 := Lib.hid (And.intro (((K.out.ext ((Below.refl _ y15).drew)).ext ((Below.refl _ y15.drew).alloc (Nat.le_refl _) (.cells (exLeft.map (Value.int .i64)).toArray 3))).ext hb) ((rd_of_block (ty := 3) (heap_alloc_new y15.drew (.cells (exLeft.map (Value.int .i64)).toArray 3))).ext hb)); clear hb))
  have hK := K16_5.out.1
  clear K K16_0 K16_1 K16_2 K16_3 K16_4 K16_5 
  have K := Lib.hid hK
  clear hK
  go_wp2
  go_ret
  exact ⟨rfl, K.out.bl⟩
end Go.Proofs.Ytknkneccnhgjmaa
