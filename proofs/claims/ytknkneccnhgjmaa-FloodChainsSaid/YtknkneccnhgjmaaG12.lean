/- Walk: flood's Chain. -/
import Derived.Test.YtknkneccnhgjmaaP7
namespace Go.Proofs.Ytknkneccnhgjmaa
open Go.RowKit Go.Shelf

/-- The first k + 1 curves, joined. -/
def chainTo (cs : List Cv) : Nat → List Int
  | 0 => cs[0]!.xs
  | k + 1 => joinL (chainTo cs k) cs[k + 1]!.xs
def chainFit (cs : List Cv) (k : Nat) : Bool := (List.range k).all fun i => fitB (chainTo cs (i + 1))
def chainE (cs : List Cv) : Int := if cs.length = 0 then 1 else if 12 < cs.length then 2 else if rightB cs then (if chainFit cs (cs.length - 1) then 0 else 3) else 1
theorem chainFit_iff {cs : List Cv} {k : Nat} : chainFit cs k = true ↔ ∀ i, i < k → fitB (chainTo cs (i + 1)) = true := by
  unfold chainFit
  rw [List.all_eq_true]
  exact ⟨fun h i hi => h i (by simpa using hi), fun h i hi => h i (by simpa using hi)⟩
theorem chainTo_length (cs : List Cv) (k : Nat) : (chainTo cs k).length = cs[0]!.xs.length := by
  induction k with
  | zero => rfl
  | succ k ih => unfold chainTo; rw [joinL_length]; exact ih
theorem right_valid {cs : List Cv} (h : rightB cs = true) {i : Nat} (hi : i < cs.length) : Valid cs[i]!.xs ∧ cs[i]!.xs.length = cs[0]!.xs.length := by
  unfold rightB at h
  rw [List.all_eq_true] at h
  have := h i (by simpa using hi)
  unfold rightAt at this
  rw [Bool.and_eq_true, decide_eq_true_eq, validB_iff] at this
  exact this
theorem chainTo_valid {cs : List Cv} (h : rightB cs = true) {k : Nat} (hk : k < cs.length) (hf : chainFit cs k = true) : Valid (chainTo cs k) := by
  induction k with
  | zero => exact (right_valid h hk).1
  | succ k ih =>
    have v := ih (by omega) (chainFit_iff.2 fun i hi => chainFit_iff.1 hf i (by omega))
    obtain ⟨v1, e1⟩ := right_valid h hk
    exact joinL_valid v v1 (by rw [chainTo_length]; exact e1) (chainFit_iff.1 hf k (by omega))

/-- The state of the chain: the result's cell, and the curve so far. -/
structure ChS (w W : World) (g : Nat) (A : Option Addr) (c : Nat) (L : List Int) : Prop where
  bl : Below w.heap.size w W
  z0 : W.cell? ⟨w.heap.size, 0, none⟩ = some (.slice none 0 0)
  f0 : W.frozen? ⟨w.heap.size, 0, none⟩ = false
  z1 : W.cell? ⟨g, 0, none⟩ = some (.slice A L.length c)
  f1 : W.frozen? ⟨g, 0, none⟩ = false
  gl : w.heap.size < g
  lt : g < W.heap.size
  rd : Rd W W.heap.size A L
  fr : Fresh w.heap.size A
  n0 : ∀ ad, A = some ad → ad.block ≠ w.heap.size
  n1 : ∀ ad, A = some ad → ad.block ≠ g
theorem ChS.ext {w W W' : World} {g : Nat} {A : Option Addr} {c : Nat} {L : List Int} (h : ChS w W g A c L) (hb : Below W.heap.size W W') : ChS w W' g A c L := by
  have hlt := h.lt
  have hgl := h.gl
  exact ⟨h.bl.trans (hb.mono h.bl.size), (hb.cell (p := ⟨w.heap.size, 0, none⟩) (show w.heap.size < _ by omega)).trans h.z0, (hb.frozen (p := ⟨w.heap.size, 0, none⟩) (show w.heap.size < _ by omega)).trans h.f0,
    (hb.cell (p := ⟨g, 0, none⟩) hlt).trans h.z1, (hb.frozen (p := ⟨g, 0, none⟩) hlt).trans h.f1, hgl, Nat.lt_of_lt_of_le hlt hb.size, h.rd.ext hb, h.fr, h.n0, h.n1⟩
theorem ChS.set {w W : World} {g : Nat} {A A' : Option Addr} {c c' : Nat} {L L' : List Int} (h : ChS w W g A c L) (hr : Rd W W.heap.size A' L') {m : Nat} (hf : Fresh m A') (hm : g < m) : ChS w (W.setCell ⟨g, 0, none⟩ (.slice A' L'.length c')) g A' c' L' := by
  have hlt := h.lt
  have hgl := h.gl
  have hn : ∀ ad, A' = some ad → ad.block ≠ g := fun ad e => by have := hf ad e; omega
  refine ⟨h.bl.setCell (by show w.heap.size ≤ g; omega) _, ?_, ?_, ?_, ?_, hgl, by rw [World.size_setCell]; exact hlt, by rw [World.size_setCell]; exact hr.setCell hn _, fun ad e => by have := hf ad e; omega, fun ad e => by have := hf ad e; omega, hn⟩
  · rw [World.cell?_setCell_other _ _ _ _ (by simp; try omega)]; exact h.z0
  · rw [World.frozen?_setCell]; exact h.f0
  · exact World.cell?_setCell_same' _ _ _ (by rw [h.z1]; rfl)
  · rw [World.frozen?_setCell]; exact h.f1
theorem ChS.nil {w W : World} {g : Nat} {A : Option Addr} {c : Nat} {L : List Int} (h : ChS w W g A c L) : ChS w (W.setCell ⟨g, 0, none⟩ (.slice none 0 0)) g none 0 [] := h.set (A' := none) (c' := 0) (L' := []) Rd.nil (m := g + 1) none_fresh (by omega)
theorem ChS.fin {w W : World} {g : Nat} {A : Option Addr} {c : Nat} {L : List Int} (h : ChS w W g A c L) : RCE w L 0 (.returned (.tuple #[.agg #[.slice A L.length c], .int .i64 0])) (W.setCell ⟨w.heap.size, 0, none⟩ (.slice A L.length c)) :=
  ⟨A, c, rfl, by rw [World.size_setCell]; exact h.rd.setCell h.n0 _, h.fr, h.bl.setCell (Nat.le_refl _) _⟩

set_option maxRecDepth 100000 in
set_option maxHeartbeats 1600000 in
theorem Chain_any (A : Option Addr) (c : Nat) (cs : List Cv) (w : World) (h : RdC w w.heap.size A cs) (hm : cs.length ≤ 1000000) (hl : ∀ i, i < cs.length → cs[i]!.xs.length ≤ maxLen) (hcap : cs.length ≤ c) :
    Calls Try.prog 55 #[.slice A cs.length c] w fun e w' => RCE w (pick (decide (chainE cs = 0)) (chainTo cs (cs.length - 1))) (chainE cs) e w' := by
  have hb0 : Below w.heap.size w (w.alloc (.cells #[.slice none 0 0] 26)) := (Below.refl _ w).alloc (Nat.le_refl _) _
  have q1 : (w.alloc (.cells #[.slice none 0 0] 26)).cell? ⟨w.heap.size, 0, none⟩ = some (.slice none 0 0) := by simp [go_sem]
  have q2 : (w.alloc (.cells #[.slice none 0 0] 26)).frozen? ⟨w.heap.size, 0, none⟩ = false := by simp [go_sem]
  have hsz : w.heap.size < (w.alloc (.cells #[.slice none 0 0] 26)).heap.size := by simp
  have hC := h.ext hb0
  have hR := right_any A c cs _ hC hm hl
  have HC0 := Lib.hid h
  clear h
  have HB := Lib.hid hb0
  have HC := Lib.hid hC
  have HL := Lib.hid hl
  clear hb0 hC hl
  by_cases n0 : cs.length = 0
  · have hE : chainE cs = 1 := by unfold chainE; rw [if_pos n0]
    have hz : ((cs.length : Int) == 0) = true := by rw [n0]; rfl
    have hP : pick (decide (chainE cs = 0)) (chainTo cs (cs.length - 1)) = [] := by rw [hE]; rfl
    rw [hP, hE]
    clear hR HC HL hm hP hE
    go_enter Try.func55, Try.ntmps55
    go_upto_region 1 with fail
    generalize hgW : w.alloc (.cells #[.slice none 0 0] 26) = W1 at *
    clear hgW
    go_wp2
    exact bodyPost_ret (v := .tuple #[.agg #[.slice none 0 0], .int .i64 1]) (by simp [results, Try.results55, go_sem, q1]) rfl (fin_nil HB.out (by omega))
  have hz : ((cs.length : Int) == 0) = false := by rw [beq_eq_false_iff_ne]; omega
  by_cases n1 : 12 < cs.length
  · have hE : chainE cs = 2 := by unfold chainE; rw [if_neg n0, if_pos n1]
    have hz1 : (12 : Int) < (cs.length : Int) := by omega
    have hP : pick (decide (chainE cs = 0)) (chainTo cs (cs.length - 1)) = [] := by rw [hE]; rfl
    rw [hP, hE]
    clear hR HC HL hP hE
    go_enter Try.func55, Try.ntmps55
    go_upto_region 1 with fail
    generalize hgW : w.alloc (.cells #[.slice none 0 0] 26) = W1 at *
    clear hgW
    go_wp2
    exact bodyPost_ret (v := .tuple #[.agg #[.slice none 0 0], .int .i64 2]) (by simp [results, Try.results55, go_sem, q1]) rfl (fin_nil HB.out (by omega))
  have hz1 : ¬ (12 : Int) < (cs.length : Int) := by omega
  cases hv : rightB cs
  · have hE : chainE cs = 1 := by unfold chainE; rw [if_neg n0, if_neg n1, hv]; rfl
    have hP : pick (decide (chainE cs = 0)) (chainTo cs (cs.length - 1)) = [] := by rw [hE]; rfl
    rw [hP, hE]
    rw [hv, errB_f] at hR
    have HR := Lib.hid hR
    clear hR HC HL hv hP hE
    go_enter Try.func55, Try.ntmps55
    go_upto_region 1 with fail
    generalize hgW : w.alloc (.cells #[.slice none 0 0] 26) = W1 at *
    clear hgW
    go_wp2_with (go_at_call 78; refine HR.out.mono ?_; rintro e w1 ⟨rfl, hb⟩; have z0 := (hb.cell (p := ⟨w.heap.size, 0, none⟩) hsz).trans q1; have z1 := (hb.frozen (p := ⟨w.heap.size, 0, none⟩) hsz).trans q2)
    exact bodyPost_ret (v := .tuple #[.agg #[.slice none 0 0], .int .i64 1]) (by simp [results, Try.results55, go_sem, z0]) rfl (fin_nil (HB.out.trans (hb.mono HB.out.size)) (by omega))
  have hE : chainE cs = if chainFit cs (cs.length - 1) then 0 else 3 := by unfold chainE; rw [if_neg n0, if_neg n1, hv]; rfl
  have hP : pick (decide (chainE cs = 0)) (chainTo cs (cs.length - 1)) = if chainFit cs (cs.length - 1) then chainTo cs (cs.length - 1) else [] := by rw [hE]; cases chainFit cs (cs.length - 1) <;> rfl
  rw [hP, hE]
  rw [hv, errB_t] at hR
  have HR := Lib.hid hR
  have HV := Lib.hid hv
  clear hR hv hE hP
  generalize hQ : (if chainFit cs (cs.length - 1) then chainTo cs (cs.length - 1) else []) = R at *
  generalize hE : (if chainFit cs (cs.length - 1) then (0 : Int) else 3) = E at *
  have HF := Lib.hid (And.intro hQ hE)
  clear hQ hE
  go_enter Try.func55, Try.ntmps55
  go_upto_region 1 with fail
  generalize hgW : w.alloc (.cells #[.slice none 0 0] 26) = W1 at *
  clear hgW
  go_upto_region 8 with (go_at_call 78; refine HR.out.mono ?_; rintro e w1 ⟨rfl, hb⟩)
  have z0 := (hb.cell (p := ⟨w.heap.size, 0, none⟩) hsz).trans q1
  have f0 := (hb.frozen (p := ⟨w.heap.size, 0, none⟩) hsz).trans q2
  have hw1 : Below w.heap.size w w1 := HB.out.trans (hb.mono HB.out.size)
  have hC1 := HC.out.ext hb
  have l1 := Nat.lt_of_lt_of_le hsz hb.size
  obtain ⟨v0, _⟩ := right_valid HV.out (i := 0) (by omega)
  obtain ⟨b, off, rfl, lb, hc⟩ := hC1.1 (by omega)
  have k0 := hc 0 (by omega)
  rw [Nat.add_zero] at k0
  unfold Cv.v at k0
  have r0 := hC1.2 0 (by omega)
  obtain ⟨b0, o0, e0, _, _⟩ := r0 v0.1
  rw [e0] at k0 r0
  have hz0 : (0 : Int) < (cs.length : Int) := by omega
  have hc0 : chainTo cs 0 = cs[0]!.xs := rfl
  clear hc
  generalize cs[0]! = E0 at *
  have HR0 := Lib.hid (And.intro r0 v0)
  have HC1 := Lib.hid (And.intro hC1 (And.intro hw1 hc0))
  clear hC1 r0 v0 e0 hb q1 q2 hsz HR HC hw1 hc0
  go_upto_region 9 with (go_at_call 114; refine (clone_any b0 o0 _ _ _ HR0.out.1 HR0.out.2.1 (by have := HR0.out.2.2.1; omega)).mono ?_; rintro e w2 ⟨A2, c2, rfl, hr, hf, hb⟩)
  have hw3 : Below w2.heap.size w2 (w2.alloc (.cells #[.slice A2 E0.xs.length c2] 26)) := (Below.refl _ w2).alloc (Nat.le_refl _) _
  have hS : ChS w (w2.alloc (.cells #[.slice A2 E0.xs.length c2] 26)) w2.heap.size A2 c2 (chainTo cs 0) := by
    rw [HC1.out.2.2]
    have l2 := hb.size
    exact ⟨HC1.out.2.1.trans ((hb.trans (hw3.mono hb.size)).mono HC1.out.2.1.size), (hw3.cell (p := ⟨w.heap.size, 0, none⟩) (show w.heap.size < _ by omega)).trans ((hb.cell (p := ⟨w.heap.size, 0, none⟩) l1).trans z0),
      (hw3.frozen (p := ⟨w.heap.size, 0, none⟩) (show w.heap.size < _ by omega)).trans ((hb.frozen (p := ⟨w.heap.size, 0, none⟩) l1).trans f0), by simp [go_sem], by simp [go_sem], by omega, by simp, hr.ext hw3, hf.mono HC1.out.2.1.size,
      fun ad e => by have := hf ad e; omega, fun ad e => by obtain ⟨b2, o2, e2, lb2, _⟩ := hr HR0.out.2.1; rw [e2] at e; injection e with e; subst e; show b2 ≠ _; omega⟩
  generalize hgW : w2.alloc (.cells #[.slice A2 E0.xs.length c2] 26) = W3 at *
  generalize hgg : w2.heap.size = g at *
  clear hgW hgg hr hf hb z0 f0 k0 lb l1 HR0 HC1 hw3 hz0
  by_cases hc1 : c = 1
  · have hn1 : cs.length = 1 := by omega
    have hn2 : ((cs.length - 1 : Nat) : Int) = 0 := by omega
    have hlt : ¬ (0 : Int) < ((cs.length - 1 : Nat) : Int) := by omega
    obtain ⟨hR, hE⟩ := HF.out
    rw [hn1] at hR hE
    rw [show chainFit cs (1 - 1) = true from rfl, if_pos rfl] at hR hE
    rw [show chainTo cs (1 - 1) = chainTo cs 0 from rfl] at hR
    subst hE hR
    have HS := Lib.hid hS
    clear hS HF HL HV HC0 HB
    go_wp2
    go_loopg [7, 8, 34] 0 (fun gg _ _ i wr => i = .int .i64 0 ∧ wr = W3)
    case atStart => exact ⟨rfl, rfl⟩
    case round =>
      obtain ⟨rfl, rfl⟩ := hrel
      have z0 := HS.out.z0
      have f0 := HS.out.f0
      have z1 := HS.out.z1
      have f1 := HS.out.f1
      go_wp2
      exact bodyPost_ret (v := .tuple #[.agg #[.slice A2 (chainTo cs 0).length c2], .int .i64 0]) (by simp [results, Try.results55, go_sem, z0]) rfl HS.out.fin
  have hc2 : 1 < c := by omega
  have HS := Lib.hid hS
  obtain ⟨b', off', e', lb, hcc⟩ := HC0.out.1 (by omega)
  have hcell : ∀ W, Below w.heap.size w W → ∀ i, i < cs.length → W.cell? ⟨b, off + i, none⟩ = some cs[i]!.v := fun W hW i hi => by
    injection e' with e'
    injection e' with e1 e2
    subst e1 e2
    exact (hW.cell (p := ⟨_, _, none⟩) lb).trans (hcc i hi)
  have HCell := Lib.hid hcell
  clear hS hcell e' lb hcc
  go_wp2
  go_loopg [7, 8, 34] cs.length (fun gg _ _ i wr => ∃ t : Nat, t + 1 ≤ cs.length ∧ cs.length - t ≤ gg ∧ i = .int .i64 t ∧ ∃ A k, Aside (ChS w wr g A k (chainTo cs t) ∧ chainFit cs t = true))
  case atStart => exact ⟨0, by omega, by omega, rfl, A2, c2, HS.out, rfl⟩
  case round =>
    obtain ⟨t, ht, hg, rfl, A, k, hS⟩ := hrel
    by_cases hlt : t + 1 < cs.length
    · have hltz : (t : Int) < ((cs.length - 1 : Nat) : Int) := by omega
      obtain ⟨S, hfit⟩ := hS.out
      have vt := chainTo_valid HV.out (k := t) (by omega) hfit
      obtain ⟨v1, e1⟩ := right_valid HV.out hlt
      rw [← chainTo_length cs t] at e1
      have k1 := HCell.out wr S.bl (t + 1) hlt
      rw [show off + (t + 1) = off + 1 + t by omega] at k1
      unfold Cv.v at k1
      have r1 := (HC0.out.ext S.bl).2 (t + 1) hlt
      have hN : chainTo cs (t + 1) = joinL (chainTo cs t) cs[t + 1]!.xs := rfl
      generalize cs[t + 1]! = E1 at *
      have hal : Below wr.heap.size wr (wr.alloc (.cells #[.slice E1.A E1.xs.length E1.c] 26)) := (Below.refl _ wr).alloc (Nat.le_refl _) _
      have z1 := (S.ext hal).z1
      have hj1 : 1 ≤ (joinL (chainTo cs t) E1.xs).length := by rw [joinL_length]; exact vt.1
      have hj2 : (joinL (chainTo cs t) E1.xs).length ≤ 121 := by rw [joinL_length]; exact vt.2.1
      have HX := Lib.hid (And.intro (S.ext hal) (And.intro (r1.ext hal) (And.intro vt (And.intro v1 (And.intro e1 hN)))))
      have HFit := Lib.hid hfit
      clear S r1 vt v1 e1 hal hN hS hfit HS
      rcases fit_cases (joinL (chainTo cs t) E1.xs) with ⟨hle, hf, _⟩ | ⟨hgt, hf, _⟩
      · have HG := Lib.hid hf
        clear hf
        go_wp2_with (first
          | (go_at_call 81; refine (join_any A E1.A k E1.c (chainTo cs t) E1.xs _ HX.out.1.rd HX.out.2.1 HX.out.2.2.1.1 HX.out.2.2.1.2.1 HX.out.2.2.2.2.1 HX.out.2.2.1.small HX.out.2.2.2.1.small).mono ?_; rintro e y1 ⟨A3, c3, rfl, hr, hf3, hb⟩; have HJ := Lib.hid (And.intro (HX.out.1.ext hb) (And.intro hr hf3)); clear hr hf3 hb)
          | (go_at_call 80; refine (bounded_ok A3 c3 _ _ HJ.out.2.1 hj1 hj2 hle).mono ?_; rintro e y2 ⟨rfl, hb⟩; have HY := Lib.hid (And.intro (HJ.out.1.ext hb) (HJ.out.2.1.ext hb)); have y1z := HY.out.1.z1; have y1f := HY.out.1.f1; clear hb))
        go_roundg (cs.length - (t + 1))
        case measure => omega
        case rel =>
          have hY := HY.out.1.set (c' := c3) HY.out.2 HJ.out.2.2 HX.out.1.lt
          refine ⟨t + 1, by omega, by omega, by go_num, A3, c3, (show _ ∧ _ from ⟨?_, chainFit_iff.2 fun i hi => ?_⟩)⟩
          · rw [HX.out.2.2.2.2.2]
            exact hY
          · rcases Nat.lt_or_ge i t with e | e
            · exact chainFit_iff.1 HFit.out i e
            · obtain rfl : i = t := by omega
              rw [HX.out.2.2.2.2.2]
              exact HG.out
      · have HG := Lib.hid hf
        clear hf
        go_wp2_with (first
          | (go_at_call 81; refine (join_any A E1.A k E1.c (chainTo cs t) E1.xs _ HX.out.1.rd HX.out.2.1 HX.out.2.2.1.1 HX.out.2.2.1.2.1 HX.out.2.2.2.2.1 HX.out.2.2.1.small HX.out.2.2.2.1.small).mono ?_; rintro e y1 ⟨A3, c3, rfl, hr, hf3, hb⟩; have HJ := Lib.hid (And.intro (HX.out.1.ext hb) (And.intro hr hf3)); clear hr hf3 hb)
          | (go_at_call 80; refine (bounded_no A3 c3 _ _ HJ.out.2.1 hj1 hj2 hgt).mono ?_; rintro e y2 ⟨rfl, hb⟩; have HY := Lib.hid ((HJ.out.1.ext hb).nil); have y1z := (HJ.out.1.ext hb).z1; have y1f := (HJ.out.1.ext hb).f1; have z2 := HY.out.z0; have f2 := HY.out.f0; clear hb))
        have hno : ¬ chainFit cs (cs.length - 1) = true := fun h => by
          have := chainFit_iff.1 h t (by omega)
          rw [HX.out.2.2.2.2.2, HG.out] at this
          cases this
        obtain ⟨hR, hE⟩ := HF.out
        rw [if_neg hno] at hR hE
        subst hE hR
        exact bodyPost_ret (v := .tuple #[.agg #[.slice none 0 0], .int .i64 3]) (by simp [results, Try.results55, go_sem, z2]) rfl (fin_nil HY.out.bl (Nat.le_refl _))
    · have hltz : ¬ (t : Int) < ((cs.length - 1 : Nat) : Int) := by omega
      obtain rfl : t = cs.length - 1 := by omega
      obtain ⟨hR, hE⟩ := HF.out
      rw [if_pos hS.out.2] at hR hE
      subst hE hR
      have z0 := hS.out.1.z0
      have f0 := hS.out.1.f0
      have z1 := hS.out.1.z1
      have f1 := hS.out.1.f1
      have HZ := Lib.hid hS.out.1
      clear hS HS HF
      go_wp2
      exact bodyPost_ret (v := .tuple #[.agg #[.slice A (chainTo cs (cs.length - 1)).length k], .int .i64 0]) (by simp [results, Try.results55, go_sem, z0]) rfl HZ.out.fin

end Go.Proofs.Ytknkneccnhgjmaa
