/- Walks: Check of a tree. -/
import Derived.Test.YtegmniphgahblaaGreatW12
import Derived.Test.YtegmniphgahblaaGreatM12
namespace Go.Proofs.YtegmniphgahblaaGreat
open Go.RowKit Go.Shelf

theorem lwithin_any (n lo hi : Int) (w : World) : Calls Tryz.prog 17 #[.int .i64 n, .int .i64 lo, .int .i64 hi] w fun e w' => e = .returned (.bool (withinB n lo hi)) ∧ w = w' := by
 by_cases h1 : lo ≤ n <;> by_cases h2 : n ≤ hi
 all_goals
  go_enter Tryz.func17, Tryz.ntmps17
  go_wp2
  go_ret
  exact ⟨by simp [withinB, h1, h2], rfl⟩
/-- The reach, the payer with a number is right. -/
def ROk (rs : List Rch) (k : Nat) : Prop := -1 ≤ (rAt rs k).ab ∧ (rAt rs k).ab < k ∧ 0 ≤ (rAt rs k).co ∧ (rAt rs k).co ≤ 65536
structure POk (rs : List Rch) (ps : List Pay) (k : Nat) : Prop where
 id : 1 ≤ (yAt ps k).id ∧ (yAt ps k).id ≤ 1099511627776
 rc : 0 ≤ (yAt ps k).rc ∧ (yAt ps k).rc < rs.length
 wt : 1 ≤ (yAt ps k).wt
 ids : ∀ j, j < k → (yAt ps j).id ≠ (yAt ps k).id
theorem tree_ok {rs : List Rch} {ps : List Pay} (h1 : rs.length ≤ 24) (h2 : ps.length ≤ 24) (h3 : ∀ k, k < rs.length → ROk rs k) (h4 : ∀ k, k < ps.length → POk rs ps k) (h5 : sumTo (wtF ps) ps.length ≤ 24) : RsOk rs ∧ PsOk rs ps :=
 ⟨⟨h1, fun i hi => ⟨(h3 i hi).1, (h3 i hi).2.1⟩, fun i hi => (h3 i hi).2.2⟩, ⟨h2, fun i hi => (h4 i hi).rc, fun i hi => (h4 i hi).wt, fun i hi => (h4 i hi).id, fun i j hi hj e => by
  rcases Nat.lt_trichotomy i j with h | h | h
  ·exact absurd e ((h4 j hj).ids i h)
  ·exact h
  ·exact absurd e.symm ((h4 i hi).ids j h), h5⟩⟩
theorem ok_r {rs : List Rch} (h : RsOk rs) {k : Nat} (hk : k < rs.length) : ROk rs k := ⟨(h.up k hk).1, (h.up k hk).2, h.co k hk⟩
theorem ok_p {rs : List Rch} {ps : List Pay} (h : PsOk rs ps) {k : Nat} (hk : k < ps.length) : POk rs ps k := ⟨h.id k hk, h.rc k hk, h.wt k hk, fun j hj e => by have := h.ids j k (by omega) hk e; omega⟩
/-- What Check tells. -/
def ChR (t : Tr) (e : Ending) : Prop := ∃ E : Int, e = .returned (.int .i64 E) ∧ (E = 0 ↔ RsOk t.rs ∧ PsOk t.rs t.ps)
theorem chR_no {t : Tr} {E : Int} (hE : E ≠ 0) (h : ¬ (RsOk t.rs ∧ PsOk t.rs t.ps)) : ChR t (.returned (.int .i64 E)) := ⟨E, rfl, fun e => absurd e hE, fun e => absurd e h⟩
def headT (ps : List Pay) (k : Nat) : Int := min (sumTo (wtF ps) k) 25
set_option maxRecDepth 100000 in
set_option maxHeartbeats 3200000 in
theorem checkT_any (t : Tr) (w : World) (ht : TrAt w w.heap.size t) (hr : t.rs.length ≤ maxLen) (hp : t.ps.length ≤ maxLen) :
  Calls Tryz.prog 7 #[t.v] w fun e w' => ChR t e ∧ Below w.heap.size w w' := by
 obtain ⟨A, c, rs, B, d, ps⟩ := t
 dsimp only [Tr.v] at *
 unfold maxLen at hr hp
 have hb1 : Below w.heap.size w (w.alloc (.cells #[.slice A rs.length c, .slice B ps.length d] 42)) := (Below.refl _ w).alloc (Nat.le_refl _) _
 have K := Lib.hid ((stays_bl hb1).and (stays_blk (blk_new w #[.slice A rs.length c, .slice B ps.length d] 42 rfl)))
 have HT := Lib.hid ht
 clear hb1 ht
 by_cases hl : rs.length ≤ 24 ∧ ps.length ≤ 24
 rotate_left
 ·have hN : ¬ (RsOk rs ∧ PsOk rs ps) := fun h => hl ⟨h.1.n, h.2.n⟩
  have HN := Lib.hid hN
  clear hN
  by_cases hl1 : rs.length ≤ 24
  ·have hz1 : ¬ (rs.length : Int) > 24 := by omega
   have hz2 : (ps.length : Int) > 24 := by omega
   go_enter Tryz.func7, Tryz.ntmps7
   go_upto_region 1 with fail
   generalize (w.alloc (.cells #[.slice A rs.length c, .slice B ps.length d] 42)) = W0 at *
   have r0 := cr 0 K.out.1.2
   have r1 := cr 1 K.out.1.2
   go_wp2
   go_ret
   exact ⟨chR_no (by decide) HN.out, K.out.1.1⟩
  ·have hz1 : (rs.length : Int) > 24 := by omega
   go_enter Tryz.func7, Tryz.ntmps7
   go_upto_region 1 with fail
   generalize (w.alloc (.cells #[.slice A rs.length c, .slice B ps.length d] 42)) = W0 at *
   have r0 := cr 0 K.out.1.2
   have r1 := cr 1 K.out.1.2
   go_wp2
   go_ret
   exact ⟨chR_no (by decide) HN.out, K.out.1.1⟩
 obtain ⟨hl1, hl2⟩ := hl
 have hz1 : ¬ (rs.length : Int) > 24 := by omega
 have hz2 : ¬ (ps.length : Int) > 24 := by omega
 go_enter Tryz.func7, Tryz.ntmps7
 go_upto_region 1 with fail
 generalize (w.alloc (.cells #[.slice A rs.length c, .slice B ps.length d] 42)) = W0 at *
 have r0 := cr 0 K.out.1.2
 have r1 := cr 1 K.out.1.2
 go_upto_region 4 with fail
 clear r0 r1 hz1 hz2
 go_loopg [21] rs.length (fun gg i wr => ∃ k : Nat, k ≤ rs.length ∧ rs.length - k ≤ gg ∧ i = .int .i64 k ∧ Aside (Below W0.heap.size W0 wr ∧ ∀ j, j < k → ROk rs j))
 case atStart => exact ⟨0, Nat.zero_le _, by omega, rfl, Below.refl _ _, fun j hj => absurd hj (Nat.not_lt_zero _)⟩
 case round =>
  obtain ⟨k, hk, hgg, rfl, hA⟩ := hrel
  have HA := Lib.hid hA.out
  clear hA
  have K5 := Lib.hid (K.out.on HA.out.1)
  by_cases hlt : k < rs.length
  ·have hltz : (k : Int) < (rs.length : Int) := by omega
   obtain ⟨b, off, rfl, lb, hc⟩ := HT.out.r (by show 0 < rs.length; omega)
   obtain ⟨q0, q1⟩ := hc k hlt
   have p0 := (K5.out.1.1.cell (p := ⟨b, off + k * 2, none⟩) lb).trans q0
   have p1 := (K5.out.1.1.cell (p := ⟨b, off + k * 2 + 1, none⟩) lb).trans q1
   clear q0 q1 hc
   go_upto_region 6 with fail
   have hb6 := (Below.refl _ wr).alloc (Nat.le_refl _) (.cells #[.int .i64 (rAt rs k).ab, .int .i64 (rAt rs k).co] 65)
   have K6 := Lib.hid ((K5.out.on hb6).and (stays_blk (blk_new wr #[.int .i64 (rAt rs k).ab, .int .i64 (rAt rs k).co] 65 rfl)))
   have HB6 := Lib.hid hb6
   clear hb6 p0 p1
   generalize wr.alloc (.cells #[.int .i64 (rAt rs k).ab, .int .i64 (rAt rs k).co] 65) = w6 at *
   have y0 := cr 0 K6.out.1.2
   have y1 := cr 1 K6.out.1.2
   by_cases hq1 : -1 ≤ (rAt rs k).ab ∧ (rAt rs k).ab ≤ (k : Int) - 1
   ·have hw1 : withinB (rAt rs k).ab (-1) ((k : Int) - 1) = true := decide_eq_true hq1
    by_cases hq2 : 0 ≤ (rAt rs k).co ∧ (rAt rs k).co ≤ 65536
    ·have hw2 : withinB (rAt rs k).co 0 65536 = true := decide_eq_true hq2
     have HQ := hd2 hq1 hq2
     clear hq1 hq2
     go_wp2_with (go_at_call 17; refine (lwithin_any _ _ _ _).mono ?_; rintro e w' ⟨rfl, rfl⟩)
     go_roundg (rs.length - (k + 1))
     case measure => omega
     case rel => exact ⟨k + 1, by omega, by omega, by go_num, (show _ ∧ _ from ⟨HA.out.1.trans (HB6.out.mono HA.out.1.size), fun j hj => by
      by_cases e : j = k
      ·rw [e]; exact ⟨HQ.out.1.1, Int.lt_of_le_sub_one HQ.out.1.2, HQ.out.2⟩
      ·exact HA.out.2 j (by omega)⟩)⟩
    ·have hw2 : withinB (rAt rs k).co 0 65536 = false := decide_eq_false hq2
     have HQ := Lib.hid hq2
     clear hq1 hq2
     go_wp2_with (go_at_call 17; refine (lwithin_any _ _ _ _).mono ?_; rintro e w' ⟨rfl, rfl⟩)
     go_ret
     exact ⟨chR_no (by decide) (fun h => HQ.out (ok_r h.1 hlt).2.2), K6.out.1.1.1⟩
   ·have hw1 : withinB (rAt rs k).ab (-1) ((k : Int) - 1) = false := decide_eq_false hq1
    have HQ := Lib.hid hq1
    clear hq1
    go_wp2_with (go_at_call 17; refine (lwithin_any _ _ _ _).mono ?_; rintro e w' ⟨rfl, rfl⟩)
    go_ret
    exact ⟨chR_no (by decide) (fun h => HQ.out (by have := ok_r h.1 hlt; exact ⟨this.1, Int.le_sub_one_of_lt this.2.1⟩)), K6.out.1.1.1⟩
  ·obtain rfl : k = rs.length := by omega
   have HR := Lib.hid HA.out.2
   have r0 := cr 0 K5.out.1.2
   have r1 := cr 1 K5.out.1.2
   clear HA
   go_upto_region 11 with fail
   clear r0 r1
   have hsz5 := K5.out.1.1.size
   go_loopg [5, 42] ps.length (fun gg h i wr2 => ∃ k : Nat, k ≤ ps.length ∧ ps.length - k ≤ gg ∧ i = .int .i64 k ∧ h = .int .i64 (headT ps k) ∧ Aside (Below wr.heap.size wr wr2 ∧ ∀ j, j < k → POk rs ps j))
   case atStart => exact ⟨0, Nat.zero_le _, by omega, rfl, rfl, Below.refl _ _, fun j hj => absurd hj (Nat.not_lt_zero _)⟩
   case round =>
    obtain ⟨k, hk, hgg, rfl, rfl, hA⟩ := hrel
    have HA := Lib.hid hA.out
    clear hA
    have K7 := Lib.hid (K5.out.on HA.out.1)
    by_cases hlt : k < ps.length
    ·have hltz : (k : Int) < (ps.length : Int) := by omega
     have hkd : k ≤ d := by have := HT.out.q; dsimp only at this; omega
     have hpa := HT.out.p
     dsimp only at hpa
     obtain ⟨b, off, rfl, lb, hc⟩ := HT.out.p (by show 0 < ps.length; omega)
     obtain ⟨q0, q1, q2⟩ := hc k hlt
     have p0 := (K7.out.1.1.cell (p := ⟨b, off + k * 3, none⟩) lb).trans q0
     have p1 := (K7.out.1.1.cell (p := ⟨b, off + k * 3 + 1, none⟩) lb).trans q1
     have p2 := (K7.out.1.1.cell (p := ⟨b, off + k * 3 + 2, none⟩) lb).trans q2
     have HPA := Lib.hid hpa
     clear q0 q1 q2 hc hpa
     go_upto_region 13 with fail
     have hb6 := (Below.refl _ wr).alloc (Nat.le_refl _) (.cells #[.int .i64 (yAt ps k).id, .int .i64 (yAt ps k).rc, .int .i64 (yAt ps k).wt] 53)
     have K6 := Lib.hid ((K7.out.on hb6).and (stays_blk (blk_new wr #[.int .i64 (yAt ps k).id, .int .i64 (yAt ps k).rc, .int .i64 (yAt ps k).wt] 53 rfl)))
     have HB6 := Lib.hid hb6
     clear hb6 p0 p1 p2
     generalize wr.alloc (.cells #[.int .i64 (yAt ps k).id, .int .i64 (yAt ps k).rc, .int .i64 (yAt ps k).wt] 53) = w6 at *
     have y0 := cr 0 K6.out.1.2
     have y1 := cr 1 K6.out.1.2
     have y2 := cr 2 K6.out.1.2
     have r0 := cr 0 K6.out.1.1.2
     have r1 := cr 1 K6.out.1.1.2
     by_cases hq1 : 1 ≤ (yAt ps k).id ∧ (yAt ps k).id ≤ 1099511627776
     rotate_left
     ·have hw1 : withinB (yAt ps k).id 1 1099511627776 = false := decide_eq_false hq1
      have HQ := Lib.hid hq1
      clear hq1
      go_wp2_with (go_at_call 17; refine (lwithin_any _ _ _ _).mono ?_; rintro e w' ⟨rfl, rfl⟩)
      go_ret
      exact ⟨chR_no (by decide) (fun h => HQ.out (ok_p h.2 hlt).id), K6.out.1.1.1⟩
     have hw1 : withinB (yAt ps k).id 1 1099511627776 = true := decide_eq_true hq1
     have HQ1 := Lib.hid hq1
     clear hq1
     by_cases hq2 : 0 ≤ (yAt ps k).rc ∧ (yAt ps k).rc ≤ (rs.length : Int) - 1
     rotate_left
     ·have hw2 : withinB (yAt ps k).rc 0 ((rs.length : Int) - 1) = false := decide_eq_false hq2
      have HQ := Lib.hid hq2
      clear hq2
      go_wp2_with (go_at_call 17; refine (lwithin_any _ _ _ _).mono ?_; rintro e w' ⟨rfl, rfl⟩)
      go_ret
      exact ⟨chR_no (by decide) (fun h => HQ.out ⟨(ok_p h.2 hlt).rc.1, Int.le_sub_one_of_lt (ok_p h.2 hlt).rc.2⟩), K6.out.1.1.1⟩
     have hw2 : withinB (yAt ps k).rc 0 ((rs.length : Int) - 1) = true := decide_eq_true hq2
     have HQ2 := Lib.hid hq2
     clear hq2
     by_cases hq3 : (yAt ps k).wt < 1
     ·have HQ := Lib.hid hq3
      go_wp2_with (go_at_call 17; refine (lwithin_any _ _ _ _).mono ?_; rintro e w' ⟨rfl, rfl⟩)
      go_ret
      exact ⟨chR_no (by decide) (fun h => Int.not_lt.2 (ok_p h.2 hlt).wt HQ.out), K6.out.1.1.1⟩
     have HQ3 := Lib.hid hq3
     go_upto_region 15 with (go_at_call 17; refine (lwithin_any _ _ _ _).mono ?_; rintro e w' ⟨rfl, rfl⟩)
     clear r0 hw1 hw2
     have hsz6 := K6.out.1.1.1.size
     refine wp_region_R (fun _ => true) ?_
     have K8 := Lib.hid (K6.out.on (Below.refl _ w6).drew)
     have HB8 := Lib.hid (HB6.out.trans ((Below.refl _ w6).drew.mono HB6.out.size))
     have HF := Lib.hid (findY_any (some ⟨b, off, none⟩) d k ps (yAt ps k).id w6.drew ((HPA.out.ext K8.out.1.1.1 (Nat.le_refl _)).mono K8.out.1.1.1.size) (by omega) (by omega))
     generalize w6.drew = X0 at *
     obtain ⟨F, hF⟩ : ∃ F, fdI ps k (yAt ps k).id = F := ⟨_, rfl⟩
     rw [hF] at HF
     have HFF := Lib.hid hF
     clear hF y0 y1 y2 r1
     have r1 := cr 1 K8.out.1.1.2
     have y0 := cr 0 K8.out.1.2
     have y2 := cr 2 K8.out.1.2
     by_cases hf : 0 ≤ F
     ·have hfz : F ≥ 0 := hf
      refine bF 0 rfl ?_
      refine bT r1 1 rfl ?_
      refine bF 2 rfl ?_
      refine bF 3 rfl ?_
      refine bF 4 rfl ?_
      refine bT y0 5 rfl ?_
      refine bR 6 rfl fun K hK => ?_
      go_simp
      refine HF.out.mono ?_
      rintro e X1 ⟨rfl, hb⟩
      dsimp only
      refine hK.out _ _ (fun _ => hb) ?_
      have K9 := Lib.hid (K8.out.on hb)
      clear hK hb
      refine bF 7 rfl ?_
      refine bD ?_
      go_wp2
      go_ret
      exact ⟨chR_no (by decide) (fun h => by
       have h1 := ixF_pos (p := fun i => decide ((yAt ps i).id = (yAt ps k).id)) (n := k) (by show 0 ≤ fdI ps k (yAt ps k).id; rw [HFF.out]; exact hf)
       have h2 := (ixF_rng (p := fun i => decide ((yAt ps i).id = (yAt ps k).id)) k).2
       exact (ok_p h.2 hlt).ids _ (by have : 0 ≤ ixF (fun i => decide ((yAt ps i).id = (yAt ps k).id)) k := (by show 0 ≤ fdI ps k (yAt ps k).id; rw [HFF.out]; exact hf); omega) (of_decide_eq_true h1)), K9.out.1.1.1⟩
     ·have hfz : ¬ F ≥ 0 := hf
      have HFN := Lib.hid hf
      refine bF 0 rfl ?_
      refine bT r1 1 rfl ?_
      refine bF 2 rfl ?_
      refine bF 3 rfl ?_
      refine bF 4 rfl ?_
      refine bT y0 5 rfl ?_
      refine bR 6 rfl fun K hK => ?_
      go_simp
      refine HF.out.mono ?_
      rintro e X1 ⟨rfl, hb⟩
      dsimp only
      refine hK.out _ _ (fun _ => hb) ?_
      have K9 := Lib.hid (K8.out.on hb)
      have HB9 := Lib.hid (HB8.out.trans (hb.mono HB8.out.size))
      clear hK hb r1 y0 y2
      refine bF 7 rfl ?_
      refine bD ?_
      have y2 := cr 2 K9.out.1.2
      have hhT : min (headT ps k + min (yAt ps k).wt 25) 25 = headT ps (k + 1) := by
       have e : sumTo (wtF ps) (k + 1) = sumTo (wtF ps) k + wtF ps k := rfl
       have e2 : wtF ps k = (yAt ps k).wt := rfl
       have hs0 : 0 ≤ sumTo (wtF ps) k := sumTo_nonneg (fun i hi => by have := (HA.out.2 i hi).wt; unfold wtF; omega)
       unfold headT
       omega
      have hs0 : 0 ≤ headT ps k ∧ headT ps k ≤ 25 := by
       have hs0 : 0 ≤ sumTo (wtF ps) k := sumTo_nonneg (fun i hi => by have := (HA.out.2 i hi).wt; unfold wtF; omega)
       unfold headT
       omega
      have hwr : ∀ x : Int, -100 ≤ x → x ≤ 100 → wrap64 x = x := fun x h1 h2 => IntWalk.wrap64_in _ (by omega)
      have hw1 := HQ3.out
      go_wp2
      all_goals
       go_roundg (ps.length - (k + 1))
       case measure => omega
       case rel => exact ⟨k + 1, by omega, by omega, by go_num, by first | (rw [← hhT]; congr 1; omega) | (rw [← hhT]; congr 1; rw [hwr _ (by omega) (by omega)]; omega), (show _ ∧ _ from ⟨HA.out.1.trans (HB9.out.mono HA.out.1.size), fun j hj => by
        by_cases e : j = k
        ·rw [e]
         exact ⟨HQ1.out, ⟨HQ2.out.1, Int.lt_of_le_sub_one HQ2.out.2⟩, HQ3.out, fun j hj e => by
          have h1 := ixF_neg (p := fun i => decide ((yAt ps i).id = (yAt ps k).id)) (n := k) (Int.not_le.1 fun h => by
           have h2 : 0 ≤ fdI ps k (yAt ps k).id := h
           rw [HFF.out] at h2
           exact absurd h2 (Int.not_le.2 HFN.out)) j hj
          exact absurd e (of_decide_eq_false h1)⟩
        ·exact HA.out.2 j (by omega)⟩)⟩
    ·obtain rfl : k = ps.length := by omega
     by_cases hh : sumTo (wtF ps) ps.length ≤ 24
     ·have hhz : ¬ headT ps ps.length > 24 := by unfold headT; omega
      go_wp2
      go_ret
      exact ⟨⟨0, rfl, fun _ => tree_ok hl1 hl2 HR.out HA.out.2 hh, fun _ => rfl⟩, K7.out.1.1⟩
     ·have hhz : headT ps ps.length > 24 := by unfold headT; omega
      have HH := Lib.hid hh
      clear hh
      go_wp2
      go_ret
      exact ⟨chR_no (by decide) (fun h => absurd h.2.sum (Int.not_le.2 HH.out)), K7.out.1.1⟩
end Go.Proofs.YtegmniphgahblaaGreat
