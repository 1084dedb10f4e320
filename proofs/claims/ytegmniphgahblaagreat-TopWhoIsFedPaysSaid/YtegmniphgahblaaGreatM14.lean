/- Walks: slices.Equal of ints; a store of a whole array. | Walks: divides, CheckDivide. | Walks: CheckDivide. | Walks: fedPaid. -/
import Derived.Test.YtegmniphgahblaaGreatW24
import Derived.Deep.CutRange
namespace Go.Proofs.YtegmniphgahblaaGreat
open Go.RowKit Go.Shelf

theorem wp_op_store {P : Program} {op : Oper} {a : Act} {w w' : World} {K : Act → World → Prop} {Q : Exit → Act → World → Prop} {p v : Value} (ty : TypeId) (x y : Operand) (ho : op.op = .store ty x y) (hx : a.eval x = p) (hy : a.eval y = v)
  (hl : (Instr.storeAt ty p v).run P w = .ok () w') (h : K (a.put op.dst undef) w') : Oper.wp P op a w K Q := by
 unfold Oper.wp execOp
 simp only [ho, hx, hy, Sem.run_bind, hl, Result.andThen_ok, Sem.run_pure]
 exact h
set_option maxRecDepth 100000 in
theorem equalI_any (A : Option Addr) (c : Nat) (xs : List Int) (B : Option Addr) (d : Nat) (ys : List Int) (hl : xs.length = ys.length) (hm : xs.length ≤ 1000) (he : ∀ i, i < xs.length → nth xs i = nth ys i) (w : World) (h1 : Rd w w.heap.size A xs) (h2 : Rd w w.heap.size B ys) :
  Calls Tryz.prog 80 #[.slice A xs.length c, .slice B ys.length d] w fun e w' => e = .returned (.bool true) ∧ Below w.heap.size w w' := by
 rw [← hl]
 have HT := hd4 h1 h2 hl he
 clear h1 h2 hl he
 go_enter Tryz.func80, Tryz.ntmps80
 go_upto_region 4 with fail
 go_loopg [13] xs.length (fun gg i wr => ∃ k : Nat, k ≤ xs.length ∧ xs.length - k ≤ gg ∧ i = .int .i64 (k : Int) ∧ Aside (Below w.heap.size w wr))
 case atStart => exact ⟨0, Nat.zero_le _, Nat.le_refl _, by go_num, Below.refl _ _⟩
 case round =>
  obtain ⟨k, hk, hgg, rfl, hA⟩ := hrel
  have HA := Lib.hid hA.out
  clear hA
  by_cases hlt : k < xs.length
  ·have hltz : (k : Int) < (xs.length : Int) := by omega
   obtain ⟨b, off, rfl, lb, hc⟩ := HT.out.1 (by omega)
   obtain ⟨b', off', rfl, lb', hc'⟩ := HT.out.2.1 (by rw [← HT.out.2.2.1]; omega)
   have q0 := (HA.out.cell (p := ⟨b, off + k, none⟩) lb).trans (hc k hlt)
   have q1 := (HA.out.cell (p := ⟨b', off' + k, none⟩) lb').trans (hc' k (by rw [← HT.out.2.2.1]; omega))
   rw [← HT.out.2.2.2 k hlt] at q1
   clear hc hc'
   go_upto_region 6 with fail
   refine wp_region_R (fun _ => true) ?_
   have q0 : wr.drew.cell? ⟨b, off + k, none⟩ = _ := q0
   have q1 : wr.drew.cell? ⟨b', off' + k, none⟩ = _ := q1
   have HD := Lib.hid HA.out.drew
   generalize wr.drew = X at *
   refine bF 0 rfl ?_
   refine bF 1 rfl ?_
   refine bF 2 rfl ?_
   refine bT q0 3 rfl ?_
   refine bF 4 rfl ?_
   refine bF 5 rfl ?_
   refine bF 6 rfl ?_
   refine bT q1 7 rfl ?_
   refine bF 8 rfl ?_
   refine bD ?_
   go_wp2
   go_roundg (xs.length - (k + 1))
   case measure => omega
   case rel => exact ⟨k + 1, by omega, by omega, by go_num, HD.out⟩
  ·obtain rfl : k = xs.length := by omega
   go_wp2
   go_ret
   exact ⟨rfl, HA.out⟩
end Go.Proofs.YtegmniphgahblaaGreat
namespace Go.Proofs.YtegmniphgahblaaGreat
open Go.RowKit Go.Shelf

theorem pa_ok {rs : List Rch} {ps : List Pay} {xs : List Int} (ok : RsOk rs) (pk : PsOk rs ps) (hx : PenceOk ps.length xs) (hf : FairF rs ps (nth xs)) :
  (∀ r i, r < rs.length → i < ps.length → 0 ≤ paF rs ps (nth xs) r i) ∧ (∀ r i, usF rs ps i r = false → paF rs ps (nth xs) r i = 0) ∧ (∀ r, r < rs.length → sumTo (paF rs ps (nth xs) r) ps.length = cuF rs ps r) ∧ (∀ i, i < ps.length → sumTo (fun r => paF rs ps (nth xs) r i) rs.length = nth xs i) :=
 parts_ok ok.ab pk.rcl (used_upC ok pk) (used_rc pk) (fun r hr => (ok.co r hr).1) (fun _ => rfl) (fun i hi => (hx.rng i hi).1) hf.1 hf.2
/-- What the first k reaches have brought; and the first j payers at reach k. -/
def pdM (D : Nat → Nat → Int) (k j i : Nat) : Int := sumTo (fun r => D r i) k + if i < j then D k i else 0
section
variable {D : Nat → Nat → Int} {k j : Nat}
theorem pdM_zero : pdM D 0 0 = fun _ => 0 := by
 funext i
 unfold pdM
 rw [if_neg (Nat.not_lt_zero _)]
 rfl
theorem pdM_next {n : Nat} : ∀ i, i < n → pdM D k n i = pdM D (k + 1) 0 i := fun i hi => by
 unfold pdM
 rw [if_pos hi, if_neg (Nat.not_lt_zero _), Int.add_zero]
 rfl
theorem pdM_at : pdM D k j j = sumTo (fun r => D r j) k := by
 unfold pdM
 rw [if_neg (Nat.lt_irrefl _), Int.add_zero]
theorem pdM_succ : pdM D k (j + 1) = put (pdM D k j) j (sumTo (fun r => D r j) k + D k j) := by
 funext i
 unfold put pdM
 by_cases h : i = j
 ·subst h; rw [if_pos (Nat.lt_succ_self _), if_pos rfl]
 ·rw [if_neg h]
  by_cases h2 : i < j
  ·rw [if_pos h2, if_pos (by omega)]
  ·rw [if_neg h2, if_neg (by omega)]
end
theorem sumTo_part {f : Nat → Int} {n : Nat} (h : ∀ i, i < n → 0 ≤ f i) {j : Nat} (hj : j < n) : 0 ≤ sumTo f j ∧ sumTo f j + f j ≤ sumTo f n := by
 have h1 : ∀ m, j < m → m ≤ n → sumTo f j + f j ≤ sumTo f m := fun m => by
  induction m with
  | zero => intro h _; omega
  | succ m ih =>
   intro hm hn
   have e : sumTo f (m + 1) = sumTo f m + f m := rfl
   by_cases h2 : j = m
   ·subst h2; omega
   ·have := ih (by omega) (by omega)
    have := h m (by omega)
    omega
 exact ⟨sumTo_nonneg fun i hi => h i (by omega), h1 n hj (Nat.le_refl _)⟩
/-- Rows of ints, below a block. -/
def RowsAt (w : World) (B gO m n : Nat) (D : Nat → Nat → Int) : Prop := gO < B ∧ ∀ r, r < m → ∃ g, w.cell? ⟨gO, r, none⟩ = some (.slice (some ⟨g, 0, none⟩) n n) ∧ g < B ∧ (0 < n → IntF w g n (D r))
theorem RowsAt.ext {w w' : World} {B gO m n : Nat} {D : Nat → Nat → Int} (h : RowsAt w B gO m n D) (hb : Below w.heap.size w w') (hB : B ≤ w.heap.size) : RowsAt w' B gO m n D := ⟨h.1, fun r hr => by
 obtain ⟨g, h1, h2, h3⟩ := h.2 r hr
 exact ⟨g, (cell_of_heap (hb.block gO (Nat.lt_of_lt_of_le h.1 hB))).trans h1, h2, fun h0 => (h3 h0).heap (hb.block g (Nat.lt_of_lt_of_le h2 hB))⟩⟩
theorem RowsAt.mono {w : World} {B B' gO m n : Nat} {D : Nat → Nat → Int} (h : RowsAt w B gO m n D) (hB : B ≤ B') : RowsAt w B' gO m n D := ⟨Nat.lt_of_lt_of_le h.1 hB, fun r hr => by
 obtain ⟨g, h1, h2, h3⟩ := h.2 r hr
 exact ⟨g, h1, Nat.lt_of_lt_of_le h2 hB, h3⟩⟩
set_option maxRecDepth 100000 in
set_option maxHeartbeats 3200000 in
theorem divides_any (t : Tr) (ok : RsOk t.rs) (pk : PsOk t.rs t.ps) (C : Option Addr) (e : Nat) (xs : List Int) (hx : PenceOk t.ps.length xs) (hf : FairF t.rs t.ps (nth xs)) (gO : Nat) (w : World) (ht : TrAt w w.heap.size t) (hp : Rd w w.heap.size C xs)
  (hR : RowsAt w w.heap.size gO t.rs.length t.ps.length (paF t.rs t.ps (nth xs))) :
  Calls Tryz.prog 63 #[t.v, .slice C xs.length e, .slice (some ⟨gO, 0, none⟩) t.rs.length t.rs.length] w fun e' w' => e' = .returned (.bool true) ∧ Below w.heap.size w w' := by
 obtain ⟨d1, d2, d3, d4⟩ := pa_ok ok pk hx hf
 have hwe := fun W hW => weights_any t ok pk W hW
 have hn24 := pk.n
 have hr24 := ok.n
 have hmi := fun W => make_ints t.ps.length (by omega) W
 obtain ⟨A, c, rs, B, d, ps⟩ := t
 dsimp only [Tr.v] at *
 generalize hDD : paF rs ps (nth xs) = D at *
 clear hDD
 have hb1 := (Below.refl _ w).alloc (Nat.le_refl _) (.cells #[.slice A rs.length c, .slice B ps.length d] 42)
 have K := Lib.hid ((((stays_bl hb1).and (stays_blk (blk_new w (g := w.heap.size) #[.slice A rs.length c, .slice B ps.length d] 42 rfl))).and (stays_tr ((ht.ext hb1 (Nat.le_refl _)).mono hb1.size))).and (stays_rd ((hp.below hb1 (Nat.le_refl _)).mono hb1.size)))
 have rd0 := Lib.hid hp
 have HT := hd6 ht ok pk hx hR hwe
 have HD := hd4 d1 d2 d3 d4
 clear hb1 ht hp hx hf ok pk hR hwe d1 d2 d3 d4
 go_enter Tryz.func63, Tryz.ntmps63
 go_upto_region 1 with fail
 have hlt0 : w.heap.size < (w.alloc (.cells #[.slice A rs.length c, .slice B ps.length d] 42)).heap.size := by simp
 generalize w.alloc (.cells #[.slice A rs.length c, .slice B ps.length d] 42) = W0 at *
 have r0 := cr 0 K.out.1.1.1.2
 have r1 := cr 1 K.out.1.1.1.2
 have HW := Lib.hid (HT.out.2.2.2.2.2 W0 K.out.1.1.2)
 go_upto_region 4 with (first | (go_at_call 60; refine HW.out.mono ?_; rintro e w5 ⟨rfl, hb⟩; obtain ⟨W5, hst, ha5, hb5, hz5⟩ := arr_new w5 (allF rs ps)) | (refine wpList_plain rfl fun KK hKK => wp_op_store 125 (.tmp 7) (.tmp 21) rfl (by rfl) (by rfl) hst (hKK _ _ ?_)))
 dsimp only [Act.put]
 clear r0 r1 hst
 have hb45 := hb.trans (hb5.mono hb.size)
 have K5 := Lib.hid ((K.out.on hb45).and (stays_arr ha5))
 have hg8' : w.heap.size < w5.heap.size := Nat.lt_of_lt_of_le hlt0 hb.size
 clear hb hb5 hb45 ha5 K HW
 generalize hg8 : w5.heap.size = g8 at *
 have r0 := cr 0 K5.out.1.1.1.1.2
 have r1 := cr 1 K5.out.1.1.1.1.2
 go_upto_region 6 with fail
 have hbR := (Below.refl _ W5).alloc (Nat.le_refl _) (.cells (Array.replicate ps.length (Value.int .i64 0)) 3)
 have hpd := made_intF ps.length W5
 rw [hz5] at hpd
 have K6 := hd2 (K5.out.on hbR).1 hpd
 have hz6 : (W5.alloc (.cells (Array.replicate ps.length (Value.int .i64 0)) 3)).heap.size = g8 + 1 + 1 := by simp [hz5]
 clear hbR hpd K5 r0 r1
 generalize W5.alloc (.cells (Array.replicate ps.length (Value.int .i64 0)) 3) = V at *
 obtain ⟨⟨⟨⟨⟨bl, k0⟩, tr⟩, rd⟩, ar⟩, pd0⟩ := K6.out
 have HX : Hid (∀ X, ButB (fun b => b = g8 + 1) V X → Blk X w.heap.size #[.slice A rs.length c, .slice B ps.length d] 42 ∧ ArrAt X g8 125 24 (allF rs ps) ∧ Below w.heap.size w X) :=
  Lib.hid fun X hX => ⟨hX.heap k0 (by omega), ar.block (hX.same _ ar.lt (by omega)), bl.trans (hX.below bl.size (by intro b hb; omega))⟩
 have P0 : IntF V (g8 + 1) ps.length (pdM D 0 0) := by rw [pdM_zero]; exact pd0
 clear bl k0 tr ar pd0 K6
 go_loopg [28] rs.length (fun gg i wr => ∃ k : Nat, k ≤ rs.length ∧ rs.length - k ≤ gg ∧ i = .int .i64 (k : Int) ∧ Aside (ButB (fun b => b = g8 + 1) V wr ∧ IntF wr (g8 + 1) ps.length (pdM D k 0)))
 case atStart => exact ⟨0, Nat.zero_le _, Nat.le_refl _, by go_num, ButB.refl _ _, P0⟩
 case round =>
  obtain ⟨k, hk, hgg, rfl, hA⟩ := hrel
  have HA := Lib.hid hA.out
  clear hA P0
  have hbx := HX.out wr HA.out.1
  by_cases hlt : k < rs.length
  ·have hltz : (k : Int) < (rs.length : Int) := by omega
   have hk24 : k < 24 := by omega
   have hkz : (k : Int) < 24 := by omega
   obtain ⟨g, hg1, hg2, hg3⟩ := HT.out.2.2.2.2.1.2 k hlt
   have q0 := (hbx.2.2.cell (p := ⟨gO, k, none⟩) HT.out.2.2.2.2.1.1).trans hg1
   have r0 := cr 0 hbx.1
   have r1 := cr 1 hbx.1
   have a8 := hbx.2.1.cell hk24
   obtain ⟨b, off, rfl, lb, hc⟩ := HT.out.1.r (by show 0 < rs.length; omega)
   have q1 := (hbx.2.2.cell (p := ⟨b, off + k * 2 + 1, none⟩) lb).trans (hc k hlt).2
   have hcu : cuF rs ps k = if usedB rs ps k = true then coF rs k else 0 := rfl
   have hcr := cuF_rng (ps := ps) HT.out.2.1 k hlt
   have hco := (HT.out.2.1.co k hlt).2
   have hcF : coF rs k = (rAt rs k).co := rfl
   have hal := allF_rng HT.out.2.2.1 k
   have HB := hd2 hbx hg3
   clear hc hg1 hbx hg3
   rename World => wr0
   go_upto_if 48 with fail
   go_cut [11] from 35 to 90 (fun s11 w' => s11 = .int .i64 (cuF rs ps k) ∧ wr0 = w')
   case first =>
    by_cases hz : allF rs ps k = 0
    ·have hV : cuF rs ps k = 0 := by rw [hcu, if_neg (show ¬ usedB rs ps k = true from fun h => by have := of_decide_eq_true h; omega)]
     go_wp2_with fail
     go_meet
     case rel => exact ⟨by rw [hV], rfl⟩
    ·have hV : cuF rs ps k = (rAt rs k).co := by rw [hcu, if_pos (show usedB rs ps k = true from decide_eq_true (by omega))]; rfl
     go_wp2_with fail
     go_meet
     case rel => exact ⟨by rw [hV], rfl⟩
   obtain ⟨rfl, rfl⟩ := hcut
   clear hcu hcF hco hal q0 q1 a8
   have hsz0 := HA.out.1.size
   go_upto_region 14 with fail
   go_loopg [11, 51] ps.length (fun gg s i wr => ∃ j : Nat, j ≤ ps.length ∧ ps.length - j ≤ gg ∧ i = .int .i64 (j : Int) ∧ s = .int .i64 (cuF rs ps k - sumTo (D k) j) ∧ Aside (ButB (fun b => b = g8 + 1) V wr ∧ IntF wr (g8 + 1) ps.length (pdM D k j)))
   case atStart => exact ⟨0, Nat.zero_le _, Nat.le_refl _, by go_num, by show _ = Value.int .i64 (cuF rs ps k - 0); rw [Int.sub_zero], HA.out⟩
   case round =>
    obtain ⟨j, hj, hgj, rfl, rfl, hA⟩ := hrel
    have HA' := Lib.hid hA.out
    clear hA
    by_cases hlj : j < ps.length
    ·have hljz : (j : Int) < (ps.length : Int) := by omega
     have h0 : 0 < ps.length := by omega
     have hbx := HX.out wr HA'.out.1
     have hrow := (HB.out.2 h0).heap (hbx.2.2.block g hg2)
     have q0 := hrow.at_ j hlj
     have r0 := cr 0 hbx.1
     have r1 := cr 1 hbx.1
     obtain ⟨b', off', rfl, lb', hc'⟩ := HT.out.1.p h0
     obtain ⟨u0, u1, u2⟩ := hc' j hlj
     dsimp only at u0 u1 u2
     have p0 := (hbx.2.2.cell (p := ⟨b', off' + j * 3, none⟩) lb').trans u0
     have p1 := (hbx.2.2.cell (p := ⟨b', off' + j * 3 + 1, none⟩) lb').trans u1
     have p2 := (hbx.2.2.cell (p := ⟨b', off' + j * 3 + 2, none⟩) lb').trans u2
     have hsz := HA'.out.1.size
     have hbs := hbx.2.2.size
     have lb2 : b' < wr.heap.size := by omega
     have lw2 : w.heap.size < wr.heap.size := by omega
     have hDp := HD.out.1 k j hlt hlj
     have hDs := HD.out.2.2.1 k hlt
     have hpart := sumTo_part (f := D k) (n := ps.length) (fun i hi => HD.out.1 k i hlt hi) hlj
     have hin : withinB (D k j) 0 (cuF rs ps k - sumTo (D k) j) = true := decide_eq_true ⟨hDp, by omega⟩
     have hrc := HT.out.2.2.1.rc j hlj
     have huse : ∀ W, Below wr.heap.size wr W → Calls Tryz.prog 62 #[.agg #[.slice (some ⟨b, off, none⟩) rs.length c, .slice (some ⟨b', off', none⟩) ps.length d], .agg #[.int .i64 (yAt ps j).id, .int .i64 (yAt ps j).rc, .int .i64 (yAt ps j).wt], .int .i64 (k : Int)] W fun e w' => e = .returned (.bool (usB rs (yAt ps j) k)) ∧ Below W.heap.size W w' := fun W hW =>
      uses_any ⟨some ⟨b, off, none⟩, c, rs, some ⟨b', off', none⟩, d, ps⟩ HT.out.2.1 (yAt ps j) (by omega) hrc.2 k W ((HT.out.1.ext (hbx.2.2.trans (hW.mono hbx.2.2.size)) (Nat.le_refl _)).mono (Nat.le_trans hbx.2.2.size hW.size))
     have husB := usB_us HT.out.2.1 HT.out.2.2.1 hlj k
     have hoff := HD.out.2.1 k j
     have HE := hd3 huse husB hoff
     clear u0 u1 u2 hc' hrow hbx huse husB hoff hrc
     rename World => wr1
     go_upto_region 16 with fail
     go_cut [74] from 56 to 87 (fun s74 w' => s74 = .bool false ∧ Aside (Below wr1.heap.size wr1 w'))
     case first =>
      by_cases hpos : 0 < D k j
      ·have hus : usB rs (yAt ps j) k = true := by
        rw [HE.out.2.1]
        show usF rs ps j k = true
        cases h : usF rs ps j k
        ·have := HE.out.2.2 h; omega
        ·rfl
       have hu := HE.out.1
       rw [hus] at hu
       have HU := Lib.hid hu
       clear hu hus
       refine wp_region_ext (by kernel_rfl) (by kernel_rfl) ?_
       intro ι _ X hX hC
       have rX := fun k => (bcell (hX k)).1
       repeat (first | go_big_quiet_skip | (go_big_quiet_want; go_big_quiet_op; first | go_big_quiet_on | (apply Exists.intro; refine ⟨fun _ => ?_, ?_⟩; (focus (first | (go_at_call 17; exact Calls.ext_same (hin ▸ lwithin_any _ _ _ _)) | (go_at_call 62; exact Calls.ext_of hX hC (HU.out _ (hX _))))); go_big_quiet_on)))
       refine wpQuiet_nil ?_
       intro w1 hb1
       clear rX hX hC
       have HB1 := Lib.hid hb1
       clear hb1
       go_wp2_with fail
       go_meet
       case rel => exact ⟨rfl, HB1.out⟩
      ·have hz : ¬ D k j > 0 := hpos
       have hzb : decide (D k j > 0) = false := decide_eq_false hz
       refine wp_region_ext (by kernel_rfl) (by kernel_rfl) ?_
       intro ι _ X hX hC
       have rX := fun k => (bcell (hX k)).1
       repeat (first | go_big_quiet_skip | (go_big_quiet_want; go_big_quiet_op; first | go_big_quiet_on | (apply Exists.intro; refine ⟨fun _ => ?_, ?_⟩; (focus (go_at_call 17; exact Calls.ext_same (hin ▸ lwithin_any _ _ _ _))); go_big_quiet_on)))
       refine wpQuiet_nil ?_
       intro w1 hb1
       clear rX hX hC
       have HB1 := Lib.hid hb1
       clear hb1
       go_wp2_with fail
       go_meet
       case rel => exact ⟨rfl, HB1.out⟩
     obtain ⟨rfl, hcb⟩ := hcut
     have hW := HA'.out.1.trans (ButB.of_below (p := fun b => b = g8 + 1) hcb.out)
     have pW := HA'.out.2.heap (hcb.out.block (g8 + 1) (by omega))
     have hdl : sumTo (D k) (j + 1) = sumTo (D k) j + D k j := rfl
     have hcol := sumTo_part (f := fun r => D r j) (n := rs.length) (fun i hi => HD.out.1 i j hi hlj) hlt
     have hxs := HD.out.2.2.2 j hlj
     have hxr := HT.out.2.2.2.1.rng j hlj
     have w1 : IntKind.i64.wrap (cuF rs ps k - sumTo (D k) j - D k j) = cuF rs ps k - sumTo (D k) (j + 1) := by
      rw [show cuF rs ps k - sumTo (D k) (j + 1) = cuF rs ps k - sumTo (D k) j - D k j by omega]
      exact IntWalk.i64_in _ (by have := (HT.out.2.1.co k hlt).2; have h5 : coF rs k = (rAt rs k).co := rfl; omega)
     have w2 : IntKind.i64.wrap (sumTo (fun r => D r j) k + D k j) = sumTo (fun r => D r j) k + D k j := IntWalk.i64_in _ (by omega)
     have hps : Hid (pdM D k (j + 1) = put (pdM D k j) j (sumTo (fun r => D r j) k + D k j)) := Lib.hid pdM_succ
     clear hdl hcol hxs hxr hpart hDp hDs hin p0 p1 p2 q0 r0 r1 HE
     go_upto_region 18 with fail
     refine wp_region_R (fun j => j != 13) ?_
     have a0 : wc.drew.cell? ⟨g8 + 1, j, none⟩ = some (.int .i64 (sumTo (fun r => D r j) k)) := by rw [← pdM_at]; exact pW.at_ j hlj
     have f0 : wc.drew.frozen? ⟨g8 + 1, j, none⟩ = false := pW.fz j
     have HF : Hid (ButB (fun b => b = g8 + 1) V (wc.drew.setCell ⟨g8 + 1, j, none⟩ (.int .i64 (sumTo (fun r => D r j) k + D k j))) ∧ IntF (wc.drew.setCell ⟨g8 + 1, j, none⟩ (.int .i64 (sumTo (fun r => D r j) k + D k j))) (g8 + 1) ps.length (pdM D k (j + 1))) := Lib.hid ⟨hW.drew.set (a := ⟨g8 + 1, j, none⟩) rfl _, by rw [hps.out]; exact (pW.heap (W' := wc.drew) rfl).set hlj _⟩
     clear hps hW pW
     generalize wc.drew = X0 at *
     refine bF 0 rfl ?_
     refine bF 1 rfl ?_
     refine bF 2 rfl ?_
     refine bF 3 rfl ?_
     refine bF 4 rfl ?_
     refine bF 5 rfl ?_
     refine bF 6 rfl ?_
     refine bF 7 rfl ?_
     refine bT a0 8 rfl ?_
     refine bF 9 rfl ?_
     refine bF 10 rfl ?_
     refine bF 11 rfl ?_
     refine bF 12 rfl ?_
     refine bR 13 rfl fun K hK => ?_
     go_simp
     refine hK.out _ _ (fun h => by cases h) ?_
     refine bD ?_
     go_wp2
     go_roundg (ps.length - (j + 1))
     case measure => omega
     case rel => exact ⟨j + 1, by omega, by omega, by go_num, rfl, HF.out⟩
    ·obtain rfl : j = ps.length := by omega
     have hDs := HD.out.2.2.1 k hlt
     have hz0 : cuF rs ps k - sumTo (D k) ps.length = 0 := by omega
     have HF := hd2 HA'.out.1 (HA'.out.2.congr pdM_next)
     clear HA' HA
     rename World => wr1
     go_wp2
     go_roundg (rs.length - (k + 1))
     case measure => omega
     case rel => exact ⟨k + 1, by omega, by omega, by go_num, HF.out⟩
  ·obtain rfl : k = rs.length := by omega
   have hsz := HA.out.1.size
   have hrd : Rd wr wr.heap.size C xs := (rd0.out.below hbx.2.2 (Nat.le_refl _)).mono hbx.2.2.size
   have hpd : Rd wr wr.heap.size (some ⟨g8 + 1, 0, none⟩) (tb ps.length (pdM D rs.length 0)) := IntF.rd (by rw [tb_len]; exact HA.out.2) (by omega) (fun j hj => (tb_at (by rw [tb_len] at hj; exact hj)).symm)
   have heq := equalI_any (some ⟨g8 + 1, 0, none⟩) ps.length (tb ps.length (pdM D rs.length 0)) C e xs (by rw [tb_len, HT.out.2.2.2.1.len]) (by rw [tb_len]; omega) (fun i hi => by
    rw [tb_len] at hi
    rw [tb_at hi, ← HD.out.2.2.2 i hi]
    unfold pdM
    rw [if_neg (Nat.not_lt_zero _), Int.add_zero]) wr hpd hrd
   rw [tb_len] at heq
   have HE := hd2 heq hbx.2.2
   clear heq hpd hrd hbx HA
   go_wp2_with (refine HE.out.1.mono ?_; rintro e' w2 ⟨rfl, hb⟩; have HB := Lib.hid hb; clear hb)
   go_ret
   exact ⟨rfl, HE.out.2.trans (HB.out.mono HE.out.2.size)⟩
end Go.Proofs.YtegmniphgahblaaGreat
namespace Go.Proofs.YtegmniphgahblaaGreat
open Go.RowKit Go.Shelf

set_option maxRecDepth 100000 in
theorem CheckDivide_any (t : Tr) (ok : RsOk t.rs) (pk : PsOk t.rs t.ps) (C : Option Addr) (e : Nat) (xs : List Int) (hx : PenceOk t.ps.length xs) (hf : FairF t.rs t.ps (nth xs)) (gO : Nat) (w : World) (ht : TrAt w w.heap.size t) (hp : Rd w w.heap.size C xs)
  (hR : RowsAt w w.heap.size gO t.rs.length t.ps.length (paF t.rs t.ps (nth xs))) :
  Calls Tryz.prog 28 #[t.v, .slice C xs.length e, .slice (some ⟨gO, 0, none⟩) t.rs.length t.rs.length] w fun e' w' => e' = .returned (.int .i64 0) ∧ Below w.heap.size w w' := by
 have hs := fun W hW1 hW2 => sums_any t ok pk C e xs hx W hW1 hW2
 have hd := fun W hW1 hW2 hW3 => divides_any t ok pk C e xs hx hf gO W hW1 hW2 hW3
 obtain ⟨A, c, rs, B, d, ps⟩ := t
 dsimp only [Tr.v] at *
 have hb1 := (Below.refl _ w).alloc (Nat.le_refl _) (.cells #[.slice A rs.length c, .slice B ps.length d] 42)
 have h1 := hs (w.alloc (.cells #[.slice A rs.length c, .slice B ps.length d] 42)) ((ht.ext hb1 (Nat.le_refl _)).mono hb1.size) ((hp.below hb1 (Nat.le_refl _)).mono hb1.size)
 have HK := hd7 hb1 h1 (blk_new w (g := w.heap.size) #[.slice A rs.length c, .slice B ps.length d] 42 rfl) hd ht hp hR
 clear hb1 h1 ht hp hx hf ok pk hs hd hR
 go_enter Tryz.func28, Tryz.ntmps28
 go_upto_region 1 with fail
 generalize w.alloc (.cells #[.slice A rs.length c, .slice B ps.length d] 42) = W1 at *
 have r0 := cr 0 HK.out.2.2.1
 have r1 := cr 1 HK.out.2.2.1
 go_wp2_with (first | (go_at_call 58; refine HK.out.2.1.mono ?_; rintro e w1 ⟨rfl, hb2⟩; have HK1 := hd2 (HK.out.1.trans (hb2.mono HK.out.1.size)) ((hb2.block w.heap.size (Array.getElem?_eq_some_iff.1 HK.out.2.2.1).1).trans HK.out.2.2.1); clear hb2 r0 r1; have r0 := cr 0 HK1.out.2; have r1 := cr 1 HK1.out.2; have HI := Lib.hid (HK.out.2.2.2.1 w1 ((HK.out.2.2.2.2.1.ext HK1.out.1 (Nat.le_refl _)).mono HK1.out.1.size) ((HK.out.2.2.2.2.2.1.below HK1.out.1 (Nat.le_refl _)).mono HK1.out.1.size) ((HK.out.2.2.2.2.2.2.ext HK1.out.1 (Nat.le_refl _)).mono HK1.out.1.size))) | (go_at_call 63; refine HI.out.mono ?_; rintro e w2 ⟨rfl, hb3⟩; have HK2 := Lib.hid (HK1.out.1.trans (hb3.mono HK1.out.1.size)); clear hb3))
 go_ret
 exact ⟨rfl, HK2.out⟩
end Go.Proofs.YtegmniphgahblaaGreat
namespace Go.Proofs.YtegmniphgahblaaGreat
open Go.RowKit Go.Shelf

section
variable {rs : List Rch} {ps : List Pay}
theorem used_lt (ok : RsOk rs) (pk : PsOk rs ps) {r : Nat} (h : usedB rs ps r = true) : r < rs.length := by
 obtain ⟨i, hi, hu⟩ := used_by r (of_decide_eq_true h)
 have := isUp_le ok.ab _ (pk.rcl i hi) hu
 have := pk.rcl i hi
 omega
theorem usL_sum : ∀ k, ((usL rs ps k).map (coF rs)).sum = sumTo (cuF rs ps) k
 | 0 => rfl
 | k + 1 => by
  have h := usL_sum k
  have e : sumTo (cuF rs ps) (k + 1) = sumTo (cuF rs ps) k + cuF rs ps k := rfl
  rw [usL_succ, e]
  unfold cuF at *
  by_cases hu : usedB rs ps k = true
  ·rw [if_pos hu, if_pos hu, List.map_append, List.sum_append, h]
   simp
  ·rw [if_neg hu, if_neg hu, h, Int.add_zero]
theorem whole_usL (ok : RsOk rs) (pk : PsOk rs ps) : ((usL rs ps 24).map (coF rs)).sum = wholeF rs ps := by
 rw [usL_sum]
 have h : ∀ k, rs.length ≤ k → sumTo (cuF rs ps) k = wholeF rs ps := fun k => by
  induction k with
  | zero => intro hk; unfold wholeF; rw [show rs.length = 0 by omega]
  | succ k ih =>
   intro hk
   by_cases e : rs.length ≤ k
   ·have h2 : cuF rs ps k = 0 := if_neg fun h => by have := used_lt ok pk h; omega
    show sumTo (cuF rs ps) k + cuF rs ps k = _
    rw [ih e, h2, Int.add_zero]
   ·unfold wholeF; rw [show rs.length = k + 1 by omega]
 exact h 24 ok.n
theorem usL_lt (ok : RsOk rs) (pk : PsOk rs ps) : ∀ r ∈ usL rs ps 24, r < rs.length := fun _ hr => used_lt ok pk (List.mem_filter.1 hr).2
/-- What the first i reaches of a list cost. -/
def coS (rs : List Rch) (l : List Nat) (i : Nat) : Int := ((l.take i).map (coF rs)).sum
theorem coS_succ (l : List Nat) {i : Nat} (h : i < l.length) : coS rs l (i + 1) = coS rs l i + coF rs (l.getD i 0) := by
 unfold coS
 rw [List.take_succ_eq_append_getElem h, List.map_append, List.sum_append]
 simp [List.getD_eq_getElem?_getD, h]
theorem coS_all (l : List Nat) : coS rs l l.length = (l.map (coF rs)).sum := by
 unfold coS
 rw [List.take_length]
theorem coS_rng (ok : RsOk rs) {l : List Nat} (hl : ∀ r ∈ l, r < rs.length) : ∀ i, i ≤ l.length → 0 ≤ coS rs l i ∧ coS rs l i ≤ 65536 * i
 | 0, _ => ⟨Int.le_refl _, Int.le_refl _⟩
 | i + 1, h => by
  have h1 := coS_rng ok hl i (by omega)
  have hm : l.getD i 0 ∈ l := by
   rw [List.getD_eq_getElem?_getD, List.getElem?_eq_getElem (by omega)]
   exact List.getElem_mem _
  have h2 := ok.co _ (hl _ hm)
  have h3 : coF rs (l.getD i 0) = (rAt rs (l.getD i 0)).co := rfl
  rw [coS_succ l (by omega)]
  omega
end
set_option maxRecDepth 100000 in
set_option maxHeartbeats 3200000 in
theorem fedPaid_any (t : Tr) (ok : RsOk t.rs) (pk : PsOk t.rs t.ps) (w : World) (ht : TrAt w w.heap.size t) :
  Calls Tryz.prog 9 #[t.v] w fun e w' => e = .returned (.bool true) ∧ Below w.heap.size w w' := by
 have hpe := fun W hW => Pence_any t ok pk W hW
 have hfa := fun C e xs hx hf W hW1 hW2 => Fair_any t ok pk C e xs hx hf W hW1 hW2
 have hus := fun W hW => Used_any t ok pk W hW
 have hdi := fun C e xs hx hf W hW1 hW2 => Divide_any t ok pk C e xs hx hf W hW1 hW2
 have hck := fun C e xs hx hf gO W hW1 hW2 hW3 => CheckDivide_any t ok pk C e xs hx hf gO W hW1 hW2 hW3
 have hul := usL_lt ok pk
 have huw := whole_usL ok pk
 have hul24 := usL_len t.rs t.ps 24
 have hn24 := pk.n
 have hr24 := ok.n
 obtain ⟨A, c, rs, B, d, ps⟩ := t
 dsimp only [Tr.v] at *
 have hb1 := (Below.refl _ w).alloc (Nat.le_refl _) (.cells #[.slice A rs.length c, .slice B ps.length d] 42)
 have K := Lib.hid (((stays_bl hb1).and (stays_blk (blk_new w (g := w.heap.size) #[.slice A rs.length c, .slice B ps.length d] 42 rfl))).and (stays_tr ((ht.ext hb1 (Nat.le_refl _)).mono hb1.size)))
 have HS := hd5 hpe hfa hus hdi hck
 have HT := hd5 ht ok pk hul huw
 clear hb1 ht ok pk hpe hfa hus hdi hck hul huw
 go_enter Tryz.func9, Tryz.ntmps9
 go_upto_region 1 with fail
 generalize w.alloc (.cells #[.slice A rs.length c, .slice B ps.length d] 42) = W0 at *
 have r0 := cr 0 K.out.1.1.2
 have r1 := cr 1 K.out.1.1.2
 go_upto_region 2 with (go_at_call 24; refine (HS.out.1 W0 K.out.1.2).mono ?_; rintro e w1 ⟨⟨P, cP, xs, rfl, hx, hf, hrd⟩, hb⟩; have K1 := Lib.hid ((K.out.on hb).and (stays_rd hrd)); have HX := hd2 hx hf; clear hb r0 r1 hx hf hrd; have r0 := cr 0 K1.out.1.1.1.2; have r1 := cr 1 K1.out.1.1.1.2)
 go_upto_region 3 with (go_at_call 25; refine (HS.out.2.1 _ _ _ HX.out.1 HX.out.2 w1 K1.out.1.1.2 K1.out.1.2).mono ?_; rintro e w2 ⟨rfl, hb⟩; have K2 := Lib.hid (K1.out.on hb); clear hb r0 r1; have r0 := cr 0 K2.out.1.1.1.2; have r1 := cr 1 K2.out.1.1.1.2)
 go_upto_region 8 with (go_at_call 26; refine (HS.out.2.2.1 w2 K2.out.1.1.2).mono ?_; rintro e w3 ⟨⟨U, cU, rfl, hrd, -⟩, hb⟩; have K3 := Lib.hid ((K2.out.on hb).and (stays_rd hrd)); clear hb r0 r1 hrd)
 obtain ⟨L, hL⟩ : ∃ L, L = usL rs ps 24 := ⟨_, rfl⟩
 rw [← hL] at HT K3 hul24 ⊢
 clear hL
 have hlt0 : w.heap.size < w3.heap.size := (Array.getElem?_eq_some_iff.1 K3.out.1.1.1.1.2).1
 go_loopg [9, 10] L.length (fun gg s i wr => ∃ k : Nat, k ≤ L.length ∧ L.length - k ≤ gg ∧ i = .int .i64 (k : Int) ∧ s = .int .i64 (coS rs L k) ∧ Aside (Below w3.heap.size w3 wr))
 case atStart => exact ⟨0, Nat.zero_le _, Nat.le_refl _, by go_num, rfl, Below.refl _ _⟩
 case round =>
  obtain ⟨k, hk, hgg, rfl, rfl, hA⟩ := hrel
  have K4 := Lib.hid (K3.out.on hA.out)
  have HA := Lib.hid hA.out
  clear hA
  by_cases hlt : k < L.length
  ·have hltz : (k : Int) < (L.length : Int) := by omega
   have hm : L.getD k 0 ∈ L := by
    rw [List.getD_eq_getElem?_getD, List.getElem?_eq_getElem hlt]
    exact List.getElem_mem _
   have hrl := HT.out.2.2.2.1 _ hm
   have hcs := coS_succ (rs := rs) L hlt
   have hcr := coS_rng HT.out.2.1 HT.out.2.2.2.1 k hk
   have hco := HT.out.2.1.co _ hrl
   have hcF : coF rs (L.getD k 0) = (rAt rs (L.getD k 0)).co := rfl
   obtain ⟨b, off, rfl, lb, hc⟩ := K4.out.1.2 (by rw [ints_length]; omega)
   have u0 := hc k (by rw [ints_length]; exact hlt)
   rw [nth_ints hlt] at u0
   obtain ⟨b', off', rfl, lb', hc'⟩ := HT.out.1.r (by show 0 < rs.length; omega)
   have c0 := (K4.out.1.1.1.1.1.cell (p := ⟨b', off' + L.getD k 0 * 2 + 1, none⟩) lb').trans (hc' _ hrl).2
   have t0 := cr 0 K4.out.1.1.1.1.2
   have hw : IntKind.i64.wrap (coS rs L k + (rAt rs (L.getD k 0)).co) = coS rs L (k + 1) := by
    rw [hcs, hcF]
    exact IntWalk.i64_in _ (by omega)
   clear hc hc' hcs hcr hco hcF hm
   generalize L.getD k 0 = r at *
   have hrz : (r : Int) < (rs.length : Int) := by omega
   have hd : decide ((r : Int) < 0) = false := decide_eq_false (by omega)
   have hge : decide ((r : Int) ≥ (rs.length : Int)) = false := decide_eq_false (by omega)
   go_upto_region 10 with fail
   refine wp_region_R (fun _ => true) ?_
   have u1 : wr.drew.cell? ⟨b, off + k, none⟩ = _ := u0
   have t1 : wr.drew.cell? ⟨w.heap.size, 0, none⟩ = _ := t0
   have c1 : wr.drew.cell? ⟨b', off' + r * 2 + 1, none⟩ = _ := c0
   have HD := Lib.hid (HA.out.drew)
   clear u0 t0 c0
   generalize wr.drew = X at *
   refine bF 0 rfl ?_
   refine bF 1 rfl ?_
   refine bF 2 rfl ?_
   refine bT u1 3 rfl ?_
   refine bF 4 rfl ?_
   refine bF 5 rfl ?_
   refine bF 6 rfl ?_
   refine bF 7 rfl ?_
   refine bF 8 rfl ?_
   refine bT u1 9 rfl ?_
   refine bF 10 rfl ?_
   refine bT t1 11 rfl ?_
   refine bF 12 rfl ?_
   refine bF 13 rfl ?_
   refine bF 14 rfl ?_
   refine bD ?_
   go_upto_region 12 with fail
   refine wp_region_R (fun _ => true) ?_
   have u2 : X.drew.cell? ⟨b, off + k, none⟩ = _ := u1
   have t2 : X.drew.cell? ⟨w.heap.size, 0, none⟩ = _ := t1
   have c2 : X.drew.cell? ⟨b', off' + r * 2 + 1, none⟩ = _ := c1
   have HE := Lib.hid (HD.out.drew)
   clear u1 t1 c1
   generalize X.drew = Y at *
   refine bF 0 rfl ?_
   refine bF 1 rfl ?_
   refine bT t2 2 rfl ?_
   refine bF 3 rfl ?_
   refine bF 4 rfl ?_
   refine bF 5 rfl ?_
   refine bT u2 6 rfl ?_
   refine bF 7 rfl ?_
   refine bF 8 rfl ?_
   refine bT c2 9 rfl ?_
   refine bF 10 rfl ?_
   refine bF 11 rfl ?_
   refine bD ?_
   go_wp2
   go_roundg (L.length - (k + 1))
   case measure => omega
   case rel => exact ⟨k + 1, by omega, by omega, by go_num, rfl, HE.out⟩
  ·obtain rfl : k = L.length := by omega
   rename World => wr0
   have hcw : coS rs L L.length = wholeF rs ps := by rw [coS_all]; exact HT.out.2.2.2.2
   have hwh := wholeF_rng (ps := ps) HT.out.2.1
   rw [hcw]
   clear hcw
   go_upto_region 14 with fail
   go_loopg [9, 11] ps.length (fun gg s i wr => ∃ k : Nat, k ≤ ps.length ∧ ps.length - k ≤ gg ∧ i = .int .i64 (k : Int) ∧ s = .int .i64 (wholeF rs ps - sumTo (nth xs) k) ∧ wr0 = wr)
   case atStart => exact ⟨0, Nat.zero_le _, Nat.le_refl _, by go_num, by show _ = Value.int .i64 (wholeF rs ps - 0); rw [Int.sub_zero], rfl⟩
   case round =>
    obtain ⟨k, hk, hgg, rfl, rfl, rfl⟩ := hrel
    have hlen := HX.out.1.len
    by_cases hlt : k < ps.length
    ·have hltz : (k : Int) < (xs.length : Int) := by omega
     obtain ⟨b, off, rfl, lb, hc⟩ := K4.out.1.1.2 (by omega)
     have u0 := hc k (by omega)
     have h1 := HX.out.1.sum hn24 hk
     have h2 := HX.out.1.rng k hlt
     have hs : sumTo (nth xs) (k + 1) = sumTo (nth xs) k + nth xs k := rfl
     have hw : IntKind.i64.wrap (wholeF rs ps - sumTo (nth xs) k - nth xs k) = wholeF rs ps - sumTo (nth xs) (k + 1) := by
      rw [hs, show wholeF rs ps - (sumTo (nth xs) k + nth xs k) = wholeF rs ps - sumTo (nth xs) k - nth xs k by omega]
      exact IntWalk.i64_in _ (by omega)
     clear hc h1 h2 hs hlen
     go_wp2
     go_roundg (ps.length - (k + 1))
     case measure => omega
     case rel => exact ⟨k + 1, by omega, by omega, by go_num, rfl, rfl⟩
    ·obtain rfl : k = ps.length := by omega
     have hnl : ¬ (ps.length : Int) < (xs.length : Int) := by omega
     have hz : wholeF rs ps - sumTo (nth xs) ps.length = 0 := by have := HX.out.2.1; omega
     have r0 := cr 0 K4.out.1.1.1.1.2
     have r1 := cr 1 K4.out.1.1.1.1.2
     clear hlen
     go_upto_region 18 with (go_at_call 27; refine (HS.out.2.2.2.1 _ _ _ HX.out.1 HX.out.2 _ K4.out.1.1.1.2 K4.out.1.1.2).mono ?_; rintro e w5 ⟨⟨gO, rfl, hgO, hrows⟩, hb⟩; have K5 := Lib.hid (K4.out.on hb); have HR := Lib.hid (show RowsAt w5 w5.heap.size gO rs.length ps.length (paF rs ps (nth xs)) from ⟨hgO, hrows⟩); clear hb r0 r1 hgO hrows; have r0 := cr 0 K5.out.1.1.1.1.2; have r1 := cr 1 K5.out.1.1.1.1.2)
     go_wp2_with (go_at_call 28; refine (HS.out.2.2.2.2 _ _ _ HX.out.1 HX.out.2 _ _ K5.out.1.1.1.2 K5.out.1.1.2 HR.out).mono ?_; rintro e w6 ⟨rfl, hb⟩; have HB := Lib.hid (K5.out.1.1.1.1.1.trans (hb.mono K5.out.1.1.1.1.1.size)); clear hb)
     go_ret
     exact ⟨rfl, HB.out⟩
end Go.Proofs.YtegmniphgahblaaGreat
