
/- Walk: the law CarrierLeft, main. -/
import Derived.Test.YtdadoelajhemjaaX3
import Derived.Test.YtdadoelajhemjaaX4
import Derived.Test.YtdadoelajhemjaaZ7
import Derived.Test.YtdadoelajhemjaaB2
import Derived.Test.YtdadoelajhemjaaN7
namespace Go.Proofs.Ytdadoelajhemjaa
open Go.RowKit Go.Shelf

theorem cw_of_ok4 {ws : List Car} {s : Wt} (g : Good ws) (k : Ok ws s) : cwE ws s = 0 := by
 have h0 : wB0 ws s = true := allB_iff.2 ⟨k.l0, fun i hi => within_iff.2 (k.r0 i hi)⟩
 have h1 : wB1 ws s = true := allB_iff.2 ⟨k.l1, fun i hi => within_iff.2 (k.r1 i (by rw [← k.l1]; exact hi))⟩
 have h2 : wB2 ws s = true := allB_iff.2 ⟨k.l2, fun i hi => within_iff.2 (k.r2 i (by rw [← k.l2]; exact hi))⟩
 have h3 : wB3 ws s = true := allB_iff.2 ⟨k.l3, fun i hi => within_iff.2 (k.r3 i (by rw [← k.l3]; exact hi))⟩
 unfold cwE waterE waterB
 rw [if_pos (check_of_good g), if_pos (by rw [h0, h1, h2, h3]; rfl)]
theorem nth_ext4 {a b : List Int} (hl : a.length = b.length) (h : ∀ i, i < a.length → nth a i = nth b i) : a = b := by
 refine List.ext_getElem hl (fun i h1 h2 => ?_)
 have := h i h1
 unfold nth at this
 rwa [List.getD_eq_getElem?_getD, List.getD_eq_getElem?_getD, List.getElem?_eq_getElem h1, List.getElem?_eq_getElem h2] at this
set_option maxRecDepth 100000 in
set_option maxHeartbeats 8000000 in
theorem left_main (w : World) (A1 : Option Addr) (c1 : Nat) (ws : List Car) (r0 : WkIn w A1 ws) (s : Wt) (r2 : WtIn w s) (n : Int) (hn : 0 ≤ n ∧ n ≤ 255) (hf : fewB ws = true) (hs : wetB s = true) (hl : ws.length ≠ 0) (hw : cwE ws s = 0) : Calls Try.prog 15 #[.agg #[.slice A1 ws.length c1], s.v, .int .u8 n] w fun e w' => e = .returned (.bool true) ∧ Below w.heap.size w w' := by
 obtain ⟨i0, hi0, hzz0, hzz1, hzz2⟩ := info_parts info3
 have hwk0 := few_wk r0 hf
 show Calls _ _ #[.agg #[.slice A1 ws.length c1], .agg #[.slice s.A0 s.ri.length s.c0, .slice s.A1 s.bo.length s.c1, .slice s.A2 s.lk.length s.c2, .slice s.A3 s.lo.length s.c3], .int .u8 n] _ _
 have hb : Below w.heap.size w ((w.alloc (.cells #[.slice A1 ws.length c1] 24)).alloc (.cells #[.slice s.A0 s.ri.length s.c0, .slice s.A1 s.bo.length s.c1, .slice s.A2 s.lk.length s.c2, .slice s.A3 s.lo.length s.c3] 27)) := ((Below.refl _ w).alloc (Nat.le_refl _) _).alloc (by simp) _
 have K := Lib.hid ((((stays_bl hb).and (stays_blk (blk_alloc (blk_new w #[.slice A1 ws.length c1] 24 rfl) _))).and (stays_blk (g := w.heap.size + 1) (blk_new (w.alloc (.cells #[.slice A1 ws.length c1] 24)) #[.slice s.A0 s.ri.length s.c0, .slice s.A1 s.bo.length s.c1, .slice s.A2 s.lk.length s.c2, .slice s.A3 s.lo.length s.c3] 27 (by simp)))).and ((stays_wkIn (r0.ext hb)).and (stays_wtIn (r2.ext hb))))
 clear hb
 have F0 := Lib.hid hf
 have F1 := Lib.hid hs
 have hbw : Below w.heap.size w _ := K.out.1.1.1.1
 replace K := Lib.hid (K.out.and ((stays_wk ((few_wk r0 hf).ext hbw)).and (stays_wet ((wetB_ok r2 hs).ext hbw))))
 have hn90 : (outs ws).length ≤ 1000 := (few_wk r0 hf).n2
 clear hf hs hbw
 have F3 := Lib.hid hw
 obtain ⟨g, ok⟩ := cw_good hw
 have hch := check_of_good g
 have hlz : ((ws.length : Int) == 0) = false := by simpa using hl
 have hcv : IntKind.i64.wrap n = n := by rw [IntKind.wrap_i64]; omega
 have hl0 : ¬ (ws.length : Int) = 0 := by omega
 obtain ⟨nn, hnn, hn0, hn1⟩ : ∃ nn, n.tmod (ws.length : Int) = nn ∧ 0 ≤ nn ∧ nn < (ws.length : Int) := by
  refine ⟨_, rfl, Int.tmod_nonneg _ hn.1, Int.tmod_lt_of_pos _ (by omega)⟩
 have hE : withE ws nn = 0 := by unfold withE; rw [if_pos hch, if_pos (by omega)]
 have hC : withC ws nn = wioTo ws nn ws.length := if_pos hE
 have hWI : ∀ W, Wk W A1 ws → Calls Try.prog 51 #[.agg #[.slice A1 ws.length c1], .int .i64 nn] W fun e w' => ∃ A' c' vs, e = .returned (.tuple #[.agg #[.slice A' vs.length c'], .int .i64 0]) ∧ Wk w' A' vs ∧ contW vs = wioTo ws nn ws.length ∧ Below W.heap.size W w' := fun W hW => (Without_any A1 c1 ws nn W hW).mono (fun e w' h => by
  obtain ⟨A', c', vs, h1, h2, h3, h4⟩ := h
  rw [hE] at h1
  have hb := cont_bound h3 hwk0.n1 hwk0.n2 hwk0.n3
  rw [hC] at h3
  have hgv := left_good g h3
  refine ⟨A', c', vs, h1, ⟨h2, hb.1, by have := hgv.n2; omega, fun i hi => ?_⟩, h3, h4⟩
  have := (hgv.fine hi).n
  omega)
 have hHD : ∀ W, Wk W A1 ws → Calls Try.prog 62 #[.agg #[.slice A1 ws.length c1]] W fun e w' => ∃ A' c', e = .returned (.tuple #[.slice A' s.ri.length c', .int .i64 0]) ∧ Rd w' w'.heap.size A' (ints (headsTo ws ws.length)) ∧ Below W.heap.size W w' := fun W hW => by
  have := Heads_any A1 c1 ws W hW
  have e1 : hdL ws = ints (headsTo ws ws.length) := if_pos hch
  rw [e1, hch, ints_length, ← ok.l0] at this
  exact this
 have hFL : ∀ W, Wk W A1 ws → Wet W s → Calls Try.prog 21 #[.agg #[.slice A1 ws.length c1], .agg #[.slice s.A0 s.ri.length s.c0, .slice s.A1 s.bo.length s.c1, .slice s.A2 s.lk.length s.c2, .slice s.A3 s.lo.length s.c3]] W fun e w' => ∃ A' c', e = .returned (.tuple #[.slice A' s.bo.length c', .int .i64 0]) ∧ Rd w' w'.heap.size A' (flowsO ws s) ∧ Below W.heap.size W w' := fun W a b => by
  have := Flow_any A1 c1 ws s W a b
  rw [flowsO_length hw, hw, ← ok.l1] at this
  exact this.mono (fun e w' h => by
   obtain ⟨A', c', e1, h1, -, h2⟩ := h
   exact ⟨A', c', e1, h1, h2⟩)
 have hlF : (flowsO ws s).length = s.bo.length := by rw [flowsO_length hw, ok.l1]
 have HC := hd4 hWI hHD hFL hlF
 have HG := hd3 g ok hw
 clear hWI hHD hFL g ok hw hch hE hC hwk0 hlF
 go_enter Try.func15, Try.ntmps15
 go_upto_region 1 with fail
 generalize ((w.alloc (.cells #[.slice A1 ws.length c1] 24)).alloc (.cells #[.slice s.A0 s.ri.length s.c0, .slice s.A1 s.bo.length s.c1, .slice s.A2 s.lk.length s.c2, .slice s.A3 s.lo.length s.c3] 27)) = W0 at *
 have q0 := cr 0 K.out.1.1.1.1.2
 have q3 := cr 0 K.out.1.1.1.2
 have q4 := cr 1 K.out.1.1.1.2
 have q5 := cr 2 K.out.1.1.1.2
 have q6 := cr 3 K.out.1.1.1.2
 go_upto_region 3 with (first
  | (go_at_call 27; have _t := K6; clear _t; refine (CheckWater_any A1 c1 ws s _ K6.out.1.2.1 K6.out.1.2.2).mono ?_; rw [F3.out]; rintro e w8 ⟨rfl, hb⟩; have K8 := Lib.hid (K6.out.on hb); clear hb)
  | (go_at_call 19; have _t := K2; clear _t; refine (wet_any s _ K2.out.1.1.2.2).mono ?_; rw [F1.out]; rintro e w7 ⟨rfl, hb⟩; have K6 := Lib.hid (K2.out.on hb); have p7 := cr 0 K6.out.1.1.1.1.2; have r3 := cr 0 K6.out.1.1.1.2; have r4 := cr 1 K6.out.1.1.1.2; have r5 := cr 2 K6.out.1.1.1.2; have r6 := cr 3 K6.out.1.1.1.2; clear hb)
  | (go_at_call 18; refine (few_any A1 c1 ws _ K.out.1.1.2.1).mono ?_; rw [F0.out]; rintro e w3 ⟨rfl, hb⟩; have K2 := Lib.hid (K.out.on hb); have p3 := cr 0 K2.out.1.1.1.2; have p4 := cr 1 K2.out.1.1.1.2; have p5 := cr 2 K2.out.1.1.1.2; have p6 := cr 3 K2.out.1.1.1.2; clear hb))
 clear q0 q3 q4 q5 q6 p3 p4 p5 p6 p7 r3 r4 r5 r6 K K2 K6
 have q0 := cr 0 K8.out.1.1.1.1.2
 have q3 := cr 0 K8.out.1.1.1.2
 have q4 := cr 1 K8.out.1.1.1.2
 have q5 := cr 2 K8.out.1.1.1.2
 have q6 := cr 3 K8.out.1.1.1.2
 go_upto_region 4 with fail
 clear hnn hcv
 go_upto_region 5 with (go_at_call 51; refine (HC.out.1 _ K8.out.1.2.1).mono ?_; rintro e w9 ⟨A2, c2, vs, rfl, hwk, hc, hb⟩; have K9 := Lib.hid ((K8.out.on hb).and (stays_wk hwk)); have HV := Lib.hid hc; clear hb hwk hc)
 clear q0 q3 q4 q5 q6 K8
 have hbx := (Below.refl _ w9).alloc (Nat.le_refl _) (.cells #[.slice A2 vs.length c2] 24)
 have KA := Lib.hid ((K9.out.on hbx).and (stays_blk (blk_new w9 #[.slice A2 vs.length c2] 24 rfl)))
 clear hbx K9
 generalize w9.alloc (.cells #[.slice A2 vs.length c2] 24) = XA at *
 generalize w9.heap.size = g8 at *
 have q0 := cr 0 KA.out.1.1.1.1.1.1.2
 have q3 := cr 0 KA.out.1.1.1.1.1.2
 have q4 := cr 1 KA.out.1.1.1.1.1.2
 have q5 := cr 2 KA.out.1.1.1.1.1.2
 have q6 := cr 3 KA.out.1.1.1.1.1.2
 go_upto_region 6 with (go_at_call 62; refine (HC.out.2.1 _ KA.out.1.1.1.2.1).mono ?_; rintro e XB ⟨A3, c3, rfl, hr, hb⟩; have KB := Lib.hid ((KA.out.on hb).and (stays_rd hr)); clear hb hr)
 clear q0 q3 q4 q5 q6 KA
 have q0 := cr 0 KB.out.1.1.1.1.1.1.1.2
 have q3 := cr 0 KB.out.1.1.1.1.1.1.2
 have q4 := cr 1 KB.out.1.1.1.1.1.1.2
 have q5 := cr 2 KB.out.1.1.1.1.1.1.2
 have q6 := cr 3 KB.out.1.1.1.1.1.1.2
 go_upto_region 7 with (go_at_call 21; refine (HC.out.2.2.1 _ KB.out.1.1.1.1.2.1 KB.out.1.1.1.1.2.2).mono ?_; rintro e XC ⟨A4, c4, rfl, hr, hb⟩; have KC := Lib.hid ((KB.out.on hb).and (stays_rd hr)); clear hb hr)
 clear q0 q3 q4 q5 q6 KB
 have q0 := cr 0 KC.out.1.1.1.1.1.1.1.1.2
 have q3 := cr 0 KC.out.1.1.1.1.1.1.1.2
 have q4 := cr 1 KC.out.1.1.1.1.1.1.1.2
 have q5 := cr 2 KC.out.1.1.1.1.1.1.1.2
 have q6 := cr 3 KC.out.1.1.1.1.1.1.1.2
 have hbb1 : ((s.ri.length : Int) != (s.ri.length : Int)) = false := by simp
 have hbb2 : ((s.bo.length : Int) != (s.bo.length : Int)) = false := by simp
 go_upto_region 10 with fail
 clear q0 q3 q4 q5 q6 hbb1 hbb2
 have HBB := Lib.hid ((Below.refl _ XC).alloc (Nat.le_refl _) (.cells #[.slice none 0 0, .slice none 0 0, .slice none 0 0, .slice none 0 0] 27))
 have HQ0 : Hid (Q5 (XC.alloc (.cells #[.slice none 0 0, .slice none 0 0, .slice none 0 0, .slice none 0 0] 27)).heap.size XC.heap.size (XC.alloc (.cells #[.slice none 0 0, .slice none 0 0, .slice none 0 0, .slice none 0 0] 27)) XC.heap.size (fun _ => .slice none 0 0) (lfQ ws vs nn s 0 0 0 0) (.slice none 0 0) [] (XC.alloc (.cells #[.slice none 0 0, .slice none 0 0, .slice none 0 0, .slice none 0 0] 27))) := Lib.hid ⟨(Qd.start 0 _ XC.heap.size XC.heap.size (fun _ => .slice none 0 0) (Nat.le_refl _) (blk_new XC #[.slice none 0 0, .slice none 0 0, .slice none 0 0, .slice none 0 0] 27 rfl) (fun _ _ _ => rfl)).congr (fun i _ hi => by
  match i, hi with
  | 0, _ => rfl
  | 1, _ => rfl
  | 2, _ => rfl
  | 3, _ => rfl), Own.nil _ _, fun _ _ _ e => by cases e⟩
 generalize XC.alloc (.cells #[.slice none 0 0, .slice none 0 0, .slice none 0 0, .slice none 0 0] 27) = W9 at *
 obtain ⟨gb, hgb⟩ : ∃ gb, XC.heap.size = gb := ⟨_, rfl⟩
 rw [hgb] at HQ0
 have HBB : Hid (∀ X, Below gb W9 X → Below XC.heap.size XC X) := Lib.hid (fun X h => HBB.out.trans (by rw [hgb]; exact h))
 rw [hgb]
 have HBL := Lib.hid (KC.out.1.1.1.1.1.1.1.1.1)
 have hri : s.ri.length = (headsTo ws ws.length).length := HG.out.2.1.l0
 have hri16 : s.ri.length ≤ 16 := by
  have := headsTo_le ws ws.length
  have := HG.out.1.n1
  omega
 have HRI := Lib.hid hri
 clear hri
 go_upto_region 11 with fail
 go_loopg [15] s.ri.length (fun gg i wr => ∃ (k : Nat) (v : Nat → Value), k ≤ s.ri.length ∧ s.ri.length - k ≤ gg ∧ i = .int .i64 k ∧ Aside (Q5 W9.heap.size gb W9 gb v (lfQ ws vs nn s k 0 0 0) (.slice none 0 0) [] wr))
 case atStart => exact ⟨0, _, Nat.zero_le _, by omega, rfl, HQ0.out⟩
 case round =>
  obtain ⟨k, v, hk0, hkg, rfl, hA⟩ := hrel
  have HQ := Lib.hid hA.out
  clear hA
  by_cases hkl : k < s.ri.length
  ·have hkz : (k : Int) < (s.ri.length : Int) := by omega
   have KR := Lib.hid (KC.out.on (HBB.out _ HQ.out.q.bl))
   have hkh : k < (headsTo ws ws.length).length := by rw [← HRI.out]; exact hkl
   obtain ⟨b3, o3, rfl, -, hc3⟩ := KR.out.1.1.2 (by rw [ints_length]; omega)
   have z3 := hc3 k (by rw [ints_length]; exact hkh)
   rw [nth_ints hkh] at z3
   clear hc3
   by_cases hne : ((headsTo ws ws.length).getD k 0 : Int) = nn
   ·have HN := Lib.hid (lfRi_no (s := s) hne)
    have hnb : (((headsTo ws ws.length).getD k 0 : Int) != nn) = false := by rw [hne]; simp
    generalize ((headsTo ws ws.length).getD k 0 : Int) = hd at *
    clear hne
    go_wp2
    go_roundg (s.ri.length - (k + 1))
    case measure => omega
    case rel => exact ⟨k + 1, v, by omega, by omega, by go_num, HQ.out.congr (fun i hi => by
     match i, hi with
     | 0, _ => exact HN.out.symm
     | 1, _ => rfl
     | 2, _ => rfl
     | 3, _ => rfl)⟩
   ·have HN := Lib.hid (lfRi_yes (s := s) hne)
    have hnb : (((headsTo ws ws.length).getD k 0 : Int) != nn) = true := by simpa using hne
    generalize ((headsTo ws ws.length).getD k 0 : Int) = hd at *
    clear hne KR
    go_upto_region 14 with fail
    clear z3 hnb
    obtain ⟨nr, hnr⟩ : ∃ nr, (lfRi ws s nn k).length = nr := ⟨_, rfl⟩
    have hnr2 : nr ≤ k := by
     rw [← hnr]
     unfold lfRi hdF
     rw [List.length_map]
     have := List.length_filter_le (hdQ ws nn) (List.range k)
     rwa [List.length_range] at this
    have HLN : Hid ((lfQ ws vs nn s k 0 0 0 0).length = nr) := Lib.hid hnr
    clear hnr
    refine wp_region_R (fun j => j != 8 && j != 10) ?_
    have HQ1 := Lib.hid (HQ.out.below (Below.refl _ _).drew)
    have KS := Lib.hid (KC.out.on (HBB.out _ HQ1.out.q.bl))
    clear HQ
    generalize World.drew _ = XN0 at *
    obtain ⟨AI, cI, hvi⟩ := (HQ1.out.q.o 0 (by omega) (by omega)).slice (n := nr) HLN.out
    have s0 := HQ1.out.q.cell 0 (by omega)
    rw [hvi] at s0
    have q0 := cr 0 KS.out.1.1.1.1.1.1.1.1.2
    have q3 := cr 0 KS.out.1.1.1.1.1.1.1.2
    have q4 := cr 1 KS.out.1.1.1.1.1.1.1.2
    have q5 := cr 2 KS.out.1.1.1.1.1.1.1.2
    have q6 := cr 3 KS.out.1.1.1.1.1.1.1.2
    have q := q3
    clear q0 q3 q4 q5 q6
    obtain ⟨bz, oz, hAz, -, hcz⟩ := KS.out.1.1.1.1.1.2.2.r0 (by omega); have z := hcz k hkl; rw [hAz] at q; clear hAz hcz
    refine bF 0 rfl ?_
    refine bT s0 1 rfl ?_
    refine bF 2 rfl ?_
    refine bT q 3 rfl ?_
    refine bF 4 rfl ?_
    refine bF 5 rfl ?_
    refine bT z 6 rfl ?_
    clear s0 q z
    refine bR 7 rfl fun K hK => ?_
    go_simp
    refine hK.out _ _ (fun _ => (Below.refl _ _).alloc (Nat.le_refl _) _) ?_
    clear hK
    have cn := blk_new XN0 (g := XN0.heap.size) #[.int .i64 (nth s.ri k)] 3 rfl
    have HQ2 := Lib.hid (HQ1.out.below ((Below.refl _ XN0).alloc (Nat.le_refl _) (.cells #[.int .i64 (nth s.ri k)] 3)))
    refine bR 8 rfl fun K hK => ?_
    refine wp_append_int (.tmp 105) (.tmp 111) rfl W9.heap.size (.slice AI nr cI) _ (nth s.ri k) rfl (hvi ▸ HQ2.out.q.o 0 (by omega) (by omega)) (by rw [HLN.out]; omega) XN0.heap.size rfl (cr 0 cn) HQ2.out.q.lt ?_
    intro v' X3 ho hg hb'
    obtain ⟨A', c', rfl⟩ := ho.slice (n := nr + 1) (by rw [List.length_append]; exact congrArg (· + 1) HLN.out)
    refine hK.out _ _ (fun h => by cases h) ?_
    rw [← hvi] at hg hb'
    have HQ3 := Lib.hid (HQ2.out.push (i := 0) (by omega) hg ho hb')
    have eb : X3.cell? ⟨gb, 0, none⟩ = some (.slice AI nr cI) := hvi ▸ (cell_of_heap (HQ2.out.q.keep (i := 0) (by omega) (by omega) hg _ HQ2.out.q.b0.2)).trans (HQ2.out.q.cell 0 (by omega))
    have fb : X3.frozen? ⟨gb, 0, none⟩ = false := blk_frozen ((HQ2.out.q.keep (i := 0) (by omega) (by omega) hg _ HQ2.out.q.b0.2).trans HQ2.out.q.k)
    clear hK hg ho hb' cn HQ1 HQ2 hvi KS
    go_frame
    refine bF 9 rfl ?_
    refine bR 10 rfl fun K hK => ?_
    go_simp
    refine hK.out _ _ (fun h => by cases h) ?_
    clear hK eb fb
    refine bD ?_
    (try dsimp only [Act.put])
    generalize X3.setCell ⟨gb, 0, none⟩ (.slice A' (nr + 1) c') = WN at *
    go_wp2
    go_roundg (s.ri.length - (k + 1))
    case measure => omega
    case rel => exact ⟨k + 1, _, by omega, by omega, by go_num, HQ3.out.congr (fun i hi => by
     match i, hi with
     | 0, _ => exact HN.out.symm
     | 1, _ => rfl
     | 2, _ => rfl
     | 3, _ => rfl)⟩
  ·have hkz : ¬ (k : Int) < (s.ri.length : Int) := by omega
   obtain rfl : k = s.ri.length := by omega
   have HW2 := Lib.hid KC.out.1.1.1.1.2.rd
   generalize hRL : s.ri.length = RL at *
   have HRL := Lib.hid hRL
   clear hRL HQ0
   go_upto_region 17 with fail
   go_loopg [16, 17] vs.length (fun gg wv k wr => ∃ (k' : Nat) (A5 : Option Addr) (c5 : Nat) (v : Nat → Value), k' ≤ vs.length ∧ vs.length - k' ≤ gg ∧ k = .int .i64 k' ∧ wv = .slice A5 (start vs k') c5 ∧ Aside (Q5 W9.heap.size gb W9 gb v (lfQ ws vs nn s RL (start vs k') (start vs k') (start vs k')) (.slice A5 (start vs k') c5) (lfL ws vs nn (flowsO ws s) (start vs k')) wr))
   case atStart => exact ⟨0, none, 0, v, Nat.zero_le _, by omega, rfl, rfl, HQ.out⟩
   case round =>
    obtain ⟨k', A5, c5, v, hk0, hkg, rfl, rfl, hA⟩ := hrel
    have HQ := Lib.hid hA.out
    have KR := Lib.hid (KC.out.on (HBB.out _ hA.out.q.bl))
    clear hA
    have q8 := cr 0 KR.out.1.1.1.2
    by_cases hkl : k' < vs.length
    ·have hkz : (k' : Int) < (vs.length : Int) := by omega
     obtain ⟨b2, o2, rfl, hb2, hc2⟩ := HW2.out (by omega)
     have HO := hd2 hb2 (hc2 k' hkl)
     clear hb2 hc2
     have HSS := Lib.hid (start_succ hkl)
     have HYY : Hid (∀ e, e < (cAt vs k').os.length → start vs k' + e < (outs vs).length ∧ oAt (outs vs) (start vs k' + e) = oAt (cAt vs k').os e) := Lib.hid (fun e he => ⟨start_lt hkl he, oAt_outs hkl he⟩)
     have hos : (cAt vs k').os.length ≤ 1000 := by
      have h1 := start_succ hkl
      have h2 := start_le (ws := vs) (c := k' + 1) hkl
      have := KC.out.1.1.1.1.2.n2
      omega
     generalize (cAt vs k').A = A6 at *
     generalize (cAt vs k').c = c6 at *
     generalize (cAt vs k').os = os at *
     have hk1000 : k' ≤ 1000 := by have := KC.out.1.1.1.1.2.n1; omega
     generalize start vs k' = sk at *
     go_upto_region 20 with fail
     clear q8
     go_loopg [16, 18] os.length (fun gg wv j wr => ∃ (e : Nat) (A5 : Option Addr) (c5 : Nat) (v : Nat → Value), e ≤ os.length ∧ os.length - e ≤ gg ∧ j = .int .i64 e ∧ wv = .slice A5 (sk + e) c5 ∧ Aside (Q5 W9.heap.size gb W9 gb v (lfQ ws vs nn s RL (sk + e) (sk + e) (sk + e)) (.slice A5 (sk + e) c5) (lfL ws vs nn (flowsO ws s) (sk + e)) wr))
     case atStart => exact ⟨0, A5, c5, v, Nat.zero_le _, by omega, rfl, rfl, HQ.out⟩
     case round =>
      obtain ⟨e, A7, c7, v', he0, heg, rfl, rfl, hA⟩ := hrel
      clear HQ KR
      have HQ := Lib.hid hA.out
      have KR := Lib.hid (KC.out.on (HBB.out _ hA.out.q.bl))
      have p1 := ((HBB.out _ hA.out.q.bl).cell (p := ⟨b2, o2 + k', none⟩) HO.out.1).trans HO.out.2.1
      clear hA
      have q8 := cr 0 KR.out.1.1.1.2
      by_cases hel : e < os.length
      ·have hez : (e : Int) < (os.length : Int) := by omega
       obtain ⟨b6, o6, rfl, hb6, hc6⟩ := HO.out.2.2 (by omega)
       have z6 := ((HBB.out _ HQ.out.q.bl).cell (p := ⟨b6, o6 + e * 7, none⟩) hb6).trans (hc6 e hel).c0
       have hy := (HYY.out e hel).1
       have hid := left_idx HG.out.1 HV.out hy
       have hox := (oldX_at HV.out hy).1
       rw [(HYY.out e hel).2] at hid
       have hPL : ∀ W, Wk W A1 ws → Calls Try.prog 39 #[.agg #[.slice A1 ws.length c1], .int .i64 (oAt os e).id] W fun e' w' => e' = .returned (.int .i64 (oldX ws vs nn (sk + e) : Int)) ∧ Below W.heap.size W w' := fun W hW => by
        have := place_any A1 c1 ws (oAt os e).id W hW
        rw [hid] at this
        exact this
       have HPL := Lib.hid hPL
       have HL1 := hd4 (lfL_succ ws vs nn s.bo (sk + e)) (lfL_succ ws vs nn s.lk (sk + e)) (lfL_succ ws vs nn s.lo (sk + e)) (lfL_succ ws vs nn (flowsO ws s) (sk + e))
       clear hPL hid hc6 hb6
       generalize (oAt os e).id = id at *
       generalize oldX ws vs nn (sk + e) = ox at *
       go_upto_region 22 with fail
       refine wp_region_R (fun _ => true) ?_
       have r1 : wr.drew.cell? ⟨b2, o2 + k', none⟩ = _ := p1
       have r8 : wr.drew.cell? ⟨g8, 0, none⟩ = _ := q8
       have r6 : wr.drew.cell? ⟨b6, o6 + e * 7, none⟩ = _ := z6
       have HQ1 := Lib.hid (HQ.out.below (Below.refl _ _).drew)
       clear p1 q8 z6 HQ KR
       generalize wr.drew = XN0 at *
       have KS := Lib.hid (KC.out.on (HBB.out _ HQ1.out.q.bl))
       have q0 := cr 0 KS.out.1.1.1.1.1.1.1.1.2
       refine bT q0 0 rfl ?_
       refine bF 1 rfl ?_
       refine bT r8 2 rfl ?_
       refine bF 3 rfl ?_
       refine bF 4 rfl ?_
       refine bF 5 rfl ?_
       refine bT r1 6 rfl ?_
       refine bF 7 rfl ?_
       refine bF 8 rfl ?_
       refine bF 9 rfl ?_
       refine bT r6 10 rfl ?_
       clear q0 r8 r1 r6
       refine bR 11 rfl fun K hK => ?_
       go_simp
       refine (HPL.out _ KS.out.1.1.1.1.1.2.1).mono ?_
       rintro e' XP ⟨rfl, hb⟩
       dsimp only
       refine hK.out _ _ (fun _ => hb) ?_
       have HQ := Lib.hid (HQ1.out.below hb)
       clear hK hb KS HQ1 HPL
       refine bF 12 rfl ?_
       refine bD ?_
       have hox1 : ox < s.bo.length := by rw [HG.out.2.1.l1]; exact hox
       have hox2 : ox < s.lk.length := by rw [HG.out.2.1.l2]; exact hox
       have hox3 : ox < s.lo.length := by rw [HG.out.2.1.l3]; exact hox
       have hz1 : (ox : Int) < (s.bo.length : Int) := by omega
       have hz2 : (ox : Int) < (s.lk.length : Int) := by omega
       have hz3 : (ox : Int) < (s.lo.length : Int) := by omega
       have hz0 : (0 : Int) ≤ (ox : Int) := by omega
       have hz4 : ¬ (ox : Int) < 0 := by omega
       have hsk : sk + e ≤ 1000 := by have := KC.out.1.1.1.1.2.n2; omega
       go_upto_region 25 with fail
       have HLN : Hid ((lfQ ws vs nn s RL (sk + e) (sk + e) (sk + e) 1).length = sk + e) := Lib.hid (lfL_length _ _ _ _ _)
       refine wp_region_R (fun j => j != 8 && j != 10) ?_
       have HQ1 := Lib.hid (HQ.out.below (Below.refl _ _).drew)
       have KS := Lib.hid (KC.out.on (HBB.out _ HQ1.out.q.bl))
       clear HQ
       generalize World.drew _ = XN0 at *
       obtain ⟨AI, cI, hvi⟩ := (HQ1.out.q.o 1 (by omega) (by omega)).slice (n := (sk + e)) HLN.out
       have s0 := HQ1.out.q.cell 1 (by omega)
       rw [hvi] at s0
       have q0 := cr 0 KS.out.1.1.1.1.1.1.1.1.2
       have q3 := cr 0 KS.out.1.1.1.1.1.1.1.2
       have q4 := cr 1 KS.out.1.1.1.1.1.1.1.2
       have q5 := cr 2 KS.out.1.1.1.1.1.1.1.2
       have q6 := cr 3 KS.out.1.1.1.1.1.1.1.2
       have q := q4
       clear q0 q3 q4 q5 q6
       obtain ⟨bz, oz, hAz, -, hcz⟩ := KS.out.1.1.1.1.1.2.2.r1 (by omega); have z := hcz ox hox1; rw [hAz] at q; clear hAz hcz
       refine bF 0 rfl ?_
       refine bT s0 1 rfl ?_
       refine bF 2 rfl ?_
       refine bT q 3 rfl ?_
       refine bF 4 rfl ?_
       refine bF 5 rfl ?_
       refine bT z 6 rfl ?_
       clear s0 q z
       refine bR 7 rfl fun K hK => ?_
       go_simp
       refine hK.out _ _ (fun _ => (Below.refl _ _).alloc (Nat.le_refl _) _) ?_
       clear hK
       have cn := blk_new XN0 (g := XN0.heap.size) #[.int .i64 (nth s.bo ox)] 3 rfl
       have HQ2 := Lib.hid (HQ1.out.below ((Below.refl _ XN0).alloc (Nat.le_refl _) (.cells #[.int .i64 (nth s.bo ox)] 3)))
       refine bR 8 rfl fun K hK => ?_
       refine wp_append_int (.tmp 147) (.tmp 153) rfl W9.heap.size (.slice AI (sk + e) cI) _ (nth s.bo ox) rfl (hvi ▸ HQ2.out.q.o 1 (by omega) (by omega)) (by rw [HLN.out]; omega) XN0.heap.size rfl (cr 0 cn) HQ2.out.q.lt ?_
       intro v' X3 ho hg hb'
       obtain ⟨A', c', rfl⟩ := ho.slice (n := (sk + e) + 1) (by rw [List.length_append]; exact congrArg (· + 1) HLN.out)
       refine hK.out _ _ (fun h => by cases h) ?_
       rw [← hvi] at hg hb'
       have HQ3 := Lib.hid (HQ2.out.push (i := 1) (by omega) hg ho hb')
       have eb : X3.cell? ⟨gb, 1, none⟩ = some (.slice AI (sk + e) cI) := hvi ▸ (cell_of_heap (HQ2.out.q.keep (i := 1) (by omega) (by omega) hg _ HQ2.out.q.b0.2)).trans (HQ2.out.q.cell 1 (by omega))
       have fb : X3.frozen? ⟨gb, 1, none⟩ = false := blk_frozen ((HQ2.out.q.keep (i := 1) (by omega) (by omega) hg _ HQ2.out.q.b0.2).trans HQ2.out.q.k)
       clear hK hg ho hb' cn HQ1 HQ2 hvi KS
       go_frame
       refine bF 9 rfl ?_
       refine bR 10 rfl fun K hK => ?_
       go_simp
       refine hK.out _ _ (fun h => by cases h) ?_
       clear hK eb fb
       refine bD ?_
       (try dsimp only [Act.put])
       generalize X3.setCell ⟨gb, 1, none⟩ (.slice A' ((sk + e) + 1) c') = WA at *
       have HQ := Lib.hid (HQ3.out.congr (L' := lfQ ws vs nn s RL (sk + e + 1) (sk + e) (sk + e)) (fun i hi => by
        match i, hi with
        | 0, _ => rfl
        | 1, _ => exact HL1.out.1.symm
        | 2, _ => rfl
        | 3, _ => rfl))
       clear HQ3 HLN
       go_upto_region 26 with fail
       have HLN : Hid ((lfQ ws vs nn s RL (sk + e + 1) (sk + e) (sk + e) 2).length = sk + e) := Lib.hid (lfL_length _ _ _ _ _)
       refine wp_region_R (fun j => j != 8 && j != 10) ?_
       have HQ1 := Lib.hid (HQ.out.below (Below.refl _ _).drew)
       have KS := Lib.hid (KC.out.on (HBB.out _ HQ1.out.q.bl))
       clear HQ
       generalize World.drew _ = XN0 at *
       obtain ⟨AI, cI, hvi⟩ := (HQ1.out.q.o 2 (by omega) (by omega)).slice (n := (sk + e)) HLN.out
       have s0 := HQ1.out.q.cell 2 (by omega)
       rw [hvi] at s0
       have q0 := cr 0 KS.out.1.1.1.1.1.1.1.1.2
       have q3 := cr 0 KS.out.1.1.1.1.1.1.1.2
       have q4 := cr 1 KS.out.1.1.1.1.1.1.1.2
       have q5 := cr 2 KS.out.1.1.1.1.1.1.1.2
       have q6 := cr 3 KS.out.1.1.1.1.1.1.1.2
       have q := q5
       clear q0 q3 q4 q5 q6
       obtain ⟨bz, oz, hAz, -, hcz⟩ := KS.out.1.1.1.1.1.2.2.r2 (by omega); have z := hcz ox hox2; rw [hAz] at q; clear hAz hcz
       refine bF 0 rfl ?_
       refine bT s0 1 rfl ?_
       refine bF 2 rfl ?_
       refine bT q 3 rfl ?_
       refine bF 4 rfl ?_
       refine bF 5 rfl ?_
       refine bT z 6 rfl ?_
       clear s0 q z
       refine bR 7 rfl fun K hK => ?_
       go_simp
       refine hK.out _ _ (fun _ => (Below.refl _ _).alloc (Nat.le_refl _) _) ?_
       clear hK
       have cn := blk_new XN0 (g := XN0.heap.size) #[.int .i64 (nth s.lk ox)] 3 rfl
       have HQ2 := Lib.hid (HQ1.out.below ((Below.refl _ XN0).alloc (Nat.le_refl _) (.cells #[.int .i64 (nth s.lk ox)] 3)))
       refine bR 8 rfl fun K hK => ?_
       refine wp_append_int (.tmp 157) (.tmp 163) rfl W9.heap.size (.slice AI (sk + e) cI) _ (nth s.lk ox) rfl (hvi ▸ HQ2.out.q.o 2 (by omega) (by omega)) (by rw [HLN.out]; omega) XN0.heap.size rfl (cr 0 cn) HQ2.out.q.lt ?_
       intro v' X3 ho hg hb'
       obtain ⟨A', c', rfl⟩ := ho.slice (n := (sk + e) + 1) (by rw [List.length_append]; exact congrArg (· + 1) HLN.out)
       refine hK.out _ _ (fun h => by cases h) ?_
       rw [← hvi] at hg hb'
       have HQ3 := Lib.hid (HQ2.out.push (i := 2) (by omega) hg ho hb')
       have eb : X3.cell? ⟨gb, 2, none⟩ = some (.slice AI (sk + e) cI) := hvi ▸ (cell_of_heap (HQ2.out.q.keep (i := 2) (by omega) (by omega) hg _ HQ2.out.q.b0.2)).trans (HQ2.out.q.cell 2 (by omega))
       have fb : X3.frozen? ⟨gb, 2, none⟩ = false := blk_frozen ((HQ2.out.q.keep (i := 2) (by omega) (by omega) hg _ HQ2.out.q.b0.2).trans HQ2.out.q.k)
       clear hK hg ho hb' cn HQ1 HQ2 hvi KS
       go_frame
       refine bF 9 rfl ?_
       refine bR 10 rfl fun K hK => ?_
       go_simp
       refine hK.out _ _ (fun h => by cases h) ?_
       clear hK eb fb
       refine bD ?_
       (try dsimp only [Act.put])
       generalize X3.setCell ⟨gb, 2, none⟩ (.slice A' ((sk + e) + 1) c') = WBB at *
       have HQ := Lib.hid (HQ3.out.congr (L' := lfQ ws vs nn s RL (sk + e + 1) (sk + e + 1) (sk + e)) (fun i hi => by
        match i, hi with
        | 0, _ => rfl
        | 1, _ => rfl
        | 2, _ => exact HL1.out.2.1.symm
        | 3, _ => rfl))
       clear HQ3 HLN
       go_upto_region 27 with fail
       have HLN : Hid ((lfQ ws vs nn s RL (sk + e + 1) (sk + e + 1) (sk + e) 3).length = sk + e) := Lib.hid (lfL_length _ _ _ _ _)
       refine wp_region_R (fun j => j != 8 && j != 10) ?_
       have HQ1 := Lib.hid (HQ.out.below (Below.refl _ _).drew)
       have KS := Lib.hid (KC.out.on (HBB.out _ HQ1.out.q.bl))
       clear HQ
       generalize World.drew _ = XN0 at *
       obtain ⟨AI, cI, hvi⟩ := (HQ1.out.q.o 3 (by omega) (by omega)).slice (n := (sk + e)) HLN.out
       have s0 := HQ1.out.q.cell 3 (by omega)
       rw [hvi] at s0
       have q0 := cr 0 KS.out.1.1.1.1.1.1.1.1.2
       have q3 := cr 0 KS.out.1.1.1.1.1.1.1.2
       have q4 := cr 1 KS.out.1.1.1.1.1.1.1.2
       have q5 := cr 2 KS.out.1.1.1.1.1.1.1.2
       have q6 := cr 3 KS.out.1.1.1.1.1.1.1.2
       have q := q6
       clear q0 q3 q4 q5 q6
       obtain ⟨bz, oz, hAz, -, hcz⟩ := KS.out.1.1.1.1.1.2.2.r3 (by omega); have z := hcz ox hox3; rw [hAz] at q; clear hAz hcz
       refine bF 0 rfl ?_
       refine bT s0 1 rfl ?_
       refine bF 2 rfl ?_
       refine bT q 3 rfl ?_
       refine bF 4 rfl ?_
       refine bF 5 rfl ?_
       refine bT z 6 rfl ?_
       clear s0 q z
       refine bR 7 rfl fun K hK => ?_
       go_simp
       refine hK.out _ _ (fun _ => (Below.refl _ _).alloc (Nat.le_refl _) _) ?_
       clear hK
       have cn := blk_new XN0 (g := XN0.heap.size) #[.int .i64 (nth s.lo ox)] 3 rfl
       have HQ2 := Lib.hid (HQ1.out.below ((Below.refl _ XN0).alloc (Nat.le_refl _) (.cells #[.int .i64 (nth s.lo ox)] 3)))
       refine bR 8 rfl fun K hK => ?_
       refine wp_append_int (.tmp 167) (.tmp 173) rfl W9.heap.size (.slice AI (sk + e) cI) _ (nth s.lo ox) rfl (hvi ▸ HQ2.out.q.o 3 (by omega) (by omega)) (by rw [HLN.out]; omega) XN0.heap.size rfl (cr 0 cn) HQ2.out.q.lt ?_
       intro v' X3 ho hg hb'
       obtain ⟨A', c', rfl⟩ := ho.slice (n := (sk + e) + 1) (by rw [List.length_append]; exact congrArg (· + 1) HLN.out)
       refine hK.out _ _ (fun h => by cases h) ?_
       rw [← hvi] at hg hb'
       have HQ3 := Lib.hid (HQ2.out.push (i := 3) (by omega) hg ho hb')
       have eb : X3.cell? ⟨gb, 3, none⟩ = some (.slice AI (sk + e) cI) := hvi ▸ (cell_of_heap (HQ2.out.q.keep (i := 3) (by omega) (by omega) hg _ HQ2.out.q.b0.2)).trans (HQ2.out.q.cell 3 (by omega))
       have fb : X3.frozen? ⟨gb, 3, none⟩ = false := blk_frozen ((HQ2.out.q.keep (i := 3) (by omega) (by omega) hg _ HQ2.out.q.b0.2).trans HQ2.out.q.k)
       clear hK hg ho hb' cn HQ1 HQ2 hvi KS
       go_frame
       refine bF 9 rfl ?_
       refine bR 10 rfl fun K hK => ?_
       go_simp
       refine hK.out _ _ (fun h => by cases h) ?_
       clear hK eb fb
       refine bD ?_
       (try dsimp only [Act.put])
       generalize X3.setCell ⟨gb, 3, none⟩ (.slice A' ((sk + e) + 1) c') = WC at *
       have HQ := Lib.hid (HQ3.out.congr (L' := lfQ ws vs nn s RL (sk + e + 1) (sk + e + 1) (sk + e + 1)) (fun i hi => by
        match i, hi with
        | 0, _ => rfl
        | 1, _ => rfl
        | 2, _ => rfl
        | 3, _ => exact HL1.out.2.2.1.symm))
       clear HQ3 HLN
       have KR := Lib.hid (KC.out.on (HBB.out _ HQ.out.q.bl))
       obtain ⟨b4, o4, rfl, -, hc4⟩ := KR.out.1.2 (by rw [HC.out.2.2.2]; omega)
       have z4 := hc4 ox (by rw [HC.out.2.2.2]; exact hox1)
       clear hc4
       have hb8 := (Below.refl _ WC).alloc (Nat.le_refl _) (.cells #[.int .i64 (nth (flowsO ws s) ox)] 3)
       have HX : Hid ((WC.alloc (.cells #[.int .i64 (nth (flowsO ws s) ox)] 3)).ownsRow W9.heap.size 3 1 (.slice A7 (sk + e) c7) (sk + e) ((lfL ws vs nn (flowsO ws s) (sk + e)).map (Value.int .i64)) ∧ (∀ (j : Nat) (u : Value), ([.int .i64 (nth (flowsO ws s) ox)] : List Value)[j]? = some u → (WC.alloc (.cells #[.int .i64 (nth (flowsO ws s) ox)] 3)).cell? ((⟨WC.heap.size, 0, none⟩ : Addr).add j) = some u) ∧ W9.heap.size ≤ (WC.alloc (.cells #[.int .i64 (nth (flowsO ws s) ox)] 3)).heap.size) := Lib.hid ⟨(HQ.out.below hb8).o.row (lfL_length _ _ _ _ _), World.news_of_block (cs := #[.int .i64 (nth (flowsO ws s) ox)]) (t := 3) (fr := (0, 0)) (World.alloc_heap_new WC _), (HQ.out.below hb8).q.lt⟩
       have HQ8 := Lib.hid (HQ.out.below hb8)
       clear hb8 HQ KR
       go_wp2_with (at_builtin; refine wpList_append_own_at _ rfl _ _ 25 rfl W9.heap.size 3 i0 (.int .i64 0) 1 8 Try.underlying25 hi0 hzz0 hzz1 hzz2 rfl (by decide) (.slice A7 (sk + e) c7) (sk + e) _ rfl HX.out.1 ⟨WC.heap.size, 0, none⟩ 1 1 [.int .i64 (nth (flowsO ws s) ox)] rfl (by simp) HX.out.2.1 (by simp [Value.oneCell']) (by unfold maxLen; omega) (by omega) HX.out.2.2 ?_; intro v9 w9 hown1 hgrow _ hb1; obtain ⟨A9, c9, rfl⟩ := row_slice hown1; have HQ9 := Lib.hid (HQ8.out.push5 hgrow (Own.of_row hown1 (lfL_length _ _ _ _ _)) hb1); clear hown1 hgrow hb1)
       rw [← HL1.out.2.2.2] at HQ9
       go_roundg (os.length - (e + 1))
       case measure => omega
       case rel => exact ⟨e + 1, A9, c9, _, by omega, by omega, by go_num, rfl, HQ9.out⟩
      ·have hez : ¬ (e : Int) < (os.length : Int) := by omega
       obtain rfl : e = os.length := by omega
       have HSK := Lib.hid HSS.out
       go_wp2
       go_roundg (vs.length - (k' + 1))
       case measure => omega
       case rel => exact ⟨k' + 1, A7, c7, v', by omega, by omega, by go_num, by rw [HSK.out], by rw [HSK.out]; exact HQ.out⟩
    ·have hkz : ¬ (k' : Int) < (vs.length : Int) := by omega
     obtain rfl : k' = vs.length := by omega
     have HN := Lib.hid (start_all vs)
     rw [HN.out] at HQ
     obtain ⟨B0, d0, hv0, hr0, -⟩ := (HQ.out.q.o 0 (by omega) (by omega)).rd
     obtain ⟨B1, d1, hv1, hr1, -⟩ := (HQ.out.q.o 1 (by omega) (by omega)).rd
     obtain ⟨B2, d2, hv2, hr2, -⟩ := (HQ.out.q.o 2 (by omega) (by omega)).rd
     obtain ⟨B3, d3, hv3, hr3, -⟩ := (HQ.out.q.o 3 (by omega) (by omega)).rd
     obtain ⟨B5, d5, hv5, hr5, -⟩ := HQ.out.o.rd
     rw [lfL_length] at hv5
     simp only [Value.slice.injEq, true_and] at hv5
     obtain ⟨rfl, rfl⟩ := hv5
     have s0 := HQ.out.q.cell 0 (by omega)
     have s1 := HQ.out.q.cell 1 (by omega)
     have s2 := HQ.out.q.cell 2 (by omega)
     have s3 := HQ.out.q.cell 3 (by omega)
     rw [hv0] at s0
     rw [hv1] at s1
     rw [hv2] at s2
     rw [hv3] at s3
     have hgv := left_good HG.out.1 HV.out
     have hn60 := hgv.n2
     have hlr : (lfRi ws s nn RL).length ≤ 1000 := by
      unfold lfRi hdF
      rw [List.length_map]
      have := List.length_filter_le (hdQ ws nn) (List.range RL)
      rw [List.length_range] at this
      omega
     obtain ⟨t, ht⟩ : ∃ t : Wt, t = ⟨B0, B1, B2, B3, d0, d1, d2, d3, lfRi ws s nn RL, lfL ws vs nn s.bo (outs vs).length, lfL ws vs nn s.lk (outs vs).length, lfL ws vs nn s.lo (outs vs).length⟩ := ⟨_, rfl⟩
     have hwt : Wet wr t := by
      rw [ht]
      exact ⟨hr0, hr1, hr2, hr3, hlr, by show (lfL _ _ _ _ _).length ≤ 1000; rw [lfL_length]; omega, by show (lfL _ _ _ _ _).length ≤ 1000; rw [lfL_length]; omega, by show (lfL _ _ _ _ _).length ≤ 1000; rw [lfL_length]; omega⟩
     have hlw : LfW ws vs nn s t := by
      rw [ht]
      exact ⟨by show lfRi ws s nn RL = _; rw [← HRI.out], rfl, rfl, rfl⟩
     have hokt := left_ok HG.out.1 HG.out.2.1 HV.out hlw
     have hcwt : cwE vs t = 0 := cw_of_ok4 hgv hokt
     have hfl : flowsO vs t = lfL ws vs nn (flowsO ws s) (outs vs).length := by
      refine nth_ext4 (by rw [flowsO_length hcwt, lfL_length]) (fun y hy => ?_)
      rw [flowsO_length hcwt] at hy
      have hx := (oldX_at HV.out hy).1
      rw [lfL_at _ _ _ _ hy]
      unfold flowsO
      rw [if_pos hcwt, if_pos HG.out.2.2, nth_range _ hy, nth_range _ hx]
      exact left_flow HG.out.1 HV.out hlw hy
     have hFW := Flow_any A2 c2 vs t wr KR.out.1.1.1.1.2 hwt
     rw [flowsO_length hcwt, hcwt, hfl] at hFW
     have hFW : Calls Try.prog 21 #[.agg #[.slice A2 vs.length c2], .agg #[.slice B0 (lfQ ws vs nn s RL (outs vs).length (outs vs).length (outs vs).length 0).length d0, .slice B1 (lfQ ws vs nn s RL (outs vs).length (outs vs).length (outs vs).length 1).length d1, .slice B2 (lfQ ws vs nn s RL (outs vs).length (outs vs).length (outs vs).length 2).length d2, .slice B3 (lfQ ws vs nn s RL (outs vs).length (outs vs).length (outs vs).length 3).length d3]] wr (fun e w' => ∃ A' c', e = .returned (.tuple #[.slice A' (outs vs).length c', .int .i64 0]) ∧ Rd w' w'.heap.size A' (lfL ws vs nn (flowsO ws s) (outs vs).length) ∧ Fresh wr.heap.size A' ∧ Below wr.heap.size wr w') := by
      rw [ht] at hFW
      exact hFW
     have HFW := hd2 hFW hr5
     have HBW := Lib.hid (HBB.out _ HQ.out.q.bl)
     rw [HN.out]
     clear hFW hr5 hr0 hr1 hr2 hr3 hv0 hv1 hv2 hv3 hwt hlw hokt hcwt hfl ht hgv HQ
     generalize lfQ ws vs nn s RL (outs vs).length (outs vs).length (outs vs).length = LL at *
     go_upto_region 30 with (go_at_call 21; refine HFW.out.1.mono ?_; rintro e wf ⟨A6, c6, rfl, hr, -, hb⟩; have KF := Lib.hid (((KR.out.on hb).and (stays_rd hr)).and (stays_rd (HFW.out.2.ext hb))); clear hb hr)
     clear s0 s1 s2 s3 q8 KR
     go_wp2_with (first
      | (go_at_call 29; have _t := KG; clear _t; have hsm := same_any A6 A5 c6 c5 _ _ _ KG.out.1.1.2 KG.out.1.2 (by rw [lfL_length]; omega); rw [decide_eq_true rfl, lfL_length] at hsm; refine hsm.mono ?_; rintro e wh ⟨rfl, hb⟩; have KH := Lib.hid (KG.out.on hb); clear hb hsm)
      | (go_at_call 20; refine (sanity_any _).mono ?_; rintro e wg ⟨rfl, hb⟩; have KG := Lib.hid (KF.out.on hb); clear hb))
     go_ret
     exact ⟨rfl, KH.out.1.1.1.1.1.1.1.1.1.1.1⟩
end Go.Proofs.Ytdadoelajhemjaa
