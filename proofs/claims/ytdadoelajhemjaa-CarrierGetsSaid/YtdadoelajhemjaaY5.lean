
/- Walk: the law CarrierGets, main. -/
import Derived.Test.YtdadoelajhemjaaY4
import Derived.Test.YtdadoelajhemjaaB3
import Derived.Deep.CutRange
import Derived.Test.YtdadoelajhemjaaN7
namespace Go.Proofs.Ytdadoelajhemjaa
open Go.RowKit Go.Shelf

theorem stays_fl {W : World} {b o N : Nat} {F : Nat → Int} (h : ∀ i, i < N → W.cell? ⟨b, o + i, none⟩ = some (.int .i64 (F i))) : Stays (fun X => ∀ i, i < N → X.cell? ⟨b, o + i, none⟩ = some (.int .i64 (F i))) W := ⟨h, fun _ _ a hb i hi => cell_below hb (a i hi)⟩
set_option maxRecDepth 100000 in
set_option maxHeartbeats 8000000 in
theorem gets_main (w : World) (A1 : Option Addr) (c1 : Nat) (ws : List Car) (r0 : WkIn w A1 ws) (s : Wt) (r2 : WtIn w s) (id want n : Int) (hn : 0 ≤ n ∧ n ≤ 65535) (hf : fewB ws = true) (hs : wetB s = true) (hw : cwE ws s = 0) (x : Nat) (hi : idxO ws id = some x) : Calls Try.prog 8 #[.agg #[.slice A1 ws.length c1], s.v, .int .i64 id, .int .i64 want, .int .u16 n] w fun e w' => e = .returned (.bool true) ∧ Below w.heap.size w w' := by
 show Calls _ _ #[.agg #[.slice A1 ws.length c1], .agg #[.slice s.A0 s.ri.length s.c0, .slice s.A1 s.bo.length s.c1, .slice s.A2 s.lk.length s.c2, .slice s.A3 s.lo.length s.c3], .int .i64 id, .int .i64 want, .int .u16 n] _ _
 have hb : Below w.heap.size w ((w.alloc (.cells #[.slice A1 ws.length c1] 24)).alloc (.cells #[.slice s.A0 s.ri.length s.c0, .slice s.A1 s.bo.length s.c1, .slice s.A2 s.lk.length s.c2, .slice s.A3 s.lo.length s.c3] 27)) := ((Below.refl _ w).alloc (Nat.le_refl _) _).alloc (by simp) _
 have K := Lib.hid ((((stays_bl hb).and (stays_blk (blk_alloc (blk_new w #[.slice A1 ws.length c1] 24 rfl) _))).and (stays_blk (g := w.heap.size + 1) (blk_new (w.alloc (.cells #[.slice A1 ws.length c1] 24)) #[.slice s.A0 s.ri.length s.c0, .slice s.A1 s.bo.length s.c1, .slice s.A2 s.lk.length s.c2, .slice s.A3 s.lo.length s.c3] 27 (by simp)))).and ((stays_wkIn (r0.ext hb)).and (stays_wtIn (r2.ext hb))))
 clear hb
 have F0 := Lib.hid hf
 have F1 := Lib.hid hs
 have hbw : Below w.heap.size w _ := K.out.1.1.1.1
 replace K := Lib.hid (K.out.and ((stays_wk ((few_wk r0 hf).ext hbw)).and (stays_wet ((wetB_ok r2 hs).ext hbw))))
 have hn90 : (outs ws).length ≤ 1000 := (few_wk r0 hf).n2
 clear hf hs hbw
 have F3 := Lib.hid hw
 obtain ⟨g, ok⟩ := cw_good hw
 have hch : checkE ws = 0 := by
  unfold cwE at hw
  by_cases h0 : checkE ws = 0
  ·exact h0
  ·rw [if_neg h0] at hw; exact absurd hw h0
 have hxl := (idxO_some hi).1
 obtain ⟨k, hk, he⟩ := head_num g hxl
 have hP : ∀ W, Wk W A1 ws → Calls Try.prog 39 #[.agg #[.slice A1 ws.length c1], .int .i64 id] W fun e w' => e = .returned (.int .i64 (x : Int)) ∧ Below W.heap.size W w' := fun W hk => by
  have := place_any A1 c1 ws id W hk
  rw [hi] at this
  exact this
 have hO : ∀ W, Wk W A1 ws → Wet W s → Calls Try.prog 33 #[.agg #[.slice A1 ws.length c1], .agg #[.slice s.A0 s.ri.length s.c0, .slice s.A1 s.bo.length s.c1, .slice s.A2 s.lk.length s.c2, .slice s.A3 s.lo.length s.c3], .int .i64 id, .int .i64 want] W fun e w' => ∃ a E : Int, e = .returned (.tuple #[.int .i64 a, .int .i64 E]) ∧ GetO ws s x want a E ∧ Below W.heap.size W w' := fun W h1 h2 => (Open_any A1 c1 ws s id want W h1 h2).mono (fun e w' h => by
  obtain ⟨a, E, h3, h4⟩ := getO_of hi h.1
  exact ⟨a, E, h3, h4, h.2⟩)
 have hS : ∀ W, Wk W A1 ws → Wet W s → Calls Try.prog 35 #[.agg #[.slice A1 ws.length c1], .agg #[.slice s.A0 s.ri.length s.c0, .slice s.A1 s.bo.length s.c1, .slice s.A2 s.lk.length s.c2, .slice s.A3 s.lo.length s.c3], .int .i64 id, .int .i64 want] W fun e w' => ∃ a E : Int, e = .returned (.tuple #[.int .i64 a, .int .i64 E]) ∧ GetS ws s x k want a E ∧ Below W.heap.size W w' := fun W h1 h2 => (Send_any A1 c1 ws s id want W h1 h2).mono (fun e w' h => by
  obtain ⟨a, E, h3, h4⟩ := getS_of g ok hi hk he h.1
  exact ⟨a, E, h3, h4, h.2⟩)
 have hrl : (rivS ws x).length = s.ri.length := by rw [ok.l0]; exact rivTo_length (Nat.le_refl _)
 have hG : ∀ W, Wk W A1 ws → Calls Try.prog 37 #[.agg #[.slice A1 ws.length c1], .int .i64 id] W fun e w' => ∃ A7 c7 A8 n8 c8 A9 n9 c9, e = .returned (.tuple #[.slice A7 s.ri.length c7, .slice A8 n8 c8, .slice A9 n9 c9, .int .i64 0]) ∧ Rd w' w'.heap.size A7 (rivS ws x) ∧ Below W.heap.size W w' := fun W h1 => by
  have hs0 : sigE ws id = 0 := by unfold sigE; rw [if_pos hch, hi]; rfl
  obtain ⟨-, x', hx', -, hl⟩ := sig_zero hs0
  obtain rfl : x = x' := Option.some.inj (hi.symm.trans hx')
  refine (Signs_any A1 c1 ws id W h1).mono (fun e w' h => ?_)
  rw [hs0, hl, hl, hl] at h
  obtain ⟨⟨A7, c7, A8, c8, A9, c9, rfl, h7, -, -⟩, hb⟩ := h
  rw [hrl]
  exact ⟨A7, c7, A8, _, c8, A9, _, c9, rfl, h7, hb⟩
 have hFL : ∀ W s', Wk W A1 ws → Wet W s' → cwE ws s' = 0 → Calls Try.prog 21 #[.agg #[.slice A1 ws.length c1], s'.v] W fun e w' => ∃ A' c', e = .returned (.tuple #[.slice A' (outs ws).length c', .int .i64 0]) ∧ (0 < (outs ws).length → ∃ b off, A' = some ⟨b, off, none⟩ ∧ b < w'.heap.size ∧ ∀ i, i < (outs ws).length → w'.cell? ⟨b, off + i, none⟩ = some (.int .i64 (flowF ws s' i))) ∧ Below W.heap.size W w' := fun W s' a b hc => (by
  have := Flow_any A1 c1 ws s' W a b
  have hl := flowsO_length hc
  rw [hl, hc] at this
  exact this.mono (fun e w' h => by
   obtain ⟨A', c', e1, h1, -, h2⟩ := h
   refine ⟨A', c', e1, fun h0 => ?_, h2⟩
   obtain ⟨b, off, h3, h4, h5⟩ := h1 (by rw [hl]; exact h0)
   refine ⟨b, off, h3, h4, fun i hi => ?_⟩
   have := h5 i (by rw [hl]; exact hi)
   unfold flowsO at this
   rw [if_pos hc, nth_range _ hi] at this
   exact this))
 have hBC := fun W v h0 h1 h2 => brd_calls A1 c1 ws s x v W hch ok hxl h0 h1 h2
 have hGC := fun W v B d h0 h1 h2 h3 => giv_calls A1 c1 ws s x k v B d W hch ok hxl hk he h0 h1 h2 h3
 have hps := (g.fine hxl).n
 have HC := hd5 hP hO hS hG hFL
 have HD := hd2 hBC hGC
 have HL := hd6 (less_board g ok hxl) (fun j hj hc hx => behind_more (k := j) g ok hxl hj hc hx) hk g.n1 g.n2 hps
 clear hP hO hS hG hFL hBC hGC hw hch g ok he hrl hi hps
 go_enter Try.func8, Try.ntmps8
 go_upto_region 1 with fail
 generalize ((w.alloc (.cells #[.slice A1 ws.length c1] 24)).alloc (.cells #[.slice s.A0 s.ri.length s.c0, .slice s.A1 s.bo.length s.c1, .slice s.A2 s.lk.length s.c2, .slice s.A3 s.lo.length s.c3] 27)) = W0 at *
 have q0 := cr 0 K.out.1.1.1.1.2
 have q3 := cr 0 K.out.1.1.1.2
 have q4 := cr 1 K.out.1.1.1.2
 have q5 := cr 2 K.out.1.1.1.2
 have q6 := cr 3 K.out.1.1.1.2
 go_upto_region 3 with (first
  | (go_at_call 27; have _t := K6; clear _t; refine (CheckWater_any A1 c1 ws s _ K6.out.1.2.1 K6.out.1.2.2).mono ?_; rw [F3.out]; rintro e w8 ⟨rfl, hb⟩; have K8 := Lib.hid (K6.out.on hb); clear hb)
  | (go_at_call 19; have _t := K2; clear _t; refine (wet_any s _ K2.out.1.1.2.2).mono ?_; rw [F1.out]; rintro e w7 ⟨rfl, hb⟩; have K6 := Lib.hid (K2.out.on hb); have p7 := cr 0 K6.out.1.1.1.1.2; have r3 := cr 0 K6.out.1.1.1.2; have r4 := cr 1 K6.out.1.1.1.2; have r5 := cr 2 K6.out.1.1.1.2; have r6 := cr 3 K6.out.1.1.1.2; clear hb)
  | (go_at_call 18; refine (few_any A1 c1 ws _ K.out.1.1.2.1).mono ?_; rw [F0.out]; rintro e w3 ⟨rfl, hb⟩; have K2 := Lib.hid (K.out.on hb); have p3 := cr 0 K2.out.1.1.1.2; have p4 := cr 1 K2.out.1.1.1.2; have p5 := cr 2 K2.out.1.1.1.2; have p6 := cr 3 K2.out.1.1.1.2; clear hb))
 clear q0 q3 q4 q5 q6 p3 p4 p5 p6 p7 r3 r4 r5 r6 K K2 K6
 have q0 := cr 0 K8.out.1.1.1.1.2
 have q3 := cr 0 K8.out.1.1.1.2
 have q4 := cr 1 K8.out.1.1.1.2
 have q5 := cr 2 K8.out.1.1.1.2
 have q6 := cr 3 K8.out.1.1.1.2
 go_upto_region 6 with (go_at_call 39; refine (HC.out.1 _ K8.out.1.2.1).mono ?_; rintro e w9 ⟨rfl, hb⟩; have K9 := Lib.hid (K8.out.on hb); clear hb)
 clear q0 q3 q4 q5 q6 K8
 have q0 := cr 0 K9.out.1.1.1.1.2
 have q3 := cr 0 K9.out.1.1.1.2
 have q4 := cr 1 K9.out.1.1.1.2
 have q5 := cr 2 K9.out.1.1.1.2
 have q6 := cr 3 K9.out.1.1.1.2
 go_upto_region 7 with (go_at_call 33; refine (HC.out.2.1 _ K9.out.1.2.1 K9.out.1.2.2).mono ?_; rintro e X0 ⟨a, E, rfl, hO, hb⟩; have KA := Lib.hid (K9.out.on hb); have HO := Lib.hid hO; clear hb hO)
 clear q0 q3 q4 q5 q6 K9
 go_cut [86] from 58 to 86 (fun s86 w' => s86 = .bool false ∧ Aside (Below X0.heap.size X0 w'))
 case first =>
  refine wp_region_R (fun _ => true) ?_
  have KB := Lib.hid (KA.out.on (Below.refl _ _).drew)
  have HB0 := Lib.hid ((Below.refl X0.heap.size X0).drew)
  generalize X0.drew = X1 at *
  have q0 := cr 0 KB.out.1.1.1.1.2
  have q3 := cr 0 KB.out.1.1.1.2
  have q4 := cr 1 KB.out.1.1.1.2
  have q5 := cr 2 KB.out.1.1.1.2
  have q6 := cr 3 KB.out.1.1.1.2
  rcases HO.out with hE | ⟨rfl, ⟨ha0, ha1⟩, hge, hlt⟩
  ·have hz : (E == 0) = false := by simpa using hE
   have hz2 : ¬ E = 0 := hE
   refine bF 0 rfl ?_
   refine bF 1 rfl ?_
   refine bF 2 rfl ?_
   refine bS 3 rfl ?_
   refine bS 4 rfl ?_
   refine bS 5 rfl ?_
   refine bS 6 rfl ?_
   refine bS 7 rfl ?_
   refine bS 8 rfl ?_
   refine bS 9 rfl ?_
   refine bS 10 rfl ?_
   refine bS 11 rfl ?_
   refine bS 12 rfl ?_
   refine bS 13 rfl ?_
   refine bS 14 rfl ?_
   refine bS 15 rfl ?_
   refine bS 16 rfl ?_
   refine bS 17 rfl ?_
   refine bS 18 rfl ?_
   refine bS 19 rfl ?_
   refine bS 20 rfl ?_
   refine bS 21 rfl ?_
   refine bS 22 rfl ?_
   refine bS 23 rfl ?_
   refine bS 24 rfl ?_
   refine bS 25 rfl ?_
   refine bS 26 rfl ?_
   refine bS 27 rfl ?_
   refine bF 28 rfl ?_
   refine bD ?_
   go_wp2_with fail
   go_meet
   case rel => exact ⟨rfl, HB0.out⟩
  ·have hp8 := HL.out.2.2.2.2.2.2
   have hlt1 : ¬ flowF ws (brdW s x a) x < want := by omega
   refine bF 0 rfl ?_
   refine bF 1 rfl ?_
   refine bF 2 rfl ?_
   refine bT q0 3 rfl ?_
   refine bW q3 q4 q5 q6 4 rfl ?_
   refine bF 5 rfl ?_
   refine bF 6 rfl ?_
   refine bF 8 rfl ?_
   refine bF 10 rfl ?_
   clear q0 q3 q4 q5 q6
   refine bR 7 rfl fun K hK => ?_
   go_simp
   refine (HD.out.1 X1 a ha0 ha1 KB.out.1.2.2).mono ?_
   rintro e X2 ⟨s', rfl, hw', hfl, -, hb⟩
   dsimp only
   refine hK.out _ _ (fun _ => hb) ?_
   have KC := Lib.hid ((KB.out.on hb).and (stays_wet hw'))
   have HB1 := Lib.hid (HB0.out.trans (hb.mono HB0.out.size))
   have HFL := Lib.hid hfl
   clear hK hb hw' hfl KB HB0
   refine bR 9 rfl fun K hK => ?_
   go_simp
   refine (HFL.out _ KC.out.1.1.2.1 KC.out.1.2).mono ?_
   rintro e X3 ⟨rfl, hb⟩
   dsimp only
   refine hK.out _ _ (fun _ => hb) ?_
   have KD := Lib.hid (KC.out.on hb)
   have HB2 := Lib.hid (HB1.out.trans (hb.mono HB1.out.size))
   clear hK hb HFL KC HB1
   generalize flowF ws (brdW s x a) x = f1 at *
   refine bF 11 rfl ?_
   refine bF 12 rfl ?_
   refine bF 13 rfl ?_
   by_cases h0 : 0 < a
   ·have hw1 : IntKind.i64.wrap (a - 1) = a - 1 := by rw [IntKind.wrap_i64]; omega
    have hlt2 : ¬ want ≤ flowF ws (brdW s x (a - 1)) x := by have := hlt h0; omega
    clear hlt
    have q0 := cr 0 KD.out.1.1.1.1.1.2
    have q3 := cr 0 KD.out.1.1.1.1.2
    have q4 := cr 1 KD.out.1.1.1.1.2
    have q5 := cr 2 KD.out.1.1.1.1.2
    have q6 := cr 3 KD.out.1.1.1.1.2
    refine bF 14 rfl ?_
    refine bF 15 rfl ?_
    refine bT q0 16 rfl ?_
    refine bW q3 q4 q5 q6 17 rfl ?_
    refine bF 18 rfl ?_
    refine bF 19 rfl ?_
    refine bF 20 rfl ?_
    refine bF 22 rfl ?_
    refine bF 24 rfl ?_
    clear q0 q3 q4 q5 q6
    refine bR 21 rfl fun K hK => ?_
    go_simp
    refine (HD.out.1 X3 (a - 1) (by omega) (by omega) KD.out.1.1.2.2).mono ?_
    rintro e X4 ⟨s2, rfl, hw', hfl, -, hb⟩
    dsimp only
    refine hK.out _ _ (fun _ => hb) ?_
    have KC := Lib.hid ((KD.out.on hb).and (stays_wet hw'))
    have HB1 := Lib.hid (HB2.out.trans (hb.mono HB2.out.size))
    have HFL := Lib.hid hfl
    clear hK hb hw' hfl KD HB2
    refine bR 23 rfl fun K hK => ?_
    go_simp
    refine (HFL.out _ KC.out.1.1.1.2.1 KC.out.1.2).mono ?_
    rintro e X5 ⟨rfl, hb⟩
    dsimp only
    refine hK.out _ _ (fun _ => hb) ?_
    have HB2 := Lib.hid (HB1.out.trans (hb.mono HB1.out.size))
    clear hK hb HFL KC HB1
    refine bF 25 rfl ?_
    refine bF 26 rfl ?_
    refine bF 27 rfl ?_
    refine bF 28 rfl ?_
    refine bD ?_
    go_wp2_with fail
    go_meet
    case rel => exact ⟨rfl, HB2.out⟩
   ·refine bF 14 rfl ?_
    refine bF 15 rfl ?_
    refine bS 16 rfl ?_
    refine bS 17 rfl ?_
    refine bS 18 rfl ?_
    refine bS 19 rfl ?_
    refine bS 20 rfl ?_
    refine bS 21 rfl ?_
    refine bS 22 rfl ?_
    refine bS 23 rfl ?_
    refine bS 24 rfl ?_
    refine bS 25 rfl ?_
    refine bF 26 rfl ?_
    refine bF 27 rfl ?_
    refine bF 28 rfl ?_
    refine bD ?_
    go_wp2_with fail
    go_meet
    case rel => exact ⟨rfl, HB2.out⟩
 case rest =>
  obtain ⟨rfl, hB⟩ := hcut
  have KB := Lib.hid (KA.out.on hB.out)
  clear hB KA HO
  have q0 := cr 0 KB.out.1.1.1.1.2
  have q3 := cr 0 KB.out.1.1.1.2
  have q4 := cr 1 KB.out.1.1.1.2
  have q5 := cr 2 KB.out.1.1.1.2
  have q6 := cr 3 KB.out.1.1.1.2
  go_upto_region 10 with (go_at_call 35; refine (HC.out.2.2.1 _ KB.out.1.2.1 KB.out.1.2.2).mono ?_; rintro e Y0 ⟨a2, E2, rfl, hS, hb⟩; have KC := Lib.hid (KB.out.on hb); have HS := Lib.hid hS; clear hb hS)
  clear q0 q3 q4 q5 q6 KB
  have q0 := cr 0 KC.out.1.1.1.1.2
  have q3 := cr 0 KC.out.1.1.1.2
  have q4 := cr 1 KC.out.1.1.1.2
  have q5 := cr 2 KC.out.1.1.1.2
  have q6 := cr 3 KC.out.1.1.1.2
  go_upto_region 11 with (go_at_call 37; refine (HC.out.2.2.2.1 _ KC.out.1.2.1).mono ?_; rintro e Y1 ⟨A7, c7, A8, n8, c8, A9, n9, c9, rfl, hr, hb⟩; have KD := Lib.hid ((KC.out.on hb).and (stays_rd hr)); clear hb hr)
  clear q0 q3 q4 q5 q6 KC
  have q0 := cr 0 KD.out.1.1.1.1.1.2
  have q3 := cr 0 KD.out.1.1.1.1.2
  have q4 := cr 1 KD.out.1.1.1.1.2
  have q5 := cr 2 KD.out.1.1.1.1.2
  have q6 := cr 3 KD.out.1.1.1.1.2
  go_upto_if 114 with fail
  go_cut [20] from 115 to 155 (fun s20 w' => Aside (Below Y1.heap.size Y1 w'))
  case first =>
   rcases HS.out with hE | ⟨rfl, ⟨hb0, hb1⟩, hge, hlt⟩
   ·have hz : (E2 == 0) = false := by simpa using hE
    have hz2 : ¬ E2 = 0 := hE
    go_wp2_with fail
    go_meet
    case rel => exact Below.refl _ _
   ·have hcv : IntKind.i64.wrap n = n := by rw [IntKind.wrap_i64]; omega
    go_upto_region 15 with fail
    obtain ⟨m, hm, hm1, hm2⟩ : ∃ m, (if a2 + n < 1048576 then a2 + n else 1048576) = m ∧ a2 ≤ m ∧ m ≤ 1048576 := ⟨_, rfl, by split <;> omega, by split <;> omega⟩
    rw [hm]
    clear hm
    have h1 : ¬ flowF ws (givW s k a2) x < want := by have := hge a2 (Int.le_refl _) hb1; omega
    have h2 : ¬ flowF ws (givW s k m) x < want := by have := hge m hm1 hm2; omega
    refine wp_region_R (fun _ => true) ?_
    have KE := Lib.hid (KD.out.on (Below.refl _ _).drew)
    have HB0 := Lib.hid ((Below.refl Y1.heap.size Y1).drew)
    generalize Y1.drew = Z0 at *
    clear q0 q3 q4 q5 q6
    have q0 := cr 0 KE.out.1.1.1.1.1.2
    have q3 := cr 0 KE.out.1.1.1.1.2
    have q4 := cr 1 KE.out.1.1.1.1.2
    have q5 := cr 2 KE.out.1.1.1.1.2
    have q6 := cr 3 KE.out.1.1.1.1.2
    refine bT q0 0 rfl ?_
    refine bW q3 q4 q5 q6 1 rfl ?_
    refine bF 2 rfl ?_
    refine bF 3 rfl ?_
    refine bF 5 rfl ?_
    refine bF 7 rfl ?_
    clear q0 q3 q4 q5 q6
    refine bR 4 rfl fun K hK => ?_
    go_simp
    refine (HD.out.2 Z0 a2 _ _ hb0 hb1 KE.out.1.1.2.2 KE.out.1.2).mono ?_
    rintro e Z1a ⟨s', rfl, hw', hfl, hb⟩
    dsimp only
    refine hK.out _ _ (fun _ => hb) ?_
    have KFa := Lib.hid ((KE.out.on hb).and (stays_wet hw'))
    have HB1a := Lib.hid (HB0.out.trans (hb.mono HB0.out.size))
    have HFL := Lib.hid hfl
    clear hK hb hw' hfl KE HB0
    refine bR 6 rfl fun K hK => ?_
    go_simp
    refine (HFL.out _ KFa.out.1.1.1.2.1 KFa.out.1.2).mono ?_
    rintro e Z1 ⟨rfl, hb⟩
    dsimp only
    refine hK.out _ _ (fun _ => hb) ?_
    have KF := Lib.hid (KFa.out.on hb)
    have HB1 := Lib.hid (HB1a.out.trans (hb.mono HB1a.out.size))
    clear hK hb HFL KFa HB1a
    generalize flowF ws (givW s k a2) x = f1 at *
    have q0 := cr 0 KF.out.1.1.1.1.1.1.2
    have q3 := cr 0 KF.out.1.1.1.1.1.2
    have q4 := cr 1 KF.out.1.1.1.1.1.2
    have q5 := cr 2 KF.out.1.1.1.1.1.2
    have q6 := cr 3 KF.out.1.1.1.1.1.2
    refine bF 8 rfl ?_
    refine bF 9 rfl ?_
    refine bT q0 10 rfl ?_
    refine bW q3 q4 q5 q6 11 rfl ?_
    refine bF 12 rfl ?_
    refine bF 13 rfl ?_
    refine bF 15 rfl ?_
    refine bF 17 rfl ?_
    clear q0 q3 q4 q5 q6
    refine bR 14 rfl fun K hK => ?_
    go_simp
    refine (HD.out.2 Z1 m _ _ (by omega) hm2 KF.out.1.1.1.2.2 KF.out.1.1.2).mono ?_
    rintro e Z2a ⟨s', rfl, hw', hfl, hb⟩
    dsimp only
    refine hK.out _ _ (fun _ => hb) ?_
    have KGa := Lib.hid ((KF.out.on hb).and (stays_wet hw'))
    have HB2a := Lib.hid (HB1.out.trans (hb.mono HB1.out.size))
    have HFL := Lib.hid hfl
    clear hK hb hw' hfl KF HB1
    refine bR 16 rfl fun K hK => ?_
    go_simp
    refine (HFL.out _ KGa.out.1.1.1.1.2.1 KGa.out.1.2).mono ?_
    rintro e Z2 ⟨rfl, hb⟩
    dsimp only
    refine hK.out _ _ (fun _ => hb) ?_
    have KG := Lib.hid (KGa.out.on hb)
    have HB2 := Lib.hid (HB2a.out.trans (hb.mono HB2a.out.size))
    clear hK hb HFL KGa HB2a
    generalize flowF ws (givW s k m) x = f2 at *
    refine bF 18 rfl ?_
    refine bF 19 rfl ?_
    refine bF 20 rfl ?_
    refine bF 21 rfl ?_
    by_cases h0 : 0 < a2
    ·have hw1 : IntKind.i64.wrap (a2 - 1) = a2 - 1 := by rw [IntKind.wrap_i64]; omega
     have h3 : ¬ want ≤ flowF ws (givW s k (a2 - 1)) x := by have := hlt h0; omega
     clear hlt hge
     have q0 := cr 0 KG.out.1.1.1.1.1.1.1.2
     have q3 := cr 0 KG.out.1.1.1.1.1.1.2
     have q4 := cr 1 KG.out.1.1.1.1.1.1.2
     have q5 := cr 2 KG.out.1.1.1.1.1.1.2
     have q6 := cr 3 KG.out.1.1.1.1.1.1.2
     refine bF 22 rfl ?_
     refine bF 23 rfl ?_
     refine bT q0 24 rfl ?_
     refine bW q3 q4 q5 q6 25 rfl ?_
     refine bF 26 rfl ?_
     refine bF 27 rfl ?_
     refine bF 28 rfl ?_
     refine bF 30 rfl ?_
     refine bF 32 rfl ?_
     clear q0 q3 q4 q5 q6
     refine bR 29 rfl fun K hK => ?_
     go_simp
     refine (HD.out.2 Z2 (a2 - 1) _ _ (by omega) (by omega) KG.out.1.1.1.1.2.2 KG.out.1.1.1.2).mono ?_
     rintro e Z3a ⟨s', rfl, hw', hfl, hb⟩
     dsimp only
     refine hK.out _ _ (fun _ => hb) ?_
     have KHa := Lib.hid ((KG.out.on hb).and (stays_wet hw'))
     have HB3a := Lib.hid (HB2.out.trans (hb.mono HB2.out.size))
     have HFL := Lib.hid hfl
     clear hK hb hw' hfl KG HB2
     refine bR 31 rfl fun K hK => ?_
     go_simp
     refine (HFL.out _ KHa.out.1.1.1.1.1.2.1 KHa.out.1.2).mono ?_
     rintro e Z3 ⟨rfl, hb⟩
     dsimp only
     refine hK.out _ _ (fun _ => hb) ?_
     have KH := Lib.hid (KHa.out.on hb)
     have HB3 := Lib.hid (HB3a.out.trans (hb.mono HB3a.out.size))
     clear hK hb HFL KHa HB3a
     refine bF 33 rfl ?_
     refine bF 34 rfl ?_
     refine bF 35 rfl ?_
     refine bD ?_
     go_wp2_with fail
     go_meet
     case rel => exact HB3.out
    ·clear hlt hge
     refine bF 22 rfl ?_
     refine bF 23 rfl ?_
     refine bS 24 rfl ?_
     refine bS 25 rfl ?_
     refine bS 26 rfl ?_
     refine bS 27 rfl ?_
     refine bS 28 rfl ?_
     refine bS 29 rfl ?_
     refine bS 30 rfl ?_
     refine bS 31 rfl ?_
     refine bS 32 rfl ?_
     refine bS 33 rfl ?_
     refine bF 34 rfl ?_
     refine bF 35 rfl ?_
     refine bD ?_
     go_wp2_with fail
     go_meet
     case rel => exact HB2.out
  case rest =>
   have KE := Lib.hid (KD.out.on hcut.out)
   clear hcut KD HS q0 q3 q4 q5 q6
   go_upto_region 17 with fail
   refine wp_region_R (fun _ => true) ?_
   have KF := Lib.hid (KE.out.on (Below.refl _ _).drew)
   clear KE
   generalize wc.drew = Z0 at *
   have q0 := cr 0 KF.out.1.1.1.1.1.2
   have q3 := cr 0 KF.out.1.1.1.1.2
   have q4 := cr 1 KF.out.1.1.1.1.2
   have q5 := cr 2 KF.out.1.1.1.1.2
   have q6 := cr 3 KF.out.1.1.1.1.2
   refine bT q0 0 rfl ?_
   refine bW q3 q4 q5 q6 1 rfl ?_
   refine bF 2 rfl ?_
   clear q0 q3 q4 q5 q6
   have hp8 := HL.out.2.2.2.2.2
   refine bR 3 rfl fun K hK => ?_
   go_simp
   refine (HD.out.1 Z0 0 (by omega) (by omega) KF.out.1.1.2.2).mono ?_
   rintro e Z1 ⟨s', rfl, hw', -, ⟨hcw', hff⟩, hb⟩
   dsimp only
   refine hK.out _ _ (fun _ => hb) ?_
   have KG := Lib.hid ((KF.out.on hb).and (stays_wet hw'))
   have HFF := hd2 hcw' hff
   clear hK hb hw' hcw' hff KF hp8
   refine bR 4 rfl fun K hK => ?_
   go_simp
   refine (HC.out.2.2.2.2 _ s' KG.out.1.1.1.2.1 KG.out.1.2 HFF.out.1).mono ?_
   rintro e Z2 ⟨A8, c8, rfl, hr, hb⟩
   dsimp only
   refine hK.out _ _ (fun _ => hb) ?_
   rw [HFF.out.2] at hr
   obtain ⟨b8, o8, rfl, -, hc8⟩ := hr (by omega)
   have KH := Lib.hid ((KG.out.on hb).and (stays_fl hc8))
   clear hK hb hr hc8 KG HFF
   refine bF 5 rfl ?_
   refine bF 6 rfl ?_
   refine bF 7 rfl ?_
   refine bF 8 rfl ?_
   refine bF 9 rfl ?_
   refine bD ?_
   have q0 := cr 0 KH.out.1.1.1.1.1.1.1.2
   have q3 := cr 0 KH.out.1.1.1.1.1.1.2
   have q4 := cr 1 KH.out.1.1.1.1.1.1.2
   have q5 := cr 2 KH.out.1.1.1.1.1.1.2
   have q6 := cr 3 KH.out.1.1.1.1.1.1.2
   go_upto_region 19 with (go_at_call 21; refine (HC.out.2.2.2.2 _ s KH.out.1.1.1.1.2.1 KH.out.1.1.1.1.2.2 F3.out).mono ?_; rintro e Z3 ⟨A9, c9, rfl, hr, hb⟩; obtain ⟨b9, o9, rfl, -, hc9⟩ := hr (by omega); have KI := Lib.hid ((KH.out.on hb).and (stays_fl hc9)); clear hb hr hc9)
   clear q0 q3 q4 q5 q6 KH
   refine wp_region_R (fun _ => true) ?_
   have KJ := Lib.hid (KI.out.on (Below.refl _ _).drew)
   clear KI
   generalize Z3.drew = Z4 at *
   have z8 := KJ.out.1.1.2 x hxl
   have z9 := KJ.out.1.2 x hxl
   have hxz : (x : Int) < ((outs ws).length : Int) := by omega
   have hxz2 : ¬ ((outs ws).length : Int) ≤ (x : Int) := by omega
   have hxn : ¬ (outs ws).length ≤ x := by omega
   have hle : ¬ flowF ws s x < flowF ws (brdW s x 0) x := by have := HL.out.1; omega
   refine bF 0 rfl ?_
   refine bF 1 rfl ?_
   refine bF 2 rfl ?_
   refine bF 3 rfl ?_
   refine bF 4 rfl ?_
   refine bF 5 rfl ?_
   refine bF 6 rfl ?_
   refine bF 7 rfl ?_
   refine bF 8 rfl ?_
   refine bF 9 rfl ?_
   refine bF 10 rfl ?_
   refine bF 11 rfl ?_
   refine bF 12 rfl ?_
   refine bF 13 rfl ?_
   refine bF 14 rfl ?_
   refine bF 15 rfl ?_
   refine bF 16 rfl ?_
   refine bF 17 rfl ?_
   refine bF 18 rfl ?_
   refine bF 19 rfl ?_
   refine bF 20 rfl ?_
   refine bF 21 rfl ?_
   refine bF 22 rfl ?_
   refine bT z8 23 rfl ?_
   refine bF 24 rfl ?_
   refine bF 25 rfl ?_
   refine bF 26 rfl ?_
   refine bT z9 27 rfl ?_
   refine bF 28 rfl ?_
   refine bF 29 rfl ?_
   refine bD ?_
   clear z8 z9 hxz2 hle
   have HW := Lib.hid KJ.out.1.1.1.1.1.2.1
   have KM := Lib.hid (((stays_bl KJ.out.1.1.1.1.1.1.1.1.1).and (stays_blk KJ.out.1.1.1.1.1.1.1.1.2)).and ((stays_fl KJ.out.1.1.2).and (stays_fl KJ.out.1.2)))
   have HST : Hid (∀ t, t ≤ ws.length → start ws t ≤ (outs ws).length) := Lib.hid (fun t ht => by rw [← start_all]; exact start_mono ht (Nat.le_refl _))
   have hn16 := HL.out.2.2.2.1
   have hn60 := HL.out.2.2.2.2.1
   have HLB := Lib.hid HL.out.2.1
   clear HL HC HD KJ F0 F1 F3 hk
   go_upto_region 23 with fail
   go_loopg [25, 26, 27, 28] ws.length (fun gg vn vc _ _ wr => ∃ t : Nat, t ≤ ws.length ∧ ws.length - t ≤ gg ∧ vc = .int .i64 t ∧ vn = .int .i64 (start ws t) ∧ Aside (Below Z4.heap.size Z4 wr))
   case atStart => exact ⟨0, Nat.zero_le _, by omega, rfl, rfl, Below.refl _ _⟩
   case round =>
    obtain ⟨t, ht0, htg, rfl, rfl, hA⟩ := hrel
    have KR := Lib.hid (KM.out.on hA.out)
    have HA := Lib.hid hA.out
    clear hA
    have q0 := cr 0 KR.out.1.1.2
    by_cases htl : t < ws.length
    ·have htz : (t : Int) < (ws.length : Int) := by omega
     obtain ⟨b, off, rfl, hbl, hcs⟩ := HW.out.rd (by omega)
     have p1 := (HA.out.cell (p := ⟨b, off + t, none⟩) hbl).trans (hcs t htl).1
     have hs1 := HST.out (t + 1) htl
     have hs2 := start_succ htl
     have hws : wrap64 ((start ws t : Int) + ((cAt ws t).os.length : Int)) = (start ws (t + 1) : Int) := by unfold wrap64; omega
     have hwx : wrap64 ((x : Int) + 1) = ((x + 1 : Nat) : Int) := by unfold wrap64; omega
     have HS3 := hd2 hs1 hs2
     clear hcs hs1 hs2 hbl
     go_upto_region 28 with fail
     rw [hws]
     (try rw [hwx])
     have HCA : Hid (∀ d, start ws t ≤ x → x < d → d < start ws (t + 1) → caAt ws x = caAt ws d) := Lib.hid (fun d h1 h2 h3 => by
      have e1 := caAt_start (k := x - start ws t) htl (by have := HS3.out; omega)
      have e2 := caAt_start (k := d - start ws t) htl (by have := HS3.out; omega)
      rw [show start ws t + (x - start ws t) = x by omega] at e1
      rw [show start ws t + (d - start ws t) = d by omega] at e2
      rw [e1, e2])
     clear q0 p1 hws hwx
     generalize start ws t = f0 at *
     obtain ⟨f1, hf1⟩ : ∃ f, start ws (t + 1) = f := ⟨_, rfl⟩
     have HF1 := Lib.hid hf1
     rw [hf1] at HS3 HCA ⊢
     clear hf1
     generalize wr = w5 at *
     go_loopg [28] (outs ws).length (fun gg vk wr => ∃ d : Nat, x + 1 ≤ d ∧ d ≤ (outs ws).length ∧ (outs ws).length - d ≤ gg ∧ vk = .int .i64 d ∧ Aside (Below w5.heap.size w5 wr))
     case atStart => exact ⟨x + 1, Nat.le_refl _, hxl, by omega, rfl, Below.refl _ _⟩
     case round =>
      obtain ⟨d, hd0, hd1, hdg, rfl, hD⟩ := hrel
      have KS := Lib.hid (KR.out.on hD.out)
      have HDB := Lib.hid hD.out
      clear hD
      by_cases hf : f0 ≤ x
      ·have hfz : (f0 : Int) ≤ (x : Int) := by omega
       by_cases hdl : d < f1
       ·have hdz : (d : Int) < (f1 : Int) := by omega
        have hdN : d < (outs ws).length := by have := HS3.out; omega
        have hle : ¬ flowF ws (brdW s x 0) d < flowF ws s d := by have := HLB.out d hdN (HCA.out d hf hd0 hdl) hd0; omega
        have hdNz : (d : Int) < ((outs ws).length : Int) := by omega
        go_upto_region 30 with fail
        have KT := Lib.hid (KS.out.on (Below.refl _ _).drew)
        have HDC := Lib.hid (HDB.out.trans ((Below.refl wr.heap.size wr).drew.mono HDB.out.size))
        refine wp_region_R (fun _ => true) ?_
        clear KS HDB
        generalize wr.drew = w6 at *
        have z8 := KT.out.1.2.1 d hdN
        have z9 := KT.out.1.2.2 d hdN
        refine bF 0 rfl ?_
        refine bF 1 rfl ?_
        refine bF 2 rfl ?_
        refine bT z8 3 rfl ?_
        refine bF 4 rfl ?_
        refine bF 5 rfl ?_
        refine bF 6 rfl ?_
        refine bT z9 7 rfl ?_
        refine bF 8 rfl ?_
        refine bD ?_
        clear z8 z9
        go_wp2
        go_roundg ((outs ws).length - (d + 1))
        case measure => omega
        case rel => exact ⟨d + 1, by omega, by omega, by omega, by go_num, HDC.out⟩
       ·have hdz : ¬ (d : Int) < (f1 : Int) := by omega
        go_wp2
        go_roundg (ws.length - (t + 1))
        case measure => omega
        case rel => exact ⟨t + 1, by omega, by omega, by go_num, by rw [HF1.out], HA.out.trans (HDB.out.mono HA.out.size)⟩
      ·have hfz : ¬ (f0 : Int) ≤ (x : Int) := by omega
       go_wp2
       go_roundg (ws.length - (t + 1))
       case measure => omega
       case rel => exact ⟨t + 1, by omega, by omega, by go_num, by rw [HF1.out], HA.out.trans (HDB.out.mono HA.out.size)⟩
    ·have htz : ¬ (t : Int) < (ws.length : Int) := by omega
     go_wp2_with (go_at_call 20; refine (sanity_any _).mono ?_; rintro e wz ⟨rfl, hb⟩; have KZ := Lib.hid (KR.out.on hb); clear hb)
     go_ret
     exact ⟨rfl, KZ.out.1.1.1⟩
end Go.Proofs.Ytdadoelajhemjaa
