/- Walks: SameWorks, of works whose contents are equal. -/
import Derived.Test.YtdadoelajhemjaaZ1
import Derived.Test.YtdadoelajhemjaaQ1
import Derived.Test.YtdadoelajhemjaaM12
namespace Go.Proofs.Ytdadoelajhemjaa
open Go.RowKit Go.Shelf

theorem cont_len {ws vs : List Car} (h : contW ws = contW vs) : ws.length = vs.length := by
 have := congrArg List.length h
 simpa [contW] using this
theorem cont_at {ws vs : List Car} (h : contW ws = contW vs) {i : Nat} (hi : i < ws.length) : (cAt ws i).os.map Ot.oc = (cAt vs i).os.map Ot.oc := by
 have hl := cont_len h
 have := congrArg (fun l => l[i]?) h
 simp only [contW, List.getElem?_map, List.getElem?_eq_getElem hi, List.getElem?_eq_getElem (show i < vs.length by omega), Option.map_some, Option.some.injEq] at this
 unfold cAt
 rw [List.getD_eq_getElem?_getD, List.getD_eq_getElem?_getD, List.getElem?_eq_getElem hi, List.getElem?_eq_getElem (show i < vs.length by omega)]
 exact this
theorem oc_len {os us : List Ot} (h : os.map Ot.oc = us.map Ot.oc) : os.length = us.length := by
 have := congrArg List.length h
 simpa using this
theorem oc_at {os us : List Ot} (h : os.map Ot.oc = us.map Ot.oc) {i : Nat} (hi : i < os.length) : (oAt os i).oc = (oAt us i).oc := by
 have hl := oc_len h
 have := congrArg (fun l => l[i]?) h
 simp only [List.getElem?_map, List.getElem?_eq_getElem hi, List.getElem?_eq_getElem (show i < us.length by omega), Option.map_some, Option.some.injEq] at this
 unfold oAt
 rw [List.getD_eq_getElem?_getD, List.getD_eq_getElem?_getD, List.getElem?_eq_getElem hi, List.getElem?_eq_getElem (show i < us.length by omega)]
 exact this
set_option maxRecDepth 100000 in
set_option maxHeartbeats 3200000 in
theorem sameWorks_yes (A : Option Addr) (c : Nat) (ws : List Car) (B : Option Addr) (d : Nat) (vs : List Car) (w : World) (h1 : RdW w w.heap.size A ws) (h2 : RdW w w.heap.size B vs) (hc : contW ws = contW vs)
  (hm : ws.length ≤ 1000 ∧ ∀ i, i < ws.length → (cAt ws i).os.length ≤ 1000 ∧ ∀ j, j < (cAt ws i).os.length → (oAt (cAt ws i).os j).ps.length ≤ 1000) :
  Calls Try.prog 53 #[.agg #[.slice A ws.length c], .agg #[.slice B vs.length d]] w fun e w' => e = .returned (.bool true) ∧ Below w.heap.size w w' := by
 have hb : Below w.heap.size w ((w.alloc (.cells #[.slice A ws.length c] 24)).alloc (.cells #[.slice B vs.length d] 24)) := ((Below.refl _ w).alloc (Nat.le_refl _) _).alloc (by simp) _
 have K := Lib.hid (((stays_bl hb).and (stays_blk (blk_alloc (blk_new w #[.slice A ws.length c] 24 rfl) _))).and (stays_blk (g := w.heap.size + 1) (blk_new (w.alloc (.cells #[.slice A ws.length c] 24)) #[.slice B vs.length d] 24 (by simp))))
 have HR := hd3 (h1.ext hb) (h2.ext hb) hc
 have HM := Lib.hid hm.2
 have hl := cont_len hc
 have hm0 := hm.1
 rw [← hl]
 have HL := Lib.hid hl
 clear hb h1 h2 hc hm hl
 go_enter Try.func53, Try.ntmps53
 go_upto_region 1 with fail
 rw [← HL.out] at K HR
 generalize ((w.alloc (.cells #[.slice A ws.length c] 24)).alloc (.cells #[.slice B ws.length d] 24)) = W1 at *
 have p0 := cr 0 K.out.1.1.2
 have q0 := cr 0 K.out.1.2
 have hbb : ((ws.length : Int) != (ws.length : Int)) = false := by simp
 go_upto_region 4 with fail
 clear p0 q0
 go_loopg [5] ws.length (fun gg i wr => ∃ t : Nat, t ≤ ws.length ∧ ws.length - t ≤ gg ∧ i = .int .i64 t ∧ Aside (Below W1.heap.size W1 wr))
 case atStart => exact ⟨0, Nat.zero_le _, by omega, rfl, Below.refl _ _⟩
 case round =>
  obtain ⟨t, ht, hg, rfl, hA⟩ := hrel
  have HA := Lib.hid hA.out
  have K1 := Lib.hid (K.out.on hA.out)
  clear hA
  have p0 := cr 0 K1.out.1.1.2
  have q0 := cr 0 K1.out.1.2
  by_cases hlt : t < ws.length
  ·have hltz : (t : Int) < (ws.length : Int) := by omega
   obtain ⟨b, off, rfl, hbl, hcs⟩ := HR.out.1 (by omega)
   obtain ⟨b', off', rfl, hbl', hcs'⟩ := HR.out.2.1 (by rw [← HL.out]; omega)
   have p1 := (HA.out.cell (p := ⟨b, off + t, none⟩) hbl).trans (hcs t hlt).1
   have q1 := (HA.out.cell (p := ⟨b', off' + t, none⟩) hbl').trans (hcs' t (by rw [← HL.out]; exact hlt)).1
   have hoc := cont_at HR.out.2.2 hlt
   have hol := oc_len hoc
   rw [← hol] at q1
   have HO := hd4 (hcs t hlt).2 (hcs' t (by rw [← HL.out]; exact hlt)).2 hoc hol
   have HMT := Lib.hid (HM.out t hlt)
   clear hcs hcs' hbl hbl' hoc hol
   generalize (cAt ws t).A = A4 at *
   generalize (cAt ws t).c = c4 at *
   generalize (cAt ws t).os = os at *
   generalize (cAt vs t).A = A5 at *
   generalize (cAt vs t).c = c5 at *
   generalize (cAt vs t).os = us at *
   go_upto_region 6 with fail
   refine wp_region_R (fun _ => true) ?_
   have HA2 := Lib.hid (HA.out.trans ((Below.refl wr.heap.size wr).drew.mono HA.out.size))
   have r0 : wr.drew.cell? ⟨w.heap.size, 0, none⟩ = some (.slice (some ⟨b, off, none⟩) ws.length c) := p0
   have r1 : wr.drew.cell? ⟨b, off + t, none⟩ = some (.slice A4 os.length c4) := p1
   have r2 : wr.drew.cell? ⟨w.heap.size + 1, 0, none⟩ = some (.slice (some ⟨b', off', none⟩) ws.length d) := q0
   have r3 : wr.drew.cell? ⟨b', off' + t, none⟩ = some (.slice A5 os.length c5) := q1
   clear p0 p1 q0 q1 HA K1
   generalize wr.drew = W5 at *
   have hlb : ((os.length : Int) != (os.length : Int)) = false := by simp
   refine bF 0 rfl ?_
   refine bT r0 1 rfl ?_
   refine bF 2 rfl ?_
   refine bF 3 rfl ?_
   refine bF 4 rfl ?_
   refine bT r1 5 rfl ?_
   refine bF 6 rfl ?_
   refine bF 7 rfl ?_
   refine bT r2 8 rfl ?_
   refine bF 9 rfl ?_
   refine bF 10 rfl ?_
   refine bF 11 rfl ?_
   refine bT r3 12 rfl ?_
   refine bF 13 rfl ?_
   refine bF 14 rfl ?_
   refine bD ?_
   go_upto_region 9 with fail
   have HP := hd3 (And.intro r0 r1) r2 r3
   have hos := HMT.out.1
   clear r0 r1 r2 r3
   go_loopg [6] os.length (fun gg i wr => ∃ e : Nat, e ≤ os.length ∧ os.length - e ≤ gg ∧ i = .int .i64 e ∧ Aside (Below W5.heap.size W5 wr))
   case atStart => exact ⟨0, Nat.zero_le _, by omega, rfl, Below.refl _ _⟩
   case round =>
    obtain ⟨e, he, heg, rfl, hB⟩ := hrel
    have HB := Lib.hid hB.out
    clear hB
    have p0 := cell_below HB.out HP.out.1.1
    have p1 := cell_below HB.out HP.out.1.2
    by_cases hel : e < os.length
    ·have helz : (e : Int) < (os.length : Int) := by omega
     have q0 := cell_below HB.out HP.out.2.1
     have q1 := cell_below HB.out HP.out.2.2
     obtain ⟨b2, o2, rfl, hb2, hc2⟩ := HO.out.1 (by omega)
     obtain ⟨b3, o3, rfl, hb3, hc3⟩ := HO.out.2.1 (by rw [← HO.out.2.2.2]; omega)
     have hbw : Below W1.heap.size W1 wr := HA2.out.trans (HB.out.mono HA2.out.size)
     have oa := (hc2 e hel).below hbw (Nat.le_refl _) hb2
     have ua := (hc3 e (by rw [← HO.out.2.2.2]; exact hel)).below hbw (Nat.le_refl _) hb3
     have hoc := oc_at HO.out.2.2.1 hel
     have hpl := HMT.out.2 e hel
     generalize oAt os e = o at *
     generalize oAt us e = u at *
     simp only [Ot.oc, Oc.mk.injEq] at hoc
     obtain ⟨h1, h2, h3, h4, h5, h6, h7⟩ := hoc
     have e0 := oa.c0
     have e1 := oa.c1
     have e2 := oa.c2
     have e3 := oa.c3
     have e4 := oa.c4
     have e5 := oa.c5
     have e6 := oa.c6
     have g0 := ua.c0
     have g1 := ua.c1
     have g2 := ua.c2
     have g3 := ua.c3
     have g4 := ua.c4
     have g5 := ua.c5
     have g6 := ua.c6
     have HRD := hd3 (oa.rd.mono hbw.size) (ua.rd.mono hbw.size) h3
     rw [← h1] at g0
     rw [← h2] at g1
     rw [← h3] at g2
     rw [← h4] at g3
     rw [← h5] at g4
     rw [← h6] at g5
     rw [← h7] at g6
     clear h1 h2 h3 h4 h5 h6 h7 oa ua hc2 hc3 hb2 hb3 hbw
     go_upto_region 12 with fail
     have hb6 := (Below.refl _ wr).alloc (Nat.le_refl _) (.cells #[.int .i64 o.id, .int .i64 o.into, .slice o.P o.ps.length o.c, .int .i64 o.kl, .int .i64 o.kh, .int .i64 o.sl, .int .i64 o.sh] 42)
     have k7 := blk_new wr #[.int .i64 o.id, .int .i64 o.into, .slice o.P o.ps.length o.c, .int .i64 o.kl, .int .i64 o.kh, .int .i64 o.sl, .int .i64 o.sh] 42 rfl
     replace q0 := cell_below hb6 q0
     replace q1 := cell_below hb6 q1
     replace g0 := cell_below hb6 g0
     replace g1 := cell_below hb6 g1
     replace g2 := cell_below hb6 g2
     replace g3 := cell_below hb6 g3
     replace g4 := cell_below hb6 g4
     replace g5 := cell_below hb6 g5
     replace g6 := cell_below hb6 g6
     have HB6 := hd4 (HB.out.trans (hb6.mono HB.out.size)) (HRD.out.1.ext hb6) (HRD.out.2.1.ext hb6) HRD.out.2.2
     clear hb6 e0 e1 e2 e3 e4 e5 e6 p0 p1 HB HRD
     generalize wr.alloc (.cells #[.int .i64 o.id, .int .i64 o.into, .slice o.P o.ps.length o.c, .int .i64 o.kl, .int .i64 o.kh, .int .i64 o.sl, .int .i64 o.sh] 42) = W6 at *
     generalize wr.heap.size = g7 at *
     go_upto_region 13 with fail
     have hb7 := (Below.refl _ W6).alloc (Nat.le_refl _) (.cells #[.int .i64 o.id, .int .i64 o.into, .slice u.P o.ps.length u.c, .int .i64 o.kl, .int .i64 o.kh, .int .i64 o.sl, .int .i64 o.sh] 42)
     have KB := Lib.hid (((stays_blk (blk_on k7 hb7)).and (stays_blk (blk_new W6 #[.int .i64 o.id, .int .i64 o.into, .slice u.P o.ps.length u.c, .int .i64 o.kl, .int .i64 o.kh, .int .i64 o.sl, .int .i64 o.sh] 42 rfl))).and (stays_bl (HB6.out.1.trans (hb7.mono HB6.out.1.size))))
     have hsm := same_any o.P u.P o.c u.c o.ps u.ps _ (HB6.out.2.1.ext hb7) (HB6.out.2.2.1.ext hb7) hpl
     rw [decide_eq_true HB6.out.2.2.2, ← HB6.out.2.2.2] at hsm
     have HSM := Lib.hid hsm
     clear hb7 k7 q0 q1 g0 g1 g2 g3 g4 g5 g6 hsm
     generalize W6.alloc (.cells #[.int .i64 o.id, .int .i64 o.into, .slice u.P o.ps.length u.c, .int .i64 o.kl, .int .i64 o.kh, .int .i64 o.sl, .int .i64 o.sh] 42) = W7 at *
     generalize W6.heap.size = g8 at *
     have p7 := cr 2 KB.out.1.1.1
     have p8 := cr 2 KB.out.1.1.2
     go_upto_region 14 with (go_at_call 29; refine HSM.out.mono ?_; rintro e w8 ⟨rfl, hb⟩; have KC := Lib.hid (KB.out.on hb); clear hb)
     clear p7 p8 KB HSM
     have a0 := cr 0 KC.out.1.1.1
     have a1 := cr 1 KC.out.1.1.1
     have a3 := cr 3 KC.out.1.1.1
     have a4 := cr 4 KC.out.1.1.1
     have a5 := cr 5 KC.out.1.1.1
     have a6 := cr 6 KC.out.1.1.1
     have b0 := cr 0 KC.out.1.1.2
     have b1 := cr 1 KC.out.1.1.2
     have b3 := cr 3 KC.out.1.1.2
     have b4 := cr 4 KC.out.1.1.2
     have b5 := cr 5 KC.out.1.1.2
     have b6 := cr 6 KC.out.1.1.2
     go_wp2
     go_roundg (os.length - (e + 1))
     case measure => omega
     case rel => exact ⟨e + 1, by omega, by omega, by go_num, KC.out.1.2⟩
    ·have helz : ¬ (e : Int) < (os.length : Int) := by omega
     go_wp2
     go_roundg (ws.length - (t + 1))
     case measure => omega
     case rel => exact ⟨t + 1, by omega, by omega, by go_num, HA2.out.trans (HB.out.mono HA2.out.size)⟩
  ·have hltz : ¬ (t : Int) < (ws.length : Int) := by omega
   go_wp2
   go_ret
   exact ⟨rfl, K1.out.1.1.1⟩
end Go.Proofs.Ytdadoelajhemjaa
