/- Walks: the specification's Check. -/
import Derived.Test.YtdadoelajhemjaaC5
import Derived.Test.YtdadoelajhemjaaC6
namespace Go.Proofs.Ytdadoelajhemjaa
open Go.RowKit Go.Shelf

def twiceAt (ws : List Car) (t j : Nat) : Prop := (oAt (outs ws) j).id = (oAt (outs ws) t).id ∨ (0 ≤ (oAt (outs ws) t).into ∧ (oAt (outs ws) j).into = (oAt (outs ws) t).into)
theorem scan_right {ws : List Car} {t : Nat} (ht : t < (outs ws).length) (h0 : scanE ws (firsts (outs ws).length t) = 0) (hr : rightB ws.length (caAt ws t) (oAt (outs ws) t) = false) : scanE ws (List.finRange (outs ws).length) = 1 := by
 have h1 : scanE ws (firsts (outs ws).length (t + 1)) = 1 := by
  rw [firsts_succ ht, scanE_snoc, if_pos h0]
  unfold stepE
  rw [if_pos hr]
 rw [scanE_firsts (k := t) (by rw [h1]; decide), h1]
theorem mem_firsts {N t j : Nat} (ht : t ≤ N) (h : j < t) : (⟨j, by omega⟩ : Fin N) ∈ firsts N t := firsts_mem.2 h
theorem scan_twice {ws : List Car} {t j : Nat} (ht : t < (outs ws).length) (h0 : scanE ws (firsts (outs ws).length t) = 0) (hr : rightB ws.length (caAt ws t) (oAt (outs ws) t) = true) (hj : j < t) (hb : twiceAt ws t j) : scanE ws (List.finRange (outs ws).length) = 6 := by
 have h1 : scanE ws (firsts (outs ws).length (t + 1)) = 6 := by
  rw [firsts_succ ht, scanE_snoc, if_pos h0]
  unfold stepE
  rw [if_neg (by rw [hr]; decide)]
  by_cases hid : (idsL ws (firsts (outs ws).length t) (oAt (outs ws) t).id).isSome = true
  ·exact if_pos hid
  ·rw [if_neg hid]
   rcases hb with hb | hb
   ·exact absurd ((idsL_isSome ws _ _).2 ⟨⟨j, by omega⟩, mem_firsts (by omega) hj, hb⟩) hid
   ·exact if_pos ⟨hb.1, (fedL_isSome ws _ _).2 ⟨⟨j, by omega⟩, mem_firsts (by omega) hj, hb.2⟩⟩
 rw [scanE_firsts (k := t) (by rw [h1]; decide), h1]
theorem scan_next {ws : List Car} {t : Nat} (ht : t < (outs ws).length) (h0 : scanE ws (firsts (outs ws).length t) = 0) (hr : rightB ws.length (caAt ws t) (oAt (outs ws) t) = true) (hb : ∀ j, j < t → ¬ twiceAt ws t j) : scanE ws (firsts (outs ws).length (t + 1)) = 0 := by
 rw [firsts_succ ht, scanE_snoc, if_pos h0]
 unfold stepE
 rw [if_neg (by rw [hr]; decide), if_neg (fun h => ?_), if_neg (fun h => ?_)]
 ·obtain ⟨y, hy, e⟩ := (fedL_isSome ws _ _).1 h.2
  exact hb y.1 (firsts_mem.1 hy) (.inr ⟨h.1, e⟩)
 ·obtain ⟨y, hy, e⟩ := (idsL_isSome ws _ _).1 h
  exact hb y.1 (firsts_mem.1 hy) (.inl e)

/-- The cells that a look at two outlets reads. -/
def chkW (b off t d : Nat) (v1 v2 v3 v4 : Value) (k : Nat) (X : World) : Prop := match k with
 | 1 => X.cell? ⟨b, off + d, none⟩ = some v1
 | 2 => X.cell? ⟨b, off + t, none⟩ = some v2
 | 3 => X.cell? ⟨b, off + t + 1, none⟩ = some v3
 | 4 => X.cell? ⟨b, off + d + 1, none⟩ = some v4
 | _ => True
/-- The cells that a call of right reads. -/
def rgtW (g b off b2 o2 : Nat) (v v1 u0 u1 u2 u3 u4 u5 u6 : Value) (k : Nat) (X : World) : Prop := match k with
 | 0 => X.cell? ⟨g, 0, none⟩ = some v
 | 1 => X.cell? ⟨b, off, none⟩ = some v1
 | 2 => X.cell? ⟨b2, o2, none⟩ = some u0 ∧ X.cell? ⟨b2, o2 + 1, none⟩ = some u1 ∧ X.cell? ⟨b2, o2 + 2, none⟩ = some u2 ∧ X.cell? ⟨b2, o2 + 3, none⟩ = some u3 ∧ X.cell? ⟨b2, o2 + 4, none⟩ = some u4 ∧ X.cell? ⟨b2, o2 + 5, none⟩ = some u5 ∧ X.cell? ⟨b2, o2 + 6, none⟩ = some u6
 | _ => True
theorem rgtW_on {g b off b2 o2 : Nat} {v v1 u0 u1 u2 u3 u4 u5 u6 : Value} {k : Nat} {X Y : World} (hb : Below X.heap.size X Y) (h : rgtW g b off b2 o2 v v1 u0 u1 u2 u3 u4 u5 u6 k X) : rgtW g b off b2 o2 v v1 u0 u1 u2 u3 u4 u5 u6 k Y := by
 have c := fun {a : Addr} {u : Value} (e : X.cell? a = some u) => (hb.cell (p := a) (lt_of_cell e)).trans e
 match k, h with
 | 0, h => exact c h
 | 1, h => exact c h
 | 2, h => exact ⟨c h.1, c h.2.1, c h.2.2.1, c h.2.2.2.1, c h.2.2.2.2.1, c h.2.2.2.2.2.1, c h.2.2.2.2.2.2⟩
 | _ + 3, _ => trivial

set_option maxRecDepth 100000 in
set_option maxHeartbeats 3200000 in
theorem rCheck_any (A : Option Addr) (c : Nat) (ws : List Car) (w : World) (h : Wk w A ws) :
  Calls Try.prog 75 #[.agg #[.slice A ws.length c]] w fun e w' => e = .returned (.int .i64 (checkE ws)) ∧ Below w.heap.size w w' := by
 have n1 := h.n1
 have n2 := h.n2
 have hb : Below w.heap.size w (w.alloc (.cells #[.slice A ws.length c] 24)) := (Below.refl _ w).alloc (Nat.le_refl _) _
 have K := Lib.hid (((stays_bl hb).and (stays_blk (blk_new w #[.slice A ws.length c] 24 rfl))).and (stays_wk (h.ext hb)))
 clear hb h
 obtain ⟨R, hR⟩ : ∃ R, checkE ws = R := ⟨_, rfl⟩
 have HR := Lib.hid hR
 rw [hR]
 clear hR
 go_enter Try.func75, Try.ntmps75
 go_upto_region 1 with fail
 generalize w.alloc (.cells #[.slice A ws.length c] 24) = W1 at *
 have p0 := cr 0 K.out.1.1.2
 go_upto_region 2 with (go_at_call 90; refine (rOutlets_any A c ws _ K.out.1.2).mono ?_; rintro e w2 ⟨A2, c2, rfl, hr, -, hb⟩; have K2 := Lib.hid ((K.out.on hb).and (show Stays (fun X => RdO X X.heap.size A2 (outs ws)) _ from ⟨hr, fun _ _ a b => a.ext b⟩)); clear hr hb)
 clear p0 K
 have p0 := cr 0 K2.out.1.1.1.2
 go_upto_region 3 with (go_at_call 112; refine (rPlaces_any A c ws _ K2.out.1.1.2).mono ?_; rintro e w3 ⟨A3, c3, rfl, hr, hb⟩; have K3 := Lib.hid ((K2.out.on hb).and (show Stays (fun X => RdS X X.heap.size A3 (plS ws (outs ws).length)) _ from ⟨hr, fun _ _ a b => a.ext b⟩)); clear hr hb)
 clear p0 K2
 have p0 := cr 0 K3.out.1.1.1.1.2
 by_cases h16 : (16 : Int) < (ws.length : Int)
 ·obtain rfl : R = 2 := HR.out.symm.trans (if_pos (.inl (by omega)))
  go_wp2
  go_ret
  exact ⟨rfl, K3.out.1.1.1.1.1⟩
 by_cases h60 : (60 : Int) < ((outs ws).length : Int)
 ·obtain rfl : R = 2 := HR.out.symm.trans (if_pos (.inr (by omega)))
  go_wp2
  go_ret
  exact ⟨rfl, K3.out.1.1.1.1.1⟩
 have HS := Lib.hid (show scanE ws (List.finRange (outs ws).length) = R from (if_neg (by omega)).symm.trans HR.out)
 clear HR
 go_upto_region 6 with fail
 clear p0
 go_loopg [5, 6, 7] (outs ws).length (fun gg i _ _ wr => ∃ t : Nat, t ≤ (outs ws).length ∧ (outs ws).length - t ≤ gg ∧ i = .int .i64 t ∧ Aside (Below w3.heap.size w3 wr ∧ scanE ws (firsts (outs ws).length t) = 0))
 case atStart => exact ⟨0, Nat.zero_le _, by omega, rfl, Below.refl _ _, rfl⟩
 case round =>
  obtain ⟨t, hlt0, hgg, rfl, hA⟩ := hrel
  have HA := Lib.hid hA.out
  clear hA
  by_cases hlt : t < (outs ws).length
  ·have hltz : (t : Int) < ((outs ws).length : Int) := by omega
   have HB := Lib.hid HA.out.1.drew
   obtain ⟨b, off, rfl, _, hc⟩ := (K3.out.on HB.out).1.1.2 (by omega)
   obtain ⟨b2, off2, rfl, _, hc2⟩ := (K3.out.on HB.out).1.2 (by rw [plS_length]; omega)
   have o0 := hc t hlt
   have s0 : rgtW w.heap.size b2 (off2 + t * 2) b (off + t * 7) (.slice A ws.length c) (.int .i64 (caAt ws t : Int)) (.int .i64 (oAt (outs ws) t).id) (.int .i64 (oAt (outs ws) t).into) (.slice (oAt (outs ws) t).P (oAt (outs ws) t).ps.length (oAt (outs ws) t).c) (.int .i64 (oAt (outs ws) t).kl) (.int .i64 (oAt (outs ws) t).kh) (.int .i64 (oAt (outs ws) t).sl) (.int .i64 (oAt (outs ws) t).sh) 0 wr.drew := cr 0 (K3.out.on HB.out).1.1.1.1.2
   have s1 : rgtW w.heap.size b2 (off2 + t * 2) b (off + t * 7) (.slice A ws.length c) (.int .i64 (caAt ws t : Int)) (.int .i64 (oAt (outs ws) t).id) (.int .i64 (oAt (outs ws) t).into) (.slice (oAt (outs ws) t).P (oAt (outs ws) t).ps.length (oAt (outs ws) t).c) (.int .i64 (oAt (outs ws) t).kl) (.int .i64 (oAt (outs ws) t).kh) (.int .i64 (oAt (outs ws) t).sl) (.int .i64 (oAt (outs ws) t).sh) 1 wr.drew := by
    have h := (hc2 t (by rw [plS_length]; exact hlt)).c0
    rw [plS_at hlt] at h
    exact h
   have s2 : rgtW w.heap.size b2 (off2 + t * 2) b (off + t * 7) (.slice A ws.length c) (.int .i64 (caAt ws t : Int)) (.int .i64 (oAt (outs ws) t).id) (.int .i64 (oAt (outs ws) t).into) (.slice (oAt (outs ws) t).P (oAt (outs ws) t).ps.length (oAt (outs ws) t).c) (.int .i64 (oAt (outs ws) t).kl) (.int .i64 (oAt (outs ws) t).kh) (.int .i64 (oAt (outs ws) t).sl) (.int .i64 (oAt (outs ws) t).sh) 2 wr.drew := ⟨o0.c0, o0.c1, o0.c2, o0.c3, o0.c4, o0.c5, o0.c6⟩
   have HP := hd2 o0.rd ((K3.out.on HB.out).1.1.1.2.n3 t hlt)
   clear hc hc2 o0
   go_upto_region 8 with fail
   refine wp_region_K (by kernel_rfl) (rgtW w.heap.size b2 (off2 + t * 2) b (off + t * 7) (.slice A ws.length c) (.int .i64 (caAt ws t : Int)) (.int .i64 (oAt (outs ws) t).id) (.int .i64 (oAt (outs ws) t).into) (.slice (oAt (outs ws) t).P (oAt (outs ws) t).ps.length (oAt (outs ws) t).c) (.int .i64 (oAt (outs ws) t).kl) (.int .i64 (oAt (outs ws) t).kh) (.int .i64 (oAt (outs ws) t).sl) (.int .i64 (oAt (outs ws) t).sh)) (fun _ _ => true) ?_
   generalize wr.drew = X0 at *
   refine kT 0 0 rfl ?_
   refine kT 3 1 rfl ?_
   refine kT 3 2 rfl ?_
   refine kT 3 3 rfl ?_
   refine kT 3 4 rfl ?_
   refine kT 1 5 rfl ?_
   refine kT 3 6 rfl ?_
   refine kT 3 7 rfl ?_
   refine kT 3 8 rfl ?_
   refine kT 2 9 rfl ?_
   refine kR 10 rfl fun K hK => ?_
   go_simp
   refine (rRight_any A c ws.length (caAt ws t) (oAt (outs ws) t) X0 HP.out.1 HP.out.2).mono ?_
   rintro e X1 ⟨rfl, hb⟩
   dsimp only
   refine hK.out _ _ (fun k _ h => rgtW_on hb h) ?_
   have HC := Lib.hid (HB.out.trans (hb.mono HB.out.size))
   clear hK hb HP s0 s1 s2
   refine kT 3 11 rfl ?_
   refine kD ?_
   cases hr : rightB ws.length (caAt ws t) (oAt (outs ws) t) with
   | false =>
    obtain rfl : R = 1 := HS.out.symm.trans (scan_right hlt HA.out.2 hr)
    clear hr
    go_wp2
    go_ret
    exact ⟨rfl, K3.out.1.1.1.1.1.trans (HC.out.mono K3.out.1.1.1.1.1.size)⟩
   | true =>
    have HT := Lib.hid hr
    clear hr
    go_upto_region 12 with fail
    clear HB
    go_loopg [7] t (fun gg k wr => ∃ d : Nat, d ≤ t ∧ t - d ≤ gg ∧ k = .int .i64 d ∧ Aside (Below w3.heap.size w3 wr ∧ ∀ j, j < d → ¬ twiceAt ws t j))
    case atStart => exact ⟨0, Nat.zero_le _, by omega, rfl, HC.out, fun j hj => absurd hj (Nat.not_lt_zero _)⟩
    case round =>
     obtain ⟨d, hd0, hdg, rfl, hD⟩ := hrel
     have HD := Lib.hid hD.out
     clear hD
     by_cases hdl : d < t
     ·have hdz : (d : Int) < (t : Int) := by omega
      have HB := Lib.hid HD.out.1.drew
      obtain ⟨b', off', e', _, hc⟩ := (K3.out.on HB.out).1.1.2 (by omega)
      cases e'
      have k1 : chkW b off (t * 7) (d * 7) (.int .i64 (oAt (outs ws) d).id) (.int .i64 (oAt (outs ws) t).id) (.int .i64 (oAt (outs ws) t).into) (.int .i64 (oAt (outs ws) d).into) 1 wr.drew := (hc d (by omega)).c0
      have k2 : chkW b off (t * 7) (d * 7) (.int .i64 (oAt (outs ws) d).id) (.int .i64 (oAt (outs ws) t).id) (.int .i64 (oAt (outs ws) t).into) (.int .i64 (oAt (outs ws) d).into) 2 wr.drew := (hc t hlt).c0
      have k3 : chkW b off (t * 7) (d * 7) (.int .i64 (oAt (outs ws) d).id) (.int .i64 (oAt (outs ws) t).id) (.int .i64 (oAt (outs ws) t).into) (.int .i64 (oAt (outs ws) d).into) 3 wr.drew := (hc t hlt).c1
      have k4 : chkW b off (t * 7) (d * 7) (.int .i64 (oAt (outs ws) d).id) (.int .i64 (oAt (outs ws) t).id) (.int .i64 (oAt (outs ws) t).into) (.int .i64 (oAt (outs ws) d).into) 4 wr.drew := (hc d (by omega)).c1
      have hdN : (d : Int) < ((outs ws).length : Int) := by omega
      clear hc
      by_cases e1 : (oAt (outs ws) d).id = (oAt (outs ws) t).id
      ·obtain rfl : R = 6 := HS.out.symm.trans (scan_twice hlt HA.out.2 HT.out hdl (.inl e1))
       have z1 : ((oAt (outs ws) d).id == (oAt (outs ws) t).id) = true := by rw [e1]; simp
       clear e1
       go_upto_region 14 with fail
       refine wp_region_K (by kernel_rfl) (chkW b off (t * 7) (d * 7) (.int .i64 (oAt (outs ws) d).id) (.int .i64 (oAt (outs ws) t).id) (.int .i64 (oAt (outs ws) t).into) (.int .i64 (oAt (outs ws) d).into)) (fun _ _ => true) ?_
       generalize wr.drew = X0 at *
       refine kF 5 0 rfl ?_
       refine kF 5 1 rfl ?_
       refine kF 5 2 rfl ?_
       refine kF 5 3 rfl ?_
       refine kT 1 4 rfl ?_
       refine kF 5 5 rfl ?_
       refine kF 5 6 rfl ?_
       refine kF 5 7 rfl ?_
       refine kF 5 8 rfl ?_
       refine kT 2 9 rfl ?_
       refine kF 5 10 rfl ?_
       refine kF 5 11 rfl ?_
       refine kS 5 12 rfl ?_
       refine kS 5 13 rfl ?_
       refine kS 5 14 rfl ?_
       refine kS 5 15 rfl ?_
       refine kS 5 16 rfl ?_
       refine kS 5 17 rfl ?_
       refine kS 5 18 rfl ?_
       refine kS 5 19 rfl ?_
       refine kS 5 20 rfl ?_
       refine kS 5 21 rfl ?_
       refine kS 5 22 rfl ?_
       refine kS 5 23 rfl ?_
       refine kS 5 24 rfl ?_
       refine kS 5 25 rfl ?_
       refine kS 5 26 rfl ?_
       refine kS 5 27 rfl ?_
       refine kS 5 28 rfl ?_
       refine kS 5 29 rfl ?_
       refine kS 5 30 rfl ?_
       refine kF 5 31 rfl ?_
       refine kD ?_
       go_wp2
       go_ret
       exact ⟨rfl, K3.out.1.1.1.1.1.trans (HB.out.mono K3.out.1.1.1.1.1.size)⟩
      have z1 : ((oAt (outs ws) d).id == (oAt (outs ws) t).id) = false := by simpa using e1
      by_cases e2 : (oAt (outs ws) t).into < 0
      ·have HN := Lib.hid (show ¬ twiceAt ws t d from fun h => by rcases h with h | h; exact e1 h; omega)
       have e5 : ¬ (0 : Int) ≤ (oAt (outs ws) t).into := by omega
       clear e1 e2
       go_upto_region 14 with fail
       refine wp_region_K (by kernel_rfl) (chkW b off (t * 7) (d * 7) (.int .i64 (oAt (outs ws) d).id) (.int .i64 (oAt (outs ws) t).id) (.int .i64 (oAt (outs ws) t).into) (.int .i64 (oAt (outs ws) d).into)) (fun _ _ => true) ?_
       generalize wr.drew = X0 at *
       refine kF 5 0 rfl ?_
       refine kF 5 1 rfl ?_
       refine kF 5 2 rfl ?_
       refine kF 5 3 rfl ?_
       refine kT 1 4 rfl ?_
       refine kF 5 5 rfl ?_
       refine kF 5 6 rfl ?_
       refine kF 5 7 rfl ?_
       refine kF 5 8 rfl ?_
       refine kT 2 9 rfl ?_
       refine kF 5 10 rfl ?_
       refine kF 5 11 rfl ?_
       refine kF 5 12 rfl ?_
       refine kF 5 13 rfl ?_
       refine kF 5 14 rfl ?_
       refine kF 5 15 rfl ?_
       refine kT 3 16 rfl ?_
       refine kF 5 17 rfl ?_
       refine kF 5 18 rfl ?_
       refine kS 5 19 rfl ?_
       refine kS 5 20 rfl ?_
       refine kS 5 21 rfl ?_
       refine kS 5 22 rfl ?_
       refine kS 5 23 rfl ?_
       refine kS 5 24 rfl ?_
       refine kS 5 25 rfl ?_
       refine kS 5 26 rfl ?_
       refine kS 5 27 rfl ?_
       refine kS 5 28 rfl ?_
       refine kS 5 29 rfl ?_
       refine kF 5 30 rfl ?_
       refine kF 5 31 rfl ?_
       refine kD ?_
       go_wp2
       go_roundg (t - (d + 1))
       case measure => omega
       case rel => exact ⟨d + 1, by omega, by omega, by go_num, (show _ ∧ _ from ⟨HB.out, fun j hj => by
        by_cases e : j = d
        ·subst e; exact HN.out
        ·exact HD.out.2 j (by omega)⟩)⟩
      have e4 : (0 : Int) ≤ (oAt (outs ws) t).into := by omega
      clear e2
      by_cases e3 : (oAt (outs ws) d).into = (oAt (outs ws) t).into
      ·obtain rfl : R = 6 := HS.out.symm.trans (scan_twice hlt HA.out.2 HT.out hdl (.inr ⟨by omega, e3⟩))
       have z3 : ((oAt (outs ws) d).into == (oAt (outs ws) t).into) = true := by rw [e3]; simp
       clear e1 e3
       go_upto_region 14 with fail
       refine wp_region_K (by kernel_rfl) (chkW b off (t * 7) (d * 7) (.int .i64 (oAt (outs ws) d).id) (.int .i64 (oAt (outs ws) t).id) (.int .i64 (oAt (outs ws) t).into) (.int .i64 (oAt (outs ws) d).into)) (fun _ _ => true) ?_
       generalize wr.drew = X0 at *
       refine kF 5 0 rfl ?_
       refine kF 5 1 rfl ?_
       refine kF 5 2 rfl ?_
       refine kF 5 3 rfl ?_
       refine kT 1 4 rfl ?_
       refine kF 5 5 rfl ?_
       refine kF 5 6 rfl ?_
       refine kF 5 7 rfl ?_
       refine kF 5 8 rfl ?_
       refine kT 2 9 rfl ?_
       refine kF 5 10 rfl ?_
       refine kF 5 11 rfl ?_
       refine kF 5 12 rfl ?_
       refine kF 5 13 rfl ?_
       refine kF 5 14 rfl ?_
       refine kF 5 15 rfl ?_
       refine kT 3 16 rfl ?_
       refine kF 5 17 rfl ?_
       refine kF 5 18 rfl ?_
       refine kF 5 19 rfl ?_
       refine kF 5 20 rfl ?_
       refine kF 5 21 rfl ?_
       refine kF 5 22 rfl ?_
       refine kT 4 23 rfl ?_
       refine kF 5 24 rfl ?_
       refine kF 5 25 rfl ?_
       refine kF 5 26 rfl ?_
       refine kF 5 27 rfl ?_
       refine kT 3 28 rfl ?_
       refine kF 5 29 rfl ?_
       refine kF 5 30 rfl ?_
       refine kF 5 31 rfl ?_
       refine kD ?_
       go_wp2
       go_ret
       exact ⟨rfl, K3.out.1.1.1.1.1.trans (HB.out.mono K3.out.1.1.1.1.1.size)⟩
      ·have HN := Lib.hid (show ¬ twiceAt ws t d from fun h => by rcases h with h | h; exact e1 h; exact e3 h.2)
       have z3 : ((oAt (outs ws) d).into == (oAt (outs ws) t).into) = false := by simpa using e3
       clear e1 e3
       go_upto_region 14 with fail
       refine wp_region_K (by kernel_rfl) (chkW b off (t * 7) (d * 7) (.int .i64 (oAt (outs ws) d).id) (.int .i64 (oAt (outs ws) t).id) (.int .i64 (oAt (outs ws) t).into) (.int .i64 (oAt (outs ws) d).into)) (fun _ _ => true) ?_
       generalize wr.drew = X0 at *
       refine kF 5 0 rfl ?_
       refine kF 5 1 rfl ?_
       refine kF 5 2 rfl ?_
       refine kF 5 3 rfl ?_
       refine kT 1 4 rfl ?_
       refine kF 5 5 rfl ?_
       refine kF 5 6 rfl ?_
       refine kF 5 7 rfl ?_
       refine kF 5 8 rfl ?_
       refine kT 2 9 rfl ?_
       refine kF 5 10 rfl ?_
       refine kF 5 11 rfl ?_
       refine kF 5 12 rfl ?_
       refine kF 5 13 rfl ?_
       refine kF 5 14 rfl ?_
       refine kF 5 15 rfl ?_
       refine kT 3 16 rfl ?_
       refine kF 5 17 rfl ?_
       refine kF 5 18 rfl ?_
       refine kF 5 19 rfl ?_
       refine kF 5 20 rfl ?_
       refine kF 5 21 rfl ?_
       refine kF 5 22 rfl ?_
       refine kT 4 23 rfl ?_
       refine kF 5 24 rfl ?_
       refine kF 5 25 rfl ?_
       refine kF 5 26 rfl ?_
       refine kF 5 27 rfl ?_
       refine kT 3 28 rfl ?_
       refine kF 5 29 rfl ?_
       refine kF 5 30 rfl ?_
       refine kF 5 31 rfl ?_
       refine kD ?_
       go_wp2
       go_roundg (t - (d + 1))
       case measure => omega
       case rel => exact ⟨d + 1, by omega, by omega, by go_num, (show _ ∧ _ from ⟨HB.out, fun j hj => by
        by_cases e : j = d
        ·subst e; exact HN.out
        ·exact HD.out.2 j (by omega)⟩)⟩
     ·have hdz : ¬ (d : Int) < (t : Int) := by omega
      obtain rfl : d = t := by omega
      have HN := Lib.hid (scan_next hlt HA.out.2 HT.out HD.out.2)
      go_wp2
      go_roundg ((outs ws).length - (d + 1))
      case measure => omega
      case rel => exact ⟨d + 1, by omega, by omega, by go_num, (show _ ∧ _ from ⟨HD.out.1, HN.out⟩)⟩
  ·have hltz : ¬ (t : Int) < ((outs ws).length : Int) := by omega
   obtain rfl : t = (outs ws).length := by omega
   obtain rfl : R = 0 := HS.out.symm.trans (by rw [← firsts_all]; exact HA.out.2)
   go_wp2
   go_ret
   exact ⟨rfl, K3.out.1.1.1.1.1.trans (HA.out.1.mono K3.out.1.1.1.1.1.size)⟩
end Go.Proofs.Ytdadoelajhemjaa
