/- Walks: Below. -/
import Derived.Test.YtdadoelajhemjaaJ5
namespace Go.Proofs.Ytdadoelajhemjaa
open Go.RowKit Go.Shelf

/-- Is an outlet a bed to which water comes by outlet x? -/
def blP (ws : List Car) (x k : Nat) : Bool := decide ((oAt (outs ws) k).into < 0) && decide (x ∈ pathN ws k)
def blX (ws : List Car) (x : Nat) : List Int := kpL ws (blP ws x)
set_option maxRecDepth 100000 in
theorem eg_bl1 : ∀ args w, (callFunc 122 args).run Try.prog w = .ok (.enter 122 args) w := fun _ _ => by rfl
set_option maxRecDepth 100000 in
set_option maxHeartbeats 1600000 in
theorem Below_any (A : Option Addr) (c : Nat) (ws : List Car) (id : Int) (w : World) (h : Wk w A ws) :
  Calls Try.prog 72 #[.agg #[.slice A ws.length c], .int .i64 id] w fun e w' => ∃ A' c', e = .returned (.tuple #[.slice A' (sgL ws id blX).length c', .int .i64 (sigE ws id)]) ∧ Rd w' w'.heap.size A' (sgL ws id blX) ∧ Below w.heap.size w w' := by
 obtain ⟨i0, hi0, hz0, hz1, hz2⟩ := info_parts info3
 have hb : Below w.heap.size w (w.alloc (.cells #[.slice A ws.length c] 24)) := (Below.refl _ w).alloc (Nat.le_refl _) _
 have K := Lib.hid (((stays_bl hb).and (stays_blk (blk_new w #[.slice A ws.length c] 24 rfl))).and (stays_wk (h.ext hb)))
 clear hb h
 have HC := Lib.hid (fun W hW => Check_any A c ws W hW)
 have HF := Lib.hid (fun W hW => find_any A c ws id W hW)
 by_cases h0 : sigE ws id = 0
 rotate_left
 ·rw [sgL_no h0]
  by_cases hc : checkE ws = 0
  ·have hx : idxO ws id = none := by
    cases e : idxO ws id with
    | none => rfl
    | some x => exact absurd (by unfold sigE; rw [if_pos hc, e]; rfl) h0
   have h5 : sigE ws id = 5 := by unfold sigE; rw [if_pos hc, hx]; rfl
   rw [h5]
   clear h0 h5
   have HX := hd2 hc hx
   clear hc hx
   go_enter Try.func72, Try.ntmps72
   go_upto_region 1 with fail
   generalize w.alloc (.cells #[.slice A ws.length c] 24) = W0 at *
   have p0 := cr 0 K.out.1.1.2
   go_upto_region 4 with (go_at_call 74; refine (HC.out _ K.out.1.2).mono ?_; rw [HX.out.1]; rintro e w1 ⟨rfl, hb⟩; have K1 := Lib.hid (K.out.on hb); clear hb)
   clear p0
   have p0 := cr 0 K1.out.1.1.2
   go_upto_region 5 with (go_at_call 102; refine (HF.out _ K1.out.1.2).mono ?_; rw [HX.out.2]; rintro e w2 ⟨rfl, hb⟩; dsimp only [plO, plV, Option.isSome]; have K2 := Lib.hid (K1.out.on hb); clear hb)
   have K3 := Lib.hid (K2.out.on ((Below.refl _ w2).alloc (Nat.le_refl _) (.cells #[.int .i64 0, .int .i64 0, .int .i64 0] 131)))
   generalize w2.alloc (.cells #[.int .i64 0, .int .i64 0, .int .i64 0] 131) = w3 at *
   go_wp2
   go_ret2
   exact ⟨none, 0, rfl, Rd.nil, K3.out.1.1.1⟩
  ·have hE : sigE ws id = checkE ws := if_neg hc
   rw [hE]
   clear h0 hE
   generalize checkE ws = E at *
   have hz : (E != 0) = true := by simpa using hc
   clear hc
   go_enter Try.func72, Try.ntmps72
   go_upto_region 1 with fail
   generalize w.alloc (.cells #[.slice A ws.length c] 24) = W0 at *
   have p0 := cr 0 K.out.1.1.2
   go_wp2_with (go_at_call 74; refine (HC.out _ K.out.1.2).mono ?_; rintro e w1 ⟨rfl, hb⟩; have K1 := Lib.hid (K.out.on hb); clear hb)
   go_ret2
   exact ⟨none, 0, rfl, Rd.nil, K1.out.1.1.1⟩
 obtain ⟨g, x, hx, hxl, hl⟩ := sig_zero h0
 rw [hl, h0]
 have hc : checkE ws = 0 := by
  by_cases hc : checkE ws = 0
  ·exact hc
  ·unfold sigE at h0; rw [if_neg hc] at h0; exact h0
 have HP := Lib.hid (fun gw gx g2 W hW hc8 hcg hx => kept_any 122 #[.pointer (some ⟨gw, 0, none⟩), .pointer (some ⟨gx, 0, none⟩)] eg_bl1 (blP ws x) A c g2 ws W hW hcg (fun k W2 hk hb => bl1_any A c gw gx ws k x W2 hk (hW.ext hb) g (cell_below hb hc8) (blk_on hx hb)))
 have HO := Lib.hid (fun W => outlets_any A c ws.length W)
 have HX := hd4 hc hx g hxl
 clear hl h0 hc hx g hxl
 go_enter Try.func72, Try.ntmps72
 go_upto_region 1 with fail
 generalize w.alloc (.cells #[.slice A ws.length c] 24) = W0 at *
 have p0 := cr 0 K.out.1.1.2
 go_upto_region 4 with (go_at_call 74; refine (HC.out _ K.out.1.2).mono ?_; rw [HX.out.1]; rintro e w1 ⟨rfl, hb⟩; have K1 := Lib.hid (K.out.on hb); clear hb)
 clear p0
 have p0 := cr 0 K1.out.1.1.2
 go_upto_region 5 with (go_at_call 102; refine (HF.out _ K1.out.1.2).mono ?_; rw [HX.out.2.1]; rintro e w2 ⟨rfl, hb⟩; dsimp only [plO, plV, pl, Option.isSome]; have K2 := Lib.hid (K1.out.on hb); clear hb)
 clear p0
 have K3 := Lib.hid ((K2.out.on ((Below.refl _ w2).alloc (Nat.le_refl _) (.cells #[.int .i64 (x : Int), .int .i64 (caAt ws x : Int), .int .i64 (atAt ws x : Int)] 131))).and (stays_blk (blk_new w2 #[.int .i64 (x : Int), .int .i64 (caAt ws x : Int), .int .i64 (atAt ws x : Int)] 131 rfl)))
 generalize w2.alloc (.cells #[.int .i64 (x : Int), .int .i64 (caAt ws x : Int), .int .i64 (atAt ws x : Int)] 131) = w3 at *
 generalize w2.heap.size = g9 at *
 have p0 := cr 0 K3.out.1.1.1.2
 have z0 := cr 0 K3.out.1.2
 have z1 := cr 1 K3.out.1.2
 have z2 := cr 2 K3.out.1.2
 have hbA := (Below.refl _ w3).alloc (Nat.le_refl _) (.cells #[.slice A ws.length c] 24)
 have KW := Lib.hid (K3.out.on hbA)
 have HKP := Lib.hid (HP.out _ _ _ _ KW.out.1.1.2 (cr 0 KW.out.1.1.1.2) (cr 0 (blk_new w3 #[.slice A ws.length c] 24 rfl)) KW.out.1.2)
 clear hbA HP
 go_wp2_with first
  | (go_at_call 114; refine (HO.out _).mono ?_; rintro e w4 ⟨rfl, rfl⟩)
  | (go_at_call 117; refine HKP.out.mono ?_; rintro e w5 ⟨A', c', rfl, hr, hb⟩; have HE := hd2 hr (KW.out.on hb); clear hb hr)
 exact bodyPost_ret (v := .tuple #[.slice A' (blX ws x).length c', .int .i64 0]) (by unfold blX; simp [results, Try.results72, go_sem]) rfl ⟨A', c', rfl, HE.out.1, HE.out.2.1.1.1.1⟩
end Go.Proofs.Ytdadoelajhemjaa
