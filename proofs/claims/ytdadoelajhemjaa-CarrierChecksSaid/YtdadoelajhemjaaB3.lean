/- Walks: Signs. -/
import Derived.Test.YtdadoelajhemjaaM12
namespace Go.Proofs.Ytdadoelajhemjaa
open Go.RowKit Go.Shelf

def sigE (ws : List Car) (id : Int) : Int := if checkE ws = 0 then (if (idxO ws id).isSome = true then 0 else 5) else checkE ws
def sgL (ws : List Car) (id : Int) (f : List Car → Nat → List Int) : List Int := if sigE ws id = 0 then (match idxO ws id with | some x => f ws x | none => []) else []
/-- Three lists and a number are returned. -/
def SigR (l1 l2 l3 : List Int) (E : Int) (w' : World) (e : Ending) : Prop := ∃ A1 c1 A2 c2 A3 c3, e = .returned (.tuple #[.slice A1 l1.length c1, .slice A2 l2.length c2, .slice A3 l3.length c3, .int .i64 E]) ∧ Rd w' w'.heap.size A1 l1 ∧ Rd w' w'.heap.size A2 l2 ∧ Rd w' w'.heap.size A3 l3
theorem sig_zero {ws : List Car} {id : Int} (h : sigE ws id = 0) : Good ws ∧ ∃ x, idxO ws id = some x ∧ x < (outs ws).length ∧ ∀ f, sgL ws id f = f ws x := by
 have h0 := h
 unfold sigE at h
 by_cases hc : checkE ws = 0
 ·rw [if_pos hc] at h
  cases hx : idxO ws id with
  | none => rw [hx] at h; cases h
  | some x => exact ⟨good_of_check hc, x, rfl, (idxO_some hx).1, fun f => by unfold sgL; rw [if_pos h0, hx]⟩
 ·rw [if_neg hc] at h; exact absurd h hc
theorem sgL_no {ws : List Car} {id : Int} (h : sigE ws id ≠ 0) (f : List Car → Nat → List Int) : sgL ws id f = [] := if_neg h
set_option maxRecDepth 100000 in
set_option maxHeartbeats 1600000 in
theorem Signs_any (A : Option Addr) (c : Nat) (ws : List Car) (id : Int) (w : World) (h : Wk w A ws) :
  Calls Try.prog 37 #[.agg #[.slice A ws.length c], .int .i64 id] w fun e w' => SigR (sgL ws id rivS) (sgL ws id hatS) (sgL ws id reaS) (sigE ws id) w' e ∧ Below w.heap.size w w' := by
 have hb : Below w.heap.size w (w.alloc (.cells #[.slice A ws.length c] 24)) := (Below.refl _ w).alloc (Nat.le_refl _) _
 have K := Lib.hid (((stays_bl hb).and (stays_blk (blk_new w #[.slice A ws.length c] 24 rfl))).and (stays_wk (h.ext hb)))
 clear hb h
 have HC := Lib.hid (fun W hW => Check_any A c ws W hW)
 have HF := Lib.hid (fun W hW => find_any A c ws id W hW)
 by_cases h0 : sigE ws id = 0
 rotate_left
 ·rw [sgL_no h0, sgL_no h0, sgL_no h0]
  by_cases hc : checkE ws = 0
  ·have hx : idxO ws id = none := by
    cases e : idxO ws id with
    | none => rfl
    | some x => exact absurd (by unfold sigE; rw [if_pos hc, e]; rfl) h0
   have h5 : sigE ws id = 5 := by unfold sigE; rw [if_pos hc, hx]; rfl
   rw [h5]
   clear h0 h5
   have HX := hd2 hc hx
   clear hc hx
   go_enter Try.func37, Try.ntmps37
   go_upto_region 1 with fail
   generalize w.alloc (.cells #[.slice A ws.length c] 24) = W0 at *
   have p0 := cr 0 K.out.1.1.2
   go_upto_region 4 with (go_at_call 74; refine (HC.out _ K.out.1.2).mono ?_; rw [HX.out.1]; rintro e w1 ⟨rfl, hb⟩; have K1 := Lib.hid (K.out.on hb); clear hb)
   clear p0
   have p0 := cr 0 K1.out.1.1.2
   go_upto_region 5 with (go_at_call 102; refine (HF.out _ K1.out.1.2).mono ?_; rw [HX.out.2]; rintro e w2 ⟨rfl, hb⟩; dsimp only [plO, plV, Option.isSome]; have K2 := Lib.hid (K1.out.on hb); clear hb)
   have K3 := Lib.hid (K2.out.on ((Below.refl _ w2).alloc (Nat.le_refl _) (.cells #[.int .i64 0, .int .i64 0, .int .i64 0] 131)))
   generalize w2.alloc (.cells #[.int .i64 0, .int .i64 0, .int .i64 0] 131) = w3 at *
   go_wp2
   exact bodyPost_ret (v := .tuple #[.slice none 0 0, .slice none 0 0, .slice none 0 0, .int .i64 5]) (by simp [results, Try.results37, go_sem]) rfl ⟨⟨none, 0, none, 0, none, 0, rfl, Rd.nil, Rd.nil, Rd.nil⟩, K3.out.1.1.1⟩
  ·have hE : sigE ws id = checkE ws := if_neg hc
   rw [hE]
   clear h0 hE
   generalize checkE ws = E at *
   have hz : (E != 0) = true := by simpa using hc
   clear hc
   go_enter Try.func37, Try.ntmps37
   go_upto_region 1 with fail
   generalize w.alloc (.cells #[.slice A ws.length c] 24) = W0 at *
   have p0 := cr 0 K.out.1.1.2
   go_wp2_with (go_at_call 74; refine (HC.out _ K.out.1.2).mono ?_; rintro e w1 ⟨rfl, hb⟩; have K1 := Lib.hid (K.out.on hb); clear hb)
   exact bodyPost_ret (v := .tuple #[.slice none 0 0, .slice none 0 0, .slice none 0 0, .int .i64 E]) (by simp [results, Try.results37, go_sem]) rfl ⟨⟨none, 0, none, 0, none, 0, rfl, Rd.nil, Rd.nil, Rd.nil⟩, K1.out.1.1.1⟩
 obtain ⟨g, x, hx, hxl, hl⟩ := sig_zero h0
 rw [hl, hl, hl, h0]
 have hc : checkE ws = 0 := by
  by_cases hc : checkE ws = 0
  ·exact hc
  ·unfold sigE at h0; rw [if_neg hc] at h0; exact h0
 have HS := Lib.hid (fun W hW => signs_any A c ws x hxl W hW g)
 have HX := hd2 hc hx
 clear hl h0 hc hx g hxl
 generalize rivS ws x = l1 at *
 generalize hatS ws x = l2 at *
 generalize reaS ws x = l3 at *
 dsimp only [pl, plV] at HS
 go_enter Try.func37, Try.ntmps37
 go_upto_region 1 with fail
 generalize w.alloc (.cells #[.slice A ws.length c] 24) = W0 at *
 have p0 := cr 0 K.out.1.1.2
 go_upto_region 4 with (go_at_call 74; refine (HC.out _ K.out.1.2).mono ?_; rw [HX.out.1]; rintro e w1 ⟨rfl, hb⟩; have K1 := Lib.hid (K.out.on hb); clear hb)
 clear p0
 have p0 := cr 0 K1.out.1.1.2
 go_upto_region 5 with (go_at_call 102; refine (HF.out _ K1.out.1.2).mono ?_; rw [HX.out.2]; rintro e w2 ⟨rfl, hb⟩; dsimp only [plO, plV, pl, Option.isSome]; have K2 := Lib.hid (K1.out.on hb); clear hb)
 clear p0
 have K3 := Lib.hid ((K2.out.on ((Below.refl _ w2).alloc (Nat.le_refl _) (.cells #[.int .i64 (x : Int), .int .i64 (caAt ws x : Int), .int .i64 (atAt ws x : Int)] 131))).and (stays_blk (blk_new w2 #[.int .i64 (x : Int), .int .i64 (caAt ws x : Int), .int .i64 (atAt ws x : Int)] 131 rfl)))
 generalize w2.alloc (.cells #[.int .i64 (x : Int), .int .i64 (caAt ws x : Int), .int .i64 (atAt ws x : Int)] 131) = w3 at *
 generalize w2.heap.size = g9 at *
 have p0 := cr 0 K3.out.1.1.1.2
 have z0 := cr 0 K3.out.1.2
 have z1 := cr 1 K3.out.1.2
 have z2 := cr 2 K3.out.1.2
 go_upto_region 7 with fail
 go_wp2_with (go_at_call 103; refine (HS.out _ K3.out.1.1.2).mono ?_; rintro e w4 ⟨A1, c1, A2, c2, A3, c3, rfl, r1, r2, r3, -, -, -, hb⟩; have K4 := hd4 (K3.out.on hb) r1 r2 r3; clear hb r1 r2 r3)
 exact bodyPost_ret (v := .tuple #[.slice A1 l1.length c1, .slice A2 l2.length c2, .slice A3 l3.length c3, .int .i64 0]) (by simp [results, Try.results37, go_sem]) rfl ⟨⟨A1, c1, A2, c2, A3, c3, rfl, K4.out.2.1, K4.out.2.2.1, K4.out.2.2.2⟩, K4.out.1.1.1.1.1⟩
end Go.Proofs.Ytdadoelajhemjaa
