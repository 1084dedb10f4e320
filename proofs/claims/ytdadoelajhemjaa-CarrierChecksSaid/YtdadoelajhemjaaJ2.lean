/- Walks: Outlets, Beds, and the closures they choose by. -/
import Derived.Test.YtdadoelajhemjaaJ1
namespace Go.Proofs.Ytdadoelajhemjaa
open Go.RowKit Go.Shelf

set_option maxRecDepth 100000 in
theorem eg_ch1 : ∀ args w, (callFunc 118 args).run Try.prog w = .ok (.enter 118 args) w := fun _ _ => by rfl
set_option maxRecDepth 100000 in
theorem eg_ch2 : ∀ args w, (callFunc 120 args).run Try.prog w = .ok (.enter 120 args) w := fun _ _ => by rfl
theorem ch1_any (x y z : Int) (o : Ot) (w : World) : Calls Try.prog 118 #[.agg #[.int .i64 x, .int .i64 y, .int .i64 z], o.v] w fun e w' => e = .returned (.bool true) ∧ Below w.heap.size w w' := by
 have hb : Below w.heap.size w ((w.alloc (.cells #[.int .i64 x, .int .i64 y, .int .i64 z] 131)).alloc (.cells o.cells.toArray 42)) := ((Below.refl _ w).alloc (Nat.le_refl _) _).alloc (by simp) _
 have HB := Lib.hid hb
 clear hb
 obtain ⟨oi, ot, P, c, ps, kl, kh, sl, sh⟩ := o
 dsimp only [Ot.v, Ot.cells] at *
 go_enter Try.func118, Try.ntmps118
 go_wp2
 go_ret
 exact ⟨rfl, HB.out⟩
theorem ch2_any (x y z : Int) (o : Ot) (w : World) : Calls Try.prog 120 #[.agg #[.int .i64 x, .int .i64 y, .int .i64 z], o.v] w fun e w' => e = .returned (.bool (decide (o.into < 0))) ∧ Below w.heap.size w w' := by
 have hb : Below w.heap.size w ((w.alloc (.cells #[.int .i64 x, .int .i64 y, .int .i64 z] 131)).alloc (.cells o.cells.toArray 42)) := ((Below.refl _ w).alloc (Nat.le_refl _) _).alloc (by simp) _
 have HB := Lib.hid hb
 clear hb
 obtain ⟨oi, ot, P, c, ps, kl, kh, sl, sh⟩ := o
 dsimp only [Ot.v, Ot.cells] at *
 go_enter Try.func120, Try.ntmps120
 go_wp2
 go_ret
 exact ⟨rfl, HB.out⟩
/-- The IDs of all outlets; of the beds. -/
def idL (ws : List Car) : List Int := if checkE ws = 0 then kpL ws (fun _ => true) else []
def bdL (ws : List Car) : List Int := if checkE ws = 0 then kpL ws (fun i => decide ((oAt (outs ws) i).into < 0)) else []
set_option maxRecDepth 100000 in
set_option maxHeartbeats 1600000 in
theorem Outlets_any (A : Option Addr) (c : Nat) (ws : List Car) (w : World) (h : Wk w A ws) :
  Calls Try.prog 66 #[.agg #[.slice A ws.length c]] w fun e w' => ∃ A' c', e = .returned (.tuple #[.slice A' (idL ws).length c', .int .i64 (checkE ws)]) ∧ Rd w' w'.heap.size A' (idL ws) ∧ Below w.heap.size w w' := by
 have hb : Below w.heap.size w (w.alloc (.cells #[.slice A ws.length c] 24)) := (Below.refl _ w).alloc (Nat.le_refl _) _
 have K := Lib.hid (((stays_bl hb).and (stays_blk (blk_new w #[.slice A ws.length c] 24 rfl))).and (stays_wk (h.ext hb)))
 have hck := fun W hW => Check_any A c ws W hW
 by_cases h0 : checkE ws = 0
 ·have hL : idL ws = kpL ws (fun _ => true) := if_pos h0
  have hh := fun gw W hW c8 => kept_any 118 #[] eg_ch1 (fun _ => true) A c gw ws W hW c8 (fun i W2 hi hb => ch1_any _ _ _ _ W2)
  have ho := fun W => outlets_any A c ws.length W
  rw [h0] at hck ⊢
  rw [hL]
  have HC := hd3 hck hh ho
  clear hb h hck hh h0 hL ho
  go_enter Try.func66, Try.ntmps66
  go_upto_region 1 with fail
  generalize (w.alloc (.cells #[.slice A ws.length c] 24)) = W1 at *
  have p0 := cr 0 K.out.1.1.2
  go_upto_region 4 with (go_at_call 74; refine (HC.out.1 _ K.out.1.2).mono ?_; rintro e w2 ⟨rfl, hb⟩; have K1 := Lib.hid (K.out.on hb); clear hb)
  clear p0 K
  have p0 := cr 0 K1.out.1.1.2
  go_wp2_with (first
       | (go_at_call 114; refine (HC.out.2.2 _).mono ?_; rintro e w3 ⟨rfl, rfl⟩)
       | (go_at_call 117; refine (HC.out.2.1 _ _ ((K1.out.on ((Below.refl _ w2).alloc (Nat.le_refl _) (.cells #[.slice A ws.length c] 24))).1.2) (cr 0 (blk_new w2 _ _ rfl))).mono ?_; rintro e w4 ⟨A', c', rfl, hr, hb⟩; have K2 := Lib.hid (((K1.out.on ((Below.refl _ w2).alloc (Nat.le_refl _) (.cells #[.slice A ws.length c] 24))).on hb).and (stays_rd hr)); clear hb hr))
  go_ret2
  exact ⟨A', c', rfl, K2.out.1.2, K2.out.1.1.1.1⟩
 ·have hL : idL ws = [] := if_neg h0
  rw [hL]
  generalize checkE ws = E at *
  have HC := Lib.hid hck
  have hz : (E != 0) = true := by simpa using h0
  clear hb h hck h0 hL
  go_enter Try.func66, Try.ntmps66
  go_upto_region 1 with fail
  generalize (w.alloc (.cells #[.slice A ws.length c] 24)) = W1 at *
  have p0 := cr 0 K.out.1.1.2
  go_wp2_with (go_at_call 74; refine (HC.out _ K.out.1.2).mono ?_; rintro e w2 ⟨rfl, hb⟩; have K1 := Lib.hid (K.out.on hb); clear hb)
  go_ret2
  exact ⟨none, 0, rfl, Rd.nil, K1.out.1.1.1⟩
set_option maxRecDepth 100000 in
set_option maxHeartbeats 1600000 in
theorem Beds_any (A : Option Addr) (c : Nat) (ws : List Car) (w : World) (h : Wk w A ws) :
  Calls Try.prog 68 #[.agg #[.slice A ws.length c]] w fun e w' => ∃ A' c', e = .returned (.tuple #[.slice A' (bdL ws).length c', .int .i64 (checkE ws)]) ∧ Rd w' w'.heap.size A' (bdL ws) ∧ Below w.heap.size w w' := by
 have hb : Below w.heap.size w (w.alloc (.cells #[.slice A ws.length c] 24)) := (Below.refl _ w).alloc (Nat.le_refl _) _
 have K := Lib.hid (((stays_bl hb).and (stays_blk (blk_new w #[.slice A ws.length c] 24 rfl))).and (stays_wk (h.ext hb)))
 have hck := fun W hW => Check_any A c ws W hW
 by_cases h0 : checkE ws = 0
 ·have hL : bdL ws = kpL ws (fun i => decide ((oAt (outs ws) i).into < 0)) := if_pos h0
  have hh := fun gw W hW c8 => kept_any 120 #[] eg_ch2 (fun i => decide ((oAt (outs ws) i).into < 0)) A c gw ws W hW c8 (fun i W2 hi hb => ch2_any _ _ _ _ W2)
  have ho := fun W => outlets_any A c ws.length W
  rw [h0] at hck ⊢
  rw [hL]
  have HC := hd3 hck hh ho
  clear hb h hck hh h0 hL ho
  go_enter Try.func68, Try.ntmps68
  go_upto_region 1 with fail
  generalize (w.alloc (.cells #[.slice A ws.length c] 24)) = W1 at *
  have p0 := cr 0 K.out.1.1.2
  go_upto_region 4 with (go_at_call 74; refine (HC.out.1 _ K.out.1.2).mono ?_; rintro e w2 ⟨rfl, hb⟩; have K1 := Lib.hid (K.out.on hb); clear hb)
  clear p0 K
  have p0 := cr 0 K1.out.1.1.2
  go_wp2_with (first
       | (go_at_call 114; refine (HC.out.2.2 _).mono ?_; rintro e w3 ⟨rfl, rfl⟩)
       | (go_at_call 117; refine (HC.out.2.1 _ _ ((K1.out.on ((Below.refl _ w2).alloc (Nat.le_refl _) (.cells #[.slice A ws.length c] 24))).1.2) (cr 0 (blk_new w2 _ _ rfl))).mono ?_; rintro e w4 ⟨A', c', rfl, hr, hb⟩; have K2 := Lib.hid (((K1.out.on ((Below.refl _ w2).alloc (Nat.le_refl _) (.cells #[.slice A ws.length c] 24))).on hb).and (stays_rd hr)); clear hb hr))
  go_ret2
  exact ⟨A', c', rfl, K2.out.1.2, K2.out.1.1.1.1⟩
 ·have hL : bdL ws = [] := if_neg h0
  rw [hL]
  generalize checkE ws = E at *
  have HC := Lib.hid hck
  have hz : (E != 0) = true := by simpa using h0
  clear hb h hck h0 hL
  go_enter Try.func68, Try.ntmps68
  go_upto_region 1 with fail
  generalize (w.alloc (.cells #[.slice A ws.length c] 24)) = W1 at *
  have p0 := cr 0 K.out.1.1.2
  go_wp2_with (go_at_call 74; refine (HC.out _ K.out.1.2).mono ?_; rintro e w2 ⟨rfl, hb⟩; have K1 := Lib.hid (K.out.on hb); clear hb)
  go_ret2
  exact ⟨none, 0, rfl, Rd.nil, K1.out.1.1.1⟩
end Go.Proofs.Ytdadoelajhemjaa
