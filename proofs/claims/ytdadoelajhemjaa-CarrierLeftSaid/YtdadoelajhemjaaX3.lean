/- Walks: Heads. Words: the four lists of water that is made, and one list more. -/
import Derived.Test.YtdadoelajhemjaaX2
import Derived.Test.YtdadoelajhemjaaM12
import Derived.Test.YtdadoelajhemjaaM7
namespace Go.Proofs.Ytdadoelajhemjaa
open Go.RowKit Go.Shelf

def hdL (ws : List Car) : List Int := if checkE ws = 0 then ints (headsTo ws ws.length) else []
set_option maxRecDepth 100000 in
set_option maxHeartbeats 1600000 in
theorem Heads_any (A : Option Addr) (c : Nat) (ws : List Car) (w : World) (h : Wk w A ws) :
  Calls Try.prog 62 #[.agg #[.slice A ws.length c]] w fun e w' => ∃ A' c', e = .returned (.tuple #[.slice A' (hdL ws).length c', .int .i64 (checkE ws)]) ∧ Rd w' w'.heap.size A' (hdL ws) ∧ Below w.heap.size w w' := by
 have hb : Below w.heap.size w (w.alloc (.cells #[.slice A ws.length c] 24)) := (Below.refl _ w).alloc (Nat.le_refl _) _
 have K := Lib.hid (((stays_bl hb).and (stays_blk (blk_new w #[.slice A ws.length c] 24 rfl))).and (stays_wk (h.ext hb)))
 have hck := fun W hW => Check_any A c ws W hW
 by_cases h0 : checkE ws = 0
 ·have hL : hdL ws = ints (headsTo ws ws.length) := if_pos h0
  have hh := fun W hW => heads_any A c ws W hW (good_of_check h0)
  rw [h0] at hck ⊢
  rw [hL]
  have HC := hd2 hck hh
  clear hb h hck hh h0 hL
  go_enter Try.func62, Try.ntmps62
  go_upto_region 1 with fail
  generalize (w.alloc (.cells #[.slice A ws.length c] 24)) = W1 at *
  have p0 := cr 0 K.out.1.1.2
  go_upto_region 4 with (go_at_call 74; refine (HC.out.1 _ K.out.1.2).mono ?_; rintro e w2 ⟨rfl, hb⟩; have K1 := Lib.hid (K.out.on hb); clear hb)
  clear p0 K
  have p0 := cr 0 K1.out.1.1.2
  go_wp2_with (go_at_call 98; refine (HC.out.2 _ K1.out.1.2).mono ?_; rintro e w3 ⟨A', c', rfl, hr, -, hb⟩; have K2 := Lib.hid ((K1.out.on hb).and (stays_rd hr)); clear hb hr)
  go_ret2
  exact ⟨A', c', rfl, K2.out.1.2, K2.out.1.1.1.1⟩
 ·have hL : hdL ws = [] := if_neg h0
  rw [hL]
  generalize checkE ws = E at *
  have HC := Lib.hid hck
  have hz : (E != 0) = true := by simpa using h0
  clear hb h hck h0 hL
  go_enter Try.func62, Try.ntmps62
  go_upto_region 1 with fail
  generalize (w.alloc (.cells #[.slice A ws.length c] 24)) = W1 at *
  have p0 := cr 0 K.out.1.1.2
  go_wp2_with (go_at_call 74; refine (HC.out _ K.out.1.2).mono ?_; rintro e w2 ⟨rfl, hb⟩; have K1 := Lib.hid (K.out.on hb); clear hb)
  go_ret2
  exact ⟨none, 0, rfl, Rd.nil, K1.out.1.1.1⟩
/-- Four lists in a box, and one list more. -/
structure Q5 (base m : Nat) (W0 : World) (b : Nat) (v : Nat → Value) (L : Nat → List Int) (v5 : Value) (L5 : List Int) (X : World) : Prop where
 q : Qd 0 base m W0 b v L X
 o : Own X base v5 L5
 ne : ∀ i, i < 4 → ∀ k, (v i).ownBlock = some k → v5.ownBlock ≠ some k
section
variable {base m : Nat} {W0 : World} {b : Nat} {v : Nat → Value} {L : Nat → List Int} {v5 : Value} {L5 : List Int} {X X' : World}
theorem Q5.below (h : Q5 base m W0 b v L v5 L5 X) (hb : Below X.heap.size X X') : Q5 base m W0 b v L v5 L5 X' := ⟨h.q.below hb, h.o.later hb, h.ne⟩
theorem Q5.push (h : Q5 base m W0 b v L v5 L5 X) {i : Nat} (hi : i < 4) {v' : Value} {y : Int} (hg : X.grownBy X' (v i).ownBlock) (ho : Own X' base v' (L i ++ [y])) (hb : v'.ownBlock = (v i).ownBlock ∨ v'.ownBlock = some X.heap.size) :
  Q5 base m W0 b (putA v i v') (putA L i (L i ++ [y])) v5 L5 (X'.setCell ⟨b, i, none⟩ v') := by
 have hb0 := h.q.b0
 have hr : ∀ k, v5.ownBlock = some k → base ≤ k ∧ k < X.heap.size := fun k e => ⟨(h.o.blkIs e).1, (h.o.blkIs e).2.1⟩
 refine ⟨h.q.push (Nat.zero_le _) hi hg ho hb, h.o.blk (fun k e => (Below.heap_setCell _ _ _ _ (by have := hr k e; show k ≠ b; omega)).trans (hg.block k (hr k e).2 (fun e2 => h.ne i hi k e2.symm e))), fun j hj k e e2 => ?_⟩
 unfold putA at e
 by_cases e1 : j = i
 ·rw [if_pos e1] at e
  rcases hb with hb | hb
  ·rw [hb] at e; exact h.ne i hi k e e2
  ·rw [hb] at e
   have := (hr k e2).2
   simp only [Option.some.injEq] at e
   omega
 ·rw [if_neg e1] at e
  exact h.ne j hj k e e2
theorem Q5.push5 (h : Q5 base m W0 b v L v5 L5 X) {v' : Value} {L' : List Int} (hg : X.grownBy X' v5.ownBlock) (ho : Own X' base v' L') (hb : v'.ownBlock = v5.ownBlock ∨ v'.ownBlock = some X.heap.size) : Q5 base m W0 b v L v' L' X' := by
 have hb0 := h.q.b0
 have hr : ∀ k, v5.ownBlock = some k → base ≤ k ∧ k < X.heap.size := fun k e => ⟨(h.o.blkIs e).1, (h.o.blkIs e).2.1⟩
 have hkeep : ∀ k, k < base → X'.heap[k]? = X.heap[k]? := fun k hk => hg.block k (by have := h.q.lt; omega) (fun e => by have := (hr _ e.symm).1; omega)
 refine ⟨⟨(hkeep b hb0.2).trans h.q.k, fun i hd hi => (h.q.o i hd hi).blk (fun k e => hg.block k ((h.q.o i hd hi).blkIs e).2.1 (fun e2 => h.ne i hi k e e2.symm)), h.q.ne, h.q.bl.grown hg h.q.ms (fun k e => by have := (hr k e).1; omega), hb0, Nat.le_trans h.q.lt hg.size, Nat.le_trans h.q.ms hg.size, fun k h1 h2 => (hkeep k h1).trans (h.q.md k h1 h2)⟩, ho, fun i hi k e e2 => ?_⟩
 rcases hb with hb | hb
 ·rw [hb] at e2; exact h.ne i hi k e e2
 ·rw [hb] at e2
  have := ((h.q.o i (Nat.zero_le _) hi).blkIs e).2.1
  simp only [Option.some.injEq] at e2
  omega
theorem Q5.congr (h : Q5 base m W0 b v L v5 L5 X) {L' : Nat → List Int} (e : ∀ i, i < 4 → L i = L' i) : Q5 base m W0 b v L' v5 L5 X := ⟨h.q.congr (fun i _ hi => e i hi), h.o, h.ne⟩
end
/-- The lists of what is left, as far as they are told. -/
def lfQ (ws vs : List Car) (n : Int) (s : Wt) (i y1 y2 y3 : Nat) : Nat → List Int
 | 0 => lfRi ws s n i
 | 1 => lfL ws vs n s.bo y1
 | 2 => lfL ws vs n s.lk y2
 | _ => lfL ws vs n s.lo y3
end Go.Proofs.Ytdadoelajhemjaa
