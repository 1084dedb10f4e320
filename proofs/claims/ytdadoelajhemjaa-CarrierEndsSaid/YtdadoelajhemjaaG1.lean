/- Walks: the specification's end and corner. -/
import Derived.Test.YtdadoelajhemjaaE3
namespace Go.Proofs.Ytdadoelajhemjaa
open Go.RowKit Go.Shelf

def sdOf (most : Bool) : Int := if most = true then 1 else -1
theorem endV_side (most : Bool) {s : Int} (p : Sp) (h : s = -1 ∨ s = 0 ∨ s = 1) : (if 0 < IntKind.i64.wrap (sdOf most * s) then p.2 else p.1) = endV most s p := by
 rcases h with rfl | rfl | rfl <;> cases most <;> rfl
theorem hat_sgn (ws : List Car) (x i : Nat) : hatV ws x i = -1 ∨ hatV ws x i = 0 ∨ hatV ws x i = 1 := by
 unfold hatV
 split
 ·simp
 ·split
  ·simp
  ·split <;> simp
theorem rea_sgn (ws : List Car) (x i : Nat) : reaV ws x i = -1 ∨ reaV ws x i = 0 ∨ reaV ws x i = 1 := by
 unfold reaV
 split
 ·simp
 ·split <;> simp
theorem riv_sgn (ws : List Car) (x : Nat) {i : Nat} (h : i < (headsTo ws ws.length).length) : nth (rivS ws x) i = -1 ∨ nth (rivS ws x) i = 0 ∨ nth (rivS ws x) i = 1 := by
 have e : nth (rivS ws x) i = if (headsTo ws ws.length).getD i 0 = caAt ws (headOf ws x) then 1 else 0 := by
  unfold rivS rivTo nth
  simp [h]
 rw [e]
 split <;> simp
set_option maxRecDepth 100000 in
set_option maxHeartbeats 400000 in
theorem rEnd_any (most : Bool) (s lo hi : Int) (hs : s = -1 ∨ s = 0 ∨ s = 1) (w : World) :
  Calls Try.prog 141 #[.agg #[.int .i64 lo, .int .i64 hi], .int .i64 (IntKind.i64.wrap (sdOf most * s))] w fun e w' => e = .returned (.int .i64 (endV most s (lo, hi))) ∧ Below w.heap.size w w' := by
 rw [← endV_side most (lo, hi) hs]
 dsimp only
 generalize IntKind.i64.wrap (sdOf most * s) = y
 have HB := Lib.hid ((Below.refl _ w).alloc (Nat.le_refl _) (.cells #[.int .i64 lo, .int .i64 hi] 40))
 by_cases h1 : 0 < y
 ·rw [if_pos h1]
  go_enter Try.func141, Try.ntmps141
  go_wp2
  go_ret
  exact ⟨rfl, HB.out⟩
 ·rw [if_neg h1]
  go_enter Try.func141, Try.ntmps141
  go_wp2
  go_ret
  exact ⟨rfl, HB.out⟩

/-- The cells that a region of corner reads: the one that it stores into, a sign, a slice of the case, a pair, a slice of the signs. -/
def wv (g0 i0 g1 i1 g2 i2 g3 i3 i4 g5 i5 : Nat) (u0 u1 u2 u3 u4 u5 : Value) (k : Nat) (X : World) : Prop := match k with
 | 0 => X.cell? ⟨g0, i0, none⟩ = some u0
 | 1 => X.cell? ⟨g1, i1, none⟩ = some u1
 | 2 => X.cell? ⟨g2, i2, none⟩ = some u2
 | 3 => X.cell? ⟨g3, i3, none⟩ = some u3 ∧ X.cell? ⟨g3, i4, none⟩ = some u4
 | 4 => X.cell? ⟨g5, i5, none⟩ = some u5
 | _ => True
def wvLt (N g0 g1 g2 g3 g5 : Nat) : Prop := g0 < N ∧ (g1 < N ∧ g1 ≠ g0) ∧ (g2 < N ∧ g2 ≠ g0) ∧ (g3 < N ∧ g3 ≠ g0) ∧ (g5 < N ∧ g5 ≠ g0)
section
variable {g0 i0 g1 i1 g2 i2 g3 i3 i4 g5 i5 : Nat} {u0 u1 u2 u3 u4 u5 : Value} {X X' : World}
theorem wv_mv (k : Nat) (h0 : k = 0 → ∀ i u, X.cell? ⟨g0, i, none⟩ = some u → X'.cell? ⟨g0, i, none⟩ = some u) (h1 : ∀ g, (g = g1 ∨ g = g2 ∨ g = g3 ∨ g = g5) → ∀ i u, X.cell? ⟨g, i, none⟩ = some u → X'.cell? ⟨g, i, none⟩ = some u)
  (h : wv g0 i0 g1 i1 g2 i2 g3 i3 i4 g5 i5 u0 u1 u2 u3 u4 u5 k X) : wv g0 i0 g1 i1 g2 i2 g3 i3 i4 g5 i5 u0 u1 u2 u3 u4 u5 k X' := by
 match k, h0, h with
 | 0, h0, h => exact h0 rfl _ _ h
 | 1, _, h => exact h1 _ (by simp) _ _ h
 | 2, _, h => exact h1 _ (by simp) _ _ h
 | 3, _, ⟨a, b⟩ => exact ⟨h1 _ (by simp) _ _ a, h1 _ (by simp) _ _ b⟩
 | 4, _, h => exact h1 _ (by simp) _ _ h
 | _ + 5, _, _ => trivial
theorem wv_below (hb : Below X.heap.size X X') (k : Nat) (h : wv g0 i0 g1 i1 g2 i2 g3 i3 i4 g5 i5 u0 u1 u2 u3 u4 u5 k X) : wv g0 i0 g1 i1 g2 i2 g3 i3 i4 g5 i5 u0 u1 u2 u3 u4 u5 k X' :=
 wv_mv k (fun _ _ _ e => cell_below hb e) (fun _ _ _ _ e => cell_below hb e) h
theorem wv_grown {row : Option Nat} {N : Nat} (hg : X.grownBy X' row) (hr : ∀ k, row = some k → N ≤ k) (hl : wvLt N g0 g1 g2 g3 g5) (k : Nat) (h : wv g0 i0 g1 i1 g2 i2 g3 i3 i4 g5 i5 u0 u1 u2 u3 u4 u5 k X) : wv g0 i0 g1 i1 g2 i2 g3 i3 i4 g5 i5 u0 u1 u2 u3 u4 u5 k X' := by
 obtain ⟨l0, l1, l2, l3, l5⟩ := hl
 have m : ∀ g, g < N → ∀ i u, X.cell? ⟨g, i, none⟩ = some u → X'.cell? ⟨g, i, none⟩ = some u := fun g hg2 i u e => grown_cell hg e (fun e2 => by have := hr g e2.symm; omega)
 exact wv_mv k (fun _ => m _ l0) (fun g hg2 => m g (by rcases hg2 with rfl | rfl | rfl | rfl <;> omega)) h
theorem wv_set {N : Nat} (v : Value) (hl : wvLt N g0 g1 g2 g3 g5) (k : Nat) (hk : (k != 0) = true) (h : wv g0 i0 g1 i1 g2 i2 g3 i3 i4 g5 i5 u0 u1 u2 u3 u4 u5 k X) : wv g0 i0 g1 i1 g2 i2 g3 i3 i4 g5 i5 u0 u1 u2 u3 u4 u5 k (X.setCell ⟨g0, i0, none⟩ v) := by
 obtain ⟨l0, l1, l2, l3, l5⟩ := hl
 exact wv_mv k (fun e => by subst e; simp at hk) (fun g hg2 _ _ e => (cell_of_heap (Below.heap_setCell _ _ _ _ (by show g ≠ g0; rcases hg2 with rfl | rfl | rfl | rfl <;> omega))).trans e) h
end
theorem Qd.kept {d base m : Nat} {W0 : World} {b : Nat} {v : Nat → Value} {L : Nat → List Int} {X : World} (h : Qd d base m W0 b v L X) {g i : Nat} {u : Value} (hn : g < base ∧ g ≠ b) (hc : W0.cell? ⟨g, i, none⟩ = some u) : X.cell? ⟨g, i, none⟩ = some u := (cell_of_heap (h.md g hn.1 hn.2)).trans hc
theorem Qd.own {d base m : Nat} {W0 : World} {b : Nat} {v : Nat → Value} {L : Nat → List Int} {X : World} (h : Qd d base m W0 b v L X) {i : Nat} (hd : d ≤ i) (hi : i < 4) : ∀ k, (v i).ownBlock = some k → base ≤ k := fun _ e => ((h.o i hd hi).blkIs e).1
/-- What the second loop's regions read, ahead of them. -/
structure CorY (W : World) (gb gc b8 o8 b9 o9 bs os b4 o4 g5 : Nat) (h r lo hi kl kh sl sh : Int) (vC v8 v9 : Value) : Prop where
 n8 : b8 < W.heap.size ∧ b8 ≠ gb
 n9 : b9 < W.heap.size ∧ b9 ≠ gb
 nS : bs < W.heap.size ∧ bs ≠ gb
 nC : gc < W.heap.size ∧ gc ≠ gb
 n4 : b4 < W.heap.size ∧ b4 ≠ gb
 n5 : g5 < W.heap.size ∧ g5 ≠ gb
 nG : gb < W.heap.size
 k8 : W.cell? ⟨b8, o8, none⟩ = some (.int .i64 h)
 k9 : W.cell? ⟨b9, o9, none⟩ = some (.int .i64 r)
 kc : W.cell? ⟨gc, 1, none⟩ = some vC
 y0 : W.cell? ⟨bs, os, none⟩ = some (.int .i64 lo)
 y1 : W.cell? ⟨bs, os + 1, none⟩ = some (.int .i64 hi)
 z3 : W.cell? ⟨b4, o4 + 3, none⟩ = some (.int .i64 kl)
 z4 : W.cell? ⟨b4, o4 + 3 + 1, none⟩ = some (.int .i64 kh)
 z5 : W.cell? ⟨b4, o4 + 5, none⟩ = some (.int .i64 sl)
 z6 : W.cell? ⟨b4, o4 + 5 + 1, none⟩ = some (.int .i64 sh)
 q1 : W.cell? ⟨g5, 1, none⟩ = some v8
 q2 : W.cell? ⟨g5, 2, none⟩ = some v9
set_option maxRecDepth 100000 in
set_option maxHeartbeats 3200000 in
theorem rCorner_any (A : Option Addr) (c : Nat) (ws : List Car) (cs : Cs) (x : Nat) (most : Bool) (hx : x < (outs ws).length) (w : World) (hW : Wk w A ws) (g : Good ws) (hc : Csd w cs) (hk : CsOk ws cs) :
  Calls Try.prog 134 #[.agg #[.slice A ws.length c], cs.v, .int .i64 (x : Int), .int .i64 (sdOf most)] w fun e w' => ∃ s : Wt, e = .returned s.v ∧ Wet w' s ∧ Corner ws cs x most s ∧
   Fresh w.heap.size s.A0 ∧ Fresh w.heap.size s.A1 ∧ Fresh w.heap.size s.A2 ∧ Fresh w.heap.size s.A3 ∧ Below w.heap.size w w' := by
 obtain ⟨A0, A1, c0, c1, ri, bo⟩ := cs
 have HQ : Hid (Below w.heap.size w ((((w.alloc (.cells #[.slice A ws.length c] 24)).alloc (.cells #[.slice A0 ri.length c0, .slice A1 bo.length c1] 51)).alloc (.cells #[.slice none 0 0, .slice none 0 0, .slice none 0 0, .slice none 0 0] 27)).alloc (.cells #[.slice none 0 0, .slice none 0 0, .slice none 0 0, .slice none 0 0] 27)) ∧ Blk ((((w.alloc (.cells #[.slice A ws.length c] 24)).alloc (.cells #[.slice A0 ri.length c0, .slice A1 bo.length c1] 51)).alloc (.cells #[.slice none 0 0, .slice none 0 0, .slice none 0 0, .slice none 0 0] 27)).alloc (.cells #[.slice none 0 0, .slice none 0 0, .slice none 0 0, .slice none 0 0] 27)) w.heap.size #[.slice A ws.length c] 24 ∧ Blk ((((w.alloc (.cells #[.slice A ws.length c] 24)).alloc (.cells #[.slice A0 ri.length c0, .slice A1 bo.length c1] 51)).alloc (.cells #[.slice none 0 0, .slice none 0 0, .slice none 0 0, .slice none 0 0] 27)).alloc (.cells #[.slice none 0 0, .slice none 0 0, .slice none 0 0, .slice none 0 0] 27)) (w.heap.size + 1) #[.slice A0 ri.length c0, .slice A1 bo.length c1] 51 ∧ Blk ((((w.alloc (.cells #[.slice A ws.length c] 24)).alloc (.cells #[.slice A0 ri.length c0, .slice A1 bo.length c1] 51)).alloc (.cells #[.slice none 0 0, .slice none 0 0, .slice none 0 0, .slice none 0 0] 27)).alloc (.cells #[.slice none 0 0, .slice none 0 0, .slice none 0 0, .slice none 0 0] 27)) (w.heap.size + 1 + 1) #[.slice none 0 0, .slice none 0 0, .slice none 0 0, .slice none 0 0] 27 ∧ Blk ((((w.alloc (.cells #[.slice A ws.length c] 24)).alloc (.cells #[.slice A0 ri.length c0, .slice A1 bo.length c1] 51)).alloc (.cells #[.slice none 0 0, .slice none 0 0, .slice none 0 0, .slice none 0 0] 27)).alloc (.cells #[.slice none 0 0, .slice none 0 0, .slice none 0 0, .slice none 0 0] 27)) (w.heap.size + 1 + 1 + 1) #[.slice none 0 0, .slice none 0 0, .slice none 0 0, .slice none 0 0] 27 ∧ ((((w.alloc (.cells #[.slice A ws.length c] 24)).alloc (.cells #[.slice A0 ri.length c0, .slice A1 bo.length c1] 51)).alloc (.cells #[.slice none 0 0, .slice none 0 0, .slice none 0 0, .slice none 0 0] 27)).alloc (.cells #[.slice none 0 0, .slice none 0 0, .slice none 0 0, .slice none 0 0] 27)).heap.size = w.heap.size + 4) :=
  Lib.hid ⟨((((Below.refl _ w).alloc (Nat.le_refl _) _).alloc (by simp) _).alloc (by simp; omega) _).alloc (by simp; omega) _, blk_alloc (blk_alloc (blk_alloc (blk_new _ _ _ rfl) _) _) _, blk_alloc (blk_alloc (blk_new _ _ _ (by simp)) _) _, blk_alloc (blk_new _ _ _ (by simp)) _, blk_new _ _ _ (by simp), by simp⟩
 have HC := hd3 hW hc hk
 clear hW hc hk
 dsimp only [Cs.v]
 go_enter Try.func134, Try.ntmps134
 go_upto_region 2 with fail
 generalize ((((w.alloc (.cells #[.slice A ws.length c] 24)).alloc (.cells #[.slice A0 ri.length c0, .slice A1 bo.length c1] 51)).alloc (.cells #[.slice none 0 0, .slice none 0 0, .slice none 0 0, .slice none 0 0] 27)).alloc (.cells #[.slice none 0 0, .slice none 0 0, .slice none 0 0, .slice none 0 0] 27)) = W1 at *
 have d0 : W1.cell? ⟨w.heap.size, 0, none⟩ = some (.slice A ws.length c) := cell_row HQ.out.2.1
 go_upto_region 3 with (go_at_call 101; refine (rSigns0_any A c ws x hx W1 (HC.out.1.ext HQ.out.1) g).mono ?_; rintro e w2 ⟨A7, c7, A8, c8, A9, c9, rfl, hr, hf, hb⟩; have HR := hd3 hr hf hb; clear hr hf hb)
 clear d0
 have HR2 : Hid (Below w.heap.size w (w2.alloc (.cells #[.slice A7 (headsTo ws ws.length).length c7, .slice A8 (outs ws).length c8, .slice A9 (outs ws).length c9, .int .i64 0] 69)) ∧ Blk (w2.alloc (.cells #[.slice A7 (headsTo ws ws.length).length c7, .slice A8 (outs ws).length c8, .slice A9 (outs ws).length c9, .int .i64 0] 69)) w.heap.size #[.slice A ws.length c] 24 ∧ Blk (w2.alloc (.cells #[.slice A7 (headsTo ws ws.length).length c7, .slice A8 (outs ws).length c8, .slice A9 (outs ws).length c9, .int .i64 0] 69)) (w.heap.size + 1) #[.slice A0 ri.length c0, .slice A1 bo.length c1] 51 ∧ Blk (w2.alloc (.cells #[.slice A7 (headsTo ws ws.length).length c7, .slice A8 (outs ws).length c8, .slice A9 (outs ws).length c9, .int .i64 0] 69)) (w.heap.size + 1 + 1) #[.slice none 0 0, .slice none 0 0, .slice none 0 0, .slice none 0 0] 27 ∧ Blk (w2.alloc (.cells #[.slice A7 (headsTo ws ws.length).length c7, .slice A8 (outs ws).length c8, .slice A9 (outs ws).length c9, .int .i64 0] 69)) (w.heap.size + 1 + 1 + 1) #[.slice none 0 0, .slice none 0 0, .slice none 0 0, .slice none 0 0] 27 ∧ Blk (w2.alloc (.cells #[.slice A7 (headsTo ws ws.length).length c7, .slice A8 (outs ws).length c8, .slice A9 (outs ws).length c9, .int .i64 0] 69)) w2.heap.size #[.slice A7 (headsTo ws ws.length).length c7, .slice A8 (outs ws).length c8, .slice A9 (outs ws).length c9, .int .i64 0] 69 ∧
   (Rd (w2.alloc (.cells #[.slice A7 (headsTo ws ws.length).length c7, .slice A8 (outs ws).length c8, .slice A9 (outs ws).length c9, .int .i64 0] 69)) (w2.alloc (.cells #[.slice A7 (headsTo ws ws.length).length c7, .slice A8 (outs ws).length c8, .slice A9 (outs ws).length c9, .int .i64 0] 69)).heap.size A7 (rivS ws x) ∧ Rd (w2.alloc (.cells #[.slice A7 (headsTo ws ws.length).length c7, .slice A8 (outs ws).length c8, .slice A9 (outs ws).length c9, .int .i64 0] 69)) (w2.alloc (.cells #[.slice A7 (headsTo ws ws.length).length c7, .slice A8 (outs ws).length c8, .slice A9 (outs ws).length c9, .int .i64 0] 69)).heap.size A8 (hatS ws x) ∧ Rd (w2.alloc (.cells #[.slice A7 (headsTo ws ws.length).length c7, .slice A8 (outs ws).length c8, .slice A9 (outs ws).length c9, .int .i64 0] 69)) (w2.alloc (.cells #[.slice A7 (headsTo ws ws.length).length c7, .slice A8 (outs ws).length c8, .slice A9 (outs ws).length c9, .int .i64 0] 69)).heap.size A9 (reaS ws x)) ∧ (Fresh (w.heap.size + 4) A7 ∧ Fresh (w.heap.size + 4) A8 ∧ Fresh (w.heap.size + 4) A9) ∧ w.heap.size + 4 ≤ w2.heap.size ∧ w2.heap.size < (w2.alloc (.cells #[.slice A7 (headsTo ws ws.length).length c7, .slice A8 (outs ws).length c8, .slice A9 (outs ws).length c9, .int .i64 0] 69)).heap.size) := by
  obtain ⟨hb1, q0, q1, q2, q3, hsz⟩ := HQ.out
  obtain ⟨⟨r7, r8, r9⟩, ⟨f7, f8, f9⟩, hb2⟩ := HR.out
  have hs2 := hb2.size
  have hb4 := (Below.refl _ w2).alloc (Nat.le_refl _) (.cells #[.slice A7 (headsTo ws ws.length).length c7, .slice A8 (outs ws).length c8, .slice A9 (outs ws).length c9, .int .i64 0] 69)
  have hbB := hb2.trans (hb4.mono hs2)
  exact Lib.hid ⟨hb1.trans (hbB.mono hb1.size), blk_on q0 hbB, blk_on q1 hbB, blk_on q2 hbB, blk_on q3 hbB, blk_new _ _ _ rfl, ⟨r7.ext hb4, r8.ext hb4, r9.ext hb4⟩, ⟨f7.mono (by omega), f8.mono (by omega), f9.mono (by omega)⟩, by omega, by simp⟩
 clear HQ HR
 generalize (w2.alloc (.cells #[.slice A7 (headsTo ws ws.length).length c7, .slice A8 (outs ws).length c8, .slice A9 (outs ws).length c9, .int .i64 0] 69)) = W2 at *
 generalize w2.heap.size = g5 at *
 have d0 : W2.cell? ⟨w.heap.size, 0, none⟩ = some (.slice A ws.length c) := cell_row HR2.out.2.1
 go_upto_region 4 with (go_at_call 90; refine (rOutlets_any A c ws W2 (HC.out.1.ext HR2.out.1)).mono ?_; rintro e w3 ⟨A5, c5, rfl, hr, hf, hb⟩; have HM := hd3 hr hf hb; clear hr hf hb)
 clear d0
 have HT : Hid (Below w.heap.size w w3 ∧ Blk w3 (w.heap.size + 1) #[.slice A0 ri.length c0, .slice A1 bo.length c1] 51 ∧ Blk w3 (w.heap.size + 1 + 1) #[.slice none 0 0, .slice none 0 0, .slice none 0 0, .slice none 0 0] 27 ∧ Blk w3 (w.heap.size + 1 + 1 + 1) #[.slice none 0 0, .slice none 0 0, .slice none 0 0, .slice none 0 0] 27 ∧ Blk w3 g5 #[.slice A7 (headsTo ws ws.length).length c7, .slice A8 (outs ws).length c8, .slice A9 (outs ws).length c9, .int .i64 0] 69 ∧
   (Rd w3 w3.heap.size A7 (rivS ws x) ∧ Rd w3 w3.heap.size A8 (hatS ws x) ∧ Rd w3 w3.heap.size A9 (reaS ws x)) ∧ (Fresh (w.heap.size + 4) A7 ∧ Fresh (w.heap.size + 4) A8 ∧ Fresh (w.heap.size + 4) A9) ∧ RdO w3 w3.heap.size A5 (outs ws) ∧ Fresh (w.heap.size + 4) A5 ∧ w.heap.size + 4 ≤ g5 ∧ g5 < w3.heap.size) := by
  obtain ⟨hb1, q0, q1, q2, q3, q5, ⟨r7, r8, r9⟩, hf, h4, h5⟩ := HR2.out
  obtain ⟨ro, fo, hb2⟩ := HM.out
  have hs2 := hb2.size
  exact Lib.hid ⟨hb1.trans (hb2.mono hb1.size), blk_on q1 hb2, blk_on q2 hb2, blk_on q3 hb2, blk_on q5 hb2, ⟨r7.ext hb2, r8.ext hb2, r9.ext hb2⟩, hf, ro, fo.mono (by omega), h4, by omega⟩
 clear HR2 HM
 have hN := g.n2
 have hlr : ri.length = (headsTo ws ws.length).length := HC.out.2.2.l0
 have hnr : ri.length ≤ 16 := by have := headsTo_le ws ws.length; have := g.n1; omega
 have hrl : (rivS ws x).length = ri.length := (rivTo_length (Nat.le_refl _)).trans hlr.symm
 have HN := hd3 hN hlr hrl
 clear hN hlr hrl
 go_upto_region 5 with fail
 go_loopg [12] ri.length (fun gg i wr => ∃ t : Nat, t ≤ ri.length ∧ ri.length - t ≤ gg ∧ i = .int .i64 t ∧ Aside (∃ v, Qd 0 w3.heap.size w.heap.size w3 (w.heap.size + 1 + 1 + 1) v (corL ws ⟨A0, A1, c0, c1, ri, bo⟩ x most t 0 0 0) wr))
 case atStart => exact ⟨0, Nat.zero_le _, by omega, rfl, fun _ => .slice none 0 0, (Qd.start 0 w3 w.heap.size (w.heap.size + 1 + 1 + 1) (fun _ => .slice none 0 0) (by omega) HT.out.2.2.2.1 (fun _ _ _ => rfl)).congr (fun i _ hi => match i, hi with | 0, _ => rfl | 1, _ => rfl | 2, _ => rfl | 3, _ => rfl)⟩
 case round =>
  obtain ⟨t, ht, hgg, rfl, hA⟩ := hrel
  obtain ⟨v, hQd⟩ := hA.out
  have HA := Lib.hid hQd
  clear hA hQd
  by_cases hlt : t < ri.length
  ·have hltz : (t : Int) < (ri.length : Int) := by omega
   have hltr : (t : Int) < ((headsTo ws ws.length).length : Int) := by have := HN.out.2.1; omega
   obtain ⟨bs, os, e0, lbs, hcs⟩ := HC.out.2.1.r0 (by dsimp only; omega)
   dsimp only at e0
   subst e0
   have hsp := hcs t hlt
   dsimp only at hsp
   obtain ⟨lo, hi, hlh⟩ : ∃ lo hi : Int, sAt ri t = (lo, hi) := ⟨_, _, rfl⟩
   rw [hlh] at hsp
   obtain ⟨b7, o7, rfl, lb7, hc7⟩ := HT.out.2.2.2.2.2.1.1 (by rw [HN.out.2.2]; omega)
   have k7 := hc7 t (by rw [HN.out.2.2]; exact hlt)
   have hX0 : Qd 0 w3.heap.size w.heap.size w3 (w.heap.size + 1 + 1 + 1) v (corL ws ⟨some ⟨bs, os, none⟩, A1, c0, c1, ri, bo⟩ x most t 0 0 0) wr.drew := HA.out.below ((Below.refl _ _).drew)
   have hn : wvLt w3.heap.size (w.heap.size + 1 + 1 + 1) b7 (w.heap.size + 1) bs g5 := by
    have h7 := HT.out.2.2.2.2.2.2.1.1 _ rfl
    dsimp only at h7
    have h9 := HT.out.2.2.2.2.2.2.2.2.2
    exact ⟨by omega, ⟨lb7, by omega⟩, ⟨by omega, by omega⟩, ⟨by omega, by omega⟩, h9.2, by omega⟩
   have HS : Hid (wv (w.heap.size + 1 + 1 + 1) 0 b7 (o7 + t) (w.heap.size + 1) 0 bs (os + t * 2) (os + t * 2 + 1) g5 0 (v 0) (.int .i64 (nth (rivS ws x) t)) (.slice (some ⟨bs, os, none⟩) ri.length c0) (.int .i64 lo) (.int .i64 hi) (.slice (some ⟨b7, o7, none⟩) (headsTo ws ws.length).length c7) 0 wr.drew ∧ wv (w.heap.size + 1 + 1 + 1) 0 b7 (o7 + t) (w.heap.size + 1) 0 bs (os + t * 2) (os + t * 2 + 1) g5 0 (v 0) (.int .i64 (nth (rivS ws x) t)) (.slice (some ⟨bs, os, none⟩) ri.length c0) (.int .i64 lo) (.int .i64 hi) (.slice (some ⟨b7, o7, none⟩) (headsTo ws ws.length).length c7) 1 wr.drew ∧ wv (w.heap.size + 1 + 1 + 1) 0 b7 (o7 + t) (w.heap.size + 1) 0 bs (os + t * 2) (os + t * 2 + 1) g5 0 (v 0) (.int .i64 (nth (rivS ws x) t)) (.slice (some ⟨bs, os, none⟩) ri.length c0) (.int .i64 lo) (.int .i64 hi) (.slice (some ⟨b7, o7, none⟩) (headsTo ws ws.length).length c7) 2 wr.drew ∧ wv (w.heap.size + 1 + 1 + 1) 0 b7 (o7 + t) (w.heap.size + 1) 0 bs (os + t * 2) (os + t * 2 + 1) g5 0 (v 0) (.int .i64 (nth (rivS ws x) t)) (.slice (some ⟨bs, os, none⟩) ri.length c0) (.int .i64 lo) (.int .i64 hi) (.slice (some ⟨b7, o7, none⟩) (headsTo ws ws.length).length c7) 3 wr.drew ∧ wv (w.heap.size + 1 + 1 + 1) 0 b7 (o7 + t) (w.heap.size + 1) 0 bs (os + t * 2) (os + t * 2 + 1) g5 0 (v 0) (.int .i64 (nth (rivS ws x) t)) (.slice (some ⟨bs, os, none⟩) ri.length c0) (.int .i64 lo) (.int .i64 hi) (.slice (some ⟨b7, o7, none⟩) (headsTo ws ws.length).length c7) 4 wr.drew) :=
    Lib.hid ⟨hX0.cell 0 (by omega), hX0.kept hn.2.1 k7, hX0.kept hn.2.2.1 (cell_row HT.out.2.1), ⟨hX0.kept hn.2.2.2.1 ((HT.out.1.cell (p := ⟨bs, os + t * 2, none⟩) lbs).trans hsp.c0), hX0.kept hn.2.2.2.1 ((HT.out.1.cell (p := ⟨bs, os + t * 2 + 1, none⟩) lbs).trans hsp.c1)⟩, hX0.kept hn.2.2.2.2 (cell_row HT.out.2.2.2.2.1)⟩
   have HX := hd3 hX0 (hX0.own (i := 0) (by omega) (by omega)) hn
   have HSG := Lib.hid (riv_sgn ws x (i := t) (by have := HN.out.2.1; omega))
   have HLH := Lib.hid hlh
   have kc : wr.cell? ⟨w.heap.size + 1, 0, none⟩ = some (.slice (some ⟨bs, os, none⟩) ri.length c0) := HA.out.kept hn.2.2.1 (cell_row HT.out.2.1)
   clear hcs hsp hc7 k7 hX0 hn lb7 lbs hlh HA
   go_upto_region 7 with fail
   clear kc
   refine wp_region_K (by kernel_rfl) (wv (w.heap.size + 1 + 1 + 1) 0 b7 (o7 + t) (w.heap.size + 1) 0 bs (os + t * 2) (os + t * 2 + 1) g5 0 (v 0) (.int .i64 (nth (rivS ws x) t)) (.slice (some ⟨bs, os, none⟩) ri.length c0) (.int .i64 lo) (.int .i64 hi) (.slice (some ⟨b7, o7, none⟩) (headsTo ws ws.length).length c7)) (fun j k => match j with | 18 => k != 0 | _ => true) ?_
   generalize wr.drew = X0 at *
   obtain ⟨s0, s1, s2, s3, s4⟩ := HS.out
   clear HS
   refine kF 5 0 rfl ?_
   refine kT 0 1 rfl ?_
   refine kF 5 2 rfl ?_
   refine kT 2 3 rfl ?_
   refine kF 5 4 rfl ?_
   refine kF 5 5 rfl ?_
   refine kT 3 6 rfl ?_
   refine kF 5 7 rfl ?_
   refine kF 5 8 rfl ?_
   refine kT 4 9 rfl ?_
   refine kF 5 10 rfl ?_
   refine kF 5 11 rfl ?_
   refine kT 1 12 rfl ?_
   refine kF 5 13 rfl ?_
   clear s0 s1 s2 s3 s4
   refine kR 14 rfl fun K hK => ?_
   go_simp
   refine (rEnd_any most (nth (rivS ws x) t) lo hi HSG.out X0).mono ?_
   rintro e X1 ⟨rfl, hb⟩
   dsimp only
   refine hK.out _ _ (fun k _ h => wv_below hb k h) ?_
   have hX1 := HX.out.1.below hb
   clear hK hb
   refine kR 15 rfl fun K hK => ?_
   go_simp
   refine hK.out _ _ (fun k _ h => wv_below ((Below.refl _ X1).alloc (Nat.le_refl _) _) k h) ?_
   have hX2 := hX1.alloc (.cells #[.int .i64 (endV most (nth (rivS ws x) t) (lo, hi))] 3)
   have cn : (X1.alloc (.cells #[.int .i64 (endV most (nth (rivS ws x) t) (lo, hi))] 3)).cell? ⟨X1.heap.size, 0, none⟩ = some (.int .i64 (endV most (nth (rivS ws x) t) (lo, hi))) := cell_row (blk_new X1 _ _ rfl)
   clear hK
   refine kR 16 rfl fun K hK => ?_
   refine wp_append_int (.tmp 27) (.tmp 41) rfl w3.heap.size (v 0) _ (endV most (nth (rivS ws x) t) (lo, hi)) rfl (hX2.o 0 (by omega) (by omega)) (Nat.le_trans (Nat.le_of_eq (show (corL ws ⟨some ⟨bs, os, none⟩, A1, c0, c1, ri, bo⟩ x most t 0 0 0 0).length = t from cRi_length _ _ _ _ _)) (by omega)) _ rfl cn hX2.lt ?_
   intro v' X3 ho hg hb'
   obtain ⟨A', c', rfl⟩ := ho.slice (n := t + 1) (by rw [List.length_append]; exact congrArg (· + 1) (show (corL ws ⟨some ⟨bs, os, none⟩, A1, c0, c1, ri, bo⟩ x most t 0 0 0 0).length = t from cRi_length _ _ _ _ _))
   refine hK.out _ _ (fun k _ h => wv_grown hg HX.out.2.1 HX.out.2.2 k h) ?_
   have hX3 := hX2.push (i := 0) (by omega) (by omega) hg ho hb'
   have eb : X3.cell? ⟨(w.heap.size + 1 + 1 + 1), 0, none⟩ = some (v 0) := (cell_of_heap (hX2.keep (i := 0) (by omega) (by omega) hg _ (by have := HX.out.2.2.1; omega))).trans (hX2.cell 0 (by omega))
   have fb : X3.frozen? ⟨(w.heap.size + 1 + 1 + 1), 0, none⟩ = false := blk_frozen ((hX2.keep (i := 0) (by omega) (by omega) hg _ (by have := HX.out.2.2.1; omega)).trans hX2.k)
   clear hK hg ho hb' cn
   go_frame
   refine kR 17 rfl fun K hK => ?_
   go_simp
   refine hK.out _ _ (fun k _ h => h) ?_
   clear hK
   refine kR 18 rfl fun K hK => ?_
   go_simp
   refine hK.out _ _ (fun k hk h => wv_set _ HX.out.2.2 k hk h) ?_
   clear hK eb fb
   refine kD ?_
   have HF := Lib.hid hX3
   clear hX1 hX2 hX3
   go_wp2
   go_roundg (ri.length - (t + 1))
   case measure => omega
   case rel => exact ⟨t + 1, by omega, by omega, by go_num, _, HF.out.congr (fun i _ hj => match i, hj with
    | 0, _ => (by rw [putA_same]; exact (show cRi ws ⟨some ⟨bs, os, none⟩, A1, c0, c1, ri, bo⟩ x most t ++ [endV most (nth (rivS ws x) t) (lo, hi)] = cRi ws ⟨some ⟨bs, os, none⟩, A1, c0, c1, ri, bo⟩ x most (t + 1) from by rw [cRi_succ, show sAt (Cs.ri ⟨some ⟨bs, os, none⟩, A1, c0, c1, ri, bo⟩) t = _ from HLH.out]))
    | 1, _ => rfl
    | 2, _ => rfl
    | 3, _ => rfl)⟩
  ·have hltz : ¬ (t : Int) < (ri.length : Int) := by omega
   obtain rfl : t = ri.length := by omega
   have kc : wr.cell? ⟨w.heap.size + 1, 0, none⟩ = some (.slice A0 ri.length c0) := HA.out.kept ⟨by have := HT.out.2.2.2.2.2.2.2.2.2; omega, by omega⟩ (cell_row HT.out.2.1)
   go_upto_region 9 with fail
   clear kc
   generalize wr = wz at *
   go_loopg [13] (outs ws).length (fun gg i wr => ∃ t : Nat, t ≤ (outs ws).length ∧ (outs ws).length - t ≤ gg ∧ i = .int .i64 t ∧ Aside (∃ v, Qd 0 w3.heap.size w.heap.size w3 (w.heap.size + 1 + 1 + 1) v (corL ws ⟨A0, A1, c0, c1, ri, bo⟩ x most ri.length t t t) wr))
   case atStart => exact ⟨0, Nat.zero_le _, by omega, rfl, v, HA.out⟩
   case round =>
    clear HA
    obtain ⟨t, ht, hgg, rfl, hA⟩ := hrel
    obtain ⟨v, hQd⟩ := hA.out
    have HA := Lib.hid hQd
    clear hA hQd
    by_cases hlt : t < (outs ws).length
    ·have hltz : (t : Int) < ((outs ws).length : Int) := by omega
     have ht6 : t ≤ 1000 := by have := HN.out.1; omega
     have hlb : bo.length = (outs ws).length := HC.out.2.2.l1
     have hltb : (t : Int) < (bo.length : Int) := by omega
     obtain ⟨bs, os, e0, lbs, hcs⟩ := HC.out.2.1.r1 (by show 0 < bo.length; omega)
     dsimp only at e0
     subst e0
     have hsp := hcs t (by show t < bo.length; omega)
     dsimp only at hsp
     obtain ⟨lo, hi, hlh⟩ : ∃ lo hi : Int, sAt bo t = (lo, hi) := ⟨_, _, rfl⟩
     rw [hlh] at hsp
     have hlh8 : (hatS ws x).length = (outs ws).length := by simp [hatS]
     have hlh9 : (reaS ws x).length = (outs ws).length := by simp [reaS]
     obtain ⟨hbw, u1, u2, u3, u5, ⟨-, r8, r9⟩, ⟨-, f8, f9⟩, ro, fo, h94, h95⟩ := HT.out
     obtain ⟨b8, o8, rfl, lb8, hc8⟩ := r8 (by omega)
     obtain ⟨b9, o9, rfl, lb9, hc9⟩ := r9 (by omega)
     obtain ⟨b4, o4, rfl, lb4, ho4⟩ := ro (by omega)
     have h4 := ho4 t hlt
     have fb8 := f8 _ rfl
     have fb9 := f9 _ rfl
     have fb4 := fo _ rfl
     dsimp only at fb8 fb9 fb4
     have HY : Hid (CorY w3 (w.heap.size + 1 + 1 + 1) (w.heap.size + 1) b8 (o8 + t) b9 (o9 + t) bs (os + t * 2) b4 (o4 + t * 7) g5 (hatV ws x t) (reaV ws x t) lo hi (oAt (outs ws) t).kl (oAt (outs ws) t).kh (oAt (outs ws) t).sl (oAt (outs ws) t).sh (.slice (some ⟨bs, os, none⟩) bo.length c1) (.slice (some ⟨b8, o8, none⟩) (outs ws).length c8) (.slice (some ⟨b9, o9, none⟩) (outs ws).length c9)) :=
      Lib.hid ⟨⟨lb8, by omega⟩, ⟨lb9, by omega⟩, ⟨by omega, by omega⟩, ⟨by omega, by omega⟩, ⟨lb4, by omega⟩, ⟨h95, by omega⟩, by omega, (hc8 t (by omega)).trans (by rw [nth_hat hlt]), (hc9 t (by omega)).trans (by rw [nth_rea hlt]), cell_row u1,
       (hbw.cell (p := ⟨bs, os + t * 2, none⟩) lbs).trans hsp.c0, (hbw.cell (p := ⟨bs, os + t * 2 + 1, none⟩) lbs).trans hsp.c1, h4.c3, h4.c4, h4.c5, h4.c6, cell_row u5, cell_row u5⟩
     have hX0 : Qd 0 w3.heap.size w.heap.size w3 (w.heap.size + 1 + 1 + 1) v (corL ws ⟨A0, some ⟨bs, os, none⟩, c0, c1, ri, bo⟩ x most ri.length t t t) wr.drew := HA.out.below ((Below.refl _ _).drew)
     have HSG := Lib.hid (hat_sgn ws x t)
     have HS : Hid (wv (w.heap.size + 1 + 1 + 1) 1 b8 (o8 + t) (w.heap.size + 1) 1 bs (os + t * 2) (os + t * 2 + 1) g5 1 (v 1) (.int .i64 (hatV ws x t)) (.slice (some ⟨bs, os, none⟩) bo.length c1) (.int .i64 lo) (.int .i64 hi) (.slice (some ⟨b8, o8, none⟩) (outs ws).length c8) 0 wr.drew ∧ wv (w.heap.size + 1 + 1 + 1) 1 b8 (o8 + t) (w.heap.size + 1) 1 bs (os + t * 2) (os + t * 2 + 1) g5 1 (v 1) (.int .i64 (hatV ws x t)) (.slice (some ⟨bs, os, none⟩) bo.length c1) (.int .i64 lo) (.int .i64 hi) (.slice (some ⟨b8, o8, none⟩) (outs ws).length c8) 1 wr.drew ∧ wv (w.heap.size + 1 + 1 + 1) 1 b8 (o8 + t) (w.heap.size + 1) 1 bs (os + t * 2) (os + t * 2 + 1) g5 1 (v 1) (.int .i64 (hatV ws x t)) (.slice (some ⟨bs, os, none⟩) bo.length c1) (.int .i64 lo) (.int .i64 hi) (.slice (some ⟨b8, o8, none⟩) (outs ws).length c8) 2 wr.drew ∧ wv (w.heap.size + 1 + 1 + 1) 1 b8 (o8 + t) (w.heap.size + 1) 1 bs (os + t * 2) (os + t * 2 + 1) g5 1 (v 1) (.int .i64 (hatV ws x t)) (.slice (some ⟨bs, os, none⟩) bo.length c1) (.int .i64 lo) (.int .i64 hi) (.slice (some ⟨b8, o8, none⟩) (outs ws).length c8) 3 wr.drew ∧ wv (w.heap.size + 1 + 1 + 1) 1 b8 (o8 + t) (w.heap.size + 1) 1 bs (os + t * 2) (os + t * 2 + 1) g5 1 (v 1) (.int .i64 (hatV ws x t)) (.slice (some ⟨bs, os, none⟩) bo.length c1) (.int .i64 lo) (.int .i64 hi) (.slice (some ⟨b8, o8, none⟩) (outs ws).length c8) 4 wr.drew) :=
      Lib.hid ⟨hX0.cell 1 (by omega), hX0.kept HY.out.n8 HY.out.k8, hX0.kept HY.out.nC HY.out.kc, ⟨hX0.kept HY.out.nS HY.out.y0, hX0.kept HY.out.nS HY.out.y1⟩, hX0.kept HY.out.n5 HY.out.q1⟩
     have HX := hd3 hX0 (hX0.own (i := 1) (by omega) (by omega)) (show wvLt _ _ _ _ _ _ from ⟨HY.out.nG, HY.out.n8, HY.out.nC, HY.out.nS, HY.out.n5⟩)
     have HLH := Lib.hid hlh
     clear hbw u1 u2 u3 u5 r8 r9 f8 f9 ro fo h94 h95 lb8 hc8 lb9 hc9 lb4 ho4 h4 fb8 fb9 fb4 hX0 hlh hlh8 hlh9 hsp hcs lbs hlb HA
     go_upto_region 11 with fail
     refine wp_region_K (by kernel_rfl) (wv (w.heap.size + 1 + 1 + 1) 1 b8 (o8 + t) (w.heap.size + 1) 1 bs (os + t * 2) (os + t * 2 + 1) g5 1 (v 1) (.int .i64 (hatV ws x t)) (.slice (some ⟨bs, os, none⟩) bo.length c1) (.int .i64 lo) (.int .i64 hi) (.slice (some ⟨b8, o8, none⟩) (outs ws).length c8)) (fun j k => match j with | 18 => k != 0 | _ => true) ?_
     generalize wr.drew = X0 at *
     obtain ⟨s0, s1, s2, s3, s4⟩ := HS.out
     clear HS
     refine kF 5 0 rfl ?_
     refine kT 0 1 rfl ?_
     refine kF 5 2 rfl ?_
     refine kT 2 3 rfl ?_
     refine kF 5 4 rfl ?_
     refine kF 5 5 rfl ?_
     refine kT 3 6 rfl ?_
     refine kF 5 7 rfl ?_
     refine kF 5 8 rfl ?_
     refine kT 4 9 rfl ?_
     refine kF 5 10 rfl ?_
     refine kF 5 11 rfl ?_
     refine kT 1 12 rfl ?_
     refine kF 5 13 rfl ?_
     clear s0 s1 s2 s3 s4
     refine kR 14 rfl fun K hK => ?_
     go_simp
     refine (rEnd_any most (hatV ws x t) lo hi HSG.out X0).mono ?_
     rintro e X1 ⟨rfl, hb⟩
     dsimp only
     refine hK.out _ _ (fun k _ h => wv_below hb k h) ?_
     have hX1 := HX.out.1.below hb
     clear hK hb
     refine kR 15 rfl fun K hK => ?_
     go_simp
     refine hK.out _ _ (fun k _ h => wv_below ((Below.refl _ X1).alloc (Nat.le_refl _) _) k h) ?_
     have hX2 := hX1.alloc (.cells #[.int .i64 (endV most (hatV ws x t) (lo, hi))] 3)
     have cn : (X1.alloc (.cells #[.int .i64 (endV most (hatV ws x t) (lo, hi))] 3)).cell? ⟨X1.heap.size, 0, none⟩ = some (.int .i64 (endV most (hatV ws x t) (lo, hi))) := cell_row (blk_new X1 _ _ rfl)
     clear hK
     refine kR 16 rfl fun K hK => ?_
     refine wp_append_int (.tmp 51) (.tmp 65) rfl w3.heap.size (v 1) _ (endV most (hatV ws x t) (lo, hi)) rfl (hX2.o 1 (by omega) (by omega)) (Nat.le_trans (Nat.le_of_eq (show (corL ws ⟨A0, some ⟨bs, os, none⟩, c0, c1, ri, bo⟩ x most ri.length t t t 1).length = t from cBo_length _ _ _ _ _)) (by omega)) _ rfl cn hX2.lt ?_
     intro v' X3 ho hg hb'
     obtain ⟨A', c', rfl⟩ := ho.slice (n := t + 1) (by rw [List.length_append]; exact congrArg (· + 1) (show (corL ws ⟨A0, some ⟨bs, os, none⟩, c0, c1, ri, bo⟩ x most ri.length t t t 1).length = t from cBo_length _ _ _ _ _))
     refine hK.out _ _ (fun k _ h => wv_grown hg HX.out.2.1 HX.out.2.2 k h) ?_
     have hX3 := hX2.push (i := 1) (by omega) (by omega) hg ho hb'
     have eb : X3.cell? ⟨(w.heap.size + 1 + 1 + 1), 1, none⟩ = some (v 1) := (cell_of_heap (hX2.keep (i := 1) (by omega) (by omega) hg _ (by have := HX.out.2.2.1; omega))).trans (hX2.cell 1 (by omega))
     have fb : X3.frozen? ⟨(w.heap.size + 1 + 1 + 1), 1, none⟩ = false := blk_frozen ((hX2.keep (i := 1) (by omega) (by omega) hg _ (by have := HX.out.2.2.1; omega)).trans hX2.k)
     clear hK hg ho hb' cn
     go_frame
     refine kR 17 rfl fun K hK => ?_
     go_simp
     refine hK.out _ _ (fun k _ h => h) ?_
     clear hK
     refine kR 18 rfl fun K hK => ?_
     go_simp
     refine hK.out _ _ (fun k hk h => wv_set _ HX.out.2.2 k hk h) ?_
     clear hK eb fb
     refine kD ?_
     have hX0 := hX3.below ((Below.refl _ _).drew)
     clear HX HSG hX3 hX1 hX2
     have HSG := Lib.hid (hat_sgn ws x t)
     have HS : Hid (wv (w.heap.size + 1 + 1 + 1) 2 b8 (o8 + t) (w.heap.size + 1) 1 b4 (o4 + t * 7 + 3) (o4 + t * 7 + 3 + 1) g5 1 (v 2) (.int .i64 (hatV ws x t)) (.slice (some ⟨bs, os, none⟩) bo.length c1) (.int .i64 (oAt (outs ws) t).kl) (.int .i64 (oAt (outs ws) t).kh) (.slice (some ⟨b8, o8, none⟩) (outs ws).length c8) 0 ((X3.setCell ⟨(w.heap.size + 1 + 1 + 1), 1, none⟩ (.slice A' (t + 1) c')).drew) ∧ wv (w.heap.size + 1 + 1 + 1) 2 b8 (o8 + t) (w.heap.size + 1) 1 b4 (o4 + t * 7 + 3) (o4 + t * 7 + 3 + 1) g5 1 (v 2) (.int .i64 (hatV ws x t)) (.slice (some ⟨bs, os, none⟩) bo.length c1) (.int .i64 (oAt (outs ws) t).kl) (.int .i64 (oAt (outs ws) t).kh) (.slice (some ⟨b8, o8, none⟩) (outs ws).length c8) 1 ((X3.setCell ⟨(w.heap.size + 1 + 1 + 1), 1, none⟩ (.slice A' (t + 1) c')).drew) ∧ wv (w.heap.size + 1 + 1 + 1) 2 b8 (o8 + t) (w.heap.size + 1) 1 b4 (o4 + t * 7 + 3) (o4 + t * 7 + 3 + 1) g5 1 (v 2) (.int .i64 (hatV ws x t)) (.slice (some ⟨bs, os, none⟩) bo.length c1) (.int .i64 (oAt (outs ws) t).kl) (.int .i64 (oAt (outs ws) t).kh) (.slice (some ⟨b8, o8, none⟩) (outs ws).length c8) 2 ((X3.setCell ⟨(w.heap.size + 1 + 1 + 1), 1, none⟩ (.slice A' (t + 1) c')).drew) ∧ wv (w.heap.size + 1 + 1 + 1) 2 b8 (o8 + t) (w.heap.size + 1) 1 b4 (o4 + t * 7 + 3) (o4 + t * 7 + 3 + 1) g5 1 (v 2) (.int .i64 (hatV ws x t)) (.slice (some ⟨bs, os, none⟩) bo.length c1) (.int .i64 (oAt (outs ws) t).kl) (.int .i64 (oAt (outs ws) t).kh) (.slice (some ⟨b8, o8, none⟩) (outs ws).length c8) 3 ((X3.setCell ⟨(w.heap.size + 1 + 1 + 1), 1, none⟩ (.slice A' (t + 1) c')).drew) ∧ wv (w.heap.size + 1 + 1 + 1) 2 b8 (o8 + t) (w.heap.size + 1) 1 b4 (o4 + t * 7 + 3) (o4 + t * 7 + 3 + 1) g5 1 (v 2) (.int .i64 (hatV ws x t)) (.slice (some ⟨bs, os, none⟩) bo.length c1) (.int .i64 (oAt (outs ws) t).kl) (.int .i64 (oAt (outs ws) t).kh) (.slice (some ⟨b8, o8, none⟩) (outs ws).length c8) 4 ((X3.setCell ⟨(w.heap.size + 1 + 1 + 1), 1, none⟩ (.slice A' (t + 1) c')).drew)) :=
      Lib.hid ⟨hX0.cell 2 (by omega), hX0.kept HY.out.n8 HY.out.k8, hX0.kept HY.out.nC HY.out.kc, ⟨hX0.kept HY.out.n4 HY.out.z3, hX0.kept HY.out.n4 HY.out.z4⟩, hX0.kept HY.out.n5 HY.out.q1⟩
     have HX := hd3 hX0 (hX0.own (i := 2) (by omega) (by omega)) (show wvLt _ _ _ _ _ _ from ⟨HY.out.nG, HY.out.n8, HY.out.nC, HY.out.n4, HY.out.n5⟩)
     clear hX0
     go_upto_region 12 with fail
     refine wp_region_K (by kernel_rfl) (wv (w.heap.size + 1 + 1 + 1) 2 b8 (o8 + t) (w.heap.size + 1) 1 b4 (o4 + t * 7 + 3) (o4 + t * 7 + 3 + 1) g5 1 (v 2) (.int .i64 (hatV ws x t)) (.slice (some ⟨bs, os, none⟩) bo.length c1) (.int .i64 (oAt (outs ws) t).kl) (.int .i64 (oAt (outs ws) t).kh) (.slice (some ⟨b8, o8, none⟩) (outs ws).length c8)) (fun j k => match j with | 18 => k != 0 | _ => true) ?_
     generalize (X3.setCell ⟨(w.heap.size + 1 + 1 + 1), 1, none⟩ (.slice A' (t + 1) c')).drew = X0 at *
     obtain ⟨s0, s1, s2, s3, s4⟩ := HS.out
     clear HS
     refine kF 5 0 rfl ?_
     refine kT 0 1 rfl ?_
     refine kF 5 2 rfl ?_
     refine kF 5 3 rfl ?_
     refine kF 5 4 rfl ?_
     refine kF 5 5 rfl ?_
     refine kT 3 6 rfl ?_
     refine kF 5 7 rfl ?_
     refine kF 5 8 rfl ?_
     refine kT 4 9 rfl ?_
     refine kF 5 10 rfl ?_
     refine kF 5 11 rfl ?_
     refine kT 1 12 rfl ?_
     refine kF 5 13 rfl ?_
     clear s0 s1 s2 s3 s4
     refine kR 14 rfl fun K hK => ?_
     go_simp
     refine (rEnd_any most (hatV ws x t) (oAt (outs ws) t).kl (oAt (outs ws) t).kh HSG.out X0).mono ?_
     rintro e X1 ⟨rfl, hb⟩
     dsimp only
     refine hK.out _ _ (fun k _ h => wv_below hb k h) ?_
     have hX1 := HX.out.1.below hb
     clear hK hb
     refine kR 15 rfl fun K hK => ?_
     go_simp
     refine hK.out _ _ (fun k _ h => wv_below ((Below.refl _ X1).alloc (Nat.le_refl _) _) k h) ?_
     have hX2 := hX1.alloc (.cells #[.int .i64 (endV most (hatV ws x t) ((oAt (outs ws) t).kl, (oAt (outs ws) t).kh))] 3)
     have cn : (X1.alloc (.cells #[.int .i64 (endV most (hatV ws x t) ((oAt (outs ws) t).kl, (oAt (outs ws) t).kh))] 3)).cell? ⟨X1.heap.size, 0, none⟩ = some (.int .i64 (endV most (hatV ws x t) ((oAt (outs ws) t).kl, (oAt (outs ws) t).kh))) := cell_row (blk_new X1 _ _ rfl)
     clear hK
     refine kR 16 rfl fun K hK => ?_
     refine wp_append_int (.tmp 69) (.tmp 83) rfl w3.heap.size (v 2) _ (endV most (hatV ws x t) ((oAt (outs ws) t).kl, (oAt (outs ws) t).kh)) rfl (hX2.o 2 (by omega) (by omega)) (Nat.le_trans (Nat.le_of_eq (show (corL ws ⟨A0, some ⟨bs, os, none⟩, c0, c1, ri, bo⟩ x most ri.length t t t 2).length = t from cLk_length _ _ _ _)) (by omega)) _ rfl cn hX2.lt ?_
     intro v' X3 ho hg hb'
     obtain ⟨A', c', rfl⟩ := ho.slice (n := t + 1) (by rw [List.length_append]; exact congrArg (· + 1) (show (corL ws ⟨A0, some ⟨bs, os, none⟩, c0, c1, ri, bo⟩ x most ri.length t t t 2).length = t from cLk_length _ _ _ _))
     refine hK.out _ _ (fun k _ h => wv_grown hg HX.out.2.1 HX.out.2.2 k h) ?_
     have hX3 := hX2.push (i := 2) (by omega) (by omega) hg ho hb'
     have eb : X3.cell? ⟨(w.heap.size + 1 + 1 + 1), 2, none⟩ = some (v 2) := (cell_of_heap (hX2.keep (i := 2) (by omega) (by omega) hg _ (by have := HX.out.2.2.1; omega))).trans (hX2.cell 2 (by omega))
     have fb : X3.frozen? ⟨(w.heap.size + 1 + 1 + 1), 2, none⟩ = false := blk_frozen ((hX2.keep (i := 2) (by omega) (by omega) hg _ (by have := HX.out.2.2.1; omega)).trans hX2.k)
     clear hK hg ho hb' cn
     go_frame
     refine kR 17 rfl fun K hK => ?_
     go_simp
     refine hK.out _ _ (fun k _ h => h) ?_
     clear hK
     refine kR 18 rfl fun K hK => ?_
     go_simp
     refine hK.out _ _ (fun k hk h => wv_set _ HX.out.2.2 k hk h) ?_
     clear hK eb fb
     refine kD ?_
     have hX0 := hX3.below ((Below.refl _ _).drew)
     clear HX HSG hX3 hX1 hX2
     have HSG := Lib.hid (rea_sgn ws x t)
     have HS : Hid (wv (w.heap.size + 1 + 1 + 1) 3 b9 (o9 + t) (w.heap.size + 1) 1 b4 (o4 + t * 7 + 5) (o4 + t * 7 + 5 + 1) g5 2 (v 3) (.int .i64 (reaV ws x t)) (.slice (some ⟨bs, os, none⟩) bo.length c1) (.int .i64 (oAt (outs ws) t).sl) (.int .i64 (oAt (outs ws) t).sh) (.slice (some ⟨b9, o9, none⟩) (outs ws).length c9) 0 ((X3.setCell ⟨(w.heap.size + 1 + 1 + 1), 2, none⟩ (.slice A' (t + 1) c')).drew) ∧ wv (w.heap.size + 1 + 1 + 1) 3 b9 (o9 + t) (w.heap.size + 1) 1 b4 (o4 + t * 7 + 5) (o4 + t * 7 + 5 + 1) g5 2 (v 3) (.int .i64 (reaV ws x t)) (.slice (some ⟨bs, os, none⟩) bo.length c1) (.int .i64 (oAt (outs ws) t).sl) (.int .i64 (oAt (outs ws) t).sh) (.slice (some ⟨b9, o9, none⟩) (outs ws).length c9) 1 ((X3.setCell ⟨(w.heap.size + 1 + 1 + 1), 2, none⟩ (.slice A' (t + 1) c')).drew) ∧ wv (w.heap.size + 1 + 1 + 1) 3 b9 (o9 + t) (w.heap.size + 1) 1 b4 (o4 + t * 7 + 5) (o4 + t * 7 + 5 + 1) g5 2 (v 3) (.int .i64 (reaV ws x t)) (.slice (some ⟨bs, os, none⟩) bo.length c1) (.int .i64 (oAt (outs ws) t).sl) (.int .i64 (oAt (outs ws) t).sh) (.slice (some ⟨b9, o9, none⟩) (outs ws).length c9) 2 ((X3.setCell ⟨(w.heap.size + 1 + 1 + 1), 2, none⟩ (.slice A' (t + 1) c')).drew) ∧ wv (w.heap.size + 1 + 1 + 1) 3 b9 (o9 + t) (w.heap.size + 1) 1 b4 (o4 + t * 7 + 5) (o4 + t * 7 + 5 + 1) g5 2 (v 3) (.int .i64 (reaV ws x t)) (.slice (some ⟨bs, os, none⟩) bo.length c1) (.int .i64 (oAt (outs ws) t).sl) (.int .i64 (oAt (outs ws) t).sh) (.slice (some ⟨b9, o9, none⟩) (outs ws).length c9) 3 ((X3.setCell ⟨(w.heap.size + 1 + 1 + 1), 2, none⟩ (.slice A' (t + 1) c')).drew) ∧ wv (w.heap.size + 1 + 1 + 1) 3 b9 (o9 + t) (w.heap.size + 1) 1 b4 (o4 + t * 7 + 5) (o4 + t * 7 + 5 + 1) g5 2 (v 3) (.int .i64 (reaV ws x t)) (.slice (some ⟨bs, os, none⟩) bo.length c1) (.int .i64 (oAt (outs ws) t).sl) (.int .i64 (oAt (outs ws) t).sh) (.slice (some ⟨b9, o9, none⟩) (outs ws).length c9) 4 ((X3.setCell ⟨(w.heap.size + 1 + 1 + 1), 2, none⟩ (.slice A' (t + 1) c')).drew)) :=
      Lib.hid ⟨hX0.cell 3 (by omega), hX0.kept HY.out.n9 HY.out.k9, hX0.kept HY.out.nC HY.out.kc, ⟨hX0.kept HY.out.n4 HY.out.z5, hX0.kept HY.out.n4 HY.out.z6⟩, hX0.kept HY.out.n5 HY.out.q2⟩
     have HX := hd3 hX0 (hX0.own (i := 3) (by omega) (by omega)) (show wvLt _ _ _ _ _ _ from ⟨HY.out.nG, HY.out.n9, HY.out.nC, HY.out.n4, HY.out.n5⟩)
     clear hX0
     go_upto_region 13 with fail
     refine wp_region_K (by kernel_rfl) (wv (w.heap.size + 1 + 1 + 1) 3 b9 (o9 + t) (w.heap.size + 1) 1 b4 (o4 + t * 7 + 5) (o4 + t * 7 + 5 + 1) g5 2 (v 3) (.int .i64 (reaV ws x t)) (.slice (some ⟨bs, os, none⟩) bo.length c1) (.int .i64 (oAt (outs ws) t).sl) (.int .i64 (oAt (outs ws) t).sh) (.slice (some ⟨b9, o9, none⟩) (outs ws).length c9)) (fun j k => match j with | 18 => k != 0 | _ => true) ?_
     generalize (X3.setCell ⟨(w.heap.size + 1 + 1 + 1), 2, none⟩ (.slice A' (t + 1) c')).drew = X0 at *
     obtain ⟨s0, s1, s2, s3, s4⟩ := HS.out
     clear HS
     refine kF 5 0 rfl ?_
     refine kT 0 1 rfl ?_
     refine kF 5 2 rfl ?_
     refine kF 5 3 rfl ?_
     refine kF 5 4 rfl ?_
     refine kF 5 5 rfl ?_
     refine kT 3 6 rfl ?_
     refine kF 5 7 rfl ?_
     refine kF 5 8 rfl ?_
     refine kT 4 9 rfl ?_
     refine kF 5 10 rfl ?_
     refine kF 5 11 rfl ?_
     refine kT 1 12 rfl ?_
     refine kF 5 13 rfl ?_
     clear s0 s1 s2 s3 s4
     refine kR 14 rfl fun K hK => ?_
     go_simp
     refine (rEnd_any most (reaV ws x t) (oAt (outs ws) t).sl (oAt (outs ws) t).sh HSG.out X0).mono ?_
     rintro e X1 ⟨rfl, hb⟩
     dsimp only
     refine hK.out _ _ (fun k _ h => wv_below hb k h) ?_
     have hX1 := HX.out.1.below hb
     clear hK hb
     refine kR 15 rfl fun K hK => ?_
     go_simp
     refine hK.out _ _ (fun k _ h => wv_below ((Below.refl _ X1).alloc (Nat.le_refl _) _) k h) ?_
     have hX2 := hX1.alloc (.cells #[.int .i64 (endV most (reaV ws x t) ((oAt (outs ws) t).sl, (oAt (outs ws) t).sh))] 3)
     have cn : (X1.alloc (.cells #[.int .i64 (endV most (reaV ws x t) ((oAt (outs ws) t).sl, (oAt (outs ws) t).sh))] 3)).cell? ⟨X1.heap.size, 0, none⟩ = some (.int .i64 (endV most (reaV ws x t) ((oAt (outs ws) t).sl, (oAt (outs ws) t).sh))) := cell_row (blk_new X1 _ _ rfl)
     clear hK
     refine kR 16 rfl fun K hK => ?_
     refine wp_append_int (.tmp 87) (.tmp 101) rfl w3.heap.size (v 3) _ (endV most (reaV ws x t) ((oAt (outs ws) t).sl, (oAt (outs ws) t).sh)) rfl (hX2.o 3 (by omega) (by omega)) (Nat.le_trans (Nat.le_of_eq (show (corL ws ⟨A0, some ⟨bs, os, none⟩, c0, c1, ri, bo⟩ x most ri.length t t t 3).length = t from cLo_length _ _ _ _)) (by omega)) _ rfl cn hX2.lt ?_
     intro v' X3 ho hg hb'
     obtain ⟨A', c', rfl⟩ := ho.slice (n := t + 1) (by rw [List.length_append]; exact congrArg (· + 1) (show (corL ws ⟨A0, some ⟨bs, os, none⟩, c0, c1, ri, bo⟩ x most ri.length t t t 3).length = t from cLo_length _ _ _ _))
     refine hK.out _ _ (fun k _ h => wv_grown hg HX.out.2.1 HX.out.2.2 k h) ?_
     have hX3 := hX2.push (i := 3) (by omega) (by omega) hg ho hb'
     have eb : X3.cell? ⟨(w.heap.size + 1 + 1 + 1), 3, none⟩ = some (v 3) := (cell_of_heap (hX2.keep (i := 3) (by omega) (by omega) hg _ (by have := HX.out.2.2.1; omega))).trans (hX2.cell 3 (by omega))
     have fb : X3.frozen? ⟨(w.heap.size + 1 + 1 + 1), 3, none⟩ = false := blk_frozen ((hX2.keep (i := 3) (by omega) (by omega) hg _ (by have := HX.out.2.2.1; omega)).trans hX2.k)
     clear hK hg ho hb' cn
     go_frame
     refine kR 17 rfl fun K hK => ?_
     go_simp
     refine hK.out _ _ (fun k _ h => h) ?_
     clear hK
     refine kR 18 rfl fun K hK => ?_
     go_simp
     refine hK.out _ _ (fun k hk h => wv_set _ HX.out.2.2 k hk h) ?_
     clear hK eb fb
     refine kD ?_
     have HF := Lib.hid hX3
     clear hX1 hX2 hX3
     go_wp2
     go_roundg ((outs ws).length - (t + 1))
     case measure => omega
     case rel => exact ⟨t + 1, by omega, by omega, by go_num, _, HF.out.congr (fun i _ hj => match i, hj with
      | 0, _ => rfl
      | 1, _ => (by rw [putA_ne _ _ (show (1 : Nat) ≠ 3 by decide), putA_ne _ _ (show (1 : Nat) ≠ 2 by decide), putA_same]; exact (show cBo ws ⟨A0, some ⟨bs, os, none⟩, c0, c1, ri, bo⟩ x most t ++ [endV most (hatV ws x t) (lo, hi)] = cBo ws ⟨A0, some ⟨bs, os, none⟩, c0, c1, ri, bo⟩ x most (t + 1) from by rw [cBo_succ, show sAt (Cs.bo ⟨A0, some ⟨bs, os, none⟩, c0, c1, ri, bo⟩) t = _ from HLH.out]))
      | 2, _ => (by rw [putA_ne _ _ (show (2 : Nat) ≠ 3 by decide), putA_same, putA_ne _ _ (show (2 : Nat) ≠ 1 by decide)]; exact (cLk_succ ws x most t).symm)
      | 3, _ => (by rw [putA_same, putA_ne _ _ (show (3 : Nat) ≠ 2 by decide), putA_ne _ _ (show (3 : Nat) ≠ 1 by decide)]; exact (cLo_succ ws x most t).symm))⟩
    ·have hltz : ¬ (t : Int) < ((outs ws).length : Int) := by omega
     obtain rfl : t = (outs ws).length := by omega
     have hQ := HA.out
     obtain ⟨B0, d0', e0, rd0, fr0⟩ := (hQ.o 0 (by omega) (by omega)).rd
     obtain ⟨B1, d1', e1, rd1, fr1⟩ := (hQ.o 1 (by omega) (by omega)).rd
     obtain ⟨B2, d2', e2, rd2, fr2⟩ := (hQ.o 2 (by omega) (by omega)).rd
     obtain ⟨B3, d3', e3, rd3, fr3⟩ := (hQ.o 3 (by omega) (by omega)).rd
     rw [show (corL ws ⟨A0, A1, c0, c1, ri, bo⟩ x most ri.length (outs ws).length (outs ws).length (outs ws).length 0) = cRi ws ⟨A0, A1, c0, c1, ri, bo⟩ x most ri.length from rfl] at e0 rd0
     rw [show (corL ws ⟨A0, A1, c0, c1, ri, bo⟩ x most ri.length (outs ws).length (outs ws).length (outs ws).length 1) = cBo ws ⟨A0, A1, c0, c1, ri, bo⟩ x most (outs ws).length from rfl] at e1 rd1
     rw [show (corL ws ⟨A0, A1, c0, c1, ri, bo⟩ x most ri.length (outs ws).length (outs ws).length (outs ws).length 2) = cLk ws x most (outs ws).length from rfl] at e2 rd2
     rw [show (corL ws ⟨A0, A1, c0, c1, ri, bo⟩ x most ri.length (outs ws).length (outs ws).length (outs ws).length 3) = cLo ws x most (outs ws).length from rfl] at e3 rd3
     rw [cRi_length] at e0
     rw [cBo_length] at e1
     rw [cLk_length] at e2
     rw [cLo_length] at e3
     have j1 : wr.cell? ⟨(w.heap.size + 1 + 1 + 1), 0, none⟩ = some _ := (hQ.cell 0 (by omega)).trans (by rw [e0])
     have j2 : wr.cell? ⟨(w.heap.size + 1 + 1 + 1), 1, none⟩ = some _ := (hQ.cell 1 (by omega)).trans (by rw [e1])
     have j3 : wr.cell? ⟨(w.heap.size + 1 + 1 + 1), 2, none⟩ = some _ := (hQ.cell 2 (by omega)).trans (by rw [e2])
     have j4 : wr.cell? ⟨(w.heap.size + 1 + 1 + 1), 3, none⟩ = some _ := (hQ.cell 3 (by omega)).trans (by rw [e3])
     have hlg : w.heap.size + 4 < w3.heap.size := by have := HT.out.2.2.2.2.2.2.2.2.2; omega
     have q5 := (hQ.md (w.heap.size + 1 + 1) (by omega) (by omega)).trans HT.out.2.2.1
     have g0 := cr 0 q5
     have g1 := cr 1 q5
     have g2 := cr 2 q5
     have g3 := cr 3 q5
     have x0 := bf 0 q5
     have x1 := bf 1 q5
     have x2 := bf 2 q5
     have x3 := bf 3 q5
     have HE := hd11 q5 rd0 rd1 rd2 rd3 fr0 fr1 fr2 fr3 hQ hlg
     clear hQ e0 e1 e2 e3 rd0 rd1 rd2 rd3 fr0 fr1 fr2 fr3 q5 hlg
     go_wp2
     have HF : Hid (Blk ((((wr.setCell ⟨w.heap.size + 1 + 1, 0, none⟩ (Value.slice B0 ri.length d0')).setCell ⟨w.heap.size + 1 + 1, 1, none⟩ (Value.slice B1 (outs ws).length d1')).setCell ⟨w.heap.size + 1 + 1, 2, none⟩ (Value.slice B2 (outs ws).length d2')).setCell ⟨w.heap.size + 1 + 1, 3, none⟩ (Value.slice B3 (outs ws).length d3')) (w.heap.size + 1 + 1) #[.slice B0 ri.length d0', .slice B1 (outs ws).length d1', .slice B2 (outs ws).length d2', .slice B3 (outs ws).length d3'] 27 ∧ (∀ k, k ≠ w.heap.size + 1 + 1 → ((((wr.setCell ⟨w.heap.size + 1 + 1, 0, none⟩ (Value.slice B0 ri.length d0')).setCell ⟨w.heap.size + 1 + 1, 1, none⟩ (Value.slice B1 (outs ws).length d1')).setCell ⟨w.heap.size + 1 + 1, 2, none⟩ (Value.slice B2 (outs ws).length d2')).setCell ⟨w.heap.size + 1 + 1, 3, none⟩ (Value.slice B3 (outs ws).length d3')).heap[k]? = wr.heap[k]?) ∧ ((((wr.setCell ⟨w.heap.size + 1 + 1, 0, none⟩ (Value.slice B0 ri.length d0')).setCell ⟨w.heap.size + 1 + 1, 1, none⟩ (Value.slice B1 (outs ws).length d1')).setCell ⟨w.heap.size + 1 + 1, 2, none⟩ (Value.slice B2 (outs ws).length d2')).setCell ⟨w.heap.size + 1 + 1, 3, none⟩ (Value.slice B3 (outs ws).length d3')).heap.size = wr.heap.size ∧ Below w.heap.size w ((((wr.setCell ⟨w.heap.size + 1 + 1, 0, none⟩ (Value.slice B0 ri.length d0')).setCell ⟨w.heap.size + 1 + 1, 1, none⟩ (Value.slice B1 (outs ws).length d1')).setCell ⟨w.heap.size + 1 + 1, 2, none⟩ (Value.slice B2 (outs ws).length d2')).setCell ⟨w.heap.size + 1 + 1, 3, none⟩ (Value.slice B3 (outs ws).length d3'))) := by
      have hbl := HT.out.1.trans HE.out.2.2.2.2.2.2.2.2.2.1.bl
      have le4 : w.heap.size ≤ w.heap.size + 1 + 1 := by omega
      refine Lib.hid ⟨heap_setCell_same _ _ 3 _ _ _ (heap_setCell_same _ _ 2 _ _ _ (heap_setCell_same _ _ 1 _ _ _ (heap_setCell_same _ _ 0 _ _ _ HE.out.1))), fun k hk => ?_, by simp only [World.size_setCell], (((hbl.setCell (p := ⟨w.heap.size + 1 + 1, 0, none⟩) le4 _).setCell (p := ⟨w.heap.size + 1 + 1, 1, none⟩) le4 _).setCell (p := ⟨w.heap.size + 1 + 1, 2, none⟩) le4 _).setCell (p := ⟨w.heap.size + 1 + 1, 3, none⟩) le4 _⟩
      rw [Below.heap_setCell _ _ _ _ (by exact hk), Below.heap_setCell _ _ _ _ (by exact hk), Below.heap_setCell _ _ _ _ (by exact hk), Below.heap_setCell _ _ _ _ (by exact hk)]
     generalize ((((wr.setCell ⟨w.heap.size + 1 + 1, 0, none⟩ (Value.slice B0 ri.length d0')).setCell ⟨w.heap.size + 1 + 1, 1, none⟩ (Value.slice B1 (outs ws).length d1')).setCell ⟨w.heap.size + 1 + 1, 2, none⟩ (Value.slice B2 (outs ws).length d2')).setCell ⟨w.heap.size + 1 + 1, 3, none⟩ (Value.slice B3 (outs ws).length d3')) = WF at *
     obtain ⟨qF, oth, hsF, hbF⟩ := HF.out
     obtain ⟨q5, rd0, rd1, rd2, rd3, fr0, fr1, fr2, fr3, hQ, hlg⟩ := HE.out
     have t0 : WF.cell? ⟨w.heap.size + 1 + 1, 0, none⟩ = some _ := cell_row qF
     have t1 : WF.cell? ⟨w.heap.size + 1 + 1, 1, none⟩ = some _ := cell_row qF
     have t2 : WF.cell? ⟨w.heap.size + 1 + 1, 2, none⟩ = some _ := cell_row qF
     have t3 : WF.cell? ⟨w.heap.size + 1 + 1, 3, none⟩ = some _ := cell_row qF
     have mv : ∀ {B : Option Addr} {xs : List Int}, Rd wr wr.heap.size B xs → Fresh w3.heap.size B → Rd WF WF.heap.size B xs := fun {B xs} h1 h2 hn => by
      obtain ⟨b, off, e, hl, hc⟩ := h1 hn
      have := h2 _ e
      dsimp only at this
      exact ⟨b, off, e, by omega, fun i hi => (cell_of_heap (oth b (by omega))).trans (hc i hi)⟩
     have hN6 := HN.out.1
     exact bodyPost_ret (v := .agg #[.slice B0 ri.length d0', .slice B1 (outs ws).length d1', .slice B2 (outs ws).length d2', .slice B3 (outs ws).length d3']) (by simp [results, Try.results134, go_sem, t0, t1, t2, t3]) rfl
      ⟨⟨B0, B1, B2, B3, d0', d1', d2', d3', cRi ws ⟨A0, A1, c0, c1, ri, bo⟩ x most ri.length, cBo ws ⟨A0, A1, c0, c1, ri, bo⟩ x most (outs ws).length, cLk ws x most (outs ws).length, cLo ws x most (outs ws).length⟩,
       by unfold Wt.v; dsimp only; rw [cRi_length, cBo_length, cLk_length, cLo_length],
       ⟨mv rd0 fr0, mv rd1 fr1, mv rd2 fr2, mv rd3 fr3, by dsimp only; rw [cRi_length]; omega, by dsimp only; rw [cBo_length]; omega, by dsimp only; rw [cLk_length]; omega, by dsimp only; rw [cLo_length]; omega⟩, ⟨rfl, rfl, rfl, rfl⟩,
       fr0.mono (by omega), fr1.mono (by omega), fr2.mono (by omega), fr3.mono (by omega), hbF⟩
end Go.Proofs.Ytdadoelajhemjaa
