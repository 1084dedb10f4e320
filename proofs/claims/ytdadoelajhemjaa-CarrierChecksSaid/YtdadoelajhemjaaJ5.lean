/- Walks: slices.Contains of places; the closure of Below. -/
import Derived.Test.YtdadoelajhemjaaJ4
namespace Go.Proofs.Ytdadoelajhemjaa
open Go.RowKit Go.Shelf

set_option maxRecDepth 100000 in
set_option maxHeartbeats 800000 in
theorem containsP_any (A : Option Addr) (c : Nat) (ws : List Car) (l : List Nat) (x : Nat) (w : World) (h : RdP w w.heap.size A (l.map (pl ws))) (hm : l.length ≤ 1000) :
  Calls Try.prog 123 #[.slice A l.length c, plV (pl ws x)] w fun e w' => e = .returned (.bool (decide (x ∈ l))) ∧ Below w.heap.size w w' := by
 have hb := (Below.refl _ w).alloc (Nat.le_refl _) (.cells #[.int .i64 (x : Int), .int .i64 (caAt ws x : Int), .int .i64 (atAt ws x : Int)] 131)
 have HI := hd2 hb (indexP_any A c ws l x _ (h.ext hb) hm)
 clear h hm hb
 dsimp only [pl, plV] at *
 go_enter Try.func123, Try.ntmps123
 go_wp2_with (go_at_call 139; refine HI.out.2.mono ?_; rintro e w1 ⟨r, rfl, hr, hb⟩; have HB := hd2 hr hb; clear hr hb)
 go_ret
 exact ⟨by rw [show decide (x ∈ l) = decide (0 ≤ r) from decide_eq_decide.2 HB.out.1.symm]; rfl, HI.out.1.trans (HB.out.2.mono HI.out.1.size)⟩
set_option maxRecDepth 100000 in
set_option maxHeartbeats 800000 in
theorem bl1_any (A : Option Addr) (c gw gx : Nat) (ws : List Car) (k x : Nat) (w : World) (hk : k < (outs ws).length) (h : Wk w A ws) (g : Good ws) (c8 : w.cell? ⟨gw, 0, none⟩ = some (.slice A ws.length c)) (hx : Blk w gx #[.int .i64 (x : Int), .int .i64 (caAt ws x : Int), .int .i64 (atAt ws x : Int)] 131) :
  Calls Try.prog 122 #[plV (pl ws k), (oAt (outs ws) k).v, .pointer (some ⟨gw, 0, none⟩), .pointer (some ⟨gx, 0, none⟩)] w fun e w' => e = .returned (.bool (decide ((oAt (outs ws) k).into < 0) && decide (x ∈ pathN ws k))) ∧ Below w.heap.size w w' := by
 have hb2 : Below w.heap.size w ((w.alloc (.cells #[.int .i64 (k : Int), .int .i64 (caAt ws k : Int), .int .i64 (atAt ws k : Int)] 131)).alloc (.cells #[.int .i64 (oAt (outs ws) k).id, .int .i64 (oAt (outs ws) k).into, .slice (oAt (outs ws) k).P (oAt (outs ws) k).ps.length (oAt (outs ws) k).c, .int .i64 (oAt (outs ws) k).kl, .int .i64 (oAt (outs ws) k).kh, .int .i64 (oAt (outs ws) k).sl, .int .i64 (oAt (outs ws) k).sh] 42)) := ((Below.refl _ w).alloc (Nat.le_refl _) _).alloc (by simp) _
 have hd : Below w.heap.size w ((w.alloc (.cells #[.int .i64 (k : Int), .int .i64 (caAt ws k : Int), .int .i64 (atAt ws k : Int)] 131)).alloc (.cells #[.int .i64 (oAt (outs ws) k).id, .int .i64 (oAt (outs ws) k).into, .slice (oAt (outs ws) k).P (oAt (outs ws) k).ps.length (oAt (outs ws) k).c, .int .i64 (oAt (outs ws) k).kl, .int .i64 (oAt (outs ws) k).kh, .int .i64 (oAt (outs ws) k).sl, .int .i64 (oAt (outs ws) k).sh] 42)).drew := hb2.drew
 have c8' := cell_below hd c8
 have hbx := blk_on hx hd
 have x0 := cr 0 hbx
 have x1 := cr 1 hbx
 have x2 := cr 2 hbx
 have hbk : Blk ((w.alloc (.cells #[.int .i64 (k : Int), .int .i64 (caAt ws k : Int), .int .i64 (atAt ws k : Int)] 131)).alloc (.cells #[.int .i64 (oAt (outs ws) k).id, .int .i64 (oAt (outs ws) k).into, .slice (oAt (outs ws) k).P (oAt (outs ws) k).ps.length (oAt (outs ws) k).c, .int .i64 (oAt (outs ws) k).kl, .int .i64 (oAt (outs ws) k).kh, .int .i64 (oAt (outs ws) k).sl, .int .i64 (oAt (outs ws) k).sh] 42)).drew w.heap.size #[.int .i64 (k : Int), .int .i64 (caAt ws k : Int), .int .i64 (atAt ws k : Int)] 131 := blk_on (blk_alloc (blk_new w #[.int .i64 (k : Int), .int .i64 (caAt ws k : Int), .int .i64 (atAt ws k : Int)] 131 rfl) _) (Below.refl _ _).drew
 have k0 := cr 0 hbk
 have k1 := cr 1 hbk
 have k2 := cr 2 hbk
 have o1 := cr 1 (blk_on (blk_new (w.alloc (.cells #[.int .i64 (k : Int), .int .i64 (caAt ws k : Int), .int .i64 (atAt ws k : Int)] 131)) (g := w.heap.size + 1) #[.int .i64 (oAt (outs ws) k).id, .int .i64 (oAt (outs ws) k).into, .slice (oAt (outs ws) k).P (oAt (outs ws) k).ps.length (oAt (outs ws) k).c, .int .i64 (oAt (outs ws) k).kl, .int .i64 (oAt (outs ws) k).kh, .int .i64 (oAt (outs ws) k).sl, .int .i64 (oAt (outs ws) k).sh] 42 (by simp)) (Below.refl _ ((w.alloc (.cells #[.int .i64 (k : Int), .int .i64 (caAt ws k : Int), .int .i64 (atAt ws k : Int)] 131)).alloc (.cells #[.int .i64 (oAt (outs ws) k).id, .int .i64 (oAt (outs ws) k).into, .slice (oAt (outs ws) k).P (oAt (outs ws) k).ps.length (oAt (outs ws) k).c, .int .i64 (oAt (outs ws) k).kl, .int .i64 (oAt (outs ws) k).kh, .int .i64 (oAt (outs ws) k).sl, .int .i64 (oAt (outs ws) k).sh] 42))).drew)
 have HP := hd2 hd (path_any A c ws k hk ((w.alloc (.cells #[.int .i64 (k : Int), .int .i64 (caAt ws k : Int), .int .i64 (atAt ws k : Int)] 131)).alloc (.cells #[.int .i64 (oAt (outs ws) k).id, .int .i64 (oAt (outs ws) k).into, .slice (oAt (outs ws) k).P (oAt (outs ws) k).ps.length (oAt (outs ws) k).c, .int .i64 (oAt (outs ws) k).kl, .int .i64 (oAt (outs ws) k).kh, .int .i64 (oAt (outs ws) k).sl, .int .i64 (oAt (outs ws) k).sh] 42)).drew (h.ext hd) g)
 have HL := Lib.hid (show (pathN ws k).length ≤ 1000 by
  have h1 := upList_len g _ k rfl
  have h2 := caAt_lt hk
  have h3 := h.n1
  unfold pathN
  rw [List.length_reverse]
  omega)
 have HX := Lib.hid (fun A1 c1 W h => containsP_any A1 c1 ws (pathN ws k) x W h HL.out)
 clear c8 hx hbx hbk hb2 hd h hk g
 dsimp only [pl, plV, Ot.v] at *
 by_cases hn : (oAt (outs ws) k).into < 0
 ·rw [decide_eq_true hn, Bool.true_and]
  go_enter Try.func122, Try.ntmps122
  go_wp2
  refine wp_region_R (fun _ => true) ?_
  generalize ((w.alloc (.cells #[.int .i64 (k : Int), .int .i64 (caAt ws k : Int), .int .i64 (atAt ws k : Int)] 131)).alloc (.cells #[.int .i64 (oAt (outs ws) k).id, .int .i64 (oAt (outs ws) k).into, .slice (oAt (outs ws) k).P (oAt (outs ws) k).ps.length (oAt (outs ws) k).c, .int .i64 (oAt (outs ws) k).kl, .int .i64 (oAt (outs ws) k).kh, .int .i64 (oAt (outs ws) k).sl, .int .i64 (oAt (outs ws) k).sh] 42)).drew = X0 at *
  refine bF 0 rfl ?_
  refine bT o1 1 rfl ?_
  refine bF (v := .bool true) 2 rfl ?_
  refine bF 3 rfl ?_
  refine bT c8' 4 rfl ?_
  refine bV k0 k1 k2 5 rfl ?_
  refine bV x0 x1 x2 7 rfl ?_
  clear k0 k1 k2 x0 x1 x2 o1 c8'
  refine bR 6 rfl fun K hK => ?_
  go_simp
  refine HP.out.2.mono ?_
  rintro e X1 ⟨A1, c1, rfl, hr, -, hb⟩
  dsimp only
  refine hK.out _ _ (fun _ => hb) ?_
  have HQ := hd2 (HP.out.1.trans (hb.mono HP.out.1.size)) (HX.out A1 c1 X1 hr)
  clear hK hb hr
  refine bR 8 rfl fun K hK => ?_
  go_simp
  refine HQ.out.2.mono ?_
  rintro e X2 ⟨rfl, hb⟩
  dsimp only
  refine hK.out _ _ (fun _ => hb) ?_
  have HQ2 := Lib.hid (HQ.out.1.trans (hb.mono HQ.out.1.size))
  clear hK hb
  refine bF 9 rfl ?_
  refine bF 10 rfl ?_
  refine bD ?_
  go_wp2
  go_ret
  exact ⟨rfl, HQ2.out⟩
 ·rw [decide_eq_false hn, Bool.false_and]
  go_enter Try.func122, Try.ntmps122
  go_wp2
  refine wp_region_R (fun _ => true) ?_
  generalize ((w.alloc (.cells #[.int .i64 (k : Int), .int .i64 (caAt ws k : Int), .int .i64 (atAt ws k : Int)] 131)).alloc (.cells #[.int .i64 (oAt (outs ws) k).id, .int .i64 (oAt (outs ws) k).into, .slice (oAt (outs ws) k).P (oAt (outs ws) k).ps.length (oAt (outs ws) k).c, .int .i64 (oAt (outs ws) k).kl, .int .i64 (oAt (outs ws) k).kh, .int .i64 (oAt (outs ws) k).sl, .int .i64 (oAt (outs ws) k).sh] 42)).drew = X0 at *
  refine bF 0 rfl ?_
  refine bT o1 1 rfl ?_
  refine bF (v := .bool false) 2 rfl ?_
  refine bF 3 rfl ?_
  refine bS 4 rfl ?_
  refine bS 5 rfl ?_
  refine bS 6 rfl ?_
  refine bS 7 rfl ?_
  refine bS 8 rfl ?_
  refine bF 9 rfl ?_
  refine bF 10 rfl ?_
  refine bD ?_
  clear k0 k1 k2 x0 x1 x2 o1 c8'
  go_wp2
  go_ret
  exact ⟨rfl, HP.out.1⟩
end Go.Proofs.Ytdadoelajhemjaa
