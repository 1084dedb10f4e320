/- Walks: kept, with any function that chooses. -/
import Derived.Test.YtdadoelajhemjaaM12
import Derived.Test.YtdadoelajhemjaaQ2
import Derived.Shelf.AbstractIn
namespace Go.Proofs.Ytdadoelajhemjaa
open Go.RowKit Go.Shelf
attribute [local go_sem] Oper.semAt_some

/-- The IDs of the outlets that are chosen. -/
def kpL (ws : List Car) (p : Nat → Bool) : List Int := ((List.range (outs ws).length).filter p).map fun i => (oAt (outs ws) i).id

/-- The IDs of the outlets chosen so far. -/
def kpP (ws : List Car) (p : Nat → Bool) (l : List (Fin (outs ws).length)) : List Int := (l.filter fun i => p i.1).map fun i => (oAt (outs ws) i.1).id
theorem kpP_all (ws : List Car) (p : Nat → Bool) : kpP ws p (List.finRange (outs ws).length) = kpL ws p := by
 unfold kpP kpL
 have h : ((List.finRange (outs ws).length).filter fun i => p i.1).map (fun i => i.1) = (List.range (outs ws).length).filter p := by
  rw [show (fun i : Fin (outs ws).length => p i.1) = p ∘ (fun i => i.1) from rfl, ← List.filter_map, show (List.finRange (outs ws).length).map (fun i => i.1) = List.range (outs ws).length by rw [finRange_map (fun i => i)]; simp]
 rw [← h, List.map_map]
 rfl
theorem kpP_length (ws : List Car) (p : Nat → Bool) (l : List (Fin (outs ws).length)) : (kpP ws p l).length ≤ l.length := by
 unfold kpP
 rw [List.length_map]
 exact List.length_filter_le _ _
theorem kpP_no {ws : List Car} {p : Nat → Bool} {l : List (Fin (outs ws).length)} {y : Fin (outs ws).length} (h : p y.1 = false) : kpP ws p (l ++ [y]) = kpP ws p l := by
 unfold kpP
 rw [List.filter_append]
 simp [h]
theorem kpP_yes {ws : List Car} {p : Nat → Bool} {l : List (Fin (outs ws).length)} {y : Fin (outs ws).length} (h : p y.1 = true) : kpP ws p (l ++ [y]) = kpP ws p l ++ [(oAt (outs ws) y.1).id] := by
 unfold kpP
 rw [List.filter_append, List.map_append]
 simp [h]
/-- What the loop of kept keeps. -/
structure KpI (w W2 : World) (go : Nat) (ws : List Car) (p : Nat → Bool) (pre : List (Fin (outs ws).length)) (W : World) : Prop where
 a : ∃ A2 c2, Blk W go #[.slice A2 (kpP ws p pre).length c2] 25 ∧ Own W W2.heap.size (.slice A2 (kpP ws p pre).length c2) (kpP ws p pre)
 md : ∀ k, k < W2.heap.size → k ≠ go → W.heap[k]? = W2.heap[k]?
 bl : Below w.heap.size w W
 lt : W2.heap.size ≤ W.heap.size
 l4 : w.heap.size ≤ go ∧ go < W2.heap.size
theorem KpI.kept {w W2 : World} {go : Nat} {ws : List Car} {p : Nat → Bool} {pre : List (Fin (outs ws).length)} {W W' : World} {row : Option Nat} (h : KpI w W2 go ws p pre W) (hg : W.grownBy W' row) (hr : ∀ r, row = some r → W2.heap.size ≤ r ∧ ∃ o : Obj, W.heap[r]? = some o ∧ o.isCells = false) : KpI w W2 go ws p pre W' := by
 obtain ⟨A2, c2, h1, h2⟩ := h.a
 have hr2 := fun r e => (hr r e).2
 have l4 := h.l4
 have hlt := h.lt
 exact ⟨⟨A2, c2, h1.kept hg hr2, h2.kept hg hr2⟩, fun k hk hk2 => (hg.block k (by omega) (fun e => by have := (hr k e.symm).1; omega)).trans (h.md k hk hk2),
  h.bl.grown hg h.bl.size (fun k e => by have := (hr k e).1; omega), Nat.le_trans h.lt hg.size, h.l4⟩
theorem KpI.later {w W2 : World} {go : Nat} {ws : List Car} {p : Nat → Bool} {pre : List (Fin (outs ws).length)} {W W' : World} (h : KpI w W2 go ws p pre W) (hb : Below W.heap.size W W') : KpI w W2 go ws p pre W' := by
 obtain ⟨A2, c2, h1, h2⟩ := h.a
 have hlt := h.lt
 exact ⟨⟨A2, c2, blk_on h1 hb, h2.later hb⟩, fun k hk hk2 => (hb.block k (by omega)).trans (h.md k hk hk2), h.bl.trans (hb.mono h.bl.size), Nat.le_trans h.lt hb.size, h.l4⟩
theorem KpI.cell {w W2 : World} {go : Nat} {ws : List Car} {p : Nat → Bool} {pre : List (Fin (outs ws).length)} {W : World} (h : KpI w W2 go ws p pre W) {g i : Nat} {u : Value} (hc : W2.cell? ⟨g, i, none⟩ = some u) (hn : g ≠ go) : W.cell? ⟨g, i, none⟩ = some u := (cell_of_heap (h.md g (lt_of_cell' hc) hn)).trans hc
section
variable {P : Program} {l : List Oper} {Q : Exit → Act → World → Prop} {md : Region.Mode} {kb : Nat → Bool} {oi : Oper} {v : Value} {fuel : Nat} {listed : Array Bool} {a a' : Act} {w : World}
/-- An operation that reads a whole block. -/
theorem bUk {g : Nat} {cs : Array Value} {ty : TypeId} (hk : Blk w g cs ty) (i : Nat) (hi : l[i]? = some oi) (h : wpAnyR P md l.toArray Q kb fuel (listed.setIfInBounds i true) a' w)
  (hrun : ∀ w : World, Blk w g cs ty → (execOp a.eval oi).run P w = .ok (.value v) w) (ha : a.put oi.dst v = a' := by first | (go_frame; rfl) | rfl) (hw : Region.wanted oi (yielded l.toArray a.tmps) = true := by first | rfl | kernel_rfl)
  (hb : (Region.noSelect l.toArray && Region.free md l.toArray listed i && (Region.ready md l.toArray listed).contains i && keepsR md l.toArray kb listed i) = true := by kernel_rfl)
  (hQ : ∀ c a w, Q (.panic c) (a.put oi.dst v) w → Q (.panic c) a w := by exact fun _ _ _ h => h) : wpAnyR P md l.toArray Q kb (fuel + 1) listed a w :=
 bG (F := fun X => Blk X g cs ty) (fun _ _ hb h => blk_on h hb) hk i hi (ha ▸ h) (.inl ⟨hw, hrun⟩) hb hQ
end

theorem id_any (o : Ot) (w : World) : Calls Try.prog 119 #[o.v] w fun e w' => e = .returned (.int .i64 o.id) ∧ Below w.heap.size w w' := by
 have hb : Below w.heap.size w (w.alloc (.cells o.cells.toArray 42)) := (Below.refl _ w).alloc (Nat.le_refl _) _
 have HB := Lib.hid hb
 clear hb
 obtain ⟨oi, ot, P, c, ps, kl, kh, sl, sh⟩ := o
 dsimp only [Ot.v, Ot.cells] at *
 go_enter Try.func119, Try.ntmps119
 go_wp2
 go_ret
 exact ⟨rfl, HB.out⟩

set_option maxRecDepth 100000 in
set_option maxHeartbeats 2000000 in
theorem kept_in (gf : Nat) (lb : Array Value) (eg : ∀ args w, (callFunc gf args).run Try.prog w = .ok (.enter gf args) w) (p : Nat → Bool) (A : Option Addr) (c gw : Nat) (ws : List Car) (w : World) (hW : Wk w A ws) (c8 : w.cell? ⟨gw, 0, none⟩ = some (.slice A ws.length c))
  (hp : ∀ i W, i < (outs ws).length → Below w.heap.size w W → Calls Try.prog gf (#[.agg #[.int .i64 (i : Int), .int .i64 (caAt ws i : Int), .int .i64 (atAt ws i : Int)], (oAt (outs ws) i).v] ++ lb) W fun e w' => e = .returned (.bool (p i)) ∧ Below W.heap.size W w') :
  CallsIn Fence.wide 3 Try.prog 117 #[.func (.func 138) #[] #[.pointer (some ⟨gw, 0, none⟩)], .func (.func gf) #[] lb, .func (.func 119) #[] #[]] w fun e w' => ∃ A' c', e = .returned (.slice A' (kpL ws p).length c') ∧ Rd w' w'.heap.size A' (kpL ws p) ∧ Below w.heap.size w w' := by
 have h := hW.rd
 have hm : ws.length ≤ maxLen := by have := hW.n1; unfold maxLen; omega
 have hN : (outs ws).length ≤ 1000000000 := by have := hW.n2; omega
 refine callsIn_of_wp_marks Try.func117 rfl trivial ?_ rfl
 simp only [Try.ntmps117, List.size_toArray, List.length_cons, List.length_nil, Nat.reduceAdd, Nat.reduceSub, Array.replicate_succ, Array.replicate_zero, List.push_toArray, List.append_toArray, List.nil_append, List.cons_append]
 gi_wp2
 have HI0 : Hid (KpI w (((w.alloc (.cells #[.func (.func gf) #[] lb] 168)).alloc (.cells #[.func (.func 119) #[] #[]] 169)).alloc (.cells #[.slice none 0 0] 25)) (w.heap.size + 1 + 1) ws p [] (((w.alloc (.cells #[.func (.func gf) #[] lb] 168)).alloc (.cells #[.func (.func 119) #[] #[]] 169)).alloc (.cells #[.slice none 0 0] 25))) := Lib.hid ⟨⟨none, 0, blk_new _ _ _ (by simp), Own.nil _ _⟩, fun _ _ _ => rfl, (((Below.refl _ w).alloc (Nat.le_refl _) _).alloc (by simp) _).alloc (by simp; omega) _, Nat.le_refl _, by omega, by simp⟩
 have b4 := blk_alloc (blk_alloc (blk_new w #[.func (.func gf) #[] lb] 168 rfl) (.cells #[.func (.func 119) #[] #[]] 169)) (.cells #[.slice none 0 0] 25)
 have b5 := blk_alloc (blk_new (w.alloc (.cells #[.func (.func gf) #[] lb] 168)) (g := w.heap.size + 1) #[.func (.func 119) #[] #[]] 169 (by simp)) (.cells #[.slice none 0 0] 25)
 have hsz3 : (((w.alloc (.cells #[.func (.func gf) #[] lb] 168)).alloc (.cells #[.func (.func 119) #[] #[]] 169)).alloc (.cells #[.slice none 0 0] 25)).heap.size = w.heap.size + 3 := by simp
 generalize hgW : (((w.alloc (.cells #[.func (.func gf) #[] lb] 168)).alloc (.cells #[.func (.func 119) #[] #[]] 169)).alloc (.cells #[.slice none 0 0] 25)) = W3 at *
 clear hgW
 have hgl : gw < w.heap.size := lt_of_cell' c8
 have c8' : W3.cell? ⟨gw, 0, none⟩ = some (.slice A ws.length c) := cell_below HI0.out.bl c8
 have hseq := outlets_stops 2 (by omega) w.heap.size gw A c ws W3 HI0.out.bl.size c8' (by omega) (h.below HI0.out.bl (Nat.le_refl _)) hm hN
 have hO : OwnFrom W3.heap.size (fun pre W => KpI w W3 (w.heap.size + 1 + 1) ws p pre W) := fun pre W W' row hi hgr hrow => hi.kept hgr (fun r e => ⟨(hrow r e).1, (hrow r e).2⟩)
 have HB := hd2 b4 b5
 clear b4 b5 c8'
 refine wpIn_rangeFunc_ownH rfl (by omega) (gf := 138) (lb := #[.pointer (some ⟨gw, 0, none⟩)]) rfl trivial eg_outlets hseq belowK_t (belowK_b HI0.out.bl.size) (Below.refl _ W3) (fun _ => rfl)
  (fun pre W => KpI w W3 (w.heap.size + 1 + 1) ws p pre W) (fun _ _ _ => False) hO (fun _ _ _ _ _ hs _ _ => hs) HI0.out
  (fun y a' W => ∃ g8 g9, a' = { tmps := #[.func (.func 138) #[] #[.pointer (some ⟨gw, 0, none⟩)], .func (.func gf) #[] lb, .func (.func 119) #[] #[], undef, .pointer (some ⟨w.heap.size, 0, none⟩), .pointer (some ⟨w.heap.size + 1, 0, none⟩), .slice none 0 0, .pointer (some ⟨(w.heap.size + 1 + 1), 0, none⟩), .pointer (some ⟨g8, 0, none⟩), .pointer (some ⟨g9, 0, none⟩), .func (.func 138) #[] #[.pointer (some ⟨gw, 0, none⟩)], .agg #[.int .i64 (y.1 : Int), .int .i64 (caAt ws y.1 : Int), .int .i64 (atAt ws y.1 : Int)], (oAt (outs ws) y.1).v, undef, undef, undef, undef, undef, undef, undef, undef, undef, undef, undef], defers := [] } ∧ Blk W g8 #[.int .i64 (y.1 : Int), .int .i64 (caAt ws y.1 : Int), .int .i64 (atAt ws y.1 : Int)] 131 ∧ Blk W g9 #[.int .i64 (oAt (outs ws) y.1).id, .int .i64 (oAt (outs ws) y.1).into, .slice (oAt (outs ws) y.1).P (oAt (outs ws) y.1).ps.length (oAt (outs ws) y.1).c, .int .i64 (oAt (outs ws) y.1).kl, .int .i64 (oAt (outs ws) y.1).kh, .int .i64 (oAt (outs ws) y.1).sl, .int .i64 (oAt (outs ws) y.1).sh] 42)
  ?ownA ?assign ?body ?done (fun _ _ _ _ _ _ h _ => h.elim)
 case ownA =>
  rintro y a' _ W W' row ⟨g8, g9, e, hx, hx2⟩ hgr hrow
  exact ⟨g8, g9, e, hx.kept hgr (fun r e => (hrow r e).2), hx2.kept hgr (fun r e => (hrow r e).2)⟩
 case assign =>
  intro l pre y W K hi hK
  have hbl := hi.bl.size
  dsimp only [encI, Ot.v]
  gi_wp2
  exact hK _ _ ((one_keeps _ _ _).trans (one_keeps _ _ _)) ((one_below hbl _).alloc (by simp; omega) _) (hO.alloc _ (hO.alloc _ hi)) ⟨_, _, rfl, blk_alloc (blk_new W _ _ rfl) _, blk_new (g := W.heap.size + 1) _ _ _ (by simp)⟩
 case body =>
  rintro l pre y a' W hl hrec hi ⟨g8, g9, rfl, hx8, hx9⟩ hpre
  have s4 := hi.cell (cr 0 HB.out.1) (by omega)
  have t0 := cr 0 hx8
  have t1 := cr 1 hx8
  have t2 := cr 2 hx8
  have o0 := cr 0 hx9
  have o1 := cr 1 hx9
  have o2 := cr 2 hx9
  have o3 := cr 3 hx9
  have o4 := cr 4 hx9
  have o5 := cr 5 hx9
  have o6 := cr 6 hx9
  have hcall := hp y.1 W y.2 hi.bl
  have hpl : (kpP ws p pre).length ≤ 1000000 := by have := kpP_length ws p pre; have := hW.n2; omega
  cases hq : p y.1
  ·rw [hq] at hcall
   have HC := Lib.hid hcall
   have HY := hd4 hi hx8 hx9 hq
   clear hcall hi hx8 hx9 hq hp hO hseq hrec HI0
   dsimp only [Ot.v] at HC
   gi_wp2
   refine ⟨trivial, ?_⟩
   refine (CallsIn.inRound _ (callsIn_wide.2 HC.out)).mono ?_
   rintro e W1 ⟨rfl, hb⟩
   have HB1 := Lib.hid hb
   clear hb
   gi_wp2
   obtain ⟨hi, -, -, hq⟩ := HY.out
   obtain ⟨h1, h2, h3, h4, h5⟩ := hi.later HB1.out
   have e1 := kpP_no (l := pre) hq
   exact (show KeepsFrom W3.heap.size W _ ∧ Below w.heap.size W _ ∧ KpI w W3 (w.heap.size + 1 + 1) ws p (pre ++ [y]) _ from ⟨keepsFrom_below HB1.out, HB1.out.mono hi.bl.size, by rw [e1]; exact h1, h2, h3, h4, h5⟩)
  ·rw [hq] at hcall
   have HC := Lib.hid hcall
   obtain ⟨A2, c2, hk2, ho2⟩ := hi.a
   have HY := hd6 hi hx8 hx9 hq hk2 ho2
   clear hcall hi hx8 hx9 hq hp hO hseq hrec HI0 hk2 ho2
   dsimp only [Ot.v] at HC
   gi_wp2
   refine ⟨trivial, ?_⟩
   refine (CallsIn.inRound _ (callsIn_wide.2 HC.out)).mono ?_
   rintro e W1 ⟨rfl, hb⟩
   have HD := Lib.hid (show Below W.heap.size W W1.drew from hb.drew)
   clear hb HC s4 t0 t1 t2 o0 o1 o2 o3 o4 o5 o6
   gi_wp2
   refine wpIn_region_R (fun j => j != 5 && j != 6) ?_
   have s5 := cell_below HD.out (HY.out.1.cell (cr 0 HB.out.2) (by omega))
   have s7 := cr 0 (blk_on HY.out.2.2.2.2.1 HD.out)
   have hx9 := blk_on HY.out.2.2.1 HD.out
   generalize W1.drew = X0 at *
   have HU := Lib.hid (id_any (oAt (outs ws) y.1) X0)
   dsimp only [Ot.v] at HU
   refine bT s7 0 rfl ?_
   refine bT s5 1 rfl ?_
   refine bUk (v := .agg #[.int .i64 (oAt (outs ws) y.1).id, .int .i64 (oAt (outs ws) y.1).into, .slice (oAt (outs ws) y.1).P (oAt (outs ws) y.1).ps.length (oAt (outs ws) y.1).c, .int .i64 (oAt (outs ws) y.1).kl, .int .i64 (oAt (outs ws) y.1).kh, .int .i64 (oAt (outs ws) y.1).sl, .int .i64 (oAt (outs ws) y.1).sh]) hx9 2 rfl ?_ (by intro w hB; have a0 := cr 0 hB; have a1 := cr 1 hB; have a2 := cr 2 hB; have a3 := cr 3 hB; have a4 := cr 4 hB; have a5 := cr 5 hB; have a6 := cr 6 hB; go_simp)
   clear s5 s7 hx9
   refine bR 3 rfl fun K hK => ?_
   go_simp
   refine HU.out.mono ?_
   rintro e X1 ⟨rfl, hb⟩
   dsimp only
   refine hK.out _ _ (fun _ => hb) ?_
   have hb1 := HD.out.trans (hb.mono HD.out.size)
   clear hK hb
   refine bR 4 rfl fun K hK => ?_
   go_simp
   refine hK.out _ _ (fun _ => (Below.refl _ _).alloc (Nat.le_refl _) _) ?_
   have hb2 := hb1.trans (((Below.refl _ X1).alloc (Nat.le_refl _) (.cells #[.int .i64 (oAt (outs ws) y.1).id] 3)).mono hb1.size)
   have cn := blk_new X1 (g := X1.heap.size) #[.int .i64 (oAt (outs ws) y.1).id] 3 rfl
   clear hK
   refine bR 5 rfl fun K hK => ?_
   refine wp_append_int (.tmp 17) (.tmp 21) rfl W3.heap.size (.slice A2 (kpP ws p pre).length c2) (kpP ws p pre) (oAt (outs ws) y.1).id rfl (HY.out.2.2.2.2.2.later hb2) hpl X1.heap.size rfl (cr 0 cn) (Nat.le_trans HY.out.1.lt hb2.size) ?_
   intro v' X3 ho hg _
   obtain ⟨A', c', rfl⟩ := ho.slice (n := (kpP ws p pre).length + 1) (by rw [List.length_append]; rfl)
   refine hK.out _ _ (fun h => by cases h) ?_
   clear hK
   have hgo : (w.heap.size + 1 + 1) < W.heap.size ∧ ∀ k, (Value.slice A2 (kpP ws p pre).length c2).ownBlock = some k → k ≠ (w.heap.size + 1 + 1) := ⟨by have := HY.out.1.l4; have := HY.out.1.lt; omega, fun k e => by have := (HY.out.2.2.2.2.2.blkIs e).1; have := HY.out.1.l4; omega⟩
   have hk3 : Blk X3 (w.heap.size + 1 + 1) #[.slice A2 (kpP ws p pre).length c2] 25 := (hg.block _ (Nat.lt_of_lt_of_le hgo.1 hb2.size) (fun e => hgo.2 _ e.symm rfl)).trans ((hb2.block _ hgo.1).trans HY.out.2.2.2.2.1)
   have eb := cr 0 hk3
   have fb := bf 0 hk3
   go_frame
   refine bR 6 rfl fun K hK => ?_
   go_simp
   refine hK.out _ _ (fun h => by cases h) ?_
   clear hK eb fb
   refine bD ?_
   obtain ⟨hi, -, -, hq, hk2, ho2⟩ := HY.out
   have l4 := hi.l4
   have hlt := hi.lt
   have hbl := hi.bl.size
   have hsz := hb2.size
   have e1 := kpP_yes (l := pre) hq
   have e2 : (kpP ws p (pre ++ [y])).length = (kpP ws p pre).length + 1 := by rw [e1, List.length_append]; rfl
   exact (show KeepsFrom W3.heap.size W _ ∧ Below w.heap.size W _ ∧ KpI w W3 (w.heap.size + 1 + 1) ws p (pre ++ [y]) _ from
    ⟨(keepsFrom_below hb2).trans (((KeepsOthers.of_grownBy hg (fun j o e ho' => by
     obtain ⟨_, _, o2, h2, h3⟩ := (ho2.later hb2).blkIs e
     rw [h2] at ho'; cases ho'; exact h3)).trans (KeepsOthers.setCell _ _ _)).from _),
    ((hb2.mono hbl).grown hg (by omega) (fun k e => by have := (ho2.blkIs e).1; omega)).setCell (p := ⟨(w.heap.size + 1 + 1), 0, none⟩) l4.1 _,
    ⟨A', c', by rw [e2]; exact heap_setCell_same _ _ 0 _ _ _ hk3, by rw [e2, e1]; exact ho.blk (fun k e => Below.heap_setCell _ _ _ _ (by have := (ho.blkIs e).1; show k ≠ (w.heap.size + 1 + 1); omega))⟩,
    fun k h1 h2 => (Below.heap_setCell _ _ _ _ (by exact h2)).trans ((hg.block k (by omega) (fun e => by have := (ho2.blkIs e.symm).1; omega)).trans ((hb2.block k (by omega)).trans (hi.md k h1 h2))),
    ((hi.bl.trans (hb2.mono hbl)).grown hg (by omega) (fun k e => by have := (ho2.blkIs e).1; omega)).setCell (p := ⟨(w.heap.size + 1 + 1), 0, none⟩) l4.1 _,
    by rw [World.size_setCell]; exact Nat.le_trans hlt (Nat.le_trans hsz hg.size), l4⟩)
 case done =>
  rintro D ys W hD rfl hi hK
  obtain ⟨A2, c2, hk2, ho2⟩ := hi.a
  rw [kpP_all] at hk2 ho2
  have s0 := cr 0 hk2
  have hbD := belowK_b HI0.out.bl.size W D (.deferred (some [])) (.deferred none) hD hK rfl rfl
  have ho3 : Own (W.putObj D (.deferred none)) W3.heap.size (.slice A2 (kpL ws p).length c2) (kpL ws p) := ho2.blk fun k e => by
   obtain ⟨_, _, o, h1, h2⟩ := ho2.blkIs e
   exact World.putObj_heap_other (fun e' => by rw [e', hK] at h1; cases h1; cases h2)
  obtain ⟨B2, d2, e2, rd2, fr2⟩ := ho3.rd
  simp only [Value.slice.injEq, true_and] at e2
  obtain ⟨rfl, rfl⟩ := e2
  have HE := hd4 rd2 hi.bl hbD hK
  clear hi hk2 ho2 hbD ho3 rd2 fr2
  gi_wp2
  refine ⟨by simp, .inl ⟨_, _, rfl, run_takeDeferred HE.out.2.2.2, ?_⟩⟩
  exact ⟨_, results_tmp rfl _ _ _, A2, c2, rfl, HE.out.1, HE.out.2.1.trans HE.out.2.2.1⟩
theorem kept_any (gf : Nat) (lb : Array Value) (eg : ∀ args w, (callFunc gf args).run Try.prog w = .ok (.enter gf args) w) (p : Nat → Bool) (A : Option Addr) (c gw : Nat) (ws : List Car) (w : World) (hW : Wk w A ws) (c8 : w.cell? ⟨gw, 0, none⟩ = some (.slice A ws.length c))
  (hp : ∀ i W, i < (outs ws).length → Below w.heap.size w W → Calls Try.prog gf (#[.agg #[.int .i64 (i : Int), .int .i64 (caAt ws i : Int), .int .i64 (atAt ws i : Int)], (oAt (outs ws) i).v] ++ lb) W fun e w' => e = .returned (.bool (p i)) ∧ Below W.heap.size W w') :
  Calls Try.prog 117 #[.func (.func 138) #[] #[.pointer (some ⟨gw, 0, none⟩)], .func (.func gf) #[] lb, .func (.func 119) #[] #[]] w fun e w' => ∃ A' c', e = .returned (.slice A' (kpL ws p).length c') ∧ Rd w' w'.heap.size A' (kpL ws p) ∧ Below w.heap.size w w' := callsIn_wide.1 (kept_in gf lb eg p A c gw ws w hW c8 hp)
end Go.Proofs.Ytdadoelajhemjaa
