/- Walks: Spans. -/
import Derived.Test.YtdadoelajhemjaaQ2
import Derived.Test.YtdadoelajhemjaaM12
namespace Go.Proofs.Ytdadoelajhemjaa
open Go.RowKit Go.Shelf
attribute [local go_sem] Oper.semAt_some

/-- A slice of the call's own that holds some spans. -/
def OwnS (w : World) (base : Nat) (v : Value) (l : List Sp) : Prop := w.ownsRow base 40 2 v l.length (cellsS l)
section
variable {w w' : World} {base : Nat} {v : Value} {l : List Sp}
theorem OwnS.nil (w : World) (base : Nat) : OwnS w base (.slice none 0 0) [] := World.ownsRow_nil _ _ _ _
theorem OwnS.blkIs (h : OwnS w base v l) {k : Nat} (e : v.ownBlock = some k) : base ≤ k ∧ k < w.heap.size ∧ ∃ o, w.heap[k]? = some o ∧ o.isCells = true := by
 rcases h.2 with ⟨rfl, hn⟩ | ⟨g, cap, cur, rfl, hb, hg, hnc, _⟩
 ·cases e
 ·cases e; exact ⟨hb, (Array.getElem?_eq_some_iff.1 hg).1, _, hg, rfl⟩
theorem OwnS.slice (h : OwnS w base v l) {n : Nat} (hn : l.length = n) : ∃ A c, v = .slice A n c := by
 subst hn
 rcases h.2 with ⟨rfl, hn⟩ | ⟨g, cap, cur, rfl, _⟩
 ·exact ⟨none, 0, by rw [hn]⟩
 ·exact ⟨_, _, rfl⟩
theorem OwnS.rd (h : OwnS w base v l) : ∃ A c, v = .slice A l.length c ∧ RdS w w.heap.size A l ∧ Fresh base A := by
 have h0 := h
 rcases h.2 with ⟨rfl, hn⟩ | ⟨g, cap, cur, rfl, hb, hg, hnc, hcm, hcs, ht⟩
 ·exact ⟨none, 0, by rw [hn], fun hl => absurd hl (by omega), fun _ e => by cases e⟩
 ·refine ⟨_, _, rfl, fun hl => ⟨g, 0, rfl, (Array.getElem?_eq_some_iff.1 hg).1, fun i hi => ?_⟩, fun ad e => by cases e; exact hb⟩
  have c : ∀ j u, j < 2 → (spCells (sAt l i))[j]? = some u → w.cell? ⟨g, 0 + i * 2 + j, none⟩ = some u := fun j u hj hu => by
   have h1 := World.ownsRow.cells h0 (g := g) rfl (i * 2 + j) u (by rw [cellsS_at l i j hi hj]; exact hu)
   rw [add_eq] at h1
   rw [show 0 + i * 2 + j = 0 + (i * 2 + j) by omega]
   exact h1
  exact ⟨c 0 _ (by omega) rfl, c 1 _ (by omega) rfl⟩
theorem OwnS.blk (h : OwnS w base v l) (hb : ∀ k, v.ownBlock = some k → w'.heap[k]? = w.heap[k]?) : OwnS w' base v l := by
 rcases h.2 with ⟨rfl, hn⟩ | ⟨g, cap, cur, rfl, hb', hg, hr⟩
 ·exact ⟨h.1, .inl ⟨rfl, hn⟩⟩
 ·exact ⟨h.1, .inr ⟨g, cap, cur, rfl, hb', (hb g rfl).trans hg, hr⟩⟩
theorem OwnS.later (h : OwnS w base v l) (hb : Below w.heap.size w w') : OwnS w' base v l := h.blk fun _ e => hb.block _ (h.blkIs e).2.1
theorem OwnS.of_row {n : Nat} {y : Sp} (h : w.ownsRow base 40 2 v n (cellsS l ++ [.int .i64 y.1, .int .i64 y.2])) (hn : n = l.length + 1) : OwnS w base v (l ++ [y]) := by
 subst hn
 unfold OwnS cellsS
 rw [List.flatMap_append, List.length_append]
 exact h
end
/-- Appending one span to a list of the call's own. -/
theorem wp_append_span {op : Oper} {a : Act} {w : World} {K : Act → World → Prop} {Q : Exit → Act → World → Prop} (s x : Operand) (ho : op.op = .call { callee := .builtin .append, args := #[s, x], argTypes := #[49, 49] })
  (base : Nat) (v : Value) (xs : List Sp) (y : Sp) (hs : a.eval s = v) (hown : OwnS w base v xs) (hn : xs.length ≤ 1000000)
  (g : Nat) (hx : a.eval x = .slice (some ⟨g, 0, none⟩) 1 1) (hc : w.cell? ⟨g, 0, none⟩ = some (.int .i64 y.1)) (hc' : w.cell? ⟨g, 1, none⟩ = some (.int .i64 y.2)) (hbase : base ≤ w.heap.size)
  (h : ∀ v' w', OwnS w' base v' (xs ++ [y]) → w.grownBy w' v.ownBlock → K (a.put op.dst v') w') : op.wp Try.prog a w K Q := by
 obtain ⟨i0, hi, hz0, hz1, hz2⟩ := info_parts info40
 refine wp_append_ownB (P := Try.prog) s x 49 ho base 40 i0 (.agg #[.int .i64 0, .int .i64 0]) 2 16 Try.underlying49 hi hz0 hz1 hz2 rfl (by decide) v xs.length (cellsS xs) hs hown ⟨g, 0, none⟩ 1 1 [.int .i64 y.1, .int .i64 y.2] hx (by simp) (fun j u hj => ?_) (by simp [Value.oneCell']) (by unfold maxLen; omega) (by omega) hbase (fun v' w' h1 h2 _ => h v' w' (OwnS.of_row h1 rfl) h2)
 match j, hj with
 | 0, hj => cases hj; exact hc
 | 1, hj => cases hj; rw [add_eq]; exact hc'
/-- The ends of the flow of some outlets. -/
def spnL (ws : List Car) (cs : Cs) (l : List (Fin (outs ws).length)) : List Sp := l.map fun i => endsF ws cs i.1
def spnTo (ws : List Car) (cs : Cs) (k : Nat) : List Sp := (List.range k).map (endsF ws cs)
theorem spnL_all (ws : List Car) (cs : Cs) : spnL ws cs (List.finRange (outs ws).length) = spnTo ws cs (outs ws).length := finRange_map _
theorem spnL_length (ws : List Car) (cs : Cs) (l : List (Fin (outs ws).length)) : (spnL ws cs l).length = l.length := by simp [spnL]
theorem spnTo_length (ws : List Car) (cs : Cs) (k : Nat) : (spnTo ws cs k).length = k := by simp [spnTo]
/-- What Spans returns: a list, by the error. -/
def spnE (ws : List Car) (cs : Cs) : List Sp := if ccE ws cs = 0 then spnTo ws cs (outs ws).length else []
/-- What the loop of Spans keeps. -/
structure SpI (w W2 : World) (go : Nat) (ws : List Car) (cs : Cs) (pre : List (Fin (outs ws).length)) (W : World) : Prop where
 a : ∃ A2 c2, Blk W go #[.slice A2 pre.length c2] 49 ∧ OwnS W W2.heap.size (.slice A2 pre.length c2) (spnL ws cs pre)
 md : ∀ k, k < W2.heap.size → k ≠ go → W.heap[k]? = W2.heap[k]?
 bl : Below w.heap.size w W
 lt : W2.heap.size ≤ W.heap.size
 l4 : w.heap.size ≤ go ∧ go < W2.heap.size
theorem SpI.kept {w W2 : World} {go : Nat} {ws : List Car} {cs : Cs} {pre : List (Fin (outs ws).length)} {W W' : World} {row : Option Nat} (h : SpI w W2 go ws cs pre W) (hg : W.grownBy W' row) (hr : ∀ r, row = some r → W2.heap.size ≤ r ∧ ∃ o : Obj, W.heap[r]? = some o ∧ o.isCells = false) : SpI w W2 go ws cs pre W' := by
 obtain ⟨A2, c2, h1, h2⟩ := h.a
 have hr2 := fun r e => (hr r e).2
 have l4 := h.l4
 have hlt := h.lt
 exact ⟨⟨A2, c2, h1.kept hg hr2, h2.blk fun k e => by
  obtain ⟨_, hk, o, ho, hc⟩ := h2.blkIs e
  exact hg.block k hk (fun e2 => by obtain ⟨_, o', ho', hc'⟩ := hr k e2.symm; rw [ho] at ho'; cases ho'; rw [hc] at hc'; cases hc')⟩, fun k hk hk2 => (hg.block k (by omega) (fun e => by have := (hr k e.symm).1; omega)).trans (h.md k hk hk2),
  h.bl.grown hg h.bl.size (fun k e => by have := (hr k e).1; omega), Nat.le_trans h.lt hg.size, h.l4⟩
theorem SpI.cell {w W2 : World} {go : Nat} {ws : List Car} {cs : Cs} {pre : List (Fin (outs ws).length)} {W : World} (h : SpI w W2 go ws cs pre W) {g i : Nat} {u : Value} (hc : W2.cell? ⟨g, i, none⟩ = some u) (hn : g ≠ go) : W.cell? ⟨g, i, none⟩ = some u := (cell_of_heap (h.md g (lt_of_cell' hc) hn)).trans hc

set_option maxRecDepth 100000 in
set_option maxHeartbeats 2000000 in
theorem Spans_in (A : Option Addr) (c : Nat) (ws : List Car) (cs : Cs) (w : World) (hW : Wk w A ws) (hcs : Csd w cs) :
  CallsIn Fence.wide 3 Try.prog 56 #[.agg #[.slice A ws.length c], cs.v] w fun e w' => ∃ A' c', e = .returned (.tuple #[.slice A' (spnE ws cs).length c', .int .i64 (ccE ws cs)]) ∧ RdS w' w'.heap.size A' (spnE ws cs) ∧ Below w.heap.size w w' := by
 obtain ⟨A0, A1, c0, c1, ri, bo⟩ := cs
 have h := hW.rd
 have hm : ws.length ≤ maxLen := by have := hW.n1; unfold maxLen; omega
 have hN : (outs ws).length ≤ 1000000000 := by have := hW.n2; omega
 have hb1 : Below w.heap.size w ((w.alloc (.cells #[.slice A ws.length c] 24)).alloc (.cells #[.slice A0 ri.length c0, .slice A1 bo.length c1] 51)) := ((Below.refl _ w).alloc (Nat.le_refl _) _).alloc (by simp) _
 have K := Lib.hid ((((stays_bl hb1).and (stays_blk (blk_alloc (blk_new w #[.slice A ws.length c] 24 rfl) _))).and (stays_blk (g := w.heap.size + 1) (blk_new (w.alloc (.cells #[.slice A ws.length c] 24)) #[.slice A0 ri.length c0, .slice A1 bo.length c1] 51 (by simp)))).and ((stays_wk (hW.ext hb1)).and (stays_csd (hcs.ext hb1))))
 have HS := Lib.hid (show ((w.alloc (.cells #[.slice A ws.length c] 24)).alloc (.cells #[.slice A0 ri.length c0, .slice A1 bo.length c1] 51)).heap.size = w.heap.size + 2 by simp)
 dsimp only [Cs.v]
 have hch := CheckCase_any A c ws ⟨A0, A1, c0, c1, ri, bo⟩ ((w.alloc (.cells #[.slice A ws.length c] 24)).alloc (.cells #[.slice A0 ri.length c0, .slice A1 bo.length c1] 51)) K.out.1.2.1 K.out.1.2.2
 by_cases h0 : ccE ws ⟨A0, A1, c0, c1, ri, bo⟩ = 0
 rotate_left
 ·have hE : spnE ws ⟨A0, A1, c0, c1, ri, bo⟩ = [] := if_neg h0
  rw [hE]
  generalize ccE ws ⟨A0, A1, c0, c1, ri, bo⟩ = E at *
  have HCC := Lib.hid hch
  have hz : (E != 0) = true := by simpa using h0
  clear hch h0 hE hb1
  refine callsIn_of_wp_marks Try.func56 rfl trivial ?_ rfl
  simp only [Try.ntmps56, List.size_toArray, List.length_cons, List.length_nil, Nat.reduceAdd, Nat.reduceSub, Array.replicate_succ, Array.replicate_zero, List.push_toArray, List.append_toArray, List.nil_append, List.cons_append]
  gi_wp2
  refine ⟨trivial, ?_⟩
  generalize ((w.alloc (.cells #[.slice A ws.length c] 24)).alloc (.cells #[.slice A0 ri.length c0, .slice A1 bo.length c1] 51)) = W1 at *
  refine (callsIn_wide.2 HCC.out).mono ?_
  rintro e w2 ⟨rfl, hbc⟩
  have K2 := Lib.hid (K.out.on hbc)
  have hs2 := hbc.size
  gi_wp2
  exact ⟨.tuple #[.slice none 0 0, .int .i64 E], by simp [results, Try.results56, go_sem], none, 0, rfl, fun hn => absurd hn (by simp), K2.out.1.1.1.1⟩
 ·obtain ⟨g, k⟩ := cc_good h0
  have hE : spnE ws ⟨A0, A1, c0, c1, ri, bo⟩ = spnTo ws ⟨A0, A1, c0, c1, ri, bo⟩ (outs ws).length := if_pos h0
  rw [h0] at hch
  rw [hE, h0, spnTo_length]
  have HCC := Lib.hid hch
  clear hch h0 hE hb1
  refine callsIn_of_wp_marks Try.func56 rfl trivial ?_ rfl
  simp only [Try.ntmps56, List.size_toArray, List.length_cons, List.length_nil, Nat.reduceAdd, Nat.reduceSub, Array.replicate_succ, Array.replicate_zero, List.push_toArray, List.append_toArray, List.nil_append, List.cons_append]
  gi_wp2
  refine ⟨trivial, ?_⟩
  generalize ((w.alloc (.cells #[.slice A ws.length c] 24)).alloc (.cells #[.slice A0 ri.length c0, .slice A1 bo.length c1] 51)) = W1 at *
  refine (callsIn_wide.2 HCC.out).mono ?_
  rintro e w2 ⟨rfl, hbc⟩
  have K2 := Lib.hid (K.out.on hbc)
  have hs2 := hbc.size
  have p0 := cell_alloc (cr 0 K2.out.1.1.1.2) (.cells #[.slice none 0 0] 49)
  gi_wp2
  refine ⟨trivial, ?_⟩
  refine (callsIn_wide.2 (outlets_any A c ws.length _)).mono ?_
  rintro e w' ⟨rfl, rfl⟩
  gi_wp2
  have hb4 : Below w2.heap.size w2 ((w2.alloc (.cells #[.slice none 0 0] 49)).alloc (.cells #[.slice A ws.length c] 24)) := ((Below.refl _ w2).alloc (Nat.le_refl _) _).alloc (by simp) _
  have K4 := Lib.hid (K2.out.on hb4)
  have HI0 : Hid (SpI w ((w2.alloc (.cells #[.slice none 0 0] 49)).alloc (.cells #[.slice A ws.length c] 24)) w2.heap.size ws ⟨A0, A1, c0, c1, ri, bo⟩ [] ((w2.alloc (.cells #[.slice none 0 0] 49)).alloc (.cells #[.slice A ws.length c] 24))) := Lib.hid ⟨⟨none, 0, blk_alloc (blk_new _ _ _ rfl) _, OwnS.nil _ _⟩, fun _ _ _ => rfl, K4.out.1.1.1.1, Nat.le_refl _, K2.out.1.1.1.1.size, by simp; omega⟩
  have c8 : ((w2.alloc (.cells #[.slice none 0 0] 49)).alloc (.cells #[.slice A ws.length c] 24)).cell? ⟨(w2.heap.size + 1), 0, none⟩ = some (.slice A ws.length c) := cell_row (blk_new (w2.alloc (.cells #[.slice none 0 0] 49)) (g := (w2.heap.size + 1)) _ _ (by simp))
  have hsz4 : ((w2.alloc (.cells #[.slice none 0 0] 49)).alloc (.cells #[.slice A ws.length c] 24)).heap.size = w2.heap.size + 2 := by simp
  clear p0
  generalize hgW : ((w2.alloc (.cells #[.slice none 0 0] 49)).alloc (.cells #[.slice A ws.length c] 24)) = W4 at *
  clear hgW hb4
  have hw2 := K2.out.1.1.1.1.size
  have hseq := outlets_stops 2 (by omega) w.heap.size (w2.heap.size + 1) A c ws W4 K4.out.1.1.1.1.size c8 (by omega) (h.below K4.out.1.1.1.1 (Nat.le_refl _)) hm hN
  have hO : OwnFrom W4.heap.size (fun pre W => SpI w W4 w2.heap.size ws ⟨A0, A1, c0, c1, ri, bo⟩ pre W) := fun pre W W' row hi hgr hrow => hi.kept hgr (fun r e => ⟨(hrow r e).1, (hrow r e).2⟩)
  refine wpIn_rangeFunc_ownH rfl (by omega) (gf := 138) (lb := #[.pointer (some ⟨(w2.heap.size + 1), 0, none⟩)]) rfl trivial eg_outlets hseq belowK_t (belowK_b HI0.out.bl.size) (Below.refl _ W4) (fun _ => rfl)
   (fun pre W => SpI w W4 w2.heap.size ws ⟨A0, A1, c0, c1, ri, bo⟩ pre W) (fun _ _ _ => False) hO (fun _ _ _ _ _ hs _ _ => hs) HI0.out
   (fun y a' W => ∃ g8, a' = { tmps := #[.agg #[.slice A ws.length c], .agg #[.slice A0 ri.length c0, .slice A1 bo.length c1], .pointer (some ⟨w.heap.size, 0, none⟩), .pointer (some ⟨w.heap.size + 1, 0, none⟩), .slice none 0 0, .int .i64 0, .int .i64 0, .pointer (some ⟨w2.heap.size, 0, none⟩), .pointer (some ⟨g8, 0, none⟩), .agg #[.slice A ws.length c], .agg #[.slice A0 ri.length c0, .slice A1 bo.length c1], .int .i64 0, .int .i64 0, .bool false, undef, .agg #[.slice A ws.length c], .func (.func 138) #[] #[.pointer (some ⟨(w2.heap.size + 1), 0, none⟩)], .agg #[.int .i64 (y.1 : Int), .int .i64 (caAt ws y.1 : Int), .int .i64 (atAt ws y.1 : Int)], (oAt (outs ws) y.1).v, undef, undef, undef, undef, undef, undef, undef, undef, undef], defers := [] } ∧ Blk W g8 #[.int .i64 (y.1 : Int), .int .i64 (caAt ws y.1 : Int), .int .i64 (atAt ws y.1 : Int)] 131)
   ?ownA ?assign ?body ?done (fun _ _ _ _ _ _ h _ => h.elim)
  case ownA =>
   rintro y a' _ W W' row ⟨g8, e, hx⟩ hgr hrow
   exact ⟨g8, e, hx.kept hgr (fun r e => (hrow r e).2)⟩
  case assign =>
   intro l pre y W K hi hK
   have hbl := hi.bl.size
   dsimp only [encI, Ot.v]
   gi_wp2
   exact hK _ _ (one_keeps _ _ _) (one_below hbl _) (hO.alloc _ hi) ⟨_, rfl, blk_new W _ _ rfl⟩
  case body =>
   rintro l pre y a' W hl hrec hi ⟨g8, rfl, hx8⟩ hpre
   obtain ⟨A2, c2, hk2, ho2⟩ := hi.a
   have hne : w.heap.size < w2.heap.size ∧ w.heap.size + 1 < w2.heap.size := by have := HS.out; omega
   have hd : Below W.heap.size W W.drew := (Below.refl _ W).drew
   have s0 := cr 0 (blk_on hk2 hd)
   have s1 := cell_below hd (hi.cell (cr 0 K4.out.1.1.1.2) (by omega))
   have s2 := cell_below hd (hi.cell (cr 0 K4.out.1.1.2) (by omega))
   have s3 := cell_below hd (hi.cell (cr 1 K4.out.1.1.2) (by omega))
   have t0 := cr 0 (blk_on hx8 hd)
   have t1 := cr 1 (blk_on hx8 hd)
   have t2 := cr 2 (blk_on hx8 hd)
   have hU := supply_any A c ws ⟨A0, A1, c0, c1, ri, bo⟩ y.1 y.2 W.drew ((hW.ext hi.bl).ext hd) g ((hcs.ext hi.bl).ext hd) k
   obtain ⟨lo, hi', hlh⟩ : ∃ lo hi : Int, endsF ws ⟨A0, A1, c0, c1, ri, bo⟩ y.1 = (lo, hi) := ⟨_, _, rfl⟩
   rw [hlh] at hU
   unfold pl plV at hU
   dsimp only at hU
   have HU := Lib.hid hU
   have HY := hd6 hi hk2 ho2 hd hlh hne
   have hfs := field_sup
   have hpl : pre.length ≤ 1000000 := by have := hW.n2; omega
   clear hi hk2 ho2 hd hlh hne hU hx8 hO hseq hrec HI0
   gi_wp2
   refine wpIn_region_R (fun j => j != 7 && j != 8) ?_
   generalize W.drew = X0 at *
   refine bT s0 0 rfl ?_
   refine bT s1 1 rfl ?_
   refine bP s2 s3 2 rfl ?_
   refine bV t0 t1 t2 3 rfl ?_
   clear s0 s1 s2 s3 t0 t1 t2
   refine bR 4 rfl fun K hK => ?_
   go_simp
   refine HU.out.mono ?_
   rintro e X1 ⟨s, s', rfl, -, -, -, -, -, -, hb⟩
   dsimp only
   refine hK.out _ _ (fun _ => hb) ?_
   have hb1 := HY.out.2.2.2.1.trans (hb.mono HY.out.2.2.2.1.size)
   clear hK hb
   refine bF 5 rfl ?_
   refine bR 6 rfl fun K hK => ?_
   clear hfs
   go_simp
   refine hK.out _ _ (fun _ => (Below.refl _ _).alloc (Nat.le_refl _) _) ?_
   have hb2 := hb1.trans (((Below.refl _ X1).alloc (Nat.le_refl _) (.cells #[.int .i64 lo, .int .i64 hi'] 40)).mono hb1.size)
   have cn := blk_new X1 (g := X1.heap.size) #[.int .i64 lo, .int .i64 hi'] 40 rfl
   clear hK
   refine bR 7 rfl fun K hK => ?_
   refine wp_append_span (.tmp 19) (.tmp 25) rfl W4.heap.size (.slice A2 pre.length c2) (spnL ws ⟨A0, A1, c0, c1, ri, bo⟩ pre) (lo, hi') rfl (HY.out.2.2.1.later hb2) (by rw [spnL_length]; exact hpl) X1.heap.size rfl (cr 0 cn) (cr 1 cn) (Nat.le_trans HY.out.1.lt hb2.size) ?_
   intro v' X3 ho hg
   obtain ⟨A', c', rfl⟩ := ho.slice (n := pre.length + 1) (by rw [List.length_append, spnL_length]; rfl)
   refine hK.out _ _ (fun h => by cases h) ?_
   clear hK
   have hgo : w2.heap.size < W.heap.size ∧ ∀ k, (Value.slice A2 pre.length c2).ownBlock = some k → k ≠ w2.heap.size := ⟨by have := HY.out.1.l4; have := HY.out.1.lt; omega, fun k e => by have := (HY.out.2.2.1.blkIs e).1; have := HY.out.1.l4; omega⟩
   have hk3 : Blk X3 w2.heap.size #[.slice A2 pre.length c2] 49 := (hg.block _ (Nat.lt_of_lt_of_le hgo.1 hb2.size) (fun e => hgo.2 _ e.symm rfl)).trans ((hb2.block _ hgo.1).trans HY.out.2.1)
   have eb := cr 0 hk3
   have fb := bf 0 hk3
   go_frame
   refine bR 8 rfl fun K hK => ?_
   go_simp
   refine hK.out _ _ (fun h => by cases h) ?_
   clear hK eb fb
   refine bD ?_
   obtain ⟨hi, hk2, ho2, hd, hlh, hne⟩ := HY.out
   have l4 := hi.l4
   have hlt := hi.lt
   have hbl := hi.bl.size
   have hsz := hb2.size
   have e1 : spnL ws ⟨A0, A1, c0, c1, ri, bo⟩ (pre ++ [y]) = spnL ws ⟨A0, A1, c0, c1, ri, bo⟩ pre ++ [(lo, hi')] := by unfold spnL; rw [List.map_append, ← hlh]; rfl
   have e2 : (pre ++ [y]).length = pre.length + 1 := by simp
   exact (show KeepsFrom W4.heap.size W _ ∧ Below w.heap.size W _ ∧ SpI w W4 w2.heap.size ws ⟨A0, A1, c0, c1, ri, bo⟩ (pre ++ [y]) _ from
    ⟨(keepsFrom_below hb2).trans (((KeepsOthers.of_grownBy hg (fun j o e ho' => by
     obtain ⟨_, _, o2, h2, h3⟩ := (ho2.later hb2).blkIs e
     rw [h2] at ho'; cases ho'; exact h3)).trans (KeepsOthers.setCell _ _ _)).from _),
    ((hb2.mono hbl).grown hg (by omega) (fun k e => by have := (ho2.blkIs e).1; omega)).setCell (p := ⟨w2.heap.size, 0, none⟩) l4.1 _,
    ⟨A', c', by rw [e2]; exact heap_setCell_same _ _ 0 _ _ _ hk3, by rw [e1, e2]; exact ho.blk (fun k e => Below.heap_setCell _ _ _ _ (by have := (ho.blkIs e).1; show k ≠ w2.heap.size; omega))⟩,
    fun k h1 h2 => (Below.heap_setCell _ _ _ _ (by exact h2)).trans ((hg.block k (by omega) (fun e => by have := (ho2.blkIs e.symm).1; omega)).trans ((hb2.block k (by omega)).trans (hi.md k h1 h2))),
    ((hi.bl.trans (hb2.mono hbl)).grown hg (by omega) (fun k e => by have := (ho2.blkIs e).1; omega)).setCell (p := ⟨w2.heap.size, 0, none⟩) l4.1 _,
    by rw [World.size_setCell]; exact Nat.le_trans hlt (Nat.le_trans hsz hg.size), l4⟩)
  case done =>
   rintro D ys W hD rfl hi hK
   obtain ⟨A2, c2, hk2, ho2⟩ := hi.a
   have hlf : (List.finRange (outs ws).length).length = (outs ws).length := List.length_finRange
   rw [hlf] at hk2 ho2
   rw [spnL_all] at ho2
   have s0 := cr 0 hk2
   have hbD := belowK_b HI0.out.bl.size W D (.deferred (some [])) (.deferred none) hD hK rfl rfl
   have ho3 : OwnS (W.putObj D (.deferred none)) W4.heap.size (.slice A2 (outs ws).length c2) (spnTo ws ⟨A0, A1, c0, c1, ri, bo⟩ (outs ws).length) := ho2.blk fun k e => by
    obtain ⟨_, _, o, h1, h2⟩ := ho2.blkIs e
    exact World.putObj_heap_other (fun e' => by rw [e', hK] at h1; cases h1; cases h2)
   obtain ⟨B2, d2, e2, rd2, fr2⟩ := ho3.rd
   rw [spnTo_length] at e2
   simp only [Value.slice.injEq, true_and] at e2
   obtain ⟨rfl, rfl⟩ := e2
   have HE := hd4 rd2 hi.bl hbD hK
   clear hi hk2 ho2 hbD ho3 rd2 fr2
   gi_wp2
   refine ⟨by simp, .inl ⟨_, _, rfl, run_takeDeferred HE.out.2.2.2, ?_⟩⟩
   exact ⟨.tuple #[.slice A2 (outs ws).length c2, .int .i64 0], by simp [results, Try.results56, go_sem], A2, c2, rfl, HE.out.1, HE.out.2.1.trans HE.out.2.2.1⟩
theorem Spans_any (A : Option Addr) (c : Nat) (ws : List Car) (cs : Cs) (w : World) (hW : Wk w A ws) (hcs : Csd w cs) :
  Calls Try.prog 56 #[.agg #[.slice A ws.length c], cs.v] w fun e w' => ∃ A' c', e = .returned (.tuple #[.slice A' (spnE ws cs).length c', .int .i64 (ccE ws cs)]) ∧ RdS w' w'.heap.size A' (spnE ws cs) ∧ Below w.heap.size w w' := callsIn_wide.1 (Spans_in A c ws cs w hW hcs)
end Go.Proofs.Ytdadoelajhemjaa
