/- Walks: slices.Clone of any ints, outlet. | Walks: Flow, Tails, Lost. Printed by flowgen.py. | Plain: a region that draws its order and calls no function, inside any fence: by the rules of the wide calculus. No program here. | Walks: slices.Reverse of places. | Words: the way up from an outlet; lists of places. | Walks: path. | Words: signs. -/
import Derived.Test.YtegmniphgahblaaGreatM4
import Derived.Test.YtegmniphgahblaaGreatM2
import Derived.Deep.RegionHeld3
namespace Go.Proofs.YtegmniphgahblaaGreat
open Go.RowKit
set_option maxHeartbeats 400000 in
theorem clone_gen (A : Option Addr) (c : Nat) (xs : List Int) (w : World) (h : Rd w w.heap.size A xs) (hm : xs.length ≤ 1000) :
  Calls Tryz.prog 42 #[.slice A xs.length c] w fun e w' => RSlice w xs e w' := by
 have q25 : ∀ (w : World) (a : Option Addr) (n c n' c' : Nat), (binOp .eql 28 (.slice a n c) (.slice none n' c')).run Tryz.prog w = .ok (.bool a.isNone) w := fun w a n c n' c' => Lib.run_eql_slice_nil w _ _ a n c n' c' Tryz.underlying28
 obtain ⟨i0, hi, hz0, hz1, hz2⟩ := info_parts info3
 cases A with
 | none =>
  obtain rfl : xs = [] := by
   rcases xs with _ | ⟨x, r⟩
   ·rfl
   ·obtain ⟨b, o, e, _⟩ := h (by simp); cases e
  go_enter Tryz.func42, Tryz.ntmps42
  go_wp2
  go_ret
  exact ⟨_, _, rfl, Rd.nil, (fun _ e => by cases e), Below.refl _ _⟩
 | some ad =>
  go_enter Tryz.func42, Tryz.ntmps42
  go_wp2_with (at_builtin; refine wpList_append_own_at _ rfl _ _ 28 rfl (w.heap.size) 3 i0 (.int .i64 0) 1 8 Tryz.underlying28 hi hz0 hz1 hz2 rfl (by decide) _ 0 [] rfl ?c1 ad xs.length c (xs.map (Value.int .i64)) rfl (by simp) ?c2 ?c3 ?c4 ?c5 ?c6 ?_)
  case c1 => exact World.ownsRow_made w #[] 0 (Nat.le_refl _) (by simp) rfl
  case c2 =>
   intro j u hj
   obtain ⟨hl, rfl⟩ := map_nth hj
   obtain ⟨b', off', e, hlb, hc⟩ := h (by omega)
   cases e
   rw [add_eq, World.cell?_alloc_past _ _ _ hlb]
   exact hc j hl
  case c3 => exact ints_oneCell _ _
  case c4 => unfold maxLen; omega
  case c5 => omega
  case c6 => simp
  intro v' w' hown hgrow _ _
  have hO : Own w' w.heap.size v' xs := hown
  obtain ⟨A, c', rfl, hrd, hfr⟩ := hO.rd
  have hb : Below w.heap.size w w' := (((Below.refl _ w).alloc (Nat.le_refl _) _).grown hgrow (by simp) (by intro k hk; simp [Value.ownBlock] at hk; omega))
  clear hown hgrow
  go_wp2
  go_ret
  exact ⟨A, c', rfl, hrd, hfr, hb⟩

/-- The slice of an outlet list in its carrier. -/
theorem RdW.outAt {w : World} {B : Nat} {A : Option Addr} {ws : List Car} (h : RdW w B A ws) {x : Nat} (hx : x < (outs ws).length) :
  ∃ b off b2 off2, A = some ⟨b, off, none⟩ ∧ b < B ∧ b2 < B ∧ (cAt ws (caAt ws x)).A = some ⟨b2, off2, none⟩ ∧ w.cell? ⟨b, off + caAt ws x, none⟩ = some (.slice (some ⟨b2, off2, none⟩) (cAt ws (caAt ws x)).os.length (cAt ws (caAt ws x)).c) ∧ OtAt w B b2 (off2 + atAt ws x * 7) (oAt (outs ws) x) := by
 have hc := caAt_lt hx
 have ha := atAt_lt hx
 obtain ⟨b, off, e, hl, hcs⟩ := h (by omega)
 obtain ⟨b2, off2, e2, hl2, hcs2⟩ := (hcs _ hc).2 (by omega)
 refine ⟨b, off, b2, off2, e, hl, hl2, e2, by rw [← e2]; exact (hcs _ hc).1, ?_⟩
 rw [oAt_place hx]
 exact hcs2 _ ha

theorem Blk.drew {W : World} {g : Nat} {cs : Array Value} {ty : TypeId} (h : Blk W g cs ty) : Blk W.drew g cs ty := h

set_option maxRecDepth 100000 in
set_option maxHeartbeats 400000 in
theorem outlet_in (A : Option Addr) (c : Nat) (ws : List Car) (x : Nat) (hx : x < (outs ws).length) (w : World) (hW : Wk w A ws) :
  CallsIn Fence.wide 3 Tryz.prog 54 #[.agg #[.slice A ws.length c], plV (pl ws x)] w fun e w' => e = .returned (oAt (outs ws) x).v ∧ Below w.heap.size w w' := by
 obtain ⟨b, off, b2, off2, rfl, hl, hl2, e2, k0, ho⟩ := hW.rd.outAt hx
 have hca := caAt_lt hx
 have hat := atAt_lt hx
 have l1 := hW.n1
 have l2 := hW.n2
 have hm := place_eq hx
 have hat2 : atAt ws x ≤ 1000 := by omega
 clear hm
 unfold pl
 rw [plV_eq]
 dsimp only
 refine callsIn_of_wp_marks Tryz.func54 rfl trivial ?_ rfl
 simp only [Tryz.ntmps54, List.size_toArray, List.length_cons, List.length_nil, Nat.reduceAdd, Nat.reduceSub, Array.replicate_succ, Array.replicate_zero, List.push_toArray, List.append_toArray, List.nil_append, List.cons_append]
 have i1 : (caAt ws x : Int) < (ws.length : Int) := by omega
 have i2 : (atAt ws x : Int) < ((cAt ws (caAt ws x)).os.length : Int) := by omega
 have hb1 : Below w.heap.size w (((w.alloc (.cells #[.slice (some ⟨b, off, none⟩) ws.length c] 24)).alloc (.cells #[.int .i64 (x : Int), .int .i64 (caAt ws x : Int), .int .i64 (atAt ws x : Int)] 103)).alloc (.cells #[.int .i64 0, .int .i64 0, .slice none 0 0, .int .i64 0, .int .i64 0, .int .i64 0, .int .i64 0] 69)) :=
  (((Below.refl _ w).alloc (Nat.le_refl _) _).alloc (by simp) _).alloc (by simp; omega) _
 have q0 : (((w.alloc (.cells #[.slice (some ⟨b, off, none⟩) ws.length c] 24)).alloc (.cells #[.int .i64 (x : Int), .int .i64 (caAt ws x : Int), .int .i64 (atAt ws x : Int)] 103)).alloc (.cells #[.int .i64 0, .int .i64 0, .slice none 0 0, .int .i64 0, .int .i64 0, .int .i64 0, .int .i64 0] 69)).cell? ⟨w.heap.size, 0, none⟩ = some (.slice (some ⟨b, off, none⟩) ws.length c) := by simp [go_sem]
 have q1 : (((w.alloc (.cells #[.slice (some ⟨b, off, none⟩) ws.length c] 24)).alloc (.cells #[.int .i64 (x : Int), .int .i64 (caAt ws x : Int), .int .i64 (atAt ws x : Int)] 103)).alloc (.cells #[.int .i64 0, .int .i64 0, .slice none 0 0, .int .i64 0, .int .i64 0, .int .i64 0, .int .i64 0] 69)).cell? ⟨w.heap.size + 1, 1, none⟩ = some (.int .i64 (caAt ws x : Int)) := by simp [go_sem]
 have q2 : (((w.alloc (.cells #[.slice (some ⟨b, off, none⟩) ws.length c] 24)).alloc (.cells #[.int .i64 (x : Int), .int .i64 (caAt ws x : Int), .int .i64 (atAt ws x : Int)] 103)).alloc (.cells #[.int .i64 0, .int .i64 0, .slice none 0 0, .int .i64 0, .int .i64 0, .int .i64 0, .int .i64 0] 69)).cell? ⟨w.heap.size + 1, 2, none⟩ = some (.int .i64 (atAt ws x : Int)) := by simp [go_sem]
 have hG : Blk (((w.alloc (.cells #[.slice (some ⟨b, off, none⟩) ws.length c] 24)).alloc (.cells #[.int .i64 (x : Int), .int .i64 (caAt ws x : Int), .int .i64 (atAt ws x : Int)] 103)).alloc (.cells #[.int .i64 0, .int .i64 0, .slice none 0 0, .int .i64 0, .int .i64 0, .int .i64 0, .int .i64 0] 69)) (w.heap.size + 1 + 1) #[.int .i64 0, .int .i64 0, .slice none 0 0, .int .i64 0, .int .i64 0, .int .i64 0, .int .i64 0] 69 := blk_new _ _ _ (by simp)
 have k1 := (hb1.cell (p := ⟨b, off + caAt ws x, none⟩) hl).trans k0
 obtain ⟨o0, o1, o2, o3, o4, o5, o6, _⟩ := ho.below hb1 (Nat.le_refl _) hl2
 gi_wp2
 generalize hgW : (((w.alloc (.cells #[.slice (some ⟨b, off, none⟩) ws.length c] 24)).alloc (.cells #[.int .i64 (x : Int), .int .i64 (caAt ws x : Int), .int .i64 (atAt ws x : Int)] 103)).alloc (.cells #[.int .i64 0, .int .i64 0, .slice none 0 0, .int .i64 0, .int .i64 0, .int .i64 0, .int .i64 0] 69)) = W3 at *
 clear hgW k0 ho
 have g0 : W3.cell? ⟨w.heap.size + 1 + 1, 0, none⟩ = _ := cell_row hG
 have f0 := bf 0 hG
 have g1 : W3.cell? ⟨w.heap.size + 1 + 1, 1, none⟩ = _ := cell_row hG
 have f1 := bf 1 hG
 have g2 : W3.cell? ⟨w.heap.size + 1 + 1, 2, none⟩ = _ := cell_row hG
 have f2 := bf 2 hG
 have g3 : W3.cell? ⟨w.heap.size + 1 + 1, 3, none⟩ = _ := cell_row hG
 have f3 := bf 3 hG
 have g4 : W3.cell? ⟨w.heap.size + 1 + 1, 4, none⟩ = _ := cell_row hG
 have f4 := bf 4 hG
 have g5 : W3.cell? ⟨w.heap.size + 1 + 1, 5, none⟩ = _ := cell_row hG
 have f5 := bf 5 hG
 have g6 : W3.cell? ⟨w.heap.size + 1 + 1, 6, none⟩ = _ := cell_row hG
 have f6 := bf 6 hG
 have hO0 : OnlyB (w.heap.size + 1 + 1) W3 W3 := ⟨rfl, fun _ _ => rfl, Below.refl _ W3⟩
 have hO : OnlyB (w.heap.size + 1 + 1) W3 (((((((W3.setCell ⟨w.heap.size + 1 + 1, 0, none⟩ (.int .i64 (oAt (outs ws) x).id)).setCell ⟨w.heap.size + 1 + 1, 1, none⟩ (.int .i64 (oAt (outs ws) x).into)).setCell ⟨w.heap.size + 1 + 1, 2, none⟩ (.slice (oAt (outs ws) x).P (oAt (outs ws) x).ps.length (oAt (outs ws) x).c)).setCell ⟨w.heap.size + 1 + 1, 3, none⟩ (.int .i64 (oAt (outs ws) x).kl)).setCell ⟨w.heap.size + 1 + 1, 4, none⟩ (.int .i64 (oAt (outs ws) x).kh)).setCell ⟨w.heap.size + 1 + 1, 5, none⟩ (.int .i64 (oAt (outs ws) x).sl)).setCell ⟨w.heap.size + 1 + 1, 6, none⟩ (.int .i64 (oAt (outs ws) x).sh)) := ((((((hO0.set _).set _).set _).set _).set _).set _).set _
 have hB4 : Below w.heap.size w (((((((W3.setCell ⟨w.heap.size + 1 + 1, 0, none⟩ (.int .i64 (oAt (outs ws) x).id)).setCell ⟨w.heap.size + 1 + 1, 1, none⟩ (.int .i64 (oAt (outs ws) x).into)).setCell ⟨w.heap.size + 1 + 1, 2, none⟩ (.slice (oAt (outs ws) x).P (oAt (outs ws) x).ps.length (oAt (outs ws) x).c)).setCell ⟨w.heap.size + 1 + 1, 3, none⟩ (.int .i64 (oAt (outs ws) x).kl)).setCell ⟨w.heap.size + 1 + 1, 4, none⟩ (.int .i64 (oAt (outs ws) x).kh)).setCell ⟨w.heap.size + 1 + 1, 5, none⟩ (.int .i64 (oAt (outs ws) x).sl)).setCell ⟨w.heap.size + 1 + 1, 6, none⟩ (.int .i64 (oAt (outs ws) x).sh)).drew := hb1.trans ((hO.bl.drew).mono (by omega))
 have hf3 : Blk (((((((W3.setCell ⟨w.heap.size + 1 + 1, 0, none⟩ (.int .i64 (oAt (outs ws) x).id)).setCell ⟨w.heap.size + 1 + 1, 1, none⟩ (.int .i64 (oAt (outs ws) x).into)).setCell ⟨w.heap.size + 1 + 1, 2, none⟩ (.slice (oAt (outs ws) x).P (oAt (outs ws) x).ps.length (oAt (outs ws) x).c)).setCell ⟨w.heap.size + 1 + 1, 3, none⟩ (.int .i64 (oAt (outs ws) x).kl)).setCell ⟨w.heap.size + 1 + 1, 4, none⟩ (.int .i64 (oAt (outs ws) x).kh)).setCell ⟨w.heap.size + 1 + 1, 5, none⟩ (.int .i64 (oAt (outs ws) x).sl)).setCell ⟨w.heap.size + 1 + 1, 6, none⟩ (.int .i64 (oAt (outs ws) x).sh)) (w.heap.size + 1 + 1) #[.int .i64 (oAt (outs ws) x).id, .int .i64 (oAt (outs ws) x).into, .slice (oAt (outs ws) x).P (oAt (outs ws) x).ps.length (oAt (outs ws) x).c, .int .i64 (oAt (outs ws) x).kl, .int .i64 (oAt (outs ws) x).kh, .int .i64 (oAt (outs ws) x).sl, .int .i64 (oAt (outs ws) x).sh] 69 :=
  (heap_setCell_same _ _ 6 _ _ (.int .i64 (oAt (outs ws) x).sh) (heap_setCell_same _ _ 5 _ _ (.int .i64 (oAt (outs ws) x).sl) (heap_setCell_same _ _ 4 _ _ (.int .i64 (oAt (outs ws) x).kh) (heap_setCell_same _ _ 3 _ _ (.int .i64 (oAt (outs ws) x).kl) (heap_setCell_same _ _ 2 _ _ (.slice (oAt (outs ws) x).P (oAt (outs ws) x).ps.length (oAt (outs ws) x).c) (heap_setCell_same _ _ 1 _ _ (.int .i64 (oAt (outs ws) x).into) (heap_setCell_same _ _ 0 _ _ (.int .i64 (oAt (outs ws) x).id) hG)))))))
 have hf4 := hf3.drew
 have HB := Lib.hid hB4
 have HF := Lib.hid hf4
 clear hB4 hO hO0 hG hf4 hf3 hb1
 refine wpIn_region_made (fun _ => trivial) (fun X => X.cell? ⟨w.heap.size, 0, none⟩ = some (.slice (some ⟨b, off, none⟩) ws.length c) ∧ X.cell? ⟨w.heap.size + 1, 1, none⟩ = some (.int .i64 (caAt ws x : Int)) ∧ X.cell? ⟨w.heap.size + 1, 2, none⟩ = some (.int .i64 (atAt ws x : Int)) ∧ X.cell? ⟨b, off + caAt ws x, none⟩ = some (.slice (some ⟨b2, off2, none⟩) (cAt ws (caAt ws x)).os.length (cAt ws (caAt ws x)).c) ∧ X.cell? ⟨b2, off2 + atAt ws x * 7, none⟩ = some (.int .i64 (oAt (outs ws) x).id) ∧ X.cell? ⟨b2, off2 + atAt ws x * 7 + 1, none⟩ = some (.int .i64 (oAt (outs ws) x).into) ∧ X.cell? ⟨b2, off2 + atAt ws x * 7 + 2, none⟩ = some (.slice (oAt (outs ws) x).P (oAt (outs ws) x).ps.length (oAt (outs ws) x).c) ∧ X.cell? ⟨b2, off2 + atAt ws x * 7 + 3, none⟩ = some (.int .i64 (oAt (outs ws) x).kl) ∧ X.cell? ⟨b2, off2 + atAt ws x * 7 + 4, none⟩ = some (.int .i64 (oAt (outs ws) x).kh) ∧ X.cell? ⟨b2, off2 + atAt ws x * 7 + 5, none⟩ = some (.int .i64 (oAt (outs ws) x).sl) ∧ X.cell? ⟨b2, off2 + atAt ws x * 7 + 6, none⟩ = some (.int .i64 (oAt (outs ws) x).sh)) 10 (by kernel_rfl) (by kernel_rfl) (by kernel_rfl) (by rfl) ⟨q0, q1, q2, k1, o0, o1, o2, o3, o4, o5, o6⟩ ?_
 simp only [List.take_succ_cons, List.take_zero]
 iterate 10
  refine wpReads_opI (v := ?_) (by rfl) (fun W hW => ?_) ?_
  rotate_left
  focus
   obtain ⟨d0, d1, d2, d3, d4, d5, d6, d7, d8, d9, d10⟩ := hW
   go_simp
   try (with_reducible rfl)
  try simp only [Act.put, List.setIfInBounds_toArray, List.set_cons_zero, List.set_cons_succ]
 refine wpReads_nilI ⟨by rfl, (oAt (outs ws) x).v, W3.drew, .inl ?_, ⟨q0, q1, q2, k1, o0, o1, o2, o3, o4, o5, o6⟩, ?_⟩
 ·unfold Ot.v
  go_simp
 ·unfold Ot.v
  gi_wp2
  have hr := fun tmps (hp : tmps.getD 4 undef = .pointer (some ⟨w.heap.size + 1 + 1, 0, none⟩)) => results_cell_row (P := Tryz.prog) Tryz.results54 tmps _ (w.heap.size + 1 + 1) 69 _ (0, 0) _ hp HF.out Tryz.underlying69 (by rfl) (by kernel_rfl)
  refine ⟨_, hr _ (by rfl), ?_⟩
  exact ⟨rfl, HB.out⟩
theorem outlet_any (A : Option Addr) (c : Nat) (ws : List Car) (x : Nat) (hx : x < (outs ws).length) (w : World) (hW : Wk w A ws) :
  Calls Tryz.prog 54 #[.agg #[.slice A ws.length c], plV (pl ws x)] w fun e w' => e = .returned (oAt (outs ws) x).v ∧ Below w.heap.size w w' := callsIn_wide.1 (outlet_in A c ws x hx w hW)
end Go.Proofs.YtegmniphgahblaaGreat
namespace Go.Proofs.YtegmniphgahblaaGreat
open Go.RowKit

theorem cw_zero {ws : List Car} {s : Wt} (h : cwE ws s = 0) : Good ws ∧ Ok ws s := by
 unfold cwE at h
 by_cases h0 : checkE ws = 0
 ·rw [if_pos h0] at h
  exact ⟨good_of_check h0, ok_of_water h⟩
 ·rw [if_neg h0] at h
  exact absurd h h0
theorem OnlyB.below {g n : Nat} {W W' : World} (h : OnlyB g W W') (hn : n ≤ g) : Below n W W' := h.bl.mono hn

/-- What flows through the outlets; what is left at the ends of the carriers. -/
def flowsO (ws : List Car) (s : Wt) : List Int := if cwE ws s = 0 then (List.range (outs ws).length).map (flowF ws s) else []
theorem flowsO_length {ws : List Car} {s : Wt} (h : cwE ws s = 0) : (flowsO ws s).length = (outs ws).length := by unfold flowsO; rw [if_pos h]; simp
theorem nth_range {n k : Nat} (f : Nat → Int) (h : k < n) : nth ((List.range n).map f) k = f k := by
 simp [nth, h]
/-- What the call of flow leaves: its result's array stands in a block of one's own. -/
theorem flows_cells (f : Nat → Int) : ∃ cs : List Value, flV f = .agg cs.toArray ∧ cs.length = 77 ∧ cs.toArray.all (·.oneCell') = true ∧ cs = ((List.range 77).map f).map (Value.int .i64) := by
 refine ⟨_, rfl, by simp, all_oneCell_toArray (fun v hv => ?_), by rw [List.map_map]; rfl⟩
 obtain ⟨j, _, rfl⟩ := List.mem_map.1 hv
 rfl
theorem flows_at (W : World) (f : Nat → Int) (cs : List Value) (h : cs = ((List.range 77).map f).map (Value.int .i64)) :
  ArrAt ((W.alloc (.cells (List.replicate 77 (Value.int .i64 0)).toArray 95)).setCells W.heap.size 0 cs) W.heap.size 95 77 f ∧
  Below W.heap.size W ((W.alloc (.cells (List.replicate 77 (Value.int .i64 0)).toArray 95)).setCells W.heap.size 0 cs) ∧
  ((W.alloc (.cells (List.replicate 77 (Value.int .i64 0)).toArray 95)).setCells W.heap.size 0 cs).heap.size = W.heap.size + 1 := by
 have a := arr_zero W 77 95
 have hO : OnlyB W.heap.size (W.alloc (.cells (List.replicate 77 (Value.int .i64 0)).toArray 95)) ((W.alloc (.cells (List.replicate 77 (Value.int .i64 0)).toArray 95)).setCells W.heap.size 0 cs) := OnlyB.sets _ _ _ ⟨rfl, fun _ _ => rfl, Below.refl _ _⟩
 refine ⟨?_, ((Below.refl _ W).alloc (Nat.le_refl _) _).trans hO.bl, by rw [hO.size]; simp⟩
 have := ArrAt.sets ((List.range 77).map f) 0 _ (fun _ => 0) a (by simp)
 rw [← h] at this
 obtain ⟨cs2, u1, u2, u3⟩ := this
 refine ⟨cs2, u1, u2, fun j hj => ?_⟩
 rw [u3 j hj, puts_at, if_pos (by simp; omega), Nat.sub_zero, nth_range f hj]
theorem clone_n (A : Option Addr) (c n : Nat) (xs : List Int) (w : World) (h : Rd w w.heap.size A xs) (hm : xs.length ≤ 1000) (hn : n = xs.length) :
  Calls Tryz.prog 42 #[.slice A n c] w fun e w' => RSlice w xs e w' := by subst hn; exact clone_gen A c xs w h hm
theorem there_zero (W : World) : (W.alloc (.cells Tryz.zeroCells95 95)).there W.heap.size 0 77 := by
 rw [zero123]
 exact (arr_zero W 77 95).there 0 77 (Nat.le_refl _)
theorem info123 : (Tryz.prog.info? 95).map (·.size) = some 77 := by kernel_rfl
theorem ArrAt.rd {W : World} {g n : Nat} {ty : TypeId} {f : Nat → Int} (h : ArrAt W g ty n f) {o m : Nat} (hm : o + m ≤ n) : Rd W W.heap.size (some ⟨g, o, none⟩) ((List.range m).map fun j => f (o + j)) := fun _ =>
 ⟨g, o, rfl, h.lt, fun i hi => by
  have hi' : i < m := by simpa using hi
  rw [h.cell (show o + i < n by omega), nth_range (fun j => f (o + j)) hi']⟩

set_option maxRecDepth 100000 in
set_option maxHeartbeats 800000 in
theorem Flow_any (A : Option Addr) (c : Nat) (ws : List Car) (s : Wt) (w : World) (h : Wk w A ws) (hs : Wet w s) :
  Calls Tryz.prog 16 #[.agg #[.slice A ws.length c], s.v] w fun e w' => ∃ A' c', e = .returned (.tuple #[.slice A' (flowsO ws s).length c', .int .i64 (cwE ws s)]) ∧ Rd w' w'.heap.size A' (flowsO ws s) ∧ Fresh w.heap.size A' ∧ Below w.heap.size w w' := by
 have hb1 : Below w.heap.size w ((w.alloc (.cells #[.slice A ws.length c] 24)).alloc (.cells #[.slice s.A0 s.ri.length s.c0, .slice s.A1 s.bo.length s.c1, .slice s.A2 s.lk.length s.c2, .slice s.A3 s.lo.length s.c3] 30)) := ((Below.refl _ w).alloc (Nat.le_refl _) _).alloc (by simp) _
 have hch := CheckWater_any A c ws s _ (h.ext hb1) (hs.ext hb1)
 have q0 : ((w.alloc (.cells #[.slice A ws.length c] 24)).alloc (.cells #[.slice s.A0 s.ri.length s.c0, .slice s.A1 s.bo.length s.c1, .slice s.A2 s.lk.length s.c2, .slice s.A3 s.lo.length s.c3] 30)).cell? ⟨w.heap.size, 0, none⟩ = some (.slice A ws.length c) := by simp [go_sem]
 have hblk : Blk ((w.alloc (.cells #[.slice A ws.length c] 24)).alloc (.cells #[.slice s.A0 s.ri.length s.c0, .slice s.A1 s.bo.length s.c1, .slice s.A2 s.lk.length s.c2, .slice s.A3 s.lo.length s.c3] 30)) (w.heap.size + 1) #[.slice s.A0 s.ri.length s.c0, .slice s.A1 s.bo.length s.c1, .slice s.A2 s.lk.length s.c2, .slice s.A3 s.lo.length s.c3] 30 := blk_new _ _ _ (by simp)
 have hs1 : ((w.alloc (.cells #[.slice A ws.length c] 24)).alloc (.cells #[.slice s.A0 s.ri.length s.c0, .slice s.A1 s.bo.length s.c1, .slice s.A2 s.lk.length s.c2, .slice s.A3 s.lo.length s.c3] 30)).heap.size = w.heap.size + 2 := by simp
 have u0 : ((w.alloc (.cells #[.slice A ws.length c] 24)).alloc (.cells #[.slice s.A0 s.ri.length s.c0, .slice s.A1 s.bo.length s.c1, .slice s.A2 s.lk.length s.c2, .slice s.A3 s.lo.length s.c3] 30)).cell? ⟨w.heap.size + 1, 0, none⟩ = _ := cell_row hblk
 have u1 : ((w.alloc (.cells #[.slice A ws.length c] 24)).alloc (.cells #[.slice s.A0 s.ri.length s.c0, .slice s.A1 s.bo.length s.c1, .slice s.A2 s.lk.length s.c2, .slice s.A3 s.lo.length s.c3] 30)).cell? ⟨w.heap.size + 1, 1, none⟩ = _ := cell_row hblk
 have u2 : ((w.alloc (.cells #[.slice A ws.length c] 24)).alloc (.cells #[.slice s.A0 s.ri.length s.c0, .slice s.A1 s.bo.length s.c1, .slice s.A2 s.lk.length s.c2, .slice s.A3 s.lo.length s.c3] 30)).cell? ⟨w.heap.size + 1, 2, none⟩ = _ := cell_row hblk
 have u3 : ((w.alloc (.cells #[.slice A ws.length c] 24)).alloc (.cells #[.slice s.A0 s.ri.length s.c0, .slice s.A1 s.bo.length s.c1, .slice s.A2 s.lk.length s.c2, .slice s.A3 s.lo.length s.c3] 30)).cell? ⟨w.heap.size + 1, 3, none⟩ = _ := cell_row hblk
 by_cases h0 : cwE ws s = 0
 ·obtain ⟨g, ok⟩ := cw_zero h0
  have hfl := fun W (hW : Below w.heap.size w W) => flow_any A c ws s W (h.ext hW) g (hs.ext hW) ok
  obtain ⟨cs, hcs, hlen, hone, hcs2⟩ := flows_cells (flowF ws s)
  rw [hcs] at hfl
  have hfin : flowsO ws s = (List.range (outs ws).length).map (fun j => flowF ws s (0 + j)) := by unfold flowsO; rw [if_pos h0]; simp
  rw [h0]
  generalize hfin2 : flowsO ws s = FF at *
  clear hfin2
  rw [h0] at hch
  generalize hfF : flowF ws s = ff at *
  have hn1 := g.n1
  have hn2 := g.n2
  have hn3 : ((outs ws).length : Int) ≤ 60 := by omega
  have hn4 : (ws.length : Int) ≤ 16 := by omega
  have hat := Lib.hid (fun W => flows_at W ff cs hcs2)
  have hsz77 : cs.toArray.size = 77 := by rw [List.size_toArray, hlen]
  have HS77 := hd2 hsz77 hone
  have hmany := fun W (hW : Below w.heap.size w W) => many_any A c ws W (h.ext hW).rd (by unfold maxLen; omega) (by omega)
  have HH := hd5 hb1 hch hfl hblk h
  clear hb1 hch hfl hblk hs hcs hcs2 ok g h hlen hone hsz77
  unfold Wt.v at *
  go_enter Tryz.func16, Tryz.ntmps16
  go_upto_region 1 with fail
  generalize hgW : ((w.alloc (.cells #[.slice A ws.length c] 24)).alloc (.cells #[.slice s.A0 s.ri.length s.c0, .slice s.A1 s.bo.length s.c1, .slice s.A2 s.lk.length s.c2, .slice s.A3 s.lo.length s.c3] 30)) = W1 at *
  clear hgW
  go_upto_region 4 with (go_at_call 40; refine HH.out.2.1.mono ?_; rintro e w1 ⟨rfl, hb⟩; have HB := Lib.hid hb; clear hb)
  have p0 := (HB.out.cell (p := ⟨w.heap.size, 0, none⟩) (by show w.heap.size < _; omega)).trans q0
  have hbk := (HB.out.block (w.heap.size + 1) (by omega)).trans HH.out.2.2.2.1
  have p1 : w1.cell? ⟨w.heap.size + 1, 0, none⟩ = _ := cell_row hbk
  have p2 : w1.cell? ⟨w.heap.size + 1, 1, none⟩ = _ := cell_row hbk
  have p3 : w1.cell? ⟨w.heap.size + 1, 2, none⟩ = _ := cell_row hbk
  have p4 : w1.cell? ⟨w.heap.size + 1, 3, none⟩ = _ := cell_row hbk
  have HW := Lib.hid (HH.out.1.trans (HB.out.mono HH.out.1.size))
  have hsw := HW.out.size
  have hsb := HB.out.size
  clear hbk u0 u1 u2 u3 q0
  go_upto_region 5 with first
   | (go_at_call 41; go_loud (refine (HH.out.2.2.1 _ HW.out).mono ?_; rintro e w2 ⟨rfl, hb⟩; have HF := hd2 (HW.out.trans (hb.mono HW.out.size)) hb; clear hb))
   | (refine wpList_store_mid rfl 95 _ _ rfl _ 0 _ (by rfl) (by rfl) (by rw [HS77.out.1]; exact there_zero _) (by rw [HS77.out.1]; exact info123) HS77.out.2 ?_)
  obtain ⟨a5, b5, z5⟩ := hat.out w2
  rw [← zero123] at a5 b5 z5
  have m0 := (HF.out.2.cell (p := ⟨w.heap.size, 0, none⟩) (by show w.heap.size < _; omega)).trans p0
  have hs2 := HF.out.2.size
  have v0 := (b5.cell (p := ⟨w.heap.size, 0, none⟩) (by show w.heap.size < _; omega)).trans m0
  have HF5 := Lib.hid (HF.out.1.trans (b5.mono HF.out.1.size))
  generalize (w2.alloc (Obj.cells Tryz.zeroCells95 95)).setCells w2.heap.size 0 cs = W5 at *
  have hl5 := a5.lt
  have hrd := a5.rd (o := 0) (m := (outs ws).length) (by omega)
  rw [← hfin] at hrd
  have HR := Lib.hid hrd
  have hsz5 := HF5.out.size
  have HL : Hid (FF.length ≤ 1000 ∧ (outs ws).length = FF.length) := Lib.hid (by rw [hfin]; simp; omega)
  clear hrd hfin a5 b5 m0 p0 p1 p2 p3 p4
  go_wp2_with first
   | (go_at_call 43; go_loud (refine (hmany _ HF5.out).mono ?_; rintro e w3 ⟨rfl, hb⟩; have HM := Lib.hid hb; clear hb))
   | (go_at_call 42; go_loud (refine (clone_n _ _ _ FF _ (HR.out.ext HM.out) HL.out.1 HL.out.2).mono ?_; rintro e w3 ⟨A', c', rfl, hq⟩; have HQ := Lib.hid hq; clear hq))
  go_ret2
  have hq := HQ.out
  exact ⟨A', c', rfl, hq.1, hq.2.1.mono (by have := HM.out.size; omega), HF5.out.trans ((HM.out.mono (by omega)).trans (hq.2.2.mono (by have := HM.out.size; omega)))⟩
 ·have hz : (cwE ws s != 0) = true := by simpa using h0
  have hfin : flowsO ws s = [] := by unfold flowsO; rw [if_neg h0]
  rw [hfin]
  generalize cwE ws s = D at *
  have HH := hd2 hb1 hch
  clear hb1 hch hfin h hs hblk
  unfold Wt.v at *
  go_enter Tryz.func16, Tryz.ntmps16
  go_upto_region 1 with fail
  generalize hgW : ((w.alloc (.cells #[.slice A ws.length c] 24)).alloc (.cells #[.slice s.A0 s.ri.length s.c0, .slice s.A1 s.bo.length s.c1, .slice s.A2 s.lk.length s.c2, .slice s.A3 s.lo.length s.c3] 30)) = W1 at *
  clear hgW
  go_wp2_with (go_at_call 40; refine HH.out.2.mono ?_; rintro e w1 ⟨rfl, hb⟩; have HF := Lib.hid (HH.out.1.trans (hb.mono HH.out.1.size)); clear hb)
  go_ret2
  exact ⟨_, _, rfl, Rd.nil, (fun _ e => by cases e), HF.out⟩
end Go.Proofs.YtegmniphgahblaaGreat
namespace Go.Proofs.YtegmniphgahblaaGreat
open Go.RowKit

/-- An operation that calls no function of Go. -/
def plainOp (o : Oper) : Bool :=
 match o.op with
 | .move _ | .assign _ | .pick .. | .alloc _ | .box .. | .build .. | .buildSlice .. | .load .. | .store .. | .binOp .. | .unOp .. | .slice .. | .fieldAddr .. | .field .. | .indexAddr .. | .index .. | .lookup .. | .mapUpdate .. | .extract .. => true
 | .call c => (match c.callee with | .builtin .append | .builtin .len | .builtin .min | .builtin .max | .builtin .copy => true | _ => false)
 | _ => false
/-- A result that is a value, nothing, or a halt. -/
def Tame (r : Result Next) : Prop := ∀ x w', r = .ok x w' → (∃ v, x = .value v) ∨ x = .skip
theorem tame_v (s : Sem Value) (P : Program) (w : World) : Tame ((do pure (.value (← s)) : Sem Next).run P w) := fun x w' h => by
 rw [Sem.run_bind] at h
 cases hs : s.run P w with
 | ok v w1 => rw [hs] at h; simp only [Result.andThen_ok, Sem.run_pure] at h; cases h; exact .inl ⟨v, rfl⟩
 | halt y w1 => rw [hs] at h; cases h
theorem tame_u (s : Sem Unit) (P : Program) (w : World) : Tame ((do s; pure .skip : Sem Next).run P w) := fun x w' h => by
 rw [Sem.run_bind] at h
 cases hs : s.run P w with
 | ok v w1 => rw [hs] at h; simp only [Result.andThen_ok, Sem.run_pure] at h; cases h; exact .inr rfl
 | halt y w1 => rw [hs] at h; cases h
theorem tame_pure (v : Value) (P : Program) (w : World) : Tame ((pure (.value v) : Sem Next).run P w) := fun x w' h => by
 rw [Sem.run_pure] at h; cases h; exact .inl ⟨v, rfl⟩
theorem plainOp_tame {o : Oper} (h : plainOp o = true) (ρ : Operand → Value) (P : Program) (w : World) : Tame ((execOp ρ o).run P w) := by
 unfold plainOp at h
 unfold execOp
 cases ho : o.op <;> rw [ho] at h <;> dsimp only at h ⊢ <;> first | exact tame_v _ P w | exact tame_u _ P w | exact tame_pure _ P w | (cases h; done) | skip
 case pick c x y =>
  intro z w' hz
  rw [Sem.run_bind] at hz
  cases hs : (asBool (ρ c)).run P w with
  | ok v w1 => rw [hs] at hz; simp only [Result.andThen_ok, Sem.run_pure] at hz; cases hz; exact .inl ⟨_, rfl⟩
  | halt y w1 => rw [hs] at hz; cases hz
 case call c =>
  cases hc : c.callee with
  | value f => rw [hc] at h; cases h
  | invoke r n => rw [hc] at h; cases h
  | builtin b =>
   rw [hc] at h
   unfold resolve
   rw [hc]
   dsimp only
   rw [Sem.run_bind, Sem.run_pure, Result.andThen_ok]
   unfold invoke
   dsimp only
   unfold builtin
   cases b <;> first | exact tame_v _ P w | (cases h; done)
theorem plainOp_nodefer {o : Oper} (h : plainOp o = true) (c : Call) : o.op ≠ .defer c := fun e => by
 unfold plainOp at h
 rw [e] at h
 cases h

/-- Q at the end, and no other way out. -/
def EndsOnly (Q : Exit → Act → World → Prop) : Exit → Act → World → Prop
 | .normal, a, w => Q .normal a w
 | _, _, _ => False
section
variable {F : Fence} {n : Nat} {P : Program} {ops : Array Oper} {md : Region.Mode} {Q : Exit → Act → World → Prop}
theorem wpOpIn_of_wpOp (hF : ∀ f, F.fn f) (hpl : ∀ (i : Nat) (o : Oper), ops[i]? = some o → plainOp o = true) {i : Nat} {K K' : Act → World → Prop} {a : Act} {w : World} (hK : ∀ a w, K a w → K' a w) (h : wpOp P ops (EndsOnly Q) i K a w) : wpOpIn F n P ops Q i K' a w := by
 unfold wpOp at h
 unfold wpOpIn
 split
 ·rename_i ho; simp only [ho] at h; exact hK _ _ h
 ·rename_i o ho
  simp only [ho] at h
  split
  ·rename_i hw
   simp only [hw, if_true] at h
   rcases h with h | ⟨_, a', w', hq⟩
   ·refine ⟨fun f _ => hF f, ?_⟩
    rw [Oper.semAt_eq _ _ _ (plainOp_nodefer (hpl i o ho))]
    have ht := plainOp_tame (hpl i o ho) a.eval P w
    unfold Oper.wp at h
    generalize (execOp a.eval o).run P w = r at *
    cases r with
    | ok x w' =>
     rcases ht x w' rfl with ⟨v, rfl⟩ | rfl
     ·exact hK _ _ h
     ·exact hK _ _ h
    | halt x w' => cases x <;> simp only [Oper.upon] at h <;> exact h.elim
   ·exact hq.elim
  ·rename_i hw
   simp only [hw] at h
   exact ⟨fun f _ => hF f, hK _ _ h⟩
theorem wpAnyIn_of_wpAny (hF : ∀ f, F.fn f) (hpl : ∀ (i : Nat) (o : Oper), ops[i]? = some o → plainOp o = true) : ∀ (fuel : Nat) (listed : Array Bool) (a : Act) (w : World), wpAny P md ops (EndsOnly Q) fuel listed a w → wpAnyIn F n P md ops Q fuel listed a w
 | 0, _, _, _, h => ⟨h.1, h.2⟩
 | fuel + 1, _, _, _, h => ⟨fun h0 => h.1 h0, fun i hi => wpOpIn_of_wpOp hF hpl (fun a' w' h' => wpAnyIn_of_wpAny hF hpl fuel _ a' w' h') (h.2 i hi)⟩
/-- A region without a call, inside a fence: by the moves of 'wpAnyH'. -/
theorem wpIn_region_plain {id : Nat} {a : Act} {w : World} {l : List Oper} (hF : ∀ f, F.fn f) (hm : P.follows .mixedOrders = true) (hpl : l.all plainOp = true) (S : World → Prop) (hS : S w.drew)
  (h : S w.drew → wpAnyH P .any l.toArray (EndsOnly Q) S l.toArray.size (Array.replicate l.toArray.size false) a w.drew) : (Code.region id l.toArray true).wpIn F n P Q a w := by
 refine wpIn_region_any hm (wpAnyIn_of_wpAny hF (fun i o ho => ?_) _ _ _ _ (wpAny_of_held _ _ _ _ (h hS)))
 have h1 := List.all_eq_true.1 hpl o
 rw [List.getElem?_toArray] at ho
 exact h1 (List.mem_of_getElem? ho)
end

end Go.Proofs.YtegmniphgahblaaGreat
namespace Go.Proofs.YtegmniphgahblaaGreat
open Go.RowKit

abbrev Pl := Int × Int × Int
/-- Entry j of block g is a place. -/
structure PlAt (w : World) (g j : Nat) (p : Pl) : Prop where
 c0 : w.cell? ⟨g, j, none⟩ = some (.int .i64 p.1)
 c1 : w.cell? ⟨g, j + 1, none⟩ = some (.int .i64 p.2.1)
 c2 : w.cell? ⟨g, j + 2, none⟩ = some (.int .i64 p.2.2)
/-- The first n entries of block g are these places, and may be written. -/
structure PlF (w : World) (g n : Nat) (f : Nat → Pl) : Prop where
 at_ : ∀ j, j < n → PlAt w g (j * 3) (f j)
 fz : ∀ o, w.frozen? ⟨g, o, none⟩ = false
def fput (f : Nat → Pl) (i : Nat) (p : Pl) (j : Nat) : Pl := if j = i then p else f j
def setPl (w : World) (g o : Nat) (p : Pl) : World := ((w.setCell ⟨g, o, none⟩ (.int .i64 p.1)).setCell ⟨g, o + 1, none⟩ (.int .i64 p.2.1)).setCell ⟨g, o + 2, none⟩ (.int .i64 p.2.2)
theorem cell_set {w : World} {g o : Nat} {v u : Value} (h : w.cell? ⟨g, o, none⟩ = some u) : (w.setCell ⟨g, o, none⟩ v).cell? ⟨g, o, none⟩ = some v := World.cell?_setCell_same' _ _ _ (by rw [h]; rfl)
theorem cell_set_ne {w : World} {g o o' : Nat} {v : Value} (h : o ≠ o') : (w.setCell ⟨g, o', none⟩ v).cell? ⟨g, o, none⟩ = w.cell? ⟨g, o, none⟩ := World.cell?_setCell_other _ _ _ _ (fun e => h (by cases e; rfl))
theorem PlF.set {w : World} {g n : Nat} {f : Nat → Pl} (h : PlF w g n f) {i : Nat} (hi : i < n) (p : Pl) : PlF (setPl w g (i * 3) p) g n (fput f i p) := by
 obtain ⟨k0, k1, k2⟩ := h.at_ i hi
 refine ⟨fun j hj => ?_, fun o => ?_⟩
 ·unfold setPl fput
  obtain ⟨d0, d1, d2⟩ := h.at_ j hj
  by_cases e : j = i
  ·subst e
   rw [if_pos rfl]
   refine ⟨?_, ?_, ?_⟩
   ·rw [cell_set_ne (by omega), cell_set_ne (by omega)]; exact cell_set k0
   ·rw [cell_set_ne (by omega)]; exact cell_set (by rw [cell_set_ne (by omega)]; exact k1)
   ·exact cell_set (by rw [cell_set_ne (by omega), cell_set_ne (by omega)]; exact k2)
  ·rw [if_neg e]
   exact ⟨by rw [cell_set_ne (by omega), cell_set_ne (by omega), cell_set_ne (by omega)]; exact d0, by rw [cell_set_ne (by omega), cell_set_ne (by omega), cell_set_ne (by omega)]; exact d1, by rw [cell_set_ne (by omega), cell_set_ne (by omega), cell_set_ne (by omega)]; exact d2⟩
 ·unfold setPl; rw [World.frozen?_setCell, World.frozen?_setCell, World.frozen?_setCell]; exact h.fz o
theorem setPl_only {g o : Nat} {w w' : World} {p : Pl} (h : OnlyB g w w') : OnlyB g w (setPl w' g o p) := ((h.set _).set _).set _
theorem PlF.drew {w : World} {g n : Nat} {f : Nat → Pl} (h : PlF w g n f) : PlF w.drew g n f := ⟨fun j hj => ⟨(h.at_ j hj).c0, (h.at_ j hj).c1, (h.at_ j hj).c2⟩, h.fz⟩
theorem OnlyB.drew {g : Nat} {w w' : World} (h : OnlyB g w w') : OnlyB g w w'.drew := ⟨h.size, h.blk, h.bl.drew⟩
/-- The first k entries, and the last k ones, in each other's stead. -/
def swapTo (f : Nat → Pl) (n k : Nat) (j : Nat) : Pl := if j < k ∨ n - k ≤ j then f (n - 1 - j) else f j
theorem swapTo_succ {f : Nat → Pl} {n k : Nat} (h : k < n - 1 - k) : ∀ j, j < n → swapTo f n (k + 1) j = fput (fput (swapTo f n k) k (swapTo f n k (n - 1 - k))) (n - 1 - k) (swapTo f n k k) j := fun j hj => by
 unfold fput swapTo
 by_cases e1 : j = n - 1 - k
 ·rw [if_pos e1, if_pos (by omega), if_neg (by omega)]; congr 1; omega
 ·rw [if_neg e1]
  by_cases e2 : j = k
  ·rw [if_pos e2, if_pos (by omega), if_neg (by omega)]; congr 1; omega
  ·rw [if_neg e2]
   by_cases e3 : j < k ∨ n - k ≤ j
   ·rw [if_pos e3, if_pos (by omega)]
   ·rw [if_neg e3, if_neg (by omega)]
theorem PlF.congr {w : World} {g n : Nat} {f f' : Nat → Pl} (h : PlF w g n f) (e : ∀ j, j < n → f' j = f j) : PlF w g n f' := ⟨fun j hj => by rw [e j hj]; exact h.at_ j hj, h.fz⟩
theorem swap_comm {f : Nat → Pl} {i m : Nat} {p q : Pl} (h : i ≠ m) : ∀ j, fput (fput f m q) i p j = fput (fput f i p) m q j := fun j => by
 unfold fput
 by_cases e1 : j = i
 ·subst e1; rw [if_pos rfl, if_neg h, if_pos rfl]
 ·rw [if_neg e1]; by_cases e2 : j = m
  ·rw [if_pos e2, if_pos e2]
  ·rw [if_neg e2, if_neg e2, if_neg e1]

set_option maxRecDepth 100000 in
set_option maxHeartbeats 1600000 in
theorem reverse_any (g n c : Nat) (f : Nat → Pl) (w : World) (h : PlF w g n f) (hn : n ≤ 1000) :
  Calls Tryz.prog 70 #[.slice (some ⟨g, 0, none⟩) n c] w fun e w' => e = .returned (.tuple #[]) ∧ PlF w' g n (fun j => f (n - 1 - j)) ∧ OnlyB g w w' := by
 have hw0 : IntKind.i64.wrap ((n : Int) - 1) = (n : Int) - 1 := IntWalk.i64_in _ (by omega)
 have HH := Lib.hid h
 clear h
 go_enter Tryz.func70, Tryz.ntmps70
 go_wp2
 go_loopg [2, 3] n (fun gg i j wr => ∃ k : Nat, n - k ≤ gg ∧ k ≤ n ∧ i = .int .i64 k ∧ j = .int .i64 ((n : Int) - 1 - k) ∧ PlF wr g n (swapTo f n k) ∧ OnlyB g w wr)
 case atStart => exact ⟨0, by omega, by omega, rfl, by simp, HH.out.congr (fun j hj => by unfold swapTo; rw [if_neg (by omega)]), ⟨rfl, fun _ _ => rfl, Below.refl _ _⟩⟩
 case round =>
  obtain ⟨k, hg, hkn, rfl, rfl, hP, hO⟩ := hrel
  by_cases hlt : k < n - 1 - k
  ·have hltz : (k : Int) < (n : Int) - 1 - k := by omega
   obtain ⟨m, hm⟩ : ∃ m : Nat, m = n - 1 - k := ⟨_, rfl⟩
   have hmz : (n : Int) - 1 - k = (m : Int) := by omega
   rw [hmz] at hltz ⊢
   have i1 : (k : Int) < (n : Int) := by omega
   have i2 : (m : Int) < (n : Int) := by omega
   have i3 : (0 : Int) ≤ (m : Int) := by omega
   obtain ⟨a0, a1, a2⟩ := hP.at_ k (by omega)
   obtain ⟨b0, b1, b2⟩ := hP.at_ m (by omega)
   have z0 := hP.fz (k * 3)
   have z1 := hP.fz (k * 3 + 1)
   have z2 := hP.fz (k * 3 + 2)
   have y0 := hP.fz (m * 3)
   have y1 := hP.fz (m * 3 + 1)
   have y2 := hP.fz (m * 3 + 2)
   have w1 : IntKind.i64.wrap ((m : Int) - 1) = (m : Int) - 1 := IntWalk.i64_in _ (by omega)
   have hkm : k ≠ m := by omega
   have HP := hd4 (hP.set (i := k) (by omega) (swapTo f n k m)) (hP.set (i := m) (by omega) (swapTo f n k k)) hO (swapTo_succ (f := f) hlt)
   have ne0 : ¬ k * 3 = m * 3 := by omega
   have HM := hd2 hm hmz
   clear hP hO hm hmz
   go_wp2
   go_region
   obtain ⟨h1, h2, h3, h4⟩ := HP.out
   have HF := hd2 ((h1.set (i := m) (by omega) (swapTo f n k k)).congr (f' := swapTo f n (k + 1)) (fun j hj => by have := h4 j hj; rw [← HM.out.1] at this; exact this)) (setPl_only (o := m * 3) (p := swapTo f n k k) (setPl_only (o := k * 3) (p := swapTo f n k m) h3))
   clear h1 h2 h3 h4
   go_wp2
   go_roundg (n - (k + 1))
   case measure => omega
   case rel => exact ⟨k + 1, by omega, by omega, by go_num, by have := HM.out.2; congr 1; omega, HF.out.1.drew, HF.out.2.drew⟩
  ·have hltz : ¬ (k : Int) < (n : Int) - 1 - k := by omega
   have HP := hd2 hP hO
   clear hP hO
   go_wp2
   go_end0
   exact ⟨rfl, HP.out.1.congr (fun j hj => by
    unfold swapTo
    by_cases e : j < k ∨ n - k ≤ j
    ·rw [if_pos e]
    ·rw [if_neg e]; congr 1; omega), HP.out.2⟩
end Go.Proofs.YtegmniphgahblaaGreat
namespace Go.Proofs.YtegmniphgahblaaGreat
open Go.RowKit

/-- From an outlet up to the head. -/
def pathUp (ws : List Car) : Nat → Nat → List Nat
 | 0, x => [x]
 | f + 1, x => match upO ws (caAt ws x : Int) with | none => [x] | some y => x :: pathUp ws f y
def upList (ws : List Car) (x : Nat) : List Nat := pathUp ws (caAt ws x + 1) x
theorem up_lower {ws : List Car} (g : Good ws) {c y : Nat} (h : upO ws (c : Int) = some y) : y < (outs ws).length ∧ caAt ws y < c := by
 obtain ⟨h1, h2⟩ := upO_some h
 have := (g.fine h1).into
 exact ⟨h1, by omega⟩
theorem pathUp_enough {ws : List Car} (g : Good ws) : ∀ (f : Nat) (f' x : Nat), caAt ws x < f → caAt ws x < f' → pathUp ws f x = pathUp ws f' x
 | 0, _, _, h, _ => absurd h (by omega)
 | _ + 1, 0, _, _, h => absurd h (by omega)
 | f + 1, f' + 1, x, h1, h2 => by
  unfold pathUp
  cases hu : upO ws (caAt ws x : Int) with
  | none => rfl
  | some y =>
   have := (up_lower g hu).2
   dsimp only
   rw [pathUp_enough g f f' y (by omega) (by omega)]
theorem upList_none {ws : List Car} {x : Nat} (h : upO ws (caAt ws x : Int) = none) : upList ws x = [x] := by unfold upList pathUp; rw [h]
theorem upList_some {ws : List Car} (g : Good ws) {x y : Nat} (h : upO ws (caAt ws x : Int) = some y) : upList ws x = x :: upList ws y := by
 have := (up_lower g h).2
 unfold upList
 rw [pathUp]
 rw [h]
 dsimp only
 rw [pathUp_enough g _ (caAt ws y + 1) y (by omega) (by omega)]
/-- The way of water to an outlet, from the head on. -/
def pathN (ws : List Car) (x : Nat) : List Nat := (upList ws x).reverse
theorem upList_len {ws : List Car} (g : Good ws) : ∀ (c x : Nat), caAt ws x = c → (upList ws x).length ≤ c + 1 := by
 intro c
 induction c using Nat.strongRecOn with
 | _ c ih =>
  intro x hx
  cases hu : upO ws (caAt ws x : Int) with
  | none => rw [upList_none hu]; simp
  | some y =>
   have hy := (up_lower g hu).2
   have := ih (caAt ws y) (by omega) y rfl
   rw [upList_some g hu, List.length_cons]
   omega
theorem upList_mem {ws : List Car} (g : Good ws) : ∀ (c x : Nat), caAt ws x = c → x < (outs ws).length → ∀ y ∈ upList ws x, y < (outs ws).length := by
 intro c
 induction c using Nat.strongRecOn with
 | _ c ih =>
  intro x hx hxl y hy
  cases hu : upO ws (caAt ws x : Int) with
  | none => rw [upList_none hu] at hy; rw [List.mem_singleton.1 hy]; exact hxl
  | some z =>
   have hz := up_lower g hu
   rw [upList_some g hu] at hy
   rcases List.mem_cons.1 hy with rfl | hy
   ·exact hxl
   ·exact ih (caAt ws z) (by omega) z rfl hz.1 y hy

def plCells (p : Pl) : List Value := [.int .i64 p.1, .int .i64 p.2.1, .int .i64 p.2.2]
def cellsP (l : List Pl) : List Value := l.flatMap plCells
theorem cellsP_length (l : List Pl) : (cellsP l).length = l.length * 3 := by
 induction l with
 | nil => rfl
 | cons x r ih => simp only [cellsP, List.flatMap_cons, List.length_append] at ih ⊢; rw [ih]; simp [plCells]; omega
def pAt (l : List Pl) (i : Nat) : Pl := l.getD i (0, 0, 0)
theorem cellsP_at : ∀ (l : List Pl) (i j : Nat), i < l.length → j < 3 → (cellsP l)[i * 3 + j]? = (plCells (pAt l i))[j]?
 | [], i, j, h, _ => absurd h (by simp)
 | x :: r, 0, j, h, hj => by
  have e : cellsP (x :: r) = plCells x ++ cellsP r := by simp [cellsP]
  rw [e, List.getElem?_append_left (by simp [plCells]; omega)]
  simp [pAt]
 | x :: r, i + 1, j, h, hj => by
  have e : cellsP (x :: r) = plCells x ++ cellsP r := by simp [cellsP]
  have e2 : (i + 1) * 3 + j = (plCells x).length + (i * 3 + j) := by simp [plCells]; omega
  rw [e, e2, List.getElem?_append_right (by omega), Nat.add_sub_cancel_left, cellsP_at r i j (by simpa using h) hj]
  simp [pAt]
/-- A slice of places, as it reads. -/
def RdP (w : World) (B : Nat) (A : Option Addr) (l : List Pl) : Prop := 0 < l.length → ∃ b off, A = some ⟨b, off, none⟩ ∧ b < B ∧ ∀ i, i < l.length → PlAt w b (off + i * 3) (pAt l i)
theorem RdP.below {w w' : World} {B n : Nat} {A : Option Addr} {l : List Pl} (h : RdP w B A l) (hb : Below n w w') (hB : B ≤ n) : RdP w' B A l := fun hn => by
 obtain ⟨b, off, e, hl, hc⟩ := h hn
 exact ⟨b, off, e, hl, fun i hi => ⟨(hb.cell (p := ⟨b, off + i * 3, none⟩) (by show b < n; omega)).trans (hc i hi).c0, (hb.cell (p := ⟨b, off + i * 3 + 1, none⟩) (by show b < n; omega)).trans (hc i hi).c1, (hb.cell (p := ⟨b, off + i * 3 + 2, none⟩) (by show b < n; omega)).trans (hc i hi).c2⟩⟩
theorem RdP.mono {w : World} {B B' : Nat} {A : Option Addr} {l : List Pl} (h : RdP w B A l) (hB : B ≤ B') : RdP w B' A l := fun hn => by
 obtain ⟨b, off, e, hl, hc⟩ := h hn
 exact ⟨b, off, e, by omega, hc⟩
theorem RdP.ext {w w' : World} {A : Option Addr} {l : List Pl} (h : RdP w w.heap.size A l) (hb : Below w.heap.size w w') : RdP w' w'.heap.size A l := (h.below hb (Nat.le_refl _)).mono hb.size
/-- A slice of places of the call's own. -/
def OwnP (w : World) (base : Nat) (v : Value) (l : List Pl) : Prop := w.ownsRow base 103 3 v l.length (cellsP l)
theorem OwnP.plf {w : World} {base : Nat} {v : Value} {l : List Pl} (h : OwnP w base v l) (hn : 0 < l.length) : ∃ g c, v = .slice (some ⟨g, 0, none⟩) l.length c ∧ base ≤ g ∧ g < w.heap.size ∧ PlF w g l.length (pAt l) := by
 have h0 := h
 rcases h.2 with ⟨rfl, hz⟩ | ⟨g, cap, cur, rfl, hb, hg, hnc, hcm, hcs, ht⟩
 ·omega
 ·refine ⟨g, cap, rfl, hb, (Array.getElem?_eq_some_iff.1 hg).1, fun j hj => ?_, fun o => by simp [World.frozen?, hg]⟩
  have at3 := fun k (hk : k < 3) => World.ownsRow.cells h0 (g := g) rfl (j * 3 + k)
  have c := fun k (hk : k < 3) => cellsP_at l j k hj hk
  have c0 := at3 0 (by omega) _ ((c 0 (by omega)).trans rfl)
  have c1 := at3 1 (by omega) _ ((c 1 (by omega)).trans rfl)
  have c2 := at3 2 (by omega) _ ((c 2 (by omega)).trans rfl)
  rw [add_eq, Nat.zero_add] at c0 c1 c2
  exact ⟨c0, c1, c2⟩
theorem PlF.rd {w : World} {g n : Nat} {f : Nat → Pl} (h : PlF w g n f) (hg : g < w.heap.size) {l : List Pl} (hl : l.length = n) (he : ∀ j, j < n → f j = pAt l j) : RdP w w.heap.size (some ⟨g, 0, none⟩) l := fun _ =>
 ⟨g, 0, rfl, hg, fun i hi => by rw [Nat.zero_add, ← he i (by omega)]; exact h.at_ i (by omega)⟩
theorem pAt_reverse {l : List Pl} {j : Nat} (h : j < l.length) : pAt l (l.length - 1 - j) = pAt l.reverse j := by
 unfold pAt
 rw [List.getD_eq_getElem?_getD, List.getD_eq_getElem?_getD, List.getElem?_reverse h]

section
variable {P : Program}
theorem wp_append_own {op : Oper} {a : Act} {w : World} {K : Act → World → Prop} {Q : Exit → Act → World → Prop} (s x : Operand) (t : TypeId) (ho : op.op = .call { callee := .builtin .append, args := #[s, x], argTypes := #[t, t] })
  (base : Nat) (e : TypeId) (i : TypeInfo) (z : Value) (size bytes : Nat) (ht : P.underlying t = some (.slice e)) (hi : P.info? e = some i) (hz : i.zero = some z)
  (hsize : i.size = size) (hby : i.bytes = bytes) (hzs : z.cells.size = size) (hsz : 0 < size)
  (v : Value) (n : Nat) (xs : List Value) (hs : a.eval s = v) (hown : w.ownsRow base e size v n xs)
  (ad : Addr) (m c : Nat) (news : List Value) (hx : a.eval x = .slice (some ad) m c) (hl : news.length = m * size) (hnews : ∀ j u, news[j]? = some u → w.cell? (ad.add j) = some u) (h1 : ∀ u ∈ news, u.oneCell' = true)
  (h63 : n + m ≤ maxLen) (hbytes : (n + m) * bytes ≤ 140737488355328) (hbase : base ≤ w.heap.size)
  (h : ∀ v' w', w'.ownsRow base e size v' (n + m) (xs ++ news) → w.grownBy w' v.ownBlock → K (a.put op.dst v') w') : op.wp P a w K Q := by
 obtain ⟨v', w', hr, h2, h3, h4, h5⟩ := run_append_own_at (P := P) w base t op.type e i z size bytes ht hi hz hsize hby hzs hsz v n xs hown ad m c news hl hnews h1 h63 hbytes hbase
 unfold Oper.wp execOp
 simp only [ho, resolve, invoke, builtin, Sem.run_bind, Sem.run_pure, Result.andThen_ok, List.map_toArray, List.map_cons, List.map_nil, hs, hx, hr]
 exact h v' w' h2 h3
end
end Go.Proofs.YtegmniphgahblaaGreat
namespace Go.Proofs.YtegmniphgahblaaGreat
open Go.RowKit Go.Shelf

theorem info131 : (Tryz.prog.info? 103).map (fun i => (i.zero, i.size, i.bytes)) = some (some (.agg #[.int .i64 0, .int .i64 0, .int .i64 0]), 3, 24) := by kernel_rfl
theorem pl_fst (ws : List Car) (x : Nat) : plV (pl ws x) = .agg #[.int .i64 (x : Int), .int .i64 (caAt ws x : Int), .int .i64 (atAt ws x : Int)] := rfl

theorem row_later {w w' : World} {base : Nat} {e : TypeId} {size n : Nat} {v : Value} {xs : List Value} (h : w.ownsRow base e size v n xs) (hb : Below w.heap.size w w') : w'.ownsRow base e size v n xs := by
 rcases h with ⟨h1, ⟨rfl, hn⟩ | ⟨g, cap, cur, rfl, hbg, hg, hrest⟩⟩
 ·exact ⟨h1, .inl ⟨rfl, hn⟩⟩
 ·exact ⟨h1, .inr ⟨g, cap, cur, rfl, hbg, (hb.block g (Array.getElem?_eq_some_iff.1 hg).1).trans hg, hrest⟩⟩
theorem PlF.below {w w' : World} {g n m : Nat} {f : Nat → Pl} (h : PlF w g n f) (hb : Below m w w') (hg : g < m) : PlF w' g n f := ⟨fun j hj => ⟨(hb.cell (p := ⟨g, j * 3, none⟩) hg).trans (h.at_ j hj).c0, (hb.cell (p := ⟨g, j * 3 + 1, none⟩) hg).trans (h.at_ j hj).c1, (hb.cell (p := ⟨g, j * 3 + 2, none⟩) hg).trans (h.at_ j hj).c2⟩, fun o => (hb.frozen (p := ⟨g, o, none⟩) hg).trans (h.fz o)⟩
theorem row_block {w : World} {base : Nat} {e : TypeId} {size n k : Nat} {v : Value} {xs : List Value} (h : w.ownsRow base e size v n xs) (hk : v.ownBlock = some k) : base ≤ k ∧ k < w.heap.size := by
 rcases h.2 with ⟨rfl, _⟩ | ⟨g, cap, cur, rfl, hb, hg, _⟩
 ·simp [Value.ownBlock] at hk
 ·simp only [Value.ownBlock, Option.some.injEq] at hk
  exact ⟨by omega, hk ▸ (Array.getElem?_eq_some_iff.1 hg).1⟩
/-- What the loop of path keeps: acc is done, y is at hand. -/
structure PathI (w : World) (base gm : Nat) (ws : List Car) (x : Nat) (acc : List Nat) (y : Nat) (v : Value) (W : World) : Prop where
 own : OwnP W base v ((acc ++ [y]).map (pl ws))
 b : Blk W (w.heap.size + 1) #[.int .i64 (y : Int), .int .i64 (caAt ws y : Int), .int .i64 (atAt ws y : Int)] 103
 m : MapP W gm (outs ws).length (feedL ws (List.finRange (outs ws).length))
 bl : Below w.heap.size w W
 g2 : w.heap.size + 2 ≤ gm
 lt : base < W.heap.size
 gb : gm < base
 b2 : w.heap.size + 2 ≤ base
 xN : x < (outs ws).length
 yN : y < (outs ws).length
 e : upList ws x = acc ++ upList ws y
theorem PathI.len {w : World} {base gm : Nat} {ws : List Car} {x : Nat} {acc : List Nat} {y : Nat} {v : Value} {W : World} (h : PathI w base gm ws x acc y v W) (g : Good ws) : acc.length + 1 ≤ 1000 := by
 have h1 := upList_len g _ x rfl
 rw [h.e, List.length_append] at h1
 have := (g.fine h.xN).ca
 have h2 : 1 ≤ (upList ws y).length := by
  cases hu : upO ws (caAt ws y : Int) with
  | none => rw [upList_none hu]; simp
  | some z => rw [upList_some g hu]; simp
 omega

set_option maxRecDepth 100000 in
set_option maxHeartbeats 1600000 in
theorem path_any (A : Option Addr) (c : Nat) (ws : List Car) (x : Nat) (hx : x < (outs ws).length) (w : World) (hW : Wk w A ws) (g : Good ws) :
  Calls Tryz.prog 53 #[.agg #[.slice A ws.length c], plV (pl ws x)] w fun e w' => ∃ A' c', e = .returned (.slice A' (pathN ws x).length c') ∧ RdP w' w'.heap.size A' ((pathN ws x).map (pl ws)) ∧ Fresh w.heap.size A' ∧ Below w.heap.size w w' := by
 obtain ⟨i0, hi0, hz0, hz1, hz2⟩ := info_parts info131
 have hx0 := hx
 rw [pl_fst]
 have hm : ws.length ≤ maxLen := by have := hW.n1; unfold maxLen; omega
 have hN : (outs ws).length ≤ 1000000000 := by have := hW.n2; omega
 have hb : Below w.heap.size w ((w.alloc (.cells #[.slice A ws.length c] 24)).alloc (.cells #[.int .i64 (x : Int), .int .i64 (caAt ws x : Int), .int .i64 (atAt ws x : Int)] 103)) := ((Below.refl _ w).alloc (Nat.le_refl _) _).alloc (by simp) _
 have hf := feeders_any A c ws _ (hW.ext hb).rd hm hN (fun i hi => (g.wf hi).2)
 have q0 : ((w.alloc (.cells #[.slice A ws.length c] 24)).alloc (.cells #[.int .i64 (x : Int), .int .i64 (caAt ws x : Int), .int .i64 (atAt ws x : Int)] 103)).cell? ⟨w.heap.size, 0, none⟩ = some (.slice A ws.length c) := by simp [go_sem]
 have hp0 : Blk ((w.alloc (.cells #[.slice A ws.length c] 24)).alloc (.cells #[.int .i64 (x : Int), .int .i64 (caAt ws x : Int), .int .i64 (atAt ws x : Int)] 103)) (w.heap.size + 1) #[.int .i64 (x : Int), .int .i64 (caAt ws x : Int), .int .i64 (atAt ws x : Int)] 103 := blk_new _ _ _ (by simp)
 have hs1 : ((w.alloc (.cells #[.slice A ws.length c] 24)).alloc (.cells #[.int .i64 (x : Int), .int .i64 (caAt ws x : Int), .int .i64 (atAt ws x : Int)] 103)).heap.size = w.heap.size + 2 := by simp
 have H1 := hd5 hf hb hp0 g hW
 clear hf hb hp0 hm hN g hW
 go_enter Tryz.func53, Tryz.ntmps53
 go_upto_region 1 with fail
 generalize hgW : (w.alloc (.cells #[.slice A ws.length c] 24)).alloc (.cells #[.int .i64 (x : Int), .int .i64 (caAt ws x : Int), .int .i64 (atAt ws x : Int)] 103) = W1 at *
 clear hgW
 go_upto_region 2 with (go_at_call 67; go_loud (refine H1.out.1.mono ?_; rintro e w1 ⟨gm, rfl, hM, hg1, hbw⟩))
 have hp1 : Blk w1 (w.heap.size + 1) #[.int .i64 (x : Int), .int .i64 (caAt ws x : Int), .int .i64 (atAt ws x : Int)] 103 := (hbw.block (w.heap.size + 1) (by omega)).trans H1.out.2.2.1
 have p0 : w1.cell? ⟨w.heap.size + 1, 0, none⟩ = some (.int .i64 (x : Int)) := cell_row hp1
 have p1 : w1.cell? ⟨w.heap.size + 1, 1, none⟩ = some (.int .i64 (caAt ws x : Int)) := cell_row hp1
 have p2 : w1.cell? ⟨w.heap.size + 1, 2, none⟩ = some (.int .i64 (atAt ws x : Int)) := cell_row hp1
 have hgl := hM.lt
 have hsb := hbw.size
 have hb2 : Below w1.heap.size w1 (w1.alloc (.cells #[.int .i64 (x : Int), .int .i64 (caAt ws x : Int), .int .i64 (atAt ws x : Int)] 103)) := (Below.refl _ w1).alloc (Nat.le_refl _) _
 have hown : OwnP (w1.alloc (.cells #[.int .i64 (x : Int), .int .i64 (caAt ws x : Int), .int .i64 (atAt ws x : Int)] 103)) w1.heap.size (.slice (some ⟨w1.heap.size, 0, none⟩) 1 1) [pl ws x] := ⟨rfl, .inr ⟨w1.heap.size, 1, _, rfl, Nat.le_refl _, World.alloc_heap_new _ _, by simp, by unfold maxLen; omega, rfl, rfl⟩⟩
 have HM := hd5 hM (H1.out.2.1.trans (hbw.mono (by omega))) hp1 hb2 hown
 have q1 := (hbw.cell (p := ⟨w.heap.size, 0, none⟩) (by show w.heap.size < _; omega)).trans q0
 clear hM hbw hp1 hb2 hown q0
 go_wp2
 have HI0 : Hid (PathI w w1.heap.size gm ws x [] x (.slice (some ⟨w1.heap.size, 0, none⟩) 1 1) (w1.alloc (.cells #[.int .i64 (x : Int), .int .i64 (caAt ws x : Int), .int .i64 (atAt ws x : Int)] 103))) :=
  Lib.hid ⟨HM.out.2.2.2.2, (HM.out.2.2.2.1.block (w.heap.size + 1) (by omega)).trans HM.out.2.2.1, HM.out.1.below HM.out.2.2.2.1 hgl, HM.out.2.1.trans (HM.out.2.2.2.1.mono (by omega)), by omega, by simp, hgl, by omega, hx, hx, rfl⟩
 go_loopg [6] 16 (fun gg s wr => ∃ acc y A2 c2, caAt ws y ≤ gg ∧ s = .slice A2 (acc.length + 1) c2 ∧ Aside (PathI w w1.heap.size gm ws x acc y (.slice A2 (acc.length + 1) c2) wr))
 case atStart => exact ⟨[], x, _, 1, by have := (H1.out.2.2.2.1.fine hx).ca; omega, rfl, HI0.out⟩
 case round =>
  obtain ⟨acc, y, A2, c2, hg, rfl, hS⟩ := hrel
  have hI := hS.out
  have hM := hI.m
  have hyN := hI.yN
  have hb1 := hI.b
  have r0 : wr.cell? ⟨w.heap.size + 1, 0, none⟩ = some (.int .i64 (y : Int)) := cell_row hb1
  have r1 : wr.cell? ⟨w.heap.size + 1, 1, none⟩ = some (.int .i64 (caAt ws y : Int)) := cell_row hb1
  have r2 : wr.cell? ⟨w.heap.size + 1, 2, none⟩ = some (.int .i64 (atAt ws y : Int)) := cell_row hb1
  have hcy := (H1.out.2.2.2.1.fine hyN).ca
  have lk := MapP.look hM (nat_wf (n := caAt ws y) (by omega))
  rw [feed_at H1.out.2.2.2.1] at lk
  have hacc := hI.len H1.out.2.2.2.1
  have HI := Lib.hid hI
  clear hI hM hb1 hS
  cases hu : upO ws (caAt ws y : Int) with
  | none =>
   rw [hu] at lk
   simp only [Option.map_none, Option.getD_none, Option.isSome_none, plV_eq] at lk
   have hul := upList_none hu
   have hL : ((acc ++ [y]).map (pl ws)).length = acc.length + 1 := by simp
   obtain ⟨g2, c3, e, hb2, hlt2, hP⟩ := HI.out.own.plf (by omega)
   rw [hL] at e hP
   simp only [Value.slice.injEq, true_and] at e
   obtain ⟨rfl, rfl⟩ := e
   have hB1 : Below wr.heap.size wr (wr.alloc (.cells #[.int .i64 0, .int .i64 0, .int .i64 0] 103)) := (Below.refl _ wr).alloc (Nat.le_refl _) _
   have hrev := reverse_any g2 (acc.length + 1) c2 _ (wr.alloc (.cells #[.int .i64 0, .int .i64 0, .int .i64 0] 103)) (hP.below hB1 hlt2) hacc
   have hN : pathN ws x = (acc ++ [y]).reverse := by unfold pathN; rw [HI.out.e, hul]
   have HU := hd6 hrev hN hL hB1 hb2 hlt2
   clear hu hul hrev hN hL hP hB1 hb2 hlt2
   go_wp2_with (go_at_call 70; go_loud (refine HU.out.1.mono ?_; rintro e w5 ⟨rfl, hf, ho⟩; have HF := hd2 hf ho; clear hf ho))
   go_ret
   obtain ⟨_, hN, hL, hB1, hb2, hlt2⟩ := HU.out
   obtain ⟨hf, ho⟩ := HF.out
   have hln : (pathN ws x).length = acc.length + 1 := by rw [hN]; simp
   have hsz : w5.heap.size = wr.heap.size + 1 := by rw [ho.size]; simp
   refine ⟨some ⟨g2, 0, none⟩, c2, by rw [hln]; rfl, hf.rd (by omega) (by rw [List.length_map, hln]) (fun j hj => ?_), fun ad e => ?_, HI.out.bl.trans ((hB1.mono HI.out.bl.size).trans (ho.bl.mono (by have := HI.out.b2; omega)))⟩
   ·rw [hN, List.map_reverse, ← pAt_reverse (by omega), hL]
   ·cases e; have := HI.out.b2; show w.heap.size ≤ g2; omega
  | some z =>
   rw [hu] at lk
   simp only [Option.map_some, Option.getD_some, Option.isSome_some, pl, plV_eq] at lk
   have hz := up_lower H1.out.2.2.2.1 hu
   have hul := upList_some H1.out.2.2.2.1 hu
   have hL : ((acc ++ [y]).map (pl ws)).length = acc.length + 1 := by simp
   have hB1 : Below wr.heap.size wr (wr.alloc (.cells #[.int .i64 (z : Int), .int .i64 (caAt ws z : Int), .int .i64 (atAt ws z : Int)] 103)) := (Below.refl _ wr).alloc (Nat.le_refl _) _
   have hB2 : Below wr.heap.size wr ((wr.alloc (.cells #[.int .i64 (z : Int), .int .i64 (caAt ws z : Int), .int .i64 (atAt ws z : Int)] 103)).alloc (.cells #[.int .i64 (z : Int), .int .i64 (caAt ws z : Int), .int .i64 (atAt ws z : Int)] 103)) := hB1.alloc (by simp) _
   have hnew := World.news_of_block (cs := #[.int .i64 (z : Int), .int .i64 (caAt ws z : Int), .int .i64 (atAt ws z : Int)]) (t := 103) (fr := (0, 0)) (World.alloc_heap_new (wr.alloc (.cells #[.int .i64 (z : Int), .int .i64 (caAt ws z : Int), .int .i64 (atAt ws z : Int)] 103)) (.cells #[.int .i64 (z : Int), .int .i64 (caAt ws z : Int), .int .i64 (atAt ws z : Int)] 103))
   rw [World.size_alloc] at hnew
   have hown := row_later HI.out.own hB2
   rw [hL] at hown
   have e0 : ((wr.alloc (.cells #[.int .i64 (z : Int), .int .i64 (caAt ws z : Int), .int .i64 (atAt ws z : Int)] 103)).alloc (.cells #[.int .i64 (z : Int), .int .i64 (caAt ws z : Int), .int .i64 (atAt ws z : Int)] 103)).cell? ⟨wr.heap.size, 0, none⟩ = some (.int .i64 (z : Int)) := by simp [go_sem]
   have e1 : ((wr.alloc (.cells #[.int .i64 (z : Int), .int .i64 (caAt ws z : Int), .int .i64 (atAt ws z : Int)] 103)).alloc (.cells #[.int .i64 (z : Int), .int .i64 (caAt ws z : Int), .int .i64 (atAt ws z : Int)] 103)).cell? ⟨wr.heap.size, 1, none⟩ = some (.int .i64 (caAt ws z : Int)) := by simp [go_sem]
   have e2 : ((wr.alloc (.cells #[.int .i64 (z : Int), .int .i64 (caAt ws z : Int), .int .i64 (atAt ws z : Int)] 103)).alloc (.cells #[.int .i64 (z : Int), .int .i64 (caAt ws z : Int), .int .i64 (atAt ws z : Int)] 103)).cell? ⟨wr.heap.size, 2, none⟩ = some (.int .i64 (atAt ws z : Int)) := by simp [go_sem]
   have HE := hd4 e0 e1 e2 (fun k e => row_block HI.out.own (k := k) e)
   clear e0 e1 e2
   have d0 : (wr.alloc (.cells #[.int .i64 (z : Int), .int .i64 (caAt ws z : Int), .int .i64 (atAt ws z : Int)] 103)).cell? ⟨wr.heap.size, 0, none⟩ = some (.int .i64 (z : Int)) := by simp [go_sem]
   have HU := hd7 hz hul hL hB1 hB2 hnew hown
   have hblt := HI.out.lt
   have nX : ¬ w.heap.size + 1 = wr.heap.size := by have := HI.out.b2; omega
   have nY : ¬ wr.heap.size = w.heap.size + 1 := by have := HI.out.b2; omega
   have HS2 : Hid (w.heap.size + 1 < ((wr.alloc (.cells #[.int .i64 (z : Int), .int .i64 (caAt ws z : Int), .int .i64 (atAt ws z : Int)] 103)).alloc (.cells #[.int .i64 (z : Int), .int .i64 (caAt ws z : Int), .int .i64 (atAt ws z : Int)] 103)).heap.size) := Lib.hid (by have := HU.out.2.2.2.2.1.size; have := HI.out.b2; omega)
   clear hu hz hul hL hB1 hB2 hnew hown
   go_wp2
   go_region_held3 (fun X => X.cell? ⟨wr.heap.size, 0, none⟩ = some (.int .i64 (z : Int)) ∧ X.cell? ⟨wr.heap.size, 1, none⟩ = some (.int .i64 (caAt ws z : Int)) ∧ X.cell? ⟨wr.heap.size, 2, none⟩ = some (.int .i64 (atAt ws z : Int))) (go_keep)
    ((rw [if_pos (by rfl)]; refine wp_append_own _ _ 114 rfl w1.heap.size 103 i0 (.agg #[.int .i64 0, .int .i64 0, .int .i64 0]) 3 24 Tryz.underlying114 hi0 hz0 hz1 hz2 rfl (by decide) (.slice A2 (acc.length + 1) c2) (acc.length + 1) _ rfl HU.out.2.2.2.2.2.2 ⟨wr.heap.size + 1, 0, none⟩ 1 1 [.int .i64 (z : Int), .int .i64 (caAt ws z : Int), .int .i64 (atAt ws z : Int)] rfl (by simp) HU.out.2.2.2.2.2.1 (by simp [Value.oneCell']) (by unfold maxLen; omega) (by omega) (by simp; omega) ?_; intro v' w9 hown1 hgrow; have z0 := grown_cell hgrow HE.out.1 (fun e => by have := (HE.out.2.2.2 _ e.symm).2; omega); have z1 := grown_cell hgrow HE.out.2.1 (fun e => by have := (HE.out.2.2.2 _ e.symm).2; omega); have z2 := grown_cell hgrow HE.out.2.2.1 (fun e => by have := (HE.out.2.2.2 _ e.symm).2; omega); have hbx : Blk w9 (w.heap.size + 1) _ _ := (hgrow.block (w.heap.size + 1) HS2.out (fun e => by have := (HE.out.2.2.2 _ e.symm).1; have := HI.out.b2; omega)).trans ((HU.out.2.2.2.2.1.block (w.heap.size + 1) (by have := HI.out.b2; omega)).trans HI.out.b); have y0 : w9.cell? ⟨w.heap.size + 1, 0, none⟩ = _ := cell_row hbx; have y1 : w9.cell? ⟨w.heap.size + 1, 1, none⟩ = _ := cell_row hbx; have y2 : w9.cell? ⟨w.heap.size + 1, 2, none⟩ = _ := cell_row hbx; have x0 := bf 0 hbx; have x1 := bf 1 hbx; have x2 := bf 2 hbx; have HG := hd3 hown1 hgrow hbx; clear hown1 hgrow hbx))
   obtain ⟨A', c', rfl⟩ := row_slice HG.out.1
   have HFin : Hid (PathI w w1.heap.size gm ws x (acc ++ [y]) z (.slice A' (acc.length + 1 + 1) c') (((w9.setCell ⟨w.heap.size + 1, 0, none⟩ (.int .i64 (z : Int))).setCell ⟨w.heap.size + 1, 1, none⟩ (.int .i64 (caAt ws z : Int))).setCell ⟨w.heap.size + 1, 2, none⟩ (.int .i64 (atAt ws z : Int)))) := Lib.hid (by
    obtain ⟨hz, hul, hL, hB1, hB2, hnew, hown⟩ := HU.out
    have hgr : ((wr.alloc (.cells #[.int .i64 (z : Int), .int .i64 (caAt ws z : Int), .int .i64 (atAt ws z : Int)] 103)).alloc (.cells #[.int .i64 (z : Int), .int .i64 (caAt ws z : Int), .int .i64 (atAt ws z : Int)] 103)).drew.grownBy w9 (Value.slice A2 (acc.length + 1) c2).ownBlock := HG.out.2.1
    have hne := fun k (e : (Value.slice A2 (acc.length + 1) c2).ownBlock = some k) => row_block HI.out.own e
    have hi := HI.out
    have hi2 := hi.b2
    have hgb := hi.gb
    have hg2 := hi.g2
    have hsb := hi.bl.size
    have hs9 : ((wr.alloc (.cells #[.int .i64 (z : Int), .int .i64 (caAt ws z : Int), .int .i64 (atAt ws z : Int)] 103)).alloc (.cells #[.int .i64 (z : Int), .int .i64 (caAt ws z : Int), .int .i64 (atAt ws z : Int)] 103)).heap.size ≤ w9.heap.size := hgr.size
    have hsz := hB2.size
    refine ⟨?_, heap_setCell_same _ _ 2 _ _ _ (heap_setCell_same _ _ 1 _ _ _ (heap_setCell_same _ _ 0 _ _ _ HG.out.2.2)), ?_, ?_, hg2, ?_, hgb, hi2, hi.xN, hz.1, ?_⟩
    ·have h1 := ownsRow_setCell_below (ownsRow_setCell_below (ownsRow_setCell_below HG.out.1 (a := ⟨w.heap.size + 1, 0, none⟩) (by show w.heap.size + 1 < _; omega) (.int .i64 (z : Int))) (a := ⟨w.heap.size + 1, 1, none⟩) (by show w.heap.size + 1 < _; omega) (.int .i64 (caAt ws z : Int))) (a := ⟨w.heap.size + 1, 2, none⟩) (by show w.heap.size + 1 < _; omega) (.int .i64 (atAt ws z : Int))
     have e2 : (acc ++ [y] ++ [z]).map (pl ws) = (acc ++ [y]).map (pl ws) ++ [pl ws z] := by simp
     unfold OwnP
     rw [e2, List.length_append, hL]
     have e3 : cellsP ((acc ++ [y]).map (pl ws) ++ [pl ws z]) = cellsP ((acc ++ [y]).map (pl ws)) ++ [.int .i64 (z : Int), .int .i64 (caAt ws z : Int), .int .i64 (atAt ws z : Int)] := by
      unfold cellsP
      rw [List.flatMap_append]
      rfl
     rw [e3]
     exact h1
    ·exact (((MapI.kept (hi.m.below hB2.drew (by omega)) hgr (fun e => by have := (hne _ e.symm).1; omega)).setCell _ _ (by show w.heap.size + 1 ≠ gm; omega)).setCell _ _ (by show w.heap.size + 1 ≠ gm; omega)).setCell _ _ (by show w.heap.size + 1 ≠ gm; omega)
    ·exact (((((hi.bl.trans (hB2.mono hsb)).drew.grown hgr (by show w.heap.size ≤ ((wr.alloc (.cells #[.int .i64 (z : Int), .int .i64 (caAt ws z : Int), .int .i64 (atAt ws z : Int)] 103)).alloc (.cells #[.int .i64 (z : Int), .int .i64 (caAt ws z : Int), .int .i64 (atAt ws z : Int)] 103)).heap.size; omega) (fun k e => by have := (hne k e).1; omega)).setCell (p := ⟨w.heap.size + 1, 0, none⟩) (by show w.heap.size ≤ w.heap.size + 1; omega) _).setCell (p := ⟨w.heap.size + 1, 1, none⟩) (by show w.heap.size ≤ w.heap.size + 1; omega) _).setCell (p := ⟨w.heap.size + 1, 2, none⟩) (by show w.heap.size ≤ w.heap.size + 1; omega) _)
    ·rw [World.size_setCell, World.size_setCell, World.size_setCell]; have := hi.lt; omega
    ·rw [hi.e, hul]; simp)
   have hzc := HU.out.1.2
   go_wp2
   go_roundg (caAt ws z)
   case measure => omega
   case rel => exact ⟨acc ++ [y], z, A', c', Nat.le_refl _, by rw [List.length_append]; rfl, by rw [List.length_append]; exact HFin.out⟩
end Go.Proofs.YtegmniphgahblaaGreat
namespace Go.Proofs.YtegmniphgahblaaGreat
open Go.RowKit

/-- The head of the way to an outlet. -/
def headOf (ws : List Car) (x : Nat) : Nat := (pathN ws x).getD 0 0
theorem pathN_pos {ws : List Car} (g : Good ws) (x : Nat) : 0 < (pathN ws x).length := by
 unfold pathN
 rw [List.length_reverse]
 cases hu : upO ws (caAt ws x : Int) with
 | none => rw [upList_none hu]; simp
 | some z => rw [upList_some g hu]; simp
theorem pathN_le {ws : List Car} (g : Good ws) {x : Nat} (hx : x < (outs ws).length) : (pathN ws x).length ≤ 16 := by
 have h1 := upList_len g _ x rfl
 have := (g.fine hx).ca
 unfold pathN
 rw [List.length_reverse]
 omega
theorem pathN_mem {ws : List Car} (g : Good ws) {x : Nat} (hx : x < (outs ws).length) {y : Nat} (hy : y ∈ pathN ws x) : y < (outs ws).length := upList_mem g _ x rfl hx y (by unfold pathN at hy; exact List.mem_reverse.1 hy)
theorem pathN_at {ws : List Car} (g : Good ws) {x : Nat} (hx : x < (outs ws).length) {k : Nat} (hk : k < (pathN ws x).length) : (pathN ws x).getD k 0 < (outs ws).length := by
 refine pathN_mem g hx ?_
 rw [List.getD_eq_getElem?_getD, List.getElem?_eq_getElem hk]
 exact List.getElem_mem hk
theorem pAt_map {ws : List Car} {l : List Nat} {k : Nat} (hk : k < l.length) : pAt (l.map (pl ws)) k = pl ws (l.getD k 0) := by
 unfold pAt
 simp [hk]
/-- The signs of the first k heads. -/
def rivTo (ws : List Car) (x k : Nat) : List Int := ((headsTo ws ws.length).take k).map fun h => if h = caAt ws (headOf ws x) then 1 else 0
theorem rivTo_succ {ws : List Car} {x k : Nat} (hk : k < (headsTo ws ws.length).length) : rivTo ws x (k + 1) = rivTo ws x k ++ [if (headsTo ws ws.length).getD k 0 = caAt ws (headOf ws x) then 1 else 0] := by
 unfold rivTo
 rw [List.take_add_one, List.map_append]
 simp [hk]
theorem rivTo_length {ws : List Car} {x k : Nat} (hk : k ≤ (headsTo ws ws.length).length) : (rivTo ws x k).length = k := by unfold rivTo; simp; omega
def rivS (ws : List Car) (x : Nat) : List Int := rivTo ws x (headsTo ws ws.length).length
/-- The outlet of the way on each carrier. -/
def onL (ws : List Car) (l : List Nat) : Int → Option Pl := l.foldl (fun f y => upd f (caAt ws y : Int) (pl ws y)) (fun _ => none)
theorem onL_succ {ws : List Car} {l : List Nat} {k : Nat} (hk : k < l.length) : onL ws (l.take (k + 1)) = upd (onL ws (l.take k)) (caAt ws (l.getD k 0) : Int) (pl ws (l.getD k 0)) := by
 unfold onL
 rw [List.take_add_one, List.foldl_append]
 simp [hk]
def lastO (ws : List Car) (x i : Nat) : Option Pl := onL ws (pathN ws x) (caAt ws i : Int)
def hatV (ws : List Car) (x i : Nat) : Int := match lastO ws x i with | none => 0 | some p => if pl ws i = p then 1 else if (atAt ws i : Int) ≤ p.2.2 then -1 else 0
def reaV (ws : List Car) (x i : Nat) : Int := match lastO ws x i with | none => 0 | some p => if (atAt ws i : Int) ≤ p.2.2 then -1 else 0
def hatL (ws : List Car) (x : Nat) (l : List (Fin (outs ws).length)) : List Int := l.map fun i => hatV ws x i.1
def reaL (ws : List Car) (x : Nat) (l : List (Fin (outs ws).length)) : List Int := l.map fun i => reaV ws x i.1
def hatS (ws : List Car) (x : Nat) : List Int := (List.range (outs ws).length).map (hatV ws x)
def reaS (ws : List Car) (x : Nat) : List Int := (List.range (outs ws).length).map (reaV ws x)
theorem finRange_map {n : Nat} {β : Type} (f : Nat → β) : (List.finRange n).map (fun i => f i.1) = (List.range n).map f := by
 refine List.ext_getElem (by simp) (fun i h1 h2 => by simp)
theorem hatL_all (ws : List Car) (x : Nat) : hatL ws x (List.finRange (outs ws).length) = hatS ws x := finRange_map _
theorem reaL_all (ws : List Car) (x : Nat) : reaL ws x (List.finRange (outs ws).length) = reaS ws x := finRange_map _
end Go.Proofs.YtegmniphgahblaaGreat
