/- Walks: the specification's path. -/
import Derived.Test.YtdadoelajhemjaaE1
import Derived.Test.YtdadoelajhemjaaC3
import Derived.Test.YtdadoelajhemjaaM5
namespace Go.Proofs.Ytdadoelajhemjaa
open Go.RowKit Go.Shelf

def pthS (g b6 o6 b5 o5 : Nat) (v v1 v2 : Value) (k : Nat) (X : World) : Prop := match k with
 | 0 => X.cell? ⟨g, 0, none⟩ = some v
 | 1 => X.cell? ⟨b6, o6, none⟩ = some v1
 | 2 => X.cell? ⟨b5, o5, none⟩ = some v2
 | _ => True
theorem pthS_on {g b6 o6 b5 o5 : Nat} {v v1 v2 : Value} {k : Nat} {X Y : World} (hb : Below X.heap.size X Y) (h : pthS g b6 o6 b5 o5 v v1 v2 k X) : pthS g b6 o6 b5 o5 v v1 v2 k Y := by
 have c := fun {a : Addr} {u : Value} (e : X.cell? a = some u) => (hb.cell (p := a) (lt_of_cell e)).trans e
 match k, h with
 | 0, h => exact c h
 | 1, h => exact c h
 | 2, h => exact c h
 | _ + 3, _ => trivial
def natI (l : List Nat) : List Int := l.map fun n : Nat => (n : Int)
theorem natI_length (l : List Nat) : (natI l).length = l.length := by simp [natI]
theorem natI_at {l : List Nat} {i : Nat} (h : i < l.length) : nth (natI l) i = ((l.getD i 0 : Nat) : Int) := by
 unfold natI nth
 simp [h]
def pathI (ws : List Car) (x : Nat) : List Int := natI (pathN ws x)
theorem path_up {ws : List Car} (g : Good ws) {x y z : Nat} {tl : List Nat} (h : pathN ws x = (upList ws y).reverse ++ tl) (hu : upO ws (caAt ws y : Int) = some z) : pathN ws x = (upList ws z).reverse ++ (y :: tl) := by
 rw [h, upList_some g hu, List.reverse_cons, List.append_assoc]
 rfl
theorem path_top {ws : List Car} {x y : Nat} {tl : List Nat} (h : pathN ws x = (upList ws y).reverse ++ tl) (hu : upO ws (caAt ws y : Int) = none) : pathN ws x = y :: tl := by
 rw [h, upList_none hu]
 rfl
theorem pathN_len {ws : List Car} (g : Good ws) {x : Nat} (hx : x < (outs ws).length) : (pathN ws x).length ≤ 17 := by
 unfold pathN
 rw [List.length_reverse]
 have := upList_len g _ x rfl
 have := caAt_lt hx
 have := g.n1
 omega
set_option maxRecDepth 100000 in
set_option maxHeartbeats 3200000 in
theorem rPath_any (A : Option Addr) (c : Nat) (ws : List Car) (x : Nat) (hx : x < (outs ws).length) (w : World) (h : Wk w A ws) (g : Good ws) :
  Calls Try.prog 121 #[.agg #[.slice A ws.length c], .int .i64 (x : Int)] w fun e w' => RSlice w (pathI ws x) e w' := by
 obtain ⟨i0, hi0, hz0, hz1, hz2⟩ := info_parts info3
 have n1 := g.n1
 have n2 := g.n2
 have hb : Below w.heap.size w (w.alloc (.cells #[.slice A ws.length c] 24)) := (Below.refl _ w).alloc (Nat.le_refl _) _
 have K := Lib.hid (((stays_bl hb).and (stays_blk (blk_new w #[.slice A ws.length c] 24 rfl))).and (stays_wk (h.ext hb)))
 have HS := Lib.hid (show w.heap.size ≤ (w.alloc (.cells #[.slice A ws.length c] 24)).heap.size by simp)
 have HG := hd2 g hx
 clear hb h hx g
 go_enter Try.func121, Try.ntmps121
 go_upto_region 1 with fail
 generalize w.alloc (.cells #[.slice A ws.length c] 24) = W1 at *
 have p0 := cr 0 K.out.1.1.2
 go_upto_region 2 with (go_at_call 112; refine (rPlaces_any A c ws _ K.out.1.2).mono ?_; rintro e w2 ⟨A5, c5, rfl, hr, hb⟩; have K2 := Lib.hid ((K.out.on hb).and (show Stays (fun X => RdS X X.heap.size A5 (plS ws (outs ws).length)) _ from ⟨hr, fun _ _ a b => a.ext b⟩)); have HB0 := Lib.hid (Nat.le_trans HS.out hb.size); clear hr hb)
 clear p0 K
 go_upto_region 3 with fail
 have HB := hd2 ((Below.refl _ w2).alloc (Nat.le_refl _) (.cells #[.int .i64 (x : Int)] 3)) (rd_of_blk (xs := [(x : Int)]) (blk_new w2 #[.int .i64 (x : Int)] 3 rfl))
 have HB2 := Lib.hid (K2.out.on HB.out.1)
 have HFr : Hid (Fresh w.heap.size (some ⟨w2.heap.size, 0, none⟩)) := Lib.hid (fun a e => by cases e; exact HB0.out)
 generalize w2.alloc (.cells #[.int .i64 (x : Int)] 3) = w3 at *
 generalize w2.heap.size = g6 at *
 go_loopg [6, 7] 16 (fun gg out _ wr => ∃ (y : Nat) (tl : List Nat) (A6 : Option Addr) (c6 : Nat), caAt ws y ≤ gg ∧ out = .slice A6 (tl.length + 1) c6 ∧ Aside (y < (outs ws).length ∧ pathN ws x = (upList ws y).reverse ++ tl ∧ Below w3.heap.size w3 wr ∧ Rd wr wr.heap.size A6 (natI (y :: tl)) ∧ Fresh w.heap.size A6))
 case atStart => exact ⟨x, [], _, 1, by have := caAt_lt HG.out.2; omega, rfl, HG.out.2, by rw [List.append_nil]; rfl, Below.refl _ _, HB.out.2, HFr.out⟩
 case round =>
  obtain ⟨y, tl, A6, c6, hgg, rfl, hA⟩ := hrel
  have HA := Lib.hid hA.out
  clear hA
  have htl : tl.length ≤ 16 := by
   have h1 := pathN_len HG.out.1 HG.out.2
   rw [HA.out.2.1, List.length_append, List.length_reverse] at h1
   have h2 : 0 < (upList ws y).length := by
    cases hu : upO ws (caAt ws y : Int) with
    | none => rw [upList_none hu]; simp
    | some z => rw [upList_some HG.out.1 hu]; simp
   omega
  obtain ⟨b6, o6, rfl, _, hc6⟩ := HA.out.2.2.2.1 (by simp [natI])
  have L := Lib.hid (HB2.out.on HA.out.2.2.1.drew)
  obtain ⟨b5, o5, rfl, _, hc5⟩ := L.out.1.2 (by rw [plS_length]; exact Nat.lt_of_le_of_lt (Nat.zero_le _) HA.out.1)
  have s0 : pthS w.heap.size b6 o6 b5 (o5 + y * 2) (.slice A ws.length c) (.int .i64 (y : Int)) (.int .i64 (caAt ws y : Int)) 0 wr.drew := cr 0 L.out.1.1.1.2
  have s1 : pthS w.heap.size b6 o6 b5 (o5 + y * 2) (.slice A ws.length c) (.int .i64 (y : Int)) (.int .i64 (caAt ws y : Int)) 1 wr.drew := hc6 0 (by simp [natI])
  have s2 : pthS w.heap.size b6 o6 b5 (o5 + y * 2) (.slice A ws.length c) (.int .i64 (y : Int)) (.int .i64 (caAt ws y : Int)) 2 wr.drew := by
   have h := (hc5 y (by rw [plS_length]; exact HA.out.1)).c0
   rw [plS_at HA.out.1] at h
   exact h
  have hyN : (y : Int) < ((outs ws).length : Int) := by have := HA.out.1; omega
  have htz : (0 : Int) < ((tl.length + 1 : Nat) : Int) := by omega
  have HD := Lib.hid HA.out.2.2.1.drew
  have HRD := Lib.hid (show Below wr.heap.size wr wr.drew from (Below.refl _ _).drew)
  clear hc6 hc5
  have HFD := Lib.hid (fun W hW => rFeeder_any A c ws (caAt ws y : Int) W hW)
  obtain ⟨u, hu⟩ : ∃ u, upO ws (caAt ws y : Int) = u := ⟨_, rfl⟩
  have HU := Lib.hid hu
  clear hu
  go_upto_region 3 with fail
  refine wp_region_K (by kernel_rfl) (pthS w.heap.size b6 o6 b5 (o5 + y * 2) (.slice A ws.length c) (.int .i64 (y : Int)) (.int .i64 (caAt ws y : Int))) (fun _ _ => true) ?_
  generalize wr.drew = X0 at *
  refine kT 0 0 rfl ?_
  refine kT 3 1 rfl ?_
  refine kT 3 2 rfl ?_
  refine kT 3 3 rfl ?_
  refine kT 1 4 rfl ?_
  refine kT 3 5 rfl ?_
  refine kT 3 6 rfl ?_
  refine kT 2 7 rfl ?_
  refine kR 8 rfl fun K hK => ?_
  go_simp
  refine (HFD.out X0 L.out.1.1.2).mono ?_
  rw [HU.out]
  rintro e X1 ⟨rfl, hb⟩
  dsimp only
  refine hK.out _ _ (fun k _ h => pthS_on hb h) ?_
  have M := hd3 (L.out.on hb) hb (HD.out.trans (hb.mono HD.out.size))
  clear hK hb L s0 s1 s2 HFD
  refine kT 3 9 rfl ?_
  refine kD ?_
  cases u with
  | none =>
   have hp := path_top HA.out.2.1 HU.out
   have HR : Hid (Rd X1 X1.heap.size (some ⟨b6, o6, none⟩) (pathI ws x) ∧ (pathI ws x).length = tl.length + 1) := by
    have e : pathI ws x = natI (y :: tl) := by unfold pathI; rw [hp]
    rw [e]
    exact Lib.hid ⟨(HA.out.2.2.2.1.ext (HRD.out)).ext M.out.2.1, by rw [natI_length]; rfl⟩
   clear hp
   dsimp only [idxI]
   go_wp2
   go_ret
   exact ⟨some ⟨b6, o6, none⟩, c6, by rw [HR.out.2]; rfl, HR.out.1, HA.out.2.2.2.2, M.out.1.1.1.1.1⟩
  | some z =>
   have hzn : ¬ (z : Int) < 0 := by omega
   have HP := hd2 (path_up HG.out.1 HA.out.2.1 HU.out) (up_lower HG.out.1 HU.out)
   dsimp only [idxI]
   go_upto_region 6 with fail
   have hA6 : Rd X1 X1.heap.size (some ⟨b6, o6, none⟩) (natI (y :: tl)) := (HA.out.2.2.2.1.ext HRD.out).ext M.out.2.1
   have hbA := (Below.refl _ X1).alloc (Nat.le_refl _) (.cells #[.int .i64 (z : Int)] 3)
   have hown : (X1.alloc (.cells #[.int .i64 (z : Int)] 3)).ownsRow X1.heap.size 3 1 (.slice (some ⟨X1.heap.size, 0, none⟩) 1 1) 1 [.int .i64 (z : Int)] := ⟨rfl, .inr ⟨X1.heap.size, 1, _, rfl, Nat.le_refl _, World.alloc_heap_new _ _, Nat.le_refl _, by unfold maxLen; omega, rfl, rfl⟩⟩
   have HN := hd3 hown (hA6.ext hbA) hbA
   clear hbA hA6 hown
   go_wp2_with (at_builtin; refine wpList_append_own_at _ rfl _ _ 25 rfl X1.heap.size 3 i0 (.int .i64 0) 1 8 Try.underlying25 hi0 hz0 hz1 hz2 rfl (by decide) (.slice (some ⟨X1.heap.size, 0, none⟩) 1 1) 1 [.int .i64 (z : Int)] rfl HN.out.1 ⟨b6, o6, none⟩ (tl.length + 1) c6 ((natI (y :: tl)).map (Value.int .i64)) rfl (by simp [natI]) ?c2 (ints_oneCell _ _) (by unfold maxLen; omega) (by omega) HN.out.2.2.size ?_)
   case c2 =>
    intro j a hj
    obtain ⟨hl, _⟩ := List.getElem?_eq_some_iff.1 hj
    obtain ⟨b', off', e, hlb, hc⟩ := HN.out.2.1 (by omega)
    cases e
    have h := hc j hl
    rw [show nth (natI (y :: tl)) j = a from by unfold nth; rw [List.getD_eq_getElem?_getD, hj]; rfl] at h
    exact h
   intro v' w9 hown1 hgrow _ _
   have hO9 : Own w9 X1.heap.size v' (natI (z :: y :: tl)) := by
    have e : 1 + (tl.length + 1) = (natI (z :: y :: tl)).length := by simp [natI]; omega
    rw [e] at hown1
    exact hown1
   obtain ⟨A9, c9, rfl, hr9, hf9⟩ := hO9.rd
   have hb9 : Below X1.heap.size X1 w9 := HN.out.2.2.grown hgrow HN.out.2.2.size (fun k e => by cases e; exact Nat.le_refl _)
   have HQ := hd3 hr9 (hf9.mono M.out.1.1.1.1.1.size) (M.out.2.2.trans (hb9.mono M.out.2.2.size))
   clear hO9 hown1 hgrow hr9 hf9 hb9
   rw [natI_length]
   go_wp2
   go_roundg (caAt ws z)
   case measure => have := HP.out.2.2; omega
   case rel => exact ⟨z, y :: tl, A9, c9, by omega, rfl, (show _ ∧ _ ∧ _ ∧ _ ∧ _ from ⟨HP.out.2.1, HP.out.1, HQ.out.2.2, HQ.out.1, HQ.out.2.1⟩)⟩
end Go.Proofs.Ytdadoelajhemjaa
