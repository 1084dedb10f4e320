/- Walks: flowing and boarded, of the law CarrierGets. -/
import Derived.Test.YtdadoelajhemjaaL1
import Derived.Test.YtdadoelajhemjaaM10
import Derived.Test.YtdadoelajhemjaaM5
import Derived.Test.YtdadoelajhemjaaM8
import Derived.Test.YtdadoelajhemjaaM12
namespace Go.Proofs.Ytdadoelajhemjaa
open Go.RowKit Go.Shelf

theorem own_ints {B : Nat} {w' : World} {v' : Value} {bo : List Int} (hown : w'.ownsRow B 3 1 v' (0 + bo.length) ([] ++ bo.map (Value.int .i64))) (h0 : 0 < bo.length) : ∃ g cap, v' = .slice (some ⟨g, 0, none⟩) bo.length cap ∧ B ≤ g ∧ g < w'.heap.size ∧ IntF w' g bo.length (nth bo) := by
 rw [Nat.zero_add, List.nil_append] at hown
 rcases hown.2 with ⟨e, hn⟩ | ⟨g, cap, cur, e, hbg, hg2, _⟩
 ·omega
 ·subst e
  exact ⟨g, cap, rfl, hbg, (Array.getElem?_eq_some_iff.1 hg2).1, fun j hj => by
   have h1 := World.ownsRow.cells hown (g := g) rfl j _ (nth_map hj)
   rw [add_eq, Nat.zero_add] at h1
   exact h1, fun o => by simp [World.frozen?, hg2]⟩
/-- The box of water, the box of a result, and a list of the call's own. -/
structure GvI (w X : World) (cs : Array Value) (g n : Nat) (f : Nat → Int) : Prop where
 bl : Below w.heap.size w X
 k0 : Blk X w.heap.size cs 27
 kr : Blk X (w.heap.size + 1) #[.slice none 0 0, .slice none 0 0, .slice none 0 0, .slice none 0 0] 27
 kf : IntF X g n f
 lo : w.heap.size + 2 ≤ g
 hi : g < X.heap.size
theorem gvI_of {w X Y : World} {vs : Array Value} {g n j : Nat} {f : Nat → Int} {cs : Array Value} {v : Value} (hc : vs.setIfInBounds j v = cs) (h1 : Below w.heap.size w X) (h2 : Blk X w.heap.size vs 27) (h3 : Blk X (w.heap.size + 1) #[.slice none 0 0, .slice none 0 0, .slice none 0 0, .slice none 0 0] 27) (h4 : X.heap.size = w.heap.size + 1 + 1) (h5 : X.heap.size ≤ g) (h6 : IntF Y g n f) (h7 : Below X.heap.size X Y) (h8 : g < Y.heap.size) : GvI w (Y.setCell ⟨w.heap.size, j, none⟩ v) cs g n f :=
 ⟨(h1.trans (h7.mono h1.size)).setCell (p := ⟨w.heap.size, j, none⟩) (Nat.le_refl _) _, hc ▸ heap_setCell_same _ _ j _ _ _ (blk_on h2 h7), (Below.heap_setCell _ _ _ _ (by show w.heap.size + 1 ≠ w.heap.size; omega)).trans (blk_on h3 h7), h6.heap (Below.heap_setCell _ _ _ _ (by show g ≠ w.heap.size; omega)), by omega, by rw [World.size_setCell]; exact h8⟩
theorem GvI.set {w X : World} {cs : Array Value} {g n x : Nat} {f : Nat → Int} (h : GvI w X cs g n f) (hx : x < n) (v : Int) : GvI w (X.setCell ⟨g, x, none⟩ (.int .i64 v)) cs g n (put f x v) := by
 have h5 := h.lo
 exact ⟨h.bl.setCell (p := ⟨g, x, none⟩) (by show w.heap.size ≤ g; omega) _, (Below.heap_setCell _ _ _ _ (by show w.heap.size ≠ g; omega)).trans h.k0, (Below.heap_setCell _ _ _ _ (by show w.heap.size + 1 ≠ g; omega)).trans h.kr, h.kf.set hx v, h.lo, by rw [World.size_setCell]; exact h.hi⟩
set_option maxRecDepth 100000 in
set_option maxHeartbeats 3200000 in
theorem flowing_any (A : Option Addr) (c : Nat) (ws : List Car) (s : Wt) (x : Nat) (w : World) (h : Wk w A ws) (hs : Wet w s) (hcw : cwE ws s = 0) (hx : x < (outs ws).length) :
  Calls Try.prog 40 #[.agg #[.slice A ws.length c], s.v, .int .i64 (x : Int)] w fun e w' => e = .returned (.int .i64 (flowF ws s x)) ∧ Below w.heap.size w w' := by
 obtain ⟨A0, A1, A2, A3, d0, d1, d2, d3, ri, bo, lk, lo⟩ := s
 have hfn : nth (flowsO ws ⟨A0, A1, A2, A3, d0, d1, d2, d3, ri, bo, lk, lo⟩) x = flowF ws ⟨A0, A1, A2, A3, d0, d1, d2, d3, ri, bo, lk, lo⟩ x := by unfold flowsO; rw [if_pos hcw, nth_range _ hx]
 have hlen := flowsO_length hcw
 have hFL := fun W a b => (Flow_any A c ws ⟨A0, A1, A2, A3, d0, d1, d2, d3, ri, bo, lk, lo⟩ W a b)
 rw [hcw, hlen] at hFL
 rw [← hfn]
 have hb : Below w.heap.size w ((w.alloc (.cells #[.slice A ws.length c] 24)).alloc (.cells #[.slice A0 ri.length d0, .slice A1 bo.length d1, .slice A2 lk.length d2, .slice A3 lo.length d3] 27)) := ((Below.refl _ w).alloc (Nat.le_refl _) _).alloc (by simp) _
 have K := Lib.hid ((((stays_bl hb).and (stays_blk (blk_alloc (blk_new w #[.slice A ws.length c] 24 rfl) _))).and (stays_blk (g := w.heap.size + 1) (blk_new (w.alloc (.cells #[.slice A ws.length c] 24)) #[.slice A0 ri.length d0, .slice A1 bo.length d1, .slice A2 lk.length d2, .slice A3 lo.length d3] 27 (by simp)))).and ((stays_wk (h.ext hb)).and (stays_wet (hs.ext hb))))
 have HF := hd2 hFL hlen
 clear hb h hs hfn hlen hFL hcw
 generalize flowsO ws ⟨A0, A1, A2, A3, d0, d1, d2, d3, ri, bo, lk, lo⟩ = F at *
 dsimp only [Wt.v] at HF ⊢
 go_enter Try.func40, Try.ntmps40
 go_upto_region 1 with fail
 generalize ((w.alloc (.cells #[.slice A ws.length c] 24)).alloc (.cells #[.slice A0 ri.length d0, .slice A1 bo.length d1, .slice A2 lk.length d2, .slice A3 lo.length d3] 27)) = W1 at *
 have p0 := cr 0 K.out.1.1.1.2
 have p1 := cr 0 K.out.1.1.2
 have p2 := cr 1 K.out.1.1.2
 have p3 := cr 2 K.out.1.1.2
 have p4 := cr 3 K.out.1.1.2
 have hxz : ¬ ((outs ws).length : Int) ≤ (x : Int) := by omega
 have hxn : ¬ (outs ws).length ≤ x := by omega
 go_wp2_with (go_at_call 21; refine (HF.out.1 _ K.out.1.2.1 K.out.1.2.2).mono ?_; rintro e w2 ⟨A8, c8, rfl, hr, -, hb⟩; obtain ⟨b8, o8, rfl, -, hc8⟩ := hr (by rw [HF.out.2]; omega); have z1 := hc8 x (by rw [HF.out.2]; exact hx); have K6 := Lib.hid (K.out.on hb); clear hb hc8 hr)
 go_ret
 exact ⟨rfl, K6.out.1.1.1.1⟩
set_option maxRecDepth 100000 in
set_option maxHeartbeats 3200000 in
theorem boarded_ok (A0 A2 A3 : Option Addr) (bb ob d0 d1 d2 d3 : Nat) (ri bo lk lo : List Int) (x : Nat) (v : Int) (w : World) (hs : Wet w ⟨A0, some ⟨bb, ob, none⟩, A2, A3, d0, d1, d2, d3, ri, bo, lk, lo⟩) (hx : x < bo.length) :
  Calls Try.prog 41 #[.agg #[.slice A0 ri.length d0, .slice (some ⟨bb, ob, none⟩) bo.length d1, .slice A2 lk.length d2, .slice A3 lo.length d3], .int .i64 (x : Int), .int .i64 v] w fun e w' => ∃ g9 cp, e = .returned (.agg #[.slice A0 ri.length d0, .slice (some ⟨g9, 0, none⟩) bo.length cp, .slice A2 lk.length d2, .slice A3 lo.length d3]) ∧ Wet w' ⟨A0, some ⟨g9, 0, none⟩, A2, A3, d0, cp, d2, d3, ri, bo.set x v, lk, lo⟩ ∧ Below w.heap.size w w' := by
 obtain ⟨i0, hi0, hz0, hz1, hz2⟩ := info_parts info3
 have hm : bo.length ≤ 1000 := hs.m1
 have hb : Below w.heap.size w ((w.alloc (.cells #[.slice A0 ri.length d0, .slice (some ⟨bb, ob, none⟩) bo.length d1, .slice A2 lk.length d2, .slice A3 lo.length d3] 27)).alloc (.cells #[.slice none 0 0, .slice none 0 0, .slice none 0 0, .slice none 0 0] 27)) := ((Below.refl _ w).alloc (Nat.le_refl _) _).alloc (by simp) _
 have K := Lib.hid (((stays_bl hb).and (stays_blk (blk_alloc (blk_new w #[.slice A0 ri.length d0, .slice (some ⟨bb, ob, none⟩) bo.length d1, .slice A2 lk.length d2, .slice A3 lo.length d3] 27 rfl) (.cells #[.slice none 0 0, .slice none 0 0, .slice none 0 0, .slice none 0 0] 27)))).and ((stays_blk (g := w.heap.size + 1) (blk_new (w.alloc (.cells #[.slice A0 ri.length d0, .slice (some ⟨bb, ob, none⟩) bo.length d1, .slice A2 lk.length d2, .slice A3 lo.length d3] 27)) #[.slice none 0 0, .slice none 0 0, .slice none 0 0, .slice none 0 0] 27 (by simp))).and (stays_wet (hs.ext hb))))
 have HS := Lib.hid (show (((w.alloc (.cells #[.slice A0 ri.length d0, .slice (some ⟨bb, ob, none⟩) bo.length d1, .slice A2 lk.length d2, .slice A3 lo.length d3] 27)).alloc (.cells #[.slice none 0 0, .slice none 0 0, .slice none 0 0, .slice none 0 0] 27))).heap.size = w.heap.size + 1 + 1 by simp)
 have HW := Lib.hid hs
 clear hb hs
 go_enter Try.func41, Try.ntmps41
 go_upto_region 1 with fail
 generalize ((w.alloc (.cells #[.slice A0 ri.length d0, .slice (some ⟨bb, ob, none⟩) bo.length d1, .slice A2 lk.length d2, .slice A3 lo.length d3] 27)).alloc (.cells #[.slice none 0 0, .slice none 0 0, .slice none 0 0, .slice none 0 0] 27)) = x3 at *
 have q1 := cr 1 K.out.1.1.2
 have f1 := bf 1 K.out.1.1.2
 have HE := Lib.hid (K.out.on ((Below.refl _ x3).alloc (Nat.le_refl _) (.cells #[] 3)))
 have HN : Hid ((x3.alloc (.cells #[] 3)).ownsRow x3.heap.size 3 1 (.slice (some ⟨x3.heap.size, 0, none⟩) 0 0) 0 [] ∧ (∀ (j : Nat) (u : Value), (bo.map (Value.int .i64))[j]? = some u → (x3.alloc (.cells #[] 3)).cell? ((⟨bb, ob, none⟩ : Addr).add j) = some u) ∧ Below x3.heap.size x3 (x3.alloc (.cells #[] 3))) := by
  refine Lib.hid ⟨⟨rfl, .inr ⟨x3.heap.size, 0, #[], rfl, Nat.le_refl _, World.alloc_heap_new _ _, Nat.le_refl _, by unfold maxLen; omega, rfl, rfl⟩⟩, fun j u hj => ?_, (Below.refl _ x3).alloc (Nat.le_refl _) (.cells #[] 3)⟩
  obtain ⟨hl, rfl⟩ := map_nth hj
  obtain ⟨b', off', e, hlb, hc⟩ := (show Rd _ _ (some ⟨bb, ob, none⟩) bo from HE.out.1.2.2.r1) (by omega)
  simp only [Option.some.injEq, Addr.mk.injEq, and_true] at e
  obtain ⟨rfl, rfl⟩ := e
  rw [add_eq]
  exact hc j hl
 have p2 := cr 1 HE.out.1.1.2
 have hxb : (x : Int) < (bo.length : Int) := by omega
 have hl0 : 0 < bo.length := by omega
 go_upto_region 2 with (at_builtin; refine wpList_append_own_at _ rfl _ _ 25 rfl x3.heap.size 3 i0 (.int .i64 0) 1 8 Try.underlying25 hi0 hz0 hz1 hz2 rfl (by decide) (.slice (some ⟨x3.heap.size, 0, none⟩) 0 0) 0 [] rfl HN.out.1 ⟨bb, ob, none⟩ bo.length d1 (bo.map (Value.int .i64)) rfl (by simp) HN.out.2.1 (ints_oneCell _ _) (by unfold maxLen; omega) (by omega) HN.out.2.2.size ?_; intro v' w9 hown hgrow _ _; obtain ⟨g9, cp, rfl, hg9, hg9', hI⟩ := own_ints hown (by omega); have hb9 : Below x3.heap.size x3 w9 := (((Below.refl _ x3).alloc (Nat.le_refl _) _).grown hgrow (by simp) (by intro k hk; simp [Value.ownBlock] at hk; omega)); have HB := hd4 hg9 hI hb9 hg9'; have q1 := cr 1 (blk_on K.out.1.1.2 hb9); have f1 := bf 1 (blk_on K.out.1.1.2 hb9); clear hown hgrow hb9 hg9 hI hg9')
 clear p2 q1 f1 HN HE
 have HY := Lib.hid (gvI_of (j := 1) (vs := #[.slice A0 ri.length d0, .slice (some ⟨bb, ob, none⟩) bo.length d1, .slice A2 lk.length d2, .slice A3 lo.length d3]) (cs := #[.slice A0 ri.length d0, .slice (some ⟨g9, 0, none⟩) bo.length cp, .slice A2 lk.length d2, .slice A3 lo.length d3]) (v := .slice (some ⟨g9, 0, none⟩) bo.length cp) (by simp) K.out.1.1.1 K.out.1.1.2 K.out.1.2.1 HS.out HB.out.1 HB.out.2.1 HB.out.2.2.1 HB.out.2.2.2)
 clear HB K
 generalize w9.setCell ⟨w.heap.size, 1, none⟩ (.slice (some ⟨g9, 0, none⟩) bo.length cp) = x4 at *
 have q1 := cr 1 HY.out.k0
 have q2 := HY.out.kf.at_ x hx
 have f2 := HY.out.kf.fz x
 go_upto_region 3 with fail
 clear q1 q2 f2
 have HZ := Lib.hid (HY.out.set hx v)
 clear HY
 generalize x4.setCell ⟨g9, x, none⟩ (.int .i64 v) = x5 at *
 have q0 := cr 0 HZ.out.k0
 have q1 := cr 1 HZ.out.k0
 have q2 := cr 2 HZ.out.k0
 have q3 := cr 3 HZ.out.k0
 go_wp2_with (refine wpList_store_mid rfl 27 (.tmp 6) (.tmp 17) rfl (w.heap.size + 1) 0 _ rfl rfl (show World.there _ _ 0 4 from blk_there HZ.out.kr) (by kernel_rfl) (by simp [Value.oneCell']) ?_)
 have hBF := setCells_blk HZ.out.kr [.slice A0 ri.length d0, .slice (some ⟨g9, 0, none⟩) bo.length cp, .slice A2 lk.length d2, .slice A3 lo.length d3] rfl
 have hbe := setCells_below (m := w.heap.size) (b := w.heap.size + 1) (by omega) [.slice A0 ri.length d0, .slice (some ⟨g9, 0, none⟩) bo.length cp, .slice A2 lk.length d2, .slice A3 lo.length d3] 0 _ HZ.out.bl
 have hw := HW.out.ext hbe
 refine bodyPost_ret (results_cell1 Try.results41 _ _ ⟨w.heap.size + 1, 0, none⟩ _ (by rfl) (run_loadVar_mid _ _ 0 _ _ _ (blk_range hBF) Try.underlying27 rfl (by kernel_rfl))) rfl ⟨g9, cp, rfl, ⟨hw.r0, ?_, hw.r2, hw.r3, hw.m0, by show (bo.set x v).length ≤ 1000; rw [List.length_set]; exact hm, hw.m2, hw.m3⟩, hbe⟩
 refine IntF.rd (f := put (nth bo) x v) (by rw [List.length_set]; exact HZ.out.kf.heap (setCells_oth (by have := HZ.out.lo; omega) _ _ _)) (by rw [setCells_size]; exact HZ.out.hi) (fun j hj => (nth_set _ (by rw [List.length_set] at hj; exact hj)).symm)
theorem boarded_any (s : Wt) (x : Nat) (v : Int) (w : World) (hs : Wet w s) (hx : x < s.bo.length) :
  Calls Try.prog 41 #[s.v, .int .i64 (x : Int), .int .i64 v] w fun e w' => ∃ s' : Wt, e = .returned s'.v ∧ Wet w' s' ∧ (s'.ri = s.ri ∧ s'.bo = s.bo.set x v ∧ s'.lk = s.lk ∧ s'.lo = s.lo) ∧ Below w.heap.size w w' := by
 obtain ⟨A0, A1, A2, A3, d0, d1, d2, d3, ri, bo, lk, lo⟩ := s
 have hx' : x < bo.length := hx
 obtain ⟨bb, ob, rfl, -, -⟩ := (show Rd w w.heap.size A1 bo from hs.r1) (by omega)
 refine (boarded_ok A0 A2 A3 bb ob d0 d1 d2 d3 ri bo lk lo x v w hs hx').mono (fun e w' h => ?_)
 obtain ⟨g9, cp, rfl, hw, hb⟩ := h
 exact ⟨_, by simp [Wt.v], hw, ⟨rfl, rfl, rfl, rfl⟩, hb⟩
end Go.Proofs.Ytdadoelajhemjaa
