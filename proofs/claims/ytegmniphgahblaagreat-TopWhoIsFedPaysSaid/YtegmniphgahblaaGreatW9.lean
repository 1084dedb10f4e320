/- Walks: share. -/
import Derived.Test.YtegmniphgahblaaGreatW8
import Derived.Test.YtegmniphgahblaaGreatW6
import Derived.Test.YtegmniphgahblaaGreatM12
namespace Go.Proofs.YtegmniphgahblaaGreat
open Go.RowKit Go.Shelf
attribute [local go_sem] Oper.semAt_some

def shC (S : Nat) : Array Value := #[.int .i64 ((ratN S lcmT : Nat) : Int), .int .i64 ((ratD S lcmT : Nat) : Int)]
theorem add_sh (S x : Nat) (hS : S ≤ 1152921504606846976) (hx : x ≤ 1152921504606846976) (w : World) :
  Calls Tryz.prog 81 #[.agg #[.int .i64 ((ratN S lcmT : Nat) : Int), .int .i64 ((ratD S lcmT : Nat) : Int)], .agg #[.int .i64 ((ratN x lcmT : Nat) : Int), .int .i64 ((ratD x lcmT : Nat) : Int)]] w fun e w' => e = .returned (.agg #[.int .i64 ((ratN (S + x) lcmT : Nat) : Int), .int .i64 ((ratD (S + x) lcmT : Nat) : Int)]) ∧ Below w.heap.size w w' := by
 have hL : 0 < lcmT := by decide
 obtain ⟨⟨u0, d0, dl, hq, l1, l2, dd⟩, e1, e2⟩ := rat_add (S := S) (x := x) hL
 have b0 := (rat_parts (n := S) hL).2.2.1
 have bl : ratD S lcmT ≤ lcmT := ratD_le hL
 have xl : ratD x lcmT ≤ lcmT := ratD_le hL
 have h := add_any (ratN S lcmT) (ratD S lcmT) (ratN x lcmT) (ratD x lcmT) _ _ b0 dd rfl u0 rfl bl xl dl (Nat.le_trans l1 hS) (Nat.le_trans l2 hx) w
 rw [e1, e2] at h
 exact h
theorem piece_sh (rs : List Rch) (ps : List Pay) (ok : RsOk rs) (pk : PsOk rs ps) {i r : Nat} (hi : i < ps.length) (hr : r < rs.length) (hu : usF rs ps i r = true) (w : World) :
  Calls Tryz.prog 82 #[.agg #[.int .i64 (yAt ps i).id, .int .i64 (yAt ps i).rc, .int .i64 (yAt ps i).wt], .int .i64 (rAt rs r).co, .int .i64 (allF rs ps r)] w fun e w' => e = .returned (.agg #[.int .i64 ((ratN (stN rs ps i r) lcmT : Nat) : Int), .int .i64 ((ratD (stN rs ps i r) lcmT : Nat) : Int)]) ∧ Below w.heap.size w w' := by
 have h1 := wt_le_all pk hi hu
 have h2 := ok.co r hr
 have h4 : wtF ps i = (yAt ps i).wt := rfl
 have h := piece_any (yAt ps i) (wtF ps i).toNat (coF rs r).toNat (allF rs ps r).toNat (by omega) (by omega) (by unfold coF; omega) (by omega) (by omega) w
 have e := rat_piece (x := (coF rs r).toNat * (wtF ps i).toNat) (all := (allF rs ps r).toNat) (by omega) (by omega)
 unfold ratV ratC at h
 rw [e.1, e.2, Int.toNat_of_nonneg (show 0 ≤ allF rs ps r by omega), show (((coF rs r).toNat : Nat) : Int) = (rAt rs r).co by unfold coF; omega] at h
 exact h
theorem Blk.kept' {W W' : World} {g B : Nat} {cs : Array Value} {ty : TypeId} {row bs : Option Nat} (h : Blk W g cs ty) (hg : W.grownBy W' row) (hr : ∀ r, row = some r → bs = some r ∨ (B ≤ r ∧ ∃ o : Obj, W.heap[r]? = some o ∧ o.isCells = false)) (hb : bs ≠ some g) : Blk W' g cs ty := by
 refine (hg.block g (Array.getElem?_eq_some_iff.1 h).1 fun e => ?_).trans h
 rcases hr g e.symm with h' | ⟨_, o', ho', hc'⟩
 ·exact hb h'
 ·have h2 : W.heap[g]? = some (.cells cs ty (0, 0)) := h
  rw [h2] at ho'; cases ho'; cases hc'
set_option maxRecDepth 100000 in
set_option maxHeartbeats 2000000 in
theorem share_in (n : Nat) (hn : 3 ≤ n) (t : Tr) (ok : RsOk t.rs) (pk : PsOk t.rs t.ps) (i : Nat) (hi : i < t.ps.length) (w : World) (ht : TrAt w w.heap.size t) :
  CallsIn Fence.wide n Tryz.prog 64 #[t.v, (yAt t.ps i).v] w fun e w' => e = .returned (.agg (shC (shN t.rs t.ps i))) ∧ Below w.heap.size w w' := by
 have h1 : 1 ≤ n := by omega
 have h2 : 1 ≤ n - 1 := by omega
 obtain ⟨A, c, rs, B, d, ps⟩ := t
 dsimp only [Tr.v, Pay.v] at *
 have HT := hd3 ht ok pk
 have hrc := pk.rc i hi
 clear ok pk
 have hb3 : Below w.heap.size w (((w.alloc (.cells #[.slice A rs.length c, .slice B ps.length d] 42)).alloc (.cells #[.int .i64 (yAt ps i).id, .int .i64 (yAt ps i).rc, .int .i64 (yAt ps i).wt] 53)).alloc (.cells #[.int .i64 0, .int .i64 0] 55)) := (((Below.refl _ w).alloc (Nat.le_refl _) _).alloc (by simp) _).alloc (by simp; omega) _
 have k0 : Blk (((w.alloc (.cells #[.slice A rs.length c, .slice B ps.length d] 42)).alloc (.cells #[.int .i64 (yAt ps i).id, .int .i64 (yAt ps i).rc, .int .i64 (yAt ps i).wt] 53)).alloc (.cells #[.int .i64 0, .int .i64 0] 55)) w.heap.size #[.slice A rs.length c, .slice B ps.length d] 42 := blk_alloc (blk_alloc (blk_new w _ _ rfl) _) _
 have k1 : Blk (((w.alloc (.cells #[.slice A rs.length c, .slice B ps.length d] 42)).alloc (.cells #[.int .i64 (yAt ps i).id, .int .i64 (yAt ps i).rc, .int .i64 (yAt ps i).wt] 53)).alloc (.cells #[.int .i64 0, .int .i64 0] 55)) (w.heap.size + 1) #[.int .i64 (yAt ps i).id, .int .i64 (yAt ps i).rc, .int .i64 (yAt ps i).wt] 53 := blk_alloc (blk_new (w.alloc (.cells #[.slice A rs.length c, .slice B ps.length d] 42)) (g := w.heap.size + 1) _ _ (by simp)) _
 have k2 : Blk (((w.alloc (.cells #[.slice A rs.length c, .slice B ps.length d] 42)).alloc (.cells #[.int .i64 (yAt ps i).id, .int .i64 (yAt ps i).rc, .int .i64 (yAt ps i).wt] 53)).alloc (.cells #[.int .i64 0, .int .i64 0] 55)) (w.heap.size + 1 + 1) #[.int .i64 0, .int .i64 0] 55 := blk_new ((w.alloc (.cells #[.slice A rs.length c, .slice B ps.length d] 42)).alloc (.cells #[.int .i64 (yAt ps i).id, .int .i64 (yAt ps i).rc, .int .i64 (yAt ps i).wt] 53)) (g := w.heap.size + 1 + 1) _ _ (by simp)
 have hlt : w.heap.size + 3 ≤ ((((w.alloc (.cells #[.slice A rs.length c, .slice B ps.length d] 42)).alloc (.cells #[.int .i64 (yAt ps i).id, .int .i64 (yAt ps i).rc, .int .i64 (yAt ps i).wt] 53)).alloc (.cells #[.int .i64 0, .int .i64 0] 55))).heap.size := by simp
 have K := hd3 ((((stays_bl hb3).and (stays_blk k0)).and (stays_blk k1)).and (stays_blk k2)) (ht.ext hb3 (Nat.le_refl _)) hlt
 clear hb3 k0 k1 k2 hlt ht
 refine callsIn_of_wp_marks Tryz.func64 rfl trivial ?_ rfl
 simp only [Tryz.ntmps64, List.size_toArray, List.length_cons, List.length_nil, Nat.reduceAdd, Nat.reduceSub, Array.replicate_succ, Array.replicate_zero, List.push_toArray, List.append_toArray, List.nil_append, List.cons_append]
 gi_upto_region 1 with fail
 generalize (((w.alloc (.cells #[.slice A rs.length c, .slice B ps.length d] 42)).alloc (.cells #[.int .i64 (yAt ps i).id, .int .i64 (yAt ps i).rc, .int .i64 (yAt ps i).wt] 53)).alloc (.cells #[.int .i64 0, .int .i64 0] 55)) = W0 at *
 have c0 := cr 0 K.out.1.1.1.1.2
 have c1 := cr 1 K.out.1.1.1.1.2
 have hw := fun (h : w.heap.size ≤ W0.heap.size) => callsIn_wide (n := n - 1).2 (weights_any ⟨A, c, rs, B, d, ps⟩ HT.out.2.1 HT.out.2.2 W0 (K.out.2.1.mono h))
 gi_upto_region 2 with (first | (refine ⟨trivial, ?_⟩; refine (hw (by have := K.out.2.2; omega)).mono ?_; rintro e w1 ⟨rfl, hb⟩; obtain ⟨W5, hst, ha5, hb5, hz5⟩ := arr_new w1 (allF rs ps)) | (refine wpListIn_plain rfl fun KK hKK => wpIn_op_store (fun _ => trivial) 125 (.tmp 5) (.tmp 9) rfl (by rfl) (by rfl) hst (hKK _ _ ?_)))
 clear c0 c1 hw hst
 dsimp only [Act.put]
 have hb15 := hb.trans (hb5.mono hb.size)
 have hl1 : w.heap.size + 3 ≤ w1.heap.size := Nat.le_trans K.out.2.2 hb.size
 have K5 := hd3 (K.out.1.on hb15) (K.out.2.1.ext hb15 (by have := K.out.2.2; omega)) ha5
 clear hb hb5 hb15 ha5 K
 generalize w1.heap.size = g5 at *
 have hb6 := (ButB.refl (fun _ => False) W5).alloc (.cells #[.int .i64 0, .int .i64 1] 55)
 have kr := blk_new W5 (g := g5 + 1) #[.int .i64 0, .int .i64 1] 55 hz5.symm
 have hz6 : (W5.alloc (.cells #[.int .i64 0, .int .i64 1] 55)).heap.size = g5 + 1 + 1 := by simp [hz5]
 have K6 := hd4 (K5.out.1.on (hb6.below (Nat.le_refl _) (fun _ _ h => h))) (K5.out.2.1.ext (hb6.below (Nat.le_refl _) (fun _ _ h => h)) (by omega)) (K5.out.2.2.block (hb6.same _ (by omega) id)) kr
 gi_upto_region 3 with fail
 generalize W5.alloc (.cells #[.int .i64 0, .int .i64 1] 55) = W6 at *
 clear hb6 kr K5
 have c0 := cr 0 K6.out.1.1.1.1.2
 have c1 := cr 1 K6.out.1.1.1.1.2
 have c2 := cr 1 K6.out.1.1.1.2
 have hup := fun W => callsIn_wide (n := n - 1).2 (up_any ⟨A, c, rs, B, d, ps⟩ (yAt ps i).rc W)
 gi_wp2_with (refine ⟨trivial, ?_⟩; refine (hup _).mono ?_; rintro e w' ⟨rfl, rfl⟩)
 have hseq := up_seq (n - 1) h2 ⟨A, c, rs, B, d, ps⟩ HT.out.2.1 (yAt ps i).rc (by omega) hrc.2 w.heap.size W6 K6.out.2.1 (by omega)
 have hb8 : ButB (fun _ => False) W6 ((W6.alloc (.cells (Tr.cells ⟨A, c, rs, B, d, ps⟩) 42)).alloc (.cells #[.int .i64 (yAt ps i).rc] 3)) := ((ButB.refl _ W6).alloc _).alloc _
 have K8 := hd3 (K6.out.1.on (hb8.below (Nat.le_refl _) (fun _ _ h => h))) (K6.out.2.1.ext (hb8.below (Nat.le_refl _) (fun _ _ h => h)) (by omega)) (K6.out.2.2.1.block (hb8.same _ (by omega) id))
 have k8 := hb8.heap K6.out.2.2.2 id
 have hz8 : ((W6.alloc (.cells (Tr.cells ⟨A, c, rs, B, d, ps⟩) 42)).alloc (.cells #[.int .i64 (yAt ps i).rc] 3)).heap.size = g5 + 1 + 1 + 1 + 1 := by simp only [World.size_alloc, hz6]
 rw [hz6] at hseq
 have hrr := rat_zero (d := lcmT) (by decide)
 have i0 : Blk ((W6.alloc (.cells (Tr.cells ⟨A, c, rs, B, d, ps⟩) 42)).alloc (.cells #[.int .i64 (yAt ps i).rc] 3)) (g5 + 1) (shC (sN rs ps i [])) 55 := by
  show Blk ((W6.alloc (.cells (Tr.cells ⟨A, c, rs, B, d, ps⟩) 42)).alloc (.cells #[.int .i64 (yAt ps i).rc] 3)) (g5 + 1) #[.int .i64 ((ratN 0 lcmT : Nat) : Int), .int .i64 ((ratD 0 lcmT : Nat) : Int)] 55
  rw [hrr.1, hrr.2]
  exact k8
 generalize ((W6.alloc (.cells (Tr.cells ⟨A, c, rs, B, d, ps⟩) 42)).alloc (.cells #[.int .i64 (yAt ps i).rc] 3)) = W8 at *
 clear hb8 k8 hup K6 c0 c1 c2 hrr
 refine wpIn_range_boxP rfl h1 (gf := 73) (lb := #[.pointer (some ⟨g5 + 1 + 1 + 1, 0, none⟩), .pointer (some ⟨g5 + 1 + 1, 0, none⟩)]) rfl trivial eg_up1 hseq
  (by rw [hz8]; unfold upK; intro b hb; omega) (Below.refl _ _) (by rw [hz8]; intro b hb; cases hb; omega) (fun _ => rfl)
  (fun pre W => Blk W (g5 + 1) (shC (sN rs ps i pre)) 55 ∧ ButB (fun b => b = g5 + 1 ∨ b = g5 + 1 + 1 + 1) W8 W) (fun _ _ _ => False)
  (Abide.and (fun pre W W' row hs hg hr => hs.kept' hg hr (by intro e; cases e)) (ButB.abide (Nat.le_refl _) (by intro b e; cases e; exact .inr rfl)))
  (fun _ _ _ _ _ h _ _ => h) ⟨i0, ButB.refl _ _⟩
  (fun x => { tmps := #[.agg #[.slice A rs.length c, .slice B ps.length d], .agg #[.int .i64 (yAt ps i).id, .int .i64 (yAt ps i).rc, .int .i64 (yAt ps i).wt], .pointer (some ⟨w.heap.size, 0, none⟩), .pointer (some ⟨w.heap.size + 1, 0, none⟩), .pointer (some ⟨w.heap.size + 1 + 1, 0, none⟩), .pointer (some ⟨g5, 0, none⟩), .pointer (some ⟨g5 + 1, 0, none⟩), .int .i64 (x : Int), .agg #[.slice A rs.length c, .slice B ps.length d], arV (allF rs ps), .agg #[.int .i64 0, .int .i64 1], .agg #[.slice A rs.length c, .slice B ps.length d], .pointer (some ⟨w.heap.size + 1, 1, none⟩), .int .i64 (yAt ps i).rc,
   .func (.func 73) #[] #[.pointer (some ⟨g5 + 1 + 1 + 1, 0, none⟩), .pointer (some ⟨g5 + 1 + 1, 0, none⟩)], .int .i64 (x : Int), undef, undef, undef, undef, undef, undef, undef, undef, undef, undef, undef, undef, undef, undef], defers := [] }) ?assign ?body ?done ?stop
 case assign =>
  intro l x W K hK
  gi_wp2
  exact hK
 case body =>
  rintro l pre x rest W hf ⟨hA, hB⟩ hsz
  dsimp only at hf
  obtain ⟨hxp, hxm⟩ := way_fresh HT.out.2.1.ab hrc.2 hf
  have hxu : usF rs ps i x = true := (way_us HT.out.2.1 HT.out.2.2 hi x).1 (by rw [hf]; simp)
  have hx24 : x < 24 := Nat.lt_of_lt_of_le hxm HT.out.2.1.n
  have hxz : (x : Int) < 24 := by omega
  have hxr : (x : Int) < (rs.length : Int) := by omega
  have hpl : ∀ r, r ∈ pre → r < rs.length ∧ usF rs ps i r = true := fun r hr => ⟨(way_lt HT.out.2.1.ab _ hrc.2 r (by rw [hf]; exact List.mem_append_left _ hr)).2, (way_us HT.out.2.1 HT.out.2.2 hi r).1 (by rw [hf]; exact List.mem_append_left _ hr)⟩
  have hS1 := sN_le HT.out.2.1 HT.out.2.2 hi pre hpl
  have hS2 := stN_le HT.out.2.1 HT.out.2.2 hi hxm hxu
  have hS3 : pre.length ≤ 24 := by
   have := way_len HT.out.2.1.ab rs.length (yAt ps i).rc hrc.2 hrc.2
   rw [hf, List.length_append] at this
   have := HT.out.2.1.n
   omega
  have hS4 : sN rs ps i pre ≤ 24 * (65536 * lcmT) := Nat.le_trans hS1 (Nat.mul_le_mul_right _ hS3)
  have hS5 : (24 * (65536 * lcmT) ≤ 1152921504606846976) := by decide
  have hS6 : (65536 * lcmT ≤ 1152921504606846976) := by decide
  obtain ⟨b, off, rfl, lb, hc⟩ := HT.out.1.r (by show 0 < rs.length; omega)
  have HP := Lib.hid (fun w => piece_sh rs ps HT.out.2.1 HT.out.2.2 hi hxm hxu w)
  have HD := Lib.hid (fun w => add_sh (sN rs ps i pre) (stN rs ps i x) (by omega) (by omega) w)
  have hsn := sN_snoc rs ps i pre x
  rw [← hsn] at HD
  obtain ⟨S2, hS2e⟩ : ∃ S2, sN rs ps i (pre ++ [x]) = S2 := ⟨_, rfl⟩
  rw [hS2e] at HD
  have HE := Lib.hid hS2e
  clear hS2e
  have q7 := (K8.out.1.1.1.1.1.cell (p := ⟨b, off + x * 2 + 1, none⟩) lb).trans (hc x hxm).2
  have HA := hd2 hA hB
  clear hA hB hseq hf hc hS1 hS2 hS4 hsn hpl
  gi_wp2
  refine wpIn_region_R (fun j => j != 13) ?_
  have hB := HA.out.2.drew
  have hA : Blk W.drew (g5 + 1) (shC (sN rs ps i pre)) 55 := HA.out.1
  have s0 := cr 0 hA
  have s1 := cr 1 hA
  dsimp only [shC] at s0 s1
  have y0 := hB.cell (cr 0 K8.out.1.1.1.2) (by dsimp only; omega)
  have y1 := hB.cell (cr 1 K8.out.1.1.1.2) (by dsimp only; omega)
  have y2 := hB.cell (cr 2 K8.out.1.1.1.2) (by dsimp only; omega)
  have z0 := hB.cell (cr 0 K8.out.1.1.1.1.2) (by dsimp only; omega)
  have p7 := hB.cell q7 (by dsimp only; omega)
  have a0 := hB.cell (K8.out.2.2.cell hx24) (by dsimp only; omega)
  have HK := hd2 (KeepsOthers.drew W) (KeepB.drew (p := upK w.heap.size (g5 + 1 + 1) (g5 + 1 + 1 + 1)) W)
  have hsz2 : W8.heap.size ≤ W.drew.heap.size := hsz
  generalize W.drew = X0 at *
  refine bP s0 s1 0 rfl ?_
  refine bV y0 y1 y2 1 rfl ?_
  refine bF 2 rfl ?_
  refine bT z0 3 rfl ?_
  refine bF 4 rfl ?_
  refine bF 5 rfl ?_
  refine bF 6 rfl ?_
  refine bT p7 7 rfl ?_
  refine bF 8 rfl ?_
  refine bF 9 rfl ?_
  refine bT a0 10 rfl ?_
  refine bR 11 rfl fun K hK => ?_
  clear s0 s1 y0 y1 y2 z0 p7 a0 q7
  go_simp
  refine (HP.out _).mono ?_
  rintro e X1 ⟨rfl, hb1⟩
  dsimp only
  refine hK.out _ _ (fun _ => hb1) ?_
  clear hK
  refine bR 12 rfl fun K hK => ?_
  go_simp
  refine (HD.out _).mono ?_
  rintro e X2 ⟨rfl, hb2⟩
  dsimp only
  refine hK.out _ _ (fun _ => hb2) ?_
  clear hK
  have hb := hb1.trans (hb2.mono hb1.size)
  have hA2 := (hb.block (g5 + 1) (by omega)).trans hA
  have s0 := cr 0 hA2
  have s1 := cr 1 hA2
  have f0 := bf 0 hA2
  have f1 := bf 1 hA2
  dsimp only [shC] at s0 s1
  have hset := blk_put2 hA2 (.int .i64 ((ratN S2 lcmT : Nat) : Int)) (.int .i64 ((ratD S2 lcmT : Nat) : Int))
  have hbut := ((hB.trans (.of_below hb)).set (a := ⟨g5 + 1, 0, none⟩) (.inl rfl) (.int .i64 ((ratN S2 lcmT : Nat) : Int))).set (a := ⟨g5 + 1, 1, none⟩) (.inl rfl) (.int .i64 ((ratD S2 lcmT : Nat) : Int))
  have hkf := (HK.out.1.from W8.heap.size).trans ((keepsFrom_below (B := W8.heap.size) hb).trans (((KeepsOthers.setCell X2 ⟨g5 + 1, 0, none⟩ (.int .i64 ((ratN S2 lcmT : Nat) : Int))).trans (KeepsOthers.setCell _ ⟨g5 + 1, 1, none⟩ (.int .i64 ((ratD S2 lcmT : Nat) : Int)))).from _))
  have hkp := HK.out.2.trans ((KeepB.below hb (by unfold upK; intro b hb; omega)).trans ((KeepB.set X2 ⟨g5 + 1, 0, none⟩ (.int .i64 ((ratN S2 lcmT : Nat) : Int)) (by unfold upK; dsimp only; omega)).trans (KeepB.set _ ⟨g5 + 1, 1, none⟩ (.int .i64 ((ratD S2 lcmT : Nat) : Int)) (by unfold upK; dsimp only; omega))))
  have HF := hd4 hkf hkp hset hbut
  clear hset hbut hkf hkp hb hb1 hb2 hB hA hA2
  refine bR 13 rfl fun K hK => ?_
  go_simp
  refine hK.out _ _ (fun h => by cases h) ?_
  refine bD ?_
  exact ⟨HF.out.1, HF.out.2.1, by rw [HE.out]; exact HF.out.2.2.1, HF.out.2.2.2⟩
 case done =>
  rintro D W hD ⟨hA, hB⟩ hK
  have s0 := cr 0 hA
  have s1 := cr 1 hA
  dsimp only [shC] at s0 s1
  have kr := hB.heap K8.out.1.1.2 (by omega)
  have f0 := bf 0 kr
  have f1 := bf 1 kr
  have e0 := cr 0 kr
  have e1 := cr 1 kr
  have HB := hd2 hB kr
  clear hB kr hseq
  gi_wp2
  have hset := blk_put2 HB.out.2 (.int .i64 ((ratN (shN rs ps i) lcmT : Nat) : Int)) (.int .i64 ((ratD (shN rs ps i) lcmT : Nat) : Int))
  have hK2 := ((KeepsOthers.setCell W ⟨w.heap.size + 1 + 1, 0, none⟩ (.int .i64 ((ratN (shN rs ps i) lcmT : Nat) : Int))).trans (KeepsOthers.setCell _ ⟨w.heap.size + 1 + 1, 1, none⟩ (.int .i64 ((ratD (shN rs ps i) lcmT : Nat) : Int)))).same D _ hK rfl
  refine ⟨by simp, .inl ⟨_, _, rfl, run_takeDeferred hK2, ?_⟩⟩
  have hk := (World.putObj_heap_other (o := .deferred none) (show w.heap.size + 1 + 1 ≠ D by omega)).trans hset
  refine ⟨_, results_cell1 Tryz.results64 _ _ ⟨w.heap.size + 1 + 1, 0, none⟩ _ (by rfl) (run_loadVar_mid _ _ 0 _ _ _ (blk_range hk) Tryz.underlying55 rfl (by kernel_rfl)), rfl, ?_⟩
  exact put_below (((K8.out.1.1.1.1.1.trans (HB.out.1.below (by omega) (by intro b hb; omega))).setCell (p := ⟨w.heap.size + 1 + 1, 0, none⟩) (by show w.heap.size ≤ w.heap.size + 1 + 1; omega) _).setCell (p := ⟨w.heap.size + 1 + 1, 1, none⟩) (by show w.heap.size ≤ w.heap.size + 1 + 1; omega) _) (by omega) (Nat.le_refl _)
 case stop =>
  rintro D c pre x rest W _ _ h _
  exact h.elim
theorem share_any (t : Tr) (ok : RsOk t.rs) (pk : PsOk t.rs t.ps) (i : Nat) (hi : i < t.ps.length) (w : World) (ht : TrAt w w.heap.size t) :
  Calls Tryz.prog 64 #[t.v, (yAt t.ps i).v] w fun e w' => e = .returned (.agg (shC (shN t.rs t.ps i))) ∧ Below w.heap.size w w' := callsIn_wide.1 (share_in 3 (Nat.le_refl _) t ok pk i hi w ht)
end Go.Proofs.YtegmniphgahblaaGreat
