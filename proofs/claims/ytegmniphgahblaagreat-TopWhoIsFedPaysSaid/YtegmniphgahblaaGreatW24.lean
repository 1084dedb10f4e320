/- Walks: Divide. -/
import Derived.Test.YtegmniphgahblaaGreatW23
namespace Go.Proofs.YtegmniphgahblaaGreat
open Go.RowKit Go.Shelf
attribute [local go_sem] Oper.semAt_some

theorem stays_tr {W : World} {t : Tr} (h : TrAt W W.heap.size t) : Stays (fun X => TrAt X X.heap.size t) W := ⟨h, fun _ _ a b => (a.ext b (Nat.le_refl _)).mono b.size⟩
/-- Pence of the call's own. -/
def CloL (n : Nat) (xs : List Int) (L : Nat) (CL : Option Addr) (X : World) : Prop := 0 < n → ∃ g, CL = some ⟨g, 0, none⟩ ∧ L ≤ g ∧ g < X.heap.size ∧ IntF X g n (nth xs)
theorem stays_clo {n : Nat} {xs : List Int} {L : Nat} {CL : Option Addr} {W : World} (h : CloL n xs L CL W) : Stays (CloL n xs L CL) W := ⟨h, fun _ _ a b h0 => by
 obtain ⟨g, h1, h2, h3, h4⟩ := a h0
 exact ⟨g, h1, h2, Nat.lt_of_lt_of_le h3 b.size, h4.heap (b.block g h3)⟩⟩
theorem stays_arr {W : World} {g n : Nat} {ty : TypeId} {f : Nat → Int} (h : ArrAt W g ty n f) : Stays (fun X => ArrAt X g ty n f) W := ⟨h, fun _ _ a b => a.block (b.block g a.lt)⟩
theorem stays_vl {W : World} {g n : Nat} {f : Nat → Value} (h : VlF W g n f) (hg : g < W.heap.size) : Stays (fun X => VlF X g n f ∧ g < X.heap.size) W := ⟨⟨h, hg⟩, fun _ _ a b => ⟨a.1.heap (b.block g a.2), Nat.lt_of_lt_of_le a.2 b.size⟩⟩
set_option maxRecDepth 100000 in
set_option maxHeartbeats 3200000 in
theorem Divide_in (n : Nat) (hn : 3 ≤ n) (t : Tr) (ok : RsOk t.rs) (pk : PsOk t.rs t.ps) (C : Option Addr) (e : Nat) (xs : List Int) (hx : PenceOk t.ps.length xs) (hf : FairF t.rs t.ps (nth xs)) (w : World) (ht : TrAt w w.heap.size t) (hp : Rd w w.heap.size C xs) :
  CallsIn Fence.wide n Tryz.prog 27 #[t.v, .slice C xs.length e] w fun e' w' => (∃ gO, e' = .returned (.tuple #[.slice (some ⟨gO, 0, none⟩) t.rs.length t.rs.length, .int .i64 0]) ∧ gO < w'.heap.size ∧
   ∀ r, r < t.rs.length → ∃ g, w'.cell? ⟨gO, r, none⟩ = some (.slice (some ⟨g, 0, none⟩) t.ps.length t.ps.length) ∧ g < w'.heap.size ∧ (0 < t.ps.length → IntF w' g t.ps.length (paF t.rs t.ps (nth xs) r))) ∧ Below w.heap.size w w' := by
 have h1 : 1 ≤ n := by omega
 have h2 : 1 ≤ n - 1 := by omega
 have hs := fun W hW1 hW2 => callsIn_wide (n := n - 1).2 (sums_any t ok pk C e xs hx W hW1 hW2)
 have hfa := fun W hW1 hW2 => callsIn_wide (n := n - 1).2 (fair_any t ok pk C e xs hx hf W hW1 hW2)
 have hcl := fun W hW => callsIn_wide (n := n - 1).2 (cloneF_any C e xs (by have := hx.len; have := pk.n; omega) W hW)
 have hwe := fun W hW => callsIn_wide (n := n - 1).2 (weights_any t ok pk W hW)
 have hn24 := pk.n
 have hr24 := ok.n
 have hmk := fun W => make_rows t.rs.length (by omega) W
 have hmi := fun W => make_ints t.ps.length (by omega) W
 have hlen := hx.len
 obtain ⟨A, c, rs, B, d, ps⟩ := t
 unfold pgV at *
 dsimp only [Tr.v] at *
 have hb1 := (Below.refl _ w).alloc (Nat.le_refl _) (.cells #[.slice A rs.length c, .slice B ps.length d] 42)
 have K := Lib.hid ((((stays_bl hb1).and (stays_blk (blk_new w (g := w.heap.size) #[.slice A rs.length c, .slice B ps.length d] 42 rfl))).and (stays_tr ((ht.ext hb1 (Nat.le_refl _)).mono hb1.size))).and (stays_rd ((hp.below hb1 (Nat.le_refl _)).mono hb1.size)))
 have hlt0 : w.heap.size < (w.alloc (.cells #[.slice A rs.length c, .slice B ps.length d] 42)).heap.size := by simp
 have HS := hd4 hs hfa hcl hwe
 have HT := hd6 ht ok pk hx hlen hf
 clear hb1 ht hp hx hf ok pk hs hfa hcl hwe hlen
 refine callsIn_of_wp_marks Tryz.func27 rfl trivial ?_ rfl
 simp only [Tryz.ntmps27, List.size_toArray, List.length_cons, List.length_nil, Nat.reduceAdd, Nat.reduceSub, Array.replicate_succ, Array.replicate_zero, List.push_toArray, List.append_toArray, List.nil_append, List.cons_append]
 gi_upto_region 1 with fail
 generalize w.alloc (.cells #[.slice A rs.length c, .slice B ps.length d] 42) = W0 at *
 have r0 := cr 0 K.out.1.1.1.2
 have r1 := cr 1 K.out.1.1.1.2
 gi_upto_region 4 with (refine ⟨trivial, ?_⟩; refine (HS.out.1 _ K.out.1.1.2 K.out.1.2).mono ?_; rintro e w1 ⟨rfl, hb⟩; have K1 := Lib.hid (K.out.on hb); have hlt1 := Nat.lt_of_lt_of_le hlt0 hb.size; clear hb r0 r1)
 have r0 := cr 0 K1.out.1.1.1.2
 have r1 := cr 1 K1.out.1.1.1.2
 gi_upto_region 6 with (refine ⟨trivial, ?_⟩; refine (HS.out.2.1 _ K1.out.1.1.2 K1.out.1.2).mono ?_; rintro e w2 ⟨rfl, hb⟩; have K2 := Lib.hid (K1.out.on hb); have hlt2 := Nat.lt_of_lt_of_le hlt1 hb.size; clear hb r0 r1)
 gi_upto_region 7 with (refine ⟨trivial, ?_⟩; refine (HS.out.2.2.1 _ K2.out.1.2).mono ?_; rintro e w3 ⟨⟨CL, cL, rfl, hcl⟩, hb⟩; rw [HT.out.2.2.2.2.1] at hcl ⊢; have K3 := Lib.hid ((K2.out.on hb).and (stays_clo (L := w2.heap.size) hcl)); have hle3 := hb.size; have HCL := Lib.hid hcl; clear hb hcl)
 have hbA := (Below.refl _ w3).alloc (Nat.le_refl _) (.cells #[.slice CL ps.length cL] 28)
 have K4 := Lib.hid ((K3.out.on hbA).and (stays_blk (blk_new w3 (g := w3.heap.size) #[.slice CL ps.length cL] 28 rfl)))
 have hz4 : (w3.alloc (.cells #[.slice CL ps.length cL] 28)).heap.size = w3.heap.size + 1 := by simp
 clear hbA
 generalize hg7 : w3.heap.size = g7 at *
 generalize w3.alloc (.cells #[.slice CL ps.length cL] 28) = W4 at *
 have r0 := cr 0 K4.out.1.1.1.1.1.2
 have r1 := cr 1 K4.out.1.1.1.1.1.2
 gi_upto_region 8 with (first | (refine ⟨trivial, ?_⟩; refine (HS.out.2.2.2 _ K4.out.1.1.1.1.2).mono ?_; rintro e w5 ⟨rfl, hb⟩; obtain ⟨W5, hst, ha5, hb5, hz5⟩ := arr_new w5 (allF rs ps)) | (refine wpListIn_plain rfl fun KK hKK => wpIn_op_store (fun _ => trivial) 125 (.tmp 8) (.tmp 30) rfl (by rfl) (by rfl) hst (hKK _ _ ?_)))
 dsimp only [Act.put]
 clear r0 r1 hst
 have hb45 := hb.trans (hb5.mono hb.size)
 have K5 := Lib.hid ((K4.out.on hb45).and (stays_arr ha5))
 have hg5 : g7 < w5.heap.size := by have := hb.size; omega
 clear hb hb5 hb45 ha5
 generalize hg8 : w5.heap.size = g8 at *
 have r0 := cr 0 K5.out.1.1.1.1.1.1.2
 have r1 := cr 1 K5.out.1.1.1.1.1.1.2
 have hbR := (Below.refl _ W5).alloc (Nat.le_refl _) (.cells (Array.replicate rs.length (Value.slice none 0 0)) 28)
 have hbR1 := (Below.refl _ (W5.alloc (.cells (Array.replicate rs.length (Value.slice none 0 0)) 28))).alloc (Nat.le_refl _) (.cells #[.slice (some ⟨g8 + 1, 0, none⟩) rs.length rs.length] 82)
 have hvl := (stays_vl (made_vlF (.slice none 0 0) 28 rs.length W5) (by simp)).on hbR1
 rw [hz5] at hvl
 have hz8 : ((W5.alloc (.cells (Array.replicate rs.length (Value.slice none 0 0)) 28)).alloc (.cells #[.slice (some ⟨g8 + 1, 0, none⟩) rs.length rs.length] 82)).heap.size = g8 + 1 + 1 + 1 := by simp [hz5]
 have K8 := Lib.hid (((K5.out.on (hbR.trans (hbR1.mono (by simp)))).and hvl).and (stays_blk (blk_new (W5.alloc (.cells (Array.replicate rs.length (Value.slice none 0 0)) 28)) (g := g8 + 1 + 1) #[.slice (some ⟨g8 + 1, 0, none⟩) rs.length rs.length] 82 (by simp [hz5]))))
 clear hbR hbR1 hvl
 gi_upto_region 9 with fail
 generalize ((W5.alloc (.cells (Array.replicate rs.length (Value.slice none 0 0)) 28)).alloc (.cells #[.slice (some ⟨g8 + 1, 0, none⟩) rs.length rs.length] 82)) = W8 at *
 clear r0 r1
 have r0 := cr 0 K8.out.1.1.1.1.1.1.1.1.2
 have hbk := fun W => callsIn_wide (n := n - 1).2 (backward_any A rs.length c W)
 have hseq := bw_seq (n - 1) h2 A c rs hr24 w.heap.size W8 (HT.out.1.r.ext K8.out.1.1.1.1.1.1.1.1.1 (Nat.le_refl _)) K8.out.1.1.1.1.1.1.1.1.1.size
 gi_wp2_with (refine ⟨trivial, ?_⟩; refine (hbk _).mono ?_; rintro e w' ⟨rfl, rfl⟩)
 have hb9 := (Below.refl _ W8).alloc (Nat.le_refl _) (.cells #[.slice A rs.length c] 39)
 have K9 := Lib.hid (K8.out.on hb9).1
 have hz9 : (W8.alloc (.cells #[.slice A rs.length c] 39)).heap.size = g8 + 1 + 1 + 1 + 1 := by simp [hz8]
 rw [hz8] at hseq
 generalize W8.alloc (.cells #[.slice A rs.length c] 39) = W9 at *
 clear hb9 r0 hbk K K1 K2 K3 K4 K5 K8
 obtain ⟨⟨⟨⟨⟨⟨⟨⟨bl, k0⟩, tr⟩, -⟩, clo⟩, k7⟩, ar⟩, ⟨vl, -⟩⟩, k9⟩ := K9.out
 clear K9
 obtain ⟨gL, hL1, hL2, hL3⟩ : ∃ gL, w.heap.size < gL ∧ (gL < g7 ∨ gL = g8 + 1) ∧ (0 < ps.length → CL = some ⟨gL, 0, none⟩ ∧ gL < g7 ∧ IntF W9 gL ps.length (nth xs)) := by
  by_cases h0 : 0 < ps.length
  ·obtain ⟨g, q1, q2, q3, q4⟩ := HCL.out h0
   obtain ⟨g', q5, _, _, q6⟩ := clo h0
   rw [q1] at q5
   cases q5
   exact ⟨g, by omega, .inl (by omega), fun _ => ⟨q1, by omega, q6⟩⟩
  ·exact ⟨g8 + 1, by omega, .inr rfl, fun h => absurd h h0⟩
 have D0 : DvI rs ps (nth xs) gL (g8 + 1) W9 0 W9 := ⟨ButB.refl _ _, fun h => (hL3 h).2.2, vl.fz, fun r hr => ⟨_, vl.at_ r hr, fun h => by omega⟩⟩
 have HX : Hid (∀ X, ButB (fun b => b = gL ∨ b = g8 + 1) W9 X → Blk X w.heap.size #[.slice A rs.length c, .slice B ps.length d] 42 ∧ Blk X g7 #[.slice CL ps.length cL] 28 ∧ ArrAt X g8 125 24 (allF rs ps) ∧ Blk X (g8 + 1 + 1) #[.slice (some ⟨g8 + 1, 0, none⟩) rs.length rs.length] 82 ∧ Below w.heap.size w X) :=
  Lib.hid fun X hX => ⟨hX.heap k0 (by omega), hX.heap k7 (by omega), ar.block (hX.same _ ar.lt (by omega)), hX.heap k9 (by omega), bl.trans (hX.below bl.size (by intro b hb; omega))⟩
 have HK := hd6 bl k0 tr k7 ar k9
 have HL := Lib.hid hL3
 clear bl k0 tr clo k7 ar vl k9 hL3
 refine wpIn_range_box rfl h1 (gf := 79) (lb := #[.pointer (some ⟨g8 + 1 + 1 + 1, 0, none⟩)]) rfl trivial eg_bw1 hseq KeepB.trans
  (fun W l o hl => KeepB.put W l o (by unfold bwK; omega)) (Below.refl _ _) (by intro b hb; cases hb) (by intro _; rfl)
  (fun pre W => DvI rs ps (nth xs) gL (g8 + 1) W9 pre.length W) (fun _ _ _ => False)
  (DvI.abide (by omega) (by omega) (fun pre : List Nat => pre.length))
  (fun _ _ _ _ _ h _ _ => h) D0 ?round ?done ?stop
 case round =>
  rintro l pre x rest W hf hD hsz
  have hxm := dn_at hf
  have hxr : x < rs.length := by omega
  have hx24 : x < 24 := by omega
  have hxz : (x : Int) < 24 := by omega
  have hxl : (x : Int) < (rs.length : Int) := by omega
  have hcu : cuF rs ps x = if usedB rs ps x = true then coF rs x else 0 := rfl
  have hcr := cuF_rng (ps := ps) HT.out.2.1 x hxr
  have hco := HT.out.2.1.co x hxr
  have hcF : coF rs x = (rAt rs x).co := rfl
  have hal := allF_rng HT.out.2.2.1 x
  gi_wp2
  have hgW := World.grownBy_alloc W (.cells #[.int .i64 (rAt rs x).ab, .int .i64 (rAt rs x).co] 65) none
  have k8 := blk_new W (g := W.heap.size) #[.int .i64 (rAt rs x).ab, .int .i64 (rAt rs x).co] 65 rfl
  have hD1 := hD.grown (by omega) (by omega) hgW (fun r e => by cases e)
  refine ⟨KeepsFrom.of_grownBy hgW (fun j e => by cases e), KeepB.grown hgW (fun r e => by cases e) (by unfold bwK; omega), ?_⟩
  intro W2 r hr hg2 ho2
  have kR : Blk W2 W.heap.size #[.int .i64 (rAt rs x).ab, .int .i64 (rAt rs x).co] 65 := heap_kept k8 rfl hg2 (fun r' e => by cases e; exact ho2)
  have hD2 := hD1.grown (by omega) (by omega) hg2 (fun r' e => by cases e; exact ⟨hr, ho2⟩)
  have hz2 := hg2.size
  rw [World.size_alloc] at hz2
  generalize hgR : W.heap.size = gR at *
  generalize W.alloc (.cells #[.int .i64 (rAt rs x).ab, .int .i64 (rAt rs x).co] 65) = W1 at *
  clear hgW hD1 hD hg2 ho2 hseq k8 D0
  have hb2 := HX.out W2 hD2.bt
  obtain ⟨V, hV, hcase⟩ : ∃ V, V = cuF rs ps x ∧ ((allF rs ps x = 0 ∧ V = 0) ∨ (¬ allF rs ps x = 0 ∧ V = (rAt rs x).co)) := by
   refine ⟨_, rfl, ?_⟩
   by_cases hz : allF rs ps x = 0
   ·exact .inl ⟨hz, by rw [hcu, if_neg (show ¬ usedB rs ps x = true from fun h => by have := of_decide_eq_true h; omega)]⟩
   ·exact .inr ⟨hz, by rw [hcu, if_pos (show usedB rs ps x = true from decide_eq_true (by omega))]; rfl⟩
  gi_upto_region 12 with fail
  have hlt2 : w.heap.size < W2.heap.size := (Array.getElem?_eq_some_iff.1 hb2.1).1
  refine wpIn_region_R (fun j => j != 7) ?_
  have c9 : W2.drew.cell? ⟨g8 + 1 + 1, 0, none⟩ = _ := cr 0 hb2.2.2.2.1
  have x1 : W2.drew.cell? ⟨w.heap.size, 1, none⟩ = _ := cr 1 hb2.1
  obtain ⟨v0, hv0, -⟩ := hD2.ro x hxr
  have hM : Hid (DvI rs ps (nth xs) gL (g8 + 1) W9 pre.length W2.drew ∧ Blk W2.drew gR #[.int .i64 (rAt rs x).ab, .int .i64 (rAt rs x).co] 65 ∧ ButB (fun b => b = gL ∨ b = g8 + 1) W2 W2.drew) := Lib.hid ⟨hD2.step hD2.bt.drew (Nat.le_refl _) rfl rfl (fun _ _ _ _ => rfl), kR, (ButB.refl _ _).drew⟩
  have hv0 : W2.drew.cell? ⟨g8 + 1, x, none⟩ = some v0 := hv0
  have HZ := Lib.hid (show W2.drew.heap.size = W2.heap.size from rfl)
  clear hb2 hD2 kR
  generalize hX : W2.drew = X0 at *
  clear hX
  refine bT c9 0 rfl ?_
  refine bF 1 rfl ?_
  refine bF 2 rfl ?_
  refine bT x1 3 rfl ?_
  refine bF 4 rfl ?_
  refine bR 5 rfl fun K hK => ?_
  go_simp
  refine hK.out _ _ (fun _ => (Below.refl _ X0).alloc (Nat.le_refl _) _) ?_
  have hzd := HZ.out
  have hnw := made_intF ps.length X0
  have hbA := (Below.refl _ X0).alloc (Nat.le_refl _) (.cells (Array.replicate ps.length (Value.int .i64 0)) 3)
  have hgA := World.grownBy_alloc X0 (.cells (Array.replicate ps.length (Value.int .i64 0)) 3) none
  have hDA := hM.out.1.grown (by omega) (by omega) hgA (fun r e => by cases e)
  have kA : Blk (X0.alloc (.cells (Array.replicate ps.length (Value.int .i64 0)) 3)) gR #[.int .i64 (rAt rs x).ab, .int .i64 (rAt rs x).co] 65 := (hbA.block gR (by omega)).trans hM.out.2.1
  have hv1 := (hbA.cell (p := ⟨g8 + 1, x, none⟩) (by dsimp only; omega)).trans hv0
  have fv1 := hDA.fz x
  have hsA := hM.out.2.2.alloc (.cells (Array.replicate ps.length (Value.int .i64 0)) 3)
  have hzA : (X0.alloc (.cells (Array.replicate ps.length (Value.int .i64 0)) 3)).heap.size = X0.heap.size + 1 := by simp
  have hBA := Lib.hid hbA
  clear c9 x1 hK hbA hgA hv0
  generalize hgr : X0.heap.size = gr at *
  generalize X0.alloc (.cells (Array.replicate ps.length (Value.int .i64 0)) 3) = X1 at *
  have hro := hDA.ro
  have hbt := hDA.bt
  have hlf := hDA.lf
  have hfz := hDA.fz
  have oth : ∀ k, k ≠ g8 + 1 → (X1.setCell ⟨g8 + 1, x, none⟩ (.slice (some ⟨gr, 0, none⟩) ps.length ps.length)).heap[k]? = X1.heap[k]? := fun k hk => Below.heap_setCell X1 ⟨g8 + 1, x, none⟩ _ k hk
  have M1 := ButB.set (p := fun b => b = gL ∨ b = g8 + 1) hsA (a := ⟨g8 + 1, x, none⟩) (.inr rfl) (.slice (some ⟨gr, 0, none⟩) ps.length ps.length)
  have M0 := ButB.set (p := fun b => b = gL ∨ b = g8 + 1) hbt (a := ⟨g8 + 1, x, none⟩) (.inr rfl) (.slice (some ⟨gr, 0, none⟩) ps.length ps.length)
  have M2 : 0 < ps.length → IntF (X1.setCell ⟨g8 + 1, x, none⟩ (.slice (some ⟨gr, 0, none⟩) ps.length ps.length)) gL ps.length (lfF rs ps (nth xs) pre.length) := fun h => (hlf h).heap (oth gL (by have := (HL.out h).2.1; omega))
  have M3 : ∀ o, (X1.setCell ⟨g8 + 1, x, none⟩ (.slice (some ⟨gr, 0, none⟩) ps.length ps.length)).frozen? ⟨g8 + 1, o, none⟩ = false := fun o => by rw [World.frozen?_setCell]; exact hfz o
  have M4 : ∀ r, r < rs.length → r ≠ x → ∃ v, (X1.setCell ⟨g8 + 1, x, none⟩ (.slice (some ⟨gr, 0, none⟩) ps.length ps.length)).cell? ⟨g8 + 1, r, none⟩ = some v ∧ (rs.length ≤ r + pre.length → ∃ g, v = .slice (some ⟨g, 0, none⟩) ps.length ps.length ∧ W9.heap.size ≤ g ∧ g < gr ∧ (0 < ps.length → IntF (X1.setCell ⟨g8 + 1, x, none⟩ (.slice (some ⟨gr, 0, none⟩) ps.length ps.length)) g ps.length (paF rs ps (nth xs) r))) := fun r hr hne => by
   obtain ⟨v, h1, -⟩ := hro r hr
   obtain ⟨v', h1', h2⟩ := hM.out.1.ro r hr
   have ev : v = v' := by
    have h3 := (hBA.out.cell (p := ⟨g8 + 1, r, none⟩) (by dsimp only; omega)).trans h1'
    rw [h1] at h3
    exact Option.some.inj h3
   refine ⟨v, (cell_set_ne hne).trans h1, fun hj => ?_⟩
   obtain ⟨g, e, q1, q2, q3⟩ := h2 hj
   exact ⟨g, ev.trans e, q1, by rw [← hgr]; exact q2, fun h0 => ((q3 h0).heap (hBA.out.block g (by omega))).heap (oth g (by omega))⟩
  have M5 : (X1.setCell ⟨g8 + 1, x, none⟩ (.slice (some ⟨gr, 0, none⟩) ps.length ps.length)).cell? ⟨g8 + 1, x, none⟩ = some (.slice (some ⟨gr, 0, none⟩) ps.length ps.length) := World.cell?_setCell_same' _ _ _ (by rw [hv1]; rfl)
  have M6 := hnw.heap (oth gr (by omega))
  have M7 : Blk (X1.setCell ⟨g8 + 1, x, none⟩ (.slice (some ⟨gr, 0, none⟩) ps.length ps.length)) gR #[.int .i64 (rAt rs x).ab, .int .i64 (rAt rs x).co] 65 := (oth gR (by omega)).trans kA
  have M8 : (X1.setCell ⟨g8 + 1, x, none⟩ (.slice (some ⟨gr, 0, none⟩) ps.length ps.length)).heap.size = gr + 1 := by rw [setCell_size']; exact hzA
  have HM := hd7 (And.intro M0 M1) M2 M3 M4 M5 M6 M7
  clear M0 M1 M2 M3 M4 M5 M6 M7 oth hro hbt hlf hfz hDA kA hsA hnw hBA hM hzA
  clear hzd
  refine bF 6 rfl ?_
  refine bR 7 rfl fun K hK => ?_
  go_simp
  refine hK.out _ _ (fun h => by cases h) ?_
  refine bD ?_
  refine eo_then ?_
  clear hK hv1 fv1
  generalize X1.setCell ⟨g8 + 1, x, none⟩ (.slice (some ⟨gr, 0, none⟩) ps.length ps.length) = X2 at *
  have hbx := HX.out X2 HM.out.1.1
  have y1 := cr 1 HM.out.2.2.2.2.2.2
  have a8 := hbx.2.2.1.cell hx24
  have x1 := cr 1 hbx.1
  clear hbx
  have hlr := fun i (hi : i < ps.length) => lfF_rng (ps := ps) HT.out.2.1 HT.out.2.2.2.1.rng pre.length (by omega) i hi
  have hd0 : 0 ≤ cuF rs ps x := hcr.1
  have hd1 : cuF rs ps x ≤ 65536 := by omega
  have HD := hd3 hlr hd0 hd1
  have HP := hd2 (paF_eq (ps := ps) (x := nth xs) hxm) (lfF_succ (ps := ps) (x := nth xs) hxm)
  have hgr9 : W9.heap.size ≤ gr := by have := HZ.out; omega
  clear hlr hd0 hd1 hcu hco hcF hal hcr
  gi_upto_if 52 with fail
  gi_cut [12] from 53 (fun s12 w' => s12 = .int .i64 (cuF rs ps x) ∧ X2 = w')
  case first =>
   rcases hcase with ⟨hz, hV0⟩ | ⟨hz, hVc⟩
   ·gi_wp2_with fail
    gi_meet
    case rel => exact ⟨by rw [← hV, hV0], rfl⟩
   ·gi_wp2_with fail
    gi_meet
    case rel => exact ⟨by rw [← hV, hVc], rfl⟩
  obtain ⟨rfl, rfl⟩ := hcut
  clear y1 a8 hcase hV
  gi_wp2
  clear x1
  gi_loopw [12, 56] (fun s i wr => ∃ k : Nat, k ≤ ps.length ∧ i = .int .i64 (k : Int) ∧ s = .int .i64 (dueTo (usR rs ps x) (lfF rs ps (nth xs) pre.length) (cuF rs ps x) k) ∧ Aside (ButB (fun b => (0 < ps.length ∧ b = gL) ∨ b = gr) X2 wr ∧ (0 < ps.length → IntF wr gL ps.length (mixL (usR rs ps x) (lfF rs ps (nth xs) pre.length) (cuF rs ps x) k)) ∧ IntF wr gr ps.length (mixT (usR rs ps x) (lfF rs ps (nth xs) pre.length) (cuF rs ps x) k)))
   (fun _ i _ => ps.length - (intOf i).toNat)
  case atStart => exact ⟨0, Nat.zero_le _, by go_num, rfl, ButB.refl _ _, by rw [mixL_zero]; exact HM.out.2.1, by rw [mixT_zero]; exact HM.out.2.2.2.2.2.1⟩
  case round =>
   obtain ⟨k, hk, rfl, rfl, hA⟩ := hrel
   obtain ⟨hB, hl, hr'⟩ := hA.out
   clear hA
   have hWW := ButB.via (p := fun b => b = gL ∨ b = g8 + 1) HM.out.1.1 hB (fun b hb hq => by rcases hq with hq | hq; (· exact .inl hq.2); (· omega))
   have hbx := HX.out wr hWW
   have hszr := hB.size
   by_cases hlt : k < ps.length
   ·have h0 : 0 < ps.length := by omega
    have hltz : (k : Int) < (ps.length : Int) := by omega
    obtain ⟨b, off, rfl, lb, hc⟩ := HT.out.1.p h0
    obtain ⟨q0, q1, q2⟩ := hc k hlt
    dsimp only at q0 q1 q2
    have p0 := (hbx.2.2.2.2.cell (p := ⟨b, off + k * 3, none⟩) lb).trans q0
    have p1 := (hbx.2.2.2.2.cell (p := ⟨b, off + k * 3 + 1, none⟩) lb).trans q1
    have p2 := (hbx.2.2.2.2.cell (p := ⟨b, off + k * 3 + 2, none⟩) lb).trans q2
    clear q0 q1 q2 hc
    have HB := hd5 hB (hl h0) hr' hWW hbx
    clear hB hl hr' hWW hbx
    gi_upto_region 19 with fail
    have hbP := (ButB.refl (fun b => b = gL ∨ b = g8 + 1) wr).alloc (.cells #[.int .i64 (yAt ps k).id, .int .i64 (yAt ps k).rc, .int .i64 (yAt ps k).wt] 53)
    have hbQ := (ButB.refl (fun b => (0 < ps.length ∧ b = gL) ∨ b = gr) wr).alloc (.cells #[.int .i64 (yAt ps k).id, .int .i64 (yAt ps k).rc, .int .i64 (yAt ps k).wt] 53)
    have hbA := (Below.refl _ wr).alloc (Nat.le_refl _) (.cells #[.int .i64 (yAt ps k).id, .int .i64 (yAt ps k).rc, .int .i64 (yAt ps k).wt] 53)
    have kP := blk_new wr (g := wr.heap.size) #[.int .i64 (yAt ps k).id, .int .i64 (yAt ps k).rc, .int .i64 (yAt ps k).wt] 53 rfl
    have hlL : gL < wr.heap.size := by have := (HL.out h0).2.1; omega
    have hlR : gr < wr.heap.size := by omega
    have HB2 := hd5 (HB.out.1.trans hbQ) (HB.out.2.1.heap (hbA.block gL hlL)) (HB.out.2.2.1.heap (hbA.block gr hlR)) (HB.out.2.2.2.1.trans hbP) kP
    have hzP : (wr.alloc (.cells #[.int .i64 (yAt ps k).id, .int .i64 (yAt ps k).rc, .int .i64 (yAt ps k).wt] 53)).heap.size = wr.heap.size + 1 := by simp
    clear hbP hbQ hbA kP p0 p1 p2
    generalize hgP : wr.heap.size = gP at *
    generalize wr.alloc (.cells #[.int .i64 (yAt ps k).id, .int .i64 (yAt ps k).rc, .int .i64 (yAt ps k).wt] 53) = X3 at *
    have hbx := HX.out X3 HB2.out.2.2.2.1
    have r0 := cr 0 hbx.1
    have r1 := cr 1 hbx.1
    have y0 := cr 0 HB2.out.2.2.2.2
    have y1 := cr 1 HB2.out.2.2.2.2
    have y2 := cr 2 HB2.out.2.2.2.2
    have hrc := HT.out.2.2.1.rc k hlt
    have huse := uses_any ⟨A, c, rs, some ⟨b, off, none⟩, d, ps⟩ HT.out.2.1 (yAt ps k) (by omega) hrc.2 x X3 ((HT.out.1.ext hbx.2.2.2.2 (Nat.le_refl _)).mono hbx.2.2.2.2.size)
    rw [usB_us HT.out.2.1 HT.out.2.2.1 hlt] at huse
    dsimp only [Tr.v, Pay.v] at huse
    have hrd := dueTo_pos (us := usR rs ps x) HD.out.2.1 (k := k) (fun i hi => (HD.out.1 i (by omega)).1)
    have hdl := takes_rng (us := usR rs ps x) HD.out.2.1 (fun i hi => (HD.out.1 i hi).1) hlt
    have hlk := HD.out.1 k hlt
    have hds := dueTo_succ (usR rs ps x) (lfF rs ps (nth xs) pre.length) (cuF rs ps x) k
    clear hbx hrc HB
    by_cases hus : usR rs ps x k = true
    ·have htk : takes (usR rs ps x) (lfF rs ps (nth xs) pre.length) (cuF rs ps x) k = min (dueTo (usR rs ps x) (lfF rs ps (nth xs) pre.length) (cuF rs ps x) k) (lfF rs ps (nth xs) pre.length k) := if_pos hus
     rw [hus] at huse
     have HU := hd4 huse hds htk hdl
     clear huse hus hds htk hdl
     gi_upto_region 20 with (refine ⟨trivial, fun h => (by cases h), ?_⟩; refine (CallsIn.inRound _ (callsIn_wide.2 HU.out.1)).mono ?_; rintro e w4 ⟨rfl, hb4⟩)
     have hs4 := hb4.size
     have b4 := (HB2.out.1.trans (ButB.of_below (p := fun b => (0 < ps.length ∧ b = gL) ∨ b = gr) hb4))
     have l4 := HB2.out.2.1.heap (hb4.block gL (by omega))
     have t4 := HB2.out.2.2.1.heap (hb4.block gr (by omega))
     have W4' := HB2.out.2.2.2.1.trans (ButB.of_below (p := fun b => b = gL ∨ b = g8 + 1) hb4)
     have hbx := HX.out w4 W4'
     have ro4 := b4.cell HM.out.2.2.2.2.1 (by dsimp only; have := (HL.out h0).2.1; omega)
     have c7 := cr 0 hbx.2.1
     have c9 := cr 0 hbx.2.2.2.1
     have cl := l4.at_ k hlt
     have fl := l4.fz k
     have ct := t4.at_ k hlt
     have ft := t4.fz k
     rw [mixL_at] at cl
     have eCL := (HL.out h0).1
     subst eCL
     obtain ⟨T, hT⟩ : ∃ T, T = takes (usR rs ps x) (lfF rs ps (nth xs) pre.length) (cuF rs ps x) k := ⟨_, rfl⟩
     have hmn : (if lfF rs ps (nth xs) pre.length k < dueTo (usR rs ps x) (lfF rs ps (nth xs) pre.length) (cuF rs ps x) k then lfF rs ps (nth xs) pre.length k else dueTo (usR rs ps x) (lfF rs ps (nth xs) pre.length) (cuF rs ps x) k) = T := by
      have := HU.out.2.2.1
      split <;> omega
     have w1 : IntKind.i64.wrap (lfF rs ps (nth xs) pre.length k - T) = lfF rs ps (nth xs) pre.length k - T := by
      have := HU.out.2.2.2
      exact IntWalk.i64_in _ (by omega)
     have w2 : IntKind.i64.wrap (dueTo (usR rs ps x) (lfF rs ps (nth xs) pre.length) (cuF rs ps x) k - T) = dueTo (usR rs ps x) (lfF rs ps (nth xs) pre.length) (cuF rs ps x) k - T := by
      have := HU.out.2.2.2
      have hd1 := HD.out.2.2
      have := dueTo_le (us := usR rs ps x) HD.out.2.1 (k := k) (fun i hi => (HD.out.1 i (by omega)).1)
      exact IntWalk.i64_in _ (by omega)
     have H4 := hd6 b4 l4 t4 W4' ro4 hT
     clear b4 l4 t4 W4' hbx hb4 HB2 hT hlk hrd
     gi_upto_region 21 with fail
     refine wpIn_region_K (fun _ => trivial) (by kernel_rfl) (by kernel_rfl) (dvS (g8 + 1 + 1) (g8 + 1) x g7 gL k (.slice (some ⟨g8 + 1, 0, none⟩) rs.length rs.length) (.slice (some ⟨gr, 0, none⟩) ps.length ps.length) (.slice (some ⟨gL, 0, none⟩) ps.length cL) (.int .i64 (lfF rs ps (nth xs) pre.length k))) (fun j k => !(j == 20 && k == 3)) ?_
     have hLs := (HL.out h0).2.1
     have z0 : w4.drew.cell? ⟨g8 + 1 + 1, 0, none⟩ = some (.slice (some ⟨g8 + 1, 0, none⟩) rs.length rs.length) := c9
     have z1 : w4.drew.cell? ⟨g8 + 1, x, none⟩ = some (.slice (some ⟨gr, 0, none⟩) ps.length ps.length) := H4.out.2.2.2.2.1
     have z2 : w4.drew.cell? ⟨g7, 0, none⟩ = some (.slice (some ⟨gL, 0, none⟩) ps.length cL) := c7
     have z3 : w4.drew.cell? ⟨gL, k, none⟩ = some (.int .i64 (lfF rs ps (nth xs) pre.length k)) := cl
     have z4 : w4.drew.frozen? ⟨gL, k, none⟩ = false := fl
     have z5 : w4.drew.cell? ⟨gr, k, none⟩ = _ := ct
     have z6 : w4.drew.frozen? ⟨gr, k, none⟩ = false := ft
     have H5 : Hid (ButB (fun b => (0 < ps.length ∧ b = gL) ∨ b = gr) X2 w4.drew ∧ IntF w4.drew gL ps.length (mixL (usR rs ps x) (lfF rs ps (nth xs) pre.length) (cuF rs ps x) k) ∧ IntF w4.drew gr ps.length (mixT (usR rs ps x) (lfF rs ps (nth xs) pre.length) (cuF rs ps x) k)) := Lib.hid ⟨H4.out.1.drew, H4.out.2.1.heap rfl, H4.out.2.2.1.heap rfl⟩
     clear c7 c9 cl ct fl ft ro4
     generalize hX : w4.drew = X4 at *
     refine kT 0 0 rfl ?_
     refine kF 9 1 rfl ?_
     refine kF 9 2 rfl ?_
     refine kT 1 3 rfl ?_
     refine kF 9 4 rfl ?_
     refine kT 2 5 rfl ?_
     refine kF 9 6 rfl ?_
     refine kF 9 7 rfl ?_
     refine kT 2 8 rfl ?_
     refine kF 9 9 rfl ?_
     refine kF 9 10 rfl ?_
     refine kT 3 11 rfl ?_
     refine kF 9 12 rfl ?_
     refine kF 9 13 rfl ?_
     refine kF 9 14 rfl ?_
     refine kF 9 15 rfl ?_
     refine kF 9 16 rfl ?_
     refine kF 9 17 rfl ?_
     refine kR 18 rfl fun K hK => ?_
     go_simp
     refine hK.out _ _ (fun k' hk' h => dvS_set (by omega) (by omega) (by omega) k' (.inl (by omega)) h) ?_
     have o5 : ∀ b, b ≠ gr → (X4.setCell ⟨gr, k, none⟩ (.int .i64 T)).heap[b]? = X4.heap[b]? := fun b hb => Below.heap_setCell X4 ⟨gr, k, none⟩ _ b hb
     have z3' := (cell_of_heap (i := k) (o5 gL (by omega))).trans z3
     have z4' := (frozen_of_block (o5 gL (by omega)) k).trans z4
     have H6 : Hid (ButB (fun b => (0 < ps.length ∧ b = gL) ∨ b = gr) X2 (X4.setCell ⟨gr, k, none⟩ (.int .i64 T)) ∧ IntF (X4.setCell ⟨gr, k, none⟩ (.int .i64 T)) gL ps.length (mixL (usR rs ps x) (lfF rs ps (nth xs) pre.length) (cuF rs ps x) k) ∧ IntF (X4.setCell ⟨gr, k, none⟩ (.int .i64 T)) gr ps.length (mixT (usR rs ps x) (lfF rs ps (nth xs) pre.length) (cuF rs ps x) (k + 1))) := Lib.hid ⟨H5.out.1.set (a := ⟨gr, k, none⟩) (.inr rfl) _, H5.out.2.1.heap (o5 gL (by omega)), by rw [mixT_succ, ← H4.out.2.2.2.2.2]; exact H5.out.2.2.set hlt T⟩
     clear o5 z3 z4 z5 z6 H5 hK
     generalize X4.setCell ⟨gr, k, none⟩ (.int .i64 T) = X5 at *
     refine kF 9 19 rfl ?_
     refine kR 20 rfl fun K hK => ?_
     go_simp
     refine hK.out _ _ (fun k' hk' h => dvS_set (by omega) (by omega) (by omega) k' (.inr (fun e => by subst e; cases hk')) h) ?_
     have H7 : Hid (ButB (fun b => (0 < ps.length ∧ b = gL) ∨ b = gr) X2 (X5.setCell ⟨gL, k, none⟩ (.int .i64 (lfF rs ps (nth xs) pre.length k - T))) ∧ IntF (X5.setCell ⟨gL, k, none⟩ (.int .i64 (lfF rs ps (nth xs) pre.length k - T))) gL ps.length (mixL (usR rs ps x) (lfF rs ps (nth xs) pre.length) (cuF rs ps x) (k + 1)) ∧ IntF (X5.setCell ⟨gL, k, none⟩ (.int .i64 (lfF rs ps (nth xs) pre.length k - T))) gr ps.length (mixT (usR rs ps x) (lfF rs ps (nth xs) pre.length) (cuF rs ps x) (k + 1))) := Lib.hid ⟨H6.out.1.set (a := ⟨gL, k, none⟩) (.inl ⟨h0, rfl⟩) _, by rw [mixL_succ, ← H4.out.2.2.2.2.2]; exact H6.out.2.1.set hlt _, H6.out.2.2.heap (Below.heap_setCell X5 ⟨gL, k, none⟩ _ gr (by dsimp only; omega))⟩
     clear z3' z4' H6 hK
     generalize X5.setCell ⟨gL, k, none⟩ (.int .i64 (lfF rs ps (nth xs) pre.length k - T)) = X6 at *
     refine kR 21 rfl fun K hK => ?_
     go_simp
     refine hK.out _ _ (fun k' hk' h => h) ?_
     refine kD ?_
     refine eo_block ?_
     clear hK
     gi_wp2
     go_roundw
     case rel => exact ⟨k + 1, by omega, by go_num, by rw [HU.out.2.1, ← H4.out.2.2.2.2.2], H7.out.1, fun _ => H7.out.2.1, H7.out.2.2⟩
     case measure => simp only [intOf]; omega
    ·have hus : usR rs ps x k = false := by simpa using hus
     rw [hus] at huse
     have HU := hd3 huse hds hus
     clear huse hus hds hdl
     gi_wp2_with (refine ⟨trivial, fun h => (by cases h), ?_⟩; refine (CallsIn.inRound _ (callsIn_wide.2 HU.out.1)).mono ?_; rintro e w4 ⟨rfl, hb4⟩; have HB4 := Lib.hid hb4; clear hb4)
     go_roundw
     case rel => exact ⟨k + 1, by omega, by go_num, by rw [HU.out.2.1, takes_off HU.out.2.2, Int.sub_zero], HB2.out.1.trans (ButB.of_below (p := fun b => (0 < ps.length ∧ b = gL) ∨ b = gr) HB4.out), fun _ => by rw [mixL_off HU.out.2.2]; exact HB2.out.2.1.heap (HB4.out.block gL (by omega)), by rw [mixT_off HU.out.2.2]; exact HB2.out.2.2.1.heap (HB4.out.block gr (by omega))⟩
     case measure => simp only [intOf]; omega
   ·obtain rfl : k = ps.length := by omega
    have HF : Hid (KeepsFrom W9.heap.size W2 wr ∧ KeepB (bwK w.heap.size (g8 + 1 + 1 + 1)) W2 wr ∧ DvI rs ps (nth xs) gL (g8 + 1) W9 (pre ++ [x]).length wr) := by
     have hBB : ButB (fun b => b = gL ∨ b = g8 + 1) W2 wr := ButB.via (p := fun b => b = gL ∨ b = g8 + 1) HM.out.1.2 hB (fun b hb hq => by rcases hq with hq | hq; (· exact .inl hq.2); (· have := HZ.out; omega))
     refine Lib.hid ⟨⟨hBB.size, fun k o hB' hk' ho => (hBB.same k (Array.getElem?_eq_some_iff.1 hk').1 (by omega)).trans hk'⟩, ⟨hBB.size, fun b hb => hBB.same b (by unfold bwK at hb; omega) (by unfold bwK at hb; omega)⟩, ?_⟩
     have hlen : (pre ++ [x]).length = pre.length + 1 := by simp
     rw [hlen]
     have hO' : ∀ h : 0 < ps.length, gL ≠ g8 + 1 := fun h => by have := (HL.out h).2.1; omega
     have sO : wr.heap[g8 + 1]? = X2.heap[g8 + 1]? := hB.same _ (by omega) (fun hq => by rcases hq with hq | hq; (· exact hO' hq.1 hq.2.symm); (· omega))
     refine ⟨hWW, fun h0 => (hl h0).congr fun i hi => ?_, fun o => (frozen_of_block sO o).trans (HM.out.2.2.1 o), fun r hr => ?_⟩
     ·rw [HP.out.2]
      exact if_pos hi
     ·by_cases e : r = x
      ·subst e
       exact ⟨_, (cell_of_heap sO).trans HM.out.2.2.2.2.1, fun _ => ⟨gr, rfl, hgr9, by omega, fun _ => hr'.congr fun i hi => by rw [HP.out.1]; exact if_pos hi⟩⟩
      ·obtain ⟨v, q1, q2⟩ := HM.out.2.2.2.1 r hr e
       refine ⟨v, (cell_of_heap sO).trans q1, fun hj => ?_⟩
       obtain ⟨g, q3, q4, q5, q6⟩ := q2 (by omega)
       exact ⟨g, q3, q4, by omega, fun h0 => (q6 h0).heap (hB.same g (by omega) (by have := (HL.out h0).2.1; omega))⟩
    clear hB hl hr' hWW hbx
    gi_wp2
    exact HF.out
 case done =>
  rintro D W hD hV hK
  rw [dn_len] at hV
  have hbx := HX.out W hV.bt
  have c9 := cr 0 hbx.2.2.2.1
  have HF := hd4 hV hbx.2.2.2.2 (Mk.cons (Mk.nil (g8 + 1 + 1 + 1 + 1) W) (by omega) hK (fun D' h => by cases h)) hV.bt.size
  clear hV hbx hK
  gi_wp2
  refine mk_leave (B := g8 + 1 + 1 + 1 + 1) HF.out.2.2.1 fun W2 hB2 => ?_
  refine ⟨_, results_tmp2 rfl _ _ _, ?_, ?_⟩
  ·refine ⟨g8 + 1, rfl, by have := hB2.size; have := HF.out.2.2.2; omega, fun r hr => ?_⟩
   obtain ⟨v, q1, q2⟩ := HF.out.1.ro r hr
   obtain ⟨g, rfl, q3, q4, q5⟩ := q2 (by omega)
   refine ⟨g, (cell_of_heap (hB2.same _ (by have := HF.out.2.2.2; omega) (fun h => by omega))).trans q1, Nat.lt_of_lt_of_le q4 hB2.size, fun h0 => (q5 h0).heap (hB2.same g q4 fun h => not_def_of_cell ((q5 h0).at_ 0 h0) h.2)⟩
  ·exact HF.out.2.1.trans (hB2.below HF.out.2.1.size (by intro b hb e; have := HF.out.2.2.2; have := HF.out.2.1.size; omega))
 case stop =>
  rintro D c pre x rest W _ _ h _
  exact h.elim
theorem Divide_any (t : Tr) (ok : RsOk t.rs) (pk : PsOk t.rs t.ps) (C : Option Addr) (e : Nat) (xs : List Int) (hx : PenceOk t.ps.length xs) (hf : FairF t.rs t.ps (nth xs)) (w : World) (ht : TrAt w w.heap.size t) (hp : Rd w w.heap.size C xs) :
  Calls Tryz.prog 27 #[t.v, .slice C xs.length e] w fun e' w' => (∃ gO, e' = .returned (.tuple #[.slice (some ⟨gO, 0, none⟩) t.rs.length t.rs.length, .int .i64 0]) ∧ gO < w'.heap.size ∧
   ∀ r, r < t.rs.length → ∃ g, w'.cell? ⟨gO, r, none⟩ = some (.slice (some ⟨g, 0, none⟩) t.ps.length t.ps.length) ∧ g < w'.heap.size ∧ (0 < t.ps.length → IntF w' g t.ps.length (paF t.rs t.ps (nth xs) r))) ∧ Below w.heap.size w w' := callsIn_wide.1 (Divide_in 3 (Nat.le_refl _) t ok pk C e xs hx hf w ht hp)
end Go.Proofs.YtegmniphgahblaaGreat
