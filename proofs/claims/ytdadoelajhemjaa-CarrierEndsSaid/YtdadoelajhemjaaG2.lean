/- Walks: the specification's ends. -/
import Derived.Test.YtdadoelajhemjaaG1
import Derived.Test.YtdadoelajhemjaaQ1
import Derived.Test.YtdadoelajhemjaaC9
namespace Go.Proofs.Ytdadoelajhemjaa
open Go.RowKit Go.Shelf

theorem field_fl (A : Option Addr) (n c : Nat) (B : Option Addr) (m d : Nat) (k : Int) (w : World) : (Instr.field 128 (.agg #[.slice A n c, .slice B m d, .int .i64 k]) 0).run Try.prog w = .ok (.slice A n c) w := by kernel_rfl
/-- What corner answers. -/
def CorR (ws : List Car) (cs : Cs) (x : Nat) (most : Bool) (w : World) (e : Ending) (w' : World) : Prop := ∃ s : Wt, e = .returned s.v ∧ Wet w' s ∧ Corner ws cs x most s ∧ Fresh w.heap.size s.A0 ∧ Fresh w.heap.size s.A1 ∧ Fresh w.heap.size s.A2 ∧ Fresh w.heap.size s.A3 ∧ Below w.heap.size w w'
set_option maxRecDepth 100000 in
set_option maxHeartbeats 1000000 in
theorem rEnds_any (A : Option Addr) (c : Nat) (ws : List Car) (cs : Cs) (x : Nat) (hx : x < (outs ws).length) (w : World) (hW : Wk w A ws) (g : Good ws) (hc : Csd w cs) (hk : CsOk ws cs) :
  Calls Try.prog 91 #[.agg #[.slice A ws.length c], cs.v, .int .i64 (x : Int)] w fun e w' => ∃ s t : Wt, e = .returned (supV (endsF ws cs x) s t) ∧ Wet w' s ∧ Wet w' t ∧ Corner ws cs x false s ∧ Corner ws cs x true t ∧ WFr w.heap.size s ∧ WFr w.heap.size t ∧ Below w.heap.size w w' := by
 obtain ⟨A0, A1, c0, c1, ri, bo⟩ := cs
 have HQ : Hid (Below w.heap.size w (((w.alloc (.cells #[.slice A ws.length c] 24)).alloc (.cells #[.slice A0 ri.length c0, .slice A1 bo.length c1] 51)).alloc (.cells #[.int .i64 0, .int .i64 0, .slice none 0 0, .slice none 0 0, .slice none 0 0, .slice none 0 0, .slice none 0 0, .slice none 0 0, .slice none 0 0, .slice none 0 0] 91)) ∧ Blk (((w.alloc (.cells #[.slice A ws.length c] 24)).alloc (.cells #[.slice A0 ri.length c0, .slice A1 bo.length c1] 51)).alloc (.cells #[.int .i64 0, .int .i64 0, .slice none 0 0, .slice none 0 0, .slice none 0 0, .slice none 0 0, .slice none 0 0, .slice none 0 0, .slice none 0 0, .slice none 0 0] 91)) w.heap.size #[.slice A ws.length c] 24 ∧ Blk (((w.alloc (.cells #[.slice A ws.length c] 24)).alloc (.cells #[.slice A0 ri.length c0, .slice A1 bo.length c1] 51)).alloc (.cells #[.int .i64 0, .int .i64 0, .slice none 0 0, .slice none 0 0, .slice none 0 0, .slice none 0 0, .slice none 0 0, .slice none 0 0, .slice none 0 0, .slice none 0 0] 91)) (w.heap.size + 1) #[.slice A0 ri.length c0, .slice A1 bo.length c1] 51 ∧ Blk (((w.alloc (.cells #[.slice A ws.length c] 24)).alloc (.cells #[.slice A0 ri.length c0, .slice A1 bo.length c1] 51)).alloc (.cells #[.int .i64 0, .int .i64 0, .slice none 0 0, .slice none 0 0, .slice none 0 0, .slice none 0 0, .slice none 0 0, .slice none 0 0, .slice none 0 0, .slice none 0 0] 91)) (w.heap.size + 1 + 1) #[.int .i64 0, .int .i64 0, .slice none 0 0, .slice none 0 0, .slice none 0 0, .slice none 0 0, .slice none 0 0, .slice none 0 0, .slice none 0 0, .slice none 0 0] 91 ∧ (((w.alloc (.cells #[.slice A ws.length c] 24)).alloc (.cells #[.slice A0 ri.length c0, .slice A1 bo.length c1] 51)).alloc (.cells #[.int .i64 0, .int .i64 0, .slice none 0 0, .slice none 0 0, .slice none 0 0, .slice none 0 0, .slice none 0 0, .slice none 0 0, .slice none 0 0, .slice none 0 0] 91)).heap.size = w.heap.size + 3) :=
  Lib.hid ⟨(((Below.refl _ w).alloc (Nat.le_refl _) _).alloc (by simp) _).alloc (by simp; omega) _, blk_alloc (blk_alloc (blk_new _ _ _ rfl) _) _, blk_alloc (blk_new _ _ _ (by simp)) _, blk_new _ _ _ (by simp), by simp⟩
 have HC : Hid ((∀ X, Below w.heap.size w X → Calls Try.prog 134 #[.agg #[.slice A ws.length c], .agg #[.slice A0 ri.length c0, .slice A1 bo.length c1], .int .i64 (x : Int), .int .i64 (-1)] X (CorR ws ⟨A0, A1, c0, c1, ri, bo⟩ x false X)) ∧ (∀ X, Below w.heap.size w X → Calls Try.prog 134 #[.agg #[.slice A ws.length c], .agg #[.slice A0 ri.length c0, .slice A1 bo.length c1], .int .i64 (x : Int), .int .i64 1] X (CorR ws ⟨A0, A1, c0, c1, ri, bo⟩ x true X))) :=
  Lib.hid ⟨fun X hb => rCorner_any A c ws ⟨A0, A1, c0, c1, ri, bo⟩ x false hx X (hW.ext hb) g (hc.ext hb) hk, fun X hb => rCorner_any A c ws ⟨A0, A1, c0, c1, ri, bo⟩ x true hx X (hW.ext hb) g (hc.ext hb) hk⟩
 have HI := hd4 hW g hc hk
 clear hW hc hk g
 dsimp only [Cs.v]
 go_enter Try.func91, Try.ntmps91
 go_upto_region 1 with fail
 refine wp_region_cutR (fun j => j != 10) (fun a' w' => ∃ (s t : Wt) (b : Nat), a' = { tmps := #[.agg #[.slice A ws.length c], .agg #[.slice A0 ri.length c0, .slice A1 bo.length c1], .int .i64 (x : Int), .pointer (some ⟨w.heap.size, 0, none⟩), .pointer (some ⟨w.heap.size + 1, 0, none⟩), undef, .pointer (some ⟨w.heap.size + 1 + 1, 0, none⟩), .pointer (some ⟨b, 0, none⟩), .agg #[.slice A ws.length c], .agg #[.slice A0 ri.length c0, .slice A1 bo.length c1], .int .i64 (x : Int), .agg #[.slice s.A0 s.ri.length s.c0, .slice s.A1 s.bo.length s.c1, .slice s.A2 s.lk.length s.c2, .slice s.A3 s.lo.length s.c3], .agg #[.slice A ws.length c], .agg #[.slice A0 ri.length c0, .slice A1 bo.length c1], .int .i64 (x : Int), .agg #[.slice t.A0 t.ri.length t.c0, .slice t.A1 t.bo.length t.c1, .slice t.A2 t.lk.length t.c2, .slice t.A3 t.lo.length t.c3], .agg #[.int .i64 0, .int .i64 0, .slice s.A0 s.ri.length s.c0, .slice s.A1 s.bo.length s.c1, .slice s.A2 s.lk.length s.c2, .slice s.A3 s.lo.length s.c3, .slice t.A0 t.ri.length t.c0, .slice t.A1 t.bo.length t.c1, .slice t.A2 t.lk.length t.c2, .slice t.A3 t.lo.length t.c3], undef, undef, undef, undef, undef, undef, undef, undef, undef, undef, undef, undef, undef, undef, undef, undef, undef, undef, undef], defers := [] } ∧
   Aside (Blk w' b #[.int .i64 0, .int .i64 0, .slice s.A0 s.ri.length s.c0, .slice s.A1 s.bo.length s.c1, .slice s.A2 s.lk.length s.c2, .slice s.A3 s.lo.length s.c3, .slice t.A0 t.ri.length t.c0, .slice t.A1 t.bo.length t.c1, .slice t.A2 t.lk.length t.c2, .slice t.A3 t.lo.length t.c3] 91 ∧ w.heap.size + 3 ≤ b ∧ Below w.heap.size w w' ∧ (∀ k, k < w.heap.size + 3 → w'.heap[k]? = (((w.alloc (.cells #[.slice A ws.length c] 24)).alloc (.cells #[.slice A0 ri.length c0, .slice A1 bo.length c1] 51)).alloc (.cells #[.int .i64 0, .int .i64 0, .slice none 0 0, .slice none 0 0, .slice none 0 0, .slice none 0 0, .slice none 0 0, .slice none 0 0, .slice none 0 0, .slice none 0 0] 91)).heap[k]?) ∧ Wet w' s ∧ Wet w' t ∧ Corner ws ⟨A0, A1, c0, c1, ri, bo⟩ x false s ∧ Corner ws ⟨A0, A1, c0, c1, ri, bo⟩ x true t ∧ WNB b s ∧ WNB b t ∧ WNB (w.heap.size + 1 + 1) s ∧ WNB (w.heap.size + 1 + 1) t ∧ WFr w.heap.size s ∧ WFr w.heap.size t)) ?_ ?_
 ·have hX0 : Below w.heap.size w (((w.alloc (.cells #[.slice A ws.length c] 24)).alloc (.cells #[.slice A0 ri.length c0, .slice A1 bo.length c1] 51)).alloc (.cells #[.int .i64 0, .int .i64 0, .slice none 0 0, .slice none 0 0, .slice none 0 0, .slice none 0 0, .slice none 0 0, .slice none 0 0, .slice none 0 0, .slice none 0 0] 91)).drew := HQ.out.1.drew
  have hX0' : Below (((w.alloc (.cells #[.slice A ws.length c] 24)).alloc (.cells #[.slice A0 ri.length c0, .slice A1 bo.length c1] 51)).alloc (.cells #[.int .i64 0, .int .i64 0, .slice none 0 0, .slice none 0 0, .slice none 0 0, .slice none 0 0, .slice none 0 0, .slice none 0 0, .slice none 0 0, .slice none 0 0] 91)).heap.size (((w.alloc (.cells #[.slice A ws.length c] 24)).alloc (.cells #[.slice A0 ri.length c0, .slice A1 bo.length c1] 51)).alloc (.cells #[.int .i64 0, .int .i64 0, .slice none 0 0, .slice none 0 0, .slice none 0 0, .slice none 0 0, .slice none 0 0, .slice none 0 0, .slice none 0 0, .slice none 0 0] 91)) (((w.alloc (.cells #[.slice A ws.length c] 24)).alloc (.cells #[.slice A0 ri.length c0, .slice A1 bo.length c1] 51)).alloc (.cells #[.int .i64 0, .int .i64 0, .slice none 0 0, .slice none 0 0, .slice none 0 0, .slice none 0 0, .slice none 0 0, .slice none 0 0, .slice none 0 0, .slice none 0 0] 91)).drew := (Below.refl _ _).drew
  have s0 : (((w.alloc (.cells #[.slice A ws.length c] 24)).alloc (.cells #[.slice A0 ri.length c0, .slice A1 bo.length c1] 51)).alloc (.cells #[.int .i64 0, .int .i64 0, .slice none 0 0, .slice none 0 0, .slice none 0 0, .slice none 0 0, .slice none 0 0, .slice none 0 0, .slice none 0 0, .slice none 0 0] 91)).drew.cell? ⟨w.heap.size, 0, none⟩ = some _ := cell_row HQ.out.2.1
  have s1 : (((w.alloc (.cells #[.slice A ws.length c] 24)).alloc (.cells #[.slice A0 ri.length c0, .slice A1 bo.length c1] 51)).alloc (.cells #[.int .i64 0, .int .i64 0, .slice none 0 0, .slice none 0 0, .slice none 0 0, .slice none 0 0, .slice none 0 0, .slice none 0 0, .slice none 0 0, .slice none 0 0] 91)).drew.cell? ⟨w.heap.size + 1, 0, none⟩ = some _ := cell_row HQ.out.2.2.1
  have s2 : (((w.alloc (.cells #[.slice A ws.length c] 24)).alloc (.cells #[.slice A0 ri.length c0, .slice A1 bo.length c1] 51)).alloc (.cells #[.int .i64 0, .int .i64 0, .slice none 0 0, .slice none 0 0, .slice none 0 0, .slice none 0 0, .slice none 0 0, .slice none 0 0, .slice none 0 0, .slice none 0 0] 91)).drew.cell? ⟨w.heap.size + 1, 1, none⟩ = some _ := cell_row HQ.out.2.2.1
  generalize (((w.alloc (.cells #[.slice A ws.length c] 24)).alloc (.cells #[.slice A0 ri.length c0, .slice A1 bo.length c1] 51)).alloc (.cells #[.int .i64 0, .int .i64 0, .slice none 0 0, .slice none 0 0, .slice none 0 0, .slice none 0 0, .slice none 0 0, .slice none 0 0, .slice none 0 0, .slice none 0 0] 91)).drew = X0 at *
  refine bT s0 0 rfl ?_
  refine bT s0 4 rfl ?_
  refine bP s1 s2 1 rfl ?_
  refine bP s1 s2 5 rfl ?_
  refine bF 2 rfl ?_
  refine bF 6 rfl ?_
  clear s0 s1 s2
  have hx0 := hX0'.size
  refine bA (rs := [3, 9]) (AllR.cons rfl (fun K hK => ?_) (AllR.cons rfl (fun K hK => ?_) AllR.nil))
  ·go_simp
   refine (HC.out.1 X0 (HQ.out.1.trans (hX0'.mono HQ.out.1.size))).mono ?_
   rintro e X1 ⟨s, rfl, hs, hcs, hf0, hf1, hf2, hf3, hb⟩
   dsimp only [Wt.v]
   refine hK.out _ _ (fun _ => hb) ?_
   have hX1 := hX0'.trans (hb.mono hX0'.size)
   clear hK
   refine bA (rs := [7, 9]) (AllR.cons rfl (fun K hK => ?_) (AllR.cons rfl (fun K hK => ?_) AllR.nil))
   ·go_simp
    refine (HC.out.2 X1 (HQ.out.1.trans (hX1.mono HQ.out.1.size))).mono ?_
    rintro e X2 ⟨t, rfl, ht, hct, hg0, hg1, hg2, hg3, hb'⟩
    dsimp only [Wt.v]
    refine hK.out _ _ (fun _ => hb') ?_
    have hX2 := hX1.trans (hb'.mono hX1.size)
    have hs' := hs.ext hb'
    clear hK
    refine bF 8 rfl ?_
    refine bR 9 rfl fun K hK => ?_
    go_simp
    refine hK.out _ _ (fun _ => (Below.refl _ _).alloc (Nat.le_refl _) _) ?_
    have hb3 := (Below.refl _ X2).alloc (Nat.le_refl _) (.cells #[.int .i64 0, .int .i64 0, .slice none 0 0, .slice none 0 0, .slice none 0 0, .slice none 0 0, .slice none 0 0, .slice none 0 0, .slice none 0 0, .slice none 0 0] 91)
    have hX3 := hX2.trans (hb3.mono hX2.size)
    have hbk := blk_new X2 (g := X2.heap.size) #[.int .i64 0, .int .i64 0, .slice none 0 0, .slice none 0 0, .slice none 0 0, .slice none 0 0, .slice none 0 0, .slice none 0 0, .slice none 0 0, .slice none 0 0] 91 rfl
    have hs3 := hs'.ext hb3
    have ht3 := ht.ext hb3
    have hxb := hX2.size
    clear hK
    refine bR 10 rfl fun K hK => ?_
    have hsz := HQ.out.2.2.2.2
    have hbw := HQ.out.1.trans (hX3.mono HQ.out.1.size)
    have hw := HQ.out.1.size
    have hh := hX3.size
    have hx1' := hX1.size
    have hx2' := hX2.size
    refine wp_store_mid 91 (.tmp 7) (.tmp 16) rfl X2.heap.size 0 #[.int .i64 0, .int .i64 0, .slice s.A0 s.ri.length s.c0, .slice s.A1 s.bo.length s.c1, .slice s.A2 s.lk.length s.c2, .slice s.A3 s.lo.length s.c3, .slice t.A0 t.ri.length t.c0, .slice t.A1 t.bo.length t.c1, .slice t.A2 t.lk.length t.c2, .slice t.A3 t.lo.length t.c3] rfl rfl (show World.there _ _ 0 10 from blk_there hbk) (by kernel_rfl) (by simp [Value.oneCell']) ?_
    refine hK.out _ _ (fun h => by cases h) ?_
    refine bD ?_
    exact ⟨s, t, X2.heap.size, rfl, (show _ ∧ _ ∧ _ ∧ _ ∧ _ ∧ _ ∧ _ ∧ _ ∧ _ ∧ _ ∧ _ ∧ _ ∧ _ ∧ _ from ⟨setCells_blk hbk _ rfl, by omega, setCells_below (by omega) _ _ _ hbw, fun k hk => (setCells_oth (by omega) _ _ _).trans (hX3.block k (by omega)), hs3.moved (hs'.nb (Nat.le_refl _)) (fun k hk => setCells_oth hk _ _ _) (by rw [setCells_size]; exact Nat.le_refl _), ht3.moved (ht.nb (Nat.le_refl _)) (fun k hk => setCells_oth hk _ _ _) (by rw [setCells_size]; exact Nat.le_refl _), hcs, hct, (hs'.nb (Nat.le_refl _)), (ht.nb (Nat.le_refl _)), ⟨hf0.nb (by omega), hf1.nb (by omega), hf2.nb (by omega), hf3.nb (by omega)⟩, ⟨hg0.nb (by omega), hg1.nb (by omega), hg2.nb (by omega), hg3.nb (by omega)⟩, ⟨hf0.mono (by omega), hf1.mono (by omega), hf2.mono (by omega), hf3.mono (by omega)⟩, ⟨hg0.mono (by omega), hg1.mono (by omega), hg2.mono (by omega), hg3.mono (by omega)⟩⟩)⟩
   ·go_simp
    refine hK.out _ _ (fun _ => (Below.refl _ _).alloc (Nat.le_refl _) _) ?_
    have hb3 := (Below.refl _ X1).alloc (Nat.le_refl _) (.cells #[.int .i64 0, .int .i64 0, .slice none 0 0, .slice none 0 0, .slice none 0 0, .slice none 0 0, .slice none 0 0, .slice none 0 0, .slice none 0 0, .slice none 0 0] 91)
    have hX2 := hX1.trans (hb3.mono hX1.size)
    have hbk := blk_new X1 (g := X1.heap.size) #[.int .i64 0, .int .i64 0, .slice none 0 0, .slice none 0 0, .slice none 0 0, .slice none 0 0, .slice none 0 0, .slice none 0 0, .slice none 0 0, .slice none 0 0] 91 rfl
    have nbs := hs.nb (Nat.le_refl X1.heap.size)
    replace hs := hs.ext hb3
    have hsz3 : (X1.alloc (.cells #[.int .i64 0, .int .i64 0, .slice none 0 0, .slice none 0 0, .slice none 0 0, .slice none 0 0, .slice none 0 0, .slice none 0 0, .slice none 0 0, .slice none 0 0] 91)).heap.size = X1.heap.size + 1 := by simp
    clear hK
    refine bR 7 rfl fun K hK => ?_
    go_simp
    refine (HC.out.2 (X1.alloc (.cells #[.int .i64 0, .int .i64 0, .slice none 0 0, .slice none 0 0, .slice none 0 0, .slice none 0 0, .slice none 0 0, .slice none 0 0, .slice none 0 0, .slice none 0 0] 91)) (HQ.out.1.trans (hX2.mono HQ.out.1.size))).mono ?_
    rintro e X3 ⟨t, rfl, ht, hct, hg0, hg1, hg2, hg3, hb'⟩
    dsimp only [Wt.v]
    refine hK.out _ _ (fun _ => hb') ?_
    have hX3 := hX2.trans (hb'.mono hX2.size)
    have hs' := hs.ext hb'
    clear hK
    have hbk' : Blk X3 X1.heap.size _ _ := (hb'.block _ (by omega)).trans hbk
    refine bF 8 rfl ?_
    refine bR 10 rfl fun K hK => ?_
    have hx1 := hX1.size
    have hsz := HQ.out.2.2.2.2
    have hbw := HQ.out.1.trans (hX3.mono HQ.out.1.size)
    have hw := HQ.out.1.size
    have hh := hX3.size
    have hx1' := hX1.size
    have hx2' := hX2.size
    refine wp_store_mid 91 (.tmp 7) (.tmp 16) rfl X1.heap.size 0 #[.int .i64 0, .int .i64 0, .slice s.A0 s.ri.length s.c0, .slice s.A1 s.bo.length s.c1, .slice s.A2 s.lk.length s.c2, .slice s.A3 s.lo.length s.c3, .slice t.A0 t.ri.length t.c0, .slice t.A1 t.bo.length t.c1, .slice t.A2 t.lk.length t.c2, .slice t.A3 t.lo.length t.c3] rfl rfl (show World.there _ _ 0 10 from blk_there hbk') (by kernel_rfl) (by simp [Value.oneCell']) ?_
    refine hK.out _ _ (fun h => by cases h) ?_
    refine bD ?_
    exact ⟨s, t, X1.heap.size, rfl, (show _ ∧ _ ∧ _ ∧ _ ∧ _ ∧ _ ∧ _ ∧ _ ∧ _ ∧ _ ∧ _ ∧ _ ∧ _ ∧ _ from ⟨setCells_blk hbk' _ rfl, by omega, setCells_below (by omega) _ _ _ hbw, fun k hk => (setCells_oth (by omega) _ _ _).trans (hX3.block k (by omega)), hs'.moved nbs (fun k hk => setCells_oth hk _ _ _) (by rw [setCells_size]; exact Nat.le_refl _), ht.moved ⟨hg0.nb (by omega), hg1.nb (by omega), hg2.nb (by omega), hg3.nb (by omega)⟩ (fun k hk => setCells_oth hk _ _ _) (by rw [setCells_size]; exact Nat.le_refl _), hcs, hct, nbs, ⟨hg0.nb (by omega), hg1.nb (by omega), hg2.nb (by omega), hg3.nb (by omega)⟩, ⟨hf0.nb (by omega), hf1.nb (by omega), hf2.nb (by omega), hf3.nb (by omega)⟩, ⟨hg0.nb (by omega), hg1.nb (by omega), hg2.nb (by omega), hg3.nb (by omega)⟩, ⟨hf0.mono (by omega), hf1.mono (by omega), hf2.mono (by omega), hf3.mono (by omega)⟩, ⟨hg0.mono (by omega), hg1.mono (by omega), hg2.mono (by omega), hg3.mono (by omega)⟩⟩)⟩
  ·go_simp
   refine hK.out _ _ (fun _ => (Below.refl _ _).alloc (Nat.le_refl _) _) ?_
   have hb3 := (Below.refl _ X0).alloc (Nat.le_refl _) (.cells #[.int .i64 0, .int .i64 0, .slice none 0 0, .slice none 0 0, .slice none 0 0, .slice none 0 0, .slice none 0 0, .slice none 0 0, .slice none 0 0, .slice none 0 0] 91)
   have hX1 := hX0'.trans (hb3.mono hX0'.size)
   have hbk := blk_new X0 (g := X0.heap.size) #[.int .i64 0, .int .i64 0, .slice none 0 0, .slice none 0 0, .slice none 0 0, .slice none 0 0, .slice none 0 0, .slice none 0 0, .slice none 0 0, .slice none 0 0] 91 rfl
   have hsz3 : (X0.alloc (.cells #[.int .i64 0, .int .i64 0, .slice none 0 0, .slice none 0 0, .slice none 0 0, .slice none 0 0, .slice none 0 0, .slice none 0 0, .slice none 0 0, .slice none 0 0] 91)).heap.size = X0.heap.size + 1 := by simp
   clear hK
   refine bR 3 rfl fun K hK => ?_
   go_simp
   refine (HC.out.1 (X0.alloc (.cells #[.int .i64 0, .int .i64 0, .slice none 0 0, .slice none 0 0, .slice none 0 0, .slice none 0 0, .slice none 0 0, .slice none 0 0, .slice none 0 0, .slice none 0 0] 91)) (HQ.out.1.trans (hX1.mono HQ.out.1.size))).mono ?_
   rintro e X2 ⟨s, rfl, hs, hcs, hf0, hf1, hf2, hf3, hb⟩
   dsimp only [Wt.v]
   refine hK.out _ _ (fun _ => hb) ?_
   have hX2 := hX1.trans (hb.mono hX1.size)
   clear hK
   have hbk1 : Blk X2 X0.heap.size _ _ := (hb.block _ (by omega)).trans hbk
   have hsb := hb.size
   refine bR 7 rfl fun K hK => ?_
   go_simp
   refine (HC.out.2 X2 (HQ.out.1.trans (hX2.mono HQ.out.1.size))).mono ?_
   rintro e X3 ⟨t, rfl, ht, hct, hg0, hg1, hg2, hg3, hb'⟩
   dsimp only [Wt.v]
   refine hK.out _ _ (fun _ => hb') ?_
   have hX3 := hX2.trans (hb'.mono hX2.size)
   have hs' := hs.ext hb'
   clear hK
   have hbk' : Blk X3 X0.heap.size _ _ := (hb'.block _ (by omega)).trans hbk1
   refine bF 8 rfl ?_
   refine bR 10 rfl fun K hK => ?_
   have hsz := HQ.out.2.2.2.2
   have hbw := HQ.out.1.trans (hX3.mono HQ.out.1.size)
   have hw := HQ.out.1.size
   have hh := hX3.size
   have hx1' := hX1.size
   have hx2' := hX2.size
   refine wp_store_mid 91 (.tmp 7) (.tmp 16) rfl X0.heap.size 0 #[.int .i64 0, .int .i64 0, .slice s.A0 s.ri.length s.c0, .slice s.A1 s.bo.length s.c1, .slice s.A2 s.lk.length s.c2, .slice s.A3 s.lo.length s.c3, .slice t.A0 t.ri.length t.c0, .slice t.A1 t.bo.length t.c1, .slice t.A2 t.lk.length t.c2, .slice t.A3 t.lo.length t.c3] rfl rfl (show World.there _ _ 0 10 from blk_there hbk') (by kernel_rfl) (by simp [Value.oneCell']) ?_
   refine hK.out _ _ (fun h => by cases h) ?_
   refine bD ?_
   exact ⟨s, t, X0.heap.size, rfl, (show _ ∧ _ ∧ _ ∧ _ ∧ _ ∧ _ ∧ _ ∧ _ ∧ _ ∧ _ ∧ _ ∧ _ ∧ _ ∧ _ from ⟨setCells_blk hbk' _ rfl, by omega, setCells_below (by omega) _ _ _ hbw, fun k hk => (setCells_oth (by omega) _ _ _).trans (hX3.block k (by omega)), hs'.moved ⟨hf0.nb (by omega), hf1.nb (by omega), hf2.nb (by omega), hf3.nb (by omega)⟩ (fun k hk => setCells_oth hk _ _ _) (by rw [setCells_size]; exact Nat.le_refl _), ht.moved ⟨hg0.nb (by omega), hg1.nb (by omega), hg2.nb (by omega), hg3.nb (by omega)⟩ (fun k hk => setCells_oth hk _ _ _) (by rw [setCells_size]; exact Nat.le_refl _), hcs, hct, ⟨hf0.nb (by omega), hf1.nb (by omega), hf2.nb (by omega), hf3.nb (by omega)⟩, ⟨hg0.nb (by omega), hg1.nb (by omega), hg2.nb (by omega), hg3.nb (by omega)⟩, ⟨hf0.nb (by omega), hf1.nb (by omega), hf2.nb (by omega), hf3.nb (by omega)⟩, ⟨hg0.nb (by omega), hg1.nb (by omega), hg2.nb (by omega), hg3.nb (by omega)⟩, ⟨hf0.mono (by omega), hf1.mono (by omega), hf2.mono (by omega), hf3.mono (by omega)⟩, ⟨hg0.mono (by omega), hg1.mono (by omega), hg2.mono (by omega), hg3.mono (by omega)⟩⟩)⟩
 ·rintro a' w' ⟨s, t, b, rfl, hF⟩
  dsimp only
  have HF := Lib.hid hF.out
  clear hF
  obtain ⟨hB, hb4, hbw, hbl, hs, ht, hcs, hct, hn1, hn2, hn3, hn4, hw1, hw2⟩ := HF.out
  have hlb : b < w'.heap.size := (Array.getElem?_eq_some_iff.1 hB).1
  have h6 := (hbl (w.heap.size + 1 + 1) (by omega)).trans HQ.out.2.2.2.1
  have HG := hd2 h6 hlb
  have hX0 : Below w'.heap.size w' w'.drew := (Below.refl _ _).drew
  have hB0 := (hX0.block b hlb).trans hB
  have s0 := cr 0 ((hX0.block w.heap.size (by omega)).trans ((hbl w.heap.size (by omega)).trans HQ.out.2.1))
  have a0 := cr 2 hB0
  have a1 := cr 3 hB0
  have a2 := cr 4 hB0
  have a3 := cr 5 hB0
  have b0 := cr 6 hB0
  have b1 := cr 7 hB0
  have b2 := cr 8 hB0
  have b3 := cr 9 hB0
  have HFl : Hid ((∀ X, Below w'.heap.size w' X → _) ∧ (∀ X, Below w'.heap.size w' X → _)) :=
   Lib.hid ⟨fun X hb => rFlow_any A c ws s X (HI.out.1.ext (hbw.trans (hb.mono hbw.size))) (hs.ext hb) HI.out.2.1 (hcs.ok HI.out.2.1 HI.out.2.2.2), fun X hb => rFlow_any A c ws t X (HI.out.1.ext (hbw.trans (hb.mono hbw.size))) (ht.ext hb) HI.out.2.1 (hct.ok HI.out.2.1 HI.out.2.2.2)⟩
  have hxz : (x : Int) < ((outs ws).length : Int) := by omega
  clear hB hb4 hbw hbl hs ht hcs hct hn1 hn2 hn3 hn4 hw1 hw2 h6 hB0
  go_wp2
  refine wp_region_R (fun j => j != 18) ?_
  generalize w'.drew = X0 at *
  refine bT s0 0 rfl ?_
  refine bT s0 8 rfl ?_
  refine bF 1 rfl ?_
  refine bF 5 rfl ?_
  refine bF 9 rfl ?_
  refine bF 13 rfl ?_
  refine bW a0 a1 a2 a3 2 rfl ?_
  refine bW b0 b1 b2 b3 10 rfl ?_
  clear s0 a0 a1 a2 a3 b0 b1 b2 b3
  refine bR 3 rfl fun K hK => ?_
  go_simp
  refine (HFl.out.1 X0 hX0).mono ?_
  rintro e X1 ⟨A5, c5, A6, c6, rfl, r5, -, -, -, hb⟩
  dsimp only
  refine hK.out _ _ (fun _ => hb) ?_
  have hX1 := hX0.trans (hb.mono hX0.size)
  clear hK hb
  obtain ⟨b5, o5, rfl, -, hc5⟩ := r5 (by rw [FLto_length]; omega)
  have z1 := hc5 x (by rw [FLto_length]; exact hx)
  rw [FLto_at hx] at z1
  generalize LOto ws s (outs ws).length = LS at *
  have hfl := field_fl
  refine bF 4 rfl ?_
  refine bF 6 rfl ?_
  refine bT z1 7 rfl ?_
  clear z1
  refine bR 11 rfl fun K hK => ?_
  go_simp
  refine (HFl.out.2 X1 hX1).mono ?_
  rintro e X2 ⟨A7, c7, A8, c8, rfl, r7, -, -, -, hb⟩
  dsimp only
  refine hK.out _ _ (fun _ => hb) ?_
  have hX2 := hX1.trans (hb.mono hX1.size)
  clear hK hb
  obtain ⟨b7, o7, rfl, -, hc7⟩ := r7 (by rw [FLto_length]; omega)
  have z1 := hc7 x (by rw [FLto_length]; exact hx)
  rw [FLto_at hx] at z1
  generalize LOto ws t (outs ws).length = LT at *
  refine bF 12 rfl ?_
  refine bF 14 rfl ?_
  refine bT z1 15 rfl ?_
  refine bF 16 rfl ?_
  refine bR 17 rfl fun K hK => ?_
  go_simp
  refine hK.out _ _ (fun _ => Below.refl _ _) ?_
  clear hK z1
  refine bR 18 rfl fun K hK => ?_
  have hB2 := (hX2.block b HG.out.2).trans HF.out.1
  have hth := blk_there hB2
  refine wp_store_mid 40 (.tmp 34) (.tmp 33) rfl b 0 #[.int .i64 (flowF ws s x), .int .i64 (flowF ws t x)] rfl rfl (fun j hj => hth j (show j < 10 by have h2 : j < 2 := hj; omega)) (by kernel_rfl) (by simp [Value.oneCell']) ?_
  refine hK.out _ _ (fun h => by cases h) ?_
  clear hK
  refine bD ?_
  have HH : Hid (Blk (X2.setCells b 0 [.int .i64 (flowF ws s x), .int .i64 (flowF ws t x)]) b #[.int .i64 (flowF ws s x), .int .i64 (flowF ws t x), .slice s.A0 s.ri.length s.c0, .slice s.A1 s.bo.length s.c1, .slice s.A2 s.lk.length s.c2, .slice s.A3 s.lo.length s.c3, .slice t.A0 t.ri.length t.c0, .slice t.A1 t.bo.length t.c1, .slice t.A2 t.lk.length t.c2, .slice t.A3 t.lo.length t.c3] 91 ∧ Blk (X2.setCells b 0 [.int .i64 (flowF ws s x), .int .i64 (flowF ws t x)]) (w.heap.size + 1 + 1) #[.int .i64 0, .int .i64 0, .slice none 0 0, .slice none 0 0, .slice none 0 0, .slice none 0 0, .slice none 0 0, .slice none 0 0, .slice none 0 0, .slice none 0 0] 91 ∧ Below w.heap.size w (X2.setCells b 0 [.int .i64 (flowF ws s x), .int .i64 (flowF ws t x)]) ∧ Wet (X2.setCells b 0 [.int .i64 (flowF ws s x), .int .i64 (flowF ws t x)]) s ∧ Wet (X2.setCells b 0 [.int .i64 (flowF ws s x), .int .i64 (flowF ws t x)]) t) := by
   obtain ⟨hB, hb4, hbw, hbl, hs, ht, hcs, hct, hn1, hn2, hn3, hn4, hw1, hw2⟩ := HF.out
   have hh := hX2.size
   have hw0 := HQ.out.1.size
   have hlb := HG.out.2
   exact Lib.hid ⟨heap_setCell_same _ _ 1 _ _ _ (heap_setCell_same _ _ 0 _ _ _ hB2), (setCells_oth (by omega) _ _ _).trans ((hX2.block _ (by omega)).trans HG.out.1), setCells_below (by omega) _ _ _ (hbw.trans (hX2.mono hbw.size)), (hs.ext hX2).moved hn1 (fun k hk => setCells_oth hk _ _ _) (by rw [setCells_size]; exact Nat.le_refl _), (ht.ext hX2).moved hn2 (fun k hk => setCells_oth hk _ _ _) (by rw [setCells_size]; exact Nat.le_refl _)⟩
  dsimp only [Act.put]
  generalize (X2.setCells b 0 [.int .i64 (flowF ws s x), .int .i64 (flowF ws t x)]) = X3 at *
  clear hB2 hth hfl
  go_wp2_with first
   | (refine wpList_load_mid rfl 91 (.tmp 7) rfl b 0 rfl _ _ (blk_range HH.out.1) Try.underlying91 rfl (by kernel_rfl) ?_)
   | (refine wpList_store_mid rfl 91 (.tmp 6) (.tmp 35) rfl (w.heap.size + 1 + 1) 0 _ rfl rfl (show World.there _ _ 0 10 from blk_there HH.out.2.1) (by kernel_rfl) (by simp [Value.oneCell']) ?_)
  obtain ⟨hB3, h63, hbX, hsX, htX⟩ := HH.out
  obtain ⟨hB, hb4, hbw, hbl, hs, ht, hcs, hct, hn1, hn2, hn3, hn4, hw1, hw2⟩ := HF.out
  have hBF := setCells_blk h63 [.int .i64 (flowF ws s x), .int .i64 (flowF ws t x), .slice s.A0 s.ri.length s.c0, .slice s.A1 s.bo.length s.c1, .slice s.A2 s.lk.length s.c2, .slice s.A3 s.lo.length s.c3, .slice t.A0 t.ri.length t.c0, .slice t.A1 t.bo.length t.c1, .slice t.A2 t.lk.length t.c2, .slice t.A3 t.lo.length t.c3] rfl
  have hE : (flowF ws s x, flowF ws t x) = endsF ws ⟨A0, A1, c0, c1, ri, bo⟩ x := by unfold endsF; rw [hcs.flow, hct.flow]
  exact bodyPost_ret (results_cell1 Try.results91 _ _ ⟨w.heap.size + 1 + 1, 0, none⟩ _ (by rfl) (run_loadVar_mid _ _ 0 _ _ _ (blk_range hBF) Try.underlying91 rfl (by kernel_rfl))) rfl
   ⟨s, t, by rw [← hE]; rfl, hsX.moved hn3 (fun k hk => setCells_oth hk _ _ _) (by rw [setCells_size]; exact Nat.le_refl _), htX.moved hn4 (fun k hk => setCells_oth hk _ _ _) (by rw [setCells_size]; exact Nat.le_refl _), hcs, hct, hw1, hw2, setCells_below (by omega) _ _ _ hbX⟩
end Go.Proofs.Ytdadoelajhemjaa
