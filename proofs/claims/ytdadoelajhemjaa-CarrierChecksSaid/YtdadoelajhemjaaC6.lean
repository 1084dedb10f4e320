/- Walks: the specification's places. -/
import Derived.Test.YtdadoelajhemjaaC1
namespace Go.Proofs.Ytdadoelajhemjaa
open Go.RowKit Go.Shelf

theorem info162 : (Try.prog.info? 162).map (fun i => (i.zero, i.size, i.bytes)) = some (some (.agg #[.int .i64 0, .int .i64 0]), 2, 16) := by kernel_rfl
/-- The places of the first x outlets, as spans (their carrier, their number there). -/
def plS (ws : List Car) (n : Nat) : List Sp := (List.range n).map fun i => ((caAt ws i : Int), (atAt ws i : Int))
theorem plS_length (ws : List Car) (n : Nat) : (plS ws n).length = n := by simp [plS]
theorem plS_succ (ws : List Car) (n : Nat) : plS ws (n + 1) = plS ws n ++ [((caAt ws n : Int), (atAt ws n : Int))] := by
 unfold plS
 rw [List.range_succ, List.map_append]
 rfl
theorem plS_at {ws : List Car} {n i : Nat} (h : i < n) : sAt (plS ws n) i = ((caAt ws i : Int), (atAt ws i : Int)) := by
 unfold sAt plS
 simp [h]
/-- A slice of the call's own that holds some places. -/
def OwnP2 (w : World) (base : Nat) (v : Value) (l : List Sp) : Prop := w.ownsRow base 162 2 v l.length (cellsS l)
theorem OwnP2.form {w : World} {base : Nat} {v : Value} {l : List Sp} (h : OwnP2 w base v l) : ∃ A c, v = .slice A l.length c ∧ ∀ k, v.ownBlock = some k → base ≤ k ∧ k < w.heap.size := by
 rcases h.2 with ⟨rfl, hn⟩ | ⟨g, cap, cur, rfl, hb, hg, hnc, _⟩
 ·exact ⟨none, 0, by rw [hn], fun k e => by cases e⟩
 ·exact ⟨_, _, rfl, fun k e => by cases e; exact ⟨hb, (Array.getElem?_eq_some_iff.1 hg).1⟩⟩
theorem OwnP2.rd {w : World} {base : Nat} {v : Value} {l : List Sp} (h : OwnP2 w base v l) : ∃ A c, v = .slice A l.length c ∧ RdS w w.heap.size A l ∧ Fresh base A := by
 have h0 := h
 rcases h.2 with ⟨rfl, hn⟩ | ⟨g, cap, cur, rfl, hb, hg, hnc, hcm, hcs, ht⟩
 ·exact ⟨none, 0, by rw [hn], fun hl => absurd hl (by omega), fun _ e => by cases e⟩
 ·refine ⟨_, _, rfl, fun hl => ⟨g, 0, rfl, (Array.getElem?_eq_some_iff.1 hg).1, fun i hi => ?_⟩, fun ad e => by cases e; exact hb⟩
  have c : ∀ j u, j < 2 → (spCells (sAt l i))[j]? = some u → w.cell? ⟨g, 0 + i * 2 + j, none⟩ = some u := fun j u hj hu => by
   have h1 := World.ownsRow.cells h0 (g := g) rfl (i * 2 + j) u (by rw [cellsS_at l i j hi hj]; exact hu)
   rw [add_eq] at h1
   rw [show 0 + i * 2 + j = 0 + (i * 2 + j) by omega]
   exact h1
  exact ⟨c 0 _ (by omega) rfl, c 1 _ (by omega) rfl⟩
theorem OwnP2.later {w w' : World} {base : Nat} {v : Value} {l : List Sp} (h : OwnP2 w base v l) (hb : Below w.heap.size w w') : OwnP2 w' base v l := by
 rcases h.2 with ⟨rfl, hn⟩ | ⟨g, cap, cur, rfl, hb', hg, hr⟩
 ·exact ⟨h.1, .inl ⟨rfl, hn⟩⟩
 ·exact ⟨h.1, .inr ⟨g, cap, cur, rfl, hb', (hb.block g (Array.getElem?_eq_some_iff.1 hg).1).trans hg, hr⟩⟩

set_option maxRecDepth 100000 in
set_option maxHeartbeats 1600000 in
theorem rPlacesF_any (A : Option Addr) (c : Nat) (ws : List Car) (w : World) (h : Wk w A ws) :
  Calls Try.prog 112 #[.agg #[.slice A ws.length c]] w fun e w' => ∃ A' c', e = .returned (.slice A' (outs ws).length c') ∧ RdS w' w'.heap.size A' (plS ws (outs ws).length) ∧ Fresh w.heap.size A' ∧ Below w.heap.size w w' := by
 obtain ⟨i0, hi0, hz0, hz1, hz2⟩ := info_parts info162
 have n1 := h.n1
 have n2 := h.n2
 have hb : Below w.heap.size w (w.alloc (.cells #[.slice A ws.length c] 24)) := (Below.refl _ w).alloc (Nat.le_refl _) _
 have K := Lib.hid (((stays_bl hb).and (stays_blk (blk_new w #[.slice A ws.length c] 24 rfl))).and (stays_wk (h.ext hb)))
 have HS := Lib.hid (show w.heap.size ≤ (w.alloc (.cells #[.slice A ws.length c] 24)).heap.size by simp)
 clear hb h
 go_enter Try.func112, Try.ntmps112
 go_upto_region 3 with fail
 generalize w.alloc (.cells #[.slice A ws.length c] 24) = W1 at *
 go_loopg [3, 4, 5] ws.length (fun gg out i _ wr => ∃ t : Nat, t ≤ ws.length ∧ ws.length - t ≤ gg ∧ i = .int .i64 t ∧ Aside (Below W1.heap.size W1 wr ∧ OwnP2 wr W1.heap.size out (plS ws (start ws t))))
 case atStart => exact ⟨0, Nat.zero_le _, by omega, rfl, Below.refl _ _, World.ownsRow_nil _ _ _ _⟩
 case round =>
  rename_i out _
  obtain ⟨t, hlt0, hgg, rfl, hA⟩ := hrel
  have HA := Lib.hid hA.out
  clear hA
  have p0 := cr 0 (K.out.on HA.out.1).1.1.2
  by_cases hlt : t < ws.length
  ·have hltz : (t : Int) < (ws.length : Int) := by omega
   have hls := start_succ hlt
   have hlm : start ws (t + 1) ≤ (outs ws).length := by rw [← start_all]; exact start_mono hlt (Nat.le_refl _)
   have HL := hd2 hls hlm
   clear hls hlm
   obtain ⟨b, off, rfl, hbl, hcs⟩ := K.out.1.2.rd (by omega)
   have q1 := (hcs t hlt).1
   have p1 := (HA.out.1.cell (p := ⟨b, off + t, none⟩) hbl).trans q1
   clear hcs hbl
   generalize (cAt ws t).A = A2 at *
   go_upto_region 6 with fail
   generalize wr = w5 at *
   clear p0 p1
   go_loopg [3, 5] (cAt ws t).os.length (fun gg out k wr => ∃ d : Nat, d ≤ (cAt ws t).os.length ∧ (cAt ws t).os.length - d ≤ gg ∧ k = .int .i64 d ∧ Aside (Below W1.heap.size W1 wr ∧ OwnP2 wr W1.heap.size out (plS ws (start ws t + d))))
   case atStart => exact ⟨0, Nat.zero_le _, by omega, rfl, HA.out.1, HA.out.2⟩
   case round =>
    rename_i out
    obtain ⟨d, hd0, hdg, rfl, hC⟩ := hrel
    have HC := Lib.hid hC.out
    clear hC
    have HB := Lib.hid HC.out.1
    have p0 := cr 0 (K.out.on HB.out).1.1.2
    have p1 := (HC.out.1.cell (p := ⟨b, off + t, none⟩) (lt_of_cell q1)).trans q1
    obtain ⟨A3, c3, rfl, hob⟩ := HC.out.2.form
    rw [plS_length]
    have HOB := Lib.hid hob
    clear hob
    by_cases hdl : d < (cAt ws t).os.length
    ·have hdz : (d : Int) < ((cAt ws t).os.length : Int) := by omega
     have hx0 : start ws t + d ≤ 1000 := by have := HL.out; omega
     have HPL := Lib.hid (show plS ws (start ws t + (d + 1)) = plS ws (start ws t + d) ++ [((t : Int), (d : Int))] from by
      rw [← Nat.add_assoc, plS_succ, caAt_start hlt hdl, atAt_start hlt hdl])
     go_upto_region 8 with fail
     have hnew := World.news_of_block (cs := #[.int .i64 (t : Int), .int .i64 (d : Int)]) (t := 162) (fr := (0, 0)) (World.alloc_heap_new wr (.cells #[.int .i64 (t : Int), .int .i64 (d : Int)] 162))
     have hbA := (Below.refl _ wr).alloc (Nat.le_refl _) (.cells #[.int .i64 (t : Int), .int .i64 (d : Int)] 162)
     have hown : (wr.alloc (.cells #[.int .i64 (t : Int), .int .i64 (d : Int)] 162)).ownsRow W1.heap.size 162 2 (.slice A3 (start ws t + d) c3) (start ws t + d) (cellsS (plS ws (start ws t + d))) := by
      have := HC.out.2.later hbA
      unfold OwnP2 at this
      rwa [plS_length] at this
     have hbs : W1.heap.size ≤ (wr.alloc (.cells #[.int .i64 (t : Int), .int .i64 (d : Int)] 162)).heap.size := Nat.le_trans HB.out.size hbA.size
     have HN := hd4 hown hnew hbs hbA
     clear hown hnew hbs hbA
     go_wp2_with (at_builtin; refine wpList_append_own_at _ rfl _ _ 158 rfl W1.heap.size 162 i0 (.agg #[.int .i64 0, .int .i64 0]) 2 16 Try.underlying158 hi0 hz0 hz1 hz2 rfl (by decide) (.slice A3 (start ws t + d) c3) (start ws t + d) _ rfl HN.out.1 ⟨wr.heap.size, 0, none⟩ 1 1 [.int .i64 (t : Int), .int .i64 (d : Int)] rfl (by simp) HN.out.2.1 (by simp [Value.oneCell']) (by unfold maxLen; omega) (by omega) HN.out.2.2.1 ?_; intro v' w9 hown1 hgrow _ _; have HP9 := hd2 hown1 hgrow; clear hown1 hgrow)
     go_roundg ((cAt ws t).os.length - (d + 1))
     case measure => omega
     case rel => exact ⟨d + 1, by omega, by omega, by go_num, (show _ ∧ _ from ⟨(HC.out.1.trans (HN.out.2.2.2.mono HC.out.1.size)).grown HP9.out.2 (Nat.le_trans HC.out.1.size HN.out.2.2.2.size) (fun k e => (HOB.out k (by rw [plS_length]; exact e)).1), by
      rw [HPL.out]
      unfold OwnP2
      rw [List.length_append, plS_length]
      unfold cellsS
      rw [List.flatMap_append]
      exact HP9.out.1⟩)⟩
    ·have hdz : ¬ (d : Int) < ((cAt ws t).os.length : Int) := by omega
     obtain rfl : d = (cAt ws t).os.length := by omega
     go_wp2
     go_roundg (ws.length - (t + 1))
     case measure => omega
     case rel => exact ⟨t + 1, by omega, by omega, by go_num, (show _ ∧ _ from ⟨HB.out, by
      rw [HL.out.1]
      have := HC.out.2
      rw [plS_length] at this
      exact this⟩)⟩
  ·have hltz : ¬ (t : Int) < (ws.length : Int) := by omega
   obtain rfl : t = ws.length := by omega
   rw [start_all] at HA
   obtain ⟨A3, c3, e3, hr, hf⟩ := HA.out.2.rd
   subst e3
   rw [plS_length]
   have HR := hd3 hr (hf.mono HS.out) (K.out.on HA.out.1).1.1.1
   clear hr hf HA
   go_wp2
   go_ret
   exact ⟨A3, ⟨c3, rfl⟩, HR.out.1, HR.out.2.1, HR.out.2.2⟩
theorem rPlaces_any (A : Option Addr) (c : Nat) (ws : List Car) (w : World) (h : Wk w A ws) :
  Calls Try.prog 112 #[.agg #[.slice A ws.length c]] w fun e w' => ∃ A' c', e = .returned (.slice A' (outs ws).length c') ∧ RdS w' w'.heap.size A' (plS ws (outs ws).length) ∧ Below w.heap.size w w' :=
 (rPlacesF_any A c ws w h).mono fun _ _ ⟨A', c', a, b, _, d⟩ => ⟨A', c', a, b, d⟩
end Go.Proofs.Ytdadoelajhemjaa
