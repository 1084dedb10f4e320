/- Walks: the specification's wished. -/
import Derived.Test.YtdadoelajhemjaaC8
import Derived.Test.YtdadoelajhemjaaE1
namespace Go.Proofs.Ytdadoelajhemjaa
open Go.RowKit Go.Shelf

/-- What the specification's wished answers: the outlet's number (0 at an error). -/
def wishI (ws : List Car) (s : Wt) (id want : Int) : Int := if wishE ws s id want = 0 then idxI (idxO ws id) else 0
set_option maxRecDepth 100000 in
set_option maxHeartbeats 1600000 in
theorem rWished_any (A : Option Addr) (c : Nat) (ws : List Car) (s : Wt) (id want : Int) (w : World) (h : Wk w A ws) (hs : Wet w s) :
    Calls Try.prog 96 #[.agg #[.slice A ws.length c], s.v, .int .i64 id, .int .i64 want] w fun e w' => e = .returned (.tuple #[.int .i64 (wishI ws s id want), .int .i64 (wishE ws s id want)]) ∧ Below w.heap.size w w' := by
  obtain ⟨A0, B1, A2, A3, d0, d1, d2, d3, ri, bo, lk, lo⟩ := s
  show Calls _ _ #[.agg #[.slice A ws.length c], .agg #[.slice A0 ri.length d0, .slice B1 bo.length d1, .slice A2 lk.length d2, .slice A3 lo.length d3], .int .i64 id, .int .i64 want] _ _
  have hb : Below w.heap.size w ((w.alloc (.cells #[.slice A ws.length c] 24)).alloc (.cells #[.slice A0 ri.length d0, .slice B1 bo.length d1, .slice A2 lk.length d2, .slice A3 lo.length d3] 27)) := ((Below.refl _ w).alloc (Nat.le_refl _) _).alloc (by simp) _
  have K := Lib.hid ((((stays_bl hb).and (stays_blk (blk_alloc (blk_new w #[.slice A ws.length c] 24 rfl) _))).and (stays_blk (g := w.heap.size + 1) (blk_new (w.alloc (.cells #[.slice A ws.length c] 24)) #[.slice A0 ri.length d0, .slice B1 bo.length d1, .slice A2 lk.length d2, .slice A3 lo.length d3] 27 (by simp)))).and ((stays_wk (h.ext hb)).and (stays_wet (hs.ext hb))))
  clear hb h hs
  have HC := Lib.hid (fun W hW hs => rCheckWater_any A c ws ⟨A0, B1, A2, A3, d0, d1, d2, d3, ri, bo, lk, lo⟩ W hW hs)
  have HF := Lib.hid (fun W hW => rIndex_any A c ws id W hW)
  have hd1 : wishE ws ⟨A0, B1, A2, A3, d0, d1, d2, d3, ri, bo, lk, lo⟩ id want = if cwE ws ⟨A0, B1, A2, A3, d0, d1, d2, d3, ri, bo, lk, lo⟩ = 0 then (if (idxO ws id).isSome = true then (if withinB want 0 1048576 = true then 0 else 1) else 5) else cwE ws ⟨A0, B1, A2, A3, d0, d1, d2, d3, ri, bo, lk, lo⟩ := rfl
  have hd2 : wishI ws ⟨A0, B1, A2, A3, d0, d1, d2, d3, ri, bo, lk, lo⟩ id want = if wishE ws ⟨A0, B1, A2, A3, d0, d1, d2, d3, ri, bo, lk, lo⟩ id want = 0 then idxI (idxO ws id) else 0 := rfl
  rw [hd2]
  clear hd2
  by_cases h0 : cwE ws ⟨A0, B1, A2, A3, d0, d1, d2, d3, ri, bo, lk, lo⟩ = 0
  · rw [if_pos h0] at hd1
    rw [h0] at HC
    clear h0
    cases hx : idxO ws id with
    | none =>
      rw [hx] at hd1 HF
      rw [show wishE ws ⟨A0, B1, A2, A3, d0, d1, d2, d3, ri, bo, lk, lo⟩ id want = 5 from hd1, if_neg (by decide)]
      clear hd1 hx
      dsimp only [idxI] at HF
      go_enter Try.func96, Try.ntmps96
      go_upto_region 1 with fail
      generalize (w.alloc (.cells #[.slice A ws.length c] 24)).alloc (.cells #[.slice A0 ri.length d0, .slice B1 bo.length d1, .slice A2 lk.length d2, .slice A3 lo.length d3] 27) = W0 at *
      have p0 := cell_row (i := 0) K.out.1.1.1.2
      have p1 := cell_row (i := 0) K.out.1.1.2
      have p2 := cell_row (i := 1) K.out.1.1.2
      have p3 := cell_row (i := 2) K.out.1.1.2
      have p4 := cell_row (i := 3) K.out.1.1.2
      go_upto_region 4 with (go_at_call 28; refine (HC.out _ K.out.1.2.1 K.out.1.2.2).mono ?_; rintro e w1 ⟨rfl, hb⟩; have K1 := Lib.hid (K.out.on hb); clear hb)
      clear p0 p1 p2 p3 p4
      have p0 := cell_row (i := 0) K1.out.1.1.1.2
      go_wp2_with (go_at_call 133; refine (HF.out _ K1.out.1.2.1).mono ?_; rintro e w2 ⟨rfl, hb⟩; have K2 := Lib.hid (K1.out.on hb); clear hb)
      go_ret2
      exact ⟨rfl, K2.out.1.1.1.1⟩
    | some x =>
      rw [hx] at hd1 HF
      rw [if_pos (show (some x).isSome = true from rfl)] at hd1
      dsimp only [idxI] at HF
      have hx0 : ¬ (x : Int) < 0 := by omega
      have HW := Lib.hid (fun W => rWithin_any want 0 1048576 W)
      clear hx
      cases hw : withinB want 0 1048576 with
      | false =>
        rw [hw] at hd1 HW
        rw [show wishE ws ⟨A0, B1, A2, A3, d0, d1, d2, d3, ri, bo, lk, lo⟩ id want = 1 from hd1, if_neg (by decide)]
        clear hd1 hw
        go_enter Try.func96, Try.ntmps96
        go_upto_region 1 with fail
        generalize (w.alloc (.cells #[.slice A ws.length c] 24)).alloc (.cells #[.slice A0 ri.length d0, .slice B1 bo.length d1, .slice A2 lk.length d2, .slice A3 lo.length d3] 27) = W0 at *
        have p0 := cell_row (i := 0) K.out.1.1.1.2
        have p1 := cell_row (i := 0) K.out.1.1.2
        have p2 := cell_row (i := 1) K.out.1.1.2
        have p3 := cell_row (i := 2) K.out.1.1.2
        have p4 := cell_row (i := 3) K.out.1.1.2
        go_upto_region 4 with (go_at_call 28; refine (HC.out _ K.out.1.2.1 K.out.1.2.2).mono ?_; rintro e w1 ⟨rfl, hb⟩; have K1 := Lib.hid (K.out.on hb); clear hb)
        clear p0 p1 p2 p3 p4
        have p0 := cell_row (i := 0) K1.out.1.1.1.2
        go_upto_region 7 with (go_at_call 133; refine (HF.out _ K1.out.1.2.1).mono ?_; rintro e w2 ⟨rfl, hb⟩; have K2 := Lib.hid (K1.out.on hb); clear hb)
        go_wp2_with (go_at_call 110; refine (HW.out _).mono ?_; rintro e w3 ⟨rfl, hb⟩; have K3 := Lib.hid (K2.out.on hb); clear hb)
        go_ret2
        exact ⟨rfl, K3.out.1.1.1.1⟩
      | true =>
        rw [hw] at hd1 HW
        rw [show wishE ws ⟨A0, B1, A2, A3, d0, d1, d2, d3, ri, bo, lk, lo⟩ id want = 0 from hd1, if_pos rfl, show idxI (some x) = (x : Int) from rfl]
        clear hd1 hw
        go_enter Try.func96, Try.ntmps96
        go_upto_region 1 with fail
        generalize (w.alloc (.cells #[.slice A ws.length c] 24)).alloc (.cells #[.slice A0 ri.length d0, .slice B1 bo.length d1, .slice A2 lk.length d2, .slice A3 lo.length d3] 27) = W0 at *
        have p0 := cell_row (i := 0) K.out.1.1.1.2
        have p1 := cell_row (i := 0) K.out.1.1.2
        have p2 := cell_row (i := 1) K.out.1.1.2
        have p3 := cell_row (i := 2) K.out.1.1.2
        have p4 := cell_row (i := 3) K.out.1.1.2
        go_upto_region 4 with (go_at_call 28; refine (HC.out _ K.out.1.2.1 K.out.1.2.2).mono ?_; rintro e w1 ⟨rfl, hb⟩; have K1 := Lib.hid (K.out.on hb); clear hb)
        clear p0 p1 p2 p3 p4
        have p0 := cell_row (i := 0) K1.out.1.1.1.2
        go_upto_region 7 with (go_at_call 133; refine (HF.out _ K1.out.1.2.1).mono ?_; rintro e w2 ⟨rfl, hb⟩; have K2 := Lib.hid (K1.out.on hb); clear hb)
        go_wp2_with (go_at_call 110; refine (HW.out _).mono ?_; rintro e w3 ⟨rfl, hb⟩; have K3 := Lib.hid (K2.out.on hb); clear hb)
        go_ret2
        exact ⟨rfl, K3.out.1.1.1.1⟩
  · rw [if_neg h0] at hd1
    rw [hd1, if_neg h0]
    clear hd1
    generalize cwE ws ⟨A0, B1, A2, A3, d0, d1, d2, d3, ri, bo, lk, lo⟩ = E at *
    have hz : (E != 0) = true := by simpa using h0
    clear h0 HF
    go_enter Try.func96, Try.ntmps96
    go_upto_region 1 with fail
    generalize (w.alloc (.cells #[.slice A ws.length c] 24)).alloc (.cells #[.slice A0 ri.length d0, .slice B1 bo.length d1, .slice A2 lk.length d2, .slice A3 lo.length d3] 27) = W0 at *
    have p0 := cell_row (i := 0) K.out.1.1.1.2
    have p1 := cell_row (i := 0) K.out.1.1.2
    have p2 := cell_row (i := 1) K.out.1.1.2
    have p3 := cell_row (i := 2) K.out.1.1.2
    have p4 := cell_row (i := 3) K.out.1.1.2
    go_wp2_with (go_at_call 28; refine (HC.out _ K.out.1.2.1 K.out.1.2.2).mono ?_; rintro e w1 ⟨rfl, hb⟩; have K1 := Lib.hid (K.out.on hb); clear hb)
    go_ret2
    exact ⟨rfl, K1.out.1.1.1.1⟩
end Go.Proofs.Ytdadoelajhemjaa
