/- Walks: the specification's casedAt and Ends. -/
import Derived.Test.YtdadoelajhemjaaG2
import Derived.Test.YtdadoelajhemjaaD1
import Derived.Test.YtdadoelajhemjaaE1
namespace Go.Proofs.Ytdadoelajhemjaa
open Go.RowKit Go.Shelf

/-- What the specification's casedAt answers: the outlet's number (0 at an error). -/
def casI (ws : List Car) (cs : Cs) (id : Int) : Int := if askE ws cs id = 0 then idxI (idxO ws id) else 0
set_option maxRecDepth 100000 in
set_option maxHeartbeats 1600000 in
theorem rCasedAt_any (A : Option Addr) (c : Nat) (ws : List Car) (cs : Cs) (id : Int) (w : World) (h : Wk w A ws) (hs : Csd w cs) :
  Calls Try.prog 89 #[.agg #[.slice A ws.length c], cs.v, .int .i64 id] w fun e w' => e = .returned (.tuple #[.int .i64 (casI ws cs id), .int .i64 (askE ws cs id)]) ∧ Below w.heap.size w w' := by
 obtain ⟨A0, B1, d0, d1, ri, bo⟩ := cs
 show Calls _ _ #[.agg #[.slice A ws.length c], .agg #[.slice A0 ri.length d0, .slice B1 bo.length d1], .int .i64 id] _ _
 have hb : Below w.heap.size w ((w.alloc (.cells #[.slice A ws.length c] 24)).alloc (.cells #[.slice A0 ri.length d0, .slice B1 bo.length d1] 51)) := ((Below.refl _ w).alloc (Nat.le_refl _) _).alloc (by simp) _
 have K := Lib.hid ((((stays_bl hb).and (stays_blk (blk_alloc (blk_new w #[.slice A ws.length c] 24 rfl) _))).and (stays_blk (g := w.heap.size + 1) (blk_new (w.alloc (.cells #[.slice A ws.length c] 24)) #[.slice A0 ri.length d0, .slice B1 bo.length d1] 51 (by simp)))).and ((stays_wk (h.ext hb)).and (stays_csd (hs.ext hb))))
 clear hb h hs
 have HC := Lib.hid (fun W hW hs => rCheckCase_any A c ws ⟨A0, B1, d0, d1, ri, bo⟩ W hW hs)
 have HF := Lib.hid (fun W hW => rIndex_any A c ws id W hW)
 have hd1 : askE ws ⟨A0, B1, d0, d1, ri, bo⟩ id = if ccE ws ⟨A0, B1, d0, d1, ri, bo⟩ = 0 then (if (idxO ws id).isSome = true then 0 else 5) else ccE ws ⟨A0, B1, d0, d1, ri, bo⟩ := rfl
 have hd2 : casI ws ⟨A0, B1, d0, d1, ri, bo⟩ id = if askE ws ⟨A0, B1, d0, d1, ri, bo⟩ id = 0 then idxI (idxO ws id) else 0 := rfl
 rw [hd2]
 clear hd2
 by_cases h0 : ccE ws ⟨A0, B1, d0, d1, ri, bo⟩ = 0
 ·rw [if_pos h0] at hd1
  rw [h0] at HC
  clear h0
  cases hx : idxO ws id with
  | none =>
   rw [hx] at hd1 HF
   rw [show askE ws ⟨A0, B1, d0, d1, ri, bo⟩ id = 5 from hd1, if_neg (by decide)]
   clear hd1 hx
   dsimp only [idxI] at HF
   go_enter Try.func89, Try.ntmps89
   go_upto_region 1 with fail
   generalize (w.alloc (.cells #[.slice A ws.length c] 24)).alloc (.cells #[.slice A0 ri.length d0, .slice B1 bo.length d1] 51) = W0 at *
   have p0 := cr 0 K.out.1.1.1.2
   have p1 := cr 0 K.out.1.1.2
   have p2 := cr 1 K.out.1.1.2
   go_upto_region 4 with (go_at_call 49; refine (HC.out _ K.out.1.2.1 K.out.1.2.2).mono ?_; rintro e w1 ⟨rfl, hb⟩; have K1 := Lib.hid (K.out.on hb); clear hb)
   clear p0 p1 p2
   have p0 := cr 0 K1.out.1.1.1.2
   go_wp2_with (go_at_call 133; refine (HF.out _ K1.out.1.2.1).mono ?_; rintro e w2 ⟨rfl, hb⟩; have K2 := Lib.hid (K1.out.on hb); clear hb)
   go_ret2
   exact ⟨rfl, K2.out.1.1.1.1⟩
  | some x =>
   rw [hx] at hd1 HF
   rw [if_pos (show (some x).isSome = true from rfl)] at hd1
   rw [show askE ws ⟨A0, B1, d0, d1, ri, bo⟩ id = 0 from hd1, if_pos rfl, show idxI (some x) = (x : Int) from rfl]
   dsimp only [idxI] at HF
   have hx0 : ¬ (x : Int) < 0 := by omega
   clear hx hd1
   go_enter Try.func89, Try.ntmps89
   go_upto_region 1 with fail
   generalize (w.alloc (.cells #[.slice A ws.length c] 24)).alloc (.cells #[.slice A0 ri.length d0, .slice B1 bo.length d1] 51) = W0 at *
   have p0 := cr 0 K.out.1.1.1.2
   have p1 := cr 0 K.out.1.1.2
   have p2 := cr 1 K.out.1.1.2
   go_upto_region 4 with (go_at_call 49; refine (HC.out _ K.out.1.2.1 K.out.1.2.2).mono ?_; rintro e w1 ⟨rfl, hb⟩; have K1 := Lib.hid (K.out.on hb); clear hb)
   clear p0 p1 p2
   have p0 := cr 0 K1.out.1.1.1.2
   go_wp2_with (go_at_call 133; refine (HF.out _ K1.out.1.2.1).mono ?_; rintro e w2 ⟨rfl, hb⟩; have K2 := Lib.hid (K1.out.on hb); clear hb)
   go_ret2
   exact ⟨rfl, K2.out.1.1.1.1⟩
 ·rw [if_neg h0] at hd1
  rw [hd1, if_neg h0]
  clear hd1
  generalize ccE ws ⟨A0, B1, d0, d1, ri, bo⟩ = E at *
  have hz : (E != 0) = true := by simpa using h0
  clear h0 HF
  go_enter Try.func89, Try.ntmps89
  go_upto_region 1 with fail
  generalize (w.alloc (.cells #[.slice A ws.length c] 24)).alloc (.cells #[.slice A0 ri.length d0, .slice B1 bo.length d1] 51) = W0 at *
  have p0 := cr 0 K.out.1.1.1.2
  have p1 := cr 0 K.out.1.1.2
  have p2 := cr 1 K.out.1.1.2
  go_wp2_with (go_at_call 49; refine (HC.out _ K.out.1.2.1 K.out.1.2.2).mono ?_; rintro e w1 ⟨rfl, hb⟩; have K1 := Lib.hid (K.out.on hb); clear hb)
  go_ret2
  exact ⟨rfl, K1.out.1.1.1.1⟩
/-- A supply and an error in a struct. -/
def supE (f : Sp) (s t : Wt) (E : Int) : Value := .agg #[.int .i64 f.1, .int .i64 f.2, .slice s.A0 s.ri.length s.c0, .slice s.A1 s.bo.length s.c1, .slice s.A2 s.lk.length s.c2, .slice s.A3 s.lo.length s.c3, .slice t.A0 t.ri.length t.c0, .slice t.A1 t.bo.length t.c1, .slice t.A2 t.lk.length t.c2, .slice t.A3 t.lo.length t.c3, .int .i64 E]
set_option maxRecDepth 100000 in
set_option maxHeartbeats 1600000 in
theorem rEndsI_any (A : Option Addr) (c : Nat) (ws : List Car) (cs : Cs) (id : Int) (w : World) (h : Wk w A ws) (hs : Csd w cs) :
  Calls Try.prog 55 #[.agg #[.slice A ws.length c], cs.v, .int .i64 id] w fun e w' => Below w.heap.size w w' ∧
   ((askE ws cs id ≠ 0 ∧ e = .returned (supE (0, 0) noW noW (askE ws cs id))) ∨
   (askE ws cs id = 0 ∧ ∃ x s t, idxO ws id = some x ∧ e = .returned (supE (endsF ws cs x) s t 0) ∧ Wet w' s ∧ Wet w' t ∧ Corner ws cs x false s ∧ Corner ws cs x true t)) := by
 obtain ⟨A0, B1, d0, d1, ri, bo⟩ := cs
 show Calls _ _ #[.agg #[.slice A ws.length c], .agg #[.slice A0 ri.length d0, .slice B1 bo.length d1], .int .i64 id] _ _
 have hb : Below w.heap.size w (((w.alloc (.cells #[.slice A ws.length c] 24)).alloc (.cells #[.slice A0 ri.length d0, .slice B1 bo.length d1] 51)).alloc (.cells #[.int .i64 0, .int .i64 0, .slice none 0 0, .slice none 0 0, .slice none 0 0, .slice none 0 0, .slice none 0 0, .slice none 0 0, .slice none 0 0, .slice none 0 0, .int .i64 0] 95)) := (((Below.refl _ w).alloc (Nat.le_refl _) _).alloc (by simp) _).alloc (by simp; omega) _
 have K := Lib.hid (((((stays_bl hb).and (stays_blk (blk_alloc (blk_alloc (blk_new w #[.slice A ws.length c] 24 rfl) _) _))).and (stays_blk (g := w.heap.size + 1) (blk_alloc (blk_new (w.alloc (.cells #[.slice A ws.length c] 24)) #[.slice A0 ri.length d0, .slice B1 bo.length d1] 51 (by simp)) _))).and ((stays_wk (h.ext hb)).and (stays_csd (hs.ext hb)))).and (stays_blk (g := (w.heap.size + 1 + 1)) (blk_new ((w.alloc (.cells #[.slice A ws.length c] 24)).alloc (.cells #[.slice A0 ri.length d0, .slice B1 bo.length d1] 51)) #[.int .i64 0, .int .i64 0, .slice none 0 0, .slice none 0 0, .slice none 0 0, .slice none 0 0, .slice none 0 0, .slice none 0 0, .slice none 0 0, .slice none 0 0, .int .i64 0] 95 (by simp))))
 clear hb h hs
 have HC := Lib.hid (fun W hW hs => rCasedAt_any A c ws ⟨A0, B1, d0, d1, ri, bo⟩ id W hW hs)
 have hd2 : casI ws ⟨A0, B1, d0, d1, ri, bo⟩ id = if askE ws ⟨A0, B1, d0, d1, ri, bo⟩ id = 0 then idxI (idxO ws id) else 0 := rfl
 by_cases h0 : askE ws ⟨A0, B1, d0, d1, ri, bo⟩ id = 0
 ·obtain ⟨g, k, x, hx, hxl, -⟩ := ask_zero h0
  rw [if_pos h0, hx, show idxI (some x) = (x : Int) from rfl] at hd2
  rw [hd2, h0] at HC
  have HI := hd4 hx g k hxl
  rw [h0]
  have H0 := Lib.hid h0
  clear hd2 h0 hx g k hxl
  go_enter Try.func55, Try.ntmps55
  go_upto_region 1 with fail
  generalize ((w.alloc (.cells #[.slice A ws.length c] 24)).alloc (.cells #[.slice A0 ri.length d0, .slice B1 bo.length d1] 51)).alloc (.cells #[.int .i64 0, .int .i64 0, .slice none 0 0, .slice none 0 0, .slice none 0 0, .slice none 0 0, .slice none 0 0, .slice none 0 0, .slice none 0 0, .slice none 0 0, .int .i64 0] 95) = W0 at *
  have p0 := cr 0 K.out.1.1.1.1.2
  have p1 := cr 0 K.out.1.1.1.2
  have p2 := cr 1 K.out.1.1.1.2
  go_upto_region 4 with (go_at_call 89; refine (HC.out _ K.out.1.1.2.1 K.out.1.1.2.2).mono ?_; rintro e w1 ⟨rfl, hb⟩; have K1 := Lib.hid (K.out.on hb); clear hb)
  clear p0 p1 p2
  have p0 := cr 0 K1.out.1.1.1.1.2
  have p1 := cr 0 K1.out.1.1.1.2
  have p2 := cr 1 K1.out.1.1.1.2
  have HU := Lib.hid (rEnds_any A c ws ⟨A0, B1, d0, d1, ri, bo⟩ x HI.out.2.2.2 w1 K1.out.1.1.2.1 HI.out.2.1 K1.out.1.1.2.2 HI.out.2.2.1)
  go_wp2_with first
   | (go_at_call 91; refine HU.out.mono ?_; rintro e w5 ⟨s, t, rfl, hs, ht, hcs, hct, hf1, hf2, hb⟩; have HS := hd7 hs ht hcs hct hf1 hf2 hb; unfold supV; have HQ5 := Lib.hid (K1.out.on hb).1; clear hs ht hcs hct hf1 hf2 hb)
   | (refine wpList_store_mid rfl 95 (.tmp 6) (.tmp 24) rfl (w.heap.size + 1 + 1) 0 _ rfl rfl (show World.there _ _ 0 11 from blk_there HQ5.out.2) (by kernel_rfl) (by simp [Value.oneCell']) ?_)
  obtain ⟨hs, ht, hcs, hct, hf1, hf2, hb⟩ := HS.out
  have hl : (w.heap.size + 1 + 1) < w1.heap.size := (Array.getElem?_eq_some_iff.1 K1.out.1.2).1
  have hBF := setCells_blk HQ5.out.2 [.int .i64 (endsF ws ⟨A0, B1, d0, d1, ri, bo⟩ x).1, .int .i64 (endsF ws ⟨A0, B1, d0, d1, ri, bo⟩ x).2, .slice s.A0 s.ri.length s.c0, .slice s.A1 s.bo.length s.c1, .slice s.A2 s.lk.length s.c2, .slice s.A3 s.lo.length s.c3, .slice t.A0 t.ri.length t.c0, .slice t.A1 t.bo.length t.c1, .slice t.A2 t.lk.length t.c2, .slice t.A3 t.lo.length t.c3, .int .i64 0] rfl
  exact bodyPost_ret (results_cell1 Try.results55 _ _ ⟨(w.heap.size + 1 + 1), 0, none⟩ _ (by rfl) (run_loadVar_mid _ _ 0 _ _ _ (blk_range hBF) Try.underlying95 rfl (by kernel_rfl))) rfl
   ⟨setCells_below (by omega) _ _ _ HQ5.out.1.1.1.1, .inr ⟨by trivial, x, s, t, HI.out.1, rfl, hs.moved (hf1.nb hl) (fun k hk => setCells_oth hk _ _ _) (by rw [setCells_size]; exact Nat.le_refl _), ht.moved (hf2.nb hl) (fun k hk => setCells_oth hk _ _ _) (by rw [setCells_size]; exact Nat.le_refl _), hcs, hct⟩⟩
 ·rw [if_neg h0] at hd2
  rw [hd2] at HC
  clear hd2
  generalize askE ws ⟨A0, B1, d0, d1, ri, bo⟩ id = E at *
  have hz : (E != 0) = true := by simpa using h0
  have HZ := Lib.hid h0
  clear h0
  go_enter Try.func55, Try.ntmps55
  go_upto_region 1 with fail
  generalize ((w.alloc (.cells #[.slice A ws.length c] 24)).alloc (.cells #[.slice A0 ri.length d0, .slice B1 bo.length d1] 51)).alloc (.cells #[.int .i64 0, .int .i64 0, .slice none 0 0, .slice none 0 0, .slice none 0 0, .slice none 0 0, .slice none 0 0, .slice none 0 0, .slice none 0 0, .slice none 0 0, .int .i64 0] 95) = W0 at *
  have p0 := cr 0 K.out.1.1.1.1.2
  have p1 := cr 0 K.out.1.1.1.2
  have p2 := cr 1 K.out.1.1.1.2
  go_wp2_with first
   | (go_at_call 89; refine (HC.out _ K.out.1.1.2.1 K.out.1.1.2.2).mono ?_; rintro e w1 ⟨rfl, hb⟩; have K1 := Lib.hid (K.out.on hb); clear hb)
   | (refine wpList_store_mid rfl 95 (.tmp 6) (.tmp 19) rfl (w.heap.size + 1 + 1) 0 _ rfl rfl (show World.there _ _ 0 11 from blk_there K1.out.1.2) (by kernel_rfl) (by simp [Value.oneCell']) ?_)
  have hBF := setCells_blk K1.out.1.2 [.int .i64 0, .int .i64 0, .slice none 0 0, .slice none 0 0, .slice none 0 0, .slice none 0 0, .slice none 0 0, .slice none 0 0, .slice none 0 0, .slice none 0 0, .int .i64 E] rfl
  exact bodyPost_ret (results_cell1 Try.results55 _ _ ⟨(w.heap.size + 1 + 1), 0, none⟩ _ (by rfl) (run_loadVar_mid _ _ 0 _ _ _ (blk_range hBF) Try.underlying95 rfl (by kernel_rfl))) rfl
   ⟨setCells_below (by omega) _ _ _ K1.out.1.1.1.1.1, .inl ⟨HZ.out, rfl⟩⟩
end Go.Proofs.Ytdadoelajhemjaa
