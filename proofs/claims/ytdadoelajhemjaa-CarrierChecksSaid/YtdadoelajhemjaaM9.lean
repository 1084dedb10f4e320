/- Walks: Ends. | Walks: slices.Clone of ints and of spans, whose result may be written. | Walks: Rests. | Walks: wished. -/
import Derived.Test.YtdadoelajhemjaaM8
namespace Go.Proofs.Ytdadoelajhemjaa
open Go.RowKit Go.Shelf

/-- No water. -/
def noW : Wt := ⟨none, none, none, none, 0, 0, 0, 0, [], [], [], []⟩
theorem ask_zero {ws : List Car} {cs : Cs} {id : Int} (h : askE ws cs id = 0) : Good ws ∧ CsOk ws cs ∧ ∃ x, idxO ws id = some x ∧ x < (outs ws).length ∧ askP ws cs id = pl ws x := by
 unfold askE at h
 by_cases h0 : ccE ws cs = 0
 ·rw [if_pos h0] at h
  obtain ⟨g, k⟩ := cc_good h0
  cases hx : idxO ws id with
  | none => rw [hx] at h; cases h
  | some x => exact ⟨g, k, x, rfl, (idxO_some hx).1, by unfold askP; rw [if_pos h0, hx]; rfl⟩
 ·rw [if_neg h0] at h; exact absurd h h0

/-- Results: a box of ten cells, and a number. -/
theorem results_box10 {fn : Func} {p q : Tmp} {ty : TypeId} (h : fn.results = #[.cell p ty, .tmp q]) (tmps : Array Value) (w : World) (ad : Addr) (v u : Value) (hp : tmps.getD p undef = .pointer (some ad)) (hu : tmps.getD q undef = u)
  (hl : (loadVar ty ad).run Try.prog w = .ok v w) : (results fn tmps).run Try.prog w = .ok (.tuple #[v, u]) w := by
 have hp' : tmps[p]?.getD undef = .pointer (some ad) := by simpa using hp
 have hu' : tmps[q]?.getD undef = u := by simpa using hu
 simp [results, h, hp', hu', asAddr, hl]

set_option maxRecDepth 100000 in
set_option maxHeartbeats 800000 in
theorem Ends_any (A : Option Addr) (c : Nat) (ws : List Car) (cs : Cs) (id : Int) (w : World) (h : Wk w A ws) (hc : Csd w cs) :
  Calls Try.prog 54 #[.agg #[.slice A ws.length c], cs.v, .int .i64 id] w fun e w' => Below w.heap.size w w' ∧
   ((askE ws cs id ≠ 0 ∧ e = .returned (.tuple #[supV (0, 0) noW noW, .int .i64 (askE ws cs id)])) ∨
   (askE ws cs id = 0 ∧ ∃ x s t, idxO ws id = some x ∧ e = .returned (.tuple #[supV (endsF ws cs x) s t, .int .i64 0]) ∧ Wet w' s ∧ Wet w' t ∧ Corner ws cs x false s ∧ Corner ws cs x true t ∧ WFr w.heap.size s ∧ WFr w.heap.size t)) := by
 obtain ⟨A0, A1, c0, c1, ri, bo⟩ := cs
 have hb1 : Below w.heap.size w (((w.alloc (.cells #[.slice A ws.length c] 24)).alloc (.cells #[.slice A0 ri.length c0, .slice A1 bo.length c1] 51)).alloc (.cells #[.int .i64 0, .int .i64 0, .slice none 0 0, .slice none 0 0, .slice none 0 0, .slice none 0 0, .slice none 0 0, .slice none 0 0, .slice none 0 0, .slice none 0 0] 91)) := (((Below.refl _ w).alloc (Nat.le_refl _) _).alloc (by simp) _).alloc (by simp; omega) _
 have hch := asked_any A c ws ⟨A0, A1, c0, c1, ri, bo⟩ id _ (h.ext hb1) (hc.ext hb1)
 have q0 : Blk (((w.alloc (.cells #[.slice A ws.length c] 24)).alloc (.cells #[.slice A0 ri.length c0, .slice A1 bo.length c1] 51)).alloc (.cells #[.int .i64 0, .int .i64 0, .slice none 0 0, .slice none 0 0, .slice none 0 0, .slice none 0 0, .slice none 0 0, .slice none 0 0, .slice none 0 0, .slice none 0 0] 91)) w.heap.size #[.slice A ws.length c] 24 := blk_alloc (blk_alloc (blk_new _ _ _ rfl) _) _
 have q1 : Blk (((w.alloc (.cells #[.slice A ws.length c] 24)).alloc (.cells #[.slice A0 ri.length c0, .slice A1 bo.length c1] 51)).alloc (.cells #[.int .i64 0, .int .i64 0, .slice none 0 0, .slice none 0 0, .slice none 0 0, .slice none 0 0, .slice none 0 0, .slice none 0 0, .slice none 0 0, .slice none 0 0] 91)) (w.heap.size + 1) #[.slice A0 ri.length c0, .slice A1 bo.length c1] 51 := blk_alloc (blk_new _ _ _ (by simp)) _
 have q2 : Blk (((w.alloc (.cells #[.slice A ws.length c] 24)).alloc (.cells #[.slice A0 ri.length c0, .slice A1 bo.length c1] 51)).alloc (.cells #[.int .i64 0, .int .i64 0, .slice none 0 0, .slice none 0 0, .slice none 0 0, .slice none 0 0, .slice none 0 0, .slice none 0 0, .slice none 0 0, .slice none 0 0] 91)) (w.heap.size + 1 + 1) #[.int .i64 0, .int .i64 0, .slice none 0 0, .slice none 0 0, .slice none 0 0, .slice none 0 0, .slice none 0 0, .slice none 0 0, .slice none 0 0, .slice none 0 0] 91 := blk_new _ _ _ (by simp)
 have hs1 : (((w.alloc (.cells #[.slice A ws.length c] 24)).alloc (.cells #[.slice A0 ri.length c0, .slice A1 bo.length c1] 51)).alloc (.cells #[.int .i64 0, .int .i64 0, .slice none 0 0, .slice none 0 0, .slice none 0 0, .slice none 0 0, .slice none 0 0, .slice none 0 0, .slice none 0 0, .slice none 0 0] 91)).heap.size = w.heap.size + 3 := by simp
 have p0 := cr 0 q0
 have p1 := cr 0 q1
 have p2 := cr 1 q1
 have hz := fun (h : askE ws ⟨A0, A1, c0, c1, ri, bo⟩ id = 0) => ask_zero h
 have HH := hd9 hb1 hch h hc q0 q1 q2 hs1 hz
 clear hb1 hch q0 q1 q2 hs1 h hc hz
 dsimp only [Cs.v] at *
 generalize askE ws ⟨A0, A1, c0, c1, ri, bo⟩ id = D at *
 generalize askP ws ⟨A0, A1, c0, c1, ri, bo⟩ id = P at *
 by_cases h0 : D = 0
 rotate_left
 ·have hz : (D != 0) = true := by simpa using h0
  have HZ := Lib.hid h0
  clear h0
  go_enter Try.func54, Try.ntmps54
  go_upto_region 1 with fail
  generalize (((w.alloc (.cells #[.slice A ws.length c] 24)).alloc (.cells #[.slice A0 ri.length c0, .slice A1 bo.length c1] 51)).alloc (.cells #[.int .i64 0, .int .i64 0, .slice none 0 0, .slice none 0 0, .slice none 0 0, .slice none 0 0, .slice none 0 0, .slice none 0 0, .slice none 0 0, .slice none 0 0] 91)) = W1 at *
  go_upto_region 3 with (go_at_call 85; refine HH.out.2.1.mono ?_; rintro e w1 ⟨rfl, hb⟩; unfold plV; have HF := Lib.hid hb; clear hb)
  have hb9 := (Below.refl _ w1).alloc (Nat.le_refl _) (.cells #[.int .i64 P.1, .int .i64 P.2.1, .int .i64 P.2.2] 131)
  have hbw := HH.out.1.trans ((HF.out.trans (hb9.mono HF.out.size)).mono HH.out.1.size)
  have q2 := ((HF.out.trans (hb9.mono HF.out.size)).block (w.heap.size + 1 + 1) (by have := HH.out.2.2.2.2.2.2.2.1; omega)).trans HH.out.2.2.2.2.2.2.1
  generalize w1.alloc (.cells #[.int .i64 P.1, .int .i64 P.2.1, .int .i64 P.2.2] 131) = w3 at *
  have HB := hd2 hbw q2
  clear hb9 hbw q2
  go_wp2_with (refine wpList_store_mid rfl 91 (.tmp 6) (.tmp 19) rfl (w.heap.size + 1 + 1) 0 _ rfl rfl (show World.there _ _ 0 10 from blk_there HB.out.2) (by kernel_rfl) (by simp [Value.oneCell']) ?_)
  have hBF := setCells_blk HB.out.2 [.int .i64 0, .int .i64 0, .slice none 0 0, .slice none 0 0, .slice none 0 0, .slice none 0 0, .slice none 0 0, .slice none 0 0, .slice none 0 0, .slice none 0 0] rfl
  exact bodyPost_ret (results_box10 Try.results54 _ _ ⟨w.heap.size + 1 + 1, 0, none⟩ _ _ (by rfl) (by rfl) (run_loadVar_mid _ _ 0 _ _ _ (blk_range hBF) Try.underlying91 rfl (by kernel_rfl))) rfl
   ⟨setCells_below (by omega) _ _ _ HB.out.1, .inl ⟨HZ.out, rfl⟩⟩
 ·subst h0
  obtain ⟨g, k, x, hx, hxl, hP⟩ := HH.out.2.2.2.2.2.2.2.2 rfl
  subst hP
  have HX := hd4 hx hxl g k
  clear hx hxl g k
  go_enter Try.func54, Try.ntmps54
  go_upto_region 1 with fail
  generalize (((w.alloc (.cells #[.slice A ws.length c] 24)).alloc (.cells #[.slice A0 ri.length c0, .slice A1 bo.length c1] 51)).alloc (.cells #[.int .i64 0, .int .i64 0, .slice none 0 0, .slice none 0 0, .slice none 0 0, .slice none 0 0, .slice none 0 0, .slice none 0 0, .slice none 0 0, .slice none 0 0] 91)) = W1 at *
  go_upto_region 4 with (go_at_call 85; refine HH.out.2.1.mono ?_; rintro e w1 ⟨rfl, hb⟩; unfold plV pl; dsimp only; have HF := Lib.hid hb; clear hb)
  have hb9 := (Below.refl _ w1).alloc (Nat.le_refl _) (.cells #[.int .i64 (x : Int), .int .i64 (caAt ws x : Int), .int .i64 (atAt ws x : Int)] 131)
  have hb5 := HF.out.trans (hb9.mono HF.out.size)
  have hbw := HH.out.1.trans (hb5.mono HH.out.1.size)
  have hs1 := HH.out.2.2.2.2.2.2.2.1
  have q0 := (hb5.block w.heap.size (by omega)).trans HH.out.2.2.2.2.1
  have q1 := (hb5.block (w.heap.size + 1) (by omega)).trans HH.out.2.2.2.2.2.1
  have q2 := (hb5.block (w.heap.size + 1 + 1) (by omega)).trans HH.out.2.2.2.2.2.2.1
  have q9 := blk_new w1 (g := w1.heap.size) #[.int .i64 (x : Int), .int .i64 (caAt ws x : Int), .int .i64 (atAt ws x : Int)] 131 rfl
  generalize w1.alloc (.cells #[.int .i64 (x : Int), .int .i64 (caAt ws x : Int), .int .i64 (atAt ws x : Int)] 131) = w3 at *
  have p0 := cr 0 q0
  have p1 := cr 0 q1
  have p2 := cr 1 q1
  have z0 := cr 0 q9
  have z1 := cr 1 q9
  have z2 := cr 2 q9
  have hl2 : w.heap.size + 1 + 1 < w3.heap.size := (Array.getElem?_eq_some_iff.1 q2).1
  have HB := hd3 hbw q2 hl2
  have hsup := supply_any A c ws ⟨A0, A1, c0, c1, ri, bo⟩ x HX.out.2.1 w3 (HH.out.2.2.1.ext hbw) HX.out.2.2.1 (HH.out.2.2.2.1.ext hbw) HX.out.2.2.2
  have HU := Lib.hid hsup
  clear hb9 hb5 hbw q0 q1 q2 q9 hsup hs1 hl2
  go_wp2_with first
   | (go_at_call 86; refine HU.out.mono ?_; rintro e w5 ⟨s, t, rfl, hs, ht, hcs, hct, hf1, hf2, hb⟩; have HS := hd7 hs ht hcs hct hf1 hf2 hb; unfold supV; have q5 := (hb.block (w.heap.size + 1 + 1) HB.out.2.2).trans HB.out.2.1; have HQ5 := Lib.hid q5; clear hs ht hcs hct hf1 hf2 hb q5)
   | (refine wpList_store_mid rfl 91 (.tmp 6) (.tmp 24) rfl (w.heap.size + 1 + 1) 0 _ rfl rfl (show World.there _ _ 0 10 from blk_there HQ5.out) (by kernel_rfl) (by simp [Value.oneCell']) ?_)
  obtain ⟨hs, ht, hcs, hct, hf1, hf2, hb⟩ := HS.out
  have hl := HB.out.2.2
  have hw := HB.out.1.size
  have hBF := setCells_blk HQ5.out [.int .i64 (endsF ws ⟨A0, A1, c0, c1, ri, bo⟩ x).1, .int .i64 (endsF ws ⟨A0, A1, c0, c1, ri, bo⟩ x).2, .slice s.A0 s.ri.length s.c0, .slice s.A1 s.bo.length s.c1, .slice s.A2 s.lk.length s.c2, .slice s.A3 s.lo.length s.c3, .slice t.A0 t.ri.length t.c0, .slice t.A1 t.bo.length t.c1, .slice t.A2 t.lk.length t.c2, .slice t.A3 t.lo.length t.c3] rfl
  exact bodyPost_ret (results_box10 Try.results54 _ _ ⟨w.heap.size + 1 + 1, 0, none⟩ _ _ (by rfl) (by rfl) (run_loadVar_mid _ _ 0 _ _ _ (blk_range hBF) Try.underlying91 rfl (by kernel_rfl))) rfl
   ⟨setCells_below (by omega) _ _ _ (HB.out.1.trans (hb.mono hw)), .inr ⟨by trivial, x, s, t, HX.out.1, rfl, hs.moved (hf1.nb hl) (fun k hk => setCells_oth hk _ _ _) (by rw [setCells_size]; exact Nat.le_refl _), ht.moved (hf2.nb hl) (fun k hk => setCells_oth hk _ _ _) (by rw [setCells_size]; exact Nat.le_refl _), hcs, hct, hf1.mono hw, hf2.mono hw⟩⟩
end Go.Proofs.Ytdadoelajhemjaa
namespace Go.Proofs.Ytdadoelajhemjaa
open Go.RowKit Go.Shelf

/-- n ints in block g, from its begin on, that may be written. -/
structure IntF (W : World) (g n : Nat) (f : Nat → Int) : Prop where
 at_ : ∀ j, j < n → W.cell? ⟨g, j, none⟩ = some (.int .i64 (f j))
 fz : ∀ o, W.frozen? ⟨g, o, none⟩ = false
theorem IntF.heap {W W' : World} {g n : Nat} {f : Nat → Int} (h : IntF W g n f) (e : W'.heap[g]? = W.heap[g]?) : IntF W' g n f := ⟨fun j hj => (cell_of_heap e).trans (h.at_ j hj), fun o => by have := h.fz o; unfold World.frozen? at this ⊢; rw [e]; exact this⟩
theorem IntF.set {W : World} {g n i : Nat} {f : Nat → Int} (h : IntF W g n f) (hi : i < n) (x : Int) : IntF (W.setCell ⟨g, i, none⟩ (.int .i64 x)) g n (put f i x) := by
 refine ⟨fun j hj => ?_, fun o => by rw [World.frozen?_setCell]; exact h.fz o⟩
 unfold put
 by_cases e : j = i
 ·subst e
  rw [if_pos rfl]
  exact World.cell?_setCell_same' _ _ _ (by rw [h.at_ j hj]; rfl)
 ·rw [if_neg e]
  rw [cell_set_ne e]
  exact h.at_ j hj
/-- n spans in block g, from its begin on, that may be written. -/
structure SpF (W : World) (g n : Nat) (f : Nat → Sp) : Prop where
 at_ : ∀ j, j < n → SpAt W g (j * 2) (f j)
 fz : ∀ o, W.frozen? ⟨g, o, none⟩ = false
theorem SpF.heap {W W' : World} {g n : Nat} {f : Nat → Sp} (h : SpF W g n f) (e : W'.heap[g]? = W.heap[g]?) : SpF W' g n f := ⟨fun j hj => ⟨(cell_of_heap e).trans (h.at_ j hj).c0, (cell_of_heap e).trans (h.at_ j hj).c1⟩, fun o => by have := h.fz o; unfold World.frozen? at this ⊢; rw [e]; exact this⟩
theorem SpF.set {W : World} {g n i : Nat} {f : Nat → Sp} (h : SpF W g n f) (hi : i < n) (lo hiv : Int) : SpF ((W.setCell ⟨g, i * 2, none⟩ (.int .i64 lo)).setCell ⟨g, i * 2 + 1, none⟩ (.int .i64 hiv)) g n (putA f i (lo, hiv)) := by
 refine ⟨fun j hj => ?_, fun o => by rw [World.frozen?_setCell, World.frozen?_setCell]; exact h.fz o⟩
 unfold putA
 have hj2 := h.at_ j hj
 by_cases e : j = i
 ·subst e
  rw [if_pos rfl]
  refine ⟨?_, ?_⟩
  ·rw [cell_set_ne (by omega)]
   exact World.cell?_setCell_same' _ _ _ (by rw [hj2.c0]; rfl)
  ·refine World.cell?_setCell_same' _ _ _ ?_
   rw [cell_set_ne (by omega), hj2.c1]
   rfl
 ·rw [if_neg e]
  refine ⟨?_, ?_⟩
  ·rw [cell_set_ne (by omega), cell_set_ne (by omega)]
   exact hj2.c0
  ·rw [cell_set_ne (by omega), cell_set_ne (by omega)]
   exact hj2.c1
theorem SpF.rd {W : World} {g : Nat} {l : List Sp} {f : Nat → Sp} (h : SpF W g l.length f) (hg : g < W.heap.size) (e : ∀ j, j < l.length → f j = sAt l j) : RdS W W.heap.size (some ⟨g, 0, none⟩) l := fun _ => ⟨g, 0, rfl, hg, fun i hi => by rw [Nat.zero_add, ← e i hi]; exact h.at_ i hi⟩
theorem IntF.rd {W : World} {g : Nat} {xs : List Int} {f : Nat → Int} (h : IntF W g xs.length f) (hg : g < W.heap.size) (e : ∀ j, j < xs.length → f j = nth xs j) : Rd W W.heap.size (some ⟨g, 0, none⟩) xs := fun _ => ⟨g, 0, rfl, hg, fun i hi => by rw [Nat.zero_add, ← e i hi]; exact h.at_ i hi⟩

set_option maxHeartbeats 400000 in
theorem clone_ints (b off c : Nat) (xs : List Int) (w : World) (h : Rd w w.heap.size (some ⟨b, off, none⟩) xs) (h0 : 0 < xs.length) (hm : xs.length ≤ 1000) :
  Calls Try.prog 80 #[.slice (some ⟨b, off, none⟩) xs.length c] w fun e w' => ∃ g c', e = .returned (.slice (some ⟨g, 0, none⟩) xs.length c') ∧ w.heap.size ≤ g ∧ g < w'.heap.size ∧ IntF w' g xs.length (nth xs) ∧ Below w.heap.size w w' := by
 have q25 : ∀ (w : World) (a : Option Addr) (n c n' c' : Nat), (binOp .eql 25 (.slice a n c) (.slice none n' c')).run Try.prog w = .ok (.bool a.isNone) w := fun w a n c n' c' => Lib.run_eql_slice_nil w _ _ a n c n' c' Try.underlying25
 obtain ⟨i0, hi, hz0, hz1, hz2⟩ := info_parts info3
 go_enter Try.func80, Try.ntmps80
 go_wp2_with (at_builtin; refine wpList_append_own_at _ rfl _ _ 25 rfl (w.heap.size) 3 i0 (.int .i64 0) 1 8 Try.underlying25 hi hz0 hz1 hz2 rfl (by decide) _ 0 [] rfl ?c1 ⟨b, off, none⟩ xs.length c (xs.map (Value.int .i64)) rfl (by simp) ?c2 ?c3 ?c4 ?c5 ?c6 ?_)
 case c1 => exact World.ownsRow_made w #[] 0 (Nat.le_refl _) (by simp) rfl
 case c2 =>
  intro j u hj
  obtain ⟨hl, rfl⟩ := map_nth hj
  obtain ⟨b', off', e, hlb, hc⟩ := h h0
  simp only [Option.some.injEq, Addr.mk.injEq, and_true] at e
  obtain ⟨rfl, rfl⟩ := e
  rw [add_eq, World.cell?_alloc_past _ _ _ hlb]
  exact hc j hl
 case c3 => exact ints_oneCell _ _
 case c4 => unfold maxLen; omega
 case c5 => omega
 case c6 => simp
 intro v' w' hown hgrow _ _
 have hO : Own w' w.heap.size v' xs := hown
 have hb : Below w.heap.size w w' := (((Below.refl _ w).alloc (Nat.le_refl _) _).grown hgrow (by simp) (by intro k hk; simp [Value.ownBlock] at hk; omega))
 rcases hO.2 with ⟨e, hn⟩ | ⟨g, cap, cur, e, hbg, hg2, _⟩
 ·omega
 ·subst e
  have hf : IntF w' g xs.length (nth xs) := ⟨fun j hj => by
   have h1 := World.ownsRow.cells hO (g := g) rfl j _ (nth_map hj)
   rw [add_eq, Nat.zero_add] at h1
   exact h1, fun o => by simp [World.frozen?, hg2]⟩
  have hgl := (Array.getElem?_eq_some_iff.1 hg2).1
  have HF := hd4 hbg hgl hf hb
  clear hown hgrow hO hb hg2 hf hbg hgl
  go_wp2
  go_ret
  exact ⟨g, cap, rfl, HF.out⟩
theorem info40 : (Try.prog.info? 40).map (fun i => (i.zero, i.size, i.bytes)) = some (some (.agg #[.int .i64 0, .int .i64 0]), 2, 16) := by kernel_rfl
theorem cellsS_one (l : List Sp) : ∀ u ∈ cellsS l, u.oneCell' = true := fun u hu => by
 unfold cellsS at hu
 obtain ⟨p, _, hp⟩ := List.mem_flatMap.1 hu
 simp only [spCells, List.mem_cons, List.not_mem_nil, or_false] at hp
 rcases hp with rfl | rfl <;> rfl
theorem cellsS_get {l : List Sp} {j : Nat} {u : Value} (h : (cellsS l)[j]? = some u) : j / 2 < l.length ∧ (spCells (sAt l (j / 2)))[j % 2]? = some u := by
 have hl : j < l.length * 2 := by have := (List.getElem?_eq_some_iff.1 h).1; rwa [cellsS_length] at this
 have hd : j / 2 < l.length := by omega
 refine ⟨hd, ?_⟩
 rw [← cellsS_at l (j / 2) (j % 2) hd (by omega), show j / 2 * 2 + j % 2 = j by omega]
 exact h
set_option maxHeartbeats 400000 in
theorem clone_spans (b off c : Nat) (l : List Sp) (w : World) (h : RdS w w.heap.size (some ⟨b, off, none⟩) l) (h0 : 0 < l.length) (hm : l.length ≤ 1000) :
  Calls Try.prog 88 #[.slice (some ⟨b, off, none⟩) l.length c] w fun e w' => ∃ g c', e = .returned (.slice (some ⟨g, 0, none⟩) l.length c') ∧ w.heap.size ≤ g ∧ g < w'.heap.size ∧ SpF w' g l.length (sAt l) ∧ Below w.heap.size w w' := by
 have q25 : ∀ (w : World) (a : Option Addr) (n c n' c' : Nat), (binOp .eql 49 (.slice a n c) (.slice none n' c')).run Try.prog w = .ok (.bool a.isNone) w := fun w a n c n' c' => Lib.run_eql_slice_nil w _ _ a n c n' c' Try.underlying49
 obtain ⟨i0, hi, hz0, hz1, hz2⟩ := info_parts info40
 go_enter Try.func88, Try.ntmps88
 go_wp2_with (at_builtin; refine wpList_append_own_at _ rfl _ _ 49 rfl (w.heap.size) 40 i0 (.agg #[.int .i64 0, .int .i64 0]) 2 16 Try.underlying49 hi hz0 hz1 hz2 rfl (by decide) _ 0 [] rfl ?c1 ⟨b, off, none⟩ l.length c (cellsS l) rfl (cellsS_length l) ?c2 ?c3 ?c4 ?c5 ?c6 ?_)
 case c1 => exact World.ownsRow_made w #[] 0 (Nat.le_refl _) (by simp) rfl
 case c2 =>
  intro j u hj
  obtain ⟨hd, hu⟩ := cellsS_get hj
  obtain ⟨b', off', e, hlb, hc⟩ := h h0
  simp only [Option.some.injEq, Addr.mk.injEq, and_true] at e
  obtain ⟨rfl, rfl⟩ := e
  rw [add_eq, World.cell?_alloc_past _ _ _ hlb]
  have hs := hc (j / 2) hd
  rcases Nat.mod_two_eq_zero_or_one j with hm2 | hm2
  ·rw [hm2] at hu
   have e2 : off + j = off + j / 2 * 2 := by omega
   rw [e2, hs.c0]
   exact hu
  ·rw [hm2] at hu
   have e2 : off + j = off + j / 2 * 2 + 1 := by omega
   rw [e2, hs.c1]
   exact hu
 case c3 => exact cellsS_one l
 case c4 => unfold maxLen; omega
 case c5 => omega
 case c6 => simp
 intro v' w' hown hgrow _ _
 have hO : w'.ownsRow w.heap.size 40 2 v' l.length (cellsS l) := hown
 have hb : Below w.heap.size w w' := (((Below.refl _ w).alloc (Nat.le_refl _) _).grown hgrow (by simp) (by intro k hk; simp [Value.ownBlock] at hk; omega))
 rcases hO.2 with ⟨e, hn⟩ | ⟨g, cap, cur, e, hbg, hg2, _⟩
 ·omega
 ·subst e
  have hf : SpF w' g l.length (sAt l) := ⟨fun j hj => by
   have h1 := World.ownsRow.cells hO (g := g) rfl (j * 2 + 0) _ ((cellsS_at l j 0 hj (by omega)).trans rfl)
   have h2 := World.ownsRow.cells hO (g := g) rfl (j * 2 + 1) _ ((cellsS_at l j 1 hj (by omega)).trans rfl)
   rw [add_eq, Nat.zero_add] at h1 h2
   exact ⟨h1, h2⟩, fun o => by simp [World.frozen?, hg2]⟩
  have hgl := (Array.getElem?_eq_some_iff.1 hg2).1
  have HF := hd4 hbg hgl hf hb
  clear hown hgrow hO hb hg2 hf hbg hgl
  go_wp2
  go_ret
  exact ⟨g, cap, rfl, HF.out⟩
end Go.Proofs.Ytdadoelajhemjaa
namespace Go.Proofs.Ytdadoelajhemjaa
open Go.RowKit Go.Shelf

theorem field_sup (f : Sp) (s t : Wt) (w : World) : (Instr.field 91 (supV f s t) 0).run Try.prog w = .ok (.agg #[.int .i64 f.1, .int .i64 f.2]) w := by kernel_rfl
/-- The cells that a round of Rests reads. -/
def re4 (g0 g1 g2 g3 : Nat) (v0 v1 v2 v3 v4 v5 v6 v7 : Value) (k : Nat) (X : World) : Prop := match k with
 | 0 => X.cell? ⟨g0, 0, none⟩ = some v0
 | 1 => X.cell? ⟨g1, 0, none⟩ = some v1 ∧ X.cell? ⟨g1, 1, none⟩ = some v2
 | 2 => X.cell? ⟨g2, 0, none⟩ = some v3 ∧ X.cell? ⟨g2, 1, none⟩ = some v4 ∧ X.cell? ⟨g2, 2, none⟩ = some v5
 | _ => X.cell? ⟨g3, 0, none⟩ = some v6 ∧ X.cell? ⟨g3, 1, none⟩ = some v7
theorem re4_below {g0 g1 g2 g3 : Nat} {v0 v1 v2 v3 v4 v5 v6 v7 : Value} {X X' : World} (hb : Below X.heap.size X X') (k : Nat) (h : re4 g0 g1 g2 g3 v0 v1 v2 v3 v4 v5 v6 v7 k X) : re4 g0 g1 g2 g3 v0 v1 v2 v3 v4 v5 v6 v7 k X' := by
 match k with
 | 0 => exact cell_below hb h
 | 1 =>
  obtain ⟨e0, e1⟩ : _ ∧ _ := h
  exact ⟨cell_below hb e0, cell_below hb e1⟩
 | 2 =>
  obtain ⟨e0, e1, e2⟩ : _ ∧ _ ∧ _ := h
  exact ⟨cell_below hb e0, cell_below hb e1, cell_below hb e2⟩
 | k + 3 =>
  obtain ⟨e0, e1⟩ : _ ∧ _ := h
  exact ⟨cell_below hb e0, cell_below hb e1⟩
theorem sAt_set {l : List Sp} {i : Nat} (p : Sp) {j : Nat} (hj : j < l.length) : putA (sAt l) i p j = sAt (l.set i p) j := by
 unfold putA sAt
 rw [List.getD_eq_getElem?_getD, List.getD_eq_getElem?_getD, List.getElem?_set]
 by_cases e : j = i
 ·subst e; rw [if_pos rfl, if_pos rfl, if_pos hj]; rfl
 ·rw [if_neg e, if_neg (Ne.symm e)]
/-- A case with all boards of an outlet. -/
def othC (ws : List Car) (cs : Cs) (i : Nat) : Cs := ⟨none, none, 0, 0, cs.ri, cs.bo.set i (0, ((oAt (outs ws) i).ps.length : Int) - 1)⟩
theorem endsF_congr {ws : List Car} {cs cs' : Cs} {x : Nat} (h0 : cs.ri = cs'.ri) (h1 : cs.bo = cs'.bo) : endsF ws cs x = endsF ws cs' x := by
 unfold endsF corW cRi cBo
 rw [h0, h1]
def restB (ws : List Car) (cs : Cs) (x i : Nat) : Bool := decide (endsF ws (othC ws cs i) x ≠ endsF ws cs x)
/-- The first k outlets whose board matters. -/
def restTo (ws : List Car) (cs : Cs) (x k : Nat) : List Int := ((List.range k).filter (restB ws cs x)).map fun i => (oAt (outs ws) i).id
theorem restTo_succ (ws : List Car) (cs : Cs) (x k : Nat) : restTo ws cs x (k + 1) = if restB ws cs x k = true then restTo ws cs x k ++ [(oAt (outs ws) k).id] else restTo ws cs x k := by
 unfold restTo
 rw [List.range_succ, List.filter_append, List.map_append]
 by_cases h : restB ws cs x k = true
 ·rw [if_pos h]; simp [h]
 ·rw [if_neg h]; simp [h]
theorem restTo_le (ws : List Car) (cs : Cs) (x k : Nat) : (restTo ws cs x k).length ≤ k := by
 unfold restTo
 rw [List.length_map]
 exact Nat.le_trans (List.length_filter_le _ _) (by simp)
theorem oth_ok {ws : List Car} {cs cs' : Cs} {i : Nat} (g : Good ws) (k : CsOk ws cs) (hi : i < (outs ws).length) (h0 : cs'.ri = cs.ri) (h1 : cs'.bo = cs.bo.set i (0, ((oAt (outs ws) i).ps.length : Int) - 1)) : CsOk ws cs' := by
 refine ⟨by rw [h0]; exact k.l0, by rw [h1, List.length_set]; exact k.l1, fun j hj => by rw [h0] at hj ⊢; exact k.r0 j hj, fun j hj => ?_⟩
 rw [h1]
 unfold sAt
 rw [List.getD_eq_getElem?_getD, List.getElem?_set]
 by_cases e : i = j
 ·subst e
  have := (g.fine hj).n
  rw [if_pos rfl, if_pos (by have := k.l1; omega)]
  simp only [Option.getD_some]
  omega
 ·rw [if_neg e]
  exact k.r1 j hj
/-- What Rests returns: a list, by the error. -/
def restE (ws : List Car) (cs : Cs) (id : Int) : List Int := if askE ws cs id = 0 then (match idxO ws id with | some x => restTo ws cs x (outs ws).length | none => []) else []

set_option maxRecDepth 100000 in
set_option maxHeartbeats 1600000 in
theorem Rests_any (A : Option Addr) (c : Nat) (ws : List Car) (cs : Cs) (id : Int) (w : World) (h : Wk w A ws) (hc : Csd w cs) :
  Calls Try.prog 31 #[.agg #[.slice A ws.length c], cs.v, .int .i64 id] w fun e w' => ∃ A' c', e = .returned (.tuple #[.slice A' (restE ws cs id).length c', .int .i64 (askE ws cs id)]) ∧ Rd w' w'.heap.size A' (restE ws cs id) ∧ Fresh w.heap.size A' ∧ Below w.heap.size w w' := by
 obtain ⟨i0, hi0', hz0, hz1, hz2⟩ := info_parts info3
 obtain ⟨A0, A1, c0, c1, ri, bo⟩ := cs
 have hb1 : Below w.heap.size w ((w.alloc (.cells #[.slice A ws.length c] 24)).alloc (.cells #[.slice A0 ri.length c0, .slice A1 bo.length c1] 51)) := ((Below.refl _ w).alloc (Nat.le_refl _) _).alloc (by simp) _
 have hch := asked_any A c ws ⟨A0, A1, c0, c1, ri, bo⟩ id _ (h.ext hb1) (hc.ext hb1)
 have q0 : Blk ((w.alloc (.cells #[.slice A ws.length c] 24)).alloc (.cells #[.slice A0 ri.length c0, .slice A1 bo.length c1] 51)) w.heap.size #[.slice A ws.length c] 24 := blk_alloc (blk_new _ _ _ rfl) _
 have q1 : Blk ((w.alloc (.cells #[.slice A ws.length c] 24)).alloc (.cells #[.slice A0 ri.length c0, .slice A1 bo.length c1] 51)) (w.heap.size + 1) #[.slice A0 ri.length c0, .slice A1 bo.length c1] 51 := blk_new _ _ _ (by simp)
 have hs1 : ((w.alloc (.cells #[.slice A ws.length c] 24)).alloc (.cells #[.slice A0 ri.length c0, .slice A1 bo.length c1] 51)).heap.size = w.heap.size + 2 := by simp
 have p0 := cr 0 q0
 have p1 := cr 0 q1
 have p2 := cr 1 q1
 have hz := fun (h : askE ws ⟨A0, A1, c0, c1, ri, bo⟩ id = 0) => ask_zero h
 have hre : ∀ x, idxO ws id = some x → askE ws ⟨A0, A1, c0, c1, ri, bo⟩ id = 0 → restE ws ⟨A0, A1, c0, c1, ri, bo⟩ id = restTo ws ⟨A0, A1, c0, c1, ri, bo⟩ x (outs ws).length := fun x h1 h2 => by unfold restE; rw [if_pos h2, h1]
 have hrn : askE ws ⟨A0, A1, c0, c1, ri, bo⟩ id ≠ 0 → restE ws ⟨A0, A1, c0, c1, ri, bo⟩ id = [] := fun h0 => by unfold restE; rw [if_neg h0]
 have HH := hd10 hb1 hch h hc q0 q1 hs1 hz hre hrn
 clear hb1 hch q0 q1 hs1 h hc hz hre hrn
 dsimp only [Cs.v] at *
 generalize restE ws ⟨A0, A1, c0, c1, ri, bo⟩ id = L at *
 generalize askE ws ⟨A0, A1, c0, c1, ri, bo⟩ id = D at *
 generalize askP ws ⟨A0, A1, c0, c1, ri, bo⟩ id = P at *
 by_cases h0 : D = 0
 rotate_left
 ·have hz : (D != 0) = true := by simpa using h0
  obtain rfl := HH.out.2.2.2.2.2.2.2.2.2 h0
  clear h0
  go_enter Try.func31, Try.ntmps31
  go_upto_region 1 with fail
  generalize ((w.alloc (.cells #[.slice A ws.length c] 24)).alloc (.cells #[.slice A0 ri.length c0, .slice A1 bo.length c1] 51)) = W1 at *
  go_wp2_with (go_at_call 85; refine HH.out.2.1.mono ?_; rintro e w1 ⟨rfl, hb⟩; unfold plV; have HF := Lib.hid hb; clear hb)
  go_ret2
  exact ⟨none, 0, rfl, Rd.nil, (fun _ e => by cases e), HH.out.1.trans ((HF.out.trans (((Below.refl _ w1).alloc (Nat.le_refl _) _).mono HF.out.size)).mono HH.out.1.size)⟩
 ·subst h0
  obtain ⟨g, k, x, hx, hxl, hP⟩ := HH.out.2.2.2.2.2.2.2.1 rfl
  obtain rfl := HH.out.2.2.2.2.2.2.2.2.1 x hx rfl
  subst hP
  have HX := hd4 hx hxl g k
  clear hx hxl g k
  go_enter Try.func31, Try.ntmps31
  go_upto_region 1 with fail
  generalize ((w.alloc (.cells #[.slice A ws.length c] 24)).alloc (.cells #[.slice A0 ri.length c0, .slice A1 bo.length c1] 51)) = W1 at *
  go_upto_region 4 with (go_at_call 85; refine HH.out.2.1.mono ?_; rintro e w1 ⟨rfl, hb⟩; unfold plV pl; dsimp only; have HF := Lib.hid hb; clear hb)
  have hb9 := (Below.refl _ w1).alloc (Nat.le_refl _) (.cells #[.int .i64 (x : Int), .int .i64 (caAt ws x : Int), .int .i64 (atAt ws x : Int)] 131)
  have hb5 := HF.out.trans (hb9.mono HF.out.size)
  have hbw := HH.out.1.trans (hb5.mono HH.out.1.size)
  have hs1 := HH.out.2.2.2.2.2.2.1
  have hw1 := HF.out.size
  have q0 := (hb5.block w.heap.size (by omega)).trans HH.out.2.2.2.2.1
  have q1 := (hb5.block (w.heap.size + 1) (by omega)).trans HH.out.2.2.2.2.2.1
  have q9 := blk_new w1 (g := w1.heap.size) #[.int .i64 (x : Int), .int .i64 (caAt ws x : Int), .int .i64 (atAt ws x : Int)] 131 rfl
  have hs9 : (w1.alloc (.cells #[.int .i64 (x : Int), .int .i64 (caAt ws x : Int), .int .i64 (atAt ws x : Int)] 131)).heap.size = w1.heap.size + 1 := by simp
  generalize w1.alloc (.cells #[.int .i64 (x : Int), .int .i64 (caAt ws x : Int), .int .i64 (atAt ws x : Int)] 131) = w3 at *
  have p0 := cr 0 q0
  have p1 := cr 0 q1
  have p2 := cr 1 q1
  have z0 := cr 0 q9
  have z1 := cr 1 q9
  have z2 := cr 2 q9
  have HB := hd7 hbw q0 q1 q9 hs1 hw1 hs9
  have HU := Lib.hid (supply_any A c ws ⟨A0, A1, c0, c1, ri, bo⟩ x HX.out.2.1 w3 (HH.out.2.2.1.ext hbw) HX.out.2.2.1 (HH.out.2.2.2.1.ext hbw) HX.out.2.2.2)
  clear hb9 hb5 hbw q0 q1 q9 hs1 hw1 hs9
  have hfs := field_sup
  go_upto_region 6 with (go_at_call 86; refine HU.out.mono ?_; rintro e w5 ⟨s, t, rfl, hs, ht, hcs, hct, hf1, hf2, hb⟩; clear hs ht hcs hct hf1 hf2; have HS := Lib.hid hb; clear hb)
  obtain ⟨lo0, hi0, hlh0⟩ : ∃ lo0 hi0 : Int, endsF ws ⟨A0, A1, c0, c1, ri, bo⟩ x = (lo0, hi0) := ⟨_, _, rfl⟩
  rw [hlh0]
  dsimp only
  clear hfs
  have HLH := Lib.hid hlh0
  clear hlh0
  have hb9 := (Below.refl _ w5).alloc (Nat.le_refl _) (.cells #[.int .i64 lo0, .int .i64 hi0] 40)
  have hb5 := HS.out.trans (hb9.mono HS.out.size)
  obtain ⟨hbw, q0, q1, q9, hs1, hw1, hs9⟩ := HB.out
  have hbw5 := hbw.trans (hb5.mono hbw.size)
  have q0 := (hb5.block w.heap.size (by have := (Array.getElem?_eq_some_iff.1 q0).1; exact this)).trans q0
  have q1 := (hb5.block (w.heap.size + 1) (by have := (Array.getElem?_eq_some_iff.1 q1).1; exact this)).trans q1
  have q9 := (hb5.block w1.heap.size (by have := (Array.getElem?_eq_some_iff.1 q9).1; exact this)).trans q9
  have q10 := blk_new w5 (g := w5.heap.size) #[.int .i64 lo0, .int .i64 hi0] 40 rfl
  have p0 := cr 0 q0
  generalize w5.alloc (.cells #[.int .i64 lo0, .int .i64 hi0] 40) = w6 at *
  have HL := Lib.hid (listed_any A c ws w6 (HH.out.2.2.1.ext hbw5))
  have HB6 := hd5 hbw5 q0 q1 q9 q10
  clear hb9 hb5 hbw q0 q1 q9 q10 hs1 hw1 hs9 hbw5
  go_upto_region 7 with (go_at_call 87; refine HL.out.mono ?_; rintro e w7 ⟨A4, c4, rfl, hr4, hf4, hb4⟩; have HM := hd2 hr4 hb4; clear hr4 hf4 hb4)
  have HW : Hid (Below w.heap.size w w7 ∧ Blk w7 w.heap.size #[.slice A ws.length c] 24 ∧ Blk w7 (w.heap.size + 1) #[.slice A0 ri.length c0, .slice A1 bo.length c1] 51 ∧
    Blk w7 w1.heap.size #[.int .i64 (x : Int), .int .i64 (caAt ws x : Int), .int .i64 (atAt ws x : Int)] 131 ∧ Blk w7 w5.heap.size #[.int .i64 lo0, .int .i64 hi0] 40 ∧ RdO w7 w7.heap.size A4 (outs ws)) := by
   obtain ⟨hbw5, q0, q1, q9, q10⟩ := HB6.out
   have hb := HM.out.2
   exact Lib.hid ⟨hbw5.trans (hb.mono hbw5.size), (hb.block _ (Array.getElem?_eq_some_iff.1 q0).1).trans q0, (hb.block _ (Array.getElem?_eq_some_iff.1 q1).1).trans q1, (hb.block _ (Array.getElem?_eq_some_iff.1 q9).1).trans q9, (hb.block _ (Array.getElem?_eq_some_iff.1 q10).1).trans q10, HM.out.1⟩
  clear p0 p1 p2 z0 z1 z2 HU HL HS HB HM HB6
  go_loopg [11, 12, 13, 14, 33] (outs ws).length (fun gg s _ _ _ i wr => ∃ t : Nat, t ≤ (outs ws).length ∧ (outs ws).length - t ≤ gg ∧ i = .int .i64 t ∧ ∃ A2 c2, s = .slice A2 (restTo ws ⟨A0, A1, c0, c1, ri, bo⟩ x t).length c2 ∧ Aside (Below w7.heap.size w7 wr ∧ Own wr w7.heap.size (.slice A2 (restTo ws ⟨A0, A1, c0, c1, ri, bo⟩ x t).length c2) (restTo ws ⟨A0, A1, c0, c1, ri, bo⟩ x t)))
  case atStart => exact ⟨0, Nat.zero_le _, by omega, rfl, none, 0, rfl, Below.refl _ _, Own.nil _ _⟩
  case round =>
   obtain ⟨t, ht, hgg, rfl, A2, c2, rfl, hA⟩ := hrel
   have HA := Lib.hid hA.out
   clear hA
   by_cases hlt : t < (outs ws).length
   ·have hltz : (t : Int) < ((outs ws).length : Int) := by omega
    have hps := (HX.out.2.2.1.fine hlt).n
    have hN6 := HX.out.2.2.1.n2
    have hlb : bo.length = (outs ws).length := HX.out.2.2.2.l1
    obtain ⟨hw1, hw2, hw3, hw4, hw5, hw6⟩ := HW.out
    have hsu := restTo_succ ws ⟨A0, A1, c0, c1, ri, bo⟩ x t
    have hrl := restTo_le ws ⟨A0, A1, c0, c1, ri, bo⟩ x t
    have hoth := endsF_congr (ws := ws) (x := x) (cs := ⟨A0, none, 0, 0, ri, bo.set t (0, ((oAt (outs ws) t).ps.length : Int) - 1)⟩) (cs' := othC ws ⟨A0, A1, c0, c1, ri, bo⟩ t) rfl rfl
    have hrb : restB ws ⟨A0, A1, c0, c1, ri, bo⟩ x t = decide (endsF ws (othC ws ⟨A0, A1, c0, c1, ri, bo⟩ t) x ≠ endsF ws ⟨A0, A1, c0, c1, ri, bo⟩ x) := rfl
    rw [HLH.out] at hrb
    obtain ⟨b4, o4, e4, lb4, ho4⟩ := (hw6.ext HA.out.1) (by omega)
    subst e4
    have h4 := ho4 t hlt
    have hr4 := h4.rd
    obtain ⟨bs, os, e0, lbs, hcs⟩ := HH.out.2.2.2.1.r1 (by show 0 < bo.length; omega)
    dsimp only at e0
    subst e0
    have z0 := h4.c0
    have z1 := h4.c1
    have z2 := h4.c2
    have z3 := h4.c3
    have z4 := h4.c4
    have z5 := h4.c5
    have z6 := h4.c6
    have hltb : (t : Int) < (bo.length : Int) := by omega
    have HLB := Lib.hid hlb
    have q0 := (HA.out.1.block _ (Array.getElem?_eq_some_iff.1 hw2).1).trans hw2
    have q1 := (HA.out.1.block _ (Array.getElem?_eq_some_iff.1 hw3).1).trans hw3
    have q9 := (HA.out.1.block _ (Array.getElem?_eq_some_iff.1 hw4).1).trans hw4
    have q10 := (HA.out.1.block _ (Array.getElem?_eq_some_iff.1 hw5).1).trans hw5
    have HO : Hid (restB ws ⟨A0, some ⟨bs, os, none⟩, c0, c1, ri, bo⟩ x t = true → restTo ws ⟨A0, some ⟨bs, os, none⟩, c0, c1, ri, bo⟩ x (t + 1) = restTo ws ⟨A0, some ⟨bs, os, none⟩, c0, c1, ri, bo⟩ x t ++ [(oAt (outs ws) t).id]) := Lib.hid fun h => by rw [hsu, if_pos h]
    have HO2 : Hid (restB ws ⟨A0, some ⟨bs, os, none⟩, c0, c1, ri, bo⟩ x t = false → restTo ws ⟨A0, some ⟨bs, os, none⟩, c0, c1, ri, bo⟩ x (t + 1) = restTo ws ⟨A0, some ⟨bs, os, none⟩, c0, c1, ri, bo⟩ x t) := Lib.hid fun h => by rw [hsu, if_neg (by rw [h]; decide)]
    have hook : ∀ (B1 : Option Addr) (d1 : Nat), CsOk ws ⟨A0, B1, c0, d1, ri, bo.set t (0, ((oAt (outs ws) t).ps.length : Int) - 1)⟩ := fun B1 d1 => oth_ok (cs := ⟨A0, some ⟨bs, os, none⟩, c0, c1, ri, bo⟩) HX.out.2.2.1 HX.out.2.2.2 hlt rfl rfl
    have hoe : ∀ (B1 : Option Addr) (d1 : Nat), endsF ws ⟨A0, B1, c0, d1, ri, bo.set t (0, ((oAt (outs ws) t).ps.length : Int) - 1)⟩ x = endsF ws (othC ws ⟨A0, some ⟨bs, os, none⟩, c0, c1, ri, bo⟩ t) x := fun _ _ => endsF_congr rfl rfl
    clear hsu hoth h4 ho4 hcs hr4
    have HRB := Lib.hid hrb
    clear hrb
    generalize endsF ws (othC ws ⟨A0, some ⟨bs, os, none⟩, c0, c1, ri, bo⟩ t) x = eo at *
    generalize (oAt (outs ws) t).id = oid at *
    generalize (oAt (outs ws) t).into = oin at *
    generalize (oAt (outs ws) t).P = oP at *
    generalize (oAt (outs ws) t).ps.length = pn at *
    generalize (oAt (outs ws) t).c = oc at *
    generalize (oAt (outs ws) t).kl = okl at *
    generalize (oAt (outs ws) t).kh = okh at *
    generalize (oAt (outs ws) t).sl = osl at *
    generalize (oAt (outs ws) t).sh = osh at *
    have hbC : Below wr.heap.size wr ((wr.alloc (.cells #[.int .i64 oid, .int .i64 oin, .slice oP pn oc, .int .i64 okl, .int .i64 okh, .int .i64 osl, .int .i64 osh] 42)).alloc (.cells #[.slice A0 ri.length c0, .slice (some ⟨bs, os, none⟩) bo.length c1] 51)) := ((Below.refl _ wr).alloc (Nat.le_refl _) _).alloc (by simp) _
    have hszC : ((wr.alloc (.cells #[.int .i64 oid, .int .i64 oin, .slice oP pn oc, .int .i64 okl, .int .i64 okh, .int .i64 osl, .int .i64 osh] 42)).alloc (.cells #[.slice A0 ri.length c0, .slice (some ⟨bs, os, none⟩) bo.length c1] 51)).heap.size = wr.heap.size + 2 := by simp
    have hbwr := hw1.trans (HA.out.1.mono hw1.size)
    have hcl := clone_spans bs os c1 bo ((wr.alloc (.cells #[.int .i64 oid, .int .i64 oin, .slice oP pn oc, .int .i64 okl, .int .i64 okh, .int .i64 osl, .int .i64 osh] 42)).alloc (.cells #[.slice A0 ri.length c0, .slice (some ⟨bs, os, none⟩) bo.length c1] 51)) ((HH.out.2.2.2.1.r1.ext hbwr).ext hbC) (by omega) (by omega)
    have r13 : Blk ((wr.alloc (.cells #[.int .i64 oid, .int .i64 oin, .slice oP pn oc, .int .i64 okl, .int .i64 okh, .int .i64 osl, .int .i64 osh] 42)).alloc (.cells #[.slice A0 ri.length c0, .slice (some ⟨bs, os, none⟩) bo.length c1] 51)) wr.heap.size _ _ := blk_alloc (blk_new wr #[.int .i64 oid, .int .i64 oin, .slice oP pn oc, .int .i64 okl, .int .i64 okh, .int .i64 osl, .int .i64 osh] 42 rfl) _
    have r14 : Blk ((wr.alloc (.cells #[.int .i64 oid, .int .i64 oin, .slice oP pn oc, .int .i64 okl, .int .i64 okh, .int .i64 osl, .int .i64 osh] 42)).alloc (.cells #[.slice A0 ri.length c0, .slice (some ⟨bs, os, none⟩) bo.length c1] 51)) (wr.heap.size + 1) _ _ := blk_new _ #[.slice A0 ri.length c0, .slice (some ⟨bs, os, none⟩) bo.length c1] 51 (by simp)
    have HC := hd6 hbC hszC hbwr hcl r13 r14
    have p1 : wr.cell? ⟨w.heap.size + 1, 0, none⟩ = some (.slice A0 ri.length c0) := cr 0 q1
    have p2 : wr.cell? ⟨w.heap.size + 1, 1, none⟩ = some (.slice (some ⟨bs, os, none⟩) bo.length c1) := cr 1 q1
    have p1a := cell_alloc p1 (.cells #[.int .i64 oid, .int .i64 oin, .slice oP pn oc, .int .i64 okl, .int .i64 okh, .int .i64 osl, .int .i64 osh] 42)
    have p2a := cell_alloc p2 (.cells #[.int .i64 oid, .int .i64 oin, .slice oP pn oc, .int .i64 okl, .int .i64 okh, .int .i64 osl, .int .i64 osh] 42)
    have p2b := cell_alloc p2a (.cells #[.slice A0 ri.length c0, .slice (some ⟨bs, os, none⟩) bo.length c1] 51)
    have HQ := hd6 q0 q1 q9 q10 hook hoe
    clear hw1 hw2 hw3 hw4 hw5 hw6 q0 q1 q9 q10 hbC hszC hbwr hcl r13 r14 hook hoe lb4 lbs hlb
    go_upto_region 11 with (go_at_call 88; refine HC.out.2.2.2.1.mono ?_; rintro e w8 ⟨gg, cc, rfl, hg1, hg2, hsf, hb⟩; have r13 := (hb.block wr.heap.size (by have := HC.out.2.1; omega)).trans HC.out.2.2.2.2.1; have r14 := (hb.block (wr.heap.size + 1) (by have := HC.out.2.1; omega)).trans HC.out.2.2.2.2.2; have k1 := cr 1 r14; have f1 := bf 1 r14; have HG := hd6 hg1 hg2 hsf hb r13 r14; clear hg1 hg2 hsf hb r13 r14)
    have hne : gg ≠ wr.heap.size + 1 ∧ gg ≠ wr.heap.size ∧ wr.heap.size + 2 ≤ gg := by have := HG.out.1; have := HC.out.2.1; omega
    have HY : Hid (Blk (w8.setCell ⟨wr.heap.size + 1, 1, none⟩ (.slice (some ⟨gg, 0, none⟩) bo.length cc)) wr.heap.size #[.int .i64 oid, .int .i64 oin, .slice oP pn oc, .int .i64 okl, .int .i64 okh, .int .i64 osl, .int .i64 osh] 42 ∧ Blk (w8.setCell ⟨wr.heap.size + 1, 1, none⟩ (.slice (some ⟨gg, 0, none⟩) bo.length cc)) (wr.heap.size + 1) #[.slice A0 ri.length c0, .slice (some ⟨gg, 0, none⟩) bo.length cc] 51 ∧ SpF (w8.setCell ⟨wr.heap.size + 1, 1, none⟩ (.slice (some ⟨gg, 0, none⟩) bo.length cc)) gg bo.length (sAt bo) ∧ Below wr.heap.size wr (w8.setCell ⟨wr.heap.size + 1, 1, none⟩ (.slice (some ⟨gg, 0, none⟩) bo.length cc)) ∧ gg < (w8.setCell ⟨wr.heap.size + 1, 1, none⟩ (.slice (some ⟨gg, 0, none⟩) bo.length cc)).heap.size) := by
     obtain ⟨hg1, hg2, hsf, hb, r13, r14⟩ := HG.out
     have hb8 := HC.out.1.trans (hb.mono HC.out.1.size)
     exact Lib.hid ⟨(Below.heap_setCell _ _ _ _ (by show wr.heap.size ≠ wr.heap.size + 1; omega)).trans r13, heap_setCell_same _ _ 1 _ _ _ r14, hsf.heap (Below.heap_setCell _ _ _ _ hne.1), hb8.setCell (p := ⟨wr.heap.size + 1, 1, none⟩) (by show wr.heap.size ≤ wr.heap.size + 1; omega) _, by rw [World.size_setCell]; exact hg2⟩
    clear HG k1 f1 p1 p2 p1a p2a p2b z0 z1 z2 z3 z4 z5 z6
    generalize (w8.setCell ⟨wr.heap.size + 1, 1, none⟩ (.slice (some ⟨gg, 0, none⟩) bo.length cc)) = w10 at *
    have k1 : w10.cell? ⟨wr.heap.size + 1, 1, none⟩ = some (.slice (some ⟨gg, 0, none⟩) bo.length cc) := cell_row HY.out.2.1
    have k2 : w10.cell? ⟨wr.heap.size, 2, none⟩ = some (.slice oP pn oc) := cell_row HY.out.1
    have k3 := (HY.out.2.2.1.at_ t (by have := HLB.out; omega)).c0
    have k4 := (HY.out.2.2.1.at_ t (by have := HLB.out; omega)).c1
    have f3 := HY.out.2.2.1.fz (t * 2)
    have f4 := HY.out.2.2.1.fz (t * 2 + 1)
    have hwr : IntKind.i64.wrap ((pn : Int) - 1) = (pn : Int) - 1 := IntWalk.i64_in _ (by omega)
    go_upto_region 12 with fail
    have HZ : Hid (Blk ((w10.setCell ⟨gg, t * 2, none⟩ (.int .i64 0)).setCell ⟨gg, t * 2 + 1, none⟩ (.int .i64 ((pn : Int) - 1))) wr.heap.size #[.int .i64 oid, .int .i64 oin, .slice oP pn oc, .int .i64 okl, .int .i64 okh, .int .i64 osl, .int .i64 osh] 42 ∧ Blk ((w10.setCell ⟨gg, t * 2, none⟩ (.int .i64 0)).setCell ⟨gg, t * 2 + 1, none⟩ (.int .i64 ((pn : Int) - 1))) (wr.heap.size + 1) #[.slice A0 ri.length c0, .slice (some ⟨gg, 0, none⟩) bo.length cc] 51 ∧ SpF ((w10.setCell ⟨gg, t * 2, none⟩ (.int .i64 0)).setCell ⟨gg, t * 2 + 1, none⟩ (.int .i64 ((pn : Int) - 1))) gg bo.length (putA (sAt bo) t (0, (pn : Int) - 1)) ∧ Below wr.heap.size wr ((w10.setCell ⟨gg, t * 2, none⟩ (.int .i64 0)).setCell ⟨gg, t * 2 + 1, none⟩ (.int .i64 ((pn : Int) - 1))) ∧ gg < ((w10.setCell ⟨gg, t * 2, none⟩ (.int .i64 0)).setCell ⟨gg, t * 2 + 1, none⟩ (.int .i64 ((pn : Int) - 1))).heap.size) := by
     obtain ⟨r13, r14, hsf, hb, hg⟩ := HY.out
     have le : wr.heap.size ≤ gg := by omega
     exact Lib.hid ⟨(Below.heap_setCell _ _ _ _ (by show wr.heap.size ≠ gg; omega)).trans ((Below.heap_setCell _ _ _ _ (by show wr.heap.size ≠ gg; omega)).trans r13), (Below.heap_setCell _ _ _ _ (by show wr.heap.size + 1 ≠ gg; omega)).trans ((Below.heap_setCell _ _ _ _ (by show wr.heap.size + 1 ≠ gg; omega)).trans r14), hsf.set (by have := HLB.out; omega) 0 ((pn : Int) - 1), (hb.setCell (p := ⟨gg, t * 2, none⟩) le _).setCell (p := ⟨gg, t * 2 + 1, none⟩) le _, by rw [World.size_setCell, World.size_setCell]; exact hg⟩
    clear HY k1 k2 k3 k4 f3 f4 hwr
    generalize ((w10.setCell ⟨gg, t * 2, none⟩ (.int .i64 0)).setCell ⟨gg, t * 2 + 1, none⟩ (.int .i64 ((pn : Int) - 1))) = w11 at *
    obtain ⟨el, eh⟩ := eo
    have hsup : Calls Try.prog 86 #[.agg #[.slice A ws.length c], .agg #[.slice A0 ri.length c0, .slice (some ⟨gg, 0, none⟩) bo.length cc], plV (pl ws x)] w11.drew fun e w' => ∃ s t : Wt, e = .returned (supV (el, eh) s t) ∧ Below w11.drew.heap.size w11.drew w' := by
     obtain ⟨r13, r14, hsf, hb, hg⟩ := HZ.out
     have hbd := HC.out.2.2.1.trans (hb.mono HC.out.2.2.1.size)
     have hd := (Below.refl w11.heap.size w11).drew
     have hrd : RdS w11.drew w11.drew.heap.size (some ⟨gg, 0, none⟩) (bo.set t (0, (pn : Int) - 1)) := (SpF.rd (l := bo.set t (0, (pn : Int) - 1)) (by rw [List.length_set]; exact hsf) hg (fun j hj => sAt_set _ (by rw [List.length_set] at hj; exact hj))).ext hd
     have h1 := supply_any A c ws ⟨A0, some ⟨gg, 0, none⟩, c0, cc, ri, bo.set t (0, (pn : Int) - 1)⟩ x HX.out.2.1 w11.drew (HH.out.2.2.1.ext hbd.drew) HX.out.2.2.1 ⟨HH.out.2.2.2.1.r0.ext hbd.drew, hrd, HH.out.2.2.2.1.m0, by rw [List.length_set]; exact HH.out.2.2.2.1.m1⟩ (HQ.out.2.2.2.2.1 _ _)
     rw [HQ.out.2.2.2.2.2] at h1
     unfold Cs.v at h1
     dsimp only at h1
     rw [List.length_set] at h1
     exact h1.mono fun e w' ⟨s, t, he, _, _, _, _, _, _, hb2⟩ => ⟨s, t, he, hb2⟩
    have s0 : re4 w.heap.size (wr.heap.size + 1) w1.heap.size w5.heap.size (.slice A ws.length c) (.slice A0 ri.length c0) (.slice (some ⟨gg, 0, none⟩) bo.length cc) (.int .i64 (x : Int)) (.int .i64 (caAt ws x : Int)) (.int .i64 (atAt ws x : Int)) (.int .i64 lo0) (.int .i64 hi0) 0 w11.drew := cell_row ((HZ.out.2.2.2.1.block _ (Array.getElem?_eq_some_iff.1 HQ.out.1).1).trans HQ.out.1)
    have s1 : re4 w.heap.size (wr.heap.size + 1) w1.heap.size w5.heap.size (.slice A ws.length c) (.slice A0 ri.length c0) (.slice (some ⟨gg, 0, none⟩) bo.length cc) (.int .i64 (x : Int)) (.int .i64 (caAt ws x : Int)) (.int .i64 (atAt ws x : Int)) (.int .i64 lo0) (.int .i64 hi0) 1 w11.drew := ⟨cr 0 HZ.out.2.1, cr 1 HZ.out.2.1⟩
    have q9 := (HZ.out.2.2.2.1.block _ (Array.getElem?_eq_some_iff.1 HQ.out.2.2.1).1).trans HQ.out.2.2.1
    have q10 := (HZ.out.2.2.2.1.block _ (Array.getElem?_eq_some_iff.1 HQ.out.2.2.2.1).1).trans HQ.out.2.2.2.1
    have s2 : re4 w.heap.size (wr.heap.size + 1) w1.heap.size w5.heap.size (.slice A ws.length c) (.slice A0 ri.length c0) (.slice (some ⟨gg, 0, none⟩) bo.length cc) (.int .i64 (x : Int)) (.int .i64 (caAt ws x : Int)) (.int .i64 (atAt ws x : Int)) (.int .i64 lo0) (.int .i64 hi0) 2 w11.drew := ⟨cr 0 q9, cr 1 q9, cr 2 q9⟩
    have s3 : re4 w.heap.size (wr.heap.size + 1) w1.heap.size w5.heap.size (.slice A ws.length c) (.slice A0 ri.length c0) (.slice (some ⟨gg, 0, none⟩) bo.length cc) (.int .i64 (x : Int)) (.int .i64 (caAt ws x : Int)) (.int .i64 (atAt ws x : Int)) (.int .i64 lo0) (.int .i64 hi0) 3 w11.drew := ⟨cr 0 q10, cr 1 q10⟩
    have HS := hd4 s0 s1 s2 s3
    have HP := Lib.hid hsup
    have HR : Hid (Blk w11.drew wr.heap.size #[.int .i64 oid, .int .i64 oin, .slice oP pn oc, .int .i64 okl, .int .i64 okh, .int .i64 osl, .int .i64 osh] 42) := Lib.hid HZ.out.1
    have HD : Hid (Below wr.heap.size wr w11.drew) := Lib.hid HZ.out.2.2.2.1.drew
    clear s0 s1 s2 s3 q9 q10 hsup hne
    unfold pl plV at HP
    dsimp only at HP
    by_cases hE : (el, eh) = (lo0, hi0)
    ·have hbf : restB ws ⟨A0, some ⟨bs, os, none⟩, c0, c1, ri, bo⟩ x t = false := by rw [HRB.out]; exact decide_eq_false (fun h => h hE)
     have e1 : lo0 = el := (congrArg Prod.fst hE).symm
     have e2 : hi0 = eh := (congrArg Prod.snd hE).symm
     subst e1 e2
     have HBF := Lib.hid hbf
     clear hbf hE
     refine wp_region_K (by kernel_rfl) (re4 w.heap.size (wr.heap.size + 1) w1.heap.size w5.heap.size (.slice A ws.length c) (.slice A0 ri.length c0) (.slice (some ⟨gg, 0, none⟩) bo.length cc) (.int .i64 (x : Int)) (.int .i64 (caAt ws x : Int)) (.int .i64 (atAt ws x : Int)) (.int .i64 lo0) (.int .i64 hi0)) (fun _ _ => true) ?_
     generalize w11.drew = X0 at *
     obtain ⟨s0, s1, s2, s3⟩ := HS.out
     refine kT 0 0 rfl ?_
     refine kT 1 1 rfl ?_
     refine kT 2 2 rfl ?_
     refine kT 3 5 rfl ?_
     clear s1 s2 s3
     refine kR 3 rfl fun K hK => ?_
     go_simp
     refine HP.out.mono ?_
     rintro e X1 ⟨s, t', rfl, hb⟩
     dsimp only
     refine hK.out _ _ (fun k _ h => re4_below hb k h) ?_
     have s0a := re4_below hb 0 s0
     have hfs := field_sup
     have HB12 := Lib.hid (HD.out.trans (hb.mono HD.out.size))
     have HR1 := Lib.hid ((hb.block _ (Array.getElem?_eq_some_iff.1 HR.out).1).trans HR.out)
     clear hK hb s0
     refine kT 0 4 rfl ?_
     refine kT 0 6 rfl ?_
     clear s0a hfs
     refine kD ?_
     go_wp2
     go_roundg ((outs ws).length - (t + 1))
     case measure => omega
     case rel => exact ⟨t + 1, by omega, by omega, by go_num, A2, c2, by rw [HO2.out HBF.out], by rw [HO2.out HBF.out]; exact (show _ ∧ _ from ⟨HA.out.1.trans (HB12.out.mono HA.out.1.size), HA.out.2.later HB12.out⟩)⟩
    ·have hbf : restB ws ⟨A0, some ⟨bs, os, none⟩, c0, c1, ri, bo⟩ x t = true := by rw [HRB.out]; exact decide_eq_true hE
     have HBF := Lib.hid hbf
     clear hbf
     have hsplit : el ≠ lo0 ∨ (lo0 = el ∧ eh ≠ hi0) := by
      by_cases h1 : el = lo0
      ·exact .inr ⟨h1.symm, fun h2 => hE (by rw [h1, h2])⟩
      ·exact .inl h1
     clear hE
     have hrl2 : (restTo ws ⟨A0, some ⟨bs, os, none⟩, c0, c1, ri, bo⟩ x t).length ≤ 60 := by omega
     rcases hsplit with h1 | ⟨rfl, h2⟩ <;>
     ·refine wp_region_K (by kernel_rfl) (re4 w.heap.size (wr.heap.size + 1) w1.heap.size w5.heap.size (.slice A ws.length c) (.slice A0 ri.length c0) (.slice (some ⟨gg, 0, none⟩) bo.length cc) (.int .i64 (x : Int)) (.int .i64 (caAt ws x : Int)) (.int .i64 (atAt ws x : Int)) (.int .i64 lo0) (.int .i64 hi0)) (fun _ _ => true) ?_
      generalize w11.drew = X0 at *
      obtain ⟨s0, s1, s2, s3⟩ := HS.out
      refine kT 0 0 rfl ?_
      refine kT 1 1 rfl ?_
      refine kT 2 2 rfl ?_
      refine kT 3 5 rfl ?_
      clear s1 s2 s3
      refine kR 3 rfl fun K hK => ?_
      go_simp
      refine HP.out.mono ?_
      rintro e X1 ⟨s, t', rfl, hb⟩
      dsimp only
      refine hK.out _ _ (fun k _ h => re4_below hb k h) ?_
      have s0a := re4_below hb 0 s0
      have hfs := field_sup
      have HB12 := Lib.hid (HD.out.trans (hb.mono HD.out.size))
      have HR1 := Lib.hid ((hb.block _ (Array.getElem?_eq_some_iff.1 HR.out).1).trans HR.out)
      clear hK hb s0
      refine kT 0 4 rfl ?_
      refine kT 0 6 rfl ?_
      clear s0a hfs
      refine kD ?_
      have iid : X1.cell? ⟨wr.heap.size, 0, none⟩ = some (.int .i64 oid) := cell_row HR1.out
      have hnew := World.news_of_block (cs := #[.int .i64 oid]) (t := 3) (fr := (0, 0)) (World.alloc_heap_new X1 (.cells #[.int .i64 oid] 3))
      have hbA := (Below.refl _ X1).alloc (Nat.le_refl _) (.cells #[.int .i64 oid] 3)
      have hown := (((HA.out.2.later HB12.out).later hbA)).row rfl
      have hbs : w7.heap.size ≤ (X1.alloc (.cells #[.int .i64 oid] 3)).heap.size := Nat.le_trans HA.out.1.size (Nat.le_trans HB12.out.size hbA.size)
      have HN := hd4 hown hnew hbs hbA
      clear hown hnew hbs hbA
      go_wp2_with (at_builtin; refine wpList_append_own_at _ rfl _ _ 25 rfl w7.heap.size 3 i0 (.int .i64 0) 1 8 Try.underlying25 hi0' hz0 hz1 hz2 rfl (by decide) (.slice A2 (restTo ws ⟨A0, some ⟨bs, os, none⟩, c0, c1, ri, bo⟩ x t).length c2) (restTo ws ⟨A0, some ⟨bs, os, none⟩, c0, c1, ri, bo⟩ x t).length _ rfl HN.out.1 ⟨X1.heap.size, 0, none⟩ 1 1 [.int .i64 oid] rfl (by simp) HN.out.2.1 (by simp [Value.oneCell']) (by unfold maxLen; omega) (by omega) HN.out.2.2.1 ?_; intro v' w9 hown1 hgrow _ _; have hO9 := Own.of_row hown1 rfl; have HP9 := hd2 hO9 hgrow; clear hO9 hown1 hgrow)
      obtain ⟨A', c', rfl⟩ := HP9.out.1.slice (n := (restTo ws ⟨A0, some ⟨bs, os, none⟩, c0, c1, ri, bo⟩ x t).length + 1) (by rw [List.length_append]; rfl)
      go_wp2
      go_roundg ((outs ws).length - (t + 1))
      case measure => omega
      case rel => exact ⟨t + 1, by omega, by omega, by go_num, A', c', by rw [HO.out HBF.out, List.length_append]; rfl, by rw [HO.out HBF.out, List.length_append]; exact (show _ ∧ _ from ⟨((HA.out.1.trans (HB12.out.mono HA.out.1.size)).trans (HN.out.2.2.2.mono (Nat.le_trans HA.out.1.size HB12.out.size))).grown HP9.out.2 (Nat.le_trans HA.out.1.size (Nat.le_trans HB12.out.size HN.out.2.2.2.size)) (fun k e => own_block HA.out.2 e), HP9.out.1⟩)⟩
   ·have hltz : ¬ (t : Int) < ((outs ws).length : Int) := by omega
    obtain rfl : t = (outs ws).length := by omega
    obtain ⟨B2, d2, e2, rd2, fr2⟩ := HA.out.2.rd
    have HE := hd2 rd2 fr2
    simp only [Value.slice.injEq, true_and] at e2
    obtain ⟨rfl, rfl⟩ := e2
    clear rd2 fr2
    go_wp2
    go_ret2
    exact ⟨A2, ⟨c2, rfl⟩, HE.out.1, HE.out.2.mono HW.out.1.size, HW.out.1.trans (HA.out.1.mono HW.out.1.size)⟩
end Go.Proofs.Ytdadoelajhemjaa
namespace Go.Proofs.Ytdadoelajhemjaa
open Go.RowKit Go.Shelf

/-- The error of works, water, an ID and a wish; the place. -/
def wishE (ws : List Car) (s : Wt) (id want : Int) : Int := if cwE ws s = 0 then (if (idxO ws id).isSome = true then (if withinB want 0 1048576 = true then 0 else 1) else 5) else cwE ws s
def wishP (ws : List Car) (s : Wt) (id want : Int) : Pl := if wishE ws s id want = 0 then plO ws (idxO ws id) else (0, 0, 0)
theorem cw_good {ws : List Car} {s : Wt} (h : cwE ws s = 0) : Good ws ∧ Ok ws s := by
 unfold cwE at h
 by_cases h0 : checkE ws = 0
 ·rw [if_pos h0] at h; exact ⟨good_of_check h0, ok_of_water h⟩
 ·rw [if_neg h0] at h; exact absurd h h0
theorem wish_zero {ws : List Car} {s : Wt} {id want : Int} (h : wishE ws s id want = 0) : Good ws ∧ Ok ws s ∧ (0 ≤ want ∧ want ≤ 1048576) ∧ ∃ x, idxO ws id = some x ∧ x < (outs ws).length ∧ wishP ws s id want = pl ws x := by
 have h1 := h
 unfold wishE at h
 by_cases h0 : cwE ws s = 0
 ·rw [if_pos h0] at h
  obtain ⟨g, k⟩ := cw_good h0
  cases hx : idxO ws id with
  | none => rw [hx] at h; cases h
  | some x =>
   rw [hx, if_pos (show (some x).isSome = true from rfl)] at h
   by_cases hw : withinB want 0 1048576 = true
   ·exact ⟨g, k, within_iff.1 hw, x, rfl, (idxO_some hx).1, by unfold wishP; rw [if_pos h1, hx]; rfl⟩
   ·rw [if_neg hw] at h; cases h
 ·rw [if_neg h0] at h; exact absurd h h0

set_option maxRecDepth 100000 in
set_option maxHeartbeats 800000 in
theorem wished_any (A : Option Addr) (c : Nat) (ws : List Car) (s : Wt) (id want : Int) (w : World) (h : Wk w A ws) (hc : Wet w s) :
  Calls Try.prog 92 #[.agg #[.slice A ws.length c], s.v, .int .i64 id, .int .i64 want] w fun e w' => e = .returned (.tuple #[plV (wishP ws s id want), .int .i64 (wishE ws s id want)]) ∧ Below w.heap.size w w' := by
 obtain ⟨A0, A1, A2, A3, c0, c1, c2, c3, ri, bo, lk, lo⟩ := s
 have hb1 : Below w.heap.size w (((w.alloc (.cells #[.slice A ws.length c] 24)).alloc (.cells #[.slice A0 ri.length c0, .slice A1 bo.length c1, .slice A2 lk.length c2, .slice A3 lo.length c3] 27)).alloc (.cells #[.int .i64 0, .int .i64 0, .int .i64 0] 131)) := (((Below.refl _ w).alloc (Nat.le_refl _) _).alloc (by simp) _).alloc (by simp; omega) _
 have hch := CheckWater_any A c ws ⟨A0, A1, A2, A3, c0, c1, c2, c3, ri, bo, lk, lo⟩ _ (h.ext hb1) (hc.ext hb1)
 have hcw := fun W (hW : Below w.heap.size w W) => find_any A c ws id W (h.ext hW)
 have q0 : Blk (((w.alloc (.cells #[.slice A ws.length c] 24)).alloc (.cells #[.slice A0 ri.length c0, .slice A1 bo.length c1, .slice A2 lk.length c2, .slice A3 lo.length c3] 27)).alloc (.cells #[.int .i64 0, .int .i64 0, .int .i64 0] 131)) w.heap.size #[.slice A ws.length c] 24 := blk_alloc (blk_alloc (blk_new _ _ _ rfl) _) _
 have q1 : Blk (((w.alloc (.cells #[.slice A ws.length c] 24)).alloc (.cells #[.slice A0 ri.length c0, .slice A1 bo.length c1, .slice A2 lk.length c2, .slice A3 lo.length c3] 27)).alloc (.cells #[.int .i64 0, .int .i64 0, .int .i64 0] 131)) (w.heap.size + 1) #[.slice A0 ri.length c0, .slice A1 bo.length c1, .slice A2 lk.length c2, .slice A3 lo.length c3] 27 := blk_alloc (blk_new _ _ _ (by simp)) _
 have q2 : Blk (((w.alloc (.cells #[.slice A ws.length c] 24)).alloc (.cells #[.slice A0 ri.length c0, .slice A1 bo.length c1, .slice A2 lk.length c2, .slice A3 lo.length c3] 27)).alloc (.cells #[.int .i64 0, .int .i64 0, .int .i64 0] 131)) (w.heap.size + 1 + 1) #[.int .i64 0, .int .i64 0, .int .i64 0] 131 := blk_new _ _ _ (by simp)
 have hs1 : (((w.alloc (.cells #[.slice A ws.length c] 24)).alloc (.cells #[.slice A0 ri.length c0, .slice A1 bo.length c1, .slice A2 lk.length c2, .slice A3 lo.length c3] 27)).alloc (.cells #[.int .i64 0, .int .i64 0, .int .i64 0] 131)).heap.size = w.heap.size + 3 := by simp
 have p0 := cr 0 q0
 have p1 := cr 0 q1
 have p2 := cr 1 q1
 have p3 := cr 2 q1
 have p4 := cr 3 q1
 have hd1 : wishE ws ⟨A0, A1, A2, A3, c0, c1, c2, c3, ri, bo, lk, lo⟩ id want = if cwE ws ⟨A0, A1, A2, A3, c0, c1, c2, c3, ri, bo, lk, lo⟩ = 0 then (if (idxO ws id).isSome = true then (if withinB want 0 1048576 = true then 0 else 1) else 5) else cwE ws ⟨A0, A1, A2, A3, c0, c1, c2, c3, ri, bo, lk, lo⟩ := rfl
 have hd2 : wishP ws ⟨A0, A1, A2, A3, c0, c1, c2, c3, ri, bo, lk, lo⟩ id want = if wishE ws ⟨A0, A1, A2, A3, c0, c1, c2, c3, ri, bo, lk, lo⟩ id want = 0 then plO ws (idxO ws id) else (0, 0, 0) := rfl
 have HH := hd6 hb1 hch hcw q0 q2 hs1
 clear hb1 hch hcw q0 q1 q2 hs1 h hc
 dsimp only [Wt.v] at *
 rw [hd2, hd1]
 clear hd1 hd2
 generalize cwE ws ⟨A0, A1, A2, A3, c0, c1, c2, c3, ri, bo, lk, lo⟩ = D at *
 by_cases h0 : D = 0
 rotate_left
 ·have hz : (D != 0) = true := by simpa using h0
  rw [if_neg h0, if_neg h0]
  go_enter Try.func92, Try.ntmps92
  go_upto_region 1 with fail
  generalize (((w.alloc (.cells #[.slice A ws.length c] 24)).alloc (.cells #[.slice A0 ri.length c0, .slice A1 bo.length c1, .slice A2 lk.length c2, .slice A3 lo.length c3] 27)).alloc (.cells #[.int .i64 0, .int .i64 0, .int .i64 0] 131)) = W1 at *
  go_upto_region 3 with (go_at_call 27; refine HH.out.2.1.mono ?_; rintro e w1 ⟨rfl, hb⟩; have HF := Lib.hid hb; clear hb)
  have q2 := (HF.out.block (w.heap.size + 1 + 1) (by have := HH.out.2.2.2.2.2; omega)).trans HH.out.2.2.2.2.1
  have x0 := cr 0 q2
  have x1 := cr 1 q2
  have x2 := cr 2 q2
  have y0 := bf 0 q2
  have y1 := bf 1 q2
  have y2 := bf 2 q2
  go_wp2
  have hbw := HH.out.1.trans (HF.out.mono HH.out.1.size)
  have qF : Blk (((w1.setCell ⟨w.heap.size + 1 + 1, 0, none⟩ (.int .i64 0)).setCell ⟨w.heap.size + 1 + 1, 1, none⟩ (.int .i64 0)).setCell ⟨w.heap.size + 1 + 1, 2, none⟩ (.int .i64 0)) (w.heap.size + 1 + 1) #[(.int .i64 0), (.int .i64 0), (.int .i64 0)] 131 := heap_setCell_same _ _ 2 _ _ _ (heap_setCell_same _ _ 1 _ _ _ (heap_setCell_same _ _ 0 _ _ _ q2))
  have hbF : Below w.heap.size w (((w1.setCell ⟨w.heap.size + 1 + 1, 0, none⟩ (.int .i64 0)).setCell ⟨w.heap.size + 1 + 1, 1, none⟩ (.int .i64 0)).setCell ⟨w.heap.size + 1 + 1, 2, none⟩ (.int .i64 0)) := ((hbw.setCell (p := ⟨w.heap.size + 1 + 1, 0, none⟩) (by show w.heap.size ≤ w.heap.size + 1 + 1; omega) _).setCell (p := ⟨w.heap.size + 1 + 1, 1, none⟩) (by show w.heap.size ≤ w.heap.size + 1 + 1; omega) _).setCell (p := ⟨w.heap.size + 1 + 1, 2, none⟩) (by show w.heap.size ≤ w.heap.size + 1 + 1; omega) _
  generalize (((w1.setCell ⟨w.heap.size + 1 + 1, 0, none⟩ (.int .i64 0)).setCell ⟨w.heap.size + 1 + 1, 1, none⟩ (.int .i64 0)).setCell ⟨w.heap.size + 1 + 1, 2, none⟩ (.int .i64 0)) = WF at *
  have t0 := cr 0 qF
  have t1 := cr 1 qF
  have t2 := cr 2 qF
  exact bodyPost_ret (v := .tuple #[.agg #[(.int .i64 0), (.int .i64 0), (.int .i64 0)], .int .i64 D]) (by simp [results, Try.results92, go_sem, t0, t1, t2]) rfl ⟨rfl, hbF⟩
 ·subst h0
  rw [if_pos rfl]
  cases hx : idxO ws id with
  | none =>
   have HX := Lib.hid hx
   clear hx
   rw [if_neg (by simp), if_neg (by decide)]
   go_enter Try.func92, Try.ntmps92
   go_upto_region 1 with fail
   generalize (((w.alloc (.cells #[.slice A ws.length c] 24)).alloc (.cells #[.slice A0 ri.length c0, .slice A1 bo.length c1, .slice A2 lk.length c2, .slice A3 lo.length c3] 27)).alloc (.cells #[.int .i64 0, .int .i64 0, .int .i64 0] 131)) = W1 at *
   go_upto_region 4 with (go_at_call 27; refine HH.out.2.1.mono ?_; rintro e w1 ⟨rfl, hb⟩; have HF := Lib.hid hb; clear hb)
   have hbw := HH.out.1.trans (HF.out.mono HH.out.1.size)
   have HB := Lib.hid hbw
   have p0 := cr 0 ((HF.out.block w.heap.size (by have := HH.out.2.2.2.2.2; omega)).trans HH.out.2.2.2.1)
   have hfd := HH.out.2.2.1 w1 hbw
   rw [HX.out] at hfd
   have HG := Lib.hid hfd
   clear hfd hbw
   go_upto_region 5 with (go_at_call 102; refine HG.out.mono ?_; rintro e w2 ⟨rfl, hb⟩; dsimp only [plO, plV, Option.isSome]; have HJ := Lib.hid hb; clear hb)
   have hbF := (HB.out.trans (HJ.out.mono HB.out.size)).trans (((Below.refl _ w2).alloc (Nat.le_refl _) (.cells #[.int .i64 0, .int .i64 0, .int .i64 0] 131)).mono (Nat.le_trans HB.out.size HJ.out.size))
   have q2 := (((Below.refl _ w2).alloc (Nat.le_refl _) (.cells #[.int .i64 0, .int .i64 0, .int .i64 0] 131)).block (w.heap.size + 1 + 1) (by have := HH.out.2.2.2.2.2; have := HF.out.size; have := HJ.out.size; omega)).trans ((HJ.out.block (w.heap.size + 1 + 1) (by have := HH.out.2.2.2.2.2; have := HF.out.size; omega)).trans ((HF.out.block (w.heap.size + 1 + 1) (by have := HH.out.2.2.2.2.2; omega)).trans HH.out.2.2.2.2.1))
   generalize w2.alloc (.cells #[.int .i64 0, .int .i64 0, .int .i64 0] 131) = w3 at *
   have x0 := cr 0 q2
   have x1 := cr 1 q2
   have x2 := cr 2 q2
   have y0 := bf 0 q2
   have y1 := bf 1 q2
   have y2 := bf 2 q2
   go_wp2
   have qF : Blk (((w3.setCell ⟨w.heap.size + 1 + 1, 0, none⟩ (.int .i64 0)).setCell ⟨w.heap.size + 1 + 1, 1, none⟩ (.int .i64 0)).setCell ⟨w.heap.size + 1 + 1, 2, none⟩ (.int .i64 0)) (w.heap.size + 1 + 1) #[(.int .i64 0), (.int .i64 0), (.int .i64 0)] 131 := heap_setCell_same _ _ 2 _ _ _ (heap_setCell_same _ _ 1 _ _ _ (heap_setCell_same _ _ 0 _ _ _ q2))
   have hbF : Below w.heap.size w (((w3.setCell ⟨w.heap.size + 1 + 1, 0, none⟩ (.int .i64 0)).setCell ⟨w.heap.size + 1 + 1, 1, none⟩ (.int .i64 0)).setCell ⟨w.heap.size + 1 + 1, 2, none⟩ (.int .i64 0)) := ((hbF.setCell (p := ⟨w.heap.size + 1 + 1, 0, none⟩) (by show w.heap.size ≤ w.heap.size + 1 + 1; omega) _).setCell (p := ⟨w.heap.size + 1 + 1, 1, none⟩) (by show w.heap.size ≤ w.heap.size + 1 + 1; omega) _).setCell (p := ⟨w.heap.size + 1 + 1, 2, none⟩) (by show w.heap.size ≤ w.heap.size + 1 + 1; omega) _
   generalize (((w3.setCell ⟨w.heap.size + 1 + 1, 0, none⟩ (.int .i64 0)).setCell ⟨w.heap.size + 1 + 1, 1, none⟩ (.int .i64 0)).setCell ⟨w.heap.size + 1 + 1, 2, none⟩ (.int .i64 0)) = WF at *
   have t0 := cr 0 qF
   have t1 := cr 1 qF
   have t2 := cr 2 qF
   exact bodyPost_ret (v := .tuple #[.agg #[(.int .i64 0), (.int .i64 0), (.int .i64 0)], .int .i64 5]) (by simp [results, Try.results92, go_sem, t0, t1, t2]) rfl ⟨rfl, hbF⟩
  | some x =>
   have HX := Lib.hid hx
   clear hx
   rw [if_pos (show (some x).isSome = true from rfl)]
   have hwn : ∃ q, withinB want 0 1048576 = q := ⟨_, rfl⟩
   obtain ⟨q, hq⟩ := hwn
   rw [hq]
   have HQ := Lib.hid (within_any want 0 1048576)
   rw [hq] at HQ
   clear hq
   cases q
   ·rw [if_neg (show ¬ false = true by decide), if_neg (show ¬ (1 : Int) = 0 by decide)]
    go_enter Try.func92, Try.ntmps92
    go_upto_region 1 with fail
    generalize (((w.alloc (.cells #[.slice A ws.length c] 24)).alloc (.cells #[.slice A0 ri.length c0, .slice A1 bo.length c1, .slice A2 lk.length c2, .slice A3 lo.length c3] 27)).alloc (.cells #[.int .i64 0, .int .i64 0, .int .i64 0] 131)) = W1 at *
    go_upto_region 4 with (go_at_call 27; refine HH.out.2.1.mono ?_; rintro e w1 ⟨rfl, hb⟩; have HF := Lib.hid hb; clear hb)
    have hbw := HH.out.1.trans (HF.out.mono HH.out.1.size)
    have HB := Lib.hid hbw
    have p0 := cr 0 ((HF.out.block w.heap.size (by have := HH.out.2.2.2.2.2; omega)).trans HH.out.2.2.2.1)
    have hfd := HH.out.2.2.1 w1 hbw
    rw [HX.out] at hfd
    have HG := Lib.hid hfd
    clear hfd hbw
    go_upto_region 5 with (go_at_call 102; refine HG.out.mono ?_; rintro e w2 ⟨rfl, hb⟩; dsimp only [plO, plV, pl, Option.isSome]; have HJ := Lib.hid hb; clear hb)
    have hb9 := (Below.refl _ w2).alloc (Nat.le_refl _) (.cells #[.int .i64 (x : Int), .int .i64 (caAt ws x : Int), .int .i64 (atAt ws x : Int)] 131)
    have hbF := (HB.out.trans (HJ.out.mono HB.out.size)).trans (hb9.mono (Nat.le_trans HB.out.size HJ.out.size))
    have q2 := (hb9.block (w.heap.size + 1 + 1) (by have := HH.out.2.2.2.2.2; have := HF.out.size; have := HJ.out.size; omega)).trans ((HJ.out.block (w.heap.size + 1 + 1) (by have := HH.out.2.2.2.2.2; have := HF.out.size; omega)).trans ((HF.out.block (w.heap.size + 1 + 1) (by have := HH.out.2.2.2.2.2; omega)).trans HH.out.2.2.2.2.1))
    have q9 := blk_new w2 (g := w2.heap.size) #[.int .i64 (x : Int), .int .i64 (caAt ws x : Int), .int .i64 (atAt ws x : Int)] 131 rfl
    generalize w2.alloc (.cells #[.int .i64 (x : Int), .int .i64 (caAt ws x : Int), .int .i64 (atAt ws x : Int)] 131) = w3 at *
    have z0 := cr 0 q9
    have z1 := cr 1 q9
    have z2 := cr 2 q9
    have hne : ¬ w2.heap.size = w.heap.size + 1 + 1 := by have := HH.out.2.2.2.2.2; have := HF.out.size; have := HJ.out.size; omega
    have hne' : ¬ w.heap.size + 1 + 1 = w2.heap.size := by omega
    have x0 := cr 0 q2
    have x1 := cr 1 q2
    have x2 := cr 2 q2
    have y0 := bf 0 q2
    have y1 := bf 1 q2
    have y2 := bf 2 q2
    clear q9 hb9
    go_wp2_with (go_at_call 105; refine (HQ.out _).mono ?_; rintro e y ⟨rfl, rfl⟩)
    have qF : Blk (((w3.setCell ⟨w.heap.size + 1 + 1, 0, none⟩ (.int .i64 0)).setCell ⟨w.heap.size + 1 + 1, 1, none⟩ (.int .i64 0)).setCell ⟨w.heap.size + 1 + 1, 2, none⟩ (.int .i64 0)) (w.heap.size + 1 + 1) #[(.int .i64 0), (.int .i64 0), (.int .i64 0)] 131 := heap_setCell_same _ _ 2 _ _ _ (heap_setCell_same _ _ 1 _ _ _ (heap_setCell_same _ _ 0 _ _ _ q2))
    have hbF : Below w.heap.size w (((w3.setCell ⟨w.heap.size + 1 + 1, 0, none⟩ (.int .i64 0)).setCell ⟨w.heap.size + 1 + 1, 1, none⟩ (.int .i64 0)).setCell ⟨w.heap.size + 1 + 1, 2, none⟩ (.int .i64 0)) := ((hbF.setCell (p := ⟨w.heap.size + 1 + 1, 0, none⟩) (by show w.heap.size ≤ w.heap.size + 1 + 1; omega) _).setCell (p := ⟨w.heap.size + 1 + 1, 1, none⟩) (by show w.heap.size ≤ w.heap.size + 1 + 1; omega) _).setCell (p := ⟨w.heap.size + 1 + 1, 2, none⟩) (by show w.heap.size ≤ w.heap.size + 1 + 1; omega) _
    generalize (((w3.setCell ⟨w.heap.size + 1 + 1, 0, none⟩ (.int .i64 0)).setCell ⟨w.heap.size + 1 + 1, 1, none⟩ (.int .i64 0)).setCell ⟨w.heap.size + 1 + 1, 2, none⟩ (.int .i64 0)) = WF at *
    have t0 := cr 0 qF
    have t1 := cr 1 qF
    have t2 := cr 2 qF
    exact bodyPost_ret (v := .tuple #[.agg #[(.int .i64 0), (.int .i64 0), (.int .i64 0)], .int .i64 1]) (by simp [results, Try.results92, go_sem, t0, t1, t2]) rfl ⟨rfl, hbF⟩
   ·rw [if_pos (show true = true from rfl), if_pos (show (0 : Int) = 0 from rfl)]
    go_enter Try.func92, Try.ntmps92
    go_upto_region 1 with fail
    generalize (((w.alloc (.cells #[.slice A ws.length c] 24)).alloc (.cells #[.slice A0 ri.length c0, .slice A1 bo.length c1, .slice A2 lk.length c2, .slice A3 lo.length c3] 27)).alloc (.cells #[.int .i64 0, .int .i64 0, .int .i64 0] 131)) = W1 at *
    go_upto_region 4 with (go_at_call 27; refine HH.out.2.1.mono ?_; rintro e w1 ⟨rfl, hb⟩; have HF := Lib.hid hb; clear hb)
    have hbw := HH.out.1.trans (HF.out.mono HH.out.1.size)
    have HB := Lib.hid hbw
    have p0 := cr 0 ((HF.out.block w.heap.size (by have := HH.out.2.2.2.2.2; omega)).trans HH.out.2.2.2.1)
    have hfd := HH.out.2.2.1 w1 hbw
    rw [HX.out] at hfd
    have HG := Lib.hid hfd
    clear hfd hbw
    go_upto_region 5 with (go_at_call 102; refine HG.out.mono ?_; rintro e w2 ⟨rfl, hb⟩; dsimp only [plO, plV, pl, Option.isSome]; have HJ := Lib.hid hb; clear hb)
    have hb9 := (Below.refl _ w2).alloc (Nat.le_refl _) (.cells #[.int .i64 (x : Int), .int .i64 (caAt ws x : Int), .int .i64 (atAt ws x : Int)] 131)
    have hbF := (HB.out.trans (HJ.out.mono HB.out.size)).trans (hb9.mono (Nat.le_trans HB.out.size HJ.out.size))
    have q2 := (hb9.block (w.heap.size + 1 + 1) (by have := HH.out.2.2.2.2.2; have := HF.out.size; have := HJ.out.size; omega)).trans ((HJ.out.block (w.heap.size + 1 + 1) (by have := HH.out.2.2.2.2.2; have := HF.out.size; omega)).trans ((HF.out.block (w.heap.size + 1 + 1) (by have := HH.out.2.2.2.2.2; omega)).trans HH.out.2.2.2.2.1))
    have q9 := blk_new w2 (g := w2.heap.size) #[.int .i64 (x : Int), .int .i64 (caAt ws x : Int), .int .i64 (atAt ws x : Int)] 131 rfl
    generalize w2.alloc (.cells #[.int .i64 (x : Int), .int .i64 (caAt ws x : Int), .int .i64 (atAt ws x : Int)] 131) = w3 at *
    have z0 := cr 0 q9
    have z1 := cr 1 q9
    have z2 := cr 2 q9
    have hne : ¬ w2.heap.size = w.heap.size + 1 + 1 := by have := HH.out.2.2.2.2.2; have := HF.out.size; have := HJ.out.size; omega
    have hne' : ¬ w.heap.size + 1 + 1 = w2.heap.size := by omega
    have x0 := cr 0 q2
    have x1 := cr 1 q2
    have x2 := cr 2 q2
    have y0 := bf 0 q2
    have y1 := bf 1 q2
    have y2 := bf 2 q2
    clear q9 hb9
    go_wp2_with (go_at_call 105; refine (HQ.out _).mono ?_; rintro e y ⟨rfl, rfl⟩)
    have qF : Blk (((w3.setCell ⟨w.heap.size + 1 + 1, 0, none⟩ (.int .i64 (x : Int))).setCell ⟨w.heap.size + 1 + 1, 1, none⟩ (.int .i64 (caAt ws x : Int))).setCell ⟨w.heap.size + 1 + 1, 2, none⟩ (.int .i64 (atAt ws x : Int))) (w.heap.size + 1 + 1) #[(.int .i64 (x : Int)), (.int .i64 (caAt ws x : Int)), (.int .i64 (atAt ws x : Int))] 131 := heap_setCell_same _ _ 2 _ _ _ (heap_setCell_same _ _ 1 _ _ _ (heap_setCell_same _ _ 0 _ _ _ q2))
    have hbF : Below w.heap.size w (((w3.setCell ⟨w.heap.size + 1 + 1, 0, none⟩ (.int .i64 (x : Int))).setCell ⟨w.heap.size + 1 + 1, 1, none⟩ (.int .i64 (caAt ws x : Int))).setCell ⟨w.heap.size + 1 + 1, 2, none⟩ (.int .i64 (atAt ws x : Int))) := ((hbF.setCell (p := ⟨w.heap.size + 1 + 1, 0, none⟩) (by show w.heap.size ≤ w.heap.size + 1 + 1; omega) _).setCell (p := ⟨w.heap.size + 1 + 1, 1, none⟩) (by show w.heap.size ≤ w.heap.size + 1 + 1; omega) _).setCell (p := ⟨w.heap.size + 1 + 1, 2, none⟩) (by show w.heap.size ≤ w.heap.size + 1 + 1; omega) _
    generalize (((w3.setCell ⟨w.heap.size + 1 + 1, 0, none⟩ (.int .i64 (x : Int))).setCell ⟨w.heap.size + 1 + 1, 1, none⟩ (.int .i64 (caAt ws x : Int))).setCell ⟨w.heap.size + 1 + 1, 2, none⟩ (.int .i64 (atAt ws x : Int))) = WF at *
    have t0 := cr 0 qF
    have t1 := cr 1 qF
    have t2 := cr 2 qF
    exact bodyPost_ret (v := .tuple #[.agg #[(.int .i64 (x : Int)), (.int .i64 (caAt ws x : Int)), (.int .i64 (atAt ws x : Int))], .int .i64 0]) (by simp [results, Try.results92, go_sem, t0, t1, t2]) rfl ⟨rfl, hbF⟩
end Go.Proofs.Ytdadoelajhemjaa
