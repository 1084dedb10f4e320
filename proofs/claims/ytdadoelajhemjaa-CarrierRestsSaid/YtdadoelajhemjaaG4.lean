/- Walks: the specification's Rests. -/
import Derived.Test.YtdadoelajhemjaaG3
import Derived.ArgAppend
namespace Go.Proofs.Ytdadoelajhemjaa
open Go.RowKit Go.Shelf

/-- Appending to an empty slice without room. -/
theorem wp_append_new {op : Oper} {a : Act} {w : World} {K : Act → World → Prop} {Q : Exit → Act → World → Prop} (s x : Operand) (t : TypeId) (ho : op.op = .call { callee := .builtin .append, args := #[s, x], argTypes := #[t, t] })
    (e : TypeId) (i : TypeInfo) (z : Value) (size bytes : Nat) (ht : Try.prog.underlying t = some (.slice e)) (hi : Try.prog.info? e = some i) (hz : i.zero = some z)
    (hsize : i.size = size) (hby : i.bytes = bytes) (hzs : z.cells.size = size) (hsz : 0 < size)
    (B : Addr) (hs : a.eval s = .slice (some B) 0 0)
    (ad : Addr) (m c : Nat) (news : List Value) (hx : a.eval x = .slice (some ad) m c) (hl : news.length = m * size) (hnews : ∀ j u, news[j]? = some u → w.cell? (ad.add j) = some u)
    (hm : 0 < m) (h63 : m ≤ maxLen) (hbytes : m * bytes ≤ 140737488355328)
    (h : ∀ v' w', w'.ownsRow w.heap.size e size v' m news → w.grownBy w' none → K (a.put op.dst v') w') : op.wp Try.prog a w K Q := by
  obtain ⟨v', w', hr, h2, h3⟩ := run_append_arg_grows (P := Try.prog) w t op.type e i z size bytes ht hi hz hsize hby hzs hsz B 0 0 [] (by simp) (fun j u hj => by simp at hj) ad m c news hl hnews (by omega) (by omega) (by rw [Nat.zero_add]; exact hbytes)
  unfold Oper.wp execOp
  simp only [ho, resolve, invoke, builtin, Sem.run_bind, Sem.run_pure, Result.andThen_ok, List.map_toArray, List.map_cons, List.map_nil, hs, hx, hr]
  rw [Nat.zero_add] at h2
  exact h v' w' h2 h3
theorem cell_keep {n : Nat} {X X' : World} {g i : Nat} {u : Value} (hb : Below n X X') (e : X.cell? ⟨g, i, none⟩ = some u) (hn : X.heap.size ≤ n := by exact Nat.le_refl _) : X'.cell? ⟨g, i, none⟩ = some u := (cell_of_heap (hb.block g (Nat.lt_of_lt_of_le (lt_of_cell' e) hn))).trans e
theorem wp_clone_spans {op : Oper} {a : Act} {w : World} {K : Act → World → Prop} {Q : Exit → Act → World → Prop} (s x : Operand) (ho : op.op = .call { callee := .builtin .append, args := #[s, x], argTypes := #[49, 49] })
    (B : Addr) (hs : a.eval s = .slice (some B) 0 0) (b off c : Nat) (l : List Sp) (hx : a.eval x = .slice (some ⟨b, off, none⟩) l.length c) (hr : ∀ i, i < l.length → SpAt w b (off + i * 2) (sAt l i)) (h0 : 0 < l.length) (hm : l.length ≤ 1000)
    (h : ∀ g c' w', w.heap.size ≤ g → g < w'.heap.size → SpF w' g l.length (sAt l) → Below w.heap.size w w' → K (a.put op.dst (.slice (some ⟨g, 0, none⟩) l.length c')) w') : op.wp Try.prog a w K Q := by
  obtain ⟨i0, hi, hz0, hz1, hz2⟩ := info_parts info40
  refine wp_append_new s x 49 ho 40 i0 (.agg #[.int .i64 0, .int .i64 0]) 2 16 Try.underlying49 hi hz0 hz1 hz2 rfl (by decide) B hs ⟨b, off, none⟩ l.length c (cellsS l) hx (cellsS_length l) (fun j u hj => ?_) h0 (by unfold maxLen; omega) (by omega) (fun v' w' hown hgrow => ?_)
  · obtain ⟨hd, hu⟩ := cellsS_get hj
    rw [add_eq]
    have hs := hr (j / 2) hd
    rcases Nat.mod_two_eq_zero_or_one j with hm2 | hm2
    · rw [hm2] at hu
      rw [show off + j = off + j / 2 * 2 by omega, hs.c0]
      exact hu
    · rw [hm2] at hu
      rw [show off + j = off + j / 2 * 2 + 1 by omega, hs.c1]
      exact hu
  · rcases hown.2 with ⟨e, hn⟩ | ⟨g, cap, cur, e, hbg, hg2, _⟩
    · omega
    · subst e
      have hf : SpF w' g l.length (sAt l) := ⟨fun j hj => by
        have h1 := World.ownsRow.cells hown (g := g) rfl (j * 2 + 0) _ ((cellsS_at l j 0 hj (by omega)).trans rfl)
        have h2 := World.ownsRow.cells hown (g := g) rfl (j * 2 + 1) _ ((cellsS_at l j 1 hj (by omega)).trans rfl)
        rw [add_eq, Nat.zero_add] at h1 h2
        exact ⟨h1, h2⟩, fun o => by simp [World.frozen?, hg2]⟩
      exact h g cap w' hbg (Array.getElem?_eq_some_iff.1 hg2).1 hf ((Below.refl _ w).grown hgrow (Nat.le_refl _) (fun k e => by cases e))
set_option maxRecDepth 100000 in
set_option maxHeartbeats 3200000 in
theorem rRests_any (A : Option Addr) (c : Nat) (ws : List Car) (cs : Cs) (id : Int) (w : World) (h : Wk w A ws) (hs : Csd w cs) :
    Calls Try.prog 32 #[.agg #[.slice A ws.length c], cs.v, .int .i64 id] w fun e w' => ∃ A' c', e = .returned (.agg #[.slice A' (restE ws cs id).length c', .int .i64 (askE ws cs id)]) ∧ Rd w' w'.heap.size A' (restE ws cs id) ∧ Below w.heap.size w w' := by
  obtain ⟨i0, hi0', hz0, hz1, hz2⟩ := info_parts info3
  obtain ⟨A0, A1, d0, d1, ri, bo⟩ := cs
  show Calls _ _ #[.agg #[.slice A ws.length c], .agg #[.slice A0 ri.length d0, .slice A1 bo.length d1], .int .i64 id] _ _
  have hb : Below w.heap.size w (((w.alloc (.cells #[.slice A ws.length c] 24)).alloc (.cells #[.slice A0 ri.length d0, .slice A1 bo.length d1] 51)).alloc (.cells #[.slice none 0 0, .int .i64 0] 45)) := (((Below.refl _ w).alloc (Nat.le_refl _) _).alloc (by simp) _).alloc (by simp; omega) _
  have K := Lib.hid (((((stays_bl hb).and (stays_blk (blk_alloc (blk_alloc (blk_new w #[.slice A ws.length c] 24 rfl) _) _))).and (stays_blk (g := w.heap.size + 1) (blk_alloc (blk_new (w.alloc (.cells #[.slice A ws.length c] 24)) #[.slice A0 ri.length d0, .slice A1 bo.length d1] 51 (by simp)) _))).and ((stays_wk (h.ext hb)).and (stays_csd (hs.ext hb)))).and (stays_blk (g := (w.heap.size + 1 + 1)) (blk_new ((w.alloc (.cells #[.slice A ws.length c] 24)).alloc (.cells #[.slice A0 ri.length d0, .slice A1 bo.length d1] 51)) #[.slice none 0 0, .int .i64 0] 45 (by simp))))
  have HS0 := Lib.hid (show (w.heap.size + 1 + 1) < (((w.alloc (.cells #[.slice A ws.length c] 24)).alloc (.cells #[.slice A0 ri.length d0, .slice A1 bo.length d1] 51)).alloc (.cells #[.slice none 0 0, .int .i64 0] 45)).heap.size by simp)
  have HS := Lib.hid hs
  clear hb h hs
  have HC := Lib.hid (fun W hW hs => rCasedAt_any A c ws ⟨A0, A1, d0, d1, ri, bo⟩ id W hW hs)
  have hd2 : casI ws ⟨A0, A1, d0, d1, ri, bo⟩ id = if askE ws ⟨A0, A1, d0, d1, ri, bo⟩ id = 0 then idxI (idxO ws id) else 0 := rfl
  by_cases h0 : askE ws ⟨A0, A1, d0, d1, ri, bo⟩ id = 0
  · obtain ⟨g, k, x, hx, hxl, -⟩ := ask_zero h0
    rw [if_pos h0, hx, show idxI (some x) = (x : Int) from rfl] at hd2
    rw [hd2, h0] at HC
    have HI := Lib.hid (And.intro g (And.intro k hxl))
    have hre : restE ws ⟨A0, A1, d0, d1, ri, bo⟩ id = restTo ws ⟨A0, A1, d0, d1, ri, bo⟩ x (outs ws).length := by unfold restE; rw [if_pos h0, hx]
    rw [h0, hre]
    clear hd2 h0 hx g k hxl hre
    go_enter Try.func32, Try.ntmps32
    go_upto_region 1 with fail
    generalize ((w.alloc (.cells #[.slice A ws.length c] 24)).alloc (.cells #[.slice A0 ri.length d0, .slice A1 bo.length d1] 51)).alloc (.cells #[.slice none 0 0, .int .i64 0] 45) = W0 at *
    have p0 := cell_row (i := 0) K.out.1.1.1.1.2
    have p1 := cell_row (i := 0) K.out.1.1.1.2
    have p2 := cell_row (i := 1) K.out.1.1.1.2
    go_upto_region 4 with (go_at_call 89; refine (HC.out _ K.out.1.1.2.1 K.out.1.1.2.2).mono ?_; rintro e w1 ⟨rfl, hb⟩; have K1 := Lib.hid (K.out.on hb); have H1 := Lib.hid hb; clear hb)
    clear p0 p1 p2
    have p0 := cell_row (i := 0) K1.out.1.1.1.1.2
    have p1 := cell_row (i := 0) K1.out.1.1.1.2
    have p2 := cell_row (i := 1) K1.out.1.1.1.2
    go_upto_region 7 with (go_at_call 90; refine (rOutlets_any A c ws _ K1.out.1.1.2.1).mono ?_; rintro e w3 ⟨A5, c5, rfl, hr, -, hb⟩; have K2 := Lib.hid (K1.out.on hb); have H2 := Lib.hid (And.intro hr (Nat.lt_of_lt_of_le (Nat.lt_of_lt_of_le HS0.out H1.out.size) hb.size)); clear hr hb)
    clear p0 p1 p2 HC K K1 HS0 H1
    have HX := HI
    have hN6 := HI.out.1.n2
    have hlb : bo.length = (outs ws).length := HI.out.2.1.l1
    have HLB := Lib.hid hlb
    clear hlb
    go_loopg [10, 11, 12] (outs ws).length (fun gg s i _ wr => ∃ t : Nat, t ≤ (outs ws).length ∧ (outs ws).length - t ≤ gg ∧ i = .int .i64 t ∧ ∃ A2 c2, s = .slice A2 (restTo ws ⟨A0, A1, d0, d1, ri, bo⟩ x t).length c2 ∧ Aside (Below w3.heap.size w3 wr ∧ Own wr w3.heap.size (.slice A2 (restTo ws ⟨A0, A1, d0, d1, ri, bo⟩ x t).length c2) (restTo ws ⟨A0, A1, d0, d1, ri, bo⟩ x t)))
    case atStart => exact ⟨0, Nat.zero_le _, by omega, rfl, none, 0, rfl, Below.refl _ _, Own.nil _ _⟩
    case round =>
      obtain ⟨t, ht, hgg, rfl, A2, c2, rfl, hA⟩ := hrel
      have HA := Lib.hid hA.out
      clear hA
      by_cases hlt : t < (outs ws).length
      · have hltz : (t : Int) < ((outs ws).length : Int) := by omega
        have hlb := HLB.out
        have hltb : (t : Int) < (bo.length : Int) := by omega
        obtain ⟨b4, o4, rfl, -, ho4⟩ := H2.out.1 (by omega)
        obtain ⟨bs, os, e0, lbs, hcs⟩ := HS.out.r1 (by show 0 < bo.length; omega)
        dsimp only at e0
        subst e0
        have h4 := ho4 t hlt
        have H4 : Hid (w3.cell? ⟨b4, o4 + t * 7, none⟩ = some (.int .i64 (oAt (outs ws) t).id) ∧ w3.cell? ⟨b4, o4 + t * 7 + 2, none⟩ = some (.slice (oAt (outs ws) t).P (oAt (outs ws) t).ps.length (oAt (outs ws) t).c)) := Lib.hid ⟨h4.c0, h4.c2⟩
        have HR : Hid ((∀ X, Below w.heap.size w X → ∀ i, i < bo.length → SpAt X bs (os + i * 2) (sAt bo i)) ∧ Below w.heap.size w wr) :=
          Lib.hid ⟨fun X hb i hi => ⟨(hb.cell (p := ⟨bs, os + i * 2, none⟩) lbs).trans (hcs i hi).c0, (hb.cell (p := ⟨bs, os + i * 2 + 1, none⟩) lbs).trans (hcs i hi).c1⟩, (K2.out.on HA.out.1).1.1.1.1.1⟩
        have hX0 : Below wr.heap.size wr wr.drew := (Below.refl _ _).drew
        have s1 := cell_row (i := 0) (blk_on (K2.out.on HA.out.1).1.1.1.2 hX0)
        have s2 := cell_row (i := 1) (blk_on (K2.out.on HA.out.1).1.1.1.2 hX0)
        clear h4 ho4 hcs lbs hlb
        go_upto_region 9 with fail
        refine wp_region_cutR (fun j => j != 8) (fun a' w' => ∃ (v32 v33 v34 v35 v36 v37 v38 : Value) (gg cc bb : Nat), a' = { tmps := #[.agg #[.slice A ws.length c], .agg #[.slice A0 ri.length d0, .slice (some ⟨bs, os, none⟩) bo.length d1], .int .i64 id, .pointer (some ⟨w.heap.size, 0, none⟩), .pointer (some ⟨w.heap.size + 1, 0, none⟩), undef, .pointer (some ⟨(w.heap.size + 1 + 1), 0, none⟩), .int .i64 (x : Int), .int .i64 0, .slice (some ⟨b4, o4, none⟩) (outs ws).length c5, .slice A2 (restTo ws ⟨A0, some ⟨bs, os, none⟩, d0, d1, ri, bo⟩ x t).length c2, .int .i64 (t : Int), .pointer (some ⟨bb, 0, none⟩), .tuple #[.int .i64 (x : Int), .int .i64 0], .agg #[.slice A ws.length c], .agg #[.slice A0 ri.length d0, .slice (some ⟨bs, os, none⟩) bo.length d1], .int .i64 id, .tuple #[.int .i64 (x : Int), .int .i64 0], .int .i64 (x : Int), .int .i64 0, .int .i64 0, .bool false, undef, undef, .agg #[.slice A ws.length c], .slice (some ⟨b4, o4, none⟩) (outs ws).length c5, .int .i64 (t : Int), .slice (some ⟨b4, o4, none⟩) (outs ws).length c5, .int .i64 ((outs ws).length : Int), .bool true, u30, u31, v32, v33, v34, v35, v36, v37, v38, u39, u40, u41, u42, u43, u44, u45, u46, u47, u48, u49, u50, u51, u52, u53, u54, u55, u56, u57, u58, u59, u60, u61, u62, u63, u64, u65, u66, u67, u68, u69, undef, undef], defers := [] } ∧
          Aside (Blk w' bb #[.slice A0 ri.length d0, .slice (some ⟨gg, 0, none⟩) bo.length cc] 51 ∧ SpF w' gg bo.length (sAt bo) ∧ Below wr.heap.size wr w' ∧ wr.heap.size ≤ gg ∧ wr.heap.size ≤ bb ∧ gg ≠ bb ∧ gg < w'.heap.size)) ?_ ?_
        · have hb0 : 0 < bo.length := by omega
          have hm0 : bo.length ≤ 1000 := by have := HLB.out; omega
          generalize wr.drew = X0 at *
          have hx0 := hX0.size
          refine bF 0 rfl ?_; try go_frame
          refine bF 3 rfl ?_; try go_frame
          refine bT s1 1 rfl ?_; try go_frame
          refine bT s2 4 rfl ?_; try go_frame
          clear s1 s2
          refine bA (rs := [2, 7]) (AllR.cons rfl (fun K hK => ?_) (AllR.cons rfl (fun K hK => ?_) AllR.nil))
          · go_simp
            refine hK.out _ _ (fun _ => (Below.refl _ _).alloc (Nat.le_refl _) _) ?_
            clear hK
            have hb1 := hX0.trans (((Below.refl _ X0).alloc (Nat.le_refl _) (.cells #[] 40)).mono hx0)
            have HZ1 : Hid ((X0.alloc (.cells #[] 40)).heap.size = X0.heap.size + 1) := Lib.hid (by simp)
            generalize X0.alloc (.cells #[] 40) = X1 at *
            refine bA (rs := [5, 7]) (AllR.cons rfl (fun K hK => ?_) (AllR.cons rfl (fun K hK => ?_) AllR.nil))
            · refine wp_clone_spans (.tmp 34) (.tmp 36) rfl ⟨X0.heap.size, 0, none⟩ rfl bs os d1 bo rfl (HR.out.1 X1 (HR.out.2.trans (hb1.mono HR.out.2.size))) (by omega) (by omega) ?_
              intro gg cc X2 hg1 hg2 hsf hb'
              refine hK.out _ _ (fun _ => hb') ?_
              clear hK
              have hb2 := hb1.trans (hb'.mono hb1.size)
              have hx2 := hb'.size
              refine bF 6 rfl ?_; try go_frame
              refine bR 7 rfl fun K hK => ?_
              go_simp
              refine hK.out _ _ (fun _ => (Below.refl _ _).alloc (Nat.le_refl _) _) ?_
              clear hK
              have hb3 := hb2.trans (((Below.refl _ X2).alloc (Nat.le_refl _) (.cells #[.slice none 0 0, .slice none 0 0] 51)).mono hb2.size)
              have hbk := blk_new X2 (g := X2.heap.size) #[.slice none 0 0, .slice none 0 0] 51 rfl
              have hsf3 := hsf.heap (W' := X2.alloc (.cells #[.slice none 0 0, .slice none 0 0] 51)) (((Below.refl _ X2).alloc (Nat.le_refl _) (.cells #[.slice none 0 0, .slice none 0 0] 51)).block gg hg2)
              have HZ3 : Hid ((X2.alloc (.cells #[.slice none 0 0, .slice none 0 0] 51)).heap.size = X2.heap.size + 1) := Lib.hid (by simp)
              refine bR 8 rfl fun K hK => ?_
              have hz := HZ1.out
              have hz' := HZ3.out
              refine wp_store_mid 51 (.tmp 12) (.tmp 38) rfl X2.heap.size 0 #[.slice A0 ri.length d0, .slice (some ⟨gg, 0, none⟩) bo.length cc] rfl rfl (show World.there _ _ 0 2 from blk_there hbk) (by kernel_rfl) (by simp [Value.oneCell']) ?_
              refine hK.out _ _ (fun h => by cases h) ?_
              refine bD ?_
              exact ⟨_, _, _, _, _, _, _, gg, cc, X2.heap.size, rfl, (show _ ∧ _ ∧ _ ∧ _ ∧ _ ∧ _ ∧ _ from ⟨setCells_blk hbk _ rfl, hsf3.heap (setCells_oth (by omega) _ _ _), setCells_below (by omega) _ _ _ hb3, by omega, by omega, by omega, by rw [setCells_size]; omega⟩)⟩
            · go_simp
              refine hK.out _ _ (fun _ => (Below.refl _ _).alloc (Nat.le_refl _) _) ?_
              clear hK
              have hb2 := hb1.trans (((Below.refl _ X1).alloc (Nat.le_refl _) (.cells #[.slice none 0 0, .slice none 0 0] 51)).mono hb1.size)
              have hbk := blk_new X1 (g := X1.heap.size) #[.slice none 0 0, .slice none 0 0] 51 rfl
              have HZ3 : Hid ((X1.alloc (.cells #[.slice none 0 0, .slice none 0 0] 51)).heap.size = X1.heap.size + 1) := Lib.hid (by simp)
              refine bR 5 rfl fun K hK => ?_
              refine wp_clone_spans (.tmp 34) (.tmp 36) rfl ⟨X0.heap.size, 0, none⟩ rfl bs os d1 bo rfl (HR.out.1 (X1.alloc (.cells #[.slice none 0 0, .slice none 0 0] 51)) (HR.out.2.trans (hb2.mono HR.out.2.size))) (by omega) (by omega) ?_
              intro gg cc X3 hg1 hg2 hsf hb'
              refine hK.out _ _ (fun _ => hb') ?_
              clear hK
              have hb3 := hb2.trans (hb'.mono hb2.size)
              have hbk3 := blk_on hbk hb'
              refine bF 6 rfl ?_; try go_frame
              refine bR 8 rfl fun K hK => ?_
              have hz := HZ1.out
              have hz' := HZ3.out
              refine wp_store_mid 51 (.tmp 12) (.tmp 38) rfl X1.heap.size 0 #[.slice A0 ri.length d0, .slice (some ⟨gg, 0, none⟩) bo.length cc] rfl rfl (show World.there _ _ 0 2 from blk_there hbk3) (by kernel_rfl) (by simp [Value.oneCell']) ?_
              refine hK.out _ _ (fun h => by cases h) ?_
              refine bD ?_
              exact ⟨_, _, _, _, _, _, _, gg, cc, X1.heap.size, rfl, (show _ ∧ _ ∧ _ ∧ _ ∧ _ ∧ _ ∧ _ from ⟨setCells_blk hbk3 _ rfl, hsf.heap (setCells_oth (by omega) _ _ _), setCells_below (by omega) _ _ _ hb3, by omega, by omega, by omega, by rw [setCells_size]; omega⟩)⟩
          · go_simp
            refine hK.out _ _ (fun _ => (Below.refl _ _).alloc (Nat.le_refl _) _) ?_
            clear hK
            have hb1 := hX0.trans (((Below.refl _ X0).alloc (Nat.le_refl _) (.cells #[.slice none 0 0, .slice none 0 0] 51)).mono hx0)
            have hbk := blk_new X0 (g := X0.heap.size) #[.slice none 0 0, .slice none 0 0] 51 rfl
            have HZ1 : Hid ((X0.alloc (.cells #[.slice none 0 0, .slice none 0 0] 51)).heap.size = X0.heap.size + 1) := Lib.hid (by simp)
            generalize X0.alloc (.cells #[.slice none 0 0, .slice none 0 0] 51) = X1 at *
            refine bR 2 rfl fun K hK => ?_
            go_simp
            refine hK.out _ _ (fun _ => (Below.refl _ _).alloc (Nat.le_refl _) _) ?_
            clear hK
            have hb2 := hb1.trans (((Below.refl _ X1).alloc (Nat.le_refl _) (.cells #[] 40)).mono hb1.size)
            have hbk2 := blk_on hbk ((Below.refl _ X1).alloc (Nat.le_refl _) (.cells #[] 40))
            have HZ2 : Hid ((X1.alloc (.cells #[] 40)).heap.size = X1.heap.size + 1) := Lib.hid (by simp)
            generalize X1.alloc (.cells #[] 40) = X2 at *
            refine bR 5 rfl fun K hK => ?_
            refine wp_clone_spans (.tmp 34) (.tmp 36) rfl ⟨X1.heap.size, 0, none⟩ rfl bs os d1 bo rfl (HR.out.1 X2 (HR.out.2.trans (hb2.mono HR.out.2.size))) (by omega) (by omega) ?_
            intro gg cc X3 hg1 hg2 hsf hb'
            refine hK.out _ _ (fun _ => hb') ?_
            clear hK
            have hb3 := hb2.trans (hb'.mono hb2.size)
            have hbk3 := blk_on hbk2 hb'
            refine bF 6 rfl ?_; try go_frame
            refine bR 8 rfl fun K hK => ?_
            have hz := HZ1.out
            have hz' := HZ2.out
            refine wp_store_mid 51 (.tmp 12) (.tmp 38) rfl X0.heap.size 0 #[.slice A0 ri.length d0, .slice (some ⟨gg, 0, none⟩) bo.length cc] rfl rfl (show World.there _ _ 0 2 from blk_there hbk3) (by kernel_rfl) (by simp [Value.oneCell']) ?_
            refine hK.out _ _ (fun h => by cases h) ?_
            refine bD ?_
            exact ⟨_, _, _, _, _, _, _, gg, cc, X0.heap.size, rfl, (show _ ∧ _ ∧ _ ∧ _ ∧ _ ∧ _ ∧ _ from ⟨setCells_blk hbk3 _ rfl, hsf.heap (setCells_oth (by omega) _ _ _), setCells_below (by omega) _ _ _ hb3, by omega, by omega, by omega, by rw [setCells_size]; omega⟩)⟩
        · rintro a' w10 ⟨v32, v33, v34, v35, v36, v37, v38, gg, cc, bb, rfl, hF⟩
          dsimp only
          have HY := Lib.hid hF.out
          clear hF s1 s2 hX0
          have hps := (HI.out.1.fine hlt).n
          have hX0 : Below w10.heap.size w10 w10.drew := (Below.refl _ _).drew
          have H40 : Hid ((wr.cell? ⟨b4, o4 + t * 7, none⟩ = some (.int .i64 (oAt (outs ws) t).id) ∧ wr.cell? ⟨b4, o4 + t * 7 + 2, none⟩ = some (.slice (oAt (outs ws) t).P (oAt (outs ws) t).ps.length (oAt (outs ws) t).c)) ∧ b4 < wr.heap.size) :=
            Lib.hid ⟨⟨cell_keep HA.out.1 H4.out.1, cell_keep HA.out.1 H4.out.2⟩, Nat.lt_of_lt_of_le (lt_of_cell' H4.out.1) HA.out.1.size⟩
          clear H4
          have H4 := H40
          clear H40
          have hsu := restTo_succ ws ⟨A0, some ⟨bs, os, none⟩, d0, d1, ri, bo⟩ x t
          have hrl := restTo_le ws ⟨A0, some ⟨bs, os, none⟩, d0, d1, ri, bo⟩ x t
          have hrb : restB ws ⟨A0, some ⟨bs, os, none⟩, d0, d1, ri, bo⟩ x t = decide (endsF ws (othC ws ⟨A0, some ⟨bs, os, none⟩, d0, d1, ri, bo⟩ t) x ≠ endsF ws ⟨A0, some ⟨bs, os, none⟩, d0, d1, ri, bo⟩ x) := rfl
          have HO : Hid (restB ws ⟨A0, some ⟨bs, os, none⟩, d0, d1, ri, bo⟩ x t = true → restTo ws ⟨A0, some ⟨bs, os, none⟩, d0, d1, ri, bo⟩ x (t + 1) = restTo ws ⟨A0, some ⟨bs, os, none⟩, d0, d1, ri, bo⟩ x t ++ [(oAt (outs ws) t).id]) := Lib.hid fun h => by rw [hsu, if_pos h]
          have HO2 : Hid (restB ws ⟨A0, some ⟨bs, os, none⟩, d0, d1, ri, bo⟩ x t = false → restTo ws ⟨A0, some ⟨bs, os, none⟩, d0, d1, ri, bo⟩ x (t + 1) = restTo ws ⟨A0, some ⟨bs, os, none⟩, d0, d1, ri, bo⟩ x t) := Lib.hid fun h => by rw [hsu, if_neg (by rw [h]; decide)]
          have hook : CsOk ws ⟨A0, some ⟨gg, 0, none⟩, d0, cc, ri, bo.set t (0, ((oAt (outs ws) t).ps.length : Int) - 1)⟩ := oth_ok (cs := ⟨A0, some ⟨bs, os, none⟩, d0, d1, ri, bo⟩) HI.out.1 HI.out.2.1 hlt rfl rfl
          have hoe : endsF ws ⟨A0, some ⟨gg, 0, none⟩, d0, cc, ri, bo.set t (0, ((oAt (outs ws) t).ps.length : Int) - 1)⟩ x = endsF ws (othC ws ⟨A0, some ⟨bs, os, none⟩, d0, d1, ri, bo⟩ t) x := endsF_congr rfl rfl
          have HRB := Lib.hid hrb
          have HQ := Lib.hid (And.intro hook hoe)
          clear hsu hrb hook hoe
          generalize endsF ws (othC ws ⟨A0, some ⟨bs, os, none⟩, d0, d1, ri, bo⟩ t) x = eo at *
          obtain ⟨lo0, hi0, hlh0⟩ : ∃ lo0 hi0 : Int, endsF ws ⟨A0, some ⟨bs, os, none⟩, d0, d1, ri, bo⟩ x = (lo0, hi0) := ⟨_, _, rfl⟩
          rw [hlh0] at HRB
          have HLH := Lib.hid hlh0
          clear hlh0
          generalize (oAt (outs ws) t).id = oid at *
          generalize (oAt (outs ws) t).P = oP at *
          generalize (oAt (outs ws) t).ps.length = pn at *
          generalize (oAt (outs ws) t).c = oc at *
          have k1 := cell_row (i := 1) ((hX0.block bb (by have := (Array.getElem?_eq_some_iff.1 HY.out.1).1; exact this)).trans HY.out.1)
          have k2 := cell_keep hX0 (cell_keep HY.out.2.2.1 H4.out.1.2)
          have hth : World.there w10 gg (t * 2) 2 := fun j hj => by
            have h1 := HY.out.2.1.at_ t (by omega)
            refine ⟨?_, HY.out.2.1.fz _⟩
            match j, hj with
            | 0, _ => rw [Nat.add_zero, h1.c0]; rfl
            | 1, _ => rw [h1.c1]; rfl
          have HTH := Lib.hid hth
          have hwr : IntKind.i64.wrap ((pn : Int) - 1) = (pn : Int) - 1 := IntWalk.i64_in _ (by omega)
          clear hth
          go_upto_region 10 with fail
          refine wp_region_R (fun j => j != 12) ?_
          have HTH2 : Hid (World.there w10.drew gg (t * 2) 2) := HTH
          have HSX : Hid (∀ k : Nat, w10.drew.heap[k]? = w10.heap[k]?) := Lib.hid (fun _ => rfl)
          have HSZ : Hid (w10.drew.heap.size = w10.heap.size) := Lib.hid rfl
          generalize w10.drew = X0 at *
          refine bF 0 rfl ?_; try go_frame
          refine bF 2 rfl ?_; try go_frame
          refine bF 3 rfl ?_; try go_frame
          refine bF 4 rfl ?_; try go_frame
          refine bF 5 rfl ?_; try go_frame
          refine bF 6 rfl ?_; try go_frame
          refine bT k1 1 rfl ?_; try go_frame
          refine bT k2 7 rfl ?_; try go_frame
          refine bF 8 rfl ?_; try go_frame
          refine bF 9 rfl ?_; try go_frame
          refine bF 10 rfl ?_; try go_frame
          refine bF 11 rfl ?_; try go_frame
          refine bR 12 rfl fun K hK => ?_
          clear k1 k2 hwr
          refine wp_store_mid 40 (.tmp 50) (.tmp 49) rfl gg (t * 2) #[.int .i64 0, .int .i64 ((pn : Int) - 1)] rfl rfl HTH2.out (by kernel_rfl) (by simp [Value.oneCell']) ?_
          refine hK.out _ _ (fun h => by cases h) ?_
          clear hK
          refine bD ?_
          dsimp only [Act.put]
          have HZ : Hid (Blk (X0.setCells gg (t * 2) [.int .i64 0, .int .i64 ((pn : Int) - 1)]) bb #[.slice A0 ri.length d0, .slice (some ⟨gg, 0, none⟩) bo.length cc] 51 ∧ SpF (X0.setCells gg (t * 2) [.int .i64 0, .int .i64 ((pn : Int) - 1)]) gg bo.length (putA (sAt bo) t (0, (pn : Int) - 1)) ∧ Below wr.heap.size wr (X0.setCells gg (t * 2) [.int .i64 0, .int .i64 ((pn : Int) - 1)]) ∧ gg < (X0.setCells gg (t * 2) [.int .i64 0, .int .i64 ((pn : Int) - 1)]).heap.size) := by
            obtain ⟨r1, r2, r3, r4, r5, r6, r7⟩ := HY.out
            exact Lib.hid ⟨(setCells_oth (Ne.symm r6) _ _ _).trans ((HSX.out _).trans r1), (r2.heap (HSX.out _)).set (by omega) 0 ((pn : Int) - 1), setCells_below r4 _ _ _ (r3.trans (hX0.mono r3.size)), by rw [setCells_size, HSZ.out]; exact r7⟩
          clear HY HTH HTH2 HSX HSZ hX0
          generalize (X0.setCells gg (t * 2) [.int .i64 0, .int .i64 ((pn : Int) - 1)]) = w11 at *
          obtain ⟨el, eh⟩ := eo
          have HD : Hid (Below wr.heap.size wr w11.drew) := Lib.hid HZ.out.2.2.1.drew
          have bl3 := HA.out.1.trans (HD.out.mono HA.out.1.size)
          have HS1 : Hid (w11.drew.cell? ⟨w.heap.size, 0, none⟩ = some (.slice A ws.length c) ∧ w11.drew.cell? ⟨bb, 0, none⟩ = some (.slice A0 ri.length d0) ∧ w11.drew.cell? ⟨bb, 1, none⟩ = some (.slice (some ⟨gg, 0, none⟩) bo.length cc) ∧ w11.drew.cell? ⟨w.heap.size + 1, 0, none⟩ = some (.slice A0 ri.length d0) ∧ w11.drew.cell? ⟨w.heap.size + 1, 1, none⟩ = some (.slice (some ⟨bs, os, none⟩) bo.length d1)) :=
            Lib.hid ⟨cell_row (blk_on K2.out.1.1.1.1.2 bl3), cell_row (i := 0) HZ.out.1, cell_row (i := 1) HZ.out.1, cell_row (blk_on K2.out.1.1.1.2 bl3), cell_row (blk_on K2.out.1.1.1.2 bl3)⟩
          have HP : Hid ((∀ X, Below w11.drew.heap.size w11.drew X → Calls Try.prog 91 #[.agg #[.slice A ws.length c], .agg #[.slice A0 ri.length d0, .slice (some ⟨gg, 0, none⟩) bo.length cc], .int .i64 (x : Int)] X fun e w' => ∃ s t : Wt, e = .returned (supV (el, eh) s t) ∧ Below X.heap.size X w') ∧
              (∀ X, Below w11.drew.heap.size w11.drew X → Calls Try.prog 91 #[.agg #[.slice A ws.length c], .agg #[.slice A0 ri.length d0, .slice (some ⟨bs, os, none⟩) bo.length d1], .int .i64 (x : Int)] X fun e w' => ∃ s t : Wt, e = .returned (supV (lo0, hi0) s t) ∧ Below X.heap.size X w')) := by
            obtain ⟨r1, r2, r3, r4⟩ := HZ.out
            have hrd : RdS w11.drew w11.drew.heap.size (some ⟨gg, 0, none⟩) (bo.set t (0, (pn : Int) - 1)) := (SpF.rd (l := bo.set t (0, (pn : Int) - 1)) (by rw [List.length_set]; exact r2) r4 (fun j hj => sAt_set _ (by rw [List.length_set] at hj; exact hj))).ext (Below.refl _ _).drew
            have hw := K2.out.1.1.2.1.ext bl3
            have hc := K2.out.1.1.2.2.ext bl3
            refine Lib.hid ⟨fun X hb => ?_, fun X hb => ?_⟩
            · have h1 := rEnds_any A c ws ⟨A0, some ⟨gg, 0, none⟩, d0, cc, ri, bo.set t (0, (pn : Int) - 1)⟩ x HI.out.2.2 X (hw.ext hb) HI.out.1 ⟨hc.r0.ext hb, hrd.ext hb, hc.m0, by rw [List.length_set]; exact hc.m1⟩ HQ.out.1
              rw [HQ.out.2] at h1
              unfold Cs.v at h1
              dsimp only at h1
              rw [List.length_set] at h1
              exact h1.mono fun e w' ⟨s, t, he, _, _, _, _, _, _, hb2⟩ => ⟨s, t, he, hb2⟩
            · have h1 := rEnds_any A c ws ⟨A0, some ⟨bs, os, none⟩, d0, d1, ri, bo⟩ x HI.out.2.2 X (hw.ext hb) HI.out.1 (hc.ext hb) HI.out.2.1
              rw [HLH.out] at h1
              exact h1.mono fun e w' ⟨s, t, he, _, _, _, _, _, _, hb2⟩ => ⟨s, t, he, hb2⟩
          clear bl3 hps hltb HQ HLH HX
          go_upto_region 11 with fail
          by_cases hE : (el, eh) = (lo0, hi0)
          · have hbf : restB ws ⟨A0, some ⟨bs, os, none⟩, d0, d1, ri, bo⟩ x t = false := by rw [HRB.out]; exact decide_eq_false (fun h => h hE)
            have e1 : lo0 = el := (congrArg Prod.fst hE).symm
            have e2 : hi0 = eh := (congrArg Prod.snd hE).symm
            subst e1 e2
            have HBF := Lib.hid hbf
            clear hbf hE
            refine wp_region_R (fun _ => true) ?_
            generalize w11.drew = X0 at *
            obtain ⟨s0, s1, s2, s3, s4⟩ := HS1.out
            have hfs := field_sup
            refine bT s0 0 rfl ?_; try go_frame
            refine bT s0 5 rfl ?_; try go_frame
            refine bP s1 s2 1 rfl ?_; try go_frame
            refine bP s3 s4 6 rfl ?_; try go_frame
            refine bF 2 rfl ?_; try go_frame
            refine bF 7 rfl ?_; try go_frame
            clear s0 s1 s2 s3 s4
            refine bR 3 rfl fun K hK => ?_
            go_simp
            refine (HP.out.1 X0 (Below.refl _ _)).mono ?_
            rintro e X1 ⟨s, s', rfl, hb⟩
            dsimp only
            refine hK.out _ _ (fun _ => hb) ?_
            clear hK
            refine bF 4 rfl ?_; try go_frame
            refine bR 8 rfl fun K hK => ?_
            go_simp
            refine (HP.out.2 X1 hb).mono ?_
            rintro e X2 ⟨s2, s2', rfl, hb2⟩
            dsimp only
            refine hK.out _ _ (fun _ => hb2) ?_
            have HB12 := Lib.hid (HD.out.trans ((hb.trans (hb2.mono hb.size)).mono HD.out.size))
            clear hK hb hb2
            refine bF 9 rfl ?_; try go_frame
            refine bF 10 rfl ?_; try go_frame
            refine bD ?_
            clear hfs
            go_wp2
            go_roundg ((outs ws).length - (t + 1))
            case measure => omega
            case rel => exact ⟨t + 1, by omega, by omega, by go_num, A2, c2, by rw [HO2.out HBF.out], by rw [HO2.out HBF.out]; exact (show _ ∧ _ from ⟨HA.out.1.trans (HB12.out.mono HA.out.1.size), HA.out.2.later HB12.out⟩)⟩
          · have hbf : restB ws ⟨A0, some ⟨bs, os, none⟩, d0, d1, ri, bo⟩ x t = true := by rw [HRB.out]; exact decide_eq_true hE
            have HBF := Lib.hid hbf
            clear hbf
            have hsplit : el ≠ lo0 ∨ (lo0 = el ∧ eh ≠ hi0) := by
              by_cases h1 : el = lo0
              · exact .inr ⟨h1.symm, fun h2 => hE (by rw [h1, h2])⟩
              · exact .inl h1
            clear hE
            have hrl2 : (restTo ws ⟨A0, some ⟨bs, os, none⟩, d0, d1, ri, bo⟩ x t).length ≤ 60 := by omega
            rcases hsplit with h1 | ⟨rfl, h2⟩ <;>
            · refine wp_region_R (fun _ => true) ?_
              generalize w11.drew = X0 at *
              obtain ⟨s0, s1, s2, s3, s4⟩ := HS1.out
              have hfs := field_sup
              refine bT s0 0 rfl ?_; try go_frame
              refine bT s0 5 rfl ?_; try go_frame
              refine bP s1 s2 1 rfl ?_; try go_frame
              refine bP s3 s4 6 rfl ?_; try go_frame
              refine bF 2 rfl ?_; try go_frame
              refine bF 7 rfl ?_; try go_frame
              clear s0 s1 s2 s3 s4
              refine bR 3 rfl fun K hK => ?_
              go_simp
              refine (HP.out.1 X0 (Below.refl _ _)).mono ?_
              rintro e X1 ⟨s, s', rfl, hb⟩
              dsimp only
              refine hK.out _ _ (fun _ => hb) ?_
              clear hK
              refine bF 4 rfl ?_; try go_frame
              refine bR 8 rfl fun K hK => ?_
              go_simp
              refine (HP.out.2 X1 hb).mono ?_
              rintro e X2 ⟨s2, s2', rfl, hb2⟩
              dsimp only
              refine hK.out _ _ (fun _ => hb2) ?_
              have HB12 := Lib.hid (HD.out.trans ((hb.trans (hb2.mono hb.size)).mono HD.out.size))
              clear hK hb hb2
              refine bF 9 rfl ?_; try go_frame
              refine bF 10 rfl ?_; try go_frame
              refine bD ?_
              clear hfs
              have iid : X2.cell? ⟨b4, o4 + t * 7, none⟩ = some (.int .i64 oid) := (HB12.out.cell (p := ⟨b4, o4 + t * 7, none⟩) H4.out.2).trans H4.out.1.1
              have hnew := World.news_of_block (cs := #[.int .i64 oid]) (t := 3) (fr := (0, 0)) (World.alloc_heap_new X2 (.cells #[.int .i64 oid] 3))
              have hbA := (Below.refl _ X2).alloc (Nat.le_refl _) (.cells #[.int .i64 oid] 3)
              have hown := (((HA.out.2.later HB12.out).later hbA)).row rfl
              have hbs : w3.heap.size ≤ (X2.alloc (.cells #[.int .i64 oid] 3)).heap.size := Nat.le_trans HA.out.1.size (Nat.le_trans HB12.out.size hbA.size)
              have HN := Lib.hid (And.intro hown (And.intro hnew (And.intro hbs hbA)))
              clear hown hnew hbs hbA
              go_wp2_with (at_builtin; refine wpList_append_own_at _ rfl _ _ 25 rfl w3.heap.size 3 i0 (.int .i64 0) 1 8 Try.underlying25 hi0' hz0 hz1 hz2 rfl (by decide) (.slice A2 (restTo ws ⟨A0, some ⟨bs, os, none⟩, d0, d1, ri, bo⟩ x t).length c2) (restTo ws ⟨A0, some ⟨bs, os, none⟩, d0, d1, ri, bo⟩ x t).length _ rfl HN.out.1 ⟨X2.heap.size, 0, none⟩ 1 1 [.int .i64 oid] rfl (by simp) HN.out.2.1 (by simp [Value.oneCell']) (by unfold maxLen; omega) (by omega) HN.out.2.2.1 ?_; intro v' w9 hown1 hgrow _ _; have hO9 := Own.of_row hown1 rfl; have HP9 := Lib.hid (And.intro hO9 hgrow); clear hO9 hown1 hgrow)
              obtain ⟨A', c', rfl⟩ := HP9.out.1.slice (n := (restTo ws ⟨A0, some ⟨bs, os, none⟩, d0, d1, ri, bo⟩ x t).length + 1) (by rw [List.length_append]; rfl)
              go_wp2
              go_roundg ((outs ws).length - (t + 1))
              case measure => omega
              case rel => exact ⟨t + 1, by omega, by omega, by go_num, A', c', by rw [HO.out HBF.out, List.length_append]; rfl, by rw [HO.out HBF.out, List.length_append]; exact (show _ ∧ _ from ⟨((HA.out.1.trans (HB12.out.mono HA.out.1.size)).trans (HN.out.2.2.2.mono (Nat.le_trans HA.out.1.size HB12.out.size))).grown HP9.out.2 (Nat.le_trans HA.out.1.size (Nat.le_trans HB12.out.size HN.out.2.2.2.size)) (fun k e => own_block HA.out.2 e), HP9.out.1⟩)⟩
      · have hltz : ¬ (t : Int) < ((outs ws).length : Int) := by omega
        obtain rfl : t = (outs ws).length := by omega
        obtain ⟨B2, d2, e2, rd2, fr2⟩ := HA.out.2.rd
        simp only [Value.slice.injEq, true_and] at e2
        obtain ⟨rfl, rfl⟩ := e2
        have HE := Lib.hid (And.intro rd2 (And.intro fr2 (And.intro (blk_on K2.out.1.2 HA.out.1) (K2.out.on HA.out.1).1.1.1.1.1)))
        clear rd2 fr2
        go_wp2_with (refine wpList_store_mid rfl 45 (.tmp 6) (.tmp 71) rfl (w.heap.size + 1 + 1) 0 _ rfl rfl (show World.there _ _ 0 2 from blk_there HE.out.2.2.1) (by kernel_rfl) (by simp [Value.oneCell']) ?_)
        have hBF := setCells_blk HE.out.2.2.1 [.slice A2 (restTo ws ⟨A0, A1, d0, d1, ri, bo⟩ x (outs ws).length).length c2, .int .i64 0] rfl
        exact bodyPost_ret (results_cell1 Try.results32 _ _ ⟨(w.heap.size + 1 + 1), 0, none⟩ _ (by rfl) (run_loadVar_mid _ _ 0 _ _ _ (blk_range hBF) Try.underlying45 rfl (by kernel_rfl))) rfl
          ⟨A2, ⟨c2, rfl⟩, HE.out.1.moved (HE.out.2.1.nb H2.out.2) (fun k hk => setCells_oth hk _ _ _) (by rw [setCells_size]; exact Nat.le_refl _), setCells_below (by omega) _ _ _ HE.out.2.2.2⟩
  · rw [if_neg h0] at hd2
    rw [hd2] at HC
    clear hd2
    have hre : restE ws ⟨A0, A1, d0, d1, ri, bo⟩ id = [] := by unfold restE; rw [if_neg h0]
    rw [hre]
    generalize askE ws ⟨A0, A1, d0, d1, ri, bo⟩ id = E at *
    have hz : (E != 0) = true := by simpa using h0
    clear h0 hre HS
    go_enter Try.func32, Try.ntmps32
    go_upto_region 1 with fail
    generalize ((w.alloc (.cells #[.slice A ws.length c] 24)).alloc (.cells #[.slice A0 ri.length d0, .slice A1 bo.length d1] 51)).alloc (.cells #[.slice none 0 0, .int .i64 0] 45) = W0 at *
    have p0 := cell_row (i := 0) K.out.1.1.1.1.2
    have p1 := cell_row (i := 0) K.out.1.1.1.2
    have p2 := cell_row (i := 1) K.out.1.1.1.2
    go_wp2_with first
      | (go_at_call 89; refine (HC.out _ K.out.1.1.2.1 K.out.1.1.2.2).mono ?_; rintro e w1 ⟨rfl, hb⟩; have K1 := Lib.hid (K.out.on hb); clear hb)
      | (refine wpList_store_mid rfl 45 (.tmp 6) (.tmp 23) rfl (w.heap.size + 1 + 1) 0 _ rfl rfl (show World.there _ _ 0 2 from blk_there K1.out.1.2) (by kernel_rfl) (by simp [Value.oneCell']) ?_)
    have hBF := setCells_blk K1.out.1.2 [.slice none 0 0, .int .i64 E] rfl
    exact bodyPost_ret (results_cell1 Try.results32 _ _ ⟨(w.heap.size + 1 + 1), 0, none⟩ _ (by rfl) (run_loadVar_mid _ _ 0 _ _ _ (blk_range hBF) Try.underlying45 rfl (by kernel_rfl))) rfl
      ⟨none, 0, rfl, Rd.nil, setCells_below (by omega) _ _ _ K1.out.1.1.1.1.1⟩
end Go.Proofs.Ytdadoelajhemjaa
