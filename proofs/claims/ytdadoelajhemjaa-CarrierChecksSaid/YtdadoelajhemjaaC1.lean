/- Walks: the specification's outlets. -/
import Derived.Test.YtdadoelajhemjaaM12
namespace Go.Proofs.Ytdadoelajhemjaa
open Go.RowKit Go.Shelf

theorem run_append_none {w : World} {t e ty : TypeId} {i : TypeInfo} (ht : Try.prog.underlying t = some (.slice e)) (hi : Try.prog.info? e = some i) (a : Option Addr) (n cap c : Nat) (hn : n ≤ cap) :
  (Builtin.append_ #[t, t] ty #[.slice a n cap, .slice none 0 c]).run Try.prog w = .ok (.slice a n cap) w := by
 cases a <;> simp [Builtin.append_, run_underlying ht, sizeOf, typeInfo, hi, Builtin.lenOf, Builtin.firstCells, loadCells, storeCells, hn]
/-- append(v, nil...). -/
theorem wpList_append_none {w : World} {ops : Array Oper} {rest : List Oper} {o : Oper} {a : Act} {Q : Exit → Act → World → Prop} (hgd : o.guard = none) (s x : Operand) (t : TypeId)
  (ho : o.op = .call { callee := .builtin .append, args := #[s, x], argTypes := #[t, t] }) (e : TypeId) (i : TypeInfo) (ht : Try.prog.underlying t = some (.slice e)) (hi : Try.prog.info? e = some i)
  (b : Option Addr) (n cap c : Nat) (hs : a.eval s = .slice b n cap) (hx : a.eval x = .slice none 0 c) (hn : n ≤ cap) (h : wpList Try.prog ops Q rest (a.put o.dst (.slice b n cap)) w) : wpList Try.prog ops Q (o :: rest) a w := by
 refine wpList_plain hgd fun K hK => ?_
 have hr := run_append_none (w := w) (ty := o.type) ht hi b n cap c hn
 unfold Oper.wp execOp
 simp only [ho, resolve, invoke, builtin, Sem.run_bind, Sem.run_pure, Result.andThen_ok, List.map_toArray, List.map_cons, List.map_nil, hs, hx, hr]
 exact hK _ _ h
theorem cellsO_get {l : List Ot} {j : Nat} {u : Value} (h : (cellsO l)[j]? = some u) : j / 7 < l.length ∧ (oAt l (j / 7)).cells[j % 7]? = some u := by
 have hl : j < l.length * 7 := by have := (List.getElem?_eq_some_iff.1 h).1; rwa [cellsO_length] at this
 have hd : j / 7 < l.length := by omega
 refine ⟨hd, ?_⟩
 rw [← cellsO_at l (j / 7) (j % 7) hd (by omega), show j / 7 * 7 + j % 7 = j by omega]
 exact h
theorem cellsO_one (l : List Ot) : ∀ u ∈ cellsO l, u.oneCell' = true := fun u hu => by
 unfold cellsO at hu
 obtain ⟨p, _, hp⟩ := List.mem_flatMap.1 hu
 simp only [Ot.cells, List.mem_cons, List.not_mem_nil, or_false] at hp
 rcases hp with rfl | rfl | rfl | rfl | rfl | rfl | rfl <;> rfl
theorem cellsO_append (l k : List Ot) : cellsO (l ++ k) = cellsO l ++ cellsO k := by simp [cellsO]
theorem OtAt.cell {w : World} {B b off : Nat} {o : Ot} (h : OtAt w B b off o) {k : Nat} {u : Value} (hu : o.cells[k]? = some u) : w.cell? ⟨b, off + k, none⟩ = some u := by
 match k, hu with
 | 0, hu => cases hu; exact h.c0
 | 1, hu => cases hu; exact h.c1
 | 2, hu => cases hu; exact h.c2
 | 3, hu => cases hu; exact h.c3
 | 4, hu => cases hu; exact h.c4
 | 5, hu => cases hu; exact h.c5
 | 6, hu => cases hu; exact h.c6
 | k + 7, hu => simp [Ot.cells] at hu
theorem outs_take_succ {ws : List Car} {t : Nat} (h : t < ws.length) : outs (ws.take (t + 1)) = outs (ws.take t) ++ (cAt ws t).os := by
 have h1 : cAt ws t = ws[t] := by simp [cAt, List.getD_eq_getElem?_getD, List.getElem?_eq_getElem h]
 unfold outs
 rw [← List.take_append_getElem h, List.flatMap_append, h1]
 simp only [List.flatMap_cons, List.flatMap_nil, List.append_nil]
/-- A slice of the call's own: its head, its room. -/
theorem OwnO.form {w : World} {base : Nat} {v : Value} {l : List Ot} (h : OwnO w base v l) : ∃ A c, v = .slice A l.length c ∧ l.length ≤ c ∧ ∀ k, v.ownBlock = some k → base ≤ k ∧ k < w.heap.size := by
 rcases h.2 with ⟨rfl, hn⟩ | ⟨g, cap, cur, rfl, hb, hg, hnc, _⟩
 ·exact ⟨none, 0, by rw [hn], by omega, fun k e => by cases e⟩
 ·exact ⟨_, _, rfl, hnc, fun k e => by cases e; exact ⟨hb, (Array.getElem?_eq_some_iff.1 hg).1⟩⟩
def outsTo (ws : List Car) (t : Nat) : List Ot := outs (ws.take t)
theorem outsTo_len (ws : List Car) (t : Nat) : (outsTo ws t).length = start ws t := rfl

set_option maxRecDepth 100000 in
set_option maxHeartbeats 1600000 in
theorem rOutlets_any (A : Option Addr) (c : Nat) (ws : List Car) (w : World) (h : Wk w A ws) :
  Calls Try.prog 90 #[.agg #[.slice A ws.length c]] w fun e w' => ∃ A' c', e = .returned (.slice A' (outs ws).length c') ∧ RdO w' w'.heap.size A' (outs ws) ∧ Fresh w.heap.size A' ∧ Below w.heap.size w w' := by
 obtain ⟨i0, hi0, hz0, hz1, hz2⟩ := info_parts info42
 have n1 := h.n1
 have n2 := h.n2
 have hb : Below w.heap.size w (w.alloc (.cells #[.slice A ws.length c] 24)) := (Below.refl _ w).alloc (Nat.le_refl _) _
 have K := Lib.hid (((stays_bl hb).and (stays_blk (blk_new w #[.slice A ws.length c] 24 rfl))).and (stays_wk (h.ext hb)))
 have hs1 : (w.alloc (.cells #[.slice A ws.length c] 24)).heap.size = w.heap.size + 1 := by simp
 have HS := Lib.hid hs1
 clear hb h hs1
 go_enter Try.func90, Try.ntmps90
 go_upto_region 3 with fail
 generalize w.alloc (.cells #[.slice A ws.length c] 24) = W1 at *
 go_loopg [3, 4] ws.length (fun gg out i wr => ∃ t : Nat, t ≤ ws.length ∧ ws.length - t ≤ gg ∧ i = .int .i64 t ∧ Aside (Below W1.heap.size W1 wr ∧ OwnO wr W1.heap.size out (outsTo ws t)))
 case atStart => exact ⟨0, Nat.zero_le _, by omega, rfl, Below.refl _ _, World.ownsRow_nil _ _ _ _⟩
 case round =>
  rename_i out
  obtain ⟨t, hlt0, hgg, rfl, hA⟩ := hrel
  have HA := Lib.hid hA.out
  clear hA
  obtain ⟨A2, c2, rfl, hc2, hob⟩ := HA.out.2.form
  have p0 := cr 0 (K.out.on HA.out.1).1.1.2
  by_cases hlt : t < ws.length
  ·have hltz : (t : Int) < (ws.length : Int) := by omega
   have hls := start_succ hlt
   have hlm : start ws (t + 1) ≤ (outs ws).length := by rw [← start_all]; exact start_mono hlt (Nat.le_refl _)
   obtain ⟨b, off, rfl, hbl, hcs⟩ := (K.out.on HA.out.1).1.2.rd (by omega)
   have p1 := (hcs t hlt).1
   have HO := Lib.hid (hcs t hlt).2
   have HL := hd2 hls hlm
   have HB := hd2 hc2 hob
   clear hcs hls hlm hc2 hob
   rw [outsTo_len] at HB ⊢
   cases hAo : (cAt ws t).A with
   | none =>
    have h0 : (cAt ws t).os = [] := by
     cases e : (cAt ws t).os with
     | nil => rfl
     | cons x r => obtain ⟨b, o, e', _⟩ := HO.out (by rw [e]; simp); rw [hAo] at e'; cases e'
    rw [hAo, h0] at p1
    have H0 := Lib.hid h0
    clear h0 hAo
    dsimp only [List.length_nil] at p1
    go_wp2_with (at_builtin; refine wpList_append_none rfl _ _ 36 rfl 42 i0 Try.underlying36 hi0 _ _ _ _ rfl rfl HB.out.1 ?_)
    go_roundg (ws.length - (t + 1))
    case measure => omega
    case rel => exact ⟨t + 1, by omega, by omega, by go_num, (show _ ∧ _ from ⟨HA.out.1, by
     unfold outsTo
     rw [outs_take_succ hlt, H0.out, List.append_nil]
     exact HA.out.2⟩)⟩
   | some ad =>
    rw [hAo] at p1
    have hO2 : RdO wr wr.heap.size (some ad) (cAt ws t).os := by have := HO.out; rwa [hAo] at this
    have HO2 := Lib.hid hO2
    clear hAo hO2
    go_wp2_with (at_builtin; refine wpList_append_own_at _ rfl _ _ 36 rfl W1.heap.size 42 i0 (.agg #[.int .i64 0, .int .i64 0, .slice none 0 0, .int .i64 0, .int .i64 0, .int .i64 0, .int .i64 0]) 7 72 Try.underlying36 hi0 hz0 hz1 hz2 rfl (by decide) (.slice A2 (start ws t) c2) (start ws t) (cellsO (outsTo ws t)) rfl HA.out.2 ad (cAt ws t).os.length (cAt ws t).c (cellsO (cAt ws t).os) rfl (cellsO_length _) ?c2 (cellsO_one _) ?c3 ?c4 ?c5 ?_)
    case c2 =>
     intro j u hj
     obtain ⟨hd, hu⟩ := cellsO_get hj
     obtain ⟨b2, o2, e, _, hc⟩ := HO2.out (by omega)
     cases e
     rw [add_eq, show o2 + j = o2 + j / 7 * 7 + j % 7 by omega]
     exact (hc _ hd).cell hu
    case c3 => have := HL.out; unfold maxLen; omega
    case c4 => have := HL.out; omega
    case c5 => exact HA.out.1.size
    intro v' w' hown hgrow _ _
    have hO' : OwnO w' W1.heap.size v' (outsTo ws (t + 1)) := by
     have e1 : outsTo ws (t + 1) = outsTo ws t ++ (cAt ws t).os := outs_take_succ hlt
     unfold OwnO
     rw [e1, List.length_append, cellsO_append]
     exact hown
    have hb' : Below W1.heap.size W1 w' := HA.out.1.grown hgrow HA.out.1.size (fun k e => (HB.out.2 k e).1)
    have HP := hd2 hb' hO'
    clear hown hgrow hb' hO' p0 p1
    go_wp2
    go_roundg (ws.length - (t + 1))
    case measure => omega
    case rel => exact ⟨t + 1, by omega, by omega, by go_num, HP.out⟩
  ·have hltz : ¬ (t : Int) < (ws.length : Int) := by omega
   obtain rfl : t = ws.length := by omega
   have e1 : outsTo ws ws.length = outs ws := by unfold outsTo; rw [List.take_length]
   have hO := HA.out.2
   rw [e1] at hO ⊢
   obtain ⟨A3, c3, e3, hr, hf⟩ := hO.rd (B := wr.heap.size) (fun i hi => (K.out.on HA.out.1).1.2.rd.passes hi) (fun k e => (hob k (by rw [e1]; exact e)).2)
   cases e3
   have HR := hd3 hr (hf.mono (by rw [HS.out]; omega : w.heap.size ≤ W1.heap.size)) (K.out.on HA.out.1).1.1.1
   clear hr hf hO HA hc2 hob e1
   go_wp2
   go_ret
   exact ⟨A2, ⟨c2, rfl⟩, HR.out.1, HR.out.2.1, HR.out.2.2⟩
end Go.Proofs.Ytdadoelajhemjaa
