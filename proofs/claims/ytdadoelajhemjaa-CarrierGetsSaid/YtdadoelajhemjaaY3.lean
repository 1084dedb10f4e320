/- Plain: what Open and Send find; what a lower board, and more of the river, gives. The contracts of boarded, given and flowing together. -/
import Derived.Test.YtdadoelajhemjaaY2
import Derived.Test.YtdadoelajhemjaaP7
namespace Go.Proofs.Ytdadoelajhemjaa
open Go.RowKit Go.Shelf

theorem water_of_ok2 {ws : List Car} {s : Wt} (k : Ok ws s) : waterE ws s = 0 := by
 have h0 : wB0 ws s = true := allB_iff.2 ⟨k.l0, fun i hi => within_iff.2 (k.r0 i hi)⟩
 have h1 : wB1 ws s = true := allB_iff.2 ⟨k.l1, fun i hi => within_iff.2 (k.r1 i (by rw [← k.l1]; exact hi))⟩
 have h2 : wB2 ws s = true := allB_iff.2 ⟨k.l2, fun i hi => within_iff.2 (k.r2 i (by rw [← k.l2]; exact hi))⟩
 have h3 : wB3 ws s = true := allB_iff.2 ⟨k.l3, fun i hi => within_iff.2 (k.r3 i (by rw [← k.l3]; exact hi))⟩
 unfold waterE waterB
 rw [if_pos (by rw [h0, h1, h2, h3]; rfl)]
theorem cw_of_ok {ws : List Car} {s : Wt} (hc : checkE ws = 0) (ok : Ok ws s) : cwE ws s = 0 := by
 unfold cwE
 rw [if_pos hc]
 exact water_of_ok2 ok
theorem brd_ok {ws : List Car} {s s' : Wt} {x : Nat} {v : Int} (h : s'.ri = s.ri ∧ s'.bo = s.bo.set x v ∧ s'.lk = s.lk ∧ s'.lo = s.lo) (ok : Ok ws (brdW s x v)) : Ok ws s' ∧ flowF ws s' = flowF ws (brdW s x v) := by
 obtain ⟨h0, h1, h2, h3⟩ := h
 refine ⟨⟨by rw [h0]; exact ok.l0, by rw [h1]; exact ok.l1, by rw [h2]; exact ok.l2, by rw [h3]; exact ok.l3, by rw [h0]; exact ok.r0, by rw [h1]; exact ok.r1, by rw [h2]; exact ok.r2, by rw [h3]; exact ok.r3⟩, flowF_congr h0 h1 h2 h3⟩
theorem nth_ext {a b : List Int} (hl : a.length = b.length) (h : ∀ i, i < a.length → nth a i = nth b i) : a = b := by
 refine List.ext_getElem hl (fun i h1 h2 => ?_)
 have := h i h1
 unfold nth at this
 rwa [List.getD_eq_getElem?_getD, List.getD_eq_getElem?_getD, List.getElem?_eq_getElem h1, List.getElem?_eq_getElem h2] at this
/-- The head that has a sign is one. -/
theorem givL_set {ws : List Car} {s : Wt} (ok : Ok ws s) {x k : Nat} (hk : k < (headsTo ws ws.length).length) (he : (headsTo ws ws.length).getD k 0 = caAt ws (headOf ws x)) (v : Int) : givL (rivS ws x) s.ri v = s.ri.set k v := by
 have hl : (givL (rivS ws x) s.ri v).length = s.ri.length := by simp [givL]
 refine nth_ext (by rw [hl, List.length_set]) (fun i hi => ?_)
 rw [hl] at hi
 have hi2 : i < (headsTo ws ws.length).length := by rw [← ok.l0]; exact hi
 rw [nth_set v hi]
 unfold givL
 rw [nth_range _ hi]
 unfold givF put
 rw [riv_at hi2]
 by_cases e : i = k
 ·subst e
  rw [if_pos he, if_pos ⟨hi, rfl⟩, if_pos rfl]
 ·rw [if_neg e]
  have hne : ¬ (headsTo ws ws.length).getD i 0 = caAt ws (headOf ws x) := fun h => e (heads_one hi2 hk (h.trans he.symm))
  rw [if_neg hne]
  exact if_neg (fun h => absurd h.2 (by decide))
theorem giv_ok {ws : List Car} {s s' : Wt} {x k : Nat} {v : Int} (ok : Ok ws s) (hk : k < (headsTo ws ws.length).length) (he : (headsTo ws ws.length).getD k 0 = caAt ws (headOf ws x)) (h : s'.ri = givL (rivS ws x) s.ri v ∧ s'.bo = s.bo ∧ s'.lk = s.lk ∧ s'.lo = s.lo) (okg : Ok ws (givW s k v)) : Ok ws s' ∧ flowF ws s' = flowF ws (givW s k v) := by
 obtain ⟨h0, h1, h2, h3⟩ := h
 rw [givL_set ok hk he] at h0
 refine ⟨⟨by rw [h0]; exact okg.l0, by rw [h1]; exact okg.l1, by rw [h2]; exact okg.l2, by rw [h3]; exact okg.l3, by rw [h0]; exact okg.r0, by rw [h1]; exact okg.r1, by rw [h2]; exact okg.r2, by rw [h3]; exact okg.r3⟩, flowF_congr h0 h1 h2 h3⟩
/-- What CarrierGets goes by of Open's answer. -/
def GetO (ws : List Car) (s : Wt) (x : Nat) (want a E : Int) : Prop := E ≠ 0 ∨ E = 0 ∧ (0 ≤ a ∧ a ≤ ((oAt (outs ws) x).ps.length : Int) - 1) ∧ want ≤ flowF ws (brdW s x a) x ∧ (0 < a → flowF ws (brdW s x (a - 1)) x < want)
theorem getO_of {ws : List Car} {s : Wt} {id want : Int} {x : Nat} (hx : idxO ws id = some x) {e : Ending} (h : OpenR ws s id want e) : ∃ a E : Int, e = .returned (.tuple #[.int .i64 a, .int .i64 E]) ∧ GetO ws s x want a E := by
 rcases h with ⟨hn, h⟩ | ⟨_, y, hy, ⟨_, h⟩ | ⟨r, r0, r1, rt, rl, h⟩⟩
 ·exact ⟨_, _, h, .inl hn⟩
 ·exact ⟨_, _, h, .inl (by decide)⟩
 ·obtain rfl : x = y := Option.some.inj (hx.symm.trans hy)
  refine ⟨_, _, h, .inr ⟨rfl, ⟨r0, r1⟩, ?_, fun hr => ?_⟩⟩
  ·unfold openP at rt
   exact of_decide_eq_true rt
  ·have := rl (r - 1) (by omega) (by omega)
   unfold openP at this
   have := of_decide_eq_false this
   omega
/-- .. of Send's answer, k the head. -/
def GetS (ws : List Car) (s : Wt) (x k : Nat) (want a E : Int) : Prop := E ≠ 0 ∨ E = 0 ∧ (0 ≤ a ∧ a ≤ 1048576) ∧ (∀ b, a ≤ b → b ≤ 1048576 → want ≤ flowF ws (givW s k b) x) ∧ (0 < a → flowF ws (givW s k (a - 1)) x < want)
theorem getS_of {ws : List Car} {s : Wt} (g : Good ws) (ok : Ok ws s) {id want : Int} {x k : Nat} (hx : idxO ws id = some x) (hk : k < (headsTo ws ws.length).length) (he : (headsTo ws ws.length).getD k 0 = caAt ws (headOf ws x)) {e : Ending} (h : SendR ws s id want e) : ∃ a E : Int, e = .returned (.tuple #[.int .i64 a, .int .i64 E]) ∧ GetS ws s x k want a E := by
 rcases h with ⟨hn, h⟩ | ⟨_, y, k', hy, hk', he', ⟨_, h⟩ | ⟨r, r0, r1, rt, rl, h⟩⟩
 ·exact ⟨_, _, h, .inl hn⟩
 ·exact ⟨_, _, h, .inl (by decide)⟩
 ·obtain rfl : x = y := Option.some.inj (hx.symm.trans hy)
  obtain rfl : k = k' := heads_one hk hk' (he.trans he'.symm)
  refine ⟨_, _, h, .inr ⟨rfl, ⟨r0, r1⟩, fun b hb hb1 => ?_, fun hr => ?_⟩⟩
  ·have := send_mono g ok (idxO_some hx).1 hk he want r b r0 hb hb1 rt
   unfold sendP at this
   exact of_decide_eq_true this
  ·have := rl (r - 1) (by omega) (by omega)
   unfold sendP at this
   have := of_decide_eq_false this
   omega
/-- With the lowest board the outlet gets no more. -/
theorem less_board {ws : List Car} {s : Wt} (g : Good ws) (ok : Ok ws s) {x : Nat} (hx : x < (outs ws).length) : flowF ws (brdW s x 0) x ≤ flowF ws s x := by
 have hf := (g.fine hx).n
 have h := ok.r1 x hx
 refine mono_flow g (brdW_ok ok hx (Int.le_refl _) (by omega)) ok hx ⟨fun _ _ => Int.le_refl _, fun y hy => ?_, fun _ _ => Int.le_refl _, fun _ _ => Int.le_refl _⟩
 show hatV ws x y * nth (s.bo.set x 0) y ≤ hatV ws x y * nth s.bo y
 rw [nth_set 0 (by rw [ok.l1]; exact hy)]
 unfold put
 by_cases e : y = x
 ·subst e
  rw [if_pos rfl, hat_self g]
  omega
 ·rw [if_neg e]; exact Int.le_refl _
/-- .. those behind it on its carrier no less. -/
theorem behind_more {ws : List Car} {s : Wt} (g : Good ws) (ok : Ok ws s) {x k : Nat} (hx : x < (outs ws).length) (hk : k < (outs ws).length) (hc : caAt ws x = caAt ws k) (hxk : x < k) : flowF ws s k ≤ flowF ws (brdW s x 0) k := by
 have hf := (g.fine hx).n
 have h := ok.r1 x hx
 refine mono_flow g ok (brdW_ok ok hx (Int.le_refl _) (by omega)) hk ⟨fun _ _ => Int.le_refl _, fun y hy => ?_, fun _ _ => Int.le_refl _, fun _ _ => Int.le_refl _⟩
 show hatV ws k y * nth s.bo y ≤ hatV ws k y * nth (s.bo.set x 0) y
 rw [nth_set 0 (by rw [ok.l1]; exact hy)]
 unfold put
 by_cases e : y = x
 ·subst e
  rw [if_pos rfl, (hat_on g (upList_self g k) hc).1, if_neg (by omega)]
  split <;> omega
 ·rw [if_neg e]; exact Int.le_refl _
theorem brd_calls (A : Option Addr) (c : Nat) (ws : List Car) (s : Wt) (x : Nat) (v : Int) (W : World) (hch : checkE ws = 0) (ok : Ok ws s) (hx : x < (outs ws).length) (h0 : 0 ≤ v) (h1 : v ≤ ((oAt (outs ws) x).ps.length : Int) - 1) (hs : Wet W s) :
  Calls Try.prog 41 #[s.v, .int .i64 (x : Int), .int .i64 v] W fun e w' => ∃ s' : Wt, e = .returned s'.v ∧ Wet w' s' ∧ (∀ Y, Wk Y A ws → Wet Y s' → Calls Try.prog 40 #[.agg #[.slice A ws.length c], s'.v, .int .i64 (x : Int)] Y fun e w' => e = .returned (.int .i64 (flowF ws (brdW s x v) x)) ∧ Below Y.heap.size Y w') ∧ (cwE ws s' = 0 ∧ flowF ws s' = flowF ws (brdW s x v)) ∧ Below W.heap.size W w' := by
 refine (boarded_any s x v W hs (by rw [ok.l1]; exact hx)).mono (fun e w' h => ?_)
 obtain ⟨s', rfl, hw, he, hb⟩ := h
 obtain ⟨ok', hf⟩ := brd_ok he (brdW_ok ok hx h0 h1)
 have hc := cw_of_ok hch ok'
 exact ⟨s', rfl, hw, fun Y hk hY => by rw [← hf]; exact flowing_any A c ws s' x Y hk hY hc hx, ⟨hc, hf⟩, hb⟩
theorem giv_calls (A : Option Addr) (c : Nat) (ws : List Car) (s : Wt) (x k : Nat) (v : Int) (B : Option Addr) (d : Nat) (W : World) (hch : checkE ws = 0) (ok : Ok ws s) (hx : x < (outs ws).length) (hk : k < (headsTo ws ws.length).length) (he : (headsTo ws ws.length).getD k 0 = caAt ws (headOf ws x)) (h0 : 0 ≤ v) (h1 : v ≤ 1048576) (hs : Wet W s) (hr : Rd W W.heap.size B (rivS ws x)) :
  Calls Try.prog 42 #[s.v, .slice B s.ri.length d, .int .i64 v] W fun e w' => ∃ s' : Wt, e = .returned s'.v ∧ Wet w' s' ∧ (∀ Y, Wk Y A ws → Wet Y s' → Calls Try.prog 40 #[.agg #[.slice A ws.length c], s'.v, .int .i64 (x : Int)] Y fun e w' => e = .returned (.int .i64 (flowF ws (givW s k v) x)) ∧ Below Y.heap.size Y w') ∧ Below W.heap.size W w' := by
 refine (given_any s B d (rivS ws x) v W hs hr (by rw [ok.l0]; exact rivTo_length (Nat.le_refl _)) (by rw [ok.l0]; omega)).mono (fun e w' h => ?_)
 obtain ⟨s', rfl, hw, he', hb⟩ := h
 obtain ⟨ok', hf⟩ := giv_ok ok hk he he' (givW_ok (k := k) ok h0 h1)
 have hc := cw_of_ok hch ok'
 exact ⟨s', rfl, hw, fun Y hk hY => by rw [← hf]; exact flowing_any A c ws s' x Y hk hY hc hx, hb⟩
end Go.Proofs.Ytdadoelajhemjaa
