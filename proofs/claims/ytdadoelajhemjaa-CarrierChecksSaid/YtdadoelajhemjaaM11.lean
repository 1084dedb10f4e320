/- Walks: Index; the closure of Send. | Walks: Send. -/
import Derived.Test.YtdadoelajhemjaaM10
namespace Go.Proofs.Ytdadoelajhemjaa
open Go.RowKit Go.Shelf

/-- The head of a way is no fed carrier. -/
theorem head_unfed {ws : List Car} (g : Good ws) : ∀ (c x : Nat), caAt ws x = c → upO ws (caAt ws (headOf ws x) : Int) = none := by
 intro c
 induction c using Nat.strongRecOn with
 | _ c ih =>
  intro x hx
  rcases upList_cases g x with ⟨hn, e⟩ | ⟨y, hu, e⟩
  ·have h1 := head_of_none g _ x rfl x (upList_self g x) hn
   rw [h1]; exact hn
  ·have h1 := (up_lower g hu).2
   have h2 := ih (caAt ws y) (by omega) y rfl
   have h3 : headOf ws x = headOf ws y := by
    unfold headOf pathN
    have hp := pathN_pos g y
    unfold pathN at hp
    rw [e, List.reverse_cons, List.getD_eq_getElem?_getD, List.getElem?_append_left hp, ← List.getD_eq_getElem?_getD]
   rw [h3]; exact h2
theorem pathN_in {ws : List Car} (g : Good ws) {x : Nat} (hx : x < (outs ws).length) : headOf ws x < (outs ws).length := pathN_at g hx (pathN_pos g x)
/-- The number of the head that gives an outlet its water. -/
theorem head_num {ws : List Car} (g : Good ws) {x : Nat} (hx : x < (outs ws).length) : ∃ k, k < (headsTo ws ws.length).length ∧ (headsTo ws ws.length).getD k 0 = caAt ws (headOf ws x) := by
 rcases head_or_fed ws (caAt_lt (pathN_in g hx)) with ⟨k, h1, h2, _⟩ | ⟨y, hy⟩
 ·exact ⟨k, h1, h2⟩
 ·rw [head_unfed g _ x rfl] at hy; cases hy

set_option maxRecDepth 100000 in
set_option maxHeartbeats 400000 in
theorem index_any (A : Option Addr) (c : Nat) (xs : List Int) (v : Int) (k : Nat) (w : World) (h : Rd w w.heap.size A xs) (hm : xs.length ≤ 1000) (hk : k < xs.length) (hv : nth xs k = v) (hn : ∀ j, j < k → nth xs j ≠ v) :
  Calls Try.prog 97 #[.slice A xs.length c, .int .i64 v] w fun e w' => e = .returned (.int .i64 (k : Int)) ∧ w' = w := by
 obtain ⟨b, off, rfl, lb, hc⟩ := h (by omega)
 have HN := hd2 hv hn
 clear hv hn
 go_enter Try.func97, Try.ntmps97
 go_wp2
 go_loopg [5, 8] xs.length (fun gg _ i wr => ∃ t : Nat, t ≤ k ∧ xs.length - t ≤ gg ∧ i = .int .i64 t ∧ Aside (wr = w))
 case atStart => exact ⟨0, Nat.zero_le _, by omega, rfl, rfl⟩
 case round =>
  obtain ⟨t, ht, hgg, rfl, hA⟩ := hrel
  obtain rfl := hA.out
  clear hA
  have hltz : (t : Int) < (xs.length : Int) := by omega
  have k1 := hc t (by omega)
  by_cases e : t = k
  ·subst e
   have HE := Lib.hid HN.out.1
   have heq : (v == nth xs t) = true := by rw [HN.out.1]; simp
   go_wp2
   go_ret
   exact ⟨rfl, rfl⟩
  ·have hne := HN.out.2 t (by omega)
   have heq : (v == nth xs t) = false := by simpa using Ne.symm hne
   go_wp2
   go_roundg (xs.length - (t + 1))
   case measure => omega
   case rel => exact ⟨t + 1, by omega, by omega, by go_num, rfl⟩

def sendP (ws : List Car) (s : Wt) (x k : Nat) (want n : Int) : Bool := decide (want ≤ flowF ws (givW s k n) x)
set_option maxRecDepth 100000 in
set_option maxHeartbeats 800000 in
theorem send1_any (w0 : World) (A : Option Addr) (c : Nat) (ws : List Car) (A1 A2 A3 : Option Addr) (c0 c1 c2 c3 : Nat) (ri bo lk lo : List Int) (x k : Nat) (want : Int) (gs gp gw gn gb : Nat) (gh : Nat)
  (hW : Wk w0 A ws) (g : Good ws) (hx : x < (outs ws).length) (hk : k < ri.length) (hw0 : Rd w0 w0.heap.size A1 bo) (hw2 : Rd w0 w0.heap.size A2 lk) (hw3 : Rd w0 w0.heap.size A3 lo) (ok : Ok ws ⟨some ⟨gb, 0, none⟩, A1, A2, A3, c0, c1, c2, c3, ri, bo, lk, lo⟩) (n : Int) (h0 : 0 ≤ n) (h1 : n ≤ 1048576)
  (W : World) (hI : OpI w0 A c ws.length ⟨some ⟨gb, 0, none⟩, A1, A2, A3, c0, c1, c2, c3, ri, bo, lk, lo⟩ x (caAt ws x) (atAt ws x) want gs gp gw gn gh gb #[.int .i64 (k : Int)] 3 ri.length (nth ri) k W) :
  Calls Try.prog 100 #[.int .i64 n, .pointer (some ⟨gs, 0, none⟩), .pointer (some ⟨gh, 0, none⟩), .pointer (some ⟨gw, 0, none⟩), .pointer (some ⟨gp, 0, none⟩), .pointer (some ⟨gn, 0, none⟩)] W fun e w' => e = .returned (.bool (sendP ws ⟨some ⟨gb, 0, none⟩, A1, A2, A3, c0, c1, c2, c3, ri, bo, lk, lo⟩ x k want n)) ∧
   OpI w0 A c ws.length ⟨some ⟨gb, 0, none⟩, A1, A2, A3, c0, c1, c2, c3, ri, bo, lk, lo⟩ x (caAt ws x) (atAt ws x) want gs gp gw gn gh gb #[.int .i64 (k : Int)] 3 ri.length (nth ri) k w' := by
 have hlb : bo.length = (outs ws).length := ok.l1
 have hlr : ri.length ≤ 16 := by have h : ri.length = _ := ok.l0; have := headsTo_le ws ws.length; have := g.n1; omega
 have hN6 := g.n2
 have hl2 : lk.length = (outs ws).length := ok.l2
 have hl3 : lo.length = (outs ws).length := ok.l3
 have hltz : (k : Int) < (ri.length : Int) := by omega
 have hx60 : x < 60 := by omega
 have hI1 := hI.set (by omega) n
 have hrd := OpI.rd hI (by omega) n
 have hok := givW_ok (k := k) ok h0 h1
 have k1 : W.cell? ⟨gs, 0, none⟩ = some (.slice (some ⟨gb, 0, none⟩) ri.length c0) := cell_row hI.ks
 have k2 : W.cell? ⟨gh, 0, none⟩ = some (.int .i64 (k : Int)) := cell_row hI.kh
 obtain ⟨f, hf1, hf2⟩ := hI.kb
 have k3 := hf1.at_ k (by omega)
 have f3 := hf1.fz k
 have HA := hd12 hI1 hrd hok hW g hw0 hw2 hw3 hlr hl2 hl3 hlb
 clear hI1 hrd hok hW hw0 hw2 hw3 hf1 hf2 hI ok hlb hlr hl2 hl3
 have hd : sendP ws ⟨some ⟨gb, 0, none⟩, A1, A2, A3, c0, c1, c2, c3, ri, bo, lk, lo⟩ x k want n = decide (want ≤ flowF ws (givW ⟨some ⟨gb, 0, none⟩, A1, A2, A3, c0, c1, c2, c3, ri, bo, lk, lo⟩ k n) x) := rfl
 rw [hd]
 clear hd
 go_enter Try.func100, Try.ntmps100
 go_upto_region 2 with fail
 generalize W.setCell ⟨gb, k, none⟩ (.int .i64 n) = W1 at *
 have s0 : opS gs gp gw gn (.slice A ws.length c) (.int .i64 (x : Int)) (.int .i64 want) (.slice (some ⟨gb, 0, none⟩) ri.length c0) (.slice A1 bo.length c1) (.slice A2 lk.length c2) (.slice A3 lo.length c3) 0 W1.drew := cell_row HA.out.1.kw
 have s1 : opS gs gp gw gn (.slice A ws.length c) (.int .i64 (x : Int)) (.int .i64 want) (.slice (some ⟨gb, 0, none⟩) ri.length c0) (.slice A1 bo.length c1) (.slice A2 lk.length c2) (.slice A3 lo.length c3) 1 W1.drew := cell_row HA.out.1.kp
 have s2 : opS gs gp gw gn (.slice A ws.length c) (.int .i64 (x : Int)) (.int .i64 want) (.slice (some ⟨gb, 0, none⟩) ri.length c0) (.slice A1 bo.length c1) (.slice A2 lk.length c2) (.slice A3 lo.length c3) 2 W1.drew := cell_row HA.out.1.kn
 have s3 : opS gs gp gw gn (.slice A ws.length c) (.int .i64 (x : Int)) (.int .i64 want) (.slice (some ⟨gb, 0, none⟩) ri.length c0) (.slice A1 bo.length c1) (.slice A2 lk.length c2) (.slice A3 lo.length c3) 3 W1.drew := ⟨cr 0 HA.out.1.ks, cr 1 HA.out.1.ks, cr 2 HA.out.1.ks, cr 3 HA.out.1.ks⟩
 have hfl : Calls Try.prog 79 #[.agg #[.slice A ws.length c], .agg #[.slice (some ⟨gb, 0, none⟩) ri.length c0, .slice A1 bo.length c1, .slice A2 lk.length c2, .slice A3 lo.length c3]] W1.drew fun e w' => e = .returned (flV (flowF ws (givW ⟨some ⟨gb, 0, none⟩, A1, A2, A3, c0, c1, c2, c3, ri, bo, lk, lo⟩ k n))) ∧ Below W1.drew.heap.size W1.drew w' := by
  obtain ⟨hI1, hrd, hok, hW, g, hw0, hw2, hw3, hlr, hl2, hl3, hlb⟩ := HA.out
  have hb := hI1.bl.drew
  have hd := (Below.refl W1.heap.size W1).drew
  have h2 := flow_any A c ws (givW ⟨some ⟨gb, 0, none⟩, A1, A2, A3, c0, c1, c2, c3, ri, bo, lk, lo⟩ k n) W1.drew (hW.ext hb) g ⟨hrd.ext hd, hw0.ext hb, hw2.ext hb, hw3.ext hb, by show (ri.set k n).length ≤ 1000; rw [List.length_set]; omega, by show bo.length ≤ 1000; omega, by show lk.length ≤ 1000; omega, by show lo.length ≤ 1000; omega⟩ hok
  unfold Wt.v givW at h2
  dsimp only at h2
  rw [List.length_set] at h2
  exact h2
 have hI2 : OpI w0 A c ws.length ⟨some ⟨gb, 0, none⟩, A1, A2, A3, c0, c1, c2, c3, ri, bo, lk, lo⟩ x (caAt ws x) (atAt ws x) want gs gp gw gn gh gb #[.int .i64 (k : Int)] 3 ri.length (nth ri) k W1.drew := HA.out.1.below ((Below.refl _ _).drew)
 have HF := hd2 hfl hI2
 have hft := field_through
 have hit := fun (f : Nat → Int) => index_through f x hx60
 generalize hs' : givW ⟨some ⟨gb, 0, none⟩, A1, A2, A3, c0, c1, c2, c3, ri, bo, lk, lo⟩ k n = s' at *
 have HS' := Lib.hid hs'
 clear hs'
 clear hfl hI2 k1 k2 k3 f3 HA
 refine wp_region_K (by kernel_rfl) (opS gs gp gw gn (.slice A ws.length c) (.int .i64 (x : Int)) (.int .i64 want) (.slice (some ⟨gb, 0, none⟩) ri.length c0) (.slice A1 bo.length c1) (.slice A2 lk.length c2) (.slice A3 lo.length c3)) (fun _ _ => true) ?_
 generalize W1.drew = X0 at *
 refine kT 0 0 rfl ?_
 refine kT 3 1 rfl ?_
 refine kT 0 4 rfl ?_
 refine kT 1 5 rfl ?_
 refine kT 2 7 rfl ?_
 clear s1 s2 s3
 refine kR 2 rfl fun K hK => ?_
 go_simp
 refine HF.out.1.mono ?_
 rintro e X1 ⟨rfl, hb⟩
 dsimp only
 refine hK.out _ _ (fun k _ h => opS_below hb k h) ?_
 have s0a := opS_below hb 0 s0
 have HE := Lib.hid (HF.out.2.below hb)
 clear hK hb s0
 refine kT 0 3 rfl ?_
 refine kT 0 6 rfl ?_
 refine kT 0 8 rfl ?_
 refine kT 0 9 rfl ?_
 clear s0a
 refine kD ?_
 go_wp2
 go_ret
 have hs' := HS'.out
 subst hs'
 exact ⟨rfl, HE.out⟩
end Go.Proofs.Ytdadoelajhemjaa
namespace Go.Proofs.Ytdadoelajhemjaa
open Go.RowKit Go.Shelf

set_option maxRecDepth 100000 in
theorem eg_send1 : ∀ args w, (callFunc 100 args).run Try.prog w = .ok (.enter 100 args) w := fun _ _ => by rfl
theorem sendP_congr {ws : List Car} {s t : Wt} (h0 : s.ri = t.ri) (h1 : s.bo = t.bo) (h2 : s.lk = t.lk) (h3 : s.lo = t.lo) (x k : Nat) (want n : Int) : sendP ws s x k want n = sendP ws t x k want n := by
 unfold sendP
 rw [flowF_congr (s := givW s k n) (t := givW t k n) (by unfold givW; dsimp only; rw [h0]) h1 h2 h3]
theorem send_up {ws : List Car} {s : Wt} (ok : Ok ws s) {x k : Nat} (hk : k < (headsTo ws ws.length).length) (he : (headsTo ws ws.length).getD k 0 = caAt ws (headOf ws x)) {i j : Int} (hij : i ≤ j) : Up ws x (givW s k i) (givW s k j) := by
 refine ⟨fun y hy => ?_, fun _ _ => Int.le_refl _, fun _ _ => Int.le_refl _, fun _ _ => Int.le_refl _⟩
 have hy2 : y < s.ri.length := by rw [ok.l0]; exact hy
 show nth (rivS ws x) y * nth (s.ri.set k i) y ≤ nth (rivS ws x) y * nth (s.ri.set k j) y
 rw [nth_set i hy2, nth_set j hy2]
 unfold put
 by_cases e : y = k
 ·subst e
  rw [if_pos rfl, if_pos rfl, riv_at hy, if_pos he]
  omega
 ·rw [if_neg e, if_neg e]; exact Int.le_refl _
theorem send_mono {ws : List Car} {s : Wt} (g : Good ws) (ok : Ok ws s) {x k : Nat} (hx : x < (outs ws).length) (hk : k < (headsTo ws ws.length).length) (he : (headsTo ws ws.length).getD k 0 = caAt ws (headOf ws x)) (want : Int) : ∀ i j, 0 ≤ i → i ≤ j → j ≤ 1048576 → sendP ws s x k want i = true → sendP ws s x k want j = true := fun i j h0 h1 h2 h => by
 unfold sendP at h ⊢
 rw [decide_eq_true_eq] at h ⊢
 exact Int.le_trans h (mono_flow g (givW_ok (k := k) ok h0 (by omega)) (givW_ok (k := k) ok (by omega) h2) hx (send_up ok hk he h1))
/-- The cells of the boxes of works and place. -/
def seS (g0 g1 : Nat) (v0 v3 v4 v5 : Value) (k : Nat) (X : World) : Prop := match k with
 | 0 => X.cell? ⟨g0, 0, none⟩ = some v0
 | _ => X.cell? ⟨g1, 0, none⟩ = some v3 ∧ X.cell? ⟨g1, 1, none⟩ = some v4 ∧ X.cell? ⟨g1, 2, none⟩ = some v5
theorem seS_below {g0 g1 : Nat} {v0 v3 v4 v5 : Value} {X X' : World} (hb : Below X.heap.size X X') (k : Nat) (h : seS g0 g1 v0 v3 v4 v5 k X) : seS g0 g1 v0 v3 v4 v5 k X' := by
 match k with
 | 0 => exact cell_below hb h
 | k + 1 =>
  obtain ⟨e3, e4, e5⟩ : _ ∧ _ ∧ _ := h
  exact ⟨cell_below hb e3, cell_below hb e4, cell_below hb e5⟩
theorem head_first {ws : List Car} {n k : Nat} (hk : k < (headsTo ws n).length) : ∀ j, j < k → nth (ints (headsTo ws n)) j ≠ ((headsTo ws n).getD k 0 : Int) := fun j hj => by
 rw [nth_ints (by omega)]
 have := heads_ne hj hk
 omega
/-- What Send finds. -/
def SendR (ws : List Car) (s : Wt) (id want : Int) (e : Ending) : Prop :=
 (wishE ws s id want ≠ 0 ∧ e = .returned (.tuple #[.int .i64 0, .int .i64 (wishE ws s id want)])) ∨
 (wishE ws s id want = 0 ∧ ∃ x k, idxO ws id = some x ∧ k < (headsTo ws ws.length).length ∧ (headsTo ws ws.length).getD k 0 = caAt ws (headOf ws x) ∧ ((sendP ws s x k want 1048576 = false ∧ e = .returned (.tuple #[.int .i64 0, .int .i64 5])) ∨
  ∃ r, 0 ≤ r ∧ r ≤ 1048576 ∧ sendP ws s x k want r = true ∧ (∀ j, 0 ≤ j → j < r → sendP ws s x k want j = false) ∧ e = .returned (.tuple #[.int .i64 r, .int .i64 0])))

set_option maxRecDepth 100000 in
set_option maxHeartbeats 800000 in
theorem Send_any (A : Option Addr) (c : Nat) (ws : List Car) (s : Wt) (id want : Int) (w : World) (h : Wk w A ws) (hs : Wet w s) :
  Calls Try.prog 35 #[.agg #[.slice A ws.length c], s.v, .int .i64 id, .int .i64 want] w fun e w' => SendR ws s id want e ∧ Below w.heap.size w w' := by
 obtain ⟨A0, A1, A2, A3, c0, c1, c2, c3, ri, bo, lk, lo⟩ := s
 have hb1 : Below w.heap.size w (((w.alloc (.cells #[.slice A ws.length c] 24)).alloc (.cells #[.slice A0 ri.length c0, .slice A1 bo.length c1, .slice A2 lk.length c2, .slice A3 lo.length c3] 27)).alloc (.cells #[.int .i64 want] 3)) := (((Below.refl _ w).alloc (Nat.le_refl _) _).alloc (by simp) _).alloc (by simp; omega) _
 have hch := wished_any A c ws ⟨A0, A1, A2, A3, c0, c1, c2, c3, ri, bo, lk, lo⟩ id want _ (h.ext hb1) (hs.ext hb1)
 have q0 : Blk (((w.alloc (.cells #[.slice A ws.length c] 24)).alloc (.cells #[.slice A0 ri.length c0, .slice A1 bo.length c1, .slice A2 lk.length c2, .slice A3 lo.length c3] 27)).alloc (.cells #[.int .i64 want] 3)) w.heap.size #[.slice A ws.length c] 24 := blk_alloc (blk_alloc (blk_new _ _ _ rfl) _) _
 have q1 : Blk (((w.alloc (.cells #[.slice A ws.length c] 24)).alloc (.cells #[.slice A0 ri.length c0, .slice A1 bo.length c1, .slice A2 lk.length c2, .slice A3 lo.length c3] 27)).alloc (.cells #[.int .i64 want] 3)) (w.heap.size + 1) #[.slice A0 ri.length c0, .slice A1 bo.length c1, .slice A2 lk.length c2, .slice A3 lo.length c3] 27 := blk_alloc (blk_new _ _ _ (by simp)) _
 have q2 : Blk (((w.alloc (.cells #[.slice A ws.length c] 24)).alloc (.cells #[.slice A0 ri.length c0, .slice A1 bo.length c1, .slice A2 lk.length c2, .slice A3 lo.length c3] 27)).alloc (.cells #[.int .i64 want] 3)) (w.heap.size + 1 + 1) #[.int .i64 want] 3 := blk_new _ _ _ (by simp)
 have hs1 : (((w.alloc (.cells #[.slice A ws.length c] 24)).alloc (.cells #[.slice A0 ri.length c0, .slice A1 bo.length c1, .slice A2 lk.length c2, .slice A3 lo.length c3] 27)).alloc (.cells #[.int .i64 want] 3)).heap.size = w.heap.size + 3 := by simp
 have p0 := cr 0 q0
 have p1 := cr 0 q1
 have p2 := cr 1 q1
 have p3 := cr 2 q1
 have p4 := cr 3 q1
 have p5 := cr 0 q2
 have hz := fun (h : wishE ws ⟨A0, A1, A2, A3, c0, c1, c2, c3, ri, bo, lk, lo⟩ id want = 0) => wish_zero h
 have hd : ∀ e, SendR ws ⟨A0, A1, A2, A3, c0, c1, c2, c3, ri, bo, lk, lo⟩ id want e = ((wishE ws ⟨A0, A1, A2, A3, c0, c1, c2, c3, ri, bo, lk, lo⟩ id want ≠ 0 ∧ e = .returned (.tuple #[.int .i64 0, .int .i64 (wishE ws ⟨A0, A1, A2, A3, c0, c1, c2, c3, ri, bo, lk, lo⟩ id want)])) ∨ (wishE ws ⟨A0, A1, A2, A3, c0, c1, c2, c3, ri, bo, lk, lo⟩ id want = 0 ∧ ∃ x k, idxO ws id = some x ∧ k < (headsTo ws ws.length).length ∧ (headsTo ws ws.length).getD k 0 = caAt ws (headOf ws x) ∧ ((sendP ws ⟨A0, A1, A2, A3, c0, c1, c2, c3, ri, bo, lk, lo⟩ x k want 1048576 = false ∧ e = .returned (.tuple #[.int .i64 0, .int .i64 5])) ∨
  ∃ r, 0 ≤ r ∧ r ≤ 1048576 ∧ sendP ws ⟨A0, A1, A2, A3, c0, c1, c2, c3, ri, bo, lk, lo⟩ x k want r = true ∧ (∀ j, 0 ≤ j → j < r → sendP ws ⟨A0, A1, A2, A3, c0, c1, c2, c3, ri, bo, lk, lo⟩ x k want j = false) ∧ e = .returned (.tuple #[.int .i64 r, .int .i64 0])))) := fun _ => rfl
 have HH := hd10 hb1 hch h hs q0 q1 q2 hs1 hz hd
 clear hb1 hch q0 q1 q2 hs1 h hs hz hd
 dsimp only [Wt.v] at *
 generalize SendR ws ⟨A0, A1, A2, A3, c0, c1, c2, c3, ri, bo, lk, lo⟩ id want = R at *
 generalize wishE ws ⟨A0, A1, A2, A3, c0, c1, c2, c3, ri, bo, lk, lo⟩ id want = D at *
 generalize wishP ws ⟨A0, A1, A2, A3, c0, c1, c2, c3, ri, bo, lk, lo⟩ id want = P at *
 by_cases h0 : D = 0
 rotate_left
 ·have hz : (D != 0) = true := by simpa using h0
  have HZ := Lib.hid h0
  clear h0
  go_enter Try.func35, Try.ntmps35
  go_upto_region 1 with fail
  generalize (((w.alloc (.cells #[.slice A ws.length c] 24)).alloc (.cells #[.slice A0 ri.length c0, .slice A1 bo.length c1, .slice A2 lk.length c2, .slice A3 lo.length c3] 27)).alloc (.cells #[.int .i64 want] 3)) = W1 at *
  go_wp2_with (go_at_call 92; refine HH.out.2.1.mono ?_; rintro e w1 ⟨rfl, hb⟩; unfold plV; have HF := Lib.hid hb; clear hb)
  go_ret2
  exact ⟨by rw [HH.out.2.2.2.2.2.2.2.2.2]; exact .inl ⟨HZ.out, rfl⟩, HH.out.1.trans ((HF.out.trans (((Below.refl _ w1).alloc (Nat.le_refl _) _).mono HF.out.size)).mono HH.out.1.size)⟩
 ·subst h0
  obtain ⟨g, ok, hwn, x, hx, hxl, hP⟩ := HH.out.2.2.2.2.2.2.2.2.1 rfl
  subst hP
  have hlb : ri.length = (headsTo ws ws.length).length := ok.l0
  have hhl := headsTo_le ws ws.length
  have hn1 := g.n1
  obtain ⟨hd, hdl, hde⟩ := head_num g hxl
  have hps := (g.fine hxl).n
  have hN6 := g.n2
  obtain ⟨b1, o1, e1, lb1, hc1⟩ := HH.out.2.2.2.1.r0 (by show 0 < ri.length; omega)
  dsimp only at e1
  have hok : ∀ (B : Option Addr) (d : Nat), Ok ws ⟨B, A1, A2, A3, d, c1, c2, c3, ri, bo, lk, lo⟩ := fun B d => ⟨ok.l0, ok.l1, ok.l2, ok.l3, ok.r0, ok.r1, ok.r2, ok.r3⟩
  have HX := hd10 hx hxl g hok hlb lb1 hc1 e1 hdl hde
  clear hx hxl g ok hok hlb lb1 hc1 e1 hdl hde
  go_enter Try.func35, Try.ntmps35
  go_upto_region 1 with fail
  generalize (((w.alloc (.cells #[.slice A ws.length c] 24)).alloc (.cells #[.slice A0 ri.length c0, .slice A1 bo.length c1, .slice A2 lk.length c2, .slice A3 lo.length c3] 27)).alloc (.cells #[.int .i64 want] 3)) = W1 at *
  go_upto_region 4 with (go_at_call 92; refine HH.out.2.1.mono ?_; rintro e w1 ⟨rfl, hb⟩; unfold plV pl; dsimp only; have HF := Lib.hid hb; clear hb)
  have hb9 := (Below.refl _ w1).alloc (Nat.le_refl _) (.cells #[.int .i64 (x : Int), .int .i64 (caAt ws x : Int), .int .i64 (atAt ws x : Int)] 131)
  have hb5 := HF.out.trans (hb9.mono HF.out.size)
  have hbw := HH.out.1.trans (hb5.mono HH.out.1.size)
  have hs1 := HH.out.2.2.2.2.2.2.2.1
  have hw1 := HF.out.size
  have q0 := (hb5.block w.heap.size (by omega)).trans HH.out.2.2.2.2.1
  have q1 := (hb5.block (w.heap.size + 1) (by omega)).trans HH.out.2.2.2.2.2.1
  have q2 := (hb5.block (w.heap.size + 1 + 1) (by omega)).trans HH.out.2.2.2.2.2.2.1
  have q9 := blk_new w1 (g := w1.heap.size) #[.int .i64 (x : Int), .int .i64 (caAt ws x : Int), .int .i64 (atAt ws x : Int)] 131 rfl
  have hs9 : (w1.alloc (.cells #[.int .i64 (x : Int), .int .i64 (caAt ws x : Int), .int .i64 (atAt ws x : Int)] 131)).heap.size = w1.heap.size + 1 := by simp
  generalize w1.alloc (.cells #[.int .i64 (x : Int), .int .i64 (caAt ws x : Int), .int .i64 (atAt ws x : Int)] 131) = w3 at *
  have hcl : Calls Try.prog 80 #[.slice A0 ri.length c0] w3 fun e w' => ∃ g c', e = .returned (.slice (some ⟨g, 0, none⟩) ri.length c') ∧ w3.heap.size ≤ g ∧ g < w'.heap.size ∧ IntF w' g ri.length (nth ri) ∧ Below w3.heap.size w3 w' := by
   have hr := (HH.out.2.2.2.1.r0).ext hbw
   dsimp only at hr
   rw [HX.out.2.2.2.2.2.2.2.1] at hr ⊢
   exact clone_ints b1 o1 c0 ri w3 hr (by have := HX.out.2.2.2.2.1; have := HX.out.2.2.2.2.2.2.2.2.1; omega) (by have := HX.out.2.2.2.2.1; omega)
  have k1 : w3.cell? ⟨w.heap.size + 1, 0, none⟩ = some (.slice A0 ri.length c0) := cell_row q1
  have HB := hd9 hbw q0 q1 q2 q9 hs1 hw1 hs9 hcl
  clear hb9 hb5 hbw q0 q1 q2 q9 hs1 hw1 hs9 hcl
  go_upto_region 5 with (go_at_call 80; refine HB.out.2.2.2.2.2.2.2.2.mono ?_; rintro e w4 ⟨gb, cb, rfl, hg1, hg2, hif, hb⟩; have r1 := (hb.block (w.heap.size + 1) (Array.getElem?_eq_some_iff.1 HB.out.2.2.1).1).trans HB.out.2.2.1; have k2 := cr 0 r1; have f2 := bf 0 r1; have HG := hd5 hg1 hg2 hif hb r1; clear hg1 hg2 hif hb r1)
  have HI : Hid (OpI w A c ws.length ⟨some ⟨gb, 0, none⟩, A1, A2, A3, cb, c1, c2, c3, ri, bo, lk, lo⟩ x (caAt ws x) (atAt ws x) want (w.heap.size + 1) w1.heap.size w.heap.size (w.heap.size + 1 + 1) (w.heap.size + 1 + 1) gb #[.int .i64 want] 3 ri.length (nth ri) hd (w4.setCell ⟨w.heap.size + 1, 0, none⟩ (.slice (some ⟨gb, 0, none⟩) ri.length cb))) := by
   obtain ⟨hbw, q0, q1, q2, q9, hs1, hw1, hs9, _⟩ := HB.out
   obtain ⟨hg1, hg2, hif, hb, r1⟩ := HG.out
   have hsz := hbw.size
   have l := fun {g : Nat} {cs : Array Value} {ty : TypeId} (k : Blk w3 g cs ty) (hg : g ≠ w.heap.size + 1) => ((Below.heap_setCell w4 ⟨w.heap.size + 1, 0, none⟩ (.slice (some ⟨gb, 0, none⟩) ri.length cb) g hg).trans ((hb.block g (Array.getElem?_eq_some_iff.1 k).1).trans k))
   refine Lib.hid ⟨(hbw.trans (hb.mono hbw.size)).setCell (p := ⟨w.heap.size + 1, 0, none⟩) (by show w.heap.size ≤ w.heap.size + 1; omega) _, heap_setCell_same _ _ 0 _ _ _ r1, l q9 (by omega), l q0 (by omega), l q2 (by omega), l q2 (by omega), ⟨nth ri, hif.heap (Below.heap_setCell _ _ _ _ (by show gb ≠ w.heap.size + 1; omega)), fun _ _ _ => rfl⟩, ⟨by omega, by omega, by omega, by omega, by omega, by omega⟩, by rw [World.size_setCell]; exact hg2⟩
  clear HG k1 k2 f2 p0 p1 p2 p3 p4 p5
  generalize (w4.setCell ⟨w.heap.size + 1, 0, none⟩ (.slice (some ⟨gb, 0, none⟩) ri.length cb)) = w5 at *
  have s0 : seS w.heap.size w1.heap.size (.slice A ws.length c) (.int .i64 (x : Int)) (.int .i64 (caAt ws x : Int)) (.int .i64 (atAt ws x : Int)) 0 w5.drew := cell_row HI.out.kw
  have s1 : seS w.heap.size w1.heap.size (.slice A ws.length c) (.int .i64 (x : Int)) (.int .i64 (caAt ws x : Int)) (.int .i64 (atAt ws x : Int)) 1 w5.drew := ⟨cr 0 HI.out.kp, cr 1 HI.out.kp, cr 2 HI.out.kp⟩
  have hX0 : Below w5.heap.size w5 w5.drew := (Below.refl _ _).drew
  refine wp_region_cut (fun a' w' => ∃ (A9 : Option Addr) (c9 b7 o7 c7 b : Nat), a' = { tmps := #[.agg #[.slice A ws.length c], .agg #[.slice A0 ri.length c0, .slice A1 bo.length c1, .slice A2 lk.length c2, .slice A3 lo.length c3], .int .i64 id, .int .i64 want, .pointer (some ⟨w.heap.size, 0, none⟩), .pointer (some ⟨w.heap.size + 1, 0, none⟩), undef, .pointer (some ⟨w.heap.size + 1 + 1, 0, none⟩), .int .i64 0, .int .i64 0, .pointer (some ⟨w1.heap.size, 0, none⟩), .int .i64 0, .pointer (some ⟨b, 0, none⟩), undef, undef, .tuple #[.agg #[.int .i64 (x : Int), .int .i64 (caAt ws x : Int), .int .i64 (atAt ws x : Int)], .int .i64 0], .agg #[.slice A ws.length c], .agg #[.slice A0 ri.length c0, .slice A1 bo.length c1, .slice A2 lk.length c2, .slice A3 lo.length c3], .int .i64 id, .int .i64 want, .tuple #[.agg #[.int .i64 (x : Int), .int .i64 (caAt ws x : Int), .int .i64 (atAt ws x : Int)], .int .i64 0], .agg #[.int .i64 (x : Int), .int .i64 (caAt ws x : Int), .int .i64 (atAt ws x : Int)], .int .i64 0, .int .i64 0, .bool false, undef,
    .pointer (some ⟨w.heap.size + 1, 0, none⟩), .slice A0 ri.length c0, .slice (some ⟨gb, 0, none⟩) ri.length cb, .pointer (some ⟨w.heap.size + 1, 0, none⟩), .agg #[.slice A ws.length c], .slice A9 (headsTo ws ws.length).length c9, .agg #[.slice A ws.length c], .agg #[.int .i64 (x : Int), .int .i64 (caAt ws x : Int), .int .i64 (atAt ws x : Int)], .slice (some ⟨b7, o7, none⟩) (pathN ws x).length c7, .pointer (some ⟨b7, o7, none⟩), .pointer (some ⟨b7, o7 + 1, none⟩), .int .i64 (caAt ws (headOf ws x) : Int), .int .i64 (hd : Int), undef, undef, undef, undef, undef, undef, undef, undef], defers := [] } ∧
   Aside (Blk w' b #[.int .i64 (hd : Int)] 3 ∧ w5.heap.size ≤ b ∧ Below w5.heap.size w5 w')) (by kernel_rfl) (seS w.heap.size w1.heap.size (.slice A ws.length c) (.int .i64 (x : Int)) (.int .i64 (caAt ws x : Int)) (.int .i64 (atAt ws x : Int))) (fun j k => match j with | 10 => false | _ => true) ?_ ?_
  ·have hX := hX0
   generalize w5.drew = X0 at *
   clear hX0
   refine kT 0 0 rfl ?_
   refine kT 0 2 rfl ?_
   refine kT 1 3 rfl ?_
   clear s1
   refine wpAnyK_ready (rs := [1, 9]) (by kernel_rfl) (by simp) (AllK.consL rfl (by rfl) (fun K hK => ?_) (AllK.consL rfl (by rfl) (fun K hK => ?_) AllK.nil))
   ·go_simp
    refine (heads_any A c ws X0 (HH.out.2.2.1.ext (HI.out.bl.trans (hX.mono HI.out.bl.size))) HX.out.2.2.1).mono ?_
    rintro e X1 ⟨A9, c9, rfl, hr9', -, hb⟩
    dsimp only
    rw [ints_length]
    refine hK.out _ _ (fun k _ h => seS_below hb k h) ?_
    replace hX := hX.trans (hb.mono hX.size)
    replace s0 := seS_below hb 0 s0
    (try replace hr9 := hr9.ext hb)
    (try replace c7 := cell_below hb c7)
    (try replace hbk := (hb.block _ (Array.getElem?_eq_some_iff.1 hbk).1).trans hbk)
    have hr9 := hr9'
    clear hK hb hr9'
    refine wpAnyK_ready (rs := [4, 9]) (by kernel_rfl) (by simp) (AllK.consL rfl (by rfl) (fun K hK => ?_) (AllK.consL rfl (by rfl) (fun K hK => ?_) AllK.nil))
    ·go_simp
     refine (path_any A c ws x HX.out.2.1 X1 (HH.out.2.2.1.ext (HI.out.bl.trans (hX.mono HI.out.bl.size))) HX.out.2.2.1).mono ?_
     rintro e X2 ⟨A7, c7', rfl, hr7, -, hb⟩
     dsimp only
     refine hK.out _ _ (fun k _ h => seS_below hb k h) ?_
     obtain ⟨b7, o7, rfl, lb7, hc7⟩ := hr7 (by rw [List.length_map]; exact pathN_pos HX.out.2.2.1 x)
     have hP0 := hc7 0 (by rw [List.length_map]; exact pathN_pos HX.out.2.2.1 x)
     rw [pAt_map (pathN_pos HX.out.2.2.1 x)] at hP0
     replace hX := hX.trans (hb.mono hX.size)
     replace s0 := seS_below hb 0 s0
     (try replace hr9 := hr9.ext hb)
     (try replace c7 := cell_below hb c7)
     (try replace hbk := (hb.block _ (Array.getElem?_eq_some_iff.1 hbk).1).trans hbk)
     have c7 : X2.cell? ⟨b7, o7 + 1, none⟩ = some (.int .i64 (caAt ws (headOf ws x) : Int)) := by
      have := hP0.c1
      simp only [Nat.zero_mul, Nat.add_zero] at this
      exact this
     have hz7 : (0 : Nat) < (pathN ws x).length := pathN_pos HX.out.2.2.1 x
     have hz7' : (0 : Int) < ((pathN ws x).length : Int) := by omega
     clear hK hb hr7 hc7 hP0 lb7
     refine kT 0 5 rfl ?_
     refine kT 0 6 rfl ?_
     refine wpAnyK_ready (rs := [7, 9]) (by kernel_rfl) (by simp) (AllK.consL rfl (by rfl) (fun K hK => ?_) (AllK.consL rfl (by rfl) (fun K hK => ?_) AllK.nil))
     ·go_simp
      refine hK.out _ _ (fun k _ h => h) ?_
      clear hK
      refine wpAnyK_ready (rs := [8, 9]) (by kernel_rfl) (by simp) (AllK.consL rfl (by rfl) (fun K hK => ?_) (AllK.consL rfl (by rfl) (fun K hK => ?_) AllK.nil))
      ·go_simp
       have hci := index_any A9 c9 (ints (headsTo ws ws.length)) (caAt ws (headOf ws x) : Int) hd X2 hr9 (by rw [ints_length]; omega) (by rw [ints_length]; exact HX.out.2.2.2.2.2.2.2.2.1) (by rw [nth_ints HX.out.2.2.2.2.2.2.2.2.1, HX.out.2.2.2.2.2.2.2.2.2]) (by rw [← HX.out.2.2.2.2.2.2.2.2.2]; exact head_first HX.out.2.2.2.2.2.2.2.2.1)
       rw [ints_length] at hci
       refine hci.mono ?_
       rintro e w' ⟨rfl, hw'⟩
       rw [hw']
       dsimp only
       refine hK.out _ _ (fun k _ h => h) ?_
       clear hK hci hw'
       refine kR 9 rfl fun K hK => ?_
       go_simp
       refine hK.out _ _ (fun k _ h => seS_below ((Below.refl _ _).alloc (Nat.le_refl _) _) k h) ?_
       have hbA := (Below.refl _ X2).alloc (Nat.le_refl _) (.cells #[.int .i64 0] 3)
       have hbge : w5.heap.size ≤ X2.heap.size := hX.size
       replace hX := hX.trans (hbA.mono hX.size)
       replace s0 := seS_below hbA 0 s0
       (try replace hr9 := hr9.ext hbA)
       (try replace c7 := cell_below hbA c7)
       (try replace hbk := (hbA.block _ (Array.getElem?_eq_some_iff.1 hbk).1).trans hbk)
       have hbk := blk_new X2 (g := X2.heap.size) #[.int .i64 0] 3 rfl
       clear hK hbA
       refine kR 10 rfl fun K hK => ?_
       generalize (X2.alloc (.cells #[.int .i64 0] 3)) = XS at *
       have e0 := cr 0 hbk
       have f0 := bf 0 hbk
       go_simp
       refine hK.out _ _ (fun k hk h => by cases hk) ?_
       clear hK
       refine kD ?_
       exact ⟨A9, c9, b7, o7, c7', X2.heap.size, rfl, (show _ ∧ _ ∧ _ from ⟨heap_setCell_same _ _ 0 _ _ _ hbk, hbge, hX.setCell (p := ⟨X2.heap.size, 0, none⟩) hbge _⟩)⟩
      ·go_simp
       refine hK.out _ _ (fun k _ h => seS_below ((Below.refl _ _).alloc (Nat.le_refl _) _) k h) ?_
       have hbA := (Below.refl _ X2).alloc (Nat.le_refl _) (.cells #[.int .i64 0] 3)
       have hbge : w5.heap.size ≤ X2.heap.size := hX.size
       replace hX := hX.trans (hbA.mono hX.size)
       replace s0 := seS_below hbA 0 s0
       (try replace hr9 := hr9.ext hbA)
       (try replace c7 := cell_below hbA c7)
       (try replace hbk := (hbA.block _ (Array.getElem?_eq_some_iff.1 hbk).1).trans hbk)
       have hbk := blk_new X2 (g := X2.heap.size) #[.int .i64 0] 3 rfl
       clear hK hbA
       refine kR 8 rfl fun K hK => ?_
       go_simp
       have hci := index_any A9 c9 (ints (headsTo ws ws.length)) (caAt ws (headOf ws x) : Int) hd (X2.alloc (.cells #[.int .i64 0] 3)) hr9 (by rw [ints_length]; omega) (by rw [ints_length]; exact HX.out.2.2.2.2.2.2.2.2.1) (by rw [nth_ints HX.out.2.2.2.2.2.2.2.2.1, HX.out.2.2.2.2.2.2.2.2.2]) (by rw [← HX.out.2.2.2.2.2.2.2.2.2]; exact head_first HX.out.2.2.2.2.2.2.2.2.1)
       rw [ints_length] at hci
       refine hci.mono ?_
       rintro e w' ⟨rfl, hw'⟩
       rw [hw']
       dsimp only
       refine hK.out _ _ (fun k _ h => h) ?_
       clear hK hci hw'
       refine kR 10 rfl fun K hK => ?_
       generalize (X2.alloc (.cells #[.int .i64 0] 3)) = XS at *
       have e0 := cr 0 hbk
       have f0 := bf 0 hbk
       go_simp
       refine hK.out _ _ (fun k hk h => by cases hk) ?_
       clear hK
       refine kD ?_
       exact ⟨A9, c9, b7, o7, c7', X2.heap.size, rfl, (show _ ∧ _ ∧ _ from ⟨heap_setCell_same _ _ 0 _ _ _ hbk, hbge, hX.setCell (p := ⟨X2.heap.size, 0, none⟩) hbge _⟩)⟩
     ·go_simp
      refine hK.out _ _ (fun k _ h => seS_below ((Below.refl _ _).alloc (Nat.le_refl _) _) k h) ?_
      have hbA := (Below.refl _ X2).alloc (Nat.le_refl _) (.cells #[.int .i64 0] 3)
      have hbge : w5.heap.size ≤ X2.heap.size := hX.size
      replace hX := hX.trans (hbA.mono hX.size)
      replace s0 := seS_below hbA 0 s0
      (try replace hr9 := hr9.ext hbA)
      (try replace c7 := cell_below hbA c7)
      (try replace hbk := (hbA.block _ (Array.getElem?_eq_some_iff.1 hbk).1).trans hbk)
      have hbk := blk_new X2 (g := X2.heap.size) #[.int .i64 0] 3 rfl
      clear hK hbA
      refine kR 7 rfl fun K hK => ?_
      go_simp
      refine hK.out _ _ (fun k _ h => h) ?_
      clear hK
      refine kR 8 rfl fun K hK => ?_
      go_simp
      have hci := index_any A9 c9 (ints (headsTo ws ws.length)) (caAt ws (headOf ws x) : Int) hd (X2.alloc (.cells #[.int .i64 0] 3)) hr9 (by rw [ints_length]; omega) (by rw [ints_length]; exact HX.out.2.2.2.2.2.2.2.2.1) (by rw [nth_ints HX.out.2.2.2.2.2.2.2.2.1, HX.out.2.2.2.2.2.2.2.2.2]) (by rw [← HX.out.2.2.2.2.2.2.2.2.2]; exact head_first HX.out.2.2.2.2.2.2.2.2.1)
      rw [ints_length] at hci
      refine hci.mono ?_
      rintro e w' ⟨rfl, hw'⟩
      rw [hw']
      dsimp only
      refine hK.out _ _ (fun k _ h => h) ?_
      clear hK hci hw'
      refine kR 10 rfl fun K hK => ?_
      generalize (X2.alloc (.cells #[.int .i64 0] 3)) = XS at *
      have e0 := cr 0 hbk
      have f0 := bf 0 hbk
      go_simp
      refine hK.out _ _ (fun k hk h => by cases hk) ?_
      clear hK
      refine kD ?_
      exact ⟨A9, c9, b7, o7, c7', X2.heap.size, rfl, (show _ ∧ _ ∧ _ from ⟨heap_setCell_same _ _ 0 _ _ _ hbk, hbge, hX.setCell (p := ⟨X2.heap.size, 0, none⟩) hbge _⟩)⟩
    ·go_simp
     refine hK.out _ _ (fun k _ h => seS_below ((Below.refl _ _).alloc (Nat.le_refl _) _) k h) ?_
     have hbA := (Below.refl _ X1).alloc (Nat.le_refl _) (.cells #[.int .i64 0] 3)
     have hbge : w5.heap.size ≤ X1.heap.size := hX.size
     replace hX := hX.trans (hbA.mono hX.size)
     replace s0 := seS_below hbA 0 s0
     (try replace hr9 := hr9.ext hbA)
     (try replace c7 := cell_below hbA c7)
     (try replace hbk := (hbA.block _ (Array.getElem?_eq_some_iff.1 hbk).1).trans hbk)
     have hbk := blk_new X1 (g := X1.heap.size) #[.int .i64 0] 3 rfl
     clear hK hbA
     refine kR 4 rfl fun K hK => ?_
     go_simp
     refine (path_any A c ws x HX.out.2.1 (X1.alloc (.cells #[.int .i64 0] 3)) (HH.out.2.2.1.ext (HI.out.bl.trans (hX.mono HI.out.bl.size))) HX.out.2.2.1).mono ?_
     rintro e X2 ⟨A7, c7', rfl, hr7, -, hb⟩
     dsimp only
     refine hK.out _ _ (fun k _ h => seS_below hb k h) ?_
     obtain ⟨b7, o7, rfl, lb7, hc7⟩ := hr7 (by rw [List.length_map]; exact pathN_pos HX.out.2.2.1 x)
     have hP0 := hc7 0 (by rw [List.length_map]; exact pathN_pos HX.out.2.2.1 x)
     rw [pAt_map (pathN_pos HX.out.2.2.1 x)] at hP0
     replace hX := hX.trans (hb.mono hX.size)
     replace s0 := seS_below hb 0 s0
     (try replace hr9 := hr9.ext hb)
     (try replace c7 := cell_below hb c7)
     (try replace hbk := (hb.block _ (Array.getElem?_eq_some_iff.1 hbk).1).trans hbk)
     have c7 : X2.cell? ⟨b7, o7 + 1, none⟩ = some (.int .i64 (caAt ws (headOf ws x) : Int)) := by
      have := hP0.c1
      simp only [Nat.zero_mul, Nat.add_zero] at this
      exact this
     have hz7 : (0 : Nat) < (pathN ws x).length := pathN_pos HX.out.2.2.1 x
     have hz7' : (0 : Int) < ((pathN ws x).length : Int) := by omega
     clear hK hb hr7 hc7 hP0 lb7
     refine kT 0 5 rfl ?_
     refine kT 0 6 rfl ?_
     refine kR 7 rfl fun K hK => ?_
     go_simp
     refine hK.out _ _ (fun k _ h => h) ?_
     clear hK
     refine kR 8 rfl fun K hK => ?_
     go_simp
     have hci := index_any A9 c9 (ints (headsTo ws ws.length)) (caAt ws (headOf ws x) : Int) hd X2 hr9 (by rw [ints_length]; omega) (by rw [ints_length]; exact HX.out.2.2.2.2.2.2.2.2.1) (by rw [nth_ints HX.out.2.2.2.2.2.2.2.2.1, HX.out.2.2.2.2.2.2.2.2.2]) (by rw [← HX.out.2.2.2.2.2.2.2.2.2]; exact head_first HX.out.2.2.2.2.2.2.2.2.1)
     rw [ints_length] at hci
     refine hci.mono ?_
     rintro e w' ⟨rfl, hw'⟩
     rw [hw']
     dsimp only
     refine hK.out _ _ (fun k _ h => h) ?_
     clear hK hci hw'
     refine kR 10 rfl fun K hK => ?_
     generalize X2 = XS at *
     have e0 := cr 0 hbk
     have f0 := bf 0 hbk
     go_simp
     refine hK.out _ _ (fun k hk h => by cases hk) ?_
     clear hK
     refine kD ?_
     exact ⟨A9, c9, b7, o7, c7', X1.heap.size, rfl, (show _ ∧ _ ∧ _ from ⟨heap_setCell_same _ _ 0 _ _ _ hbk, hbge, hX.setCell (p := ⟨X1.heap.size, 0, none⟩) hbge _⟩)⟩
   ·go_simp
    refine hK.out _ _ (fun k _ h => seS_below ((Below.refl _ _).alloc (Nat.le_refl _) _) k h) ?_
    have hbA := (Below.refl _ X0).alloc (Nat.le_refl _) (.cells #[.int .i64 0] 3)
    have hbge : w5.heap.size ≤ X0.heap.size := hX.size
    replace hX := hX.trans (hbA.mono hX.size)
    replace s0 := seS_below hbA 0 s0
    (try replace hr9 := hr9.ext hbA)
    (try replace c7 := cell_below hbA c7)
    (try replace hbk := (hbA.block _ (Array.getElem?_eq_some_iff.1 hbk).1).trans hbk)
    have hbk := blk_new X0 (g := X0.heap.size) #[.int .i64 0] 3 rfl
    clear hK hbA
    refine kR 1 rfl fun K hK => ?_
    go_simp
    refine (heads_any A c ws (X0.alloc (.cells #[.int .i64 0] 3)) (HH.out.2.2.1.ext (HI.out.bl.trans (hX.mono HI.out.bl.size))) HX.out.2.2.1).mono ?_
    rintro e X1 ⟨A9, c9, rfl, hr9', -, hb⟩
    dsimp only
    rw [ints_length]
    refine hK.out _ _ (fun k _ h => seS_below hb k h) ?_
    replace hX := hX.trans (hb.mono hX.size)
    replace s0 := seS_below hb 0 s0
    (try replace hr9 := hr9.ext hb)
    (try replace c7 := cell_below hb c7)
    (try replace hbk := (hb.block _ (Array.getElem?_eq_some_iff.1 hbk).1).trans hbk)
    have hr9 := hr9'
    clear hK hb hr9'
    refine kR 4 rfl fun K hK => ?_
    go_simp
    refine (path_any A c ws x HX.out.2.1 X1 (HH.out.2.2.1.ext (HI.out.bl.trans (hX.mono HI.out.bl.size))) HX.out.2.2.1).mono ?_
    rintro e X2 ⟨A7, c7', rfl, hr7, -, hb⟩
    dsimp only
    refine hK.out _ _ (fun k _ h => seS_below hb k h) ?_
    obtain ⟨b7, o7, rfl, lb7, hc7⟩ := hr7 (by rw [List.length_map]; exact pathN_pos HX.out.2.2.1 x)
    have hP0 := hc7 0 (by rw [List.length_map]; exact pathN_pos HX.out.2.2.1 x)
    rw [pAt_map (pathN_pos HX.out.2.2.1 x)] at hP0
    replace hX := hX.trans (hb.mono hX.size)
    replace s0 := seS_below hb 0 s0
    (try replace hr9 := hr9.ext hb)
    (try replace c7 := cell_below hb c7)
    (try replace hbk := (hb.block _ (Array.getElem?_eq_some_iff.1 hbk).1).trans hbk)
    have c7 : X2.cell? ⟨b7, o7 + 1, none⟩ = some (.int .i64 (caAt ws (headOf ws x) : Int)) := by
     have := hP0.c1
     simp only [Nat.zero_mul, Nat.add_zero] at this
     exact this
    have hz7 : (0 : Nat) < (pathN ws x).length := pathN_pos HX.out.2.2.1 x
    have hz7' : (0 : Int) < ((pathN ws x).length : Int) := by omega
    clear hK hb hr7 hc7 hP0 lb7
    refine kT 0 5 rfl ?_
    refine kT 0 6 rfl ?_
    refine kR 7 rfl fun K hK => ?_
    go_simp
    refine hK.out _ _ (fun k _ h => h) ?_
    clear hK
    refine kR 8 rfl fun K hK => ?_
    go_simp
    have hci := index_any A9 c9 (ints (headsTo ws ws.length)) (caAt ws (headOf ws x) : Int) hd X2 hr9 (by rw [ints_length]; omega) (by rw [ints_length]; exact HX.out.2.2.2.2.2.2.2.2.1) (by rw [nth_ints HX.out.2.2.2.2.2.2.2.2.1, HX.out.2.2.2.2.2.2.2.2.2]) (by rw [← HX.out.2.2.2.2.2.2.2.2.2]; exact head_first HX.out.2.2.2.2.2.2.2.2.1)
    rw [ints_length] at hci
    refine hci.mono ?_
    rintro e w' ⟨rfl, hw'⟩
    rw [hw']
    dsimp only
    refine hK.out _ _ (fun k _ h => h) ?_
    clear hK hci hw'
    refine kR 10 rfl fun K hK => ?_
    generalize X2 = XS at *
    have e0 := cr 0 hbk
    have f0 := bf 0 hbk
    go_simp
    refine hK.out _ _ (fun k hk h => by cases hk) ?_
    clear hK
    refine kD ?_
    exact ⟨A9, c9, b7, o7, c7', X0.heap.size, rfl, (show _ ∧ _ ∧ _ from ⟨heap_setCell_same _ _ 0 _ _ _ hbk, hbge, hX.setCell (p := ⟨X0.heap.size, 0, none⟩) hbge _⟩)⟩
  ·rintro a' w' ⟨A9, c9, b7, o7, c7, b, rfl, hF⟩
   dsimp only
   have HF6 := Lib.hid hF.out
   clear hF
   have HJ : Hid (OpI w A c ws.length ⟨some ⟨gb, 0, none⟩, A1, A2, A3, cb, c1, c2, c3, ri, bo, lk, lo⟩ x (caAt ws x) (atAt ws x) want (w.heap.size + 1) w1.heap.size w.heap.size (w.heap.size + 1 + 1) b gb #[.int .i64 (hd : Int)] 3 ri.length (nth ri) hd w') := by
    have h1 := HI.out.below HF6.out.2.2
    have hgl := HI.out.lt
    have b0 := h1.b0
    exact Lib.hid ⟨h1.bl, h1.ks, h1.kp, h1.kw, h1.kn, HF6.out.1, h1.kb, ⟨b0.1, b0.2.1, b0.2.2.1, b0.2.2.2.1, b0.2.2.2.2.1, by have := HF6.out.2.1; omega⟩, h1.lt⟩
   have hcg : ∀ n, sendP ws ⟨some ⟨gb, 0, none⟩, A1, A2, A3, cb, c1, c2, c3, ri, bo, lk, lo⟩ x hd want n = sendP ws ⟨A0, A1, A2, A3, c0, c1, c2, c3, ri, bo, lk, lo⟩ x hd want n := fun n => sendP_congr rfl rfl rfl rfl x hd want n
   have hlw := fun W hI => lowest_any 100 #[.pointer (some ⟨w.heap.size + 1, 0, none⟩), .pointer (some ⟨b, 0, none⟩), .pointer (some ⟨w.heap.size, 0, none⟩), .pointer (some ⟨w1.heap.size, 0, none⟩), .pointer (some ⟨w.heap.size + 1 + 1, 0, none⟩)] eg_send1 (sendP ws ⟨some ⟨gb, 0, none⟩, A1, A2, A3, cb, c1, c2, c3, ri, bo, lk, lo⟩ x hd want) 1048576
    (OpI w A c ws.length ⟨some ⟨gb, 0, none⟩, A1, A2, A3, cb, c1, c2, c3, ri, bo, lk, lo⟩ x (caAt ws x) (atAt ws x) want (w.heap.size + 1) w1.heap.size w.heap.size (w.heap.size + 1 + 1) b gb #[.int .i64 (hd : Int)] 3 ri.length (nth ri) hd) (by omega) (by omega)
    (fun n W h0 h1 hI => send1_any w A c ws A1 A2 A3 cb c1 c2 c3 ri bo lk lo x hd want _ _ _ _ gb _ HH.out.2.2.1 HX.out.2.2.1 HX.out.2.1 (by rw [HX.out.2.2.2.2.1]; exact HX.out.2.2.2.2.2.2.2.2.1) HH.out.2.2.2.1.r1 HH.out.2.2.2.1.r2 HH.out.2.2.2.1.r3 (HX.out.2.2.2.1 _ _) n h0 h1 W hI)
    (send_mono HX.out.2.2.1 (HX.out.2.2.2.1 _ _) HX.out.2.1 HX.out.2.2.2.2.2.2.2.2.1 HX.out.2.2.2.2.2.2.2.2.2 want) W hI
   have HL := hd2 hlw hcg
   clear hlw hcg s0 s1 hX0
   obtain ⟨q, hq⟩ : ∃ q, sendP ws ⟨some ⟨gb, 0, none⟩, A1, A2, A3, cb, c1, c2, c3, ri, bo, lk, lo⟩ x hd want 1048576 = q := ⟨_, rfl⟩
   have HQ := Lib.hid hq
   clear hq
   cases q
   ·go_wp2_with (go_at_call 93; refine (HL.out.1 _ HJ.out).mono ?_; rintro e w7 ⟨hi, hr⟩; obtain rfl : e = .returned (.tuple #[.int .i64 0, .bool false]) := (by
       rcases hr with ⟨_, he⟩ | ⟨r, h0, h1, h2, _, _⟩
       ·exact he
       ·have := send_mono HX.out.2.2.1 (HX.out.2.2.2.1 _ _) HX.out.2.1 HX.out.2.2.2.2.2.2.2.2.1 HX.out.2.2.2.2.2.2.2.2.2 want r _ h0 h1 (Int.le_refl _) h2
        rw [HQ.out] at this
        cases this); have HI7 := Lib.hid hi.bl; clear hi hr)
    go_ret2
    exact ⟨by rw [HH.out.2.2.2.2.2.2.2.2.2]; exact .inr ⟨trivial, x, hd, HX.out.1, HX.out.2.2.2.2.2.2.2.2.1, HX.out.2.2.2.2.2.2.2.2.2, .inl ⟨(HL.out.2 _).symm.trans HQ.out, rfl⟩⟩, HI7.out⟩
   ·go_wp2_with (go_at_call 93; refine (HL.out.1 _ HJ.out).mono ?_; rintro e w7 ⟨hi, hr⟩; obtain ⟨r, h0, h1, h2, h3, rfl⟩ : ∃ r, 0 ≤ r ∧ r ≤ (1048576 : Int) ∧ sendP ws ⟨some ⟨gb, 0, none⟩, A1, A2, A3, cb, c1, c2, c3, ri, bo, lk, lo⟩ x hd want r = true ∧ (∀ j, 0 ≤ j → j < r → sendP ws ⟨some ⟨gb, 0, none⟩, A1, A2, A3, cb, c1, c2, c3, ri, bo, lk, lo⟩ x hd want j = false) ∧ e = .returned (.tuple #[.int .i64 r, .bool true]) := (by
       rcases hr with ⟨hf, _⟩ | hr
       ·rw [HQ.out] at hf; cases hf
       ·exact hr); have HI7 := hd5 hi.bl h0 h1 h2 h3; clear hi hr h0 h1 h2 h3)
    go_ret2
    exact ⟨by rw [HH.out.2.2.2.2.2.2.2.2.2]; exact .inr ⟨trivial, x, hd, HX.out.1, HX.out.2.2.2.2.2.2.2.2.1, HX.out.2.2.2.2.2.2.2.2.2, .inr ⟨r, HI7.out.2.1, HI7.out.2.2.1, (HL.out.2 _).symm.trans HI7.out.2.2.2.1, fun j h0 h1 => (HL.out.2 _).symm.trans (HI7.out.2.2.2.2 j h0 h1), rfl⟩⟩, HI7.out.1⟩
end Go.Proofs.Ytdadoelajhemjaa
