/- Walks: up, and its closure as an iterator. -/
import Derived.Test.YtegmniphgahblaaGreatW1
import Derived.Test.YtegmniphgahblaaGreatW2
import Derived.RangeFuncNested
import Derived.RangeFuncBound
import Derived.RangeFuncCalls
import Derived.RangeFuncLeaves
import Derived.RangeFuncFrom
import Derived.OwnWalkIn
import Derived.TacticsInMore
import Derived.LoopNIn
import Derived.LoopIn
import Derived.RegionIn
import Derived.Shelf.AbstractIn
namespace Go.Proofs.YtegmniphgahblaaGreat
open Go.RowKit Go.Shelf
attribute [local go_sem] Oper.semAt_some

theorem up_any (t : Tr) (x : Int) (w : World) : Calls Tryz.prog 56 #[t.v, .int .i64 x] w fun e w' =>
  e = .returned (.func (.func 73) #[] #[.pointer (some ⟨w.heap.size + 1, 0, none⟩), .pointer (some ⟨w.heap.size, 0, none⟩)]) ∧ (w.alloc (.cells t.cells 42)).alloc (.cells #[.int .i64 x] 3) = w' := by
 obtain ⟨A, c, rs, B, d, ps⟩ := t
 unfold Tr.v Tr.cells
 go_enter Tryz.func56, Tryz.ntmps56
 go_wp2
 go_ret
 exact ⟨rfl, rfl⟩

abbrev encN (x : Nat) : Array Value := #[.int .i64 (x : Int)]
/-- What a round keeps for up. -/
def upK (n₀ tb bs b : Nat) : Prop := b < n₀ ∨ b = tb ∨ b = bs
/-- The iterator's own cell. -/
structure UpAt (w W : World) (n₀ tb bs : Nat) (x y : Int) : Prop where
 k : KeepB (fun b => b < n₀ ∨ b = tb) w W
 c : W.cell? ⟨bs, 0, none⟩ = some (.int .i64 y)
 f : W.frozen? ⟨bs, 0, none⟩ = false

theorem setCell_size' (W : World) (a : Addr) (v : Value) : (W.setCell a v).heap.size = W.heap.size := by
 show (W.heap.modify _ _).size = _
 rw [Array.size_modify]
theorem grownBy_set (W : World) (a : Addr) (v : Value) : W.grownBy (W.setCell a v) (some a.block) :=
 ⟨rfl, rfl, rfl, by rw [setCell_size']; exact Nat.le_refl _, fun k _ hk => Below.heap_setCell W a v k fun e => hk (by rw [e])⟩

set_option maxRecDepth 100000 in
set_option maxHeartbeats 2000000 in
theorem up1_in (n : Nat) (hn : 1 ≤ n) (l n₀ tb bs : Nat) (t : Tr) (ok : RsOk t.rs) (x : Int) (hx : -1 ≤ x) (hx2 : x < t.rs.length) (J Jx : List Nat → World → Prop)
  (hY : ∀ pre y rest W, way (abF t.rs) x = pre ++ y :: rest → J pre W → YieldAt Fence.wide (n - 1) Tryz.prog l (encN y) W fun e W' =>
   (e = .returned (.bool true) ∧ J (pre ++ [y]) W' ∧ KeepB (upK n₀ tb bs) W W') ∨ (e = .returned (.bool false) ∧ Jx (pre ++ [y]) W'))
  (hJ : Minds (some bs) J) (w W : World) (hw : Below w.heap.size w W) (hr : RdR w n₀ t.A t.rs) (h0 : n₀ ≤ w.heap.size) (h1 : n₀ ≤ bs) (h2 : tb ≠ bs) (h3 : tb < w.heap.size) (h4 : bs < w.heap.size) (ht : w.cell? ⟨tb, 0, none⟩ = some (.slice t.A t.rs.length t.c)) (hb : w.cell? ⟨bs, 0, none⟩ = some (.int .i64 x)) (hf : w.frozen? ⟨bs, 0, none⟩ = false) (j0 : J [] W) :
  CallsIn Fence.wide n Tryz.prog 73 #[.func (.yield l) #[] #[], .pointer (some ⟨bs, 0, none⟩), .pointer (some ⟨tb, 0, none⟩)] W fun e W' => (∃ v, e = .returned v) ∧
   (J (way (abF t.rs) x) W' ∨ ∃ pre y rest, way (abF t.rs) x = pre ++ y :: rest ∧ Jx (pre ++ [y]) W') := by
 obtain ⟨A, c, rs, B, d, ps⟩ := t
 dsimp only [Tr.cells] at *
 have hn24 := ok.n
 have u0 : UpAt w W n₀ tb bs x x := ⟨⟨hw.size, fun b hb' => hw.block b (by omega)⟩, (hw.cell (p := ⟨bs, 0, none⟩) h4).trans hb, (hw.frozen (p := ⟨bs, 0, none⟩) h4).trans hf⟩
 have HT := hd3 hr ht ok
 clear hr ht ok hb
 refine callsIn_of_wp Tryz.func73 rfl trivial ?_ rfl
 simp only [Tryz.ntmps73, List.size_toArray, List.length_cons, List.length_nil, Nat.reduceAdd, Nat.reduceSub, Array.replicate_succ, Array.replicate_zero, List.push_toArray, List.append_toArray, List.nil_append, List.cons_append]
 gi_wp2
 gi_loopw [] (fun wr => ∃ (y : Int) (pre : List Nat), -1 ≤ y ∧ y < rs.length ∧ way (abF rs) x = pre ++ way (abF rs) y ∧ J pre wr ∧ UpAt w wr n₀ tb bs x y)
  (fun wr => match wr.cell? ⟨bs, 0, none⟩ with | some v => (intOf v + 1).toNat | none => 0)
 case atStart => exact ⟨x, [], hx, hx2, rfl, j0, u0⟩
 case round =>
  obtain ⟨y, pre, hy1, hy2, hway, hJs, hU⟩ := hrel
  have c0 := hU.c
  have f0 := hU.f
  by_cases hlt : 0 ≤ y
  ·have hwy := way_cons HT.out.2.2.ab hlt hy2
   obtain ⟨fn, tmps, assign, body, hy, hR⟩ := hY pre y.toNat (way (abF rs) (abF rs y.toNat)) wr (by rw [hway, hwy]) hJs
   dsimp only [encN] at hy
   rw [Int.toNat_of_nonneg hlt] at hy
   have ha := HT.out.2.2.up y.toNat (by omega)
   have HW := hd2 hway hwy
   have HU := hd2 hU ha
   clear hway hwy hU ha hY
   gi_wp2
   refine hR.mono ?_
   rintro e W3 (⟨rfl, hJ3, hk3⟩ | ⟨rfl, hJx3⟩)
   ·obtain ⟨b, off, rfl, lb, hc⟩ := HT.out.1 (by show 0 < rs.length; omega)
    have kq : ∀ b, (b < n₀ ∨ b = tb) → W3.heap[b]? = w.heap[b]? := fun b hb => (hk3.same b (hb.elim .inl fun e => .inr (.inl e))).trans (HU.out.1.k.same b hb)
    have k1 : W3.cell? ⟨tb, 0, none⟩ = _ := (World.cell?_of_block (kq tb (.inr rfl))).trans HT.out.2.1
    have k2 : W3.cell? ⟨bs, 0, none⟩ = _ := hk3.cell (a := ⟨bs, 0, none⟩) (.inr (.inr rfl)) c0
    have k3 : W3.frozen? ⟨bs, 0, none⟩ = false := (hk3.frozen (a := ⟨bs, 0, none⟩) (.inr (.inr rfl))).trans f0
    have k4 : W3.cell? ⟨b, off + y.toNat * 2, none⟩ = _ := (World.cell?_of_block (kq b (.inl lb))).trans (hc y.toNat (by omega)).1
    have hyz : y < (rs.length : Int) := by omega
    have HK := hd3 kq hJ3 hk3
    clear kq hJ3 hk3 hc c0 f0
    gi_wp2
    go_roundw
    case rel =>
     refine ⟨(rAt rs y.toNat).ab, pre ++ [y.toNat], HU.out.2.1, by have := HU.out.2.2; omega, by rw [HW.out.1, HW.out.2, List.append_assoc]; rfl, hJ _ _ _ (some bs) HK.out.2.1 (grownBy_set W3 ⟨bs, 0, none⟩ _) (fun r e => e), ⟨⟨by rw [setCell_size']; exact Nat.le_trans HU.out.1.k.size HK.out.2.2.size, fun b hb => (Below.heap_setCell W3 ⟨bs, 0, none⟩ _ b (by show b ≠ bs; omega)).trans (HK.out.1 b hb)⟩, World.cell?_setCell_same' _ _ _ (by rw [k2]; rfl), by rw [World.frozen?_setCell]; exact k3⟩⟩
    case measure =>
     rw [World.cell?_setCell_same' _ _ _ (by rw [k2]; rfl), HU.out.1.c]
     have := HU.out.2.2
     simp only [intOf]
     omega
   ·gi_wp2
    go_end0
    exact ⟨⟨_, rfl⟩, .inr ⟨pre, y.toNat, _, by rw [HW.out.1, HW.out.2], hJx3⟩⟩
  ·have hlt2 : y < 0 := by omega
   gi_wp2
   refine ⟨fun _ h => (by cases h), ?_⟩
   gi_wp2
   go_end0
   exact ⟨⟨_, rfl⟩, .inl (by rw [way_neg hlt2, List.append_nil] at hway; rw [hway]; exact hJs)⟩
set_option maxRecDepth 100000 in
theorem eg_up1 : ∀ args w, (callFunc 73 args).run Tryz.prog w = .ok (.enter 73 args) w := fun _ _ => by rfl
/-- What up gives, as an iterator. -/
theorem up_seq (n : Nat) (hn : 1 ≤ n) (t : Tr) (ok : RsOk t.rs) (x : Int) (hx : -1 ≤ x) (hx2 : x < t.rs.length) (n₀ : Nat) (w : World) (ht : TrAt w n₀ t) (h0 : n₀ ≤ w.heap.size) :
  SeqB Fence.wide n Tryz.prog 73 #[.pointer (some ⟨w.heap.size + 1, 0, none⟩), .pointer (some ⟨w.heap.size, 0, none⟩)] encN (some (w.heap.size + 1)) (KeepB (upK n₀ w.heap.size (w.heap.size + 1))) (way (abF t.rs) x)
   ((w.alloc (.cells t.cells 42)).alloc (.cells #[.int .i64 x] 3)) :=
 fun l J Jx W hW hJ _ hY j0 => up1_in n hn l n₀ w.heap.size (w.heap.size + 1) t ok x hx hx2 J Jx hY hJ _ W hW (ht.r.keep fun b hb => ((((Below.refl _ w).alloc (Nat.le_refl _) (.cells t.cells 42)).alloc (by simp) (.cells #[.int .i64 x] 3))).block b (by omega)) (by simp; omega) (by omega) (by omega) (by simp; omega) (by simp) (by simp [Tr.cells, go_sem]) (by simp [go_sem]) (by simp [go_sem]) j0
end Go.Proofs.YtegmniphgahblaaGreat
