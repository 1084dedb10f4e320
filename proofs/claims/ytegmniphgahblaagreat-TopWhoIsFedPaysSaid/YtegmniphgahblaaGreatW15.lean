/- Walks: slices.Backward of reaches, as an iterator; a drawn region inside the wide fence. -/
import Derived.Test.YtegmniphgahblaaGreatW7b
import Derived.Test.YtegmniphgahblaaGreatM12
import Derived.Sort.CutIn
namespace Go.Proofs.YtegmniphgahblaaGreat
open Go.RowKit Go.Shelf
attribute [local go_sem] Oper.semAt_some

section
variable {P : Program} {ops : Array Oper} {md : Region.Mode} {Q : Exit → Act → World → Prop} {m : Nat}
theorem rowsIn_wide' {row : String} {args : Array Value} {w : World} {R : Value → World → Prop} (h : Rows P row args w R) : RowsIn Fence.wide m P row args w R := fun c cs _ =>
 let ⟨v, w', h1, h2⟩ := h c cs; ⟨v, w', h1, stepsIn_wide.2 h2⟩
theorem wpIn_of_wpW {o : Oper} {a : Act} {w : World} {K : Act → World → Prop} (hnd : ∀ c, o.op ≠ .defer c) (h : o.wp P a w K (EndsOnly Q)) : o.wpIn Fence.wide m P a w K Q := by
 unfold Oper.wpIn
 refine ⟨fun _ _ => trivial, ?_⟩
 rw [Oper.semAt_eq _ _ _ hnd]
 unfold Oper.wp at h
 generalize (execOp a.eval o).run P w = z at *
 cases z with
 | ok x w' =>
  cases x <;> simp only [Oper.upon] at h <;> simp only [Oper.uponIn]
  case value v => exact h
  case skip => exact h
  case defer d => exact h
  case enter f args =>
   refine ⟨fun e => (by cases e), callsIn_wide.2 (Calls.mono h ?_)⟩
   intro e w'' h2
   cases e with
   | returned v => exact h2
   | panicked c => exact h2.elim
   | outgrown => obtain ⟨_, _, h3⟩ := h2; exact h3.elim
  case row row args => exact ⟨fun e => (by cases e), rowsIn_wide' h⟩
 | halt x w' => cases x <;> simp only [Oper.upon] at h <;> exact h.elim
theorem wpOpIn_of_wpW (hnd : ∀ (i : Nat) (o : Oper) c, ops[i]? = some o → o.op ≠ .defer c) {i : Nat} {K K' : Act → World → Prop} {a : Act} {w : World} (hK : ∀ a w, K a w → K' a w) (h : wpOp P ops (EndsOnly Q) i K a w) : wpOpIn Fence.wide m P ops Q i K' a w := by
 unfold wpOp at h
 unfold wpOpIn
 split
 ·rename_i ho; simp only [ho] at h; exact hK _ _ h
 ·rename_i o ho
  simp only [ho] at h
  split
  ·rename_i hw
   simp only [hw, if_true] at h
   rcases h with h | ⟨_, a', w', hq⟩
   ·have h1 := wpIn_of_wpW (m := m) (hnd i o · ho) h
    exact Oper.wpIn_mono hK h1
   ·exact hq.elim
  ·rename_i hw
   simp only [hw] at h
   exact ⟨fun _ _ => trivial, hK _ _ h⟩
theorem wpAnyIn_of_wpW (hnd : ∀ (i : Nat) (o : Oper) c, ops[i]? = some o → o.op ≠ .defer c) : ∀ (fuel : Nat) (listed : Array Bool) (a : Act) (w : World), wpAny P md ops (EndsOnly Q) fuel listed a w → wpAnyIn Fence.wide m P md ops Q fuel listed a w
 | 0, _, _, _, h => ⟨h.1, h.2⟩
 | fuel + 1, _, _, _, h => ⟨fun h0 => h.1 h0, fun i hi => wpOpIn_of_wpW hnd (fun a' w' h' => wpAnyIn_of_wpW hnd fuel _ a' w' h') (h.2 i hi)⟩
theorem wpIn_region_W {id : Nat} {a : Act} {w : World} {l : List Oper} (kb : Nat → Bool) (h : wpAnyR P .any l.toArray (EndsOnly Q) kb l.toArray.size (Array.replicate l.toArray.size false) a w.drew)
  (hm : P.follows .mixedOrders = true := by kernel_rfl) (hd : noDeferB l = true := by kernel_rfl) : (Code.region id l.toArray true).wpIn Fence.wide m P Q a w :=
 wpIn_region_any hm (wpAnyIn_of_wpW (noDeferB_spec hd) _ _ _ _ (wpAny_of_R _ _ _ _ h))
end
theorem eo_block {K : Act → World → Prop} {Q : Exit → Act → World → Prop} {b : Nat} {a : Act} {w : World} (h : K a w) : EndsOnly (Exit.inBlock b (Exit.then K Q)) .normal a w := h
theorem eo_then {K : Act → World → Prop} {Q : Exit → Act → World → Prop} {a : Act} {w : World} (h : K a w) : EndsOnly (Exit.then K Q) .normal a w := h
/-- The numbers below n, downwards. -/
def dn : Nat → List Nat
 | 0 => []
 | n + 1 => n :: dn n
theorem dn_at : ∀ {m : Nat} {pre : List Nat} {x : Nat} {rest : List Nat}, dn m = pre ++ x :: rest → x + pre.length + 1 = m
 | 0, pre, x, rest, h => by cases pre <;> cases h
 | m + 1, [], x, rest, h => by cases h; rfl
 | m + 1, y :: pre, x, rest, h => by
  rw [dn, List.cons_append, List.cons.injEq] at h
  have := dn_at h.2
  rw [List.length_cons]; omega
theorem dn_len : ∀ m : Nat, (dn m).length = m
 | 0 => rfl
 | m + 1 => by rw [dn, List.length_cons, dn_len m]
theorem backward_any (A : Option Addr) (n c : Nat) (w : World) : Calls Tryz.prog 61 #[.slice A n c] w fun e w' =>
  e = .returned (.func (.func 79) #[] #[.pointer (some ⟨w.heap.size, 0, none⟩)]) ∧ w.alloc (.cells #[.slice A n c] 39) = w' := by
 go_enter Tryz.func61, Tryz.ntmps61
 go_wp2
 go_ret
 exact ⟨rfl, rfl⟩
abbrev encR (rs : List Rch) (x : Nat) : Array Value := #[.int .i64 (x : Int), .agg #[.int .i64 (rAt rs x).ab, .int .i64 (rAt rs x).co]]
def bwK (n₀ sb b : Nat) : Prop := b < n₀ ∨ b = sb
set_option maxRecDepth 100000 in
set_option maxHeartbeats 2000000 in
theorem bw1_in (n : Nat) (hn : 1 ≤ n) (l n₀ sb : Nat) (A : Option Addr) (c : Nat) (rs : List Rch) (hl : rs.length ≤ 24) (J Jx : List Nat → World → Prop)
  (hY : ∀ pre y rest W, dn rs.length = pre ++ y :: rest → J pre W → YieldAt Fence.wide (n - 1) Tryz.prog l (encR rs y) W fun e W' =>
   (e = .returned (.bool true) ∧ J (pre ++ [y]) W' ∧ KeepB (bwK n₀ sb) W W') ∨ (e = .returned (.bool false) ∧ Jx (pre ++ [y]) W'))
  (w W : World) (hw : Below w.heap.size w W) (hr : RdR w n₀ A rs) (h0 : n₀ ≤ w.heap.size) (h3 : sb < w.heap.size) (ht : w.cell? ⟨sb, 0, none⟩ = some (.slice A rs.length c)) (j0 : J [] W) :
  CallsIn Fence.wide n Tryz.prog 79 #[.func (.yield l) #[] #[], .pointer (some ⟨sb, 0, none⟩)] W fun e W' => (∃ v, e = .returned v) ∧
   (J (dn rs.length) W' ∨ ∃ pre y rest, dn rs.length = pre ++ y :: rest ∧ Jx (pre ++ [y]) W') := by
 have u0 : KeepB (bwK n₀ sb) w W := ⟨hw.size, fun b hb' => hw.block b (by unfold bwK at hb'; omega)⟩
 have HT := hd2 hr ht
 clear hr ht
 have c0 := u0.cell (a := ⟨sb, 0, none⟩) (.inr rfl) HT.out.2
 refine callsIn_of_wp Tryz.func79 rfl trivial ?_ rfl
 simp only [Tryz.ntmps79, List.size_toArray, List.length_cons, List.length_nil, Nat.reduceAdd, Nat.reduceSub, Array.replicate_succ, Array.replicate_zero, List.push_toArray, List.append_toArray, List.nil_append, List.cons_append]
 gi_wp2
 gi_loopw [3] (fun s wr => ∃ (k : Nat) (pre : List Nat), k ≤ rs.length ∧ s = .int .i64 ((k : Int) - 1) ∧ dn rs.length = pre ++ dn k ∧ J pre wr ∧ KeepB (bwK n₀ sb) w wr)
  (fun s _ => (intOf s + 1).toNat)
 case atStart => exact ⟨rs.length, [], Nat.le_refl _, by go_num, rfl, j0, u0⟩
 case round =>
  obtain ⟨k, pre, hk, rfl, hd, hJs, hU⟩ := hrel
  by_cases hlt : 0 < k
  ·obtain ⟨y, rfl⟩ : ∃ y, k = y + 1 := ⟨k - 1, by omega⟩
   obtain ⟨b, off, rfl, lb, hc⟩ := HT.out.1 (by omega)
   obtain ⟨q0, q1⟩ := hc y (by omega)
   have k0 := hU.cell (a := ⟨sb, 0, none⟩) (.inr rfl) HT.out.2
   have k1 := hU.cell (a := ⟨b, off + y * 2, none⟩) (.inl lb) q0
   have k2 := hU.cell (a := ⟨b, off + y * 2 + 1, none⟩) (.inl lb) q1
   have hyz : (y : Int) < (rs.length : Int) := by omega
   have e1 : ((y + 1 : Nat) : Int) - 1 = (y : Int) := by omega
   rw [e1]
   obtain ⟨fn, tmps, assign, body, hy, hR⟩ := hY pre y (dn y) wr hd hJs
   dsimp only [encR] at hy
   have HU := hd2 hU hd
   clear hU hd hY q0 q1 hc c0 u0 hJs
   gi_wp2
   refine hR.mono ?_
   rintro e W3 (⟨rfl, hJ3, hk3⟩ | ⟨rfl, hJx3⟩)
   ·have HK := hd2 hJ3 hk3
    clear hJ3 hk3
    gi_wp2
    go_roundw
    case rel => exact ⟨y, pre ++ [y], by omega, by go_num, by rw [HU.out.2, List.append_assoc]; rfl, HK.out.1, HU.out.1.trans HK.out.2⟩
    case measure => simp only [intOf]; omega
   ·have HX := Lib.hid hJx3
    clear hJx3
    gi_wp2
    refine bodyPost_ret (results_none rfl _ _ _) rfl ?_
    exact ⟨⟨_, rfl⟩, .inr ⟨pre, y, dn y, HU.out.2, HX.out⟩⟩
  ·obtain rfl : k = 0 := by omega
   gi_wp2
   go_end0
   exact ⟨⟨_, rfl⟩, .inl (by rw [hd, dn, List.append_nil]; exact hJs)⟩
set_option maxRecDepth 100000 in
theorem eg_bw1 : ∀ args w, (callFunc 79 args).run Tryz.prog w = .ok (.enter 79 args) w := fun _ _ => by rfl
theorem bw_seq (n : Nat) (hn : 1 ≤ n) (A : Option Addr) (c : Nat) (rs : List Rch) (hl : rs.length ≤ 24) (n₀ : Nat) (w : World) (hr : RdR w n₀ A rs) (h0 : n₀ ≤ w.heap.size) :
  SeqB Fence.wide n Tryz.prog 79 #[.pointer (some ⟨w.heap.size, 0, none⟩)] (encR rs) none (KeepB (bwK n₀ w.heap.size)) (dn rs.length) (w.alloc (.cells #[.slice A rs.length c] 39)) :=
 fun l J Jx W hW _ _ hY j0 => bw1_in n hn l n₀ w.heap.size A c rs hl J Jx hY _ W hW (hr.keep fun b hb => ((Below.refl _ w).alloc (Nat.le_refl _) (.cells #[.slice A rs.length c] 39)).block b (by omega)) (by simp; omega) (by simp) (by simp [go_sem]) j0
end Go.Proofs.YtegmniphgahblaaGreat
