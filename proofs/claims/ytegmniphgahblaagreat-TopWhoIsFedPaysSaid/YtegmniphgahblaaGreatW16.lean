/- Walks: objects. -/
import Derived.Test.YtegmniphgahblaaGreatW15
import Derived.Test.YtegmniphgahblaaGreatW8
namespace Go.Proofs.YtegmniphgahblaaGreat
open Go.RowKit Go.Shelf
attribute [local go_sem] Oper.semAt_some

section
variable {rc : Nat → Nat} {x : Nat → Int}
theorem load_succ (k : Nat) : load rc x (k + 1) = put (load rc x k) (rc k) (load rc x k (rc k) + x k) := by
 funext r
 show load rc x k r + (if rc k = r then x k else 0) = _
 unfold put
 by_cases h : r = rc k
 ·rw [if_pos h, if_pos h.symm, h]
 ·rw [if_neg h, if_neg (fun e => h e.symm), Int.add_zero]
theorem load_rng {n : Nat} (h : ∀ i, i < n → 0 ≤ x i ∧ x i ≤ 1073741824) (r : Nat) : ∀ k, k ≤ n → 0 ≤ load rc x k r ∧ load rc x k r ≤ 1073741824 * k
 | 0, _ => ⟨Int.le_refl _, Int.le_refl _⟩
 | k + 1, hk => by
  have h1 := load_rng h r k (by omega)
  have h2 := h k (by omega)
  have e : load rc x (k + 1) r = load rc x k r + (if rc k = r then x k else 0) := rfl
  rw [e]
  split <;> omega
theorem sumTo_rng {n : Nat} {C : Int} (hC : 0 ≤ C) (h : ∀ i, i < n → 0 ≤ x i ∧ x i ≤ C) : ∀ k, k ≤ n → 0 ≤ sumTo x k ∧ sumTo x k ≤ C * k
 | 0, _ => ⟨Int.le_refl _, by simp [sumTo]⟩
 | k + 1, hk => by
  have h1 := sumTo_rng hC h k (by omega)
  have h2 := h k (by omega)
  have e : sumTo x (k + 1) = sumTo x k + x k := rfl
  rw [e, show C * ((k + 1 : Nat) : Int) = C * k + C by rw [Int.natCast_succ, Int.mul_add, Int.mul_one]]
  omega
end
section
variable {ab co : Nat → Int} {m : Nat} {at0 : Nat → Int}
/-- What is too much, from the last j reaches on. -/
def otS (ab co : Nat → Int) (m : Nat) (at0 : Nat → Int) (j r : Nat) : Int := if m ≤ r + j ∧ r < m then outS ab co m at0 r else 0
theorem otS_zero : otS ab co m at0 0 = fun _ => 0 := by
 funext r
 exact if_neg (by omega)
theorem otS_succ {x j : Nat} (h : x + j + 1 = m) : otS ab co m at0 (j + 1) = put (otS ab co m at0 j) x (outS ab co m at0 x) := by
 funext r
 unfold put otS
 by_cases e : r = x
 ·subst e; rw [if_pos (by omega), if_pos rfl]
 ·rw [if_neg e]
  by_cases h2 : m ≤ r + j ∧ r < m
  ·rw [if_pos h2, if_pos (by omega)]
  ·rw [if_neg h2, if_neg (by omega)]
theorem outS_at {x j : Nat} (h : x + j + 1 = m) : outS ab co m at0 x = max 0 (atS ab co m at0 j x - co x) := by
 unfold outS
 rw [show m - 1 - x = j by omega]
theorem atS_up {x j : Nat} (h : x + j + 1 = m) (h0 : 0 ≤ ab x) : atS ab co m at0 (j + 1) = put (atS ab co m at0 j) (ab x).toNat (atS ab co m at0 j (ab x).toNat + outS ab co m at0 x) := by
 funext r
 show (if _ then _ else _) = _
 rw [outS_at h, show m - 1 - j = x by omega]
 unfold put
 by_cases e : r = (ab x).toNat
 ·rw [if_pos ⟨h0, e⟩, if_pos e, e]
 ·rw [if_neg (fun k => e k.2), if_neg e]
theorem atS_root {x j : Nat} (h : x + j + 1 = m) (h0 : ¬ 0 ≤ ab x) : atS ab co m at0 (j + 1) = atS ab co m at0 j := by
 funext r
 show (if _ then _ else _) = _
 rw [show m - 1 - j = x by omega, if_neg (fun k => h0 k.1)]
end
def pgV (t : Tr) (C : Option Addr) (e : Nat) (xs : List Int) : Value := .agg #[.slice t.A t.rs.length t.c, .slice t.B t.ps.length t.d, .slice C xs.length e]
/-- How much too much is paid from each reach on. -/
def oF (rs : List Rch) (ps : List Pay) (x : Nat → Int) (r : Nat) : Int := if r < rs.length then outS (abF rs) (coF rs) rs.length (load (rcF ps) x ps.length) r else 0
theorem oF_ot (rs : List Rch) (ps : List Pay) (x : Nat → Int) : otS (abF rs) (coF rs) rs.length (load (rcF ps) x ps.length) rs.length = oF rs ps x := by
 funext r
 unfold otS oF
 by_cases h : r < rs.length
 ·rw [if_pos h, if_pos (by omega)]
 ·rw [if_neg h, if_neg (by omega)]
/-- What objects holds. -/
structure ObS (w : World) (cs : Array Value) (f g : Nat → Int) (W : World) : Prop where
 bl : Below w.heap.size w W
 b0 : Blk W w.heap.size cs 124
 a1 : ArrAt W (w.heap.size + 1) 125 24 (fun _ => 0)
 a2 : ArrAt W (w.heap.size + 1 + 1) 125 24 f
 a3 : ArrAt W (w.heap.size + 1 + 1 + 1) 125 24 g
 lt : w.heap.size + 4 ≤ W.heap.size
theorem ObS.but {w W W' : World} {cs : Array Value} {f g f' g' : Nat → Int} {p : Nat → Prop} (h : ObS w cs f g W) (hb : ButB p W W') (hp : ∀ b, p b → w.heap.size + 1 + 1 ≤ b) (ha : ArrAt W' (w.heap.size + 1 + 1) 125 24 f') (ha3 : ArrAt W' (w.heap.size + 1 + 1 + 1) 125 24 g') : ObS w cs f' g' W' := by
 have hl := h.lt
 have hn : ∀ b, b < w.heap.size + 1 + 1 → ¬ p b := fun b hb hpb => by have := hp b hpb; omega
 exact ⟨h.bl.trans (hb.below (by omega) fun b hb => hn b (by omega)), hb.heap h.b0 (hn _ (by omega)), h.a1.block (hb.same _ (by omega) (hn _ (by omega))), ha, ha3, Nat.le_trans hl hb.size⟩
theorem ObS.grow {w W W' : World} {cs : Array Value} {f g : Nat → Int} {p : Nat → Prop} (h : ObS w cs f g W) (hb : ButB p W W') (hp : ∀ b, ¬ p b) : ObS w cs f g W' :=
 h.but hb (fun b k => absurd k (hp b)) (h.a2.block (hb.same _ h.a2.lt (hp _))) (h.a3.block (hb.same _ h.a3.lt (hp _)))
set_option maxRecDepth 100000 in
set_option maxHeartbeats 3200000 in
theorem objects_in (n : Nat) (hn : 3 ≤ n) (t : Tr) (ok : RsOk t.rs) (pk : PsOk t.rs t.ps) (C : Option Addr) (e : Nat) (xs : List Int) (hx : xs.length = t.ps.length) (hv : ∀ i, i < t.ps.length → 0 ≤ nth xs i ∧ nth xs i ≤ 1073741824) (w : World) (ht : TrAt w w.heap.size t) (hp : Rd w w.heap.size C xs) :
  CallsIn Fence.wide n Tryz.prog 94 #[pgV t C e xs] w fun e w' => e = .returned (arV (oF t.rs t.ps (nth xs))) ∧ Below w.heap.size w w' := by
 have h1 : 1 ≤ n := by omega
 have h2 : 1 ≤ n - 1 := by omega
 obtain ⟨A, c, rs, B, d, ps⟩ := t
 unfold pgV
 dsimp only at *
 have HT := hd6 ht ok pk hp hv hx
 clear ht ok pk hp hv hx
 refine callsIn_of_wp_marks Tryz.func94 rfl trivial ?_ rfl
 simp only [Tryz.ntmps94, List.size_toArray, List.length_cons, List.length_nil, Nat.reduceAdd, Nat.reduceSub, Array.replicate_succ, Array.replicate_zero, List.push_toArray, List.append_toArray, List.nil_append, List.cons_append]
 gi_wp2
 rw [show (#[.int .i64 0, .int .i64 0, .int .i64 0, .int .i64 0, .int .i64 0, .int .i64 0, .int .i64 0, .int .i64 0, .int .i64 0, .int .i64 0, .int .i64 0, .int .i64 0, .int .i64 0, .int .i64 0, .int .i64 0, .int .i64 0, .int .i64 0, .int .i64 0, .int .i64 0, .int .i64 0, .int .i64 0, .int .i64 0, .int .i64 0, .int .i64 0] : Array Value) = (List.replicate 24 (Value.int .i64 0)).toArray from rfl]
 have hb4 : Below w.heap.size w ((((w.alloc (.cells #[.slice A rs.length c, .slice B ps.length d, .slice C xs.length e] 124)).alloc (.cells (List.replicate 24 (Value.int .i64 0)).toArray 125)).alloc (.cells (List.replicate 24 (Value.int .i64 0)).toArray 125)).alloc (.cells (List.replicate 24 (Value.int .i64 0)).toArray 125)) := ((((Below.refl _ w).alloc (Nat.le_refl _) _).alloc (by simp) _).alloc (by simp; omega) _).alloc (by simp; omega) _
 have k0 : Blk ((((w.alloc (.cells #[.slice A rs.length c, .slice B ps.length d, .slice C xs.length e] 124)).alloc (.cells (List.replicate 24 (Value.int .i64 0)).toArray 125)).alloc (.cells (List.replicate 24 (Value.int .i64 0)).toArray 125)).alloc (.cells (List.replicate 24 (Value.int .i64 0)).toArray 125)) w.heap.size #[.slice A rs.length c, .slice B ps.length d, .slice C xs.length e] 124 := blk_alloc (blk_alloc (blk_alloc (blk_new w _ _ rfl) _) _) _
 have a1 := ((arr_zero (w.alloc (.cells #[.slice A rs.length c, .slice B ps.length d, .slice C xs.length e] 124)) 24 125).kept (World.grownBy_alloc _ (.cells (List.replicate 24 (Value.int .i64 0)).toArray 125) none) (fun _ e => by cases e)).kept (World.grownBy_alloc _ (.cells (List.replicate 24 (Value.int .i64 0)).toArray 125) none) (fun _ e => by cases e)
 have a2 := (arr_zero ((w.alloc (.cells #[.slice A rs.length c, .slice B ps.length d, .slice C xs.length e] 124)).alloc (.cells (List.replicate 24 (Value.int .i64 0)).toArray 125)) 24 125).kept (World.grownBy_alloc _ (.cells (List.replicate 24 (Value.int .i64 0)).toArray 125) none) (fun _ e => by cases e)
 have a3 := arr_zero (((w.alloc (.cells #[.slice A rs.length c, .slice B ps.length d, .slice C xs.length e] 124)).alloc (.cells (List.replicate 24 (Value.int .i64 0)).toArray 125)).alloc (.cells (List.replicate 24 (Value.int .i64 0)).toArray 125)) 24 125
 simp only [World.size_alloc] at a1 a2 a3
 have S0 : ObS w #[.slice A rs.length c, .slice B ps.length d, .slice C xs.length e] (load (rcF ps) (nth xs) 0) (fun _ => 0) ((((w.alloc (.cells #[.slice A rs.length c, .slice B ps.length d, .slice C xs.length e] 124)).alloc (.cells (List.replicate 24 (Value.int .i64 0)).toArray 125)).alloc (.cells (List.replicate 24 (Value.int .i64 0)).toArray 125)).alloc (.cells (List.replicate 24 (Value.int .i64 0)).toArray 125)) := ⟨hb4, k0, a1, a2, a3, by simp⟩
 generalize ((((w.alloc (.cells #[.slice A rs.length c, .slice B ps.length d, .slice C xs.length e] 124)).alloc (.cells (List.replicate 24 (Value.int .i64 0)).toArray 125)).alloc (.cells (List.replicate 24 (Value.int .i64 0)).toArray 125)).alloc (.cells (List.replicate 24 (Value.int .i64 0)).toArray 125)) = W0 at *
 clear hb4 k0 a1 a2 a3
 have hpn := HT.out.2.2.1.n
 have hrn := HT.out.2.1.n
 have r0 := cr 0 S0.b0
 have r1 := cr 1 S0.b0
 gi_loopw [13] (fun s wr => ∃ k : Nat, k ≤ ps.length ∧ s = .int .i64 (k : Int) ∧ Aside (ObS w #[.slice A rs.length c, .slice B ps.length d, .slice C xs.length e] (load (rcF ps) (nth xs) k) (fun _ => 0) wr))
  (fun s _ => ps.length - (intOf s).toNat)
 case atStart => exact ⟨0, Nat.zero_le _, by go_num, S0⟩
 case round =>
  obtain ⟨k, hk, rfl, hA⟩ := hrel
  have hS := hA.out
  clear hA S0 r0 r1
  by_cases hlt : k < ps.length
  ·have hltz : (k : Int) < (ps.length : Int) := by omega
   have hkx : k < xs.length := by rw [HT.out.2.2.2.2.2]; exact hlt
   have hltx : (k : Int) < (xs.length : Int) := by omega
   obtain ⟨b, off, rfl, lb, hc⟩ := HT.out.1.p (by show 0 < ps.length; omega)
   obtain ⟨q0, q1, q2⟩ := hc k hlt
   dsimp only at q0 q1 q2
   obtain ⟨b', off', rfl, lb', hc'⟩ := HT.out.2.2.2.1 (by omega)
   have p0 := (hS.bl.cell (p := ⟨b, off + k * 3, none⟩) lb).trans q0
   have p1 := (hS.bl.cell (p := ⟨b, off + k * 3 + 1, none⟩) lb).trans q1
   have p2 := (hS.bl.cell (p := ⟨b, off + k * 3 + 2, none⟩) lb).trans q2
   have p3 := (hS.bl.cell (p := ⟨b', off' + k, none⟩) lb').trans (hc' k hkx)
   clear q0 q1 q2 hc hc'
   have HS := Lib.hid hS
   have hlw := hS.lt
   clear hS
   gi_upto_region 5 with fail
   have hb1 : ButB (fun _ => False) wr (wr.alloc (.cells #[.int .i64 (yAt ps k).id, .int .i64 (yAt ps k).rc, .int .i64 (yAt ps k).wt] 53)) := (ButB.refl _ wr).alloc _
   have k5 := blk_new wr (g := wr.heap.size) #[.int .i64 (yAt ps k).id, .int .i64 (yAt ps k).rc, .int .i64 (yAt ps k).wt] 53 rfl
   have p3 := hb1.cell p3 id
   have S1 := HS.out.grow hb1 (fun _ h => h)
   have hz1 : (wr.alloc (.cells #[.int .i64 (yAt ps k).id, .int .i64 (yAt ps k).rc, .int .i64 (yAt ps k).wt] 53)).heap.size = wr.heap.size + 1 := by simp
   generalize hg5 : wr.heap.size = g5 at *
   generalize wr.alloc (.cells #[.int .i64 (yAt ps k).id, .int .i64 (yAt ps k).rc, .int .i64 (yAt ps k).wt] 53) = W1 at *
   have hrc := HT.out.2.2.1.rc k hlt
   have hrl := HT.out.2.2.1.rcl k hlt
   have hr24 : rcF ps k < 24 := by omega
   have hrz : (rcF ps k : Int) < 24 := by omega
   have y1 : W1.cell? ⟨g5, 1, none⟩ = some (.int .i64 (rcF ps k : Int)) := by rw [← rc_cast HT.out.2.2.1 hlt]; exact cr 1 k5
   refine wpIn_region_W (fun j => j != 11) ?_
   have y1 : W1.drew.cell? _ = _ := y1
   have p3 : W1.drew.cell? _ = _ := p3
   have x2 : W1.drew.cell? ⟨w.heap.size, 2, none⟩ = _ := cr 2 S1.b0
   have a0 : W1.drew.cell? ⟨w.heap.size + 1 + 1, rcF ps k, none⟩ = _ := S1.a2.cell hr24
   have f0 : W1.drew.frozen? ⟨w.heap.size + 1 + 1, rcF ps k, none⟩ = false := S1.a2.frozen _
   have hld := load_rng (rc := rcF ps) HT.out.2.2.2.2.1 (rcF ps k) k hk
   have hnk := HT.out.2.2.2.2.1 k hlt
   have hadd : IntKind.i64.wrap (load (rcF ps) (nth xs) k (rcF ps k) + nth xs k) = load (rcF ps) (nth xs) k (rcF ps k) + nth xs k := IntWalk.i64_in _ (by omega)
   have hbs : ButB (fun b => b = w.heap.size + 1 + 1) W1 (W1.drew.setCell ⟨w.heap.size + 1 + 1, rcF ps k, none⟩ (.int .i64 (load (rcF ps) (nth xs) k (rcF ps k) + nth xs k))) := ButB.set (p := fun b => b = w.heap.size + 1 + 1) (ButB.refl _ W1).drew (a := ⟨w.heap.size + 1 + 1, rcF ps k, none⟩) rfl _
   have hst := ArrAt.set (ArrAt.block S1.a2 (W' := W1.drew) rfl) hr24 (load (rcF ps) (nth xs) k (rcF ps k) + nth xs k)
   rw [← load_succ] at hst
   have S2 := S1.but hbs (by intro b e; omega) hst (S1.a3.block (hbs.same _ S1.a3.lt (by omega)))
   have HS2 := Lib.hid S2
   clear hbs hst S2 S1 HS k5 hb1 p0 p1 p2
   generalize hX : W1.drew = X0 at *
   refine bF 0 rfl ?_
   refine bT y1 1 rfl ?_
   refine bF 2 rfl ?_
   refine bT a0 3 rfl ?_
   refine bF 4 rfl ?_
   refine bT x2 5 rfl ?_
   refine bF 6 rfl ?_
   refine bF 7 rfl ?_
   refine bT p3 8 rfl ?_
   refine bF 9 rfl ?_
   refine bF 10 rfl ?_
   refine bR 11 rfl fun K hK => ?_
   go_simp
   refine hK.out _ _ (fun h => by cases h) ?_
   refine bD ?_
   refine eo_block ?_
   gi_wp2
   go_roundw
   case rel => exact ⟨k + 1, by omega, by go_num, HS2.out⟩
   case measure => simp only [intOf]; omega
  ·obtain rfl : k = ps.length := by omega
   have r0 := cr 0 hS.b0
   have hb7 : ButB (fun _ => False) wr (wr.alloc (.cells #[.slice A rs.length c] 39)) := (ButB.refl _ wr).alloc _
   have S7 := hS.grow hb7 (fun _ h => h)
   have hbk := fun W => callsIn_wide (n := n - 1).2 (backward_any A rs.length c W)
   have hseq := bw_seq (n - 1) h2 A c rs hrn w.heap.size wr (HT.out.1.r.ext hS.bl (Nat.le_refl _)) hS.bl.size
   have hlw := hS.lt
   clear hS
   gi_wp2_with (refine ⟨trivial, ?_⟩; refine (hbk _).mono ?_; rintro e w' ⟨rfl, rfl⟩)
   clear r0
   have hz7 : (wr.alloc (.cells #[.slice A rs.length c] 39)).heap.size = wr.heap.size + 1 := by simp
   have hsame : ButB (fun b => b = w.heap.size + 1 + 1 ∨ b = w.heap.size + 1 + 1 + 1) (wr.alloc (.cells #[.slice A rs.length c] 39)) (wr.alloc (.cells #[.slice A rs.length c] 39)) := ButB.refl _ _
   generalize hg7 : wr.heap.size = g7 at *
   generalize wr.alloc (.cells #[.slice A rs.length c] 39) = W7 at *
   have H7 := Lib.hid S7
   clear S7 hb7 hbk
   have hat0 : ∀ r, r < rs.length → 0 ≤ load (rcF ps) (nth xs) ps.length r := fun r _ => (load_rng (rc := rcF ps) HT.out.2.2.2.2.1 r ps.length (Nat.le_refl _)).1
   have hsumt : sumTo (load (rcF ps) (nth xs) ps.length) rs.length ≤ 1073741824 * 24 := by
    rw [load_total HT.out.2.2.1.rcl]
    have := sumTo_rng (by decide) HT.out.2.2.2.2.1 ps.length (Nat.le_refl _)
    omega
   have hle := fun (j r : Nat) (hj : j ≤ rs.length) (hr : r < rs.length - j) => atS_le (co := coF rs) HT.out.2.1.ab (fun r hr => (HT.out.2.1.co r hr).1) hat0 hsumt hj hr
   have HL := Lib.hid hle
   clear hle hat0 hsumt
   refine wpIn_range_box rfl h1 (gf := 79) (lb := #[.pointer (some ⟨g7, 0, none⟩)]) rfl trivial eg_bw1 hseq KeepB.trans
    (fun W l o hl => KeepB.put W l o (by unfold bwK; omega)) (Below.refl _ _) (by intro b hb; cases hb) (by intro _; rfl)
    (fun pre W => (ArrAt W (w.heap.size + 1 + 1) 125 24 ((atS (abF rs) (coF rs) rs.length (load (rcF ps) (nth xs) ps.length)) pre.length) ∧ ArrAt W (w.heap.size + 1 + 1 + 1) 125 24 (otS (abF rs) (coF rs) rs.length (load (rcF ps) (nth xs) ps.length) pre.length)) ∧ ButB (fun b => b = w.heap.size + 1 + 1 ∨ b = w.heap.size + 1 + 1 + 1) W7 W) (fun _ _ _ => False)
    (Abide.and (Abide.and (arr_abide (fun pre : List Nat => (atS (abF rs) (coF rs) rs.length (load (rcF ps) (nth xs) ps.length)) pre.length) (by omega) (by intro e; cases e)) (arr_abide (fun pre : List Nat => otS (abF rs) (coF rs) rs.length (load (rcF ps) (nth xs) ps.length) pre.length) (by omega) (by intro e; cases e))) (ButB.abide (Nat.le_refl _) (by intro b e; cases e)))
    (fun _ _ _ _ _ h _ _ => h) ⟨⟨H7.out.a2, by rw [List.length_nil, otS_zero]; exact H7.out.a3⟩, hsame⟩ ?round ?done ?stop
   case round =>
    rintro l pre x rest W hf ⟨⟨hA2, hA3⟩, hB⟩ hsz
    have hxm := dn_at hf
    have hj : pre.length < rs.length := by omega
    have hx24 : x < 24 := by omega
    have hxz : (x : Int) < 24 := by omega
    have hA := HL.out pre.length x (by omega) (by omega)
    have hco := HT.out.2.1.co x (by omega)
    have hab := HT.out.2.1.up x (by omega)
    have hcoF : coF rs x = (rAt rs x).co := rfl
    have habF : abF rs x = (rAt rs x).ab := rfl
    have hout := outS_at (ab := abF rs) (co := coF rs) (at0 := load (rcF ps) (nth xs) ps.length) hxm
    gi_wp2
    have hgW := World.grownBy_alloc W (.cells #[.int .i64 (rAt rs x).ab, .int .i64 (rAt rs x).co] 65) none
    have k8 := blk_new W (g := W.heap.size) #[.int .i64 (rAt rs x).ab, .int .i64 (rAt rs x).co] 65 rfl
    have hB1 := hB.alloc (.cells #[.int .i64 (rAt rs x).ab, .int .i64 (rAt rs x).co] 65)
    have hA2 := hA2.kept hgW (fun _ e => by cases e)
    have hA3 := hA3.kept hgW (fun _ e => by cases e)
    refine ⟨KeepsFrom.of_grownBy hgW (fun j e => by cases e), KeepB.grown hgW (fun r e => by cases e) (by unfold bwK; omega), ?_⟩
    intro W2 r hr hg2 ho2
    have kZ : Blk W2 W.heap.size #[.int .i64 (rAt rs x).ab, .int .i64 (rAt rs x).co] 65 := heap_kept k8 rfl hg2 (fun r' e => by cases e; exact ho2)
    have hB2 := hB1.grown hg2 (by intro r' e; cases e; exact .inr (by omega))
    have hZ2 := hA2.kept hg2 (fun r' e => by cases e; exact ho2)
    have hZ3 := hA3.kept hg2 (fun r' e => by cases e; exact ho2)
    have hz2 := hg2.size
    rw [World.size_alloc] at hz2
    generalize hg8 : W.heap.size = g8 at *
    generalize W.alloc (.cells #[.int .i64 (rAt rs x).ab, .int .i64 (rAt rs x).co] 65) = W1 at *
    clear hA2 hA3 hgW hB1 hB hg2 ho2 hseq
    gi_wp2
    refine wpIn_region_R (fun j => j != 9) ?_
    have a2 : W2.drew.cell? ⟨w.heap.size + 1 + 1, x, none⟩ = _ := hZ2.cell hx24
    have y1 : W2.drew.cell? ⟨g8, 1, none⟩ = _ := cr 1 kZ
    have f3 : W2.drew.frozen? ⟨w.heap.size + 1 + 1 + 1, x, none⟩ = false := hZ3.frozen x
    have c3 : W2.drew.cell? ⟨w.heap.size + 1 + 1 + 1, x, none⟩ = _ := hZ3.cell hx24
    have hsub : IntKind.i64.wrap ((atS (abF rs) (coF rs) rs.length (load (rcF ps) (nth xs) ps.length)) pre.length x - (rAt rs x).co) = (atS (abF rs) (coF rs) rs.length (load (rcF ps) (nth xs) ps.length)) pre.length x - coF rs x := IntWalk.i64_in _ (by omega)
    have hite : (if (rAt rs x).co < (atS (abF rs) (coF rs) rs.length (load (rcF ps) (nth xs) ps.length)) pre.length x then (atS (abF rs) (coF rs) rs.length (load (rcF ps) (nth xs) ps.length)) pre.length x - (rAt rs x).co else 0) = (outS (abF rs) (coF rs) rs.length (load (rcF ps) (nth xs) ps.length)) x := by rw [hout]; split <;> omega
    have hV : 0 ≤ (outS (abF rs) (coF rs) rs.length (load (rcF ps) (nth xs) ps.length)) x ∧ (outS (abF rs) (coF rs) rs.length (load (rcF ps) (nth xs) ps.length)) x ≤ 1073741824 * 24 := by rw [hout]; omega
    have hs3 := otS_succ (ab := abF rs) (co := coF rs) (at0 := load (rcF ps) (nth xs) ps.length) hxm
    have hlen : (pre ++ [x]).length = pre.length + 1 := by simp
    rw [← hlen] at hs3
    have hkeep : KeepsFrom W7.heap.size W2 (W2.drew.setCell ⟨w.heap.size + 1 + 1 + 1, x, none⟩ (.int .i64 ((outS (abF rs) (coF rs) rs.length (load (rcF ps) (nth xs) ps.length)) x))) := ((KeepsOthers.drew W2).trans (KeepsOthers.setCell W2.drew ⟨w.heap.size + 1 + 1 + 1, x, none⟩ (.int .i64 ((outS (abF rs) (coF rs) rs.length (load (rcF ps) (nth xs) ps.length)) x)))).from _
    have hkb : KeepB (bwK w.heap.size g7) W2 (W2.drew.setCell ⟨w.heap.size + 1 + 1 + 1, x, none⟩ (.int .i64 ((outS (abF rs) (coF rs) rs.length (load (rcF ps) (nth xs) ps.length)) x))) := (KeepB.drew W2).trans (KeepB.set _ ⟨w.heap.size + 1 + 1 + 1, x, none⟩ (.int .i64 ((outS (abF rs) (coF rs) rs.length (load (rcF ps) (nth xs) ps.length)) x)) (by unfold bwK; dsimp only; omega))
    have hbb := ButB.set (p := fun b => b = w.heap.size + 1 + 1 ∨ b = w.heap.size + 1 + 1 + 1) hB2.drew (a := ⟨w.heap.size + 1 + 1 + 1, x, none⟩) (.inr rfl) (.int .i64 ((outS (abF rs) (coF rs) rs.length (load (rcF ps) (nth xs) ps.length)) x))
    have hn3 := ArrAt.set (ArrAt.block hZ3 (W' := W2.drew) rfl) hx24 ((outS (abF rs) (coF rs) rs.length (load (rcF ps) (nth xs) ps.length)) x)
    have hn2 := ArrAt.other (ArrAt.block hZ2 (W' := W2.drew) rfl) ⟨w.heap.size + 1 + 1 + 1, x, none⟩ (.int .i64 ((outS (abF rs) (coF rs) rs.length (load (rcF ps) (nth xs) ps.length)) x)) (by dsimp only; omega)
    have hn8 : Blk (W2.drew.setCell ⟨w.heap.size + 1 + 1 + 1, x, none⟩ (.int .i64 ((outS (abF rs) (coF rs) rs.length (load (rcF ps) (nth xs) ps.length)) x))) g8 #[.int .i64 (rAt rs x).ab, .int .i64 (rAt rs x).co] 65 := (Below.heap_setCell W2.drew ⟨w.heap.size + 1 + 1 + 1, x, none⟩ (.int .i64 ((outS (abF rs) (coF rs) rs.length (load (rcF ps) (nth xs) ps.length)) x)) g8 (by dsimp only; omega)).trans kZ
    rw [← hs3] at hn3
    have HH := hd6 hkeep hkb hbb hn3 hn2 hn8
    have HV := hd2 hV hA
    have HE := Lib.hid hlen
    clear hlen hout hkeep hkb hbb hn3 hn2 hn8 hZ2 hZ3 kZ hB2 hs3 hA hV
    generalize hX : W2.drew = X0 at *
    refine bF 0 rfl ?_
    refine bF 1 rfl ?_
    refine bF 2 rfl ?_
    refine bT a2 3 rfl ?_
    refine bF 4 rfl ?_
    refine bT y1 5 rfl ?_
    refine bF 6 rfl ?_
    refine bF 7 rfl ?_
    refine bF 8 rfl ?_
    refine bR 9 rfl fun K hK => ?_
    go_simp
    refine hK.out _ _ (fun h => by cases h) ?_
    refine bD ?_
    refine eo_then ?_
    generalize hX1 : X0.setCell ⟨w.heap.size + 1 + 1 + 1, x, none⟩ (.int .i64 ((outS (abF rs) (coF rs) rs.length (load (rcF ps) (nth xs) ps.length)) x)) = X1 at *
    clear a2 y1 f3 c3 hsub hX hX1 hite hK
    have y0 := cr 0 HH.out.2.2.2.2.2
    by_cases h0 : 0 ≤ (rAt rs x).ab
    ·have hup := atS_up (co := coF rs) (at0 := load (rcF ps) (nth xs) ps.length) (ab := abF rs) hxm h0
     rw [← HE.out] at hup
     obtain ⟨y, hy⟩ : ∃ y : Nat, (rAt rs x).ab = (y : Int) := ⟨(rAt rs x).ab.toNat, by omega⟩
     rw [habF, hy, Int.toNat_natCast] at hup
     rw [hy] at y0
     have hyx : y < x := by omega
     have hy24 : y < 24 := by omega
     have hyz : (y : Int) < 24 := by omega
     have hA := HL.out pre.length y (by omega) (by omega)
     have hv := HV.out.1
     have hadd : IntKind.i64.wrap ((atS (abF rs) (coF rs) rs.length (load (rcF ps) (nth xs) ps.length)) pre.length y + (outS (abF rs) (coF rs) rs.length (load (rcF ps) (nth xs) ps.length)) x) = (atS (abF rs) (coF rs) rs.length (load (rcF ps) (nth xs) ps.length)) pre.length y + (outS (abF rs) (coF rs) rs.length (load (rcF ps) (nth xs) ps.length)) x := IntWalk.i64_in _ (by omega)
     clear hA hv
     gi_upto_region 12 with fail
     refine wpIn_region_R (fun j => j != 9) ?_
     have y0 : X1.drew.cell? ⟨g8, 0, none⟩ = _ := y0
     have a2 : X1.drew.cell? ⟨w.heap.size + 1 + 1, y, none⟩ = _ := HH.out.2.2.2.2.1.cell hy24
     have f2 : X1.drew.frozen? ⟨w.heap.size + 1 + 1, y, none⟩ = false := HH.out.2.2.2.2.1.frozen y
     have a3 : X1.drew.cell? ⟨w.heap.size + 1 + 1 + 1, x, none⟩ = some (.int .i64 ((outS (abF rs) (coF rs) rs.length (load (rcF ps) (nth xs) ps.length)) x)) := by
      have := HH.out.2.2.2.1.cell hx24
      rw [otS, if_pos (by have := HE.out; omega)] at this
      exact this
     have hkeep := HH.out.1.trans (((KeepsOthers.drew X1).trans (KeepsOthers.setCell X1.drew ⟨w.heap.size + 1 + 1, y, none⟩ (.int .i64 ((atS (abF rs) (coF rs) rs.length (load (rcF ps) (nth xs) ps.length)) pre.length y + (outS (abF rs) (coF rs) rs.length (load (rcF ps) (nth xs) ps.length)) x)))).from W7.heap.size)
     have hkb := HH.out.2.1.trans ((KeepB.drew X1).trans (KeepB.set _ ⟨w.heap.size + 1 + 1, y, none⟩ (.int .i64 ((atS (abF rs) (coF rs) rs.length (load (rcF ps) (nth xs) ps.length)) pre.length y + (outS (abF rs) (coF rs) rs.length (load (rcF ps) (nth xs) ps.length)) x)) (by unfold bwK; dsimp only; omega)))
     have hbb := ButB.set (p := fun b => b = w.heap.size + 1 + 1 ∨ b = w.heap.size + 1 + 1 + 1) HH.out.2.2.1.drew (a := ⟨w.heap.size + 1 + 1, y, none⟩) (.inl rfl) (.int .i64 ((atS (abF rs) (coF rs) rs.length (load (rcF ps) (nth xs) ps.length)) pre.length y + (outS (abF rs) (coF rs) rs.length (load (rcF ps) (nth xs) ps.length)) x))
     have hn2 := ArrAt.set (ArrAt.block HH.out.2.2.2.2.1 (W' := X1.drew) rfl) hy24 ((atS (abF rs) (coF rs) rs.length (load (rcF ps) (nth xs) ps.length)) pre.length y + (outS (abF rs) (coF rs) rs.length (load (rcF ps) (nth xs) ps.length)) x)
     have hn3 := ArrAt.other (ArrAt.block HH.out.2.2.2.1 (W' := X1.drew) rfl) ⟨w.heap.size + 1 + 1, y, none⟩ (.int .i64 ((atS (abF rs) (coF rs) rs.length (load (rcF ps) (nth xs) ps.length)) pre.length y + (outS (abF rs) (coF rs) rs.length (load (rcF ps) (nth xs) ps.length)) x)) (by dsimp only; omega)
     rw [← hup] at hn2
     have HF := hd4 hkeep hkb (And.intro hn2 hn3) hbb
     clear hkeep hkb hn2 hn3 hbb HH hup
     generalize hX : X1.drew = X2 at *
     refine bF 0 rfl ?_
     refine bT y0 1 rfl ?_
     refine bF 2 rfl ?_
     refine bT a2 3 rfl ?_
     refine bF 4 rfl ?_
     refine bF 5 rfl ?_
     refine bT a3 6 rfl ?_
     refine bF 7 rfl ?_
     refine bF 8 rfl ?_
     refine bR 9 rfl fun K hK => ?_
     go_simp
     refine hK.out _ _ (fun h => by cases h) ?_
     refine bD ?_
     exact HF.out
    ·have hup := atS_root (co := coF rs) (at0 := load (rcF ps) (nth xs) ps.length) (ab := abF rs) hxm h0
     rw [← HE.out] at hup
     have HU := Lib.hid hup
     clear hup
     gi_wp2
     exact ⟨by rw [← hz7]; exact HH.out.1, HH.out.2.1, ⟨⟨HU.out ▸ HH.out.2.2.2.2.1, HH.out.2.2.2.1⟩, HH.out.2.2.1⟩⟩
   case done =>
    rintro D W hD ⟨⟨hA2, hA3⟩, hB⟩ hK
    rw [dn_len] at hA2 hA3
    rw [oF_ot] at hA3
    have S8 := H7.out.but hB (by intro b hb; omega) hA2 hA3
    have hM := Mk.cons (Mk.nil (w.heap.size + 4) W) (by omega) hK (fun D' h => by cases h)
    gi_upto_region 13 with fail
    gi_step
    obtain ⟨W', hst, ha, hb, -⟩ := arr_store S8.a1 (oF rs ps (nth xs))
    refine wpListIn_plain rfl fun K hK => wpIn_op_load (fun _ => trivial) 125 _ rfl (by rfl) (arr_load S8.a3) (hK _ _ ?_)
    refine wpListIn_plain rfl fun K hK => wpIn_op_store (fun _ => trivial) 125 _ _ rfl (by rfl) (by rfl) hst (hK _ _ ?_)
    gi_wp2
    have hM2 := hM.but hb (by intro b e; subst e; exact not_def_of_cell (S8.a1.cell (show 0 < 24 by omega)))
    refine mk_leave (B := w.heap.size + 4) hM2 fun W2 hB2 => ?_
    have ha2 : ArrAt W2 (w.heap.size + 1) 125 24 (oF rs ps (nth xs)) := ha.block (hB2.same _ ha.lt (fun h => by omega))
    refine ⟨_, results_cell1 Tryz.results94 _ _ ⟨w.heap.size + 1, 0, none⟩ _ (by rfl) (arr_var ha2), rfl, ?_⟩
    exact (S8.bl.trans (hb.below S8.bl.size (by intro b hb e; omega))).trans (hB2.below (Nat.le_trans S8.bl.size hb.size) (by intro b hb e; omega))
   case stop =>
    rintro D c pre x rest W _ _ h _
    exact h.elim
end Go.Proofs.YtegmniphgahblaaGreat
