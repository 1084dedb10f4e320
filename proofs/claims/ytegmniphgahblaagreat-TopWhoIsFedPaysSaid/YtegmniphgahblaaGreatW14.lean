/- Walks: whole. -/
import Derived.Test.YtegmniphgahblaaGreatW7
import Derived.Test.YtegmniphgahblaaGreatW8
import Derived.Test.YtegmniphgahblaaGreatM12
import Derived.Sort.CutIn
import Derived.Sort.MapsRangeIn
namespace Go.Proofs.YtegmniphgahblaaGreat
open Go.RowKit Go.Shelf Go.Maps
attribute [local go_sem] Oper.semAt_some

theorem whole1_any (p : Pay) (w : World) : Calls Tryz.prog 93 #[p.v] w fun e w' => e = .returned (.bool true) ∧ Below w.heap.size w w' := by
 obtain ⟨pid, prc, pwt⟩ := p
 unfold Pay.v
 dsimp only
 have HB := Lib.hid ((Below.refl _ w).alloc (Nat.le_refl _) (.cells #[.int .i64 pid, .int .i64 prc, .int .i64 pwt] 53))
 go_enter Tryz.func93, Tryz.ntmps93
 go_wp2
 go_ret
 exact ⟨rfl, HB.out⟩
/-- Which reaches are in the map. -/
def FB (g : Nat → Bool) (x : Int) : Option Unit := if 0 ≤ x ∧ g x.toNat = true then some () else none
theorem FB_none : FB (fun _ => false) = fun _ => none := by
 funext x
 unfold FB
 rw [if_neg (by simp)]
theorem FB_put (g : Nat → Bool) (y : Nat) : upd (FB g) (y : Int) () = FB (fun r => g r || decide (r = y)) := by
 funext x
 unfold upd FB
 by_cases h : x = (y : Int)
 ·subst h
  rw [if_pos rfl, if_pos ⟨by omega, by simp⟩]
 ·rw [if_neg h]
  by_cases h0 : 0 ≤ x
  ·have : ¬ x.toNat = y := by omega
   simp [h0, this]
  ·rw [if_neg (fun k => h0 k.1), if_neg (fun k => h0 k.1)]
/-- The reaches that have been met. -/
def usTo (rs : List Rch) (ps : List Pay) (k : Nat) (pre : List Nat) (r : Nat) : Bool := decide (0 < allTo rs ps k r) || decide (r ∈ pre)
theorem usTo_snoc (rs : List Rch) (ps : List Pay) (k : Nat) (pre : List Nat) (y : Nat) : usTo rs ps k (pre ++ [y]) = fun r => usTo rs ps k pre r || decide (r = y) := by
 funext r
 unfold usTo
 rw [Bool.or_assoc]
 congr 1
 simp [Bool.decide_or]
theorem usTo_all {rs : List Rch} {ps : List Pay} (ok : RsOk rs) (h : PsOk rs ps) {k : Nat} (hk : k < ps.length) : usTo rs ps k (way (abF rs) (yAt ps k).rc) = usTo rs ps (k + 1) [] := by
 funext r
 have e : allTo rs ps (k + 1) r = allTo rs ps k r + (if usF rs ps k r = true then wtF ps k else 0) := rfl
 have h1 := allTo_mono h r (show k ≤ ps.length by omega) (Nat.le_refl _)
 have h3 := h.wt k hk
 have h4 : wtF ps k = (yAt ps k).wt := rfl
 unfold usTo
 have hw := way_us ok h hk r
 by_cases hu : usF rs ps k r = true
 ·rw [if_pos hu] at e
  rw [decide_eq_true (hw.2 hu), Bool.or_true, decide_eq_true (show 0 < allTo rs ps (k + 1) r by omega), Bool.true_or]
 ·rw [if_neg hu] at e
  rw [decide_eq_false (fun k => hu (hw.1 k)), Bool.or_false, show allTo rs ps (k + 1) r = allTo rs ps k r by omega]
  simp
theorem usTo_zero (rs : List Rch) (ps : List Pay) : usTo rs ps 0 [] = fun _ => false := by
 funext r
 show (decide ((0 : Int) < 0) || decide (r ∈ [])) = false
 simp
/-- The costs of the reaches of a set that a range has handed out. -/
def gone (rs : List Rch) (g : Nat → Bool) (left : Lit → Bool) : Int := sumTo (fun r => if (g r && !left (.int .i64 (r : Int))) = true then coF rs r else 0) rs.length
theorem same_int (a b : Int) : (Lit.int .i64 a).sameKey (.int .i64 b) = decide (a = b) := by
 simp [Lit.sameKey]
theorem gone_step {rs : List Rch} {g : Nat → Bool} {left : Lit → Bool} {x : Nat} (hx : x < rs.length) (hg : g x = true) (hl : left (.int .i64 (x : Int)) = true) : gone rs g (fun z => left z && !z.sameKey (.int .i64 (x : Int))) = gone rs g left + coF rs x := by
 have one := sumTo_one x (coF rs x) rs.length
 rw [if_pos hx] at one
 unfold gone
 rw [← one, ← sumTo_add]
 refine sumTo_congr fun r _ => ?_
 by_cases h : r = x
 ·subst h
  simp [same_int, hg, hl]
 ·have : ¬ ((r : Int) = (x : Int)) := by omega
  simp [same_int, this, h]
def SetD (g : Nat → Bool) (D : DataW Unit) : Prop := ∀ x : Int, (FB g x = none → Maps.has D (.int .i64 x) = false) ∧ (∀ y, FB g x = some y → Maps.has D (.int .i64 x) = true ∧ ∀ z, D.atKey (.int .i64 x) z = .lit (.bool true))
theorem set_mem {g : Nat → Bool} {D : DataW Unit} (hD : SetD g D) {x : Int} (h : Maps.has D (.int .i64 x) = true) : 0 ≤ x ∧ g x.toNat = true := by
 by_cases h0 : 0 ≤ x ∧ g x.toNat = true
 ·exact h0
 ·have := (hD x).1 (if_neg h0)
  rw [this] at h
  cases h
theorem set_has {g : Nat → Bool} {D : DataW Unit} (hD : SetD g D) {r : Nat} (h : g r = true) : Maps.has D (.int .i64 (r : Int)) = true := ((hD r).2 () (if_pos ⟨by omega, by simpa using h⟩)).1
theorem gone_start {rs : List Rch} {g : Nat → Bool} {D : DataW Unit} (hD : SetD g D) : gone rs g (Maps.has D) = 0 := by
 refine (sumTo_congr (g := fun _ => 0) fun r _ => ?_).trans (sumTo_zero _)
 cases h : g r
 ·exact if_neg (by simp)
 ·exact if_neg (by rw [set_has hD h]; simp)
theorem gone_end {rs : List Rch} {ps : List Pay} {left : Lit → Bool} (h : ∀ kl, left kl = false) : gone rs (usedB rs ps) left = wholeF rs ps := sumTo_congr fun r _ => by
 unfold cuF
 rw [h]
 simp
theorem gone_le {rs : List Rch} (ok : RsOk rs) {g : Nat → Bool} {left : Lit → Bool} : 0 ≤ gone rs g left ∧ gone rs g left ≤ 65536 * 24 := by
 have h1 : ∀ k, k ≤ rs.length → 0 ≤ sumTo (fun r => if (g r && !left (.int .i64 (r : Int))) = true then coF rs r else 0) k ∧ sumTo (fun r => if (g r && !left (.int .i64 (r : Int))) = true then coF rs r else 0) k ≤ 65536 * k := fun k => by
  induction k with
  | zero => intro _; exact ⟨Int.le_refl _, Int.le_refl _⟩
  | succ k ih =>
   intro hk
   have h1 := ih (by omega)
   have h2 := ok.co k (by omega)
   have h3 : coF rs k = (rAt rs k).co := rfl
   simp only [sumTo]
   split <;> omega
 have := h1 rs.length (Nat.le_refl _)
 have := ok.n
 unfold gone
 omega
set_option maxRecDepth 100000 in
theorem boolInv (v : Value) (y : DataW Unit × List MemPlace) (h : plainElem Tryz.prog 4 v = some y) : ∃ c, v = .bool c := by
 unfold plainElem at h
 rw [Tryz.underlying4] at h
 cases v <;> simp at h
 exact ⟨_, rfl⟩
/-- What whole holds between two payers. -/
structure AlS (w : World) (t : Tr) (N : Nat) (g : Nat → Bool) (W : World) : Prop where
 bl : Below w.heap.size w W
 b0 : Blk W w.heap.size t.cells 42
 m1 : ∃ c, c ≤ N ∧ MapB W (w.heap.size + 1) c (FB g)
 b2 : Blk W (w.heap.size + 1 + 1) #[.map (some (w.heap.size + 1))] 133
 lt : w.heap.size + 3 ≤ W.heap.size
theorem AlS.but {w W W' : World} {t : Tr} {N N' : Nat} {g g' : Nat → Bool} {p : Nat → Prop} (h : AlS w t N g W) (hb : ButB p W W') (hp : ∀ b, p b → b = w.heap.size + 1 ∨ w.heap.size + 3 ≤ b) (hm : ∃ c, c ≤ N' ∧ MapB W' (w.heap.size + 1) c (FB g')) : AlS w t N' g' W' := by
 have hl := h.lt
 exact ⟨h.bl.trans (hb.below (by omega) fun b hb hpb => by have := hp b hpb; omega), hb.heap h.b0 (fun hpb => by have := hp _ hpb; omega), hm, hb.heap h.b2 (fun hpb => by have := hp _ hpb; omega), Nat.le_trans hl hb.size⟩
theorem map_but {W W' : World} {b c : Nat} {f : Int → Option Unit} {p : Nat → Prop} (h : MapB W b c f) (hb : ButB p W W') (hp : ¬ p b) : MapB W' b c f := h.block (hb.same b h.lt hp)
theorem map_abide {B b : Nat} {bs : Option Nat} {β : Type} (F : β → Int → Option Unit) (N : β → Nat) (hb : bs ≠ some b) (hB : b < B) : Abide B bs (fun s W => MapB W b (N s) (F s)) := fun s W W' row hs hg hr => hs.kept hg fun e => by
 rcases hr b e.symm with h | h
 ·exact hb h
 ·omega
theorem map_heap {w : World} {b n : Nat} {f : Int → Option Unit} (h : MapB w b n f) : ∃ es clock, w.heap[b]? = some (.map es clock) := by
 obtain ⟨D, ⟨es, clock, h1, _⟩, _⟩ := h
 exact ⟨es, clock, h1⟩
set_option maxRecDepth 100000 in
theorem eg_whole1 : ∀ args w, (callFunc 93 args).run Tryz.prog w = .ok (.enter 93 args) w := fun _ _ => by rfl
set_option maxRecDepth 100000 in
set_option maxHeartbeats 3200000 in
theorem alone_in (n : Nat) (hn : 3 ≤ n) (t : Tr) (ok : RsOk t.rs) (pk : PsOk t.rs t.ps) (w : World) (ht : TrAt w w.heap.size t) :
  CallsIn Fence.wide n Tryz.prog 92 #[t.v, .func (.func 93) #[] #[]] w fun e w' => e = .returned (.int .i64 (wholeF t.rs t.ps)) ∧ Below w.heap.size w w' := by
 have h1 : 1 ≤ n := by omega
 have h2 : 1 ≤ n - 1 := by omega
 obtain ⟨A, c, rs, B, d, ps⟩ := t
 dsimp only [Tr.v] at *
 have hmm := @run_makeMap Tryz.prog
 refine callsIn_of_wp_marks Tryz.func92 rfl trivial ?_ rfl
 simp only [Tryz.ntmps92, List.size_toArray, List.length_cons, List.length_nil, Nat.reduceAdd, Nat.reduceSub, Array.replicate_succ, Array.replicate_zero, List.push_toArray, List.append_toArray, List.nil_append, List.cons_append]
 gi_upto_region 3 with fail
 have hpn := pk.n
 have hb3 : Below w.heap.size w (((w.alloc (.cells #[.slice A rs.length c, .slice B ps.length d] 42)).alloc (.map #[] 0)).alloc (.cells #[.map (some (w.heap.size + 1))] 133)) := (((Below.refl _ w).alloc (Nat.le_refl _) _).alloc (by simp) _).alloc (by simp; omega) _
 have k0 : Blk (((w.alloc (.cells #[.slice A rs.length c, .slice B ps.length d] 42)).alloc (.map #[] 0)).alloc (.cells #[.map (some (w.heap.size + 1))] 133)) w.heap.size #[.slice A rs.length c, .slice B ps.length d] 42 := blk_alloc (blk_alloc (blk_new w _ _ rfl) _) _
 have m1 : MapB (((w.alloc (.cells #[.slice A rs.length c, .slice B ps.length d] 42)).alloc (.map #[] 0)).alloc (.cells #[.map (some (w.heap.size + 1))] 133)) (w.heap.size + 1) 0 (FB (fun _ => false)) := by
  rw [FB_none]
  have := (MapI.made (w.alloc (.cells #[.slice A rs.length c, .slice B ps.length d] 42)) (plainElem Tryz.prog 4) (fun _ : Unit => .lit (.bool true))).block (w' := (((w.alloc (.cells #[.slice A rs.length c, .slice B ps.length d] 42)).alloc (.map #[] 0)).alloc (.cells #[.map (some (w.heap.size + 1))] 133))) (Below.heap_alloc _ _ _ (by simp))
  simpa using this
 have k2 : Blk (((w.alloc (.cells #[.slice A rs.length c, .slice B ps.length d] 42)).alloc (.map #[] 0)).alloc (.cells #[.map (some (w.heap.size + 1))] 133)) (w.heap.size + 1 + 1) #[.map (some (w.heap.size + 1))] 133 := blk_new ((w.alloc (.cells #[.slice A rs.length c, .slice B ps.length d] 42)).alloc (.map #[] 0)) (g := w.heap.size + 1 + 1) _ _ (by simp)
 have S0 : AlS w ⟨A, c, rs, B, d, ps⟩ (24 * 0) (usTo rs ps 0 []) (((w.alloc (.cells #[.slice A rs.length c, .slice B ps.length d] 42)).alloc (.map #[] 0)).alloc (.cells #[.map (some (w.heap.size + 1))] 133)) := ⟨hb3, k0, ⟨0, by omega, by rw [usTo_zero]; exact m1⟩, k2, by simp⟩
 generalize (((w.alloc (.cells #[.slice A rs.length c, .slice B ps.length d] 42)).alloc (.map #[] 0)).alloc (.cells #[.map (some (w.heap.size + 1))] 133)) = W0 at *
 have HT := hd3 ht ok pk
 clear hb3 k0 m1 k2 hmm ht ok pk
 refine wpIn_loop (fun a' W => ∃ (k : Nat) (ds : List Deferred) (u7 u8 u16 u17 u18 u19 u20 u21 u22 u23 u24 u25 u26 u27 u28 u29 u30 : Value), k ≤ ps.length ∧ AlS w ⟨A, c, rs, B, d, ps⟩ (24 * k) (usTo rs ps k []) W ∧ Mk (w.heap.size + 3) W ds ∧ a' = { tmps := #[.agg #[.slice A rs.length c, .slice B ps.length d], .func (.func 93) #[] #[], .pointer (some ⟨w.heap.size, 0, none⟩), undef, .int .i64 0, .pointer (some ⟨w.heap.size + 1 + 1, 0, none⟩), undef, u7, u8, undef, undef, .map (some (w.heap.size + 1)), .pointer (some ⟨w.heap.size, 1, none⟩), .slice B ps.length d, .int .i64 (ps.length : Int), .int .i64 (k : Int), u16, u17, u18, u19, u20, u21, u22, u23, u24, u25, u26, u27, u28, u29, u30, undef, undef, undef, undef, undef, undef, undef, undef, undef, undef, undef, undef, undef, undef, undef], defers := ds })
  (fun a' _ => ps.length - (intOf (a'.tmps.getD 15 undef)).toNat) ?_ ?_
 ·exact ⟨0, [], undef, undef, undef, undef, undef, undef, undef, undef, undef, undef, undef, undef, undef, undef, undef, undef, undef, Nat.zero_le _, S0, Mk.nil _ _, rfl⟩
 rintro a' wr ⟨k, ds, u7, u8, u16, u17, u18, u19, u20, u21, u22, u23, u24, u25, u26, u27, u28, u29, u30, hk, hS, hM, rfl⟩
 by_cases hlt : k < ps.length
 ·have hltz : (k : Int) < (ps.length : Int) := by omega
  obtain ⟨b, off, rfl, lb, hc⟩ := HT.out.1.p (by show 0 < ps.length; omega)
  obtain ⟨q0, q1, q2⟩ := hc k hlt
  dsimp only at q0 q1 q2
  have p0 := (hS.bl.cell (p := ⟨b, off + k * 3, none⟩) lb).trans q0
  have p1 := (hS.bl.cell (p := ⟨b, off + k * 3 + 1, none⟩) lb).trans q1
  have p2 := (hS.bl.cell (p := ⟨b, off + k * 3 + 2, none⟩) lb).trans q2
  clear q0 q1 q2 hc S0
  obtain ⟨c0, hc0, hm0⟩ := hS.m1
  have HS := hd3 hS hM hm0
  have hlw := hS.lt
  clear hS hM hm0
  gi_upto_region 5 with fail
  have hb1 : ButB (fun _ => False) wr (wr.alloc (.cells #[.int .i64 (yAt ps k).id, .int .i64 (yAt ps k).rc, .int .i64 (yAt ps k).wt] 53)) := (ButB.refl _ wr).alloc _
  have k5 := blk_new wr (g := wr.heap.size) #[.int .i64 (yAt ps k).id, .int .i64 (yAt ps k).rc, .int .i64 (yAt ps k).wt] 53 rfl
  have S1 := HS.out.1.but hb1 (fun _ h => h.elim) ⟨c0, hc0, map_but HS.out.2.2 hb1 id⟩
  have M1 := HS.out.2.1.but hb1 (fun _ h => h.elim)
  have m1 := map_but HS.out.2.2 hb1 id
  have hz1 : (wr.alloc (.cells #[.int .i64 (yAt ps k).id, .int .i64 (yAt ps k).rc, .int .i64 (yAt ps k).wt] 53)).heap.size = wr.heap.size + 1 := by simp
  generalize hg5 : wr.heap.size = g5 at *
  generalize wr.alloc (.cells #[.int .i64 (yAt ps k).id, .int .i64 (yAt ps k).rc, .int .i64 (yAt ps k).wt] 53) = W0 at *
  have y0 := cr 0 k5
  have y1 := cr 1 k5
  have y2 := cr 2 k5
  have HS1 := hd4 S1 M1 k5 m1
  clear HS S1 M1 k5 hb1 p0 p1 p2 m1
  gi_upto_region 6 with (refine ⟨trivial, ?_⟩; refine (callsIn_wide.2 (whole1_any (yAt ps k) _)).mono ?_; rintro e W1 ⟨rfl, hbw⟩)
  have hbq : ButB (fun _ => False) W0 W1 := .of_below hbw
  have S1 := HS1.out.1.but hbq (fun _ h => h.elim) ⟨c0, hc0, map_but HS1.out.2.2.2 hbq id⟩
  have M1 := HS1.out.2.1.but hbq (fun _ h => h.elim)
  have k5 := hbq.heap HS1.out.2.2.1 id
  have m1 := map_but HS1.out.2.2.2 hbq id
  have hg1 : g5 + 1 ≤ W1.heap.size := by have := hbw.size; omega
  clear HS1 hbq hbw y0 y1 y2 hz1
  have r0 := cr 0 S1.b0
  have r1 := cr 1 S1.b0
  have r2 := cr 1 k5
  dsimp only [Tr.cells] at r0 r1
  have HS1 := hd4 S1 M1 k5 m1
  clear S1 M1 k5 m1
  have hup := fun W => callsIn_wide (n := n - 1).2 (up_any ⟨A, c, rs, some ⟨b, off, none⟩, d, ps⟩ (yAt ps k).rc W)
  gi_wp2_with (refine ⟨trivial, ?_⟩; refine (hup _).mono ?_; rintro e w' ⟨rfl, rfl⟩)
  have hrc := HT.out.2.2.rc k hlt
  have hb6 : ButB (fun _ => False) W1 ((W1.alloc (.cells (Tr.cells ⟨A, c, rs, some ⟨b, off, none⟩, d, ps⟩) 42)).alloc (.cells #[.int .i64 (yAt ps k).rc] 3)) := ((ButB.refl _ W1).alloc _).alloc _
  have hseq := up_seq (n - 1) h2 ⟨A, c, rs, some ⟨b, off, none⟩, d, ps⟩ HT.out.2.1 (yAt ps k).rc (by omega) hrc.2 w.heap.size W1 (HT.out.1.ext HS1.out.1.bl (Nat.le_refl _)) HS1.out.1.bl.size
  have S6 := HS1.out.1.but hb6 (fun _ h => h.elim) ⟨c0, hc0, map_but HS1.out.2.2.2 hb6 id⟩
  have M6 := HS1.out.2.1.but hb6 (fun _ h => h.elim)
  have m6 := map_but HS1.out.2.2.2 hb6 id
  generalize hg6 : W1.heap.size = g6 at *
  have hz6 : ((W1.alloc (.cells (Tr.cells ⟨A, c, rs, some ⟨b, off, none⟩, d, ps⟩) 42)).alloc (.cells #[.int .i64 (yAt ps k).rc] 3)).heap.size = g6 + 1 + 1 := by simp only [World.size_alloc, hg6]
  have c6 : ((W1.alloc (.cells (Tr.cells ⟨A, c, rs, some ⟨b, off, none⟩, d, ps⟩) 42)).alloc (.cells #[.int .i64 (yAt ps k).rc] 3)).cell? ⟨g6 + 1, 0, none⟩ = some (.int .i64 (yAt ps k).rc) := by rw [← hg6]; simp [go_sem]
  have hsame : ButB (fun b => b = w.heap.size + 1 ∨ b = g6 + 1) ((W1.alloc (.cells (Tr.cells ⟨A, c, rs, some ⟨b, off, none⟩, d, ps⟩) 42)).alloc (.cells #[.int .i64 (yAt ps k).rc] 3)) ((W1.alloc (.cells (Tr.cells ⟨A, c, rs, some ⟨b, off, none⟩, d, ps⟩) 42)).alloc (.cells #[.int .i64 (yAt ps k).rc] 3)) := ButB.refl _ _
  generalize ((W1.alloc (.cells (Tr.cells ⟨A, c, rs, some ⟨b, off, none⟩, d, ps⟩) 42)).alloc (.cells #[.int .i64 (yAt ps k).rc] 3)) = W6 at *
  have H6 := hd3 S6 M6 m6
  clear S6 M6 m6 hb6 hup HS1 r0 r1 r2
  have hwl := way_len HT.out.2.1.ab rs.length (yAt ps k).rc hrc.2 hrc.2
  have hrn := HT.out.2.1.n
  try dsimp only at hwl hrn
  refine wpIn_range_boxP rfl h1 (gf := 73) (lb := #[.pointer (some ⟨g6 + 1, 0, none⟩), .pointer (some ⟨g6, 0, none⟩)]) rfl trivial eg_up1 hseq
   (by rw [hz6]; unfold upK; intro b hb; omega) (Below.refl _ _) (by rw [hz6]; intro b hb; cases hb; omega) (fun _ => rfl)
   (fun pre W => MapB W (w.heap.size + 1) (c0 + pre.length) (FB (usTo rs ps k pre)) ∧ ButB (fun b => b = w.heap.size + 1 ∨ b = g6 + 1) W6 W) (fun _ _ _ => False)
   (Abide.and (map_abide (fun pre => FB (usTo rs ps k pre)) (fun pre : List Nat => c0 + pre.length) (by intro e; cases e; omega) (by omega)) (ButB.abide (Nat.le_refl _) (by intro b e; cases e; exact .inr rfl)))
   (fun _ _ _ _ _ h _ _ => h) ⟨H6.out.2.2, hsame⟩
   (fun x => { tmps := #[.agg #[.slice A rs.length c, .slice (some ⟨b, off, none⟩) ps.length d], .func (.func 93) #[] #[], .pointer (some ⟨w.heap.size, 0, none⟩), undef, .int .i64 0, .pointer (some ⟨w.heap.size + 1 + 1, 0, none⟩), undef, .pointer (some ⟨g5, 0, none⟩), .int .i64 (x : Int), undef, undef, .map (some (w.heap.size + 1)), .pointer (some ⟨w.heap.size, 1, none⟩), .slice (some ⟨b, off, none⟩) ps.length d, .int .i64 (ps.length : Int), .int .i64 (k : Int), .bool true, .pointer (some ⟨b, off + k * 3, none⟩), .agg #[.int .i64 (yAt ps k).id, .int .i64 (yAt ps k).rc, .int .i64 (yAt ps k).wt], .func (.func 93) #[] #[], .agg #[.int .i64 (yAt ps k).id, .int .i64 (yAt ps k).rc, .int .i64 (yAt ps k).wt], .bool true, .bool false, .agg #[.slice A rs.length c, .slice (some ⟨b, off, none⟩) ps.length d], .pointer (some ⟨g5, 1, none⟩), .int .i64 (yAt ps k).rc,
    .func (.func 73) #[] #[.pointer (some ⟨g6 + 1, 0, none⟩), .pointer (some ⟨g6, 0, none⟩)], .int .i64 (x : Int), u28, u29, u30, undef, undef, undef, undef, undef, undef, undef, undef, undef, undef, undef, undef, undef, undef, undef], defers := [] }) ?assign ?body ?done ?stop
  case assign =>
   intro l x W K hK
   gi_wp2
   exact hK
  case body =>
   rintro l pre x rest W hf ⟨hA, hB⟩ hsz
   dsimp only at hf
   obtain ⟨hxp, hxm⟩ := way_fresh HT.out.2.1.ab hrc.2 hf
   have hpl : pre.length < 24 := by
    have := congrArg List.length hf
    rw [List.length_append, List.length_cons] at this
    omega
   have wf : (Lit.int .i64 (x : Int)).wf = true := WalkArith.wf_i64 (by omega)
   have hcell := hB.cell (cr 0 H6.out.1.b2) (by dsimp only; omega)
   have hsn := FB_put (usTo rs ps k pre) x
   rw [← usTo_snoc] at hsn
   have hlen : (pre ++ [x]).length = pre.length + 1 := by simp
   have HB := hd3 hB hsn hlen
   clear hB hsn hlen hseq hf
   gi_wp2_with (gi_at_mapUpdate; refine wpListIn_put rfl _ _ _ 133 rfl 4 (by kernel_rfl) rfl hA (by unfold maxLen; omega) (.bool true) (x : Int) () rfl wf rfl [] (plainElem_bool Tryz.underlying4 true) ?_; intro w1 hm1 hgr)
   rw [HB.out.2.1] at hm1
   refine ⟨KeepsFrom.of_grownBy hgr (fun j e => by cases e; omega), KeepB.grown hgr (fun r e => by cases e; unfold upK; omega) (by unfold upK; intro b hb; omega), ?_, HB.out.1.grown hgr (fun r e => by cases e; exact .inl (.inl rfl))⟩
   rw [HB.out.2.2]
   exact hm1
  case done =>
   rintro D W hD ⟨hA, hB⟩ hK
   gi_wp2
   refine ⟨⟨k + 1, by omega, H6.out.1.but hB (by intro b hb; omega) ⟨c0 + (way (abF rs) (yAt ps k).rc).length, by omega, by rw [← usTo_all HT.out.2.1 HT.out.2.2 hlt]; exact hA⟩, Mk.cons (H6.out.2.1.but hB (by intro b hb; rcases hb with rfl | rfl; (· intro e; obtain ⟨es, cl, h⟩ := map_heap H6.out.2.2; rw [h] at e; cases e); (· exact not_def_of_cell c6))) (by omega) hK (fun D' hD' => by have := H6.out.2.1.lt D' hD'; omega), by simp⟩, by simp [intOf]; omega⟩
  case stop =>
   rintro D c pre x rest W _ _ h _
   exact h.elim
 ·obtain rfl : k = ps.length := by omega
  have hall : usTo rs ps ps.length [] = usedB rs ps := by
   funext r
   unfold usTo usedB allF
   simp
  rw [hall] at hS
  obtain ⟨cN, hcN, D, hown, him, hD⟩ := hS.m1
  have r5 := cr 0 hS.b2
  have HS := hd3 hS hM hD
  have hlw := hS.lt
  clear hS hM hD him S0 hall
  gi_upto_region 12 with (gi_at_range; refine wpListIn_range_own _ rfl _ 133 rfl 3 4 keyI Tryz.underlying133 _ (w.heap.size + 1) cN D rfl hown ?_; intro w0 hrg0 hg0 hs0)
  try go_frame
  have HW := Lib.hid (show ButB (fun b => b = wr.heap.size) wr w0 from (ButB.refl _ wr).grown hg0 (fun r e => by cases e))
  clear hg0 hown r5
  generalize hr0 : wr.heap.size = r0 at *
  gi_loopw [9] (fun s wr2 => ∃ left cnt, wr2.ranges Tryz.prog 3 (plainElem Tryz.prog 4) (w.heap.size + 1) r0 cN D left cnt ∧ (∀ kl, left kl = true → Maps.has D kl = true) ∧ s = .int .i64 (gone rs (usedB rs ps) left) ∧ ButB (fun b => b = r0) wr wr2)
   (fun _ wr2 => wr2.rangeLeft (w.heap.size + 1) r0)
  case atStart =>
   exact ⟨_, _, hrg0, fun _ h => h, by rw [gone_start HS.out.2.2], HW.out⟩
  case round =>
   obtain ⟨left, cnt, hrg, hsub, rfl, hB⟩ := hrel
   have hgl := gone_le (g := usedB rs ps) (left := left) HT.out.2.1
   gi_upto_region 13 with (gi_at_next; refine wpListIn_next_ranges _ rfl _ rfl 3 keyI (plainElem Tryz.prog 4) (Value.int .i64) Value.bool (fun key kl hkey => by obtain ⟨x, rfl, _⟩ := Maps.keyOf_int_inv Tryz.underlying3 hkey; exact ⟨x, rfl⟩) (fun v y hv => boolInv v y hv) (w.heap.size + 1) r0 cN D left cnt rfl hrg (fun hc0 hl0 => ?_) (fun x cc kl y w1 cnt1 hkx hlx hy hat hrg1 hlt1 hg1 hs1 hen => ?_))
   ·skip
    have HE := Lib.hid (gone_end (rs := rs) (ps := ps) hl0)
    have hS2 := HS.out.1.bl.trans (hB.below (by omega) (by intro b hb e; omega))
    have hM2 := HS.out.2.1.but hB (by intro b e; rw [e, ← hr0, Array.getElem?_eq_none (Nat.le_refl _)]; intro h; cases h)
    have HF := hd2 hS2 hM2
    clear hS2 hM2 hB hrg hsub
    gi_wp2
    refine mk_leave (B := w.heap.size + 3) HF.out.2 fun W2 hB2 => ?_
    refine ⟨_, results_tmp rfl _ _ _, ?_, HF.out.1.trans (hB2.below HF.out.1.size (by intro b hb e; omega))⟩
    show Ending.returned (.int .i64 (gone rs (usedB rs ps) left)) = _
    rw [HE.out]
   ·obtain ⟨x', ex, rfl, hwx⟩ := Maps.keyOf_int_inv Tryz.underlying3 hkx
    cases ex
    obtain ⟨hx0, hxg⟩ := set_mem HS.out.2.2 (hsub _ hlx)
    obtain ⟨xr, rfl⟩ : ∃ xr : Nat, x = (xr : Int) := ⟨x.toNat, by omega⟩
    rw [Int.toNat_natCast] at hxg
    have hxm : xr < rs.length := by
     obtain ⟨i, hi, hu⟩ := used_by xr (of_decide_eq_true hxg)
     have := isUp_le HT.out.2.1.ab _ (HT.out.2.2.rcl i hi) hu
     have := HT.out.2.2.rcl i hi
     omega
    have hxz : (xr : Int) < (rs.length : Int) := by omega
    have hB1 := hB.grown hg1 (by intro r e; cases e; exact .inl rfl)
    have hst := gone_step hxm hxg hlx
    obtain ⟨b, off, e1, lb, hc⟩ := HT.out.1.r (by show 0 < rs.length; omega)
    dsimp only at e1
    subst e1
    have q7 := hB1.cell ((HS.out.1.bl.cell (p := ⟨b, off + xr * 2 + 1, none⟩) lb).trans (hc xr hxm).2) (by dsimp only; omega)
    have r0c := hB1.cell (cr 0 HS.out.1.b0) (by dsimp only; omega)
    dsimp only [Tr.cells] at r0c
    have hco := HT.out.2.1.co xr hxm
    have hadd : IntKind.i64.wrap (gone rs (usedB rs ps) left + (rAt rs xr).co) = gone rs (usedB rs ps) left + coF rs xr := IntWalk.i64_in _ (by omega)
    have HN := hd5 hrg1 hsub hst hB1 hrg
    clear hrg1 hsub hst hB1 hB hrg hat hy hkx hc hwx
    gi_wp2
    exact ⟨⟨_, cnt1, HN.out.1, fun kl h => HN.out.2.1 kl (by rw [Bool.and_eq_true] at h; exact h.1), by rw [HN.out.2.2.1], HN.out.2.2.2.1⟩, by rw [HN.out.1.left_eq, HN.out.2.2.2.2.left_eq]; exact hlt1⟩
theorem whole_any (t : Tr) (ok : RsOk t.rs) (pk : PsOk t.rs t.ps) (w : World) (ht : TrAt w w.heap.size t) : Calls Tryz.prog 77 #[t.v] w fun e w' => e = .returned (.int .i64 (wholeF t.rs t.ps)) ∧ Below w.heap.size w w' := by
 obtain ⟨A, c, rs, B, d, ps⟩ := t
 dsimp only [Tr.v] at *
 have hb := (Below.refl _ w).alloc (Nat.le_refl _) (.cells #[.slice A rs.length c, .slice B ps.length d] 42)
 have hk := blk_new w #[.slice A rs.length c, .slice B ps.length d] 42 rfl
 have hx := callsIn_wide.1 (alone_in 3 (Nat.le_refl _) ⟨A, c, rs, B, d, ps⟩ ok pk _ ((ht.ext hb (Nat.le_refl _)).mono hb.size))
 have HB := hd3 hb hk hx
 clear hb hk hx ht ok pk
 go_enter Tryz.func77, Tryz.ntmps77
 go_upto_region 1 with fail
 generalize w.alloc (.cells #[.slice A rs.length c, .slice B ps.length d] 42) = W at *
 have r0 := cr 0 HB.out.2.1
 have r1 := cr 1 HB.out.2.1
 go_wp2_with (refine HB.out.2.2.mono ?_; rintro e w1 ⟨rfl, hb⟩; have HB1 := Lib.hid hb; clear hb)
 go_ret
 exact ⟨rfl, HB.out.1.trans (HB1.out.mono HB.out.1.size)⟩
end Go.Proofs.YtegmniphgahblaaGreat
