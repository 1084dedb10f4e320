/- Walks: slices.Sort of ints (the kit's), AppendSeq, Collect, Sorted over an iterator of numbers. | Walks: Collect, Sorted, Path. | Walks: Sorted, Path. | Walks: Path. -/
import Derived.Test.YtegmniphgahblaaGreatM14
import Derived.Maps.OwnIn
import Derived.Shelf.SortM.Plain
import Derived.Shelf.SortM.SortNone
import Derived.Sort.OwnSortedInts
namespace Go.Proofs.YtegmniphgahblaaGreat
open Go.RowKit Go.Shelf Go.Sort
attribute [local go_sem] Oper.semAt_some

def Tryz.mSort_ren : Go.Shelf.Ren := ⟨fun | 5 => 72 | 8 => 87 | 7 => 86 | 19 => 105 | 20 => 106 | 10 => 96 | 11 => 97 | 12 => 98 | 13 => 99 | 14 => 100 | 15 => 101 | 16 => 102 | 17 => 103 | 18 => 104 | 30 => 108 | 31 => 109 | 32 => 110 | 33 => 111 | 34 => 112 | 35 => 113 | 40 => 114 | n => n, fun | 23 => 28 | 25 => 3 | 3 => 3 | 32 => 157 | 22 => 28 | 0 => 0 | 44 => 173 | 46 => 175 | 4 => 4 | 36 => 166 | 35 => 165 | 41 => 170 | 5 => 5 | 9 => 9 | 53 => 177 | 57 => 181 | 63 => 183 | 64 => 184 | n => n, fun | n => n⟩
theorem Tryz.mSort : Go.Proofs.SlLaysM.n5 Tryz.prog Tryz.mSort_ren := {
 mixed := by kernel_rfl
 f5 := ⟨Tryz.f72.name, by decide, Tryz.func72.trans (congrArg some (by kernel_rfl))⟩
 f7 := ⟨Tryz.f86.name, by decide, Tryz.func86.trans (congrArg some (by kernel_rfl))⟩
 f8 := Tryz.func87.trans (congrArg some (by kernel_rfl))
 f10 := ⟨Tryz.f96.name, by decide, Tryz.func96.trans (congrArg some (by kernel_rfl))⟩
 f11 := ⟨Tryz.f97.name, by decide, Tryz.func97.trans (congrArg some (by kernel_rfl))⟩
 f12 := ⟨Tryz.f98.name, by decide, Tryz.func98.trans (congrArg some (by kernel_rfl))⟩
 f13 := ⟨Tryz.f99.name, by decide, Tryz.func99.trans (congrArg some (by kernel_rfl))⟩
 f14 := ⟨Tryz.f100.name, by decide, Tryz.func100.trans (congrArg some (by kernel_rfl))⟩
 f15 := ⟨Tryz.f101.name, by decide, Tryz.func101.trans (congrArg some (by kernel_rfl))⟩
 f16 := ⟨Tryz.f102.name, by decide, Tryz.func102.trans (congrArg some (by kernel_rfl))⟩
 f17 := ⟨Tryz.f103.name, by decide, Tryz.func103.trans (congrArg some (by kernel_rfl))⟩
 f18 := ⟨Tryz.f104.name, by decide, Tryz.func104.trans (congrArg some (by kernel_rfl))⟩
 f19 := Tryz.func105.trans (congrArg some (by kernel_rfl))
 f20 := Tryz.func106.trans (congrArg some (by kernel_rfl))
 f30 := ⟨Tryz.f108.name, by decide, Tryz.func108.trans (congrArg some (by kernel_rfl))⟩
 f31 := Tryz.func109.trans (congrArg some (by kernel_rfl))
 f32 := Tryz.func110.trans (congrArg some (by kernel_rfl))
 f33 := ⟨Tryz.f111.name, by decide, Tryz.func111.trans (congrArg some (by kernel_rfl))⟩
 f34 := ⟨Tryz.f112.name, by decide, Tryz.func112.trans (congrArg some (by kernel_rfl))⟩
 f35 := ⟨Tryz.f113.name, by decide, Tryz.func113.trans (congrArg some (by kernel_rfl))⟩
 f40 := ⟨Tryz.f114.name, by decide, Tryz.func114.trans (congrArg some (by kernel_rfl))⟩
 t0 := Tryz.underlying0
 a0 := Tryz.isAgg0
 z0 := Tryz.sizeOf0
 v0 := Tryz.zeroValue0
 t3 := Tryz.underlying3
 a3 := Tryz.isAgg3
 z3 := Tryz.sizeOf3
 v3 := Tryz.zeroValue3
 t4 := Tryz.underlying4
 a4 := Tryz.isAgg4
 z4 := Tryz.sizeOf4
 v4 := Tryz.zeroValue4
 t5 := Tryz.underlying5
 a5 := Tryz.isAgg5
 z5 := Tryz.sizeOf5
 v5 := Tryz.zeroValue5
 t9 := Tryz.underlying9
 a9 := Tryz.isAgg9
 z9 := Tryz.sizeOf9
 v9 := Tryz.zeroValue9
 t22 := Tryz.underlying28
 a22 := Tryz.isAgg28
 z22 := Tryz.sizeOf28
 v22 := Tryz.zeroValue28
 t23 := Tryz.underlying28
 a23 := Tryz.isAgg28
 z23 := Tryz.sizeOf28
 v23 := Tryz.zeroValue28
 t25 := Tryz.underlying3
 a25 := Tryz.isAgg3
 z25 := Tryz.sizeOf3
 v25 := Tryz.zeroValue3
 t32 := Tryz.underlying157
 a32 := Tryz.isAgg157
 z32 := Tryz.sizeOf157
 v32 := Tryz.zeroValue157
 t35 := Tryz.underlying165
 a35 := Tryz.isAgg165
 z35 := Tryz.sizeOf165
 v35 := Tryz.zeroValue165
 t36 := Tryz.underlying166
 a36 := Tryz.isAgg166
 z36 := Tryz.sizeOf166
 v36 := Tryz.zeroValue166
 t41 := Tryz.underlying170
 a41 := Tryz.isAgg170
 z41 := Tryz.sizeOf170
 v41 := Tryz.zeroValue170
 t44 := Tryz.underlying173
 a44 := Tryz.isAgg173
 z44 := Tryz.sizeOf173
 v44 := Tryz.zeroValue173
 t46 := Tryz.underlying175
 a46 := Tryz.isAgg175
 z46 := Tryz.sizeOf175
 v46 := Tryz.zeroValue175
 t53 := Tryz.underlying177
 a53 := Tryz.isAgg177
 z53 := Tryz.sizeOf177
 v53 := Tryz.zeroValue177
 t57 := Tryz.underlying181
 a57 := Tryz.isAgg181
 z57 := Tryz.sizeOf181
 v57 := Tryz.zeroValue181
 t63 := Tryz.underlying183
 a63 := Tryz.isAgg183
 z63 := Tryz.sizeOf183
 v63 := Tryz.zeroValue183
 t64 := Tryz.underlying184
 a64 := Tryz.isAgg184
 z64 := Tryz.sizeOf184
 v64 := Tryz.zeroValue184 }

theorem Own.abide {B base : Nat} {bs : Option Nat} {β : Type} (V : β → Value) (F : β → List Int) (hb : ∀ b, bs = some b → b < base) : Abide B bs (fun s W => Own W base (V s) (F s)) := fun s W W' row h hg hr => by
 refine Own.blk h fun k e => ?_
 obtain ⟨h1, h2, o, h3, h4⟩ := h.blkIs e
 refine hg.block k h2 fun e2 => ?_
 rcases hr k e2.symm with h5 | ⟨_, o', h6, h7⟩
 ·have := hb k h5; omega
 ·rw [h3] at h6; cases h6; rw [h4] at h7; cases h7
set_option maxRecDepth 100000 in
set_option maxHeartbeats 2000000 in
theorem appendSeq_in (n : Nat) (hn : 3 ≤ n) {gf : Nat} {lb : Array Value} (eg : ∀ args w, (callFunc gf args).run Tryz.prog w = .ok (.enter gf args) w) {bs : Nat} {p : Nat → Prop} {full : List Nat} {w0 : World} (hseq : SeqB Fence.wide (n - 1) Tryz.prog gf lb encN (some bs) (KeepB p) full w0)
  (w : World) (hb0 : Below w0.heap.size w0 w) (hbs : bs < w.heap.size) (hp : ∀ b, p b → b < w.heap.size) (hlen : full.length ≤ 1000) :
  CallsIn Fence.wide n Tryz.prog 85 #[.slice none 0 0, .func (.func gf) #[] lb] w fun e w' => ∃ v, e = .returned v ∧ Own w' w.heap.size v (ints full) ∧ ButB (fun b => b = bs) w w' := by
 have h1 : 1 ≤ n := by omega
 obtain ⟨i0, hi0, hz0, hz1, hz2⟩ := info_parts info3
 refine callsIn_of_wp_marks Tryz.func85 rfl trivial ?_ rfl
 simp only [Tryz.ntmps85, List.size_toArray, List.length_cons, List.length_nil, Nat.reduceAdd, Nat.reduceSub, Array.replicate_succ, Array.replicate_zero, List.push_toArray, List.append_toArray, List.nil_append, List.cons_append]
 gi_wp2
 have kb := blk_new w (g := w.heap.size) #[.slice none 0 0] 28 rfl
 have hbA : Below w.heap.size w (w.alloc (.cells #[.slice none 0 0] 28)) := (Below.refl _ w).alloc (Nat.le_refl _) _
 have hz : (w.alloc (.cells #[.slice none 0 0] 28)).heap.size = w.heap.size + 1 := by simp
 have hb0' := hb0.trans (hbA.mono hb0.size)
 generalize w.alloc (.cells #[.slice none 0 0] 28) = W1 at *
 have HB := hd2 hbA hb0'
 clear hbA
 refine wpIn_range_boxP rfl h1 (gf := gf) (lb := lb) rfl trivial eg hseq (fun b hb => by have := hp b hb; omega) hb0' (by intro b e; cases e; omega) (fun _ => rfl)
  (fun pre W => (∃ v, Blk W w.heap.size #[v] 28 ∧ Own W (w.heap.size + 1) v (ints pre)) ∧ ButB (fun b => b = bs ∨ b = w.heap.size) W1 W) (fun _ _ _ => False)
  (fun s W W' row h hg hr => by
   obtain ⟨⟨v, q1, q2⟩, q3⟩ := h
   exact ⟨⟨v, q1.kept' hg hr (by intro e; cases e; omega), Own.abide (B := W1.heap.size) (bs := some bs) (fun _ : Unit => v) (fun _ => ints s) (by intro b e; cases e; omega) () W W' row q2 hg hr⟩, ButB.abide (B := W1.heap.size) (bs := some bs) (Nat.le_refl _) (by intro b e; cases e; exact .inl rfl) () W W' row q3 hg hr⟩)
  (fun _ _ _ _ _ h _ _ => h) ⟨⟨_, kb, Own.nil _ _⟩, ButB.refl _ _⟩
  (fun x => { tmps := #[.slice none 0 0, .func (.func gf) #[] lb, .pointer (some ⟨w.heap.size, 0, none⟩), undef, .slice none 0 0, .int .i64 (x : Int), .func (.func gf) #[] lb, .int .i64 (x : Int), undef, undef, undef, undef, undef], defers := [] }) ?assign ?body ?done ?stop
 case assign =>
  intro l x W K hK
  gi_wp2
  exact hK
 case body =>
  rintro l pre x rest W hf ⟨⟨v, hk, ho⟩, hB⟩ hsz
  have hpl : pre.length < 1000 := by
   have := congrArg List.length hf
   rw [List.length_append, List.length_cons] at this
   omega
  obtain ⟨A3, c3, rfl⟩ := ho.slice (n := pre.length) (ints_length _)
  have r0 := cr 0 hk
  have hbN := (Below.refl _ W).alloc (Nat.le_refl _) (.cells #[.int .i64 (x : Int)] 3)
  have hoN := ho.later hbN
  have hbs9 : w.heap.size + 1 ≤ (W.alloc (.cells #[.int .i64 (x : Int)] 3)).heap.size := by have := hbN.size; omega
  have hlW : w.heap.size < W.heap.size := by omega
  have HO := hd4 (hoN.row (ints_length _)) ho hk hB
  clear hbN hoN ho hk hB
  gi_wp2_with (gi_at_builtin; go_loud (refine wpListIn_append_own_at _ rfl _ _ 28 rfl (w.heap.size + 1) 3 i0 (.int .i64 0) 1 8 Tryz.underlying28 hi0 hz0 hz1 hz2 rfl (by decide) (.slice A3 pre.length c3) pre.length _ rfl HO.out.1 ⟨W.heap.size, 0, none⟩ 1 1 [.int .i64 (x : Int)] rfl (by simp) (cell_one_new _ _ _) (by simp [Value.oneCell']) (by unfold maxLen; omega) (by omega) hbs9 ?_; intro v' w9 hown1 hgrow _ hbk; have hO9 := Own.of_row hown1 (ints_length _); obtain ⟨A5, c5, rfl⟩ := hO9.slice (n := pre.length + 1) (by rw [List.length_append, ints_length]; rfl); have hk9 : Blk w9 w.heap.size #[.slice A3 pre.length c3] 28 := (hgrow.block w.heap.size (by simp; omega) (fun e => by have := (HO.out.2.1.blkIs e.symm).1; omega)).trans ((Below.heap_alloc _ _ _ hlW).trans HO.out.2.2.1); have hc9 := cr 0 hk9; have hf9 := bf 0 hk9; have HP9 := hd4 hO9 hk9 hgrow hbk; clear hO9 hk9 hown1 hgrow hbk))
  have hsz9 : W.heap.size + 1 ≤ w9.heap.size := by have := HP9.out.2.2.1.size; rw [World.size_alloc] at this; exact this
  have hKo : KeepsOthers W w9 := (KeepsOthers.alloc W _).trans (KeepsOthers.of_grownBy HP9.out.2.2.1 (fun j o e h1 => by
   obtain ⟨_, _, o', h2, h3⟩ := HO.out.2.1.blkIs e
   have h4 : (W.alloc (.cells #[.int .i64 (x : Int)] 3)).heap[j]? = some o' := (Below.heap_alloc _ _ _ (HO.out.2.1.blkIs e).2.1).trans h2
   rw [h4] at h1; cases h1; exact h3))
  have hBw : ButB (fun b => b = bs ∨ b = w.heap.size) W1 w9 := (HO.out.2.2.2.alloc (.cells #[.int .i64 (x : Int)] 3)).grown HP9.out.2.2.1 (fun r e => by have := (HO.out.2.1.blkIs e).1; omega)
  have hKb : KeepB p W w9 := ⟨by omega, fun b hb => by
   have hb' := hp b hb
   exact (HP9.out.2.2.1.block b (by simp; omega) (fun e => by have := (HO.out.2.1.blkIs e.symm).1; omega)).trans (Below.heap_alloc _ _ _ (by omega))⟩
  refine ⟨(hKo.trans (KeepsOthers.setCell w9 ⟨w.heap.size, 0, none⟩ _)).from _, hKb.trans (KeepB.set _ ⟨w.heap.size, 0, none⟩ _ (fun hb => by have := hp _ hb; dsimp only at this; omega)), ⟨_, heap_setCell_same _ _ 0 _ _ _ HP9.out.2.1, ?_⟩, hBw.set (a := ⟨w.heap.size, 0, none⟩) (.inr rfl) _⟩
  rw [ints_append]
  exact HP9.out.1.blk (fun k e => Below.heap_setCell _ _ _ _ (by have := (HP9.out.1.blkIs e).1; dsimp only; omega))
 case done =>
  rintro D W hD ⟨⟨v, hk, ho⟩, hB⟩ hKd
  obtain ⟨A3, c3, rfl⟩ := ho.slice (n := full.length) (ints_length _)
  have r0 := cr 0 hk
  have HF := hd3 ho hB (Mk.cons (Mk.nil (w.heap.size + 1) W) (by omega) hKd (fun D' h => by cases h))
  clear hk ho hB hKd
  gi_wp2
  refine mk_leave (B := w.heap.size + 1) HF.out.2.2 fun W2 hB2 => ?_
  refine ⟨_, results_tmp rfl _ _ _, _, rfl, ?_, ?_⟩
  ·have h := HF.out.1.blk (W' := W2) (fun k e => by
    obtain ⟨q1, q2, o, q3, q4⟩ := HF.out.1.blkIs e
    exact hB2.same k q2 (fun h => by rw [q3] at h; cases h.2; cases q4))
   exact ⟨h.1, h.2.imp id fun ⟨g, cap, cur, e, hb, r⟩ => ⟨g, cap, cur, e, by omega, r⟩⟩
  ·have hz' := HF.out.2.1.size
   exact ⟨hB2.os.trans (HF.out.2.1.os.trans HB.out.1.os), hB2.tape.trans (HF.out.2.1.tape.trans HB.out.1.tape), hB2.output.trans (HF.out.2.1.output.trans HB.out.1.output), Nat.le_trans (by omega) hB2.size, fun b hb hn => (hB2.same b (by omega) (fun h => by omega)).trans ((HF.out.2.1.same b (by omega) (by omega)).trans (HB.out.1.block b hb))⟩
 case stop =>
  rintro D c pre x rest W _ _ h _
  exact h.elim
end Go.Proofs.YtegmniphgahblaaGreat
namespace Go.Proofs.YtegmniphgahblaaGreat
open Go.RowKit Go.Shelf Go.Sort

theorem sort_desc {l : List Nat} (h : l.Pairwise (fun a b => b < a)) : (ints l).mergeSort (fun x y => decide (x ≤ y)) = ints l.reverse := by
 have hp : (ints l.reverse).Pairwise (fun a b : Int => decide (a ≤ b) = true) := by
  unfold ints
  rw [List.pairwise_map, List.pairwise_reverse]
  exact h.imp fun {a b} hab => decide_eq_true (by omega)
 have hs := List.pairwise_mergeSort (le := fun x y : Int => decide (x ≤ y)) (fun a b c h1 h2 => decide_eq_true (by have := of_decide_eq_true h1; have := of_decide_eq_true h2; omega)) (fun a b => by
  rcases Int.le_total a b with h | h
  ·simp [h]
  ·simp [h]) (ints l)
 refine List.Perm.eq_of_pairwise (fun a b _ _ h1 h2 => by have := of_decide_eq_true h1; have := of_decide_eq_true h2; omega) hs hp ?_
 refine (List.mergeSort_perm _ _).trans ?_
 unfold ints
 exact ((List.reverse_perm l).map _).symm
theorem collect_any {gf : Nat} {lb : Array Value} (eg : ∀ args w, (callFunc gf args).run Tryz.prog w = .ok (.enter gf args) w) {bs : Nat} {p : Nat → Prop} {full : List Nat} {w0 : World} (hseq : SeqB Fence.wide 2 Tryz.prog gf lb encN (some bs) (KeepB p) full w0)
  (w : World) (hb0 : Below w0.heap.size w0 w) (hbs : bs < w.heap.size) (hp : ∀ b, p b → b < w.heap.size) (hlen : full.length ≤ 1000) :
  Calls Tryz.prog 71 #[.func (.func gf) #[] lb] w fun e w' => ∃ v, e = .returned v ∧ Own w' w.heap.size v (ints full) ∧ ButB (fun b => b = bs) w w' := by
 have HA := Lib.hid (callsIn_wide.1 (appendSeq_in 3 (Nat.le_refl _) eg hseq w hb0 hbs hp hlen))
 clear hseq hb0 hbs hp hlen eg
 go_enter Tryz.func71, Tryz.ntmps71
 go_wp2_with (refine HA.out.mono ?_; rintro e w' ⟨v, rfl, h1, h2⟩; have HF := hd2 h1 h2; clear h1 h2)
 go_ret
 exact ⟨v, rfl, HF.out.1, HF.out.2⟩
theorem sortI_any (v : Value) (xs : List Int) (base : Nat) (w : World) (h : Own w base v xs) (hl : xs.length ≤ 1000) :
  Calls Tryz.prog 72 #[v] w fun e w' => e = .returned (.tuple #[]) ∧ Own w' base v (xs.mergeSort fun x y => decide (x ≤ y)) ∧ ∃ row, w.grownBy w' row ∧ ∀ b, row = some b → base ≤ b ∧ b < w.heap.size := by
 rcases h.2 with ⟨rfl, hn⟩ | ⟨g, cap, cur, rfl, hb, hg, r1, r2, r3, r4⟩
 ·obtain rfl : xs = [] := List.length_eq_zero_iff.1 hn
  refine (AnyM.slices_Sort_int_none Tryz.mSort none 0 w).mono ?_
  rintro e w' ⟨rfl, rfl⟩
  exact ⟨rfl, by simpa using h, none, World.grownBy.refl _ _, fun b e => by cases e⟩
 ·have hH : Holds (Value.int .i64) w g 0 xs.toArray := holds_of_blockI hg (by simpa using r4)
  have hgl : g < w.heap.size := (Array.getElem?_eq_some_iff.1 hg).1
  refine (AnyM.slices_Sort_int Tryz.mSort g 0 cap xs w hH hgl (by omega)).mono ?_
  rintro e w' ⟨rfl, n, os, rfl⟩
  refine ⟨rfl, ?_, some g, grownBy_sortedI _, fun b e => by cases e; exact ⟨hb, hgl⟩⟩
  have hlen : (xs.mergeSort fun x y => decide (x ≤ y)).length = xs.length := List.length_mergeSort _
  unfold Own
  rw [hlen]
  exact ownsRow_sortedI hlen hb hg r1 r2 r3
end Go.Proofs.YtegmniphgahblaaGreat
namespace Go.Proofs.YtegmniphgahblaaGreat
open Go.RowKit Go.Shelf Go.Sort

theorem sorted_any {gf : Nat} {lb : Array Value} (eg : ∀ args w, (callFunc gf args).run Tryz.prog w = .ok (.enter gf args) w) {bs : Nat} {p : Nat → Prop} {full : List Nat} {w0 : World} (hseq : SeqB Fence.wide 2 Tryz.prog gf lb encN (some bs) (KeepB p) full w0)
  (w : World) (hb0 : Below w0.heap.size w0 w) (hbs : bs < w.heap.size) (hp : ∀ b, p b → b < w.heap.size) (hlen : full.length ≤ 1000) (hd : full.Pairwise (fun a b => b < a)) :
  Calls Tryz.prog 55 #[.func (.func gf) #[] lb] w fun e w' => (∃ A c, e = .returned (.slice A full.length c) ∧ Rd w' w'.heap.size A (ints full.reverse) ∧ Fresh w.heap.size A) ∧ ButB (fun b => b = bs) w w' := by
 have HC := Lib.hid (collect_any eg hseq w hb0 hbs hp hlen)
 have HD := hd2 (sort_desc hd) hlen
 clear hseq hb0 hp hlen eg hd
 go_enter Tryz.func55, Tryz.ntmps55
 go_upto_region 2 with (go_at_call 71; refine HC.out.mono ?_; rintro e w1 ⟨v, rfl, h1, h2⟩; have HF := hd2 h1 h2; clear h1 h2)
 obtain ⟨A3, c3, rfl⟩ := HF.out.1.slice (n := full.length) (ints_length _)
 have HS := Lib.hid (sortI_any _ _ _ w1 HF.out.1 (by rw [ints_length]; exact HD.out.2))
 go_wp2_with (go_at_call 72; refine HS.out.mono ?_; rintro e w2 ⟨rfl, h1, row, h2, h3⟩; rw [HD.out.1] at h1; have HG := hd3 h1 h2 h3; clear h1 h2 h3)
 go_ret
 obtain ⟨A5, c5, h5, h6, h7⟩ := HG.out.1.rd
 have e5 : (ints full.reverse).length = full.length := by rw [ints_length, List.length_reverse]
 rw [e5] at h5
 cases h5
 exact ⟨⟨A3, c3, rfl, h6, h7⟩, HF.out.2.grown HG.out.2.1 (fun r e => .inr (HG.out.2.2 r e).1)⟩
end Go.Proofs.YtegmniphgahblaaGreat
namespace Go.Proofs.YtegmniphgahblaaGreat
open Go.RowKit Go.Shelf Go.Sort

theorem fdI_at {rs : List Rch} {ps : List Pay} (pk : PsOk rs ps) {i : Nat} (hi : i < ps.length) : fdI ps ps.length (yAt ps i).id = i :=
 ixF_at (decide_eq_true rfl) (fun j hj => decide_eq_false fun e => by have := pk.ids j i (by omega) hi e; omega) hi
set_option maxRecDepth 100000 in
set_option maxHeartbeats 1600000 in
theorem Path_levy (t : Tr) (ok : RsOk t.rs) (pk : PsOk t.rs t.ps) (i : Nat) (hi : i < t.ps.length) (w : World) (ht : TrAt w w.heap.size t) :
  Calls Tryz.prog 22 #[t.v, .int .i64 (yAt t.ps i).id] w fun e w' => (∃ A c, e = .returned (.tuple #[.slice A (way (abF t.rs) (yAt t.ps i).rc).length c, .int .i64 0]) ∧ Rd w' w'.heap.size A (ints (way (abF t.rs) (yAt t.ps i).rc).reverse) ∧ Fresh w.heap.size A) ∧ Below w.heap.size w w' := by
 have hn24 := pk.n
 have hr24 := ok.n
 have hrc := pk.rc i hi
 have hin := fun W (hW : TrAt W W.heap.size t) => findY_any t.B t.d t.ps.length t.ps (yAt t.ps i).id W hW.p (Nat.le_refl _) (by omega)
 have hse := fun W hW => up_seq 2 (by omega) t ok (yAt t.ps i).rc (by omega) hrc.2 w.heap.size W hW
 have hde := way_desc ok.ab (t.rs.length + 1) (yAt t.ps i).rc hrc.2 (by omega)
 have hle := way_len ok.ab t.rs.length (yAt t.ps i).rc hrc.2 hrc.2
 rw [fdI_at pk hi] at hin
 obtain ⟨A, c, rs, B, d, ps⟩ := t
 have hb1 := (Below.refl _ w).alloc (Nat.le_refl _) (.cells #[.slice A rs.length c, .slice B ps.length d] 42)
 have hch := checkT_any ⟨A, c, rs, B, d, ps⟩ (w.alloc (.cells #[.slice A rs.length c, .slice B ps.length d] 42)) ((ht.ext hb1 (Nat.le_refl _)).mono hb1.size) (by unfold maxLen; omega) (by unfold maxLen; omega)
 dsimp only [Tr.v] at *
 obtain ⟨b, off, rfl, lb, hc⟩ := ht.p (by show 0 < ps.length; omega)
 obtain ⟨q0, q1, q2⟩ := hc i hi
 dsimp only at q1
 have HK := hd6 hb1 hch (blk_new w (g := w.heap.size) #[.slice A rs.length c, .slice (some ⟨b, off, none⟩) ps.length d] 42 rfl) (show RsOk rs ∧ PsOk rs ps from ⟨ok, pk⟩) hin ht
 have HS := hd4 hse hde hle q1
 have hiz : (i : Int) < (ps.length : Int) := by omega
 have hi0 : ¬ (i : Int) < 0 := by omega
 clear hb1 hch ht ok pk hin hse hde hle hc q0 q1 q2
 go_enter Tryz.func22, Tryz.ntmps22
 go_upto_region 1 with fail
 generalize w.alloc (.cells #[.slice A rs.length c, .slice (some ⟨b, off, none⟩) ps.length d] 42) = W1 at *
 have r0 := cr 0 HK.out.2.2.1
 have r1 := cr 1 HK.out.2.2.1
 go_upto_region 7 with (first | (go_at_call 7; refine HK.out.2.1.mono ?_; rintro e w1 ⟨⟨E, rfl, hE⟩, hb2⟩; obtain rfl := hE.2 HK.out.2.2.2.1; have HK1 := hd2 (HK.out.1.trans (hb2.mono HK.out.1.size)) ((hb2.block w.heap.size (Array.getElem?_eq_some_iff.1 HK.out.2.2.1).1).trans HK.out.2.2.1); clear hb2 hE r0 r1; have r0 := cr 0 HK1.out.2; have r1 := cr 1 HK1.out.2; have HI := Lib.hid (HK.out.2.2.2.2.1 w1 ((HK.out.2.2.2.2.2.ext HK1.out.1 (Nat.le_refl _)).mono HK1.out.1.size))) | (go_at_call 18; refine HI.out.mono ?_; rintro e w2 ⟨rfl, hb3⟩; have HK2 := hd2 (HK1.out.1.trans (hb3.mono HK1.out.1.size)) ((hb3.block w.heap.size (Array.getElem?_eq_some_iff.1 HK1.out.2).1).trans HK1.out.2); clear hb3))
 refine wp_region_R (fun j => j != 8) ?_
 have s0 : w2.drew.cell? ⟨w.heap.size, 0, none⟩ = _ := cr 0 HK2.out.2
 have s1 : w2.drew.cell? ⟨w.heap.size, 1, none⟩ = _ := cr 1 HK2.out.2
 have p1 : w2.drew.cell? ⟨b, off + i * 3 + 1, none⟩ = _ := (HK2.out.1.cell (p := ⟨b, off + i * 3 + 1, none⟩) lb).trans HS.out.2.2.2
 have HD := Lib.hid HK2.out.1.drew
 generalize w2.drew = X at *
 refine bP s0 s1 0 rfl ?_
 refine bF 1 rfl ?_
 refine bT s1 2 rfl ?_
 refine bF 3 rfl ?_
 refine bF 4 rfl ?_
 refine bF 5 rfl ?_
 refine bT p1 6 rfl ?_
 refine bR 7 rfl fun K hK => ?_
 go_simp
 refine (up_any ⟨A, c, rs, some ⟨b, off, none⟩, d, ps⟩ (yAt ps i).rc X).mono ?_
 rintro e w' ⟨rfl, rfl⟩
 have hbU : Below X.heap.size X ((X.alloc (.cells (Tr.cells ⟨A, c, rs, some ⟨b, off, none⟩, d, ps⟩) 42)).alloc (.cells #[.int .i64 (yAt ps i).rc] 3)) := ((Below.refl _ X).alloc (Nat.le_refl _) _).alloc (by simp) _
 have hzU : ((X.alloc (.cells (Tr.cells ⟨A, c, rs, some ⟨b, off, none⟩, d, ps⟩) 42)).alloc (.cells #[.int .i64 (yAt ps i).rc] 3)).heap.size = X.heap.size + 1 + 1 := by simp
 have hseq := HS.out.1 X (HK.out.2.2.2.2.2.ext HD.out (Nat.le_refl _)) HD.out.size
 have hso := sorted_any eg_up1 hseq _ (Below.refl _ _) (by rw [hzU]; omega) (fun b hb => by rw [hzU]; unfold upK at hb; have := HD.out.size; omega) (by have := HS.out.2.2.1; omega) HS.out.2.1
 have HU := hd2 hbU hso
 refine hK.out _ _ (fun _ => hbU) ?_
 clear hK hbU hso hseq s0 s1 p1
 generalize (X.alloc (.cells (Tr.cells ⟨A, c, rs, some ⟨b, off, none⟩, d, ps⟩) 42)).alloc (.cells #[.int .i64 (yAt ps i).rc] 3) = X2 at *
 refine bR 8 rfl fun K hK => ?_
 go_simp
 refine HU.out.2.mono ?_
 rintro e w3 ⟨⟨A2, c2, rfl, g1, g2⟩, g3⟩
 refine hK.out _ _ (fun h => by cases h) ?_
 have HF := hd3 g1 g2 g3
 clear hK g1 g2 g3
 refine bR 9 rfl fun K hK => ?_
 go_simp
 refine hK.out _ _ (fun _ => Below.refl _ _) ?_
 clear hK
 refine bR 10 rfl fun K hK => ?_
 go_simp
 refine hK.out _ _ (fun _ => Below.refl _ _) ?_
 clear hK
 refine bD ?_
 go_wp2
 go_ret2
 exact ⟨⟨A2, c2, rfl, HF.out.1, HF.out.2.1.mono (Nat.le_trans HD.out.size (by omega))⟩, HD.out.trans ((HU.out.1.trans (HF.out.2.2.below (by omega) (by intro b hb e; omega))).mono HD.out.size)⟩
end Go.Proofs.YtegmniphgahblaaGreat
