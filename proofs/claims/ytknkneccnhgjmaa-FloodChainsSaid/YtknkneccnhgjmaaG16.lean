/- Walk: the reference's Chain. -/
import Derived.Test.YtknkneccnhgjmaaG12
import Derived.Test.YtknkneccnhgjmaaG6
namespace Go.Proofs.Ytknkneccnhgjmaa
open Go.RowKit Go.Shelf

theorem ok2_of_right {cs : List Cv} (h : rightB cs = true) {i : Nat} (hi : i < cs.length) : ok2 cs[0]!.xs cs[i]!.xs = true := by
  obtain ⟨v0, _⟩ := right_valid h (i := 0) (by omega)
  obtain ⟨v1, e1⟩ := right_valid h hi
  exact ok2_iff.2 ⟨v0, v1, e1⟩
theorem right_of_ok2 {cs : List Cv} (h : ∀ i, i < cs.length → ok2 cs[0]!.xs cs[i]!.xs = true) : rightB cs = true :=
  rightB_true fun i hi => by
    obtain ⟨_, v1, e1⟩ := ok2_iff.1 (h i hi)
    unfold rightAt
    rw [(validB_iff _).2 v1, decide_eq_true e1]
    rfl

/-- The state of the reference's chain: the result's cells, and the curve so far. -/
structure ChR (w W : World) (g : Nat) (A : Option Addr) (c : Nat) (L : List Int) : Prop where
  bl : Below w.heap.size w W
  row : Row W w.heap.size #[.slice none 0 0, .int .i64 0] 61
  z1 : W.cell? ⟨g, 0, none⟩ = some (.slice A L.length c)
  f1 : W.frozen? ⟨g, 0, none⟩ = false
  gl : w.heap.size < g
  lt : g < W.heap.size
  rd : Rd W W.heap.size A L
  fr : Fresh w.heap.size A
  n0 : ∀ ad, A = some ad → ad.block ≠ w.heap.size
theorem ChR.ext {w W W' : World} {g : Nat} {A : Option Addr} {c : Nat} {L : List Int} (h : ChR w W g A c L) (hb : Below W.heap.size W W') : ChR w W' g A c L := by
  have hlt := h.lt
  have hgl := h.gl
  exact ⟨h.bl.trans (hb.mono h.bl.size), h.row.ext hb (by omega), (hb.cell (p := ⟨g, 0, none⟩) hlt).trans h.z1, (hb.frozen (p := ⟨g, 0, none⟩) hlt).trans h.f1, hgl, Nat.lt_of_lt_of_le hlt hb.size, h.rd.ext hb, h.fr, h.n0⟩
theorem ChR.set {w W : World} {g : Nat} {A A' : Option Addr} {c c' : Nat} {L L' : List Int} (h : ChR w W g A c L) (hr : Rd W W.heap.size A' L') {m : Nat} (hf : Fresh m A') (hm : g < m) : ChR w (W.setCell ⟨g, 0, none⟩ (.slice A' L'.length c')) g A' c' L' := by
  have hlt := h.lt
  have hgl := h.gl
  have hn : ∀ ad, A' = some ad → ad.block ≠ g := fun ad e => by have := hf ad e; omega
  refine ⟨h.bl.setCell (by show w.heap.size ≤ g; omega) _, ⟨(Below.heap_setCell _ _ _ _ (by show w.heap.size ≠ g; omega)).trans h.row.row⟩, ?_, ?_, hgl, by rw [World.size_setCell]; exact hlt, by rw [World.size_setCell]; exact hr.setCell hn _, fun ad e => by have := hf ad e; omega, fun ad e => by have := hf ad e; omega⟩
  · exact World.cell?_setCell_same' _ _ _ (by rw [h.z1]; rfl)
  · rw [World.frozen?_setCell]; exact h.f1
theorem ChR.made {w W : World} {g : Nat} {A : Option Addr} {c : Nat} {L : List Int} (h : ChR w W g A c L) : RMade w L 0 (.returned (.agg #[.slice A L.length c, .int .i64 0])) ((W.setCell ⟨w.heap.size, 0, none⟩ (.slice A L.length c)).setCell ⟨w.heap.size, 1, none⟩ (.int .i64 0)) :=
  made_fin h.bl (Nat.le_refl _) h.rd h.fr h.n0
theorem made_no {w W : World} (h : Below w.heap.size w W) (E : Int) : RMade w [] E (.returned (.agg #[.slice none 0 0, .int .i64 E])) ((W.setCell ⟨w.heap.size, 0, none⟩ (.slice none 0 0)).setCell ⟨w.heap.size, 1, none⟩ (.int .i64 E)) :=
  made_fin (A := none) (c := 0) (xs := []) h (Nat.le_refl _) Rd.nil none_fresh (fun _ e => by cases e)

theorem chainR_len {cs : List Cv} : (pick (decide (chainE cs = 0)) (chainTo cs (cs.length - 1))).length ≤ 1000 := pick_valid fun h => by
  rw [decide_eq_true_eq] at h
  rw [chainTo_length]
  by_cases n0 : cs.length = 0
  · unfold chainE at h; rw [if_pos n0] at h; cases h
  · cases hv : rightB cs
    · unfold chainE at h; rw [if_neg n0, hv] at h; split at h <;> simp at h
    · exact (right_valid hv (i := 0) (by omega)).1.2.1

theorem Row.later {y1 y2 : World} {cs : Array Value} {ty : TypeId} (h : Below (y1.alloc (.cells cs ty)).heap.size (y1.alloc (.cells cs ty)) y2) : Row y2 y1.heap.size cs ty := ⟨(h.block y1.heap.size (by simp)).trans (heap_alloc_new y1 _)⟩

theorem Row.laterD {y1 y2 : World} {cs : Array Value} {ty : TypeId} (h : Below (y1.alloc (.cells cs ty)).drew.heap.size (y1.alloc (.cells cs ty)).drew y2) : Row y2 y1.heap.size cs ty := Row.later (y1 := y1.drew) h

/-- A curve's numbers, appended to nothing. -/
theorem Own.boxed {w W W' : World} {v : Value} {L : List Int} {g : Nat} (hb : Below w.heap.size w W) (hrow : Row W w.heap.size #[.slice none 0 0, .int .i64 0] 61) (hg : g = W.heap.size) (hgrow : (W.alloc (.cells #[.slice none 0 0] 26)).drew.grownBy W' none) (ho : Own W' (g + 1) v L) :
    ∃ A c, v = .slice A L.length c ∧ W'.cell? ⟨g, 0, none⟩ = some (.slice none 0 0) ∧ W'.frozen? ⟨g, 0, none⟩ = false ∧ ChR w (W'.setCell ⟨g, 0, none⟩ (.slice A L.length c)) g A c L := by
  subst hg
  obtain ⟨A, c, rfl, hr, hf⟩ := ho.rd
  have hl := hrow.lt
  have hb1 : Below W.heap.size W W' := (((Below.refl _ W).alloc (Nat.le_refl _) _).drew).grown hgrow (by simp) (by intro k hk; cases hk)
  have hz : W'.cell? ⟨W.heap.size, 0, none⟩ = some (.slice none 0 0) := (hgrow.cell_far ⟨W.heap.size, 0, none⟩ (by simp) (by intro h; cases h)).trans (by simp [go_sem])
  have hfz : W'.frozen? ⟨W.heap.size, 0, none⟩ = false := (hgrow.frozen_far ⟨W.heap.size, 0, none⟩ (by simp) (by intro h; cases h)).trans (by simp [go_sem])
  have hlt : W.heap.size < W'.heap.size := Nat.lt_of_lt_of_le (by simp) hgrow.size
  have hn : ∀ ad, A = some ad → ad.block ≠ W.heap.size := fun ad e => by have := hf ad e; omega
  refine ⟨A, c, rfl, hz, hfz, ⟨(hb.trans (hb1.mono hb.size)).setCell (by exact Nat.le_of_lt hl) _, ⟨(Below.heap_setCell _ _ _ _ (by show w.heap.size ≠ W.heap.size; omega)).trans (hrow.ext hb1 hl).row⟩, World.cell?_setCell_same' _ _ _ (by rw [hz]; rfl), by rw [World.frozen?_setCell]; exact hfz, hl,
    by rw [World.size_setCell]; exact hlt, by rw [World.size_setCell]; exact hr.setCell hn _, fun ad e => by have := hf ad e; omega, fun ad e => by have := hf ad e; omega⟩⟩

set_option maxRecDepth 100000 in
set_option maxHeartbeats 1600000 in
theorem rChain_any (A : Option Addr) (c : Nat) (cs : List Cv) (w : World) (h : RdC w w.heap.size A cs) (hm : cs.length ≤ 1000000) (hl : ∀ i, i < cs.length → cs[i]!.xs.length ≤ maxLen) :
    Calls Try.prog 56 #[.slice A cs.length c] w fun e w' => RMade w (pick (decide (chainE cs = 0)) (chainTo cs (cs.length - 1))) (chainE cs) e w' := by
  have hb0 : Below w.heap.size w (w.alloc (.cells #[.slice none 0 0, .int .i64 0] 61)) := (Below.refl _ w).alloc (Nat.le_refl _) _
  have hr0 : Row (w.alloc (.cells #[.slice none 0 0, .int .i64 0] 61)) w.heap.size #[.slice none 0 0, .int .i64 0] 61 := ⟨heap_alloc_new w _⟩
  have HB := Lib.hid (And.intro hb0 hr0)
  have HC := Lib.hid h
  have HL := Lib.hid hl
  clear hb0 hr0 hl
  by_cases n0 : cs.length = 0
  · have hE : chainE cs = 1 := by unfold chainE; rw [if_pos n0]
    have hz : ((cs.length : Int) == 0) = true := by rw [n0]; rfl
    have hP : pick (decide (chainE cs = 0)) (chainTo cs (cs.length - 1)) = [] := by rw [hE]; rfl
    rw [hP, hE]
    clear HC HL hm hP hE h
    go_enter Try.func56, Try.ntmps56
    go_upto_region 1 with fail
    generalize hgW : w.alloc (.cells #[.slice none 0 0, .int .i64 0] 61) = W1 at *
    clear hgW
    have HS := Lib.hid (made_set HB.out.2 (.slice none 0 0) (.int .i64 1))
    have HF := Lib.hid (made_no HB.out.1 1)
    obtain ⟨z0, z1, f0, f1⟩ := two_cells HB.out.2.row
    go_wp2
    obtain ⟨⟨q0, q1⟩, _⟩ := HS.out
    exact bodyPost_ret (v := .agg #[.slice none 0 0, .int .i64 1]) (by simp [results, Try.results56, go_sem, q0, q1]) rfl HF.out
  have hz : ((cs.length : Int) == 0) = false := by rw [beq_eq_false_iff_ne]; omega
  by_cases n1 : 12 < cs.length
  · have hE : chainE cs = 2 := by unfold chainE; rw [if_neg n0, if_pos n1]
    have hz1 : (12 : Int) < (cs.length : Int) := by omega
    have hP : pick (decide (chainE cs = 0)) (chainTo cs (cs.length - 1)) = [] := by rw [hE]; rfl
    rw [hP, hE]
    clear HC HL hP hE h
    go_enter Try.func56, Try.ntmps56
    go_upto_region 1 with fail
    generalize hgW : w.alloc (.cells #[.slice none 0 0, .int .i64 0] 61) = W1 at *
    clear hgW
    have HS := Lib.hid (made_set HB.out.2 (.slice none 0 0) (.int .i64 2))
    have HF := Lib.hid (made_no HB.out.1 2)
    obtain ⟨z0, z1, f0, f1⟩ := two_cells HB.out.2.row
    go_wp2
    obtain ⟨⟨q0, q1⟩, _⟩ := HS.out
    exact bodyPost_ret (v := .agg #[.slice none 0 0, .int .i64 2]) (by simp [results, Try.results56, go_sem, q0, q1]) rfl HF.out
  have hz1 : ¬ (12 : Int) < (cs.length : Int) := by omega
  have hz0 : (0 : Int) < (cs.length : Int) := by omega
  obtain ⟨b, off, rfl, lb, hc⟩ := h.1 (by omega)
  have HCell := Lib.hid (fun W (hW : Below w.heap.size w W) i (hi : i < cs.length) => (hW.cell (p := ⟨b, off + i, none⟩) lb).trans (hc i hi))
  have HRd := Lib.hid (fun W (hW : Below w.heap.size w W) i (hi : i < cs.length) => (HC.out.ext hW).2 i hi)
  have HBo := Lib.hid (fun W i (hW : Below w.heap.size w W) (h0 : 0 < cs.length) (hi : i < cs.length) => Both_any cs[0]!.A cs[i]!.A cs[0]!.c cs[i]!.c cs[0]!.xs cs[i]!.xs W (HRd.out W hW 0 h0) (HRd.out W hW i hi) (HL.out 0 h0) (HL.out i hi))
  have hE : rightB cs = false → chainE cs = 1 := fun hv => by unfold chainE; rw [if_neg n0, if_neg n1, hv]; rfl
  have hE1 : rightB cs = true → chainE cs = if chainFit cs (cs.length - 1) then 0 else 3 := fun hv => by unfold chainE; rw [if_neg n0, if_neg n1, hv]; rfl
  have hP : chainE cs ≠ 0 → pick (decide (chainE cs = 0)) (chainTo cs (cs.length - 1)) = [] := fun hv => by rw [decide_eq_false hv]; rfl
  have hP1 : chainE cs = 0 → pick (decide (chainE cs = 0)) (chainTo cs (cs.length - 1)) = chainTo cs (cs.length - 1) := fun hv => by rw [decide_eq_true hv]; rfl
  generalize pick (decide (chainE cs = 0)) (chainTo cs (cs.length - 1)) = R at *
  generalize chainE cs = E at *
  have HE := Lib.hid (And.intro hE (And.intro hE1 (And.intro hP hP1)))
  clear HC HL hE hE1 hP hP1 h hc
  go_enter Try.func56, Try.ntmps56
  go_upto_region 1 with fail
  generalize hgW : w.alloc (.cells #[.slice none 0 0, .int .i64 0] 61) = W1 at *
  clear hgW
  go_wp2
  go_loopg [3, 4] cs.length (fun gg i _ wr => ∃ t : Nat, t ≤ cs.length ∧ cs.length - t ≤ gg ∧ i = .int .i64 t ∧ Aside (Below w.heap.size w wr ∧ Row wr w.heap.size #[.slice none 0 0, .int .i64 0] 61) ∧ Aside (∀ j, j < t → ok2 cs[0]!.xs cs[j]!.xs = true))
  case atStart => exact ⟨0, Nat.zero_le _, by omega, rfl, HB.out, fun j hj => absurd hj (Nat.not_lt_zero _)⟩
  case round =>
    obtain ⟨t, ht, hg, rfl, hb, hA⟩ := hrel
    have HW := Lib.hid hb.out
    have HA := Lib.hid hA.out
    clear hb hA HB
    by_cases hlt : t < cs.length
    · have hltz : (t : Int) < (cs.length : Int) := by omega
      have k0 := HCell.out wr HW.out.1 0 (by omega)
      have k1 := HCell.out wr HW.out.1 t hlt
      rw [Nat.add_zero] at k0
      unfold Cv.v at k0 k1
      have lb1 : b < wr.heap.size := by have := HW.out.1.size; omega
      have hBo := fun W (hW : Below wr.heap.size wr W) => HBo.out W t (HW.out.1.trans (hW.mono HW.out.1.size)) (by omega) hlt
      cases hok : ok2 cs[0]!.xs cs[t]!.xs
      · rw [hok, errB_f] at hBo
        have hrb : rightB cs = false := by
          cases hv : rightB cs
          · rfl
          · rw [ok2_of_right hv hlt] at hok; cases hok
        have HR := Lib.hid hrb
        have HBB := Lib.hid hBo
        clear hok hBo hrb HA HBo HRd HCell
        generalize cs[0]! = E0 at *
        generalize cs[t]! = E1 at *
        go_wp2
        refine wp_region_ext (by kernel_rfl) (by kernel_rfl) ?_
        intro ι _ X hX hC
        have rX := fun k => (bcell (hX k)).1
        repeat (first | go_big_quiet_skip | (go_big_quiet_want; go_big_quiet_op; first | go_big_quiet_on | (apply Exists.intro; refine ⟨fun _ => ?_, ?_⟩; (focus (go_at_call 93; with_reducible exact Calls.ext_of hX hC (HBB.out _ (hX _)))); go_big_quiet_on)))
        refine wpQuiet_nil ?_
        intro w1 hb1
        clear rX hX hC
        have HW1 := Lib.hid (And.intro (HW.out.1.trans (hb1.mono HW.out.1.size)) (HW.out.2.ext hb1 HW.out.2.lt))
        have HS := Lib.hid (made_set HW1.out.2 (.slice none 0 0) (.int .i64 1))
        have HF := Lib.hid (made_no HW1.out.1 1)
        obtain ⟨z0, z1, f0, f1⟩ := two_cells HW1.out.2.row
        clear hb1
        go_wp2
        obtain ⟨⟨q0, q1⟩, _⟩ := HS.out
        have e1 := HE.out.1 HR.out
        have e2 := HE.out.2.2.1 (by rw [e1]; decide)
        subst e1 e2
        exact bodyPost_ret (v := .agg #[.slice none 0 0, .int .i64 1]) (by simp [results, Try.results56, go_sem, q0, q1]) rfl HF.out
      · rw [hok, errB_t] at hBo
        have HBB := Lib.hid hBo
        have HOK := Lib.hid hok
        clear hok hBo HBo HRd HCell
        generalize hg0 : cs[0]! = E0 at k0 HBB
        generalize hg1 : cs[t]! = E1 at k1 HBB
        clear hg0 hg1
        go_wp2
        refine wp_region_ext (by kernel_rfl) (by kernel_rfl) ?_
        intro ι _ X hX hC
        have rX := fun k => (bcell (hX k)).1
        repeat (first | go_big_quiet_skip | (go_big_quiet_want; go_big_quiet_op; first | go_big_quiet_on | (apply Exists.intro; refine ⟨fun _ => ?_, ?_⟩; (focus (go_at_call 93; with_reducible exact Calls.ext_of hX hC (HBB.out _ (hX _)))); go_big_quiet_on)))
        refine wpQuiet_nil ?_
        intro w1 hb1
        clear rX hX hC
        have HB1 := Lib.hid hb1
        clear hb1
        go_wp2
        go_roundg (cs.length - (t + 1))
        case measure => omega
        case rel => exact ⟨t + 1, by omega, by omega, by go_num, (show _ ∧ _ from ⟨HW.out.1.trans (HB1.out.mono HW.out.1.size), HW.out.2.ext HB1.out HW.out.2.lt⟩), (show Aside _ from fun j hj => by
          by_cases e : j = t
          · subst e; exact HOK.out
          · exact HA.out j (by omega))⟩
    · have hltz : ¬ (t : Int) < (cs.length : Int) := by omega
      obtain rfl : t = cs.length := by omega
      have hv := right_of_ok2 HA.out
      have HV := Lib.hid hv
      have e1 := HE.out.2.1 hv
      have HE2 := Lib.hid (And.intro e1 HE.out.2.2)
      obtain ⟨v0, _⟩ := right_valid hv (i := 0) (by omega)
      have k0 := HCell.out wr HW.out.1 0 (by omega)
      rw [Nat.add_zero] at k0
      unfold Cv.v at k0
      have r0 := HRd.out wr HW.out.1 0 (by omega)
      have hc0 : chainTo cs 0 = cs[0]!.xs := rfl
      obtain ⟨b0, o0, e0, lb0, hcc⟩ := r0 v0.1
      have lb1 : b < wr.heap.size := by have := HW.out.1.size; omega
      rw [e0] at k0
      generalize cs[0]!.c = c0 at *
      generalize cs[0]!.xs = L0 at *
      have HR0 := Lib.hid (And.intro hcc (And.intro v0 hc0))
      obtain ⟨i0, hi, hy0, hy1, hy2⟩ := info_parts info3
      clear hv e1 v0 r0 hc0 hcc e0 HBo HA HE
      have g0 : (wr.alloc (.cells #[.slice none 0 0] 26)).cell? ⟨wr.heap.size, 0, none⟩ = some (.slice none 0 0) := by simp [go_sem]
      have hbA := (Below.refl _ wr).alloc (Nat.le_refl _) (.cells #[.slice none 0 0] 26)
      have k0' := (hbA.cell (p := ⟨b, off, none⟩) lb1).trans k0
      have hszA : wr.heap.size + 1 ≤ (wr.alloc (.cells #[.slice none 0 0] 26)).heap.size := by simp
      have HBox := Lib.hid (fun W' v L (hgrow : (wr.alloc (.cells #[.slice none 0 0] 26)).drew.grownBy W' none) (ho : Own W' (wr.heap.size + 1) v L) => Own.boxed HW.out.1 HW.out.2 rfl hgrow ho)
      go_upto_region 12 with fail
      generalize hgW : wr.alloc (.cells #[.slice none 0 0] 26) = WA at *
      clear hgW
      have hzn : 0 < cs.length := by omega
      go_still_tail 6, (by kernel_rfl)
      change wpList _ _ _ _ _ WA.drew
      go_upto_region 13 with (at_builtin; go_loud (refine wpList_append_own_at _ rfl _ _ 24 rfl (wr.heap.size + 1) 3 i0 (.int .i64 0) 1 8 Try.underlying24 hi hy0 hy1 hy2 rfl (by decide) (.slice none 0 0) 0 [] rfl (World.ownsRow_nil _ _ 3 1) ⟨b0, o0, none⟩ L0.length c0 (L0.map (Value.int .i64)) rfl (by simp) (fun j u hj => by
            obtain ⟨hl, rfl⟩ := map_nth hj
            rw [add_eq]
            exact (hbA.cell (p := ⟨b0, o0 + j, none⟩) lb0).trans (HR0.out.1 j hl)) (ints_oneCell _ _) (by have := HR0.out.2.1.2.1; unfold maxLen; omega) (by have := HR0.out.2.1.2.1; omega) hszA ?_; intro v' w' hown hgrow _ _; obtain ⟨A2, c2, rfl, gz, gf, hS⟩ := HBox.out _ _ L0 hgrow (by simpa [Own] using hown); have HS := Lib.hid hS; clear hS hown hgrow))
      have HS0 : Hid (ChR w (w'.setCell ⟨wr.heap.size, 0, none⟩ (.slice A2 L0.length c2)) wr.heap.size A2 c2 (chainTo cs 0)) := Lib.hid (by rw [HR0.out.2.2]; exact HS.out)
      have hn0 : (chainTo cs 0).length = L0.length := by rw [HR0.out.2.2]
      generalize hgW : w'.setCell ⟨wr.heap.size, 0, none⟩ (.slice A2 L0.length c2) = W3 at *
      generalize hgg : wr.heap.size = g at *
      clear hgW hgg HS HR0 HW HBox hszA hbA gz gf g0 k0' k0 lb0 lb1 hn0
      go_wp2
      go_loopg [6, 7] cs.length (fun gg i _ wr => ∃ k : Nat, 1 ≤ k ∧ k ≤ cs.length ∧ cs.length - k ≤ gg ∧ i = .int .i64 k ∧ ∃ A d, Aside (ChR w wr g A d (chainTo cs (k - 1)) ∧ chainFit cs (k - 1) = true))
      case atStart => exact ⟨1, by omega, by omega, by omega, rfl, A2, c2, HS0.out, rfl⟩
      case round =>
        obtain ⟨k, hk1, ht, hg, rfl, A, d, hS⟩ := hrel
        clear HS0
        by_cases hlt : k < cs.length
        · have hltz : (k : Int) < (cs.length : Int) := by omega
          obtain ⟨S, hfit⟩ := hS.out
          have vt := chainTo_valid HV.out (k := k - 1) (by omega) hfit
          obtain ⟨v1, e1⟩ := right_valid HV.out hlt
          rw [← chainTo_length cs (k - 1)] at e1
          have k1 := HCell.out wr S.bl k hlt
          unfold Cv.v at k1
          have r1 := HRd.out wr S.bl k hlt
          have hN : chainTo cs k = joinL (chainTo cs (k - 1)) cs[k]!.xs := by
            obtain ⟨m, rfl⟩ : ∃ m, k = m + 1 := ⟨k - 1, by omega⟩
            rfl
          have hF1 : ∀ q, fitB (joinL (chainTo cs (k - 1)) cs[k]!.xs) = q → q = true → chainFit cs k = true := fun q hq hq1 => chainFit_iff.2 fun i hi => by
            rcases Nat.lt_or_ge i (k - 1) with e | e
            · exact chainFit_iff.1 hfit i e
            · obtain rfl : i = k - 1 := by omega
              rw [show k - 1 + 1 = k by omega, hN, hq, hq1]
          have hF2 : ∀ q, fitB (joinL (chainTo cs (k - 1)) cs[k]!.xs) = q → q = false → chainFit cs (cs.length - 1) = false := fun q hq hq1 => by
            cases hf : chainFit cs (cs.length - 1)
            · rfl
            · have := chainFit_iff.1 hf (k - 1) (by omega)
              rw [show k - 1 + 1 = k by omega, hN, hq, hq1] at this
              cases this
          have hrg := rangedB_mono (joinL_mono vt.2.2.1 v1.2.2.1 e1) (by rw [joinL_length]; exact vt.1)
          generalize hgL : chainTo cs (k - 1) = L at *
          generalize cs[k]! = E1 at *
          have lw := S.lt
          have hr9 : (joinL L E1.xs).length ≤ 1000 := by rw [joinL_length]; have := vt.2.1; omega
          have z1 := S.z1
          have HX := Lib.hid (And.intro S (And.intro r1 (And.intro vt (And.intro v1 (And.intro e1 hN)))))
          have KX := Lib.hid (fun (W : World) (hW : Below wr.heap.size wr W) => (show W.cell? ⟨g, 0, none⟩ = some (.slice A L.length d) ∧ W.cell? ⟨b, off + k, none⟩ = some (.slice E1.A E1.xs.length E1.c) from ⟨(hW.cell (p := ⟨g, 0, none⟩) S.lt).trans S.z1, (hW.cell (p := ⟨b, off + k, none⟩) (show b < _ by have := S.bl.size; omega)).trans k1⟩))
          have HJ := Lib.hid (fun (W : World) (hW : Below wr.heap.size wr W) => (show Calls Try.prog 111 #[.agg #[.slice A L.length d], .agg #[.slice E1.A E1.xs.length E1.c]] W fun e W' => ∃ A3 c3, e = .returned (.agg #[.slice A3 (joinL L E1.xs).length c3]) ∧ Rd W' W'.heap.size A3 (joinL L E1.xs) ∧ Fresh W.heap.size A3 ∧ Below wr.heap.size wr W' ∧ Below W.heap.size W W' from
            (rjoin_any A E1.A d E1.c L E1.xs W (HX.out.1.rd.ext hW) (HX.out.2.1.ext hW) (by have := HX.out.2.2.1.2.1; omega) HX.out.2.2.2.2.1 HX.out.2.2.1.small HX.out.2.2.2.1.small).mono (by
              rintro e y1 ⟨A3, c3, he, hr, hf3, hb⟩
              rw [joinL_length] at he ⊢
              exact ⟨A3, c3, he, hr, hf3, hW.trans (hb.mono hW.size), hb⟩)))
          have HF := Lib.hid (And.intro hF1 (And.intro hF2 (And.intro hrg hr9)))
          clear S r1 vt v1 e1 hN hS hfit hgL hF1 hF2 hrg hr9 HCell HRd
          cases hq : fitB (joinL L E1.xs)
          · have HG := Lib.hid (fun A3 c3 W (hr : Rd W W.heap.size A3 (joinL L E1.xs)) (hW : Below wr.heap.size wr W) => (show Calls Try.prog 109 #[.agg #[.slice A3 (joinL L E1.xs).length c3]] W fun e W' => e = .returned (.agg #[.slice none 0 0, .int .i64 3]) ∧ Below wr.heap.size wr W' ∧ Below W.heap.size W W' from (ranged_any A3 c3 (joinL L E1.xs) W hr HF.out.2.2.2).mono (by
              rintro e y2 ⟨hc, hb⟩
              rw [HF.out.2.2.1, hq] at hc
              rcases hc with ⟨h, _⟩ | ⟨_, h⟩
              · cases h
              · exact ⟨h, hW.trans (hb.mono hW.size), hb⟩)))
            have HQ := Lib.hid hq
            clear hq
            go_upto_region 16 with fail
            go_region_held3 (fun W => W.cell? ⟨g, 0, none⟩ = some (.slice A L.length d) ∧ W.cell? ⟨b, off + k, none⟩ = some (.slice E1.A E1.xs.length E1.c)) (exact KX.out _ (by repeat (first | exact Below.refl _ _ | exact hb2 | exact hb1 | exact hb2.size | exact hb1.size | exact Nat.le_refl _ | refine Below.drew ?_ | refine Below.alloc ?_ ?_ _ | refine Below.setCell ?_ ?_ _))) (first
              | (go_at_call 111; refine (HJ.out _ (by repeat (first | exact Below.refl _ _ | exact Nat.le_refl _ | refine Below.drew ?_ | refine Below.alloc ?_ ?_ _))).mono ?_; rintro e y1 ⟨A3, c3, rfl, hr, hf3, hb1, hb1'⟩; (try have hrw := Row.laterD hb1'))
              | (go_at_call 109; (first | refine (HG.out A3 c3 _ hr hb1).mono ?_ | refine (HG.out A3 c3 _ (hr.ext ((Below.refl _ y1).alloc (Nat.le_refl _) _)) (hb1.alloc hb1.size _)).mono ?_); rintro e y2 ⟨rfl, hb2, hb2'⟩; (try have hrw2 := Row.later hb2'); (try have hrw2 := hrw.ext hb2' hrw.lt); (try (have hz2 := two_cells hrw2.row; obtain ⟨p0, p1, f0, f1⟩ := hz2))))
            · skip
              have hal : Below y2.heap.size y2 (y2.alloc (.cells #[.slice none 0 0, .int .i64 3] 61)) := (Below.refl _ y2).alloc (Nat.le_refl _) _
              obtain ⟨u0, u1, _⟩ := two_cells (heap_alloc_new y2 (.cells #[.slice none 0 0, .int .i64 3] 61))
              have hbw : Below wr.heap.size wr (y2.alloc (.cells #[.slice none 0 0, .int .i64 3] 61)) := hb2.trans (hal.mono hb2.size)
              generalize hgW : y2.alloc (.cells #[.slice none 0 0, .int .i64 3] 61) = W7 at *
              generalize hgg : y2.heap.size = g7 at *
              clear hal
              have hS7 := HX.out.1.ext hbw
              have HS := Lib.hid (made_set hS7.row (.slice none 0 0) (.int .i64 3))
              have HM := Lib.hid (made_no hS7.bl 3)
              obtain ⟨s0, s1, t0, t1⟩ := two_cells hS7.row.row
              clear hS7 hgW hbw
              go_wp2
              obtain ⟨⟨q0, q1⟩, _⟩ := HS.out
              have e1 := HE2.out.1
              rw [HF.out.2.1 _ HQ.out rfl] at e1
              have e2 := HE2.out.2.1 (by rw [e1]; decide)
              simp only [Bool.false_eq_true, if_false] at e1
              subst e1 e2
              exact bodyPost_ret (v := .agg #[.slice none 0 0, .int .i64 3]) (by simp [results, Try.results56, go_sem, q0, q1]) rfl HM.out
            · skip
              obtain ⟨⟨u0, u1⟩, _⟩ := made_set hrw2 (.slice none 0 0) (.int .i64 3)
              have hbw : Below wr.heap.size wr ((y2.setCell ⟨y1.heap.size, 0, none⟩ (.slice none 0 0)).setCell ⟨y1.heap.size, 1, none⟩ (.int .i64 3)) := (hb2.setCell (p := ⟨y1.heap.size, 0, none⟩) hb1.size _).setCell (p := ⟨y1.heap.size, 1, none⟩) hb1.size _
              generalize hgW : (y2.setCell ⟨y1.heap.size, 0, none⟩ (.slice none 0 0)).setCell ⟨y1.heap.size, 1, none⟩ (.int .i64 3) = W7 at *
              have hS7 := HX.out.1.ext hbw
              have HS := Lib.hid (made_set hS7.row (.slice none 0 0) (.int .i64 3))
              have HM := Lib.hid (made_no hS7.bl 3)
              obtain ⟨s0, s1, t0, t1⟩ := two_cells hS7.row.row
              clear hS7 hgW hbw
              go_wp2
              obtain ⟨⟨q0, q1⟩, _⟩ := HS.out
              have e1 := HE2.out.1
              rw [HF.out.2.1 _ HQ.out rfl] at e1
              have e2 := HE2.out.2.1 (by rw [e1]; decide)
              simp only [Bool.false_eq_true, if_false] at e1
              subst e1 e2
              exact bodyPost_ret (v := .agg #[.slice none 0 0, .int .i64 3]) (by simp [results, Try.results56, go_sem, q0, q1]) rfl HM.out
            · skip
              obtain ⟨⟨u0, u1⟩, _⟩ := made_set hrw2 (.slice none 0 0) (.int .i64 3)
              have hbw : Below wr.heap.size wr ((y2.setCell ⟨wr.heap.size, 0, none⟩ (.slice none 0 0)).setCell ⟨wr.heap.size, 1, none⟩ (.int .i64 3)) := (hb2.setCell (p := ⟨wr.heap.size, 0, none⟩) (Nat.le_refl _) _).setCell (p := ⟨wr.heap.size, 1, none⟩) (Nat.le_refl _) _
              generalize hgW : (y2.setCell ⟨wr.heap.size, 0, none⟩ (.slice none 0 0)).setCell ⟨wr.heap.size, 1, none⟩ (.int .i64 3) = W7 at *
              have hS7 := HX.out.1.ext hbw
              have HS := Lib.hid (made_set hS7.row (.slice none 0 0) (.int .i64 3))
              have HM := Lib.hid (made_no hS7.bl 3)
              obtain ⟨s0, s1, t0, t1⟩ := two_cells hS7.row.row
              clear hS7 hgW hbw
              go_wp2
              obtain ⟨⟨q0, q1⟩, _⟩ := HS.out
              have e1 := HE2.out.1
              rw [HF.out.2.1 _ HQ.out rfl] at e1
              have e2 := HE2.out.2.1 (by rw [e1]; decide)
              simp only [Bool.false_eq_true, if_false] at e1
              subst e1 e2
              exact bodyPost_ret (v := .agg #[.slice none 0 0, .int .i64 3]) (by simp [results, Try.results56, go_sem, q0, q1]) rfl HM.out
          · have HG := Lib.hid (fun A3 c3 W (hr : Rd W W.heap.size A3 (joinL L E1.xs)) (hW : Below wr.heap.size wr W) => (show Calls Try.prog 109 #[.agg #[.slice A3 (joinL L E1.xs).length c3]] W fun e W' => e = .returned (.agg #[.slice A3 (joinL L E1.xs).length c3, .int .i64 0]) ∧ Below wr.heap.size wr W' ∧ Below W.heap.size W W' from (ranged_any A3 c3 (joinL L E1.xs) W hr HF.out.2.2.2).mono (by
              rintro e y2 ⟨hc, hb⟩
              rw [HF.out.2.2.1, hq] at hc
              rcases hc with ⟨_, h⟩ | ⟨h, _⟩
              · exact ⟨h, hW.trans (hb.mono hW.size), hb⟩
              · cases h)))
            have HQ := Lib.hid hq
            clear hq
            go_upto_region 16 with fail
            go_region_held3 (fun W => W.cell? ⟨g, 0, none⟩ = some (.slice A L.length d) ∧ W.cell? ⟨b, off + k, none⟩ = some (.slice E1.A E1.xs.length E1.c)) (exact KX.out _ (by repeat (first | exact Below.refl _ _ | exact hb2 | exact hb1 | exact hb2.size | exact hb1.size | exact Nat.le_refl _ | refine Below.drew ?_ | refine Below.alloc ?_ ?_ _ | refine Below.setCell ?_ ?_ _))) (first
              | (go_at_call 111; refine (HJ.out _ (by repeat (first | exact Below.refl _ _ | exact Nat.le_refl _ | refine Below.drew ?_ | refine Below.alloc ?_ ?_ _))).mono ?_; rintro e y1 ⟨A3, c3, rfl, hr, hf3, hb1, hb1'⟩; (try have hrw := Row.laterD hb1'))
              | (go_at_call 109; (first | refine (HG.out A3 c3 _ hr hb1).mono ?_ | refine (HG.out A3 c3 _ (hr.ext ((Below.refl _ y1).alloc (Nat.le_refl _) _)) (hb1.alloc hb1.size _)).mono ?_); rintro e y2 ⟨rfl, hb2, hb2'⟩; (try have hrw2 := Row.later hb2'); (try have hrw2 := hrw.ext hb2' hrw.lt); (try (have hz2 := two_cells hrw2.row; obtain ⟨p0, p1, f0, f1⟩ := hz2))))
            · skip
              have hal : Below y2.heap.size y2 (y2.alloc (.cells #[.slice A3 (joinL L E1.xs).length c3, .int .i64 0] 61)) := (Below.refl _ y2).alloc (Nat.le_refl _) _
              obtain ⟨u0, u1, _⟩ := two_cells (heap_alloc_new y2 (.cells #[.slice A3 (joinL L E1.xs).length c3, .int .i64 0] 61))
              have hbw : Below wr.heap.size wr (y2.alloc (.cells #[.slice A3 (joinL L E1.xs).length c3, .int .i64 0] 61)) := hb2.trans (hal.mono hb2.size)
              have hr7 := (hr.ext hb2').ext hal
              generalize hgW : y2.alloc (.cells #[.slice A3 (joinL L E1.xs).length c3, .int .i64 0] 61) = W7 at *
              generalize hgg : y2.heap.size = g7 at *
              clear hal
              have hS7 := HX.out.1.ext hbw
              have s1 := hS7.z1
              have s2 := hS7.f1
              have HZ := Lib.hid (And.intro hS7 (And.intro hr7 hf3))
              clear hS7 hr7 hgW hbw
              go_wp2
              go_roundg (cs.length - (k + 1))
              case measure => omega
              case rel =>
                have hY := HZ.out.1.set (c' := c3) HZ.out.2.1 HZ.out.2.2 (by simp; omega)
                refine ⟨k + 1, by omega, by omega, by omega, by go_num, A3, c3, (show _ ∧ _ from ⟨?_, HF.out.1 _ HQ.out rfl⟩)⟩
                rw [show k + 1 - 1 = k by omega, HX.out.2.2.2.2.2]
                exact hY
            · skip
              obtain ⟨⟨u0, u1⟩, _⟩ := made_set hrw2 (.slice A3 (joinL L E1.xs).length c3) (.int .i64 0)
              have hbw : Below wr.heap.size wr ((y2.setCell ⟨y1.heap.size, 0, none⟩ (.slice A3 (joinL L E1.xs).length c3)).setCell ⟨y1.heap.size, 1, none⟩ (.int .i64 0)) := (hb2.setCell (p := ⟨y1.heap.size, 0, none⟩) hb1.size _).setCell (p := ⟨y1.heap.size, 1, none⟩) hb1.size _
              have hn : ∀ ad, A3 = some ad → ad.block ≠ y1.heap.size := fun ad e => by obtain ⟨b2, o2, e2, l2, _⟩ := hr (by rw [joinL_length]; exact HX.out.2.2.1.1); rw [e2] at e; injection e with e; subst e; show b2 ≠ _; omega
              have hr6 := (hr.ext ((Below.refl _ y1).alloc (Nat.le_refl _) (.cells #[.slice none 0 0, .int .i64 0] 61))).ext hb2'
              have hr7 : Rd ((y2.setCell ⟨y1.heap.size, 0, none⟩ (.slice A3 (joinL L E1.xs).length c3)).setCell ⟨y1.heap.size, 1, none⟩ (.int .i64 0)) ((y2.setCell ⟨y1.heap.size, 0, none⟩ (.slice A3 (joinL L E1.xs).length c3)).setCell ⟨y1.heap.size, 1, none⟩ (.int .i64 0)).heap.size A3 (joinL L E1.xs) := by
                simp only [World.size_setCell]
                exact (hr6.setCell hn _).setCell hn _
              clear hr6 hn
              generalize hgW : (y2.setCell ⟨y1.heap.size, 0, none⟩ (.slice A3 (joinL L E1.xs).length c3)).setCell ⟨y1.heap.size, 1, none⟩ (.int .i64 0) = W7 at *
              have hS7 := HX.out.1.ext hbw
              have s1 := hS7.z1
              have s2 := hS7.f1
              have HZ := Lib.hid (And.intro hS7 (And.intro hr7 hf3))
              clear hS7 hr7 hgW hbw
              go_wp2
              go_roundg (cs.length - (k + 1))
              case measure => omega
              case rel =>
                have hY := HZ.out.1.set (c' := c3) HZ.out.2.1 HZ.out.2.2 (by simp; omega)
                refine ⟨k + 1, by omega, by omega, by omega, by go_num, A3, c3, (show _ ∧ _ from ⟨?_, HF.out.1 _ HQ.out rfl⟩)⟩
                rw [show k + 1 - 1 = k by omega, HX.out.2.2.2.2.2]
                exact hY
            · skip
              obtain ⟨⟨u0, u1⟩, _⟩ := made_set hrw2 (.slice A3 (joinL L E1.xs).length c3) (.int .i64 0)
              have hbw : Below wr.heap.size wr ((y2.setCell ⟨wr.heap.size, 0, none⟩ (.slice A3 (joinL L E1.xs).length c3)).setCell ⟨wr.heap.size, 1, none⟩ (.int .i64 0)) := (hb2.setCell (p := ⟨wr.heap.size, 0, none⟩) (Nat.le_refl _) _).setCell (p := ⟨wr.heap.size, 1, none⟩) (Nat.le_refl _) _
              have hn : ∀ ad, A3 = some ad → ad.block ≠ wr.heap.size := fun ad e => by have := hf3 ad e; simp at this; omega
              have hr6 := hr.ext hb2'
              have hr7 : Rd ((y2.setCell ⟨wr.heap.size, 0, none⟩ (.slice A3 (joinL L E1.xs).length c3)).setCell ⟨wr.heap.size, 1, none⟩ (.int .i64 0)) ((y2.setCell ⟨wr.heap.size, 0, none⟩ (.slice A3 (joinL L E1.xs).length c3)).setCell ⟨wr.heap.size, 1, none⟩ (.int .i64 0)).heap.size A3 (joinL L E1.xs) := by
                simp only [World.size_setCell]
                exact (hr6.setCell hn _).setCell hn _
              clear hr6 hn
              generalize hgW : (y2.setCell ⟨wr.heap.size, 0, none⟩ (.slice A3 (joinL L E1.xs).length c3)).setCell ⟨wr.heap.size, 1, none⟩ (.int .i64 0) = W7 at *
              have hS7 := HX.out.1.ext hbw
              have s1 := hS7.z1
              have s2 := hS7.f1
              have HZ := Lib.hid (And.intro hS7 (And.intro hr7 hf3))
              clear hS7 hr7 hgW hbw
              go_wp2
              go_roundg (cs.length - (k + 1))
              case measure => omega
              case rel =>
                have hY := HZ.out.1.set (c' := c3) HZ.out.2.1 HZ.out.2.2 (by simp; omega)
                refine ⟨k + 1, by omega, by omega, by omega, by go_num, A3, c3, (show _ ∧ _ from ⟨?_, HF.out.1 _ HQ.out rfl⟩)⟩
                rw [show k + 1 - 1 = k by omega, HX.out.2.2.2.2.2]
                exact hY
        · have hltz : ¬ (k : Int) < (cs.length : Int) := by omega
          obtain rfl : k = cs.length := by omega
          obtain ⟨S, hfit⟩ := hS.out
          have e1 := HE2.out.1
          rw [hfit, if_pos rfl] at e1
          have e2 := HE2.out.2.2 e1
          subst e1 e2
          have z1 := S.z1
          have HS := Lib.hid (made_set S.row (.slice A (chainTo cs (cs.length - 1)).length d) (.int .i64 0))
          have HM := Lib.hid S.made
          obtain ⟨y0, y1', f0, f1⟩ := two_cells S.row.row
          clear S hfit hS HE2
          go_wp2
          obtain ⟨⟨q0, q1⟩, _⟩ := HS.out
          exact bodyPost_ret (v := .agg #[.slice A (chainTo cs (cs.length - 1)).length d, .int .i64 0]) (by simp [results, Try.results56, go_sem, q0, q1]) rfl HM.out
end Go.Proofs.Ytknkneccnhgjmaa
