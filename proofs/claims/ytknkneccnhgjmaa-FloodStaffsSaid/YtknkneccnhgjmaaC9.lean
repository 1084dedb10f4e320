/- Walks: Between. -/
import Derived.Test.YtknkneccnhgjmaaC8
namespace Go.Proofs.Ytknkneccnhgjmaa
open Go.RowKit Go.Shelf

theorem eg72 : ∀ args w, (callFunc 72 args).run Try.prog w = .ok (.enter 72 args) w := enters_of Try.func72 (by kernel_rfl) rfl
theorem eg73 : ∀ args w, (callFunc 73 args).run Try.prog w = .ok (.enter 73 args) w := enters_of Try.func73 (by kernel_rfl) rfl

def loL (l : List Sv) (n : Nat) : List Int := tab n fun t => loTo l t l.length
def hiL (l : List Sv) (n : Nat) : List Int := tab n fun t => hiTo l t l.length
def betE (l : List Sv) (last : Int) : Int :=
  if 60 < l.length then 2 else if withinB last 0 120 = false then 1 else if anyWrong last l then 1 else if clashB (hiL l (last.toNat + 1)) (loL l (last.toNat + 1)) then 9 else 0

def RTwo (w : World) (xs ys : List Int) (E : Int) (e : Ending) (w' : World) : Prop :=
  ∃ A c A' c', e = .returned (.tuple #[.agg #[.slice A xs.length c], .agg #[.slice A' ys.length c'], .int .i64 E]) ∧ Rd w' w'.heap.size A xs ∧ Rd w' w'.heap.size A' ys ∧ Below w.heap.size w w'
theorem RTwo.drew {w : World} {E : Int} {xs ys : List Int} {e : Ending} {w' : World} (h : RTwo w xs ys E e w') : RTwo w xs ys E e w'.drew := by
  obtain ⟨A, c, A', c', he, h1, h2, h5⟩ := h
  exact ⟨A, c, A', c', he, h1.ext (Below.refl _ w').drew, h2.ext (Below.refl _ w').drew, h5.drew⟩

/-- Two results' cells as they were laid. -/
structure Ends0 (w : World) (g : Nat) : Prop where
  c0 : w.cell? ⟨g, 0, none⟩ = some (.slice none 0 0)
  c1 : w.cell? ⟨g + 1, 0, none⟩ = some (.slice none 0 0)
  f0 : w.frozen? ⟨g, 0, none⟩ = false
  f1 : w.frozen? ⟨g + 1, 0, none⟩ = false
  lt : g + 1 < w.heap.size
theorem Ends0.ext {w w1 : World} {g : Nat} (h : Ends0 w g) (hb : Below w.heap.size w w1) : Ends0 w1 g := by
  obtain ⟨rc, rf⟩ := bcell hb
  have l0 : g < w.heap.size := Nat.lt_of_succ_lt h.lt
  exact ⟨(rc _ 0 l0).trans h.c0, (rc _ 0 h.lt).trans h.c1, (rf _ 0 l0).trans h.f0, (rf _ 0 h.lt).trans h.f1, Nat.lt_of_lt_of_le h.lt hb.size⟩
theorem ends_set {w : World} {g : Nat} (h : Ends0 w g) (v0 v1 : Value) :
    ((w.setCell ⟨g, 0, none⟩ v0).setCell ⟨g + 1, 0, none⟩ v1).cell? ⟨g, 0, none⟩ = some v0 ∧ ((w.setCell ⟨g, 0, none⟩ v0).setCell ⟨g + 1, 0, none⟩ v1).cell? ⟨g + 1, 0, none⟩ = some v1 := by
  have n1 : ∀ (w : World) (p q : Addr) (v : Value), p.block ≠ q.block → (w.setCell p v).cell? q = w.cell? q := fun w p q v hne => World.cell?_setCell_other w p q v (fun e => hne (by rw [e]))
  refine ⟨?_, ?_⟩
  · rw [n1 _ _ _ _ (by simp)]; exact World.cell?_setCell_same' _ _ _ (by rw [h.c0]; rfl)
  · exact World.cell?_setCell_same' _ _ _ (by rw [n1 _ _ _ _ (by simp), h.c1]; rfl)
theorem fin_ends {w w1 w2 : World} {g : Nat} {E : Int} {xs ys : List Int} {A A' : Option Addr} {c c' : Nat} {v0 v1 : Value} (h0 : Below w.heap.size w w1) (h1 : Below w1.heap.size w1 w2) (hrd : Rd w2 w2.heap.size A xs) (hrd' : Rd w2 w2.heap.size A' ys)
    (hfr : Fresh w1.heap.size A) (hfr' : Fresh w1.heap.size A') (hg : w.heap.size ≤ g) (hg2 : g + 1 < w1.heap.size) :
    RTwo w xs ys E (.returned (.tuple #[.agg #[.slice A xs.length c], .agg #[.slice A' ys.length c'], .int .i64 E])) ((w2.setCell ⟨g, 0, none⟩ v0).setCell ⟨g + 1, 0, none⟩ v1) := by
  have ne : ∀ (ad : Addr), A = some ad → ad.block ≠ g ∧ ad.block ≠ g + 1 := fun ad e => by have := hfr ad e; omega
  have ne' : ∀ (ad : Addr), A' = some ad → ad.block ≠ g ∧ ad.block ≠ g + 1 := fun ad e => by have := hfr' ad e; omega
  refine ⟨A, c, A', c', rfl, ?_, ?_, ((h0.trans (h1.mono h0.size)).setCell (by exact hg) _).setCell (by show _ ≤ g + 1; omega) _⟩
  · simp only [World.size_setCell]; exact (hrd.setCell (fun ad e => (ne ad e).1) _).setCell (fun ad e => (ne ad e).2) _
  · simp only [World.size_setCell]; exact (hrd'.setCell (fun ad e => (ne' ad e).1) _).setCell (fun ad e => (ne' ad e).2) _

/-- Between's four blocks. -/
def wBt (w : World) (A : Option Addr) (n c : Nat) (last : Int) : World := (((w.alloc (.cells #[.slice A n c] 22)).alloc (.cells #[.int .i64 last] 3)).alloc (.cells #[.slice none 0 0] 26)).alloc (.cells #[.slice none 0 0] 26)
theorem wBt_below (w : World) (A : Option Addr) (n c : Nat) (last : Int) : Below w.heap.size w (wBt w A n c last) := ((((Below.refl _ w).alloc (Nat.le_refl _) _).alloc (by simp) _).alloc (by simp; omega) _).alloc (by simp; omega) _
theorem wBt_size (w : World) (A : Option Addr) (n c : Nat) (last : Int) : (wBt w A n c last).heap.size = w.heap.size + 1 + 1 + 1 + 1 := by simp [wBt]
theorem wBt_ends (w : World) (A : Option Addr) (n c : Nat) (last : Int) : Ends0 (wBt w A n c last) (w.heap.size + 1 + 1) :=
  ⟨by simp [wBt, go_sem], by simp [wBt, go_sem], by simp [wBt, go_sem], by simp [wBt, go_sem], by simp [wBt]⟩
theorem wBt_cells (w : World) (A : Option Addr) (n c : Nat) (last : Int) : (wBt w A n c last).cell? ⟨w.heap.size, 0, none⟩ = some (.slice A n c) ∧ (wBt w A n c last).cell? ⟨w.heap.size + 1, 0, none⟩ = some (.int .i64 last) :=
  ⟨by simp [wBt, go_sem], by simp [wBt, go_sem]⟩

theorem cells_later {w1 w2 : World} {g : Nat} {v1 v2 : Value} (hs : g + 1 < w1.heap.size) (hb : Below w1.heap.size w1 w2) (p1 : w1.cell? ⟨g, 0, none⟩ = some v1) (p2 : w1.cell? ⟨g + 1, 0, none⟩ = some v2) :
    w2.cell? ⟨g, 0, none⟩ = some v1 ∧ w2.cell? ⟨g + 1, 0, none⟩ = some v2 :=
  ⟨(hb.cell (p := ⟨g, 0, none⟩) (Nat.lt_of_succ_lt hs)).trans p1, (hb.cell (p := ⟨g + 1, 0, none⟩) hs).trans p2⟩

/-- What is known in Between, once the boxes are laid. -/
structure BtW (w W : World) (A : Option Addr) (c : Nat) (l : List Sv) (last : Int) : Prop where
  p1 : W.cell? ⟨w.heap.size, 0, none⟩ = some (.slice A l.length c)
  p2 : W.cell? ⟨w.heap.size + 1, 0, none⟩ = some (.int .i64 last)
  e0 : Ends0 W (w.heap.size + 1 + 1)
  rd : RdS W W.heap.size A l
  bl : Below w.heap.size w W
  bt : Below (wBt w A l.length c last).heap.size (wBt w A l.length c last) W
theorem BtW.ext {w W W' : World} {A : Option Addr} {c : Nat} {l : List Sv} {last : Int} (h : BtW w W A c l last) (hb : Below W.heap.size W W') : BtW w W' A c l last := by
  have hlt := h.e0.lt
  exact ⟨(hb.cell (p := ⟨w.heap.size, 0, none⟩) (show w.heap.size < _ by omega)).trans h.p1, (hb.cell (p := ⟨w.heap.size + 1, 0, none⟩) (show w.heap.size + 1 < _ by omega)).trans h.p2, h.e0.ext hb, h.rd.ext hb, h.bl.trans (hb.mono h.bl.size), h.bt.trans (hb.mono h.bt.size)⟩
theorem wBt_known (w : World) (A : Option Addr) (c : Nat) (l : List Sv) (last : Int) (h : RdS w w.heap.size A l) : BtW w (wBt w A l.length c last) A c l last :=
  ⟨(wBt_cells w A l.length c last).1, (wBt_cells w A l.length c last).2, wBt_ends w A l.length c last, h.ext (wBt_below w A l.length c last), wBt_below w A l.length c last, Below.refl _ _⟩
/-- .. and once both courses are made. -/
structure BtE (w W : World) (A : Option Addr) (c : Nat) (l : List Sv) (last : Int) (g8 g9 : Nat) (A3 : Option Addr) (c3 : Nat) (A4 : Option Addr) (c4 : Nat) (lo hi : List Int) : Prop where
  k : BtW w W A c l last
  r3 : Rd W W.heap.size A3 lo
  r4 : Rd W W.heap.size A4 hi
  c8 : W.cell? ⟨g8, 0, none⟩ = some (.slice A3 lo.length c3)
  c9 : W.cell? ⟨g9, 0, none⟩ = some (.slice A4 hi.length c4)
  l8 : g8 < W.heap.size
  l9 : g9 < W.heap.size
  n9 : w.heap.size + 1 + 1 + 1 < g9
theorem BtE.ext {w W W' : World} {A : Option Addr} {c : Nat} {l : List Sv} {last : Int} {g8 g9 : Nat} {A3 : Option Addr} {c3 : Nat} {A4 : Option Addr} {c4 : Nat} {lo hi : List Int} (h : BtE w W A c l last g8 g9 A3 c3 A4 c4 lo hi) (hb : Below W.heap.size W W') : BtE w W' A c l last g8 g9 A3 c3 A4 c4 lo hi :=
  ⟨h.k.ext hb, h.r3.ext hb, h.r4.ext hb, (hb.cell (p := ⟨g8, 0, none⟩) h.l8).trans h.c8, (hb.cell (p := ⟨g9, 0, none⟩) h.l9).trans h.c9, Nat.lt_of_lt_of_le h.l8 hb.size, Nat.lt_of_lt_of_le h.l9 hb.size, h.n9⟩
theorem loL_length (l : List Sv) (n : Nat) : (loL l n).length = n := tab_length _ _
theorem hiL_length (l : List Sv) (n : Nat) : (hiL l n).length = n := tab_length _ _
theorem rtwo_none (w w1 : World) (E : Int) (hb : Below w.heap.size w w1) : RTwo w [] [] E (.returned (.tuple #[.agg #[.slice none 0 0], .agg #[.slice none 0 0], .int .i64 E])) w1 :=
  ⟨none, 0, none, 0, rfl, Rd.nil, Rd.nil, hb⟩

set_option maxRecDepth 100000 in
set_option maxHeartbeats 3200000 in
theorem Between_any (A : Option Addr) (c : Nat) (l : List Sv) (last : Int) (w : World) (h : RdS w w.heap.size A l) (hm : l.length ≤ maxLen) :
    Calls Try.prog 17 #[.slice A l.length c, .int .i64 last] w fun e w' => RTwo w (pick (decide (betE l last = 0)) (loL l (last.toNat + 1))) (pick (decide (betE l last = 0)) (hiL l (last.toNat + 1))) (betE l last) e w' := by
  have hK := wBt_known w A c l last h
  have hs0 := wBt_size w A l.length c last
  have hm' := hm
  unfold maxLen at hm
  by_cases h60 : 60 < l.length
  · have hE : betE l last = 2 := by simp [betE, h60]
    rw [hE, show decide ((2 : Int) = 0) = false from rfl, pick_f, pick_f]
    have HT := Lib.hid (rtwo_none w _ 2 hK.bl)
    have h60z : (60 : Int) < (l.length : Int) := by omega
    clear hE hs0 hK h
    unfold wBt at HT
    go_enter Try.func17, Try.ntmps17
    go_wp2
    exact bodyPost_ret (v := .tuple #[.agg #[.slice none 0 0], .agg #[.slice none 0 0], .int .i64 2]) (by simp [results, Try.results17, go_sem]) rfl HT.out
  have h60z : ¬ (60 : Int) < (l.length : Int) := by omega
  cases hw : withinB last 0 120 with
  | false =>
    have hE : betE l last = 1 := by simp [betE, h60, hw]
    rw [hE, show decide ((1 : Int) = 0) = false from rfl, pick_f, pick_f]
    have HT := Lib.hid (rtwo_none w _ 1 hK.bl)
    clear hE hs0 hK h
    unfold wBt at HT
    go_enter Try.func17, Try.ntmps17
    go_wp2_with (go_at_call 69; refine (within_any _ _ _ _).mono ?_; rintro e w' ⟨rfl, rfl⟩)
    exact bodyPost_ret (v := .tuple #[.agg #[.slice none 0 0], .agg #[.slice none 0 0], .int .i64 1]) (by simp [results, Try.results17, go_sem]) rfl HT.out
  | true =>
  have hcall := containsFuncS_any A c l last (w.heap.size + 1) (wBt w A l.length c last) hK.rd (by omega) hK.p2 (by rw [hs0]; omega)
  cases ha : anyWrong last l with
  | true =>
    have hE : betE l last = 1 := by simp [betE, h60, hw, ha]
    rw [hE, show decide ((1 : Int) = 0) = false from rfl, pick_f, pick_f]
    rw [ha] at hcall
    have HC := Lib.hid (And.intro hcall (And.intro hK hs0))
    clear hE hs0 hK h hcall ha
    go_enter Try.func17, Try.ntmps17
    go_upto_region 5 with (first
      | (go_at_call 69; refine (within_any _ _ _ _).mono ?_; rintro e w' ⟨rfl, rfl⟩)
      | (go_at_call 70; refine HC.out.1.mono ?_; rintro e w1 ⟨rfl, hb⟩))
    have hK := HC.out.2.1.ext hb
    have HT := Lib.hid (And.intro (ends_set hK.e0 (.slice none 0 0) (.slice none 0 0)) (fin_ends (E := 1) (xs := []) (ys := []) (A := none) (A' := none) (c := 0) (c' := 0) (v0 := .slice none 0 0) (v1 := .slice none 0 0) hK.bl (Below.refl _ w1) Rd.nil Rd.nil (fun _ e => (by cases e)) (fun _ e => (by cases e)) (by omega) hK.e0.lt))
    obtain ⟨g0, g1, k0, k1, hlt⟩ := hK.e0
    clear hK hb
    go_wp2
    obtain ⟨⟨q0, q1⟩, HF⟩ := HT.out
    exact bodyPost_ret (v := .tuple #[.agg #[.slice none 0 0], .agg #[.slice none 0 0], .int .i64 1]) (by simp [results, Try.results17, go_sem, q0, q1]) rfl HF
  | false =>
  rw [ha] at hcall
  have hlast : 0 ≤ last ∧ last ≤ 120 := by unfold withinB at hw; simpa using hw
  obtain ⟨m, rfl⟩ : ∃ m : Nat, last = (m : Int) := ⟨last.toNat, by omega⟩
  have hm120 : m ≤ 120 := by omega
  have hm0z : (0 : Int) ≤ (m : Int) := by omega
  have hm120z : (m : Int) ≤ 120 := by omega
  have hcast : ((m + 1 : Nat) : Int) = (m : Int) + 1 := by omega
  have hE : betE l m = if clashB (hiL l (m + 1)) (loL l (m + 1)) then 9 else 0 := by simp [betE, h60, hw, ha]
  rw [hE, Int.toNat_natCast]
  have HC := Lib.hid (And.intro hcall (And.intro hK (And.intro hs0 (And.intro hcast hlast))))
  clear hE hs0 hK h hcall ha hcast hlast
  cases hc : clashB (hiL l (m + 1)) (loL l (m + 1))
  all_goals
    have HCl := Lib.hid hc
    clear hc
    simp only [Bool.false_eq_true, if_false, if_true]
    first
      | rw [show decide ((9 : Int) = 0) = false from rfl, pick_f, pick_f]
      | rw [show decide True = true from rfl, pick_t, pick_t]
    go_enter Try.func17, Try.ntmps17
    go_upto_region 6 with (first
      | (go_at_call 69; refine (within_any _ _ _ _).mono ?_; rintro e w' ⟨rfl, rfl⟩)
      | (go_at_call 70; refine HC.out.1.mono ?_; rintro e w1 ⟨rfl, hb⟩))
    have hK := HC.out.2.1.ext hb
    have he6 := each_pure 72 #[.pointer (some ⟨w.heap.size, 0, none⟩)] eg72 (m + 1) (by omega) (by omega) (fun t => loTo l t l.length) w1 (fun t W ht hW => between2_any t A c w.heap.size l W (hK.rd.ext hW) (by omega) (hK.ext hW).p1)
    rw [HC.out.2.2.2.1, show (tab (m + 1) fun t => loTo l t l.length) = loL l (m + 1) from rfl] at he6
    have HE6 := Lib.hid (And.intro he6 hK)
    have p1 := hK.p1
    have p2 := hK.p2
    clear he6 hK hb
    go_upto_region 7 with (go_at_call 71; refine HE6.out.1.mono ?_; rintro e w2 ⟨A3, c3, rfl, hrd, hfr, hb⟩)
    have hw3 : Below w2.heap.size w2 (w2.alloc (.cells #[.slice A3 (loL l (m + 1)).length c3] 26)) := (Below.refl _ w2).alloc (Nat.le_refl _) _
    have hB3 := hb.trans (hw3.mono hb.size)
    have hK := HE6.out.2.ext hB3
    have q1 := hK.p1
    have q2 := hK.p2
    have u8 : (w2.alloc (.cells #[.slice A3 (loL l (m + 1)).length c3] 26)).cell? ⟨w2.heap.size, 0, none⟩ = some (.slice A3 (loL l (m + 1)).length c3) := by simp [go_sem]
    have l8 : w2.heap.size < (w2.alloc (.cells #[.slice A3 (loL l (m + 1)).length c3] 26)).heap.size := by simp
    have hR3 := hrd.ext hw3
    have hF3 := hfr.mono HE6.out.2.bl.size
    have hsz3 := HE6.out.2.e0.lt
    have hfr3 : Fresh (w.heap.size + 1 + 1 + 1 + 1) A3 := hfr.mono (by omega)
    generalize hg2 : w2.alloc (.cells #[.slice A3 (loL l (m + 1)).length c3] 26) = w3 at *
    generalize hgg : w2.heap.size = g8 at *
    have he7 := each_pure 73 #[.pointer (some ⟨w.heap.size, 0, none⟩)] eg73 (m + 1) (by omega) (by omega) (fun t => hiTo l t l.length) w3 (fun t W ht hW => between3_any t A c w.heap.size l W (hK.rd.ext hW) (by omega) (hK.ext hW).p1)
    rw [HC.out.2.2.2.1, show (tab (m + 1) fun t => hiTo l t l.length) = hiL l (m + 1) from rfl] at he7
    have HE7 := Lib.hid (And.intro he7 (And.intro hK (And.intro hR3 hfr3)))
    clear hg2 hgg he7 hK hR3 hF3 hfr3 hB3 hw3 hb hrd hfr p1 p2 hsz3
    go_upto_region 8 with (go_at_call 71; refine HE7.out.1.mono ?_; rintro e w4 ⟨A4, c4, rfl, hrd, hfr, hb⟩)
    have hw5 : Below w4.heap.size w4 (w4.alloc (.cells #[.slice A4 (hiL l (m + 1)).length c4] 26)) := (Below.refl _ w4).alloc (Nat.le_refl _) _
    have hB5 := hb.trans (hw5.mono hb.size)
    have hE : BtE w (w4.alloc (.cells #[.slice A4 (hiL l (m + 1)).length c4] 26)) A c l m g8 w4.heap.size A3 c3 A4 c4 (loL l (m + 1)) (hiL l (m + 1)) :=
      ⟨HE7.out.2.1.ext hB5, HE7.out.2.2.1.ext hB5, hrd.ext hw5, (hB5.cell (p := ⟨g8, 0, none⟩) l8).trans u8, by simp [go_sem], Nat.lt_of_lt_of_le l8 hB5.size, by simp, by have := hb.size; have := HE7.out.2.1.e0.lt; omega⟩
    have hfr4 : Fresh (w.heap.size + 1 + 1 + 1 + 1) A4 := hfr.mono (by have := HE7.out.2.1.e0.lt; omega)
    generalize hg2 : w4.alloc (.cells #[.slice A4 (hiL l (m + 1)).length c4] 26) = w5 at *
    generalize hgg : w4.heap.size = g9 at *
    have HE := Lib.hid (And.intro hE (And.intro HE7.out.2.2.2 hfr4))
    have c8 := hE.c8
    have c9 := hE.c9
    have hce : ∀ (A' : Option Addr) (c' : Nat) (W : World), Rd W W.heap.size A4 (hiL l (m + 1)) → Rd W W.heap.size A3 (loL l (m + 1)) → Rd W W.heap.size A' (upto (loL l (m + 1)).length) →
        Calls Try.prog 74 #[.slice A' (upto (loL l (m + 1)).length).length c', .func (.func 76) #[.agg #[.slice A4 (hiL l (m + 1)).length c4, .slice A3 (loL l (m + 1)).length c3]] #[]] W fun e w' => e = .returned (.bool (clashB (hiL l (m + 1)) (loL l (m + 1)))) ∧ Below W.heap.size W w' := fun A' c' W r4 r3 r => by
      have e : upto (loL l (m + 1)).length = upto (hiL l (m + 1)).length := by rw [loL_length, hiL_length]
      rw [e] at r ⊢
      exact contains_early A4 A3 A' c4 c3 c' (hiL l (m + 1)) (loL l (m + 1)) W r4 r3 r (by rw [hiL_length]; omega) (by rw [loL_length, hiL_length])
    have HCE := Lib.hid hce
    have hst := fun W => steps_any A3 c3 (loL l (m + 1)) W (by rw [loL_length]; omega)
    have HST := Lib.hid hst
    clear hg2 hgg hE hfr4 hB5 hw5 hb hrd hfr hce hst u8 l8 q1 q2 HE6 HE7
    go_region_held3 (fun W => W.cell? ⟨g8, 0, none⟩ = some (.slice A3 (loL l (m + 1)).length c3) ∧ W.cell? ⟨g9, 0, none⟩ = some (.slice A4 (hiL l (m + 1)).length c4)) (go_keep) (first
      | (go_at_call 75; refine (HST.out _).mono ?_; rintro e w6 ⟨A6, c6, rfl, hrd, hfr, hb⟩; have HL := Lib.hid (And.intro hrd (HE.out.1.ext (((Below.refl _ w5).drew).trans hb))); obtain ⟨s1, s2⟩ := And.intro HL.out.2.c8 HL.out.2.c9; clear hrd hfr hb)
      | (go_at_call 74; refine (HCE.out A6 c6 w6 HL.out.2.r4 HL.out.2.r3 HL.out.1).mono ?_; rw [HCl.out]; rintro e w7 ⟨rfl, hb⟩; have HL7 := Lib.hid (HL.out.2.ext hb); obtain ⟨t1, t2⟩ := And.intro HL7.out.c8 HL7.out.c9; obtain ⟨g0, g1, k0, k1, hlt⟩ := HL7.out.k.e0; clear hb))
  · have hF3 := HE.out.2.1
    have hF4 := HE.out.2.2
    have hs0 := HC.out.2.2.1
    have hK := HL7.out
    have HT := Lib.hid (And.intro (ends_set hK.k.e0 (.slice A3 (loL l (m + 1)).length c3) (.slice A4 (hiL l (m + 1)).length c4)) (fin_ends (E := 0) (c := c3) (c' := c4) (v0 := .slice A3 (loL l (m + 1)).length c3) (v1 := .slice A4 (hiL l (m + 1)).length c4) (wBt_below w A l.length c m) hK.k.bt hK.r3 hK.r4 (by rw [hs0]; exact hF3) (by rw [hs0]; exact hF4) (show w.heap.size ≤ w.heap.size + 1 + 1 by omega) (by rw [hs0]; omega)))
    clear hK hF3 hF4 hs0
    go_wp2
    have hn9 : ∀ (W : World) (v : Value), (W.setCell ⟨w.heap.size + 1 + 1, 0, none⟩ v).cell? ⟨g9, 0, none⟩ = W.cell? ⟨g9, 0, none⟩ := fun W v => World.cell?_setCell_other W _ _ v (fun e => by have e := congrArg Addr.block e; have := HL7.out.n9; dsimp only at e; omega)
    go_region
    go_wp2
    obtain ⟨⟨q0, q1⟩, HF⟩ := HT.out
    exact bodyPost_ret (v := .tuple #[.agg #[.slice A3 (loL l (m + 1)).length c3], .agg #[.slice A4 (hiL l (m + 1)).length c4], .int .i64 0]) (by simp [results, Try.results17, go_sem, q0, q1]) rfl HF.drew
  · have hF3 := HE.out.2.1
    have hF4 := HE.out.2.2
    have hs0 := HC.out.2.2.1
    have hK := HL7.out
    have HT := Lib.hid (And.intro (ends_set hK.k.e0 (.slice A3 (loL l (m + 1)).length c3) (.slice A4 (hiL l (m + 1)).length c4)) (fin_ends (E := 0) (c := c3) (c' := c4) (v0 := .slice A3 (loL l (m + 1)).length c3) (v1 := .slice A4 (hiL l (m + 1)).length c4) (wBt_below w A l.length c m) hK.k.bt hK.r3 hK.r4 (by rw [hs0]; exact hF3) (by rw [hs0]; exact hF4) (show w.heap.size ≤ w.heap.size + 1 + 1 by omega) (by rw [hs0]; omega)))
    clear hK hF3 hF4 hs0
    go_wp2
    have hn9 : ∀ (W : World) (v : Value), (W.setCell ⟨w.heap.size + 1 + 1, 0, none⟩ v).cell? ⟨g9, 0, none⟩ = W.cell? ⟨g9, 0, none⟩ := fun W v => World.cell?_setCell_other W _ _ v (fun e => by have e := congrArg Addr.block e; have := HL7.out.n9; dsimp only at e; omega)
    go_region
    go_wp2
    obtain ⟨⟨q0, q1⟩, HF⟩ := HT.out
    exact bodyPost_ret (v := .tuple #[.agg #[.slice A3 (loL l (m + 1)).length c3], .agg #[.slice A4 (hiL l (m + 1)).length c4], .int .i64 0]) (by simp [results, Try.results17, go_sem, q0, q1]) rfl HF.drew
  all_goals
    have hF3 := HE.out.2.1
    have hF4 := HE.out.2.2
    have hs0 := HC.out.2.2.1
    have hK := HL7.out
    have HT := Lib.hid (And.intro (ends_set hK.k.e0 (.slice none 0 0) (.slice none 0 0)) (fin_ends (E := 9) (xs := []) (ys := []) (A := none) (A' := none) (c := 0) (c' := 0) (v0 := .slice none 0 0) (v1 := .slice none 0 0) (wBt_below w A l.length c m) hK.k.bt Rd.nil Rd.nil (fun _ e => (by cases e)) (fun _ e => (by cases e)) (show w.heap.size ≤ w.heap.size + 1 + 1 by omega) (by rw [hs0]; omega)))
    clear hK hF3 hF4 hs0
    go_wp2
    obtain ⟨⟨q0, q1⟩, HF⟩ := HT.out
    exact bodyPost_ret (v := .tuple #[.agg #[.slice none 0 0], .agg #[.slice none 0 0], .int .i64 9]) (by simp [results, Try.results17, go_sem, q0, q1]) rfl HF
end Go.Proofs.Ytknkneccnhgjmaa
