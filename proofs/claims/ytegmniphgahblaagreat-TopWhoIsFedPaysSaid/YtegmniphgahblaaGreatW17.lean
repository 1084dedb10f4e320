/- Walks: over. -/
import Derived.Test.YtegmniphgahblaaGreatW16
namespace Go.Proofs.YtegmniphgahblaaGreat
open Go.RowKit Go.Shelf

theorem arr_index (f : Nat → Int) {x : Nat} (hx : x < 24) (w : World) : (Instr.index 125 (arV f) (.int .i64 (x : Int))).run Tryz.prog w = .ok (.int .i64 (f x)) w := by
 have hv : (arL f)[x]? = some (.int .i64 (f x)) := by simp [arL, hx]
 unfold arV
 simp [Instr.index, run_underlying Tryz.underlying125, asIntOf, go_sem, hx, hv]
/-- By how much a group pays too much. -/
def overF (rs : List Rch) (ps : List Pay) (x : Nat → Int) : Int := obj (abF rs) (coF rs) rs.length (load (rcF ps) x ps.length)
def ovS (rs : List Rch) (ps : List Pay) (x : Nat → Int) (k : Nat) : Int := sumTo (fun r => if r < rs.length ∧ abF rs r < 0 then oF rs ps x r else 0) k
theorem ovS_all {rs : List Rch} {ps : List Pay} {x : Nat → Int} (ok : RsOk rs) : ovS rs ps x 24 = overF rs ps x := by
 have hn := ok.n
 unfold overF
 rw [obj_out ok.ab]
 have h : ∀ k, rs.length ≤ k → ovS rs ps x k = sumTo (fun r => if abF rs r < 0 then outS (abF rs) (coF rs) rs.length (load (rcF ps) x ps.length) r else 0) rs.length := fun k => by
  induction k with
  | zero => intro hk; rw [show rs.length = 0 by omega]; rfl
  | succ k ih =>
   intro hk
   by_cases e : rs.length ≤ k
   ·show ovS rs ps x k + (if k < rs.length ∧ abF rs k < 0 then oF rs ps x k else 0) = _
    rw [ih e, if_neg (by omega), Int.add_zero]
   ·obtain h : rs.length = k + 1 := by omega
    rw [h]
    exact sumTo_congr fun r hr => by
     unfold oF
     by_cases h0 : abF rs r < 0
     ·rw [if_pos ⟨by omega, h0⟩, if_pos h0, if_pos (by omega), h]
     ·rw [if_neg (fun k => h0 k.2), if_neg h0]
 exact h 24 hn
theorem oF_rng {rs : List Rch} {ps : List Pay} {x : Nat → Int} (ok : RsOk rs) (pk : PsOk rs ps) (hv : ∀ i, i < ps.length → 0 ≤ x i ∧ x i ≤ 1073741824) (r : Nat) : 0 ≤ oF rs ps x r ∧ oF rs ps x r ≤ 1073741824 * 24 := by
 unfold oF
 split
 ·rename_i h
  have hs : sumTo (load (rcF ps) x ps.length) rs.length ≤ 1073741824 * 24 := by
   rw [load_total pk.rcl]
   have := sumTo_rng (by decide) hv ps.length (Nat.le_refl _)
   have := pk.n
   omega
  have h1 := atS_le (co := coF rs) ok.ab (fun r hr => (ok.co r hr).1) (fun r _ => (load_rng (rc := rcF ps) hv r ps.length (Nat.le_refl _)).1) hs (show rs.length - 1 - r ≤ rs.length by omega) (show r < rs.length - (rs.length - 1 - r) by omega)
  have h2 := (ok.co r h).1
  have h3 : coF rs r = (rAt rs r).co := rfl
  unfold outS
  omega
 ·omega
theorem ovS_rng {rs : List Rch} {ps : List Pay} {x : Nat → Int} (ok : RsOk rs) (pk : PsOk rs ps) (hv : ∀ i, i < ps.length → 0 ≤ x i ∧ x i ≤ 1073741824) : ∀ k, 0 ≤ ovS rs ps x k ∧ ovS rs ps x k ≤ 1073741824 * 24 * k
 | 0 => ⟨Int.le_refl _, Int.le_refl _⟩
 | k + 1 => by
  have h1 := ovS_rng ok pk hv k
  have h2 := oF_rng ok pk hv k
  have e : ovS rs ps x (k + 1) = ovS rs ps x k + (if k < rs.length ∧ abF rs k < 0 then oF rs ps x k else 0) := rfl
  rw [e]
  split <;> omega
set_option maxRecDepth 100000 in
set_option maxHeartbeats 3200000 in
theorem over_any (t : Tr) (ok : RsOk t.rs) (pk : PsOk t.rs t.ps) (C : Option Addr) (e : Nat) (xs : List Int) (hx : xs.length = t.ps.length) (hv : ∀ i, i < t.ps.length → 0 ≤ nth xs i ∧ nth xs i ≤ 1073741824) (w : World) (ht : TrAt w w.heap.size t) (hp : Rd w w.heap.size C xs) :
  Calls Tryz.prog 78 #[pgV t C e xs] w fun e w' => e = .returned (.int .i64 (overF t.rs t.ps (nth xs))) ∧ Below w.heap.size w w' := by
 have hobj := fun W h1 h2 => callsIn_wide.1 (objects_in 3 (Nat.le_refl _) t ok pk C e xs hx hv W h1 h2)
 obtain ⟨A, c, rs, B, d, ps⟩ := t
 unfold pgV at *
 dsimp only at *
 have hb1 : Below w.heap.size w (w.alloc (.cells #[.slice A rs.length c, .slice B ps.length d, .slice C xs.length e] 124)) := (Below.refl _ w).alloc (Nat.le_refl _) _
 have hk1 := blk_new w (g := w.heap.size) #[.slice A rs.length c, .slice B ps.length d, .slice C xs.length e] 124 rfl
 have ho := hobj (w.alloc (.cells #[.slice A rs.length c, .slice B ps.length d, .slice C xs.length e] 124)) ((ht.ext hb1 (Nat.le_refl _)).mono hb1.size) ((hp.below hb1 (Nat.le_refl _)).mono hb1.size)
 have HT := hd6 ht ok pk hv hp hx
 have HB := hd3 hb1 hk1 ho
 clear ht ok pk hp hv hx hb1 hk1 hobj ho
 go_enter Tryz.func78, Tryz.ntmps78
 go_upto_region 1 with fail
 generalize w.alloc (.cells #[.slice A rs.length c, .slice B ps.length d, .slice C xs.length e] 124) = W1 at *
 have x0 := cr 0 HB.out.2.1
 have x1 := cr 1 HB.out.2.1
 have x2 := cr 2 HB.out.2.1
 go_wp2_with (refine HB.out.2.2.mono ?_; rintro e' w1 ⟨rfl, hbw⟩)
 have HB1 := hd2 (HB.out.1.trans (hbw.mono HB.out.1.size)) ((hbw.block w.heap.size (by have := Array.getElem?_eq_some_iff.1 HB.out.2.1; exact this.1)).trans HB.out.2.1)
 clear hbw HB x0 x1 x2
 have x0 := cr 0 HB1.out.2
 have hn24 := HT.out.2.1.n
 go_loopg [3, 8] 24 (fun gg s i wr => ∃ k : Nat, k ≤ 24 ∧ 24 - k ≤ gg ∧ i = .int .i64 (k : Int) ∧ s = .int .i64 (ovS rs ps (nth xs) k) ∧ w1 = wr)
 case atStart => exact ⟨0, Nat.zero_le _, Nat.le_refl _, by go_num, rfl, rfl⟩
 case round =>
  obtain ⟨k, hk, hgg, rfl, rfl, rfl⟩ := hrel
  by_cases hlt : k < 24
  ·have hltz : (k : Int) < 24 := by omega
   have hix := fun W => arr_index (oF rs ps (nth xs)) hlt W
   have hr := ovS_rng HT.out.2.1 HT.out.2.2.1 HT.out.2.2.2.1 k
   have ho := oF_rng HT.out.2.1 HT.out.2.2.1 HT.out.2.2.2.1 k
   have hsu : ovS rs ps (nth xs) (k + 1) = ovS rs ps (nth xs) k + (if k < rs.length ∧ abF rs k < 0 then oF rs ps (nth xs) k else 0) := rfl
   have hw : IntKind.i64.wrap (ovS rs ps (nth xs) k + oF rs ps (nth xs) k) = ovS rs ps (nth xs) k + oF rs ps (nth xs) k := IntWalk.i64_in _ (by omega)
   clear hr ho
   by_cases hkm : k < rs.length
   ·have hkz : (k : Int) < (rs.length : Int) := by omega
    obtain ⟨b, off, rfl, lb, hc⟩ := HT.out.1.r (by show 0 < rs.length; omega)
    have q0 := (HB1.out.1.cell (p := ⟨b, off + k * 2, none⟩) lb).trans (hc k hkm).1
    clear hc
    by_cases hz : (rAt rs k).ab < 0
    ·rw [if_pos ⟨hkm, hz⟩] at hsu
     have HS := Lib.hid hsu
     clear hsu
     go_wp2
     go_roundg (24 - (k + 1))
     case measure => omega
     case rel => exact ⟨k + 1, by omega, by omega, by go_num, by rw [HS.out], rfl⟩
    ·rw [if_neg (fun h => hz h.2), Int.add_zero] at hsu
     have HS := Lib.hid hsu
     clear hsu
     go_wp2
     go_roundg (24 - (k + 1))
     case measure => omega
     case rel => exact ⟨k + 1, by omega, by omega, by go_num, by rw [HS.out], rfl⟩
   ·have hkz : ¬ (k : Int) < (rs.length : Int) := by omega
    rw [if_neg (fun h => hkm h.1), Int.add_zero] at hsu
    have HS := Lib.hid hsu
    clear hsu
    go_wp2
    go_roundg (24 - (k + 1))
    case measure => omega
    case rel => exact ⟨k + 1, by omega, by omega, by go_num, by rw [HS.out], rfl⟩
  ·obtain rfl : k = 24 := by omega
   have hov := ovS_all (ps := ps) (x := nth xs) HT.out.2.1
   have HO := Lib.hid (congrArg (fun z => Ending.returned (Value.int .i64 z)) hov)
   clear hov
   go_wp2
   go_ret
   exact ⟨HO.out, HB1.out.1⟩
end Go.Proofs.YtegmniphgahblaaGreat
