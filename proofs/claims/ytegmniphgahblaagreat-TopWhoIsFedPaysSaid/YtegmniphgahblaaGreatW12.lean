/- Walks: slices.IndexFunc over payers, find. -/
import Derived.Test.YtegmniphgahblaaGreatW5
import Derived.Test.YtegmniphgahblaaGreatW4
namespace Go.Proofs.YtegmniphgahblaaGreat
open Go.RowKit Go.Shelf

/-- The first one of n at which p holds; -1 if there is none. -/
def ixF (p : Nat → Bool) : Nat → Int
 | 0 => -1
 | n + 1 => if 0 ≤ ixF p n then ixF p n else if p n = true then n else -1
theorem ixF_none {p : Nat → Bool} : ∀ {n : Nat}, (∀ j, j < n → p j = false) → ixF p n = -1
 | 0, _ => rfl
 | n + 1, h => by
  have h1 := ixF_none (n := n) fun j hj => h j (by omega)
  have h2 := h n (by omega)
  show (if 0 ≤ ixF p n then ixF p n else if p n = true then (n : Int) else -1) = -1
  rw [h1, h2, if_neg (by decide), if_neg (by decide)]
theorem ixF_at {p : Nat → Bool} {i : Nat} (hp : p i = true) (h : ∀ j, j < i → p j = false) : ∀ {n : Nat}, i < n → ixF p n = i
 | n + 1, hn => by
  show (if 0 ≤ ixF p n then ixF p n else if p n = true then (n : Int) else -1) = i
  by_cases e : i = n
  ·subst e
   rw [ixF_none h, if_neg (by decide), if_pos hp]
  ·have h1 := ixF_at hp h (n := n) (by omega)
   rw [h1, if_pos (by omega)]
theorem ixF_rng {p : Nat → Bool} : ∀ (n : Nat), -1 ≤ ixF p n ∧ ixF p n < n
 | 0 => by unfold ixF; omega
 | n + 1 => by
  have := ixF_rng (p := p) n
  show -1 ≤ (if 0 ≤ ixF p n then ixF p n else if p n = true then (n : Int) else -1) ∧ _
  show -1 ≤ (if 0 ≤ ixF p n then ixF p n else if p n = true then (n : Int) else -1) ∧ (if 0 ≤ ixF p n then ixF p n else if p n = true then (n : Int) else -1) < ((n + 1 : Nat) : Int)
  split
  ·omega
  ·split <;> omega
theorem ixF_neg {p : Nat → Bool} {n : Nat} (h : ixF p n < 0) : ∀ j, j < n → p j = false := by
 induction n with
 | zero => exact fun j hj => absurd hj (Nat.not_lt_zero _)
 | succ n ih =>
  intro j hj
  have h' : (if 0 ≤ ixF p n then ixF p n else if p n = true then (n : Int) else -1) < 0 := h
  by_cases h0 : 0 ≤ ixF p n
  ·rw [if_pos h0] at h'; omega
  ·rw [if_neg h0] at h'
   by_cases e : j = n
   ·subst e
    cases hp : p j
    ·rfl
    ·rw [hp, if_pos rfl] at h'; omega
   ·exact ih (by omega) j (by omega)
theorem ixF_pos {p : Nat → Bool} : ∀ {n : Nat}, 0 ≤ ixF p n → p (ixF p n).toNat = true
 | 0, h => absurd h (by unfold ixF; decide)
 | n + 1, h => by
  have e : ixF p (n + 1) = (if 0 ≤ ixF p n then ixF p n else if p n = true then (n : Int) else -1) := rfl
  by_cases h0 : 0 ≤ ixF p n
  ·rw [e, if_pos h0]; exact ixF_pos h0
  ·by_cases hp : p n = true
   ·rw [e, if_neg h0, if_pos hp]; simpa using hp
   ·rw [e, if_neg h0, if_neg hp] at h; omega
set_option maxRecDepth 100000 in
set_option maxHeartbeats 1600000 in
theorem idxf_any (gf : Nat) (lb : Array Value) (eg : ∀ args w, (callFunc gf args).run Tryz.prog w = .ok (.enter gf args) w) (p : Nat → Bool) (A : Option Addr) (c n : Nat) (ps : List Pay) (w : World) (h : RdY w w.heap.size A ps) (hn : n ≤ ps.length) (hn2 : n ≤ 1000000)
  (hp : ∀ i W, i < n → Below w.heap.size w W → Calls Tryz.prog gf (#[(yAt ps i).v] ++ lb) W fun e w' => e = .returned (.bool (p i)) ∧ Below W.heap.size W w') :
  Calls Tryz.prog 44 #[.slice A n c, .func (.func gf) #[] lb] w fun e w' => e = .returned (.int .i64 (ixF p n)) ∧ Below w.heap.size w w' := by
 have HP := hd2 hp h
 clear hp h
 go_enter Tryz.func44, Tryz.ntmps44
 go_upto_region 2 with fail
 go_loopg [8] n (fun gg i wr => ∃ k : Nat, k ≤ n ∧ n - k ≤ gg ∧ i = .int .i64 k ∧ Aside (Below w.heap.size w wr ∧ ∀ j, j < k → p j = false))
 case atStart => exact ⟨0, Nat.zero_le _, by omega, rfl, Below.refl _ _, fun j hj => absurd hj (Nat.not_lt_zero _)⟩
 case round =>
  obtain ⟨k, hk, hgg, rfl, hA⟩ := hrel
  have HA := Lib.hid hA.out
  clear hA
  by_cases hlt : k < n
  ·have hltz : (k : Int) < (n : Int) := by omega
   obtain ⟨b, off, rfl, lb', hc⟩ := HP.out.2 (by omega)
   obtain ⟨q0, q1, q2⟩ := hc k (by omega)
   have p0 := (HA.out.1.cell (p := ⟨b, off + k * 3, none⟩) lb').trans q0
   have p1 := (HA.out.1.cell (p := ⟨b, off + k * 3 + 1, none⟩) lb').trans q1
   have p2 := (HA.out.1.cell (p := ⟨b, off + k * 3 + 2, none⟩) lb').trans q2
   have hcall := HP.out.1 k wr hlt HA.out.1
   dsimp only [Pay.v] at hcall
   obtain ⟨q, hq⟩ : ∃ q, p k = q := ⟨_, rfl⟩
   rw [hq] at hcall
   have HC := hd2 hcall hq
   clear hcall hq q0 q1 q2 hc
   cases q
   ·go_wp2_with (go_at_fn gf; refine HC.out.1.mono ?_; rintro e w1 ⟨rfl, hb⟩; have HB := Lib.hid hb; clear hb)
    go_roundg (n - (k + 1))
    case measure => omega
    case rel => exact ⟨k + 1, by omega, by omega, by go_num, (show _ ∧ _ from ⟨HA.out.1.trans (HB.out.mono HA.out.1.size), fun j hj => by
     by_cases e : j = k
     ·rw [e]; exact HC.out.2
     ·exact HA.out.2 j (by omega)⟩)⟩
   ·go_wp2_with (go_at_fn gf; refine HC.out.1.mono ?_; rintro e w1 ⟨rfl, hb⟩; have HB := Lib.hid hb; clear hb)
    go_ret
    exact ⟨by rw [ixF_at HC.out.2 HA.out.2 hlt]; rfl, HA.out.1.trans (HB.out.mono HA.out.1.size)⟩
  ·obtain rfl : k = n := by omega
   go_wp2
   go_ret
   exact ⟨by rw [ixF_none HA.out.2]; rfl, HA.out.1⟩
theorem find1_any (p : Pay) (id : Int) (B : Nat) (w : World) (hc : w.cell? ⟨B, 0, none⟩ = some (.int .i64 id)) :
  Calls Tryz.prog 45 #[p.v, .pointer (some ⟨B, 0, none⟩)] w fun e w' => e = .returned (.bool (decide (p.id = id))) ∧ Below w.heap.size w w' := by
 obtain ⟨pid, prc, pwt⟩ := p
 unfold Pay.v
 dsimp only
 have hb := (Below.refl _ w).alloc (Nat.le_refl _) (.cells #[.int .i64 pid, .int .i64 prc, .int .i64 pwt] 53)
 have HB := Lib.hid hb
 have hlt : B < w.heap.size := lt_of_cell hc
 have k0 := (hb.cell (p := ⟨B, 0, none⟩) hlt).trans hc
 have k1 := cr 0 (blk_new w #[.int .i64 pid, .int .i64 prc, .int .i64 pwt] 53 rfl)
 clear hb hc
 go_enter Tryz.func45, Tryz.ntmps45
 go_upto_region 1 with fail
 generalize w.alloc (.cells #[.int .i64 pid, .int .i64 prc, .int .i64 pwt] 53) = W at *
 go_wp2
 go_ret
 exact ⟨rfl, HB.out⟩
set_option maxRecDepth 100000 in
theorem eg_find1 : ∀ args w, (callFunc 45 args).run Tryz.prog w = .ok (.enter 45 args) w := fun _ _ => by rfl
def fdI (ps : List Pay) (n : Nat) (id : Int) : Int := ixF (fun i => decide ((yAt ps i).id = id)) n
set_option maxRecDepth 100000 in
theorem findY_any (A : Option Addr) (c n : Nat) (ps : List Pay) (id : Int) (w : World) (h : RdY w w.heap.size A ps) (hn : n ≤ ps.length) (hn2 : n ≤ 1000000) :
  Calls Tryz.prog 18 #[.slice A n c, .int .i64 id] w fun e w' => e = .returned (.int .i64 (fdI ps n id)) ∧ Below w.heap.size w w' := by
 have hb := (Below.refl _ w).alloc (Nat.le_refl _) (.cells #[.int .i64 id] 3)
 have k0 := cr 0 (blk_new w #[.int .i64 id] 3 rfl)
 have hlt : w.heap.size < (w.alloc (.cells #[.int .i64 id] 3)).heap.size := by simp
 have hx := idxf_any 45 #[.pointer (some ⟨w.heap.size, 0, none⟩)] eg_find1 (fun i => decide ((yAt ps i).id = id)) A c n ps _ ((h.ext hb (Nat.le_refl _)).mono hb.size) hn hn2 (fun i W _ hW => find1_any (yAt ps i) id w.heap.size W ((hW.cell (p := ⟨w.heap.size, 0, none⟩) hlt).trans k0))
 have HB := hd2 hb hx
 clear hb hx k0 h hlt
 go_enter Tryz.func18, Tryz.ntmps18
 go_upto_region 1 with fail
 generalize w.alloc (.cells #[.int .i64 id] 3) = W at *
 go_wp2_with (refine HB.out.2.mono ?_; rintro e w1 ⟨rfl, hb⟩; have HB1 := Lib.hid hb; clear hb)
 go_ret
 exact ⟨rfl, HB.out.1.trans (HB1.out.mono HB.out.1.size)⟩
end Go.Proofs.YtegmniphgahblaaGreat
