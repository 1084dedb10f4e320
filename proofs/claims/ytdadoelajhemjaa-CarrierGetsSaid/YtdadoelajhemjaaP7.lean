/- Plain: Open's and Send's answers are one. -/
import Derived.Test.YtdadoelajhemjaaM11
namespace Go.Proofs.Ytdadoelajhemjaa
open Go.RowKit Go.Shelf

theorem open_shape {ws : List Car} {s : Wt} {id want : Int} {e : Ending} (h : OpenR ws s id want e) : ∃ a E : Int, e = .returned (.tuple #[.int .i64 a, .int .i64 E]) := by
 rcases h with ⟨_, h⟩ | ⟨_, x, _, ⟨_, h⟩ | ⟨r, _, _, _, _, h⟩⟩
 ·exact ⟨_, _, h⟩
 ·exact ⟨_, _, h⟩
 ·exact ⟨_, _, h⟩
theorem send_shape {ws : List Car} {s : Wt} {id want : Int} {e : Ending} (h : SendR ws s id want e) : ∃ a E : Int, e = .returned (.tuple #[.int .i64 a, .int .i64 E]) := by
 rcases h with ⟨_, h⟩ | ⟨_, x, k, _, _, _, ⟨_, h⟩ | ⟨r, _, _, _, _, h⟩⟩
 ·exact ⟨_, _, h⟩
 ·exact ⟨_, _, h⟩
 ·exact ⟨_, _, h⟩
theorem least_one {P : Int → Bool} {r t : Int} (r0 : 0 ≤ r) (t0 : 0 ≤ t) (hr : P r = true) (ht : P t = true) (lr : ∀ j, 0 ≤ j → j < r → P j = false) (lt : ∀ j, 0 ≤ j → j < t → P j = false) : r = t := by
 by_cases h1 : r < t
 ·rw [lt r r0 h1] at hr; cases hr
 ·by_cases h2 : t < r
  ·rw [lr t t0 h2] at ht; cases ht
  ·omega
theorem open_same {ws : List Car} {s : Wt} {id want : Int} {e e' : Ending} (h : OpenR ws s id want e) (h' : OpenR ws s id want e') : e = e' := by
 rcases h with ⟨hn, h⟩ | ⟨h0, x, hx, h⟩
 ·rcases h' with ⟨_, h'⟩ | ⟨h0, _⟩
  ·exact h.trans h'.symm
  ·exact absurd h0 hn
 ·rcases h' with ⟨hn, _⟩ | ⟨_, x', hx', h'⟩
  ·exact absurd h0 hn
  ·obtain rfl : x = x' := Option.some.inj (hx.symm.trans hx')
   obtain ⟨g, ok, _, y, hy, hyl, _⟩ := wish_zero h0
   obtain rfl : x = y := Option.some.inj (hx.symm.trans hy)
   have hm := open_mono g ok hyl want
   rcases h with ⟨hf, h⟩ | ⟨r, r0, r1, rt, rl, h⟩
   ·rcases h' with ⟨_, h'⟩ | ⟨t, t0, t1, tt, tl, h'⟩
    ·exact h.trans h'.symm
    ·rw [hm t _ t0 t1 (Int.le_refl _) tt] at hf; cases hf
   ·rcases h' with ⟨hf, h'⟩ | ⟨t, t0, t1, tt, tl, h'⟩
    ·rw [hm r _ r0 r1 (Int.le_refl _) rt] at hf; cases hf
    ·obtain rfl := least_one r0 t0 rt tt rl tl
     exact h.trans h'.symm
theorem heads_one {ws : List Car} {n j k : Nat} (hj : j < (headsTo ws n).length) (hk : k < (headsTo ws n).length) (h : (headsTo ws n).getD j 0 = (headsTo ws n).getD k 0) : j = k := by
 have hd : (headsTo ws n).Pairwise (· < ·) := by
  unfold headsTo
  exact List.Pairwise.filter _ List.pairwise_lt_range
 rw [List.pairwise_iff_getElem] at hd
 rw [List.getD_eq_getElem?_getD, List.getD_eq_getElem?_getD, List.getElem?_eq_getElem hj, List.getElem?_eq_getElem hk] at h
 have h : (headsTo ws n)[j] = (headsTo ws n)[k] := h
 by_cases h1 : j < k
 ·have := hd j k hj hk h1; omega
 ·by_cases h2 : k < j
  ·have := hd k j hk hj h2; omega
  ·omega
theorem send_same {ws : List Car} {s : Wt} {id want : Int} {e e' : Ending} (h : SendR ws s id want e) (h' : SendR ws s id want e') : e = e' := by
 rcases h with ⟨hn, h⟩ | ⟨h0, x, k, hx, hk, he, h⟩
 ·rcases h' with ⟨_, h'⟩ | ⟨h0, _⟩
  ·exact h.trans h'.symm
  ·exact absurd h0 hn
 ·rcases h' with ⟨hn, _⟩ | ⟨_, x', k', hx', hk', he', h'⟩
  ·exact absurd h0 hn
  ·obtain rfl : x = x' := Option.some.inj (hx.symm.trans hx')
   obtain rfl : k = k' := heads_one hk hk' (he.trans he'.symm)
   obtain ⟨g, ok, _, y, hy, hyl, _⟩ := wish_zero h0
   obtain rfl : x = y := Option.some.inj (hx.symm.trans hy)
   have hm := send_mono g ok hyl hk he want
   rcases h with ⟨hf, h⟩ | ⟨r, r0, r1, rt, rl, h⟩
   ·rcases h' with ⟨_, h'⟩ | ⟨t, t0, t1, tt, tl, h'⟩
    ·exact h.trans h'.symm
    ·rw [hm t _ t0 t1 (Int.le_refl _) tt] at hf; cases hf
   ·rcases h' with ⟨hf, h'⟩ | ⟨t, t0, t1, tt, tl, h'⟩
    ·rw [hm r _ r0 r1 (Int.le_refl _) rt] at hf; cases hf
    ·obtain rfl := least_one r0 t0 rt tt rl tl
     exact h.trans h'.symm
end Go.Proofs.Ytdadoelajhemjaa
