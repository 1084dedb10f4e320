/- Plain: the law CarrierKeeps, told as its loops go. No program here. -/
import Derived.Test.YtdadoelajhemjaaM7
import Derived.Test.YtdadoelajhemjaaM5
namespace Go.Proofs.Ytdadoelajhemjaa
open Go.RowKit

theorem sumN_up {f : Nat → Int} : ∀ {n k : Nat}, k ≤ n → (∀ j, j < n → 0 ≤ f j) → sumN f k ≤ sumN f n
 | 0, k, hk, _ => by
  obtain rfl : k = 0 := by omega
  exact Int.le_refl _
 | n + 1, k, hk, h => by
  rcases Nat.lt_or_ge n k with e | e
  ·obtain rfl : k = n + 1 := by omega
   exact Int.le_refl _
  ·have h1 := sumN_up (n := n) e (fun j hj => h j (by omega))
   have h2 := h n (by omega)
   simp only [sumN]
   omega
theorem sumN_pos {f : Nat → Int} {n : Nat} (h : ∀ j, j < n → 0 ≤ f j) : 0 ≤ sumN f n := sumN_up (Nat.zero_le n) h
theorem sumN_most {f : Nat → Int} {M : Int} : ∀ {n : Nat}, (∀ j, j < n → f j ≤ M) → sumN f n ≤ n * M
 | 0, _ => by simp [sumN]
 | n + 1, h => by
  have h1 := sumN_most (n := n) (fun j hj => h j (by omega))
  have h2 := h n (by omega)
  simp only [sumN]
  rw [show ((n + 1 : Nat) : Int) * M = n * M + M by rw [Int.natCast_add, Int.add_mul]; simp]
  omega
theorem heads_le (ws : List Car) (n : Nat) : (headsTo ws n).length ≤ n := by
 have h := List.length_filter_le (fun c : Nat => (upO ws (c : Int)).isNone) (List.range n)
 rwa [List.length_range] at h
/-- What the loops of CarrierKeeps go by. -/
structure KeepsK (ws : List Car) (ri F T : List Int) (n : Int) (S0 S1 S2 : Nat → Int) : Prop where
 lF : F.length = (outs ws).length
 lT : T.length = ws.length
 pF : ∀ k, k < (outs ws).length → 0 ≤ nth F k
 pT : ∀ k, k < ws.length → 0 ≤ nth T k
 pn : 0 ≤ n
 z0 : S0 0 = n
 y0 : ∀ k, k < (outs ws).length → (oAt (outs ws) k).into < 0 → S0 (k + 1) = S0 k + nth F k
 n0 : ∀ k, k < (outs ws).length → ¬ (oAt (outs ws) k).into < 0 → S0 (k + 1) = S0 k
 b0 : ∀ k, k ≤ (outs ws).length → 0 ≤ S0 k ∧ S0 k ≤ 16777216
 z1 : S1 0 = S0 (outs ws).length
 s1 : ∀ k, k < ws.length → S1 (k + 1) = S1 k + nth T k
 b1 : ∀ k, k ≤ ws.length → 0 ≤ S1 k ∧ S1 k ≤ 16777216
 z2 : S2 0 = 0
 s2 : ∀ k, k < ri.length → S2 (k + 1) = S2 k + nth ri k
 b2 : ∀ k, k ≤ ri.length → 0 ≤ S2 k ∧ S2 k ≤ 16777216
 e : S1 ws.length = S2 ri.length
theorem keepsK {ws : List Car} {s : Wt} (h : cwE ws s = 0) : ∃ S0 S1 S2 : Nat → Int, KeepsK ws s.ri (flowsO ws s) (tailsO ws s) (lostO ws s) S0 S1 S2 := by
 obtain ⟨g, ok⟩ := cw_zero h
 have kl := keeps_law g ok
 have kb := flowF_bounds g ok
 have ks := keeps_sum g ok
 have eF : ∀ k, k < (outs ws).length → nth (flowsO ws s) k = flowF ws s k := fun k hk => by unfold flowsO; rw [if_pos h]; exact nth_range _ hk
 have eT : ∀ k, k < ws.length → nth (tailsO ws s) k = flowF ws s (60 + k) := fun k hk => by unfold tailsO; rw [if_pos h]; exact nth_range (fun j => flowF ws s (60 + j)) hk
 have eN : lostO ws s = flowF ws s 76 := by unfold lostO; rw [if_pos h]
 have pB : ∀ k, k < (outs ws).length → 0 ≤ bedF ws (flowF ws s) k := fun k hk => by
  unfold bedF
  by_cases hi : (oAt (outs ws) k).into < 0
  ·rw [if_pos hi]; exact kl.b k hk
  ·rw [if_neg hi]; exact Int.le_refl _
 have pT : ∀ k, k < ws.length → 0 ≤ flowF ws s (60 + k) := fun k hk => (kb.t k (by have := g.n1; omega)).1
 have tot : sumN (nth s.ri) s.ri.length ≤ 16777216 := by
  have h1 := sumN_most (f := nth s.ri) (M := 1048576) (n := s.ri.length) (fun j hj => (ok.r0 j hj).2)
  have h2 := heads_le ws ws.length
  have h3 := ok.l0
  have h4 := g.n1
  have h5 : (s.ri.length : Int) * 1048576 ≤ 16 * 1048576 := by omega
  omega
 have u2 : ∀ k, k ≤ s.ri.length → sumN (nth s.ri) k ≤ sumN (nth s.ri) s.ri.length := fun k hk => sumN_up hk (fun j hj => (ok.r0 j hj).1)
 have q2 : ∀ k, k ≤ s.ri.length → 0 ≤ sumN (nth s.ri) k := fun k hk => sumN_pos (fun j hj => (ok.r0 j (by omega)).1)
 have u1 : ∀ k, k ≤ ws.length → sumN (fun c => flowF ws s (60 + c)) k ≤ sumN (fun c => flowF ws s (60 + c)) ws.length := fun k hk => sumN_up hk pT
 have q1 : ∀ k, k ≤ ws.length → 0 ≤ sumN (fun c => flowF ws s (60 + c)) k := fun k hk => sumN_pos (fun j hj => pT j (by omega))
 have u0 : ∀ k, k ≤ (outs ws).length → sumN (bedF ws (flowF ws s)) k ≤ sumN (bedF ws (flowF ws s)) (outs ws).length := fun k hk => sumN_up hk pB
 have q0 : ∀ k, k ≤ (outs ws).length → 0 ≤ sumN (bedF ws (flowF ws s)) k := fun k hk => sumN_pos (fun j hj => pB j (by omega))
 have hn := kb.l.1
 refine ⟨fun k => flowF ws s 76 + sumN (bedF ws (flowF ws s)) k, fun k => flowF ws s 76 + sumN (bedF ws (flowF ws s)) (outs ws).length + sumN (fun c => flowF ws s (60 + c)) k, sumN (nth s.ri), ?_⟩
 refine ⟨flowsO_length h, tailsO_length h, fun k hk => by rw [eF k hk]; exact kl.b k hk, fun k hk => by rw [eT k hk]; exact pT k hk, by rw [eN]; exact hn, by rw [eN]; simp [sumN], fun k hk hi => ?_, fun k hk hi => ?_, fun k hk => ?_, by simp [sumN], fun k hk => ?_, fun k hk => ?_, rfl, fun k hk => rfl, fun k hk => ⟨q2 k hk, Int.le_trans (u2 k hk) tot⟩, ks⟩
 ·show _ + (_ + bedF ws _ k) = _
  rw [eF k hk]
  unfold bedF
  rw [if_pos hi]
  omega
 ·show _ + (_ + bedF ws _ k) = _
  unfold bedF
  rw [if_neg hi]
  omega
 ·have a := u0 k hk
  have b := q0 k hk
  have c := q1 ws.length (Nat.le_refl _)
  omega
 ·show _ + (_ + flowF ws s (60 + k)) = _
  rw [eT k hk]
  omega
 ·have a := u1 k hk
  have b := q1 k hk
  have c := q0 (outs ws).length (Nat.le_refl _)
  omega
end Go.Proofs.Ytdadoelajhemjaa
