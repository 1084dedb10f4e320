/- Plain: runs that are cut. -/
import Derived.Test.YtdadoelajhemjaaN1
namespace Go.Proofs.Ytdadoelajhemjaa
open Go.RowKit

def drkS (ws : List Car) : List Rn → Nat → Int
 | [], _ => 0
 | r :: l, i => r.m * flowF ws r.s i + drkS ws l i
theorem drkS_append (ws : List Car) : ∀ (a b : List Rn) (i : Nat), drkS ws (a ++ b) i = drkS ws a i + drkS ws b i
 | [], b, i => by simp [drkS]
 | r :: a, b, i => by simp only [List.cons_append, drkS, drkS_append ws a b i]; omega
theorem drkTo_take (ws : List Car) (l : List Rn) (i : Nat) : ∀ t, t ≤ l.length → drkTo ws l t i = drkS ws (l.take t) i
 | 0, _ => by simp [drkTo, drkS]
 | t + 1, h => by
  have h1 : l.take (t + 1) = l.take t ++ [rAt l t] := by
   unfold rAt
   rw [List.take_succ_eq_append_getElem (by omega), List.getD_eq_getElem?_getD, List.getElem?_eq_getElem (by omega)]
   rfl
  rw [h1, drkS_append]
  simp only [drkTo, drkTo_take ws l i t (by omega), drkS]
  omega
theorem drkTo_all (ws : List Car) (l : List Rn) (i : Nat) : drkTo ws l l.length i = drkS ws l i := by rw [drkTo_take ws l i _ (Nat.le_refl _), List.take_length]
theorem drkE_of {ws : List Car} {l : List Rn} (g : checkE ws = 0) (h : l.length ≤ 60) (hr : ∀ r ∈ l, runE ws r = 0) : drkE ws l = 0 := by
 unfold drkE
 rw [if_pos g, if_neg (by omega)]
 exact runsE_zero.2 hr
theorem drkE_check {ws : List Car} {l : List Rn} (h : drkE ws l = 0) : checkE ws = 0 := by
 unfold drkE at h
 by_cases h0 : checkE ws = 0
 ·exact h0
 ·rw [if_neg h0] at h; exact h
theorem drkL_eq {ws : List Car} {l : List Rn} (h : drkE ws l = 0) : drkL ws l = (List.range (outs ws).length).map (drkS ws l) := by
 unfold drkL
 rw [if_pos h]
 exact List.map_congr_left fun i _ => drkTo_all ws l i
theorem drkL_length {ws : List Car} {l : List Rn} (h : drkE ws l = 0) : (drkL ws l).length = (outs ws).length := by rw [drkL_eq h]; simp
theorem nth_map_range {n k : Nat} (f : Nat → Int) (h : k < n) : nth ((List.range n).map f) k = f k := by simp [nth, h]
/-- The first k runs, and the others. -/
theorem drk_cut {ws : List Car} {l : List Rn} (h : drkE ws l = 0) (k : Nat) : drkE ws (l.take k) = 0 ∧ drkE ws (l.drop k) = 0 ∧ ∀ x, x < (outs ws).length → nth (drkL ws (l.take k)) x + nth (drkL ws (l.drop k)) x = nth (drkL ws l) x := by
 obtain ⟨_, hl, hr⟩ := drk_zero h
 have g := drkE_check h
 have h1 : drkE ws (l.take k) = 0 := drkE_of g (by rw [List.length_take]; omega) (fun r hr' => hr r (List.mem_of_mem_take hr'))
 have h2 : drkE ws (l.drop k) = 0 := drkE_of g (by rw [List.length_drop]; omega) (fun r hr' => hr r (List.mem_of_mem_drop hr'))
 refine ⟨h1, h2, fun x hx => ?_⟩
 rw [drkL_eq h1, drkL_eq h2, drkL_eq h, nth_map_range _ hx, nth_map_range _ hx, nth_map_range _ hx, ← drkS_append, List.take_append_drop]
/-- A run of several mornings, cut in two. -/
def cutL (l : List Rn) (k : Nat) (m : Int) : List Rn := l.take k ++ [⟨m, (rAt l k).s⟩, ⟨(rAt l k).m - m, (rAt l k).s⟩] ++ l.drop (k + 1)
theorem cutL_length {l : List Rn} {k : Nat} (hk : k < l.length) (m : Int) : (cutL l k m).length = l.length + 1 := by
 unfold cutL
 simp only [List.length_append, List.length_take, List.length_drop, List.length_cons, List.length_nil]
 omega
theorem split_at {l : List Rn} {k : Nat} (hk : k < l.length) : l = l.take k ++ rAt l k :: l.drop (k + 1) := by
 have : rAt l k = l[k] := by unfold rAt; rw [List.getD_eq_getElem?_getD, List.getElem?_eq_getElem hk]; rfl
 rw [this, List.getElem_cons_drop, List.take_append_drop]
theorem drk_mid {ws : List Car} {l : List Rn} (h : drkE ws l = 0) (hs : l.length ≤ 6) {k : Nat} (hk : k < l.length) {m : Int} (h1 : 1 ≤ m) (h2 : m < (rAt l k).m) : drkE ws (cutL l k m) = 0 ∧ drkL ws (cutL l k m) = drkL ws l := by
 obtain ⟨_, hl, hr⟩ := drk_zero h
 have g := drkE_check h
 obtain ⟨m1, m2, hw⟩ := run_zero (hr _ (rAt_mem hk))
 have one : ∀ m', 1 ≤ m' → m' ≤ 1048576 → runE ws ⟨m', (rAt l k).s⟩ = 0 := fun m' a b => by
  unfold runE
  rw [if_pos (within_iff.2 ⟨a, b⟩)]
  exact hw
 have h3 : drkE ws (cutL l k m) = 0 := drkE_of g (by rw [cutL_length hk]; omega) (fun r hr' => by
  unfold cutL at hr'
  simp only [List.mem_append, List.mem_cons, List.not_mem_nil, or_false] at hr'
  rcases hr' with (hr' | rfl | rfl) | hr'
  ·exact hr r (List.mem_of_mem_take hr')
  ·exact one _ h1 (by omega)
  ·exact one _ (by omega) (by omega)
  ·exact hr r (List.mem_of_mem_drop hr'))
 refine ⟨h3, ?_⟩
 rw [drkL_eq h3, drkL_eq h]
 refine List.map_congr_left fun i _ => ?_
 have hsp : drkS ws l i = drkS ws (l.take k ++ rAt l k :: l.drop (k + 1)) i := congrArg (fun z => drkS ws z i) (split_at hk)
 rw [hsp]
 unfold cutL
 simp only [drkS_append, drkS]
 generalize flowF ws (rAt l k).s i = f
 rw [Int.sub_mul]
 omega
/-- Runs, cell by cell. -/
def cellR (r : Rn) : List Value := [.int .i64 r.m, .slice r.s.A0 r.s.ri.length r.s.c0, .slice r.s.A1 r.s.bo.length r.s.c1, .slice r.s.A2 r.s.lk.length r.s.c2, .slice r.s.A3 r.s.lo.length r.s.c3]
def cellsR : List Rn → List Value
 | [] => []
 | r :: l => cellR r ++ cellsR l
theorem cellsR_length : ∀ l : List Rn, (cellsR l).length = l.length * 5
 | [] => rfl
 | r :: l => by simp only [cellsR, List.length_append, cellsR_length l, List.length_cons]; simp [cellR]; omega
theorem cellsR_append : ∀ a b : List Rn, cellsR (a ++ b) = cellsR a ++ cellsR b
 | [], _ => rfl
 | r :: a, b => by simp only [List.cons_append, cellsR, cellsR_append a b, List.append_assoc]
theorem cellsR_at : ∀ (l : List Rn) (i j : Nat), i < l.length → j < 5 → (cellsR l)[i * 5 + j]? = (cellR (rAt l i))[j]?
 | [], _, _, h, _ => absurd h (by simp)
 | r :: l, 0, j, _, hj => by
  simp only [cellsR, Nat.zero_mul, Nat.zero_add]
  rw [List.getElem?_append_left (by simp [cellR]; omega)]
  rfl
 | r :: l, i + 1, j, h, hj => by
  have h5 : (cellR r).length = 5 := rfl
  simp only [cellsR]
  rw [List.getElem?_append_right (by rw [h5]; omega), h5, show (i + 1) * 5 + j - 5 = i * 5 + j by omega, cellsR_at l i j (by simpa using h) hj]
  rfl
theorem cellsR_one : ∀ (l : List Rn), ∀ u ∈ cellsR l, u.oneCell' = true
 | [], _, h => by cases h
 | r :: l, u, h => by
  simp only [cellsR, List.mem_append] at h
  rcases h with h | h
  ·simp only [cellR, List.mem_cons, List.not_mem_nil, or_false] at h
   rcases h with rfl | rfl | rfl | rfl | rfl <;> rfl
  ·exact cellsR_one l u h
end Go.Proofs.Ytdadoelajhemjaa
