/- Plain: works without a carrier are right; where their outlets stood. -/
import Derived.Test.YtdadoelajhemjaaZ1
import Derived.Test.YtdadoelajhemjaaZ6
import Derived.Test.YtdadoelajhemjaaM7
namespace Go.Proofs.Ytdadoelajhemjaa
open Go.RowKit

/-- The numbers below N that are chosen, in order. -/
theorem sel_of (p : Nat → Bool) : ∀ N i, i < N → p i = true → ((List.range i).filter p).length < ((List.range N).filter p).length ∧ ((List.range N).filter p).getD ((List.range i).filter p).length 0 = i
 | 0, _, h, _ => absurd h (by omega)
 | N + 1, i, h, hp => by
  rw [List.range_succ, List.filter_append, List.length_append]
  by_cases e : i = N
  ·subst e
   have e2 : [i].filter p = [i] := by simp [hp]
   rw [e2]
   refine ⟨by simp, ?_⟩
   rw [List.getD_eq_getElem?_getD, List.getElem?_append_right (Nat.le_refl _)]
   simp
  ·obtain ⟨h1, h2⟩ := sel_of p N i (by omega) hp
   refine ⟨by omega, ?_⟩
   rw [List.getD_eq_getElem?_getD, List.getElem?_append_left h1, ← List.getD_eq_getElem?_getD]
   exact h2
theorem sel_at (p : Nat → Bool) : ∀ N k, k < ((List.range N).filter p).length → ((List.range N).filter p).getD k 0 < N ∧ p (((List.range N).filter p).getD k 0) = true ∧ ((List.range (((List.range N).filter p).getD k 0)).filter p).length = k
 | 0, k, h => absurd h (by simp)
 | N + 1, k, h => by
  rw [List.range_succ, List.filter_append, List.length_append] at h
  rw [List.range_succ, List.filter_append]
  by_cases hk : k < ((List.range N).filter p).length
  ·obtain ⟨h1, h2, h3⟩ := sel_at p N k hk
   have e : (List.filter p (List.range N) ++ List.filter p [N]).getD k 0 = ((List.range N).filter p).getD k 0 := by rw [List.getD_eq_getElem?_getD, List.getElem?_append_left hk, ← List.getD_eq_getElem?_getD]
   rw [e]
   exact ⟨by omega, h2, h3⟩
  ·by_cases hp : p N = true
   ·have e2 : [N].filter p = [N] := by simp [hp]
    rw [e2] at h ⊢
    have hk2 : k = ((List.range N).filter p).length := by simp at h; omega
    have e : (List.filter p (List.range N) ++ [N]).getD k 0 = N := by rw [hk2, List.getD_eq_getElem?_getD, List.getElem?_append_right (Nat.le_refl _)]; simp
    rw [e]
    exact ⟨by omega, hp, hk2.symm⟩
   ·have e2 : [N].filter p = [] := by simp [hp]
    rw [e2] at h
    simp at h
    omega
def oldC (ws : List Car) (n : Int) (k : Nat) : Nat := ((List.range ws.length).filter (stB ws n)).getD k 0
theorem oldC_at {ws : List Car} {n : Int} {k : Nat} (h : k < cntB ws n ws.length) : oldC ws n k < ws.length ∧ stB ws n (oldC ws n k) = true ∧ cntB ws n (oldC ws n k) = k := sel_at (stB ws n) ws.length k h
theorem oldC_of {ws : List Car} {n : Int} {i : Nat} (h : i < ws.length) (hs : stB ws n i = true) : cntB ws n i < cntB ws n ws.length ∧ oldC ws n (cntB ws n i) = i := sel_of (stB ws n) ws.length i h hs
theorem cntB_mono {ws : List Car} {n : Int} {i j : Nat} (h : i ≤ j) : cntB ws n i ≤ cntB ws n j := by
 induction j with
 | zero => rw [show i = 0 by omega]; exact Nat.le_refl _
 | succ j ih =>
  by_cases e : i = j + 1
  ·rw [e]; exact Nat.le_refl _
  ·have h1 := ih (by omega)
   cases hs : stB ws n j with
   | true => rw [cntB_yes hs]; omega
   | false => rw [cntB_no hs]; exact h1
theorem cntB_lt {ws : List Car} {n : Int} {i j : Nat} (h : i < j) (hs : stB ws n i = true) : cntB ws n i < cntB ws n j := by
 have := cntB_mono (ws := ws) (n := n) (i := i + 1) (j := j) h
 rw [cntB_yes hs] at this
 omega
theorem cntB_inj {ws : List Car} {n : Int} {i j : Nat} (hi : stB ws n i = true) (hj : stB ws n j = true) (h : cntB ws n i = cntB ws n j) : i = j := by
 rcases Nat.lt_trichotomy i j with a | a | a
 ·have := cntB_lt a hi; omega
 ·exact a
 ·have := cntB_lt a hj; omega
/-- Where an outlet stood. -/
def oldX (ws vs : List Car) (n : Int) (y : Nat) : Nat := start ws (oldC ws n (caAt vs y)) + atAt vs y
section
variable {ws vs : List Car} {n : Int}
theorem left_len (hc : contW vs = wioTo ws n ws.length) : vs.length = cntB ws n ws.length := by
 have := congrArg List.length hc
 rw [wioTo_length] at this
 simpa [contW] using this
theorem left_car (hc : contW vs = wioTo ws n ws.length) {k : Nat} (hk : k < vs.length) : (cAt vs k).os.map Ot.oc = (cAt ws (oldC ws n k)).os.map (turnO ws n) := by
 have hl := left_len hc
 have h := congrArg (fun l => l[k]?) hc
 have hk2 : k < ((List.range ws.length).filter (stB ws n)).length := by unfold cntB at hl; omega
 simp only [contW, wioTo, List.getElem?_map, List.getElem?_eq_getElem hk, List.getElem?_eq_getElem hk2, Option.map_some, Option.some.injEq] at h
 have e1 : cAt vs k = vs[k] := by unfold cAt; rw [List.getD_eq_getElem?_getD, List.getElem?_eq_getElem hk]; rfl
 have e2 : oldC ws n k = ((List.range ws.length).filter (stB ws n))[k] := by unfold oldC; rw [List.getD_eq_getElem?_getD, List.getElem?_eq_getElem hk2]; rfl
 rw [e1, e2]
 exact h
theorem left_os (hc : contW vs = wioTo ws n ws.length) {k : Nat} (hk : k < vs.length) : (cAt vs k).os.length = (cAt ws (oldC ws n k)).os.length := by
 have := congrArg List.length (left_car hc hk)
 simpa using this
theorem left_ot (hc : contW vs = wioTo ws n ws.length) {k : Nat} (hk : k < vs.length) {j : Nat} (hj : j < (cAt vs k).os.length) : (oAt (cAt vs k).os j).oc = turnO ws n (oAt (cAt ws (oldC ws n k)).os j) := by
 have hl := left_os hc hk
 have h := congrArg (fun l => l[j]?) (left_car hc hk)
 simp only [List.getElem?_map, List.getElem?_eq_getElem hj, List.getElem?_eq_getElem (show j < (cAt ws (oldC ws n k)).os.length by omega), Option.map_some, Option.some.injEq] at h
 unfold oAt
 rw [List.getD_eq_getElem?_getD, List.getD_eq_getElem?_getD, List.getElem?_eq_getElem hj, List.getElem?_eq_getElem (show j < (cAt ws (oldC ws n k)).os.length by omega)]
 exact h
theorem left_start (hc : contW vs = wioTo ws n ws.length) : ∀ t, t ≤ ws.length → start vs (cntB ws n t) ≤ start ws t
 | 0, _ => Nat.le_refl _
 | t + 1, ht => by
  have ih := left_start hc t (by omega)
  have hl := left_len hc
  have h2 := start_succ (ws := ws) (c := t) ht
  cases hs : stB ws n t with
  | true =>
   have h1 := oldC_of (ws := ws) (n := n) ht hs
   have hk : cntB ws n t < vs.length := by omega
   have h3 := start_succ hk
   have h4 := left_os hc hk
   rw [h1.2] at h4
   rw [cntB_yes hs]
   omega
  | false => rw [cntB_no hs]; omega
theorem oldX_start {k j : Nat} (hk : k < vs.length) (hj : j < (cAt vs k).os.length) : oldX ws vs n (start vs k + j) = start ws (oldC ws n k) + j := by unfold oldX; rw [caAt_start hk hj, atAt_start hk hj]
theorem oldX_at (hc : contW vs = wioTo ws n ws.length) {y : Nat} (hy : y < (outs vs).length) : oldX ws vs n y < (outs ws).length ∧ caAt ws (oldX ws vs n y) = oldC ws n (caAt vs y) ∧ atAt ws (oldX ws vs n y) = atAt vs y := by
 have hk := caAt_lt hy
 have hj := atAt_lt hy
 have hl := left_len hc
 have ho := oldC_at (ws := ws) (n := n) (k := caAt vs y) (by omega)
 rw [left_os hc hk] at hj
 unfold oldX
 exact ⟨start_lt ho.1 hj, caAt_start ho.1 hj, atAt_start ho.1 hj⟩
theorem left_oc (hc : contW vs = wioTo ws n ws.length) {y : Nat} (hy : y < (outs vs).length) : (oAt (outs vs) y).oc = turnO ws n (oAt (outs ws) (oldX ws vs n y)) := by
 have hx := oldX_at hc hy
 rw [oAt_place hy, oAt_place hx.1, hx.2.1, hx.2.2]
 exact left_ot hc (caAt_lt hy) (atAt_lt hy)
theorem oldX_inj (hc : contW vs = wioTo ws n ws.length) {y z : Nat} (hy : y < (outs vs).length) (hz : z < (outs vs).length) (h : oldX ws vs n y = oldX ws vs n z) : y = z := by
 have a := oldX_at hc hy
 have b := oldX_at hc hz
 have hl := left_len hc
 have hy1 := oldC_at (ws := ws) (n := n) (k := caAt vs y) (by have := caAt_lt hy; omega)
 have hz1 := oldC_at (ws := ws) (n := n) (k := caAt vs z) (by have := caAt_lt hz; omega)
 have e1 : oldC ws n (caAt vs y) = oldC ws n (caAt vs z) := by rw [← a.2.1, ← b.2.1, h]
 have e2 : atAt vs y = atAt vs z := by rw [← a.2.2, ← b.2.2, h]
 have e3 : caAt vs y = caAt vs z := by rw [← hy1.2.2, ← hz1.2.2, e1]
 rw [place_eq hy, place_eq hz, e2, e3]
theorem oldX_of (hc : contW vs = wioTo ws n ws.length) {x : Nat} (hx : x < (outs ws).length) (hs : stB ws n (caAt ws x) = true) : ∃ y, y < (outs vs).length ∧ oldX ws vs n y = x ∧ caAt vs y = cntB ws n (caAt ws x) := by
 have hl := left_len hc
 have h1 := oldC_of (caAt_lt hx) hs
 have hk : cntB ws n (caAt ws x) < vs.length := by omega
 have hj : atAt ws x < (cAt vs (cntB ws n (caAt ws x))).os.length := by rw [left_os hc hk, h1.2]; exact atAt_lt hx
 refine ⟨start vs (cntB ws n (caAt ws x)) + atAt ws x, start_lt hk hj, ?_, caAt_start hk hj⟩
 rw [oldX_start hk hj, h1.2]
 exact (place_eq hx).symm
/-- What the outlets feed now. -/
theorem left_into (g : Good ws) (hc : contW vs = wioTo ws n ws.length) {y : Nat} (hy : y < (outs vs).length) : (oAt (outs vs) y).into = -1 ∨ ∃ z : Nat, (oAt (outs ws) (oldX ws vs n y)).into = (z : Int) ∧ z < ws.length ∧ oldC ws n (caAt vs y) < z ∧ stB ws n z = true ∧ (oAt (outs vs) y).into = (cntB ws n z : Int) := by
 have hx := oldX_at hc hy
 have e := congrArg Oc.into (left_oc hc hy)
 have e : (oAt (outs vs) y).into = newInto ws n (oAt (outs ws) (oldX ws vs n y)).into := e
 rcases (g.fine hx.1).into with h | ⟨h1, h2⟩
 ·left
  rw [e, h]
  unfold newInto anewF
  rw [if_neg (by omega)]
  rfl
 ·obtain ⟨z, hz⟩ : ∃ z : Nat, (oAt (outs ws) (oldX ws vs n y)).into = (z : Int) := ⟨(oAt (outs ws) (oldX ws vs n y)).into.toNat, by omega⟩
  rw [hz] at h1 h2 e
  have hzl : z < ws.length := by omega
  unfold newInto at e
  rw [anewF_at hzl] at e
  cases hs : stB ws n z with
  | true => rw [hs] at e; exact .inr ⟨z, hz, hzl, by rw [hx.2.1] at h1; omega, hs, e⟩
  | false => rw [hs] at e; exact .inl e
theorem left_good (g : Good ws) (hc : contW vs = wioTo ws n ws.length) : Good vs := by
 have hl := left_len hc
 have hn := cntB_le ws n ws.length
 have n1 := g.n1
 have hN : (outs vs).length ≤ (outs ws).length := by
  have := left_start hc ws.length (Nat.le_refl _)
  rw [← hl, start_all, start_all] at this
  exact this
 refine ⟨by omega, by have := g.n2; omega, fun y hy => ?_, fun y z hy hz e => ?_, fun y z hy hz h0 e => ?_⟩
 ·have hx := oldX_at hc hy
  have hr := g.right _ hx.1
  have hoc := left_oc hc hy
  have hin := left_into g hc hy
  have e1 : (oAt (outs vs) y).id = (oAt (outs ws) (oldX ws vs n y)).id := congrArg Oc.id hoc
  have e3 : (oAt (outs vs) y).ps = (oAt (outs ws) (oldX ws vs n y)).ps := congrArg Oc.ps hoc
  have e4 : (oAt (outs vs) y).kl = (oAt (outs ws) (oldX ws vs n y)).kl := congrArg Oc.kl hoc
  have e5 : (oAt (outs vs) y).kh = (oAt (outs ws) (oldX ws vs n y)).kh := congrArg Oc.kh hoc
  have e6 : (oAt (outs vs) y).sl = (oAt (outs ws) (oldX ws vs n y)).sl := congrArg Oc.sl hoc
  have e7 : (oAt (outs vs) y).sh = (oAt (outs ws) (oldX ws vs n y)).sh := congrArg Oc.sh hoc
  unfold rightB headB at hr ⊢
  rw [e1, e3, e4, e5, e6, e7]
  simp only [Bool.and_eq_true] at hr ⊢
  obtain ⟨⟨⟨⟨⟨h1, h2⟩, h3⟩, h4⟩, h5⟩, h6⟩ := hr
  refine ⟨⟨⟨⟨⟨h1, ?_⟩, h3⟩, h4⟩, h5⟩, h6⟩
  rcases hin with h | ⟨z, hz, hzl, hlt, hs, h⟩
  ·rw [h]; rfl
  ·rw [h, Bool.or_eq_true]
   right
   have h7 := oldC_at (ws := ws) (n := n) (k := caAt vs y) (by have := caAt_lt hy; omega)
   have h8 := cntB_lt hlt h7.2.1
   have h9 := oldC_of hzl hs
   unfold withinB
   rw [decide_eq_true_eq]
   omega
 ·have hy1 := congrArg Oc.id (left_oc hc hy)
  have hz1 := congrArg Oc.id (left_oc hc hz)
  have hy1 : (oAt (outs vs) y).id = (oAt (outs ws) (oldX ws vs n y)).id := hy1
  have hz1 : (oAt (outs vs) z).id = (oAt (outs ws) (oldX ws vs n z)).id := hz1
  exact oldX_inj hc hy hz (g.ids _ _ (oldX_at hc hy).1 (oldX_at hc hz).1 (by rw [← hy1, ← hz1, e]))
 ·rcases left_into g hc hy with h | ⟨z1, a1, a2, a3, a4, a5⟩
  ·omega
  ·rcases left_into g hc hz with h | ⟨z2, b1, b2, b3, b4, b5⟩
   ·omega
   ·have e2 : z1 = z2 := cntB_inj a4 b4 (by rw [a5, b5] at e; omega)
    exact oldX_inj hc hy hz (g.fed _ _ (oldX_at hc hy).1 (oldX_at hc hz).1 (by omega) (by rw [a1, b1, e2]))
end
end Go.Proofs.Ytdadoelajhemjaa
