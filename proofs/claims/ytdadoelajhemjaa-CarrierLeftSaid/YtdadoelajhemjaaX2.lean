/- Plain: in works without a carrier as much flows through the outlets that are left. -/
import Derived.Test.YtdadoelajhemjaaX1
namespace Go.Proofs.Ytdadoelajhemjaa
open Go.RowKit

theorem check_of_good {ws : List Car} (g : Good ws) : checkE ws = 0 := by
 have n1 := g.n1
 have n2 := g.n2
 unfold checkE
 rw [if_neg (by omega), ← firsts_all]
 have key : ∀ k, k ≤ (outs ws).length → scanE ws (firsts (outs ws).length k) = 0 := by
  intro k
  induction k with
  | zero => intro _; rfl
  | succ k ih =>
   intro hk
   rw [firsts_succ (by omega), scanE_snoc, if_pos (ih (by omega))]
   unfold stepE
   rw [if_neg (by rw [g.right k (by omega)]; decide), if_neg (fun h => ?_), if_neg (fun h => ?_)]
   ·obtain ⟨h0, h⟩ := h
    obtain ⟨y, hy, e⟩ := (fedL_isSome _ _ _).1 h
    have := firsts_mem.1 hy
    have h2 := g.fed k y.1 (by omega) y.2 h0 e.symm
    omega
   ·obtain ⟨y, hy, e⟩ := (idsL_isSome _ _ _).1 h
    have := firsts_mem.1 hy
    have h2 := g.ids y.1 k y.2 (by omega) e
    omega
 exact key _ (Nat.le_refl _)
theorem range_getD (l : List Nat) : (List.range l.length).map (fun i => l.getD i 0) = l := by
 refine List.ext_getElem (by simp) (fun i h1 h2 => ?_)
 simp [List.getD_eq_getElem?_getD, List.getElem?_eq_getElem h2]
/-- The heads but for the carrier: their numbers. -/
def hdQ (ws : List Car) (n : Int) (i : Nat) : Bool := decide (((headsTo ws ws.length).getD i 0 : Int) ≠ n)
def hdF (ws : List Car) (n : Int) (k : Nat) : List Nat := (List.range k).filter (hdQ ws n)
def lfRi (ws : List Car) (s : Wt) (n : Int) (k : Nat) : List Int := (hdF ws n k).map (nth s.ri)
theorem lfRi_yes {ws : List Car} {s : Wt} {n : Int} {k : Nat} (h : ((headsTo ws ws.length).getD k 0 : Int) ≠ n) : lfRi ws s n (k + 1) = lfRi ws s n k ++ [nth s.ri k] := by
 unfold lfRi hdF
 rw [List.range_succ, List.filter_append, List.map_append]
 have : hdQ ws n k = true := decide_eq_true h
 simp [this]
theorem lfRi_no {ws : List Car} {s : Wt} {n : Int} {k : Nat} (h : ((headsTo ws ws.length).getD k 0 : Int) = n) : lfRi ws s n (k + 1) = lfRi ws s n k := by
 unfold lfRi hdF
 rw [List.range_succ, List.filter_append, List.map_append]
 have : hdQ ws n k = false := decide_eq_false (fun e => e h)
 simp [this]
theorem hdF_filter (ws : List Car) (n : Int) : (headsTo ws ws.length).filter (fun h : Nat => decide ((h : Int) ≠ n)) = (hdF ws n (headsTo ws ws.length).length).map (fun i => (headsTo ws ws.length).getD i 0) := by
 have h := congrArg (List.filter (fun h : Nat => decide ((h : Int) ≠ n))) (range_getD (headsTo ws ws.length))
 rw [List.filter_map] at h
 exact h.symm
def lfL (ws vs : List Car) (n : Int) (f : List Int) (m : Nat) : List Int := (List.range m).map fun y => nth f (oldX ws vs n y)
theorem lfL_succ (ws vs : List Car) (n : Int) (f : List Int) (m : Nat) : lfL ws vs n f (m + 1) = lfL ws vs n f m ++ [nth f (oldX ws vs n m)] := by simp [lfL, List.range_succ]
theorem lfL_length (ws vs : List Car) (n : Int) (f : List Int) (m : Nat) : (lfL ws vs n f m).length = m := by simp [lfL]
theorem lfL_at (ws vs : List Car) (n : Int) (f : List Int) {m y : Nat} (h : y < m) : nth (lfL ws vs n f m) y = nth f (oldX ws vs n y) := by simp [lfL, nth, h]
/-- The water of what is left. -/
structure LfW (ws vs : List Car) (n : Int) (s t : Wt) : Prop where
 r : t.ri = lfRi ws s n (headsTo ws ws.length).length
 b : t.bo = lfL ws vs n s.bo (outs vs).length
 k : t.lk = lfL ws vs n s.lk (outs vs).length
 o : t.lo = lfL ws vs n s.lo (outs vs).length
section
variable {ws vs : List Car} {n : Int} {s t : Wt}
theorem left_up_none (g : Good ws) (hc : contW vs = wioTo ws n ws.length) {k : Nat} (h : upO ws (oldC ws n k : Int) = none) : upO vs (k : Int) = none := by
 cases hu : upO vs (k : Int) with
 | none => rfl
 | some y =>
  obtain ⟨hy, e⟩ := upO_some hu
  rcases left_into g hc hy with h1 | ⟨z, a1, a2, a3, a4, a5⟩
  ·omega
  ·have e2 : cntB ws n z = k := by omega
   have h3 := (oldC_of a2 a4).2
   rw [e2] at h3
   rw [h3] at h
   exact absurd a1 (upO_none h _ (oldX_at hc hy).1)
theorem left_up_some (g : Good ws) (hc : contW vs = wioTo ws n ws.length) {k x : Nat} (hk : k < vs.length) (h : upO ws (oldC ws n k : Int) = some x) : ∃ y, upO vs (k : Int) = some y ∧ oldX ws vs n y = x := by
 have hl := left_len hc
 have ho := oldC_at (ws := ws) (n := n) (k := k) (by omega)
 obtain ⟨hx, hin⟩ := upO_some h
 have hs := stB_some g (c := n) h
 rw [ho.2.1] at hs
 have hs2 : stB ws n (caAt ws x) = true := by
  have := hs.symm
  rw [Bool.and_eq_true] at this
  exact this.2
 obtain ⟨y, hy, e, _⟩ := oldX_of hc hx hs2
 have g2 := left_good g hc
 have hiv : (oAt (outs vs) y).into = (k : Int) := by
  rcases left_into g hc hy with h1 | ⟨z, a1, a2, a3, a4, a5⟩
  ·have e2 := congrArg Oc.into (left_oc hc hy)
   have e2 : (oAt (outs vs) y).into = newInto ws n (oAt (outs ws) (oldX ws vs n y)).into := e2
   rw [e, hin] at e2
   unfold newInto at e2
   rw [anewF_at ho.1, if_pos ho.2.1] at e2
   rw [e2, ho.2.2]
   rfl
  ·rw [e, hin] at a1
   have : oldC ws n k = z := by omega
   rw [a5, ← this, ho.2.2]
 have := upO_of g2 hy (by omega)
 rw [hiv] at this
 exact ⟨y, this, e⟩
theorem left_heads (g : Good ws) (hc : contW vs = wioTo ws n ws.length) : ∀ m, m ≤ ws.length → headsTo vs (cntB ws n m) = ((headsTo ws m).filter (fun h : Nat => decide ((h : Int) ≠ n))).map (cntB ws n)
 | 0, _ => rfl
 | m + 1, hm => by
  have ih := left_heads g hc m (by omega)
  have hl := left_len hc
  cases hs : stB ws n m with
  | true =>
   have h1 := oldC_of (ws := ws) (n := n) hm hs
   have hk : cntB ws n m < vs.length := by omega
   rw [cntB_yes hs, headsTo_succ, headsTo_succ, ih]
   cases hu : upO ws (m : Int) with
   | none =>
    have h2 : upO vs (cntB ws n m : Int) = none := left_up_none g hc (by rw [h1.2]; exact hu)
    have h3 := stB_none (c := n) hu
    rw [hs] at h3
    have h4 : (m : Int) ≠ n := of_decide_eq_true h3.symm
    rw [h2, if_pos (by rfl), if_pos (by rfl), List.filter_append, List.map_append]
    simp [h4]
   | some x =>
    obtain ⟨y, h2, _⟩ := left_up_some g hc hk (x := x) (by rw [h1.2]; exact hu)
    rw [h2, if_neg (by simp), if_neg (by simp)]
  | false =>
   rw [cntB_no hs, headsTo_succ, ih]
   cases hu : upO ws (m : Int) with
   | none =>
    have h3 := stB_none (c := n) hu
    rw [hs] at h3
    have h4 : (m : Int) = n := by
     have := of_decide_eq_false h3.symm
     omega
    rw [if_pos (by rfl), List.filter_append]
    simp [h4]
   | some x => rw [if_neg (by simp)]
theorem left_hd (g : Good ws) (hc : contW vs = wioTo ws n ws.length) : headsTo vs vs.length = (hdF ws n (headsTo ws ws.length).length).map (fun i => cntB ws n ((headsTo ws ws.length).getD i 0)) := by
 have h := left_heads g hc ws.length (Nat.le_refl _)
 rw [← left_len hc, hdF_filter, List.map_map] at h
 exact h
theorem left_river (g : Good ws) (hc : contW vs = wioTo ws n ws.length) (hw : LfW ws vs n s t) {m : Nat} (hm : m < (headsTo vs vs.length).length) : ∃ i, i < (headsTo ws ws.length).length ∧ nth t.ri m = nth s.ri i ∧ oldC ws n ((headsTo vs vs.length).getD m 0) = (headsTo ws ws.length).getD i 0 := by
 have hh := left_hd g hc
 have hm2 : m < (hdF ws n (headsTo ws ws.length).length).length := by rw [hh, List.length_map] at hm; exact hm
 have h1 : (hdF ws n (headsTo ws ws.length).length).getD m 0 < (headsTo ws ws.length).length := (sel_at (hdQ ws n) (headsTo ws ws.length).length m hm2).1
 have h2 : hdQ ws n ((hdF ws n (headsTo ws ws.length).length).getD m 0) = true := (sel_at (hdQ ws n) (headsTo ws ws.length).length m hm2).2.1
 refine ⟨(hdF ws n (headsTo ws ws.length).length).getD m 0, h1, ?_, ?_⟩
 ·rw [hw.r]
  unfold lfRi nth
  rw [List.getD_eq_getElem?_getD, List.getElem?_map, List.getElem?_eq_getElem hm2, List.getD_eq_getElem?_getD (l := hdF ws n (headsTo ws ws.length).length), List.getElem?_eq_getElem hm2]
  rfl
 ·have e : (headsTo vs vs.length).getD m 0 = cntB ws n ((headsTo ws ws.length).getD ((hdF ws n (headsTo ws ws.length).length).getD m 0) 0) := by
   rw [hh, List.getD_eq_getElem?_getD, List.getElem?_map, List.getElem?_eq_getElem hm2, List.getD_eq_getElem?_getD (l := hdF ws n (headsTo ws ws.length).length), List.getElem?_eq_getElem hm2]
   rfl
  have hlt := headsTo_lt h1
  have hup := heads_up h1
  have hst : stB ws n ((headsTo ws ws.length).getD ((hdF ws n (headsTo ws ws.length).length).getD m 0) 0) = true := by rw [stB_none hup]; exact h2
  rw [e]
  exact (oldC_of hlt hst).2
theorem left_lr (g : Good ws) (hc : contW vs = wioTo ws n ws.length) (hw : LfW ws vs n s t) : t.ri.length = (headsTo vs vs.length).length := by
 rw [hw.r, left_hd g hc, List.length_map]
 unfold lfRi
 rw [List.length_map]
theorem left_step (hc : contW vs = wioTo ws n ws.length) (hw : LfW ws vs n s t) {y : Nat} (hy : y < (outs vs).length) (b : Int) : thrV vs t b y = thrV ws s b (oldX ws vs n y) ∧ leftV vs t b y = leftV ws s b (oldX ws vs n y) := by
 have e1 : nth t.lo y = nth s.lo (oldX ws vs n y) := by rw [hw.o, lfL_at _ _ _ _ hy]
 have e2 : nth t.bo y = nth s.bo (oldX ws vs n y) := by rw [hw.b, lfL_at _ _ _ _ hy]
 have e3 : nth t.lk y = nth s.lk (oldX ws vs n y) := by rw [hw.k, lfL_at _ _ _ _ hy]
 have e4 : (oAt (outs vs) y).ps = (oAt (outs ws) (oldX ws vs n y)).ps := congrArg Oc.ps (left_oc hc hy)
 have e5 : lossV t b y = lossV s b (oldX ws vs n y) := by unfold lossV; rw [e1]
 have e6 : thrV vs t b y = thrV ws s b (oldX ws vs n y) := by unfold thrV; rw [e5, e2, e3, e4]
 exact ⟨e6, by unfold leftV; rw [e5, e6]⟩
theorem left_tail (hc : contW vs = wioTo ws n ws.length) (hw : LfW ws vs n s t) {k : Nat} (hk : k < vs.length) (b : Int) : ∀ j, j ≤ (cAt vs k).os.length → tailTo vs t k b j = tailTo ws s (oldC ws n k) b j
 | 0, _ => rfl
 | j + 1, hj => by
  have hy := start_lt hk (k := j) (by omega)
  unfold tailTo
  rw [left_tail hc hw hk b j (by omega), (left_step hc hw hy _).2, oldX_start hk (by omega)]
theorem left_flow0 (g : Good ws) (hc : contW vs = wioTo ws n ws.length) (hw : LfW ws vs n s t) {y : Nat} (hy : y < (outs vs).length) (hb : begF vs t (caAt vs y) = begF ws s (oldC ws n (caAt vs y))) : flowF vs t y = flowF ws s (oldX ws vs n y) := by
 have hx := oldX_at hc hy
 rw [flow_at (left_good g hc) hy, flow_at g hx.1, hx.2.1, hx.2.2, hb, left_tail hc hw (caAt_lt hy) _ _ (Nat.le_of_lt (atAt_lt hy)), (left_step hc hw hy _).1]
theorem left_beg (g : Good ws) (hc : contW vs = wioTo ws n ws.length) (hw : LfW ws vs n s t) : ∀ k, k < vs.length → begF vs t k = begF ws s (oldC ws n k) := by
 intro k
 induction k using Nat.strongRecOn with
 | _ k ih =>
  intro hk
  have g2 := left_good g hc
  have hl := left_len hc
  have ho := oldC_at (ws := ws) (n := n) (k := k) (by omega)
  cases hu : upO ws (oldC ws n k : Int) with
  | none =>
   have hu2 := left_up_none g hc hu
   rcases head_or_fed vs hk with ⟨m, h1, h2, _⟩ | ⟨y, h⟩
   ·obtain ⟨i, h3, h4, h5⟩ := left_river g hc hw h1
    have e1 := beg_head (s := t) g2 h1
    have e2 := beg_head (s := s) g h3
    rw [h2] at e1 h5
    rw [e1, h5, e2, h4]
   ·rw [hu2] at h; cases h
  | some x =>
   obtain ⟨y, h1, h2⟩ := left_up_some g hc hk hu
   have h3 := (up_lower g2 h1)
   rw [beg_fed g2 hk h1, beg_fed g ho.1 hu, ← h2]
   exact left_flow0 g hc hw h3.1 (ih _ h3.2 (caAt_lt h3.1))
theorem left_flow (g : Good ws) (hc : contW vs = wioTo ws n ws.length) (hw : LfW ws vs n s t) {y : Nat} (hy : y < (outs vs).length) : flowF vs t y = flowF ws s (oldX ws vs n y) :=
 left_flow0 g hc hw hy (left_beg g hc hw _ (caAt_lt hy))
theorem left_ok (g : Good ws) (ok : Ok ws s) (hc : contW vs = wioTo ws n ws.length) (hw : LfW ws vs n s t) : Ok vs t := by
 have hlen : ∀ f, (lfL ws vs n f (outs vs).length).length = (outs vs).length := fun f => lfL_length _ _ _ _ _
 refine ⟨left_lr g hc hw, by rw [hw.b]; exact hlen _, by rw [hw.k]; exact hlen _, by rw [hw.o]; exact hlen _, fun m hm => ?_, fun y hy => ?_, fun y hy => ?_, fun y hy => ?_⟩
 ·rw [left_lr g hc hw] at hm
  obtain ⟨i, h1, h2, _⟩ := left_river g hc hw hm
  rw [h2]
  exact ok.r0 i (by rw [ok.l0]; exact h1)
 ·have hx := (oldX_at hc hy).1
  have e4 : (oAt (outs vs) y).ps = (oAt (outs ws) (oldX ws vs n y)).ps := congrArg Oc.ps (left_oc hc hy)
  rw [hw.b, lfL_at _ _ _ _ hy, e4]
  exact ok.r1 _ hx
 ·have hx := (oldX_at hc hy).1
  have e1 : (oAt (outs vs) y).kl = (oAt (outs ws) (oldX ws vs n y)).kl := congrArg Oc.kl (left_oc hc hy)
  have e2 : (oAt (outs vs) y).kh = (oAt (outs ws) (oldX ws vs n y)).kh := congrArg Oc.kh (left_oc hc hy)
  rw [hw.k, lfL_at _ _ _ _ hy, e1, e2]
  exact ok.r2 _ hx
 ·have hx := (oldX_at hc hy).1
  have e1 : (oAt (outs vs) y).sl = (oAt (outs ws) (oldX ws vs n y)).sl := congrArg Oc.sl (left_oc hc hy)
  have e2 : (oAt (outs vs) y).sh = (oAt (outs ws) (oldX ws vs n y)).sh := congrArg Oc.sh (left_oc hc hy)
  rw [hw.o, lfL_at _ _ _ _ hy, e1, e2]
  exact ok.r3 _ hx
/-- Where an outlet that is left stood, by its ID. -/
theorem left_idx (g : Good ws) (hc : contW vs = wioTo ws n ws.length) {y : Nat} (hy : y < (outs vs).length) : idxO ws (oAt (outs vs) y).id = some (oldX ws vs n y) := by
 have hx := (oldX_at hc hy).1
 have e1 : (oAt (outs vs) y).id = (oAt (outs ws) (oldX ws vs n y)).id := congrArg Oc.id (left_oc hc hy)
 rw [e1]
 exact idxO_first hx rfl (fun i hi e => by have := g.ids i _ (by omega) hx e; omega)
end
end Go.Proofs.Ytdadoelajhemjaa
