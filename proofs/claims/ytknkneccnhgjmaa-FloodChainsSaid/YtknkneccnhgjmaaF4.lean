/- Plain: a region that draws its order, which only reads until it makes one block, and goes on in one forced order behind it. No program here. | Walks: the reference's in, Valid, Both, three, Same. | Walks: the reference's Both, three, Same. | Walks: the reference's lower. | Walks: the reference's least. | Walks: the reference's join, leastOf. | Walks: the reference's obeys. | Walks: the reference's served. | Walks: the reference's CheckBacklog. | Walks: the reference's Between. -/
import Derived.Test.YtknkneccnhgjmaaF1
import Derived.StillTail
import Derived.OrdersHeld
import Derived.Test.YtknkneccnhgjmaaF3
import Derived.Deep.RegionHeld3
import Derived.Deep.AppendLies
namespace Go.Proofs.Ytknkneccnhgjmaa
open Go.RowKit

section
variable {P : Program} {ops : Array Oper} {md : Region.Mode} {S : World → Prop}

/-- Operation number i, which yields a value. -/
def mOp (P : Program) (ops : Array Oper) (i : Nat) (K : Act → World → Prop) (a : Act) (w : World) : Prop :=
  match ops[i]? with
  | none => K a w
  | some o => if Region.wanted o (yielded ops a.tmps) = true then ∃ v w', (execOp a.eval o).run P w = .ok (.value v) w' ∧ K (a.put o.dst v) w' else K (a.put o.dst undef) w

theorem mOp_mono {i : Nat} {K K' : Act → World → Prop} {a : Act} {w : World} (h : ∀ a w, K a w → K' a w) (hh : mOp P ops i K a w) : mOp P ops i K' a w := by
  unfold mOp at *
  split
  · rename_i ho; simp only [ho] at hh; exact h _ _ hh
  · rename_i o ho
    simp only [ho] at hh
    split
    · rename_i hw
      simp only [hw, if_true] at hh
      obtain ⟨v, w', h1, h2⟩ := hh
      exact ⟨v, w', h1, h _ _ h2⟩
    · rename_i hw
      simp only [hw] at hh
      exact h _ _ hh

theorem wpOp_of_mOp {i : Nat} {K K' : Act → World → Prop} {Q : Exit → Act → World → Prop} {a : Act} {w : World} (h : ∀ a w, K a w → K' a w) (hh : mOp P ops i K a w) : wpOp P ops Q i K' a w := by
  unfold mOp at hh
  unfold wpOp
  split
  · rename_i ho; simp only [ho] at hh; exact h _ _ hh
  · rename_i o ho
    simp only [ho] at hh
    split
    · rename_i hw
      simp only [hw, if_true] at hh
      obtain ⟨v, w', h1, h2⟩ := hh
      exact .inl (by unfold Oper.wp; rw [h1]; exact h _ _ h2)
    · rename_i hw
      simp only [hw] at hh
      exact h _ _ hh

theorem mOp_of_yields {i : Nat} {o : Oper} {v : Value} {a : Act} {w : World} (hi : ops[i]? = some o) (hy : YieldsIf P ops S o v a) (hS : S w) {K : Act → World → Prop} (h : K (a.put o.dst v) w) : mOp P ops i K a w := by
  unfold mOp
  simp only [hi]
  rcases hy with ⟨hw, hv⟩ | ⟨hw, rfl⟩
  · simp only [hw, if_true]; exact ⟨v, w, hv w hS, h⟩
  · simp only [hw, Bool.false_eq_true, if_false]; exact h

theorem mOp_put {j : Nat} {oi oj : Oper} {v : Value} (hj : ops[j]? = some oj) (hap : oi.apart ops oj = true)
    (hsi : ∀ cs b, oi.op ≠ .select cs b) (hsj : ∀ cs b, oj.op ≠ .select cs b) {K : Act → World → Prop} {a : Act} {w : World}
    (hy : YieldsIf P ops S oi v a) (h : mOp P ops j K (a.put oi.dst v) w) :
    mOp P ops j (fun a' w' => YieldsIf P ops S oi v a' ∧ K (a'.put oi.dst v) w') a w := by
  obtain ⟨h1, h2, h3⟩ := Oper.apart_spec hap
  have keep : ∀ (a : Act), YieldsIf P ops S oi v a → ∀ u, YieldsIf P ops S oi v (a.put oj.dst u) := fun a hy u =>
    hy.of_same (execOp_put oi hsi a oj.dst u h3) (wanted_put oi a oj.dst u h3)
  unfold mOp at *
  simp only [hj] at *
  rw [wanted_put oj a oi.dst v h1] at h
  split
  · rename_i hw
    simp only [hw, if_true] at h
    rw [execOp_put oj hsj a oi.dst v h1] at h
    obtain ⟨u, w', e1, e2⟩ := h
    exact ⟨u, w', e1, keep a hy u, by rw [← Act.put_comm a v u h2]; exact e2⟩
  · rename_i hw
    simp only [hw] at h
    exact ⟨keep a hy _, by rw [← Act.put_comm a v undef h2]; exact h⟩

/-- Whatever order is picked: the first f operations are of the head, and leave a world that meets S. -/
def wpAnyM (P : Program) (md : Region.Mode) (ops : Array Oper) (S : World → Prop) (n : Nat) (L : Array Bool → Act → World → Prop) : Nat → Array Bool → Act → World → Prop
  | 0, listed, a, w => L listed a w
  | f + 1, listed, a, w => Region.ready md ops listed ≠ [] ∧ ∀ i ∈ Region.ready md ops listed, i < n ∧ mOp P ops i (fun a' w' => S w' ∧ wpAnyM P md ops S n L f (listed.setIfInBounds i true) a' w') a w

theorem wpAny_of_made {n g : Nat} {L : Array Bool → Act → World → Prop} {Q' : Exit → Act → World → Prop} (hL : ∀ listed a w, L listed a w → wpAny P md ops Q' g listed a w) :
    ∀ (f : Nat) (listed : Array Bool) (a : Act) (w : World), wpAnyM P md ops S n L f listed a w → wpAny P md ops Q' (f + g) listed a w
  | 0, listed, a, w, h => by rw [Nat.zero_add]; exact hL _ _ _ h
  | f + 1, listed, a, w, h => by
    rw [show f + 1 + g = (f + g) + 1 by omega]
    exact ⟨fun h0 => absurd h0 h.1, fun i hi => wpOp_of_mOp (fun a' w' h' => wpAny_of_made hL f _ a' w' h'.2) (h.2 i hi).2⟩

theorem wpAnyM_first {n i : Nat} {oi : Oper} {v : Value} {L : Array Bool → Act → World → Prop} (hi : ops[i]? = some oi) (hsel : ∀ (j : Nat) (o : Oper) cs b, ops[j]? = some o → o.op ≠ .select cs b)
    (hs : Region.sinkB md ops n = true) (hc : Region.chainB md ops n = true) (hn : n < ops.size) (hin : i < n)
    (hdone : ∀ listed a w, L listed a w → ∀ j ∈ Region.ready md ops listed, n ≤ j) :
    ∀ (f : Nat) (listed : Array Bool) (a : Act) (w : World), HeadInv md ops n listed →
      (∀ j oj, ops[j]? = some oj → j ≠ i → listed.getD j true = false → (∀ e ∈ oj.after, Region.binds md e = true → e.on ≠ i) → oi.apart ops oj = true) →
      i ∈ Region.ready md ops listed → YieldsIf P ops S oi v a → S w →
      wpAnyM P md ops S n L f (listed.setIfInBounds i true) (a.put oi.dst v) w → wpAnyM P md ops S n L (f + 1) listed a w := by
  intro f
  induction f with
  | zero =>
    intro listed a w inv _ hr hy hS H
    have hun := (mem_ready.1 hr).1
    refine ⟨fun h => (by rw [h] at hr; cases hr), fun j hj => ?_⟩
    have hjn : j < n := by
      rcases Nat.lt_or_ge j n with h | h
      · exact h
      · exact absurd hj (tail_waits hs hc hn inv _ i rfl hin hun j h)
    refine ⟨hjn, ?_⟩
    by_cases hji : j = i
    · subst hji; exact mOp_of_yields hi hy hS ⟨hS, H⟩
    · have := hdone _ _ _ H j (ready_mono hj hji)
      omega
  | succ f ih =>
    intro listed a w inv hfree hr hy hS H
    have hun := (mem_ready.1 hr).1
    refine ⟨fun h => (by rw [h] at hr; cases hr), fun j hj => ?_⟩
    have hjn : j < n := by
      rcases Nat.lt_or_ge j n with h | h
      · exact h
      · exact absurd hj (tail_waits hs hc hn inv _ i rfl hin hun j h)
    refine ⟨hjn, ?_⟩
    by_cases hji : j = i
    · subst hji; exact mOp_of_yields hi hy hS ⟨hS, H⟩
    · have h1 := (H.2 j (ready_mono hj hji)).2
      obtain ⟨hjun, oj, hoj, hall⟩ := mem_ready.1 hj
      have hnot : ∀ e ∈ oj.after, Region.binds md e = true → e.on ≠ i := fun e he hb heq => by
        have h1 := hall e he hb
        rw [heq, getD_both hun] at h1
        cases h1
      have h2 := mOp_put hoj (hfree j oj hoj hji hjun hnot) (fun cs b => hsel i oi cs b hi) (fun cs b => hsel j oj cs b hoj) hy h1
      have hfree' : ∀ k ok, ops[k]? = some ok → k ≠ i → (listed.setIfInBounds j true).getD k true = false →
          (∀ e ∈ ok.after, Region.binds md e = true → e.on ≠ i) → oi.apart ops ok = true := fun k ok hk hki hun hno => by
        refine hfree k ok hk hki ?_ hno
        by_cases hjk : j = k
        · subst hjk; exact hjun
        · rw [getD_set_ne true hjk] at hun; exact hun
      refine mOp_mono (fun a' w' h3 => ⟨h3.2.1, ih (listed.setIfInBounds j true) a' w' (inv.set hj hjn) hfree' (ready_mono hr (Ne.symm hji)) h3.1 h3.2.1 ?_⟩) h2
      rw [Array.setIfInBounds_comm _ _ hji]
      exact h3.2.2

/-- The reads, in the text's order. -/
def wpReads (P : Program) (ops : Array Oper) (S : World → Prop) (T : Act → Prop) : List Oper → Act → Prop
  | [], a => T a
  | o :: rest, a => ∃ v, YieldsIf P ops S o v a ∧ wpReads P ops S T rest (a.put o.dst v)

theorem wpReads_nil {T : Act → Prop} {a : Act} (h : T a) : wpReads P ops S T [] a := h
theorem wpReads_op {T : Act → Prop} {o : Oper} {rest : List Oper} {a : Act} {v : Value} (hw : Region.wanted o (yielded ops a.tmps) = true) (hy : ∀ w, S w → (execOp a.eval o).run P w = .ok (.value v) w)
    (h : wpReads P ops S T rest (a.put o.dst v)) : wpReads P ops S T (o :: rest) a := ⟨v, .inl ⟨hw, hy⟩, h⟩

/-- The make, and what follows it. -/
def makeThen (P : Program) (ops : Array Oper) (S : World → Prop) (Q : Exit → Act → World → Prop) (w : World) (o : Oper) (tail : List Oper) (a : Act) : Prop :=
  Region.wanted o (yielded ops a.tmps) = true ∧ ∃ v w', (execOp a.eval o).run P w = .ok (.value v) w' ∧ S w' ∧ wpList P ops Q tail (a.put o.dst v) w'

def lexMadeB (md : Region.Mode) (ops : Array Oper) (m : Nat) : Bool :=
  Region.noSelect ops && decide (m + 1 < ops.size) && Region.sinkB md ops (m + 1) && Region.chainB md ops (m + 1) && Region.lexHead md ops (ops.size - m) m 0 (Array.replicate ops.size false)

theorem wpAnyM_lex {m g : Nat} {T : Act → Prop} {L : Array Bool → Act → World → Prop} {w : World} (hsel : Region.noSelect ops = true) (hs : Region.sinkB md ops (m + 1) = true) (hc : Region.chainB md ops (m + 1) = true) (hn : m + 1 < ops.size)
    (hS : S w) (hdone : ∀ listed a w, L listed a w → ∀ j ∈ Region.ready md ops listed, m + 1 ≤ j)
    (hT : ∀ listed a, Region.seqB md ops (g + 1) m listed = true → T a → wpAnyM P md ops S (m + 1) L 1 listed a w) :
    ∀ (l : List Oper) (k : Nat) (listed : Array Bool) (a : Act), (∀ j, j < l.length → l[j]? = ops[k + j]?) → k + l.length = m → HeadInv md ops (m + 1) listed →
    Region.lexHead md ops (g + 1) l.length k listed = true → wpReads P ops S T l a → wpAnyM P md ops S (m + 1) L (l.length + 1) listed a w
  | [], k, listed, a, _, hk, _, hB, h => by
    have hkm : k = m := by simpa using hk
    subst hkm
    exact hT listed a (by simpa [Region.lexHead] using hB) h
  | o :: l, k, listed, a, hl, hk, inv, hB, h => by
    have h0 : ops[k]? = some o := by simpa using (hl 0 (by simp)).symm
    simp only [List.length_cons, Region.lexHead, Bool.and_eq_true] at hB
    obtain ⟨⟨hr, hf⟩, hB'⟩ := hB
    have hkn : k < m + 1 := by simp only [List.length_cons] at hk; omega
    have hr' : k ∈ Region.ready md ops listed := by simpa using hr
    obtain ⟨v, hy, hK⟩ := h
    exact wpAnyM_first h0 (Region.noSelect_spec hsel) hs hc hn hkn hdone (l.length + 1) listed a w inv (Region.free_spec h0 hf) hr' hy hS
      (wpAnyM_lex hsel hs hc hn hS hdone hT l (k + 1) _ _ (fun j hj => by have := hl (j + 1) (by simp; omega); simpa [Nat.add_assoc, Nat.add_comm 1 j] using this) (by simp only [List.length_cons] at hk; omega) (inv.set hr' hkn) hB' hK)

/-- A region that reads, makes a block, and goes on in one order: ONE walk. -/
theorem wp_region_made {id : Nat} {Q : Exit → Act → World → Prop} {a : Act} {w : World} {l tail : List Oper} {o : Oper} (S : World → Prop) (m : Nat) (hm : P.follows .mixedOrders = true) (hB : lexMadeB .any l.toArray m = true)
    (ho : l.drop m = o :: tail) (hS : S w.drew) (h : wpReads P l.toArray S (makeThen P l.toArray S Q w.drew o tail) (l.take m) a) : (Code.region id l.toArray true).wp P Q a w := by
  simp only [lexMadeB, Bool.and_eq_true, decide_eq_true_eq] at hB
  obtain ⟨⟨⟨⟨hsel, hn⟩, hs⟩, hc⟩, hlex⟩ := hB
  have hn' : m + 1 < l.length := by simpa using hn
  have htl : (l.take m).length = m := by simp; omega
  have ho1 : l.toArray[m]? = some o := by
    have := congrArg (fun x => x[0]?) ho
    simpa using this
  have ho2 : l.drop (m + 1) = tail := by rw [← List.drop_drop, ho]; rfl
  have hdl : tail.length = l.toArray.size - (m + 1) := by rw [← ho2]; simp
  have inv0 : HeadInv .any l.toArray (m + 1) (Array.replicate l.toArray.size false) :=
    ⟨by simp, fun j oj _ hl => (by rw [getD_replicate_false] at hl; cases hl), fun t _ ht => getD_in (by simpa using ht) (getD_replicate_false _ _)⟩
  have hg : l.toArray.size - m = (l.toArray.size - (m + 1)) + 1 := by omega
  rw [hg] at hlex
  have H := wpAnyM_lex (P := P) (md := .any) (g := l.toArray.size - (m + 1)) (S := S) (w := w.drew) (L := fun listed a' w' => Region.seqB .any l.toArray (l.toArray.size - (m + 1)) (m + 1) listed = true ∧ wpList P l.toArray Q tail a' w') hsel hs hc hn hS
    (fun listed a' w' hL => seqB_ready hL.1)
    (fun listed a' hq hT => by
      simp only [Region.seqB, Bool.and_eq_true, decide_eq_true_eq] at hq
      obtain ⟨hw, v, w', h1, h2, h3⟩ := hT
      refine ⟨fun h0 => (by rw [hq.1] at h0; cases h0), fun i hi => ?_⟩
      have him : i = m := by rw [hq.1] at hi; simpa using hi
      subst him
      refine ⟨by omega, ?_⟩
      unfold mOp
      simp only [ho1, hw, if_true]
      exact ⟨v, w', h1, h2, hq.2, h3⟩)
    (l.take m) 0 _ a (fun j hj => by
      have hj' : j < m := by rw [htl] at hj; exact hj
      simp [hj']) (by simpa using htl) inv0 (by rw [htl]; exact hlex) h
  refine wp_region_any hm ?_
  have := wpAny_of_made (Q' := Q) (g := l.toArray.size - (m + 1)) (fun listed a' w' hL => by
    have := wpAny_of_seq (md := .any) (Q' := Q) tail (m + 1) listed a' w' (fun j => by rw [← ho2]; simp [List.getElem?_drop]) (by rw [hdl]; exact hL.1) hL.2
    rwa [hdl] at this) _ _ _ _ H
  rw [htl, show m + 1 + (l.toArray.size - (m + 1)) = l.toArray.size by omega] at this
  exact this
end
end Go.Proofs.Ytknkneccnhgjmaa
namespace Go.Proofs.Ytknkneccnhgjmaa
open Go.RowKit Go.Shelf

theorem in_any (n lo hi : Int) (w : World) : Calls Try.prog 77 #[.int .i64 n, .int .i64 lo, .int .i64 hi] w fun e w' => e = .returned (.bool (withinB n lo hi)) ∧ w = w' := by
  by_cases h1 : lo ≤ n
  · by_cases h2 : n ≤ hi
    all_goals
      go_enter Try.func77, Try.ntmps77
      go_wp2
      go_ret
      exact ⟨by simp [withinB, h1, h2], rfl⟩
  · go_enter Try.func77, Try.ntmps77
    go_wp2
    go_ret
    exact ⟨ret_bool (by unfold withinB; rw [eq_comm, decide_eq_false_iff_not]; omega), rfl⟩

theorem nth_ext {xs ys : List Int} (h : xs.length = ys.length) (he : ∀ i, i < xs.length → nth xs i = nth ys i) : xs = ys := by
  refine List.ext_getElem h fun i h1 h2 => ?_
  have := he i h1
  simpa [nth, List.getD, List.getElem?_eq_getElem h1, List.getElem?_eq_getElem h2] using this

theorem w1b_at {w : World} {A : Option Addr} {c : Nat} {xs : List Int} (r : Rd w w.heap.size A xs) :
    (w.alloc (.cells #[.slice A xs.length c] 26)).cell? ⟨w.heap.size, 0, none⟩ = some (.slice A xs.length c) ∧ Rd (w.alloc (.cells #[.slice A xs.length c] 26)) (w.alloc (.cells #[.slice A xs.length c] 26)).heap.size A xs ∧
    Below w.heap.size w (w.alloc (.cells #[.slice A xs.length c] 26)) ∧ w.heap.size < (w.alloc (.cells #[.slice A xs.length c] 26)).heap.size :=
  have hb := (Below.refl w.heap.size w).alloc (Nat.le_refl _) (.cells #[.slice A xs.length c] 26)
  ⟨by simp [go_sem], r.ext hb, hb, by simp⟩
theorem w2b_at {w : World} {A1 A2 : Option Addr} {c1 c2 : Nat} {xs ys : List Int} (r1 : Rd w w.heap.size A1 xs) (r2 : Rd w w.heap.size A2 ys) :
    ((w.alloc (.cells #[.slice A1 xs.length c1] 26)).alloc (.cells #[.slice A2 ys.length c2] 26)).cell? ⟨w.heap.size, 0, none⟩ = some (.slice A1 xs.length c1) ∧ ((w.alloc (.cells #[.slice A1 xs.length c1] 26)).alloc (.cells #[.slice A2 ys.length c2] 26)).cell? ⟨w.heap.size + 1, 0, none⟩ = some (.slice A2 ys.length c2) ∧
      In2 w ((w.alloc (.cells #[.slice A1 xs.length c1] 26)).alloc (.cells #[.slice A2 ys.length c2] 26)) A1 A2 xs ys :=
  w2b_after r1 r2 (Below.refl _ _)

/-- What Valid asks of a place. -/
def okAt (xs : List Int) (i : Nat) : Prop := 0 ≤ nth xs i ∧ nth xs i ≤ 1073741824 ∧ (0 < i → nth xs (i - 1) ≤ nth xs i)
theorem valid_of {xs : List Int} (h1 : 1 ≤ xs.length ∧ xs.length ≤ 121) (h : ∀ i, i < xs.length → okAt xs i) : validB xs = true := by
  rw [validB_iff]
  exact ⟨h1.1, h1.2, fun i hi => by simpa using (h (i + 1) hi).2.2 (by omega), (h 0 (by omega)).1, (h (xs.length - 1) (by omega)).2.1⟩
theorem not_valid_of {xs : List Int} {i : Nat} (hi : i < xs.length) (h : ¬ okAt xs i) : validB xs = false := by
  cases hv : validB xs with
  | false => rfl
  | true =>
    have hv := (validB_iff xs).1 hv
    have := hv.bd i
    refine absurd ⟨this.1, this.2, fun h0 => ?_⟩ h
    have := hv.2.2.1 (i - 1) (by omega)
    rwa [show i - 1 + 1 = i by omega] at this

set_option maxRecDepth 100000 in
set_option maxHeartbeats 800000 in
theorem Valid_any (A : Option Addr) (c : Nat) (xs : List Int) (w : World) (h : Rd w w.heap.size A xs) (hm : xs.length ≤ maxLen) :
    Calls Try.prog 113 #[.agg #[.slice A xs.length c]] w fun e w' => e = .returned (.bool (validB xs)) ∧ Below w.heap.size w w' := by
  unfold maxLen at hm
  obtain ⟨p1, r, hb0, l0⟩ := w1b_at (c := c) h
  by_cases h1 : 1 ≤ xs.length ∧ xs.length ≤ 121
  · have hw : withinB xs.length 1 121 = true := by unfold withinB; rw [decide_eq_true_eq]; omega
    clear h
    go_enter Try.func113, Try.ntmps113
    go_upto_region 3 with (go_at_call 77; refine (in_any _ _ _ _).mono ?_; rintro e w' ⟨rfl, rfl⟩)
    obtain ⟨b, off, rfl, lb, hc⟩ := r (by omega)
    generalize w.alloc (.cells #[.slice (some ⟨b, off, none⟩) xs.length c] 26) = w1 at *
    generalize hB : w.heap.size = B at *
    go_wp2
    go_loopg [3] xs.length (fun gg s wr => ∃ t : Nat, t ≤ xs.length ∧ xs.length - t ≤ gg ∧ s = .int .i64 t ∧ Aside (Below w1.heap.size w1 wr) ∧ Aside (∀ j, j < t → okAt xs j))
    case atStart => exact ⟨0, Nat.zero_le _, by omega, rfl, Below.refl _ _, fun j hj => absurd hj (Nat.not_lt_zero _)⟩
    case round =>
      obtain ⟨t, ht, hg, rfl, hb, hA⟩ := hrel
      obtain ⟨rc, rf⟩ := bcell hb.out
      by_cases hlt : t < xs.length
      · have hltz : (t : Int) < (xs.length : Int) := by omega
        have k0 := hc t hlt
        have k1 := hc (t - 1) (by omega)
        have hsz := hb.out.size
        have lb' : b < wr.heap.size := by omega
        have l0' : B < wr.heap.size := by omega
        have hc1 := hc
        clear hc
        cases hr : withinB (nth xs t) 0 1073741824 with
        | false =>
          have hfin := not_valid_of hlt (fun ho : okAt xs t => by unfold withinB at hr; rw [decide_eq_false_iff_not] at hr; exact hr ⟨ho.1, ho.2.1⟩)
          have HF := Lib.hid hfin
          clear hfin
          go_wp2
          refine wp_region_ext (by kernel_rfl) (by kernel_rfl) ?_
          intro ι _ X hX hC
          have rX := fun k => (bcell (hX k)).1
          repeat (first | go_big_quiet_skip | (go_big_quiet_want; go_big_quiet_op; first | go_big_quiet_on | (apply Exists.intro; refine ⟨fun _ => ?_, ?_⟩; (focus (go_at_call 77; exact Calls.ext_same (in_any _ _ _ _))); go_big_quiet_on)))
          refine wpQuiet_nil ?_
          intro w1 hb1
          clear rX hX hC
          have HB := Lib.hid (hb.out.trans (hb1.mono hsz))
          go_wp2
          go_ret
          exact ⟨by rw [HF.out]; rfl, hB ▸ hb0.trans (HB.out.mono (by omega))⟩
        | true =>
          have hr2 : 0 ≤ nth xs t ∧ nth xs t ≤ 1073741824 := by unfold withinB at hr; rwa [decide_eq_true_eq] at hr
          have HR := Lib.hid hr2
          clear hr2
          cases t with
          | zero =>
            have HO := Lib.hid (show okAt xs 0 from ⟨HR.out.1, HR.out.2, fun h => absurd h (by omega)⟩)
            rw [Nat.add_zero] at k0
            clear k1
            go_wp2
            refine wp_region_ext (by kernel_rfl) (by kernel_rfl) ?_
            intro ι _ X hX hC
            have rX := fun k => (bcell (hX k)).1
            repeat (first | go_big_quiet_skip | (go_big_quiet_want; go_big_quiet_op; first | go_big_quiet_on | (apply Exists.intro; refine ⟨fun _ => ?_, ?_⟩; (focus (go_at_call 77; exact Calls.ext_same (in_any _ _ _ _))); go_big_quiet_on)))
            refine wpQuiet_nil ?_
            intro w1 hb1
            clear rX hX hC
            have HB := Lib.hid (hb.out.trans (hb1.mono hsz))
            go_wp2
            go_roundg (xs.length - 1)
            case measure => omega
            case rel => exact ⟨1, by omega, by omega, by go_num, HB.out, (show Aside _ from fun j hj => by
              obtain rfl : j = 0 := by omega
              exact HO.out)⟩
          | succ s =>
            rw [show s + 1 - 1 = s by omega] at k1
            have hpz : (0 : Int) < (s : Int) + 1 := by omega
            have hsz1 : (s : Int) < (xs.length : Int) := by omega
            have hmax : (if 0 < s then (s : Int) else 0) = (s : Int) := by split <;> omega
            by_cases hq : nth xs (s + 1) < nth xs s
            · have hfin := not_valid_of hlt (fun ho : okAt xs (s + 1) => by have := ho.2.2 (by omega); rw [show s + 1 - 1 = s by omega] at this; omega)
              have HF := Lib.hid hfin
              clear hfin
              go_wp2
              refine wp_region_ext (by kernel_rfl) (by kernel_rfl) ?_
              intro ι _ X hX hC
              have rX := fun k => (bcell (hX k)).1
              repeat (first | go_big_quiet_skip | (go_big_quiet_want; go_big_quiet_op; first | go_big_quiet_on | (apply Exists.intro; refine ⟨fun _ => ?_, ?_⟩; (focus (go_at_call 77; exact Calls.ext_same (in_any _ _ _ _))); go_big_quiet_on)))
              refine wpQuiet_nil ?_
              intro w1 hb1
              clear rX hX hC
              have HB := Lib.hid (hb.out.trans (hb1.mono hsz))
              go_wp2
              go_ret
              exact ⟨by rw [HF.out]; rfl, hB ▸ hb0.trans (HB.out.mono (by omega))⟩
            · have HO := Lib.hid (show okAt xs (s + 1) from ⟨HR.out.1, HR.out.2, fun _ => by rw [show s + 1 - 1 = s by omega]; omega⟩)
              go_wp2
              refine wp_region_ext (by kernel_rfl) (by kernel_rfl) ?_
              intro ι _ X hX hC
              have rX := fun k => (bcell (hX k)).1
              repeat (first | go_big_quiet_skip | (go_big_quiet_want; go_big_quiet_op; first | go_big_quiet_on | (apply Exists.intro; refine ⟨fun _ => ?_, ?_⟩; (focus (go_at_call 77; exact Calls.ext_same (in_any _ _ _ _))); go_big_quiet_on)))
              refine wpQuiet_nil ?_
              intro w1 hb1
              clear rX hX hC
              have HB := Lib.hid (hb.out.trans (hb1.mono hsz))
              go_wp2
              go_roundg (xs.length - (s + 2))
              case measure => omega
              case rel => exact ⟨s + 2, by omega, by omega, by go_num, HB.out, (show Aside _ from fun j hj => by
                by_cases e : j = s + 1
                · subst e; exact HO.out
                · exact hA.out j (by omega))⟩
      · have hltz : ¬ (t : Int) < (xs.length : Int) := by omega
        obtain rfl : t = xs.length := by omega
        go_wp2
        go_ret
        exact ⟨by rw [valid_of h1 hA.out]; rfl, hb0.trans (hb.out.mono (by omega))⟩
  · have hw : withinB xs.length 1 121 = false := by unfold withinB; rw [decide_eq_false_iff_not]; omega
    have hfin : validB xs = false := by
      cases hv : validB xs with
      | false => rfl
      | true => have hv := (validB_iff xs).1 hv; exact absurd ⟨hv.1, hv.2.1⟩ h1
    clear h
    go_enter Try.func113, Try.ntmps113
    go_wp2_with (go_at_call 77; refine (in_any _ _ _ _).mono ?_; rintro e w' ⟨rfl, rfl⟩)
    go_ret
    exact ⟨by rw [hfin]; rfl, hb0⟩
end Go.Proofs.Ytknkneccnhgjmaa
namespace Go.Proofs.Ytknkneccnhgjmaa
open Go.RowKit Go.Shelf

set_option maxRecDepth 100000 in
set_option maxHeartbeats 1600000 in
theorem Both_any (A1 A2 : Option Addr) (c1 c2 : Nat) (xs ys : List Int) (w : World) (r1 : Rd w w.heap.size A1 xs) (r2 : Rd w w.heap.size A2 ys) (m1 : xs.length ≤ maxLen) (m2 : ys.length ≤ maxLen) :
    Calls Try.prog 93 #[.agg #[.slice A1 xs.length c1], .agg #[.slice A2 ys.length c2]] w fun e w' => e = .returned (.int .i64 (errB (ok2 xs ys))) ∧ Below w.heap.size w w' := by
  have ha := w2b_at (c1 := c1) (c2 := c2) r1 r2
  have hv := Valid_any A1 c1 xs _ ha.2.2.r1 m1
  have hv2 := fun W => fun (h : Rd W W.heap.size A2 ys) => Valid_any A2 c2 ys W h m2
  have HR := Lib.hid (And.intro ha (And.intro hv hv2))
  clear r1 r2 ha hv hv2
  have hd : ok2 xs ys = (validB xs && validB ys && decide (ys.length = xs.length)) := rfl
  generalize ok2 xs ys = O at *
  generalize hg1 : validB xs = b1 at *
  generalize hg2 : validB ys = b2 at *
  clear hg1 hg2
  cases b1 <;> cases b2 <;> cases hq : decide (ys.length = xs.length)
  all_goals
    rw [hq] at hd
    have H3 := Lib.hid (And.intro hq hd)
    clear hq hd
    go_enter Try.func93, Try.ntmps93
    go_upto_region 2 with (go_at_call 113; refine HR.out.2.1.mono ?_; rintro e w1 ⟨rfl, hb⟩; obtain ⟨p1, p2⟩ := keep2 HR.out.1.2.2.size hb HR.out.1.1 HR.out.1.2.1; have HI := Lib.hid (HR.out.1.2.2.ext hb); clear hb)
    go_upto_region 3 with (go_at_call 113; refine (HR.out.2.2 w1 HI.out.r2).mono ?_; rintro e w2 ⟨rfl, hb⟩; obtain ⟨s1, s2⟩ := keep2 HI.out.size hb p1 p2; have HI2 := Lib.hid (HI.out.ext hb); clear hb)
    have h3 := H3.out.1
    first
      | (rw [decide_eq_true_eq] at h3; have h3z : (xs.length : Int) = (ys.length : Int) := by omega)
      | (rw [decide_eq_false_iff_not] at h3; have h3z : ¬ (xs.length : Int) = (ys.length : Int) := by omega)
    clear h3
    go_wp2
    go_ret
    exact ⟨ret_int (by rw [H3.out.2]; rfl), HI2.out.below⟩

def ok3' (xs ys zs : List Int) : Bool := ok2 xs ys && ok2 xs zs

theorem w3b_at {w : World} {A1 A2 A3 : Option Addr} {c1 c2 c3 : Nat} {xs ys zs : List Int} (r1 : Rd w w.heap.size A1 xs) (r2 : Rd w w.heap.size A2 ys) (r3 : Rd w w.heap.size A3 zs) :
    (w3b w A1 A2 A3 xs.length c1 ys.length c2 zs.length c3).cell? ⟨w.heap.size, 0, none⟩ = some (.slice A1 xs.length c1) ∧ (w3b w A1 A2 A3 xs.length c1 ys.length c2 zs.length c3).cell? ⟨w.heap.size + 1, 0, none⟩ = some (.slice A2 ys.length c2) ∧ (w3b w A1 A2 A3 xs.length c1 ys.length c2 zs.length c3).cell? ⟨w.heap.size + 1 + 1, 0, none⟩ = some (.slice A3 zs.length c3) ∧
      In3 w (w3b w A1 A2 A3 xs.length c1 ys.length c2 zs.length c3) A1 A2 A3 xs ys zs :=
  w3b_after r1 r2 r3 (Below.refl _ _)
theorem In3.ext {w w1 w2 : World} {A1 A2 A3 : Option Addr} {xs ys zs : List Int} (h : In3 w w1 A1 A2 A3 xs ys zs) (hb : Below w1.heap.size w1 w2) : In3 w w2 A1 A2 A3 xs ys zs :=
  ⟨h.r1.ext hb, h.r2.ext hb, h.r3.ext hb, h.below.trans (hb.mono h.below.size), Nat.lt_of_lt_of_le h.size hb.size⟩
theorem keep3 {w w1 w2 : World} {v1 v2 v3 : Value} (hs : w.heap.size + 1 + 1 < w1.heap.size) (hb : Below w1.heap.size w1 w2) (p1 : w1.cell? ⟨w.heap.size, 0, none⟩ = some v1) (p2 : w1.cell? ⟨w.heap.size + 1, 0, none⟩ = some v2) (p3 : w1.cell? ⟨w.heap.size + 1 + 1, 0, none⟩ = some v3) :
    w2.cell? ⟨w.heap.size, 0, none⟩ = some v1 ∧ w2.cell? ⟨w.heap.size + 1, 0, none⟩ = some v2 ∧ w2.cell? ⟨w.heap.size + 1 + 1, 0, none⟩ = some v3 :=
  ⟨(hb.cell (p := ⟨w.heap.size, 0, none⟩) (show w.heap.size < _ by omega)).trans p1, (hb.cell (p := ⟨w.heap.size + 1, 0, none⟩) (show w.heap.size + 1 < _ by omega)).trans p2, (hb.cell (p := ⟨w.heap.size + 1 + 1, 0, none⟩) hs).trans p3⟩

set_option maxRecDepth 100000 in
set_option maxHeartbeats 1600000 in
theorem three_any (A1 A2 A3 : Option Addr) (c1 c2 c3 : Nat) (xs ys zs : List Int) (w : World) (r1 : Rd w w.heap.size A1 xs) (r2 : Rd w w.heap.size A2 ys) (r3 : Rd w w.heap.size A3 zs) (m1 : xs.length ≤ maxLen) (m2 : ys.length ≤ maxLen) (m3 : zs.length ≤ maxLen) :
    Calls Try.prog 97 #[.agg #[.slice A1 xs.length c1], .agg #[.slice A2 ys.length c2], .agg #[.slice A3 zs.length c3]] w fun e w' => e = .returned (.int .i64 (errB (ok3' xs ys zs))) ∧ Below w.heap.size w w' := by
  obtain ⟨t1, t2, t3, ha⟩ := w3b_at (c1 := c1) (c2 := c2) (c3 := c3) r1 r2 r3
  have hv := Both_any A1 A2 c1 c2 xs ys _ ha.r1 ha.r2 m1 m2
  have hv2 := fun W => fun (h : Rd W W.heap.size A1 xs) (h' : Rd W W.heap.size A3 zs) => Both_any A1 A3 c1 c3 xs zs W h h' m1 m3
  have HR := Lib.hid (And.intro t1 (And.intro t2 (And.intro t3 (And.intro ha (And.intro hv hv2)))))
  clear r1 r2 r3 t1 t2 t3 ha hv hv2
  have hd : ok3' xs ys zs = (ok2 xs ys && ok2 xs zs) := rfl
  generalize ok3' xs ys zs = O at *
  generalize hg1 : ok2 xs ys = b1 at *
  generalize hg2 : ok2 xs zs = b2 at *
  clear hg1 hg2
  cases b1
  · have H3 := Lib.hid (show O = false from hd.trans rfl)
    clear hd
    go_enter Try.func97, Try.ntmps97
    go_upto_region 2 with (go_at_call 93; refine HR.out.2.2.2.2.1.mono ?_; simp only [errB_f]; rintro e w1 ⟨rfl, hb⟩; have HI := Lib.hid (HR.out.2.2.2.1.ext hb); clear hb)
    go_wp2
    go_ret
    exact ⟨ret_int (by rw [H3.out]; rfl), HI.out.below⟩
  · have H3 := Lib.hid (show O = b2 from hd.trans (Bool.true_and _))
    clear hd
    go_enter Try.func97, Try.ntmps97
    go_upto_region 2 with (go_at_call 93; refine HR.out.2.2.2.2.1.mono ?_; simp only [errB_t]; rintro e w1 ⟨rfl, hb⟩; obtain ⟨p1, p2, p3⟩ := keep3 HR.out.2.2.2.1.size hb HR.out.1 HR.out.2.1 HR.out.2.2.1; have HI := Lib.hid (HR.out.2.2.2.1.ext hb); clear hb)
    go_wp2_with (go_at_call 93; refine (HR.out.2.2.2.2.2 w1 HI.out.r1 HI.out.r3).mono ?_; rintro e w2 ⟨rfl, hb⟩; have HI2 := Lib.hid (HI.out.ext hb); clear hb)
    go_ret
    exact ⟨ret_int (by rw [H3.out]), HI2.out.below⟩

theorem ne_of_nth {xs ys : List Int} {t : Nat} (h : nth xs t ≠ nth ys t) : xs ≠ ys := fun e => h (by rw [e])

set_option maxRecDepth 100000 in
set_option maxHeartbeats 1600000 in
theorem Same_any (A1 A2 : Option Addr) (c1 c2 : Nat) (xs ys : List Int) (w : World) (r1 : Rd w w.heap.size A1 xs) (r2 : Rd w w.heap.size A2 ys) (m1 : xs.length ≤ 1000) (m2 : ys.length ≤ 1000) :
    Calls Try.prog 19 #[.agg #[.slice A1 xs.length c1], .agg #[.slice A2 ys.length c2]] w fun e w' => e = .returned (.bool (decide (xs = ys))) ∧ Below w.heap.size w w' := by
  obtain ⟨p1, p2, HI⟩ := w2b_at (c1 := c1) (c2 := c2) r1 r2
  have l1 : w.heap.size < _ := Nat.lt_of_succ_lt HI.size
  have l2 := HI.size
  have hr1 := HI.r1
  have hr2 := HI.r2
  have hb0 := HI.below
  clear r1 r2 HI
  by_cases h3 : xs.length = ys.length
  · have h3z : (xs.length : Int) = (ys.length : Int) := by omega
    have H3 := Lib.hid h3
    clear h3
    go_enter Try.func19, Try.ntmps19
    go_upto_region 1 with fail
    generalize (w.alloc (.cells #[.slice A1 xs.length c1] 26)).alloc (.cells #[.slice A2 ys.length c2] 26) = w1 at *
    go_upto_region 3 with fail
    have H3z := Lib.hid h3z
    clear h3z
    go_wp2
    go_loopg [5] xs.length (fun gg s wr => ∃ t : Nat, t ≤ xs.length ∧ xs.length - t ≤ gg ∧ s = .int .i64 t ∧ Aside (Below w1.heap.size w1 wr) ∧ Aside (∀ j, j < t → nth xs j = nth ys j))
    case atStart => exact ⟨0, Nat.zero_le _, by omega, rfl, Below.refl _ _, fun j hj => absurd hj (Nat.not_lt_zero _)⟩
    case round =>
      obtain ⟨t, ht, hg, rfl, hb, hA⟩ := hrel
      obtain ⟨rc, rf⟩ := bcell hb.out
      by_cases hlt : t < xs.length
      · have hltz : (t : Int) < (xs.length : Int) := by omega
        have hltz2 : (t : Int) < (ys.length : Int) := by have := H3.out; omega
        obtain ⟨b1, o1, rfl, lb1, hc1⟩ := hr1 (by omega)
        obtain ⟨b2, o2, rfl, lb2, hc2⟩ := hr2 (by omega)
        have k1 := hc1 t hlt
        have k2 := hc2 t (by omega)
        have hsz := hb.out.size
        have lb1' : b1 < wr.heap.size := by omega
        have lb2' : b2 < wr.heap.size := by omega
        have l1' : w.heap.size < wr.heap.size := by omega
        have l2' : w.heap.size + 1 < wr.heap.size := by omega
        clear hc1 hc2 hr1 hr2
        by_cases hq : nth xs t = nth ys t
        · have HQ := Lib.hid hq
          rw [hq] at k1
          clear hq
          go_wp2
          refine wp_region_ext (by kernel_rfl) (by kernel_rfl) ?_
          intro ι _ X hX hC
          have rX := fun k => (bcell (hX k)).1
          repeat (first | go_big_quiet_skip | (go_big_quiet_want; go_big_quiet_op; first | go_big_quiet_on | (apply Exists.intro; refine ⟨fun _ => ?_, ?_⟩; (focus (fail)); go_big_quiet_on)))
          refine wpQuiet_nil ?_
          intro w1 hb1
          clear rX hX hC
          have HB := Lib.hid (hb.out.trans (hb1.mono hsz))
          go_wp2
          go_roundg (xs.length - (t + 1))
          case measure => omega
          case rel => exact ⟨t + 1, by omega, by omega, by go_num, HB.out, (show Aside _ from fun j hj => by
            by_cases e : j = t
            · subst e; exact HQ.out
            · exact hA.out j (by omega))⟩
        · have hfin : decide (xs = ys) = false := by rw [decide_eq_false_iff_not]; exact ne_of_nth hq
          have HF := Lib.hid hfin
          clear hfin
          go_wp2
          refine wp_region_ext (by kernel_rfl) (by kernel_rfl) ?_
          intro ι _ X hX hC
          have rX := fun k => (bcell (hX k)).1
          repeat (first | go_big_quiet_skip | (go_big_quiet_want; go_big_quiet_op; first | go_big_quiet_on | (apply Exists.intro; refine ⟨fun _ => ?_, ?_⟩; (focus (fail)); go_big_quiet_on)))
          refine wpQuiet_nil ?_
          intro w1 hb1
          clear rX hX hC
          have HB := Lib.hid (hb.out.trans (hb1.mono hsz))
          go_wp2
          go_ret
          exact ⟨by rw [HF.out]; rfl, hb0.trans (HB.out.mono (by omega))⟩
      · have hltz : ¬ (t : Int) < (xs.length : Int) := by omega
        obtain rfl : t = xs.length := by omega
        go_wp2
        go_ret
        exact ⟨by rw [decide_eq_true (nth_ext H3.out hA.out)]; rfl, hb0.trans (hb.out.mono (by omega))⟩
  · have h3z : ¬ (xs.length : Int) = (ys.length : Int) := by omega
    have hfin : decide (xs = ys) = false := by rw [decide_eq_false_iff_not]; exact fun e => h3 (by rw [e])
    have HF := Lib.hid hfin
    clear hfin h3
    go_enter Try.func19, Try.ntmps19
    go_wp2
    go_ret
    exact ⟨by rw [HF.out]; rfl, hb0⟩
end Go.Proofs.Ytknkneccnhgjmaa
namespace Go.Proofs.Ytknkneccnhgjmaa
open Go.RowKit Go.Shelf

/-- A variable of the call's own, of type []int inside a struct, that is appended to. -/
structure Outs (w1 wr : World) (G : Nat) (ov : Value) (xs : List Int) : Prop where
  bl : Below G w1 wr
  own : Own wr (G + 1) ov xs
  cell : wr.cell? ⟨G, 0, none⟩ = some ov
  fr : wr.frozen? ⟨G, 0, none⟩ = false
  lt : G < wr.heap.size

theorem own_block {w : World} {base k : Nat} {v : Value} {xs : List Int} (h : Own w base v xs) (e : v.ownBlock = some k) : base ≤ k := by
  rcases h.2 with ⟨rfl, _⟩ | ⟨g, cap, cur, rfl, hb, _⟩
  · simp [Value.ownBlock] at e
  · simp only [Value.ownBlock, Option.some.injEq] at e
    omega

theorem Outs.later {w1 wr w2 : World} {G : Nat} {ov : Value} {xs : List Int} (h : Outs w1 wr G ov xs) (hb : Below wr.heap.size wr w2) : Outs w1 w2 G ov xs := by
  have hown : Own w2 (G + 1) ov xs := by
    rcases h.own.2 with ⟨e, hn⟩ | ⟨g, cap, cur, e, hbg, hg, hrest⟩
    · exact ⟨h.own.1, .inl ⟨e, hn⟩⟩
    · exact ⟨h.own.1, .inr ⟨g, cap, cur, e, hbg, (hb.block g (Array.getElem?_eq_some_iff.1 hg).1).trans hg, hrest⟩⟩
  exact ⟨h.bl.trans (hb.mono (Nat.le_of_lt h.lt)), hown, (hb.cell (p := ⟨G, 0, none⟩) h.lt).trans h.cell, (hb.frozen (p := ⟨G, 0, none⟩) h.lt).trans h.fr, Nat.lt_of_lt_of_le h.lt hb.size⟩
theorem Outs.start (w : World) : Outs w (w.alloc (.cells #[.slice none 0 0] 26)) w.heap.size (.slice none 0 0) [] :=
  ⟨(Below.refl _ w).alloc (Nat.le_refl _) _, Own.nil _ _, by simp [go_sem], by simp [go_sem], by simp⟩

theorem Outs.push {w1 wr W w2 : World} {G : Nat} {ov nv : Value} {xs : List Int} {x : Int} (h : Outs w1 wr G ov xs) (hb : Below wr.heap.size wr W) (hg : W.grownBy w2 ov.ownBlock)
    (ho : w2.ownsRow (G + 1) 3 1 nv (xs.length + 1) (xs.map (Value.int .i64) ++ [.int .i64 x])) : Outs w1 (w2.setCell ⟨G, 0, none⟩ nv) G nv (xs ++ [x]) := by
  have h1 : Below G wr W := hb.mono (Nat.le_of_lt h.lt)
  have hlt : G < W.heap.size := Nat.lt_of_lt_of_le h.lt hb.size
  have hne : ov.ownBlock ≠ some G := fun e => by have := own_block h.own e; omega
  have hc : w2.cell? ⟨G, 0, none⟩ = some ov := (hg.cell_far ⟨G, 0, none⟩ hlt (Ne.symm hne)).trans ((hb.cell (p := ⟨G, 0, none⟩) h.lt).trans h.cell)
  have hown : Own w2 (G + 1) nv (xs ++ [x]) := by unfold Own; rw [List.length_append, List.map_append]; exact ho
  refine ⟨((h.bl.trans h1).grown hg (Nat.le_of_lt hlt) (fun k e => by have := own_block h.own e; omega)).setCell (Nat.le_refl G) nv, ?_, World.cell?_setCell_same' _ _ _ (by rw [hc]; rfl), ?_, ?_⟩
  · exact ownsRow_setCell_below hown (by show G < G + 1; omega) nv
  · have hf : W.frozen? ⟨G, 0, none⟩ = false := (hb.frozen (p := ⟨G, 0, none⟩) h.lt).trans h.fr
    rw [World.frozen?_setCell]
    exact (hg.frozen_far ⟨G, 0, none⟩ hlt (Ne.symm hne)).trans hf
  · simp only [World.size_setCell]; exact Nat.lt_of_lt_of_le hlt hg.size

theorem Outs.appended {w1 wr W w2 : World} {G : Nat} {ov : Value} {xs : List Int} (h : Outs w1 wr G ov xs) (hb : Below wr.heap.size wr W) (hg : W.grownBy w2 ov.ownBlock) :
    w2.cell? ⟨G, 0, none⟩ = some ov ∧ w2.frozen? ⟨G, 0, none⟩ = false ∧ (∀ b o, b < G → w2.cell? ⟨b, o, none⟩ = wr.cell? ⟨b, o, none⟩) := by
  have hlt : G < W.heap.size := Nat.lt_of_lt_of_le h.lt hb.size
  have hne : ov.ownBlock ≠ some G := fun e => by have := own_block h.own e; omega
  have h2 : Below G wr w2 := (hb.mono (Nat.le_of_lt h.lt)).grown hg (Nat.le_of_lt hlt) (fun k e => by have := own_block h.own e; omega)
  exact ⟨(hg.cell_far ⟨G, 0, none⟩ hlt (Ne.symm hne)).trans ((hb.cell (p := ⟨G, 0, none⟩) h.lt).trans h.cell), (hg.frozen_far ⟨G, 0, none⟩ hlt (Ne.symm hne)).trans ((hb.frozen (p := ⟨G, 0, none⟩) h.lt).trans h.fr),
    fun b o hb' => h2.cell (p := ⟨b, o, none⟩) hb'⟩

theorem Outs.slice {w1 wr : World} {G : Nat} {ov : Value} {xs : List Int} {n : Nat} (h : Outs w1 wr G ov xs) (hn : xs.length = n) : ∃ A c, ov = .slice A n c := by
  obtain ⟨A, c, hv, _, _⟩ := h.own.rd
  exact ⟨A, c, by rw [hv, hn]⟩
/-- What such a function hands back. -/
theorem Outs.curve {w w1 wr : World} {R : Nat} {A : Option Addr} {c n : Nat} {xs : List Int} (h : Outs w1 wr (R + 1) (.slice A n c) xs) (hb : Below w.heap.size w w1) (hR : w.heap.size ≤ R) :
    RCurve w xs (.returned (.agg #[.slice A n c])) (wr.setCell ⟨R, 0, none⟩ (.slice A n c)) := by
  obtain ⟨A', c', e, hrd, hfr⟩ := h.own.rd
  cases e
  refine ⟨A, c, rfl, ?_, hfr.mono (by omega), (hb.trans (h.bl.mono (by omega))).setCell (by exact hR) _⟩
  rw [World.size_setCell]
  exact hrd.setCell (fun ad e => by have := hfr ad e; show ad.block ≠ R; omega) _
theorem set_other {g : Nat} {b o : Nat} (h : b < g) : ∀ (W : World) (v : Value), (W.setCell ⟨g, 0, none⟩ v).cell? ⟨b, o, none⟩ = W.cell? ⟨b, o, none⟩ := fun W v =>
  World.cell?_setCell_other W _ _ v (fun e => by have e := congrArg Addr.block e; dsimp only at e; omega)
/-- The world of a function of two boxed curves, one result and one variable of a curve's type. -/
def w4b (w : World) (A1 A2 : Option Addr) (n1 c1 n2 c2 : Nat) : World := ((w2b w A1 A2 n1 c1 n2 c2).alloc (.cells #[.slice none 0 0] 26)).alloc (.cells #[.slice none 0 0] 26)
structure In4 (w w1 : World) (A1 A2 : Option Addr) (c1 c2 : Nat) (xs ys : List Int) : Prop where
  p1 : w1.cell? ⟨w.heap.size, 0, none⟩ = some (.slice A1 xs.length c1)
  p2 : w1.cell? ⟨w.heap.size + 1, 0, none⟩ = some (.slice A2 ys.length c2)
  p3 : w1.cell? ⟨w.heap.size + 1 + 1, 0, none⟩ = some (.slice none 0 0)
  p4 : w1.frozen? ⟨w.heap.size + 1 + 1, 0, none⟩ = false
  r1 : Rd w1 (w.heap.size + 1) A1 xs
  r2 : Rd w1 (w.heap.size + 1) A2 ys
  below : Below w.heap.size w w1
  size : w.heap.size + 1 + 1 + 1 < w1.heap.size
theorem In4.ext {w w1 w2 : World} {A1 A2 : Option Addr} {c1 c2 : Nat} {xs ys : List Int} (h : In4 w w1 A1 A2 c1 c2 xs ys) (hb : Below (w.heap.size + 1 + 1 + 1) w1 w2) (hs : w.heap.size + 1 + 1 + 1 < w2.heap.size) : In4 w w2 A1 A2 c1 c2 xs ys :=
  ⟨(hb.cell (p := ⟨w.heap.size, 0, none⟩) (show w.heap.size < _ by omega)).trans h.p1, (hb.cell (p := ⟨w.heap.size + 1, 0, none⟩) (show w.heap.size + 1 < _ by omega)).trans h.p2, (hb.cell (p := ⟨w.heap.size + 1 + 1, 0, none⟩) (show w.heap.size + 1 + 1 < _ by omega)).trans h.p3,
    (hb.frozen (p := ⟨w.heap.size + 1 + 1, 0, none⟩) (show w.heap.size + 1 + 1 < _ by omega)).trans h.p4, h.r1.below hb (by omega), h.r2.below hb (by omega), h.below.trans (hb.mono (by omega)), hs⟩
theorem w4b_known {w : World} {A1 A2 : Option Addr} {c1 c2 : Nat} {xs ys : List Int} (r1 : Rd w w.heap.size A1 xs) (r2 : Rd w w.heap.size A2 ys) : In4 w (w4b w A1 A2 xs.length c1 ys.length c2) A1 A2 c1 c2 xs ys := by
  have hs := w2b_size w A1 A2 xs.length c1 ys.length c2
  have hb : Below w.heap.size w (w4b w A1 A2 xs.length c1 ys.length c2) := ((w2b_below w A1 A2 xs.length c1 ys.length c2).alloc (by omega) _).alloc (by simp; omega) _
  exact ⟨by simp [w4b, w2b, go_sem], by simp [w4b, w2b, go_sem], by simp [w4b, w2b, go_sem], by simp [w4b, w2b, go_sem], (r1.below hb (Nat.le_refl _)).mono (by omega), (r2.below hb (Nat.le_refl _)).mono (by omega), hb, by simp [w4b, hs]⟩
theorem w4b_outs (w : World) (A1 A2 : Option Addr) (n1 c1 n2 c2 : Nat) : Outs (w4b w A1 A2 n1 c1 n2 c2) (w4b w A1 A2 n1 c1 n2 c2) (w.heap.size + 1 + 1 + 1) (.slice none 0 0) [] := by
  have hs : (w4b w A1 A2 n1 c1 n2 c2).heap.size = w.heap.size + 1 + 1 + 1 + 1 := by simp [w4b, w2b]
  exact ⟨Below.refl _ _, Own.nil _ _, by simp [w4b, w2b, go_sem], by simp [w4b, w2b, go_sem], by omega⟩

theorem tab_succ (n : Nat) (F : Nat → Int) : tab (n + 1) F = tab n F ++ [F n] := by simp [tab, List.range_succ]

set_option maxRecDepth 100000 in
set_option maxHeartbeats 1600000 in
theorem rlower_any (A1 A2 : Option Addr) (c1 c2 : Nat) (xs ys : List Int) (w : World) (r1 : Rd w w.heap.size A1 xs) (r2 : Rd w w.heap.size A2 ys) (hm : xs.length ≤ 1000) (h3 : ys.length = xs.length) :
    Calls Try.prog 110 #[.agg #[.slice A1 xs.length c1], .agg #[.slice A2 ys.length c2]] w fun e w' => RCurve w (lowerL xs ys) e w' := by
  obtain ⟨i0, hi0, hz0, hz1, hz2⟩ := info_parts info3
  have hK := w4b_known (c1 := c1) (c2 := c2) r1 r2
  have hO := w4b_outs w A1 A2 xs.length c1 ys.length c2
  have H3 := Lib.hid h3
  clear r1 r2 h3
  go_enter Try.func110, Try.ntmps110
  go_upto_region 2 with fail
  change Code.wp _ _ _ _ (w4b w A1 A2 xs.length c1 ys.length c2)
  generalize w4b w A1 A2 xs.length c1 ys.length c2 = w1 at *
  go_wp2
  go_loopg [6] xs.length (fun gg s wr => ∃ t : Nat, t ≤ xs.length ∧ xs.length - t ≤ gg ∧ s = .int .i64 t ∧ ∃ A c, Outs w1 wr (w.heap.size + 1 + 1 + 1) (.slice A t c) (tab t fun i => min (nth xs i) (nth ys i)))
  case atStart => exact ⟨0, Nat.zero_le _, by omega, rfl, _, _, hO⟩
  case round =>
    obtain ⟨t, ht, hg, rfl, A, c, hO'⟩ := hrel
    have hK' := hK.ext hO'.bl hO'.lt
    have p1 := hK'.p1
    have p2 := hK'.p2
    have q4 := hO'.cell
    have f4 := hO'.fr
    have l4 := hO'.lt
    by_cases hlt : t < xs.length
    · have hltz : (t : Int) < (xs.length : Int) := by omega
      have hltz2 : (t : Int) < (ys.length : Int) := by have := H3.out; omega
      have h0z : (0 : Int) ≤ (t : Int) := by omega
      obtain ⟨b1, o1, rfl, lb1, hc1⟩ := hK'.r1 (by omega)
      obtain ⟨b2, o2, rfl, lb2, hc2⟩ := hK'.r2 (by have := H3.out; omega)
      have k1 := hc1 t hlt
      have k2 := hc2 t (by have := H3.out; omega)
      have hown := hO'.own
      have HO := Lib.hid hO'
      clear hc1 hc2 hO' hK'
      unfold Own at hown
      rw [tab_length] at hown
      go_wp2
      refine wp_region_made (fun W => W.cell? ⟨w.heap.size, 0, none⟩ = some (.slice (some ⟨b1, o1, none⟩) xs.length c1) ∧ W.cell? ⟨w.heap.size + 1, 0, none⟩ = some (.slice (some ⟨b2, o2, none⟩) ys.length c2) ∧ W.cell? ⟨w.heap.size + 1 + 1 + 1, 0, none⟩ = some (.slice A t c) ∧
          W.cell? ⟨b1, o1 + t, none⟩ = some (.int .i64 (nth xs t)) ∧ W.cell? ⟨b2, o2 + t, none⟩ = some (.int .i64 (nth ys t))) 13 (by kernel_rfl) (by kernel_rfl) (by rfl) ⟨p1, p2, q4, k1, k2⟩ ?_
      simp only [List.take_succ_cons, List.take_zero]
      iterate 13
        refine wpReads_op (v := ?_) (by rfl) (fun W hW => ?_) ?_
        rotate_left
        focus
          obtain ⟨e1, e2, e3, e4, e5⟩ := hW
          go_simp
          try (with_reducible rfl)
        simp only [Act.put, List.setIfInBounds_toArray, List.set_cons_zero, List.set_cons_succ]
      have hmin : (if nth ys t < nth xs t then nth ys t else nth xs t) = min (nth xs t) (nth ys t) := by split <;> omega
      generalize (if nth ys t < nth xs t then nth ys t else nth xs t) = X at *
      have HX := Lib.hid hmin
      clear hmin
      refine wpReads_nil ⟨by rfl, .slice (some ⟨wr.heap.size, 0, none⟩) 1 1, wr.drew.alloc (.cells #[.int .i64 X] 3), ?_, ?_, ?_⟩
      · go_simp
      · go_keep
      simp only [Act.put, List.setIfInBounds_toArray, List.set_cons_zero, List.set_cons_succ]
      have hBw : Below wr.heap.size wr (wr.drew.alloc (.cells #[.int .i64 X] 3)) := ((Below.refl _ wr).drew).alloc (Nat.le_refl _) _
      have hnew := World.news_of_block (cs := #[.int .i64 X]) (t := 3) (fr := (0, 0)) (heap_alloc_new wr.drew (.cells #[.int .i64 X] 3))
      have hown2 := hown.drew.alloc (.cells #[.int .i64 X] 3)
      have hsz : w.heap.size + 1 + 1 + 1 + 1 ≤ (wr.drew.alloc (.cells #[.int .i64 X] 3)).heap.size := by simp; omega
      generalize hgW : wr.drew.alloc (.cells #[.int .i64 X] 3) = W at *
      have HB := Lib.hid (And.intro hBw (And.intro hnew (And.intro hown2 hsz)))
      clear hBw hnew hown2 hsz hgW p1 p2 q4 f4 k1 k2
      go_wp2_with (at_builtin; refine wpList_append_own_at _ rfl _ _ 24 rfl (w.heap.size + 1 + 1 + 1 + 1) 3 i0 (.int .i64 0) 1 8 Try.underlying24 hi0 hz0 hz1 hz2 rfl (by decide) (.slice A t c) t _ rfl HB.out.2.2.1 ⟨wr.heap.size, 0, none⟩ 1 1 [.int .i64 X] rfl (by simp) HB.out.2.1 (by simp [Value.oneCell']) (by unfold maxLen; omega) (by omega) HB.out.2.2.2 ?_; intro v' w2 hown1 hgrow _ _; have hpush := HO.out.push (nv := v') (x := X) HB.out.1 hgrow (by rw [tab_length]; exact hown1); obtain ⟨c2G, f2G, rc2⟩ := HO.out.appended HB.out.1 hgrow; obtain ⟨A', c', rfl⟩ := hpush.slice (n := t + 1) (by simp [tab_length]); have HP := Lib.hid hpush; clear hpush hown1 hgrow rc2)
      go_roundg (xs.length - (t + 1))
      case measure => omega
      case rel => exact ⟨t + 1, by omega, by omega, by go_num, _, _, by rw [tab_succ, ← HX.out]; exact HP.out⟩
    · have hltz : ¬ (t : Int) < (xs.length : Int) := by omega
      obtain rfl : t = xs.length := by omega
      have HF := Lib.hid (hO'.curve (w := w) hK.below (by omega))
      have p3 := hK'.p3
      have p4 := hK'.p4
      have q3 := World.cell?_setCell_same' wr ⟨w.heap.size + 1 + 1, 0, none⟩ (.slice A xs.length c) (by rw [p3]; rfl)
      have Q3 := Lib.hid q3
      clear hO' hK' q3
      go_wp2
      have q3 := Q3.out
      exact bodyPost_ret (v := .agg #[.slice A xs.length c]) (by simp [results, Try.results110, go_sem, q3]) rfl HF.out
end Go.Proofs.Ytknkneccnhgjmaa
namespace Go.Proofs.Ytknkneccnhgjmaa
open Go.RowKit Go.Shelf

set_option maxRecDepth 100000 in
set_option maxHeartbeats 1600000 in
theorem rleast_any (t : Nat) (A1 A2 : Option Addr) (c1 c2 : Nat) (xs ys : List Int) (w : World) (r1 : Rd w w.heap.size A1 xs) (r2 : Rd w w.heap.size A2 ys) (ht : t < xs.length) (hm : xs.length ≤ 1000) (h3 : ys.length = xs.length) (sx : Small xs) (sy : Small ys) :
    Calls Try.prog 112 #[.agg #[.slice A1 xs.length c1], .agg #[.slice A2 ys.length c2], .int .i64 t] w fun e w' => e = .returned (.int .i64 (splitAt xs ys t)) ∧ Below w.heap.size w w' := by
  obtain ⟨p1, p2, HI⟩ := w2b_at (c1 := c1) (c2 := c2) r1 r2
  have l1 : w.heap.size < _ := Nat.lt_of_succ_lt HI.size
  have l2 := HI.size
  have hb0 := HI.below
  obtain ⟨b1, o1, rfl, lb1, hc1⟩ := HI.r1 (by omega)
  obtain ⟨b2, o2, rfl, lb2, hc2⟩ := HI.r2 (by omega)
  have H3 := Lib.hid h3
  clear r1 r2 HI h3
  go_enter Try.func112, Try.ntmps112
  go_upto_region 1 with fail
  generalize (w.alloc (.cells #[.slice (some ⟨b1, o1, none⟩) xs.length c1] 26)).alloc (.cells #[.slice (some ⟨b2, o2, none⟩) ys.length c2] 26) = w1 at *
  go_wp2
  go_loopg [7, 8] (t + 1) (fun gg s7 s8 wr => ∃ k : Nat, k ≤ t + 1 ∧ t + 1 - k ≤ gg ∧ s8 = .int .i64 k ∧ s7 = .int .i64 ((argb ltB (divAt xs ys t) (k - 1) : Nat) : Int) ∧ Aside (Below w1.heap.size w1 wr))
  case atStart => exact ⟨0, Nat.zero_le _, by omega, rfl, rfl, Below.refl _ _⟩
  case round =>
    obtain ⟨k, hk, hg, rfl, rfl, hb⟩ := hrel
    obtain ⟨rc, rf⟩ := bcell hb.out
    have hle := argb_le ltB (divAt xs ys t) (k - 1)
    by_cases hlt : k < t + 1
    · have hkz : (k : Int) ≤ (t : Int) := by omega
      have hs : argb ltB (divAt xs ys t) (k + 1 - 1) = if nth xs k + nth ys (t - k) < nth xs (argb ltB (divAt xs ys t) (k - 1)) + nth ys (t - argb ltB (divAt xs ys t) (k - 1)) then k else argb ltB (divAt xs ys t) (k - 1) := by
        cases k with
        | zero => simp [argb]
        | succ j =>
          rw [show j + 1 + 1 - 1 = j + 1 by omega, show j + 1 - 1 = j by omega]
          show (if ltB (divAt xs ys t (j + 1)) (divAt xs ys t (argb ltB (divAt xs ys t) j)) = true then j + 1 else argb ltB (divAt xs ys t) j) = _
          unfold ltB
          simp only [decide_eq_true_eq]
          rfl
      generalize argb ltB (divAt xs ys t) (k - 1) = m at *
      have hmt : m ≤ t := by omega
      have k1 := hc1 k (by omega)
      have k2 := hc2 (t - k) (by have := H3.out; omega)
      have k3 := hc1 m (by omega)
      have k4 := hc2 (t - m) (by have := H3.out; omega)
      have g1 : (k : Int) < (xs.length : Int) := by omega
      have g2 : (t : Int) - (k : Int) < (ys.length : Int) := by have := H3.out; omega
      have g3 : (m : Int) < (xs.length : Int) := by omega
      have g4 : (t : Int) - (m : Int) < (ys.length : Int) := by have := H3.out; omega
      have g5 : (0 : Int) ≤ (t : Int) - (m : Int) := by omega
      have e1 : ((t : Int) - (k : Int)).toNat = t - k := by omega
      have e2 : ((t : Int) - (m : Int)).toNat = t - m := by omega
      obtain ⟨n1, n2⟩ := sx k
      obtain ⟨n3, n4⟩ := sy (t - k)
      obtain ⟨n5, n6⟩ := sx m
      obtain ⟨n7, n8⟩ := sy (t - m)
      have hsz := hb.out.size
      have lb1' : b1 < wr.heap.size := by omega
      have lb2' : b2 < wr.heap.size := by omega
      have l1' : w.heap.size < wr.heap.size := by omega
      have l2' : w.heap.size + 1 < wr.heap.size := by omega
      clear hc1 hc2 sx sy
      by_cases hq : nth xs k + nth ys (t - k) < nth xs m + nth ys (t - m)
      all_goals
        first
          | rw [if_pos hq] at hs
          | rw [if_neg hq] at hs
        have HS := Lib.hid hs
        clear hs
        go_wp2
        refine wp_region_ext (by kernel_rfl) (by kernel_rfl) ?_
        intro ι _ X hX hC
        have rX := fun k => (bcell (hX k)).1
        repeat (first | go_big_quiet_skip | (go_big_quiet_want; go_big_quiet_op; first | go_big_quiet_on | (apply Exists.intro; refine ⟨fun _ => ?_, ?_⟩; (focus (fail)); go_big_quiet_on)))
        refine wpQuiet_nil ?_
        intro w1 hb1
        clear rX hX hC
        have HB := Lib.hid (hb.out.trans (hb1.mono hsz))
        go_wp2
        go_roundg (t + 1 - (k + 1))
        case measure => omega
        case rel => exact ⟨k + 1, by omega, by omega, by go_num, by rw [HS.out], HB.out⟩
    · have hkz : ¬ (k : Int) ≤ (t : Int) := by omega
      obtain rfl : k = t + 1 := by omega
      go_wp2
      go_ret
      exact ⟨rfl, hb0.trans (hb.out.mono (by omega))⟩
end Go.Proofs.Ytknkneccnhgjmaa
namespace Go.Proofs.Ytknkneccnhgjmaa
open Go.RowKit Go.Shelf

set_option maxRecDepth 100000 in
set_option maxHeartbeats 1600000 in
theorem rjoin_any (A1 A2 : Option Addr) (c1 c2 : Nat) (xs ys : List Int) (w : World) (r1 : Rd w w.heap.size A1 xs) (r2 : Rd w w.heap.size A2 ys) (hm : xs.length ≤ 1000) (h3 : ys.length = xs.length) (sx : Small xs) (sy : Small ys) :
    Calls Try.prog 111 #[.agg #[.slice A1 xs.length c1], .agg #[.slice A2 ys.length c2]] w fun e w' => RCurve w (joinL xs ys) e w' := by
  obtain ⟨i0, hi0, hz0, hz1, hz2⟩ := info_parts info3
  have hK := w4b_known (c1 := c1) (c2 := c2) r1 r2
  have hO := w4b_outs w A1 A2 xs.length c1 ys.length c2
  have H3 := Lib.hid h3
  have HS := Lib.hid (And.intro sx sy)
  clear r1 r2 h3 sx sy
  go_enter Try.func111, Try.ntmps111
  go_upto_region 2 with fail
  change Code.wp _ _ _ _ (w4b w A1 A2 xs.length c1 ys.length c2)
  generalize w4b w A1 A2 xs.length c1 ys.length c2 = w1 at *
  go_wp2
  go_loopg [6] xs.length (fun gg s wr => ∃ t : Nat, t ≤ xs.length ∧ xs.length - t ≤ gg ∧ s = .int .i64 t ∧ ∃ A c, Outs w1 wr (w.heap.size + 1 + 1 + 1) (.slice A t c) (tab t fun i => joinAt xs ys i))
  case atStart => exact ⟨0, Nat.zero_le _, by omega, rfl, _, _, hO⟩
  case round =>
    obtain ⟨t, ht, hg, rfl, A, c, hO'⟩ := hrel
    have hK' := hK.ext hO'.bl hO'.lt
    have p1 := hK'.p1
    have p2 := hK'.p2
    by_cases hlt : t < xs.length
    · have hltz : (t : Int) < (xs.length : Int) := by omega
      have HO := Lib.hid (And.intro hO' hK')
      have hcall := rleast_any t A1 A2 c1 c2 xs ys wr (hK'.r1.mono (by have := hK'.size; omega)) (hK'.r2.mono (by have := hK'.size; omega)) hlt hm H3.out HS.out.1 HS.out.2
      have HC := Lib.hid hcall
      have l4 := hO'.lt
      clear hO' hK' hcall
      go_upto_region 6 with (go_at_call 112; refine HC.out.mono ?_; rintro e w2 ⟨rfl, hb2⟩)
      have hO2 := HO.out.1.later hb2
      have hK2 := HO.out.2.ext (hb2.mono (by omega)) (Nat.lt_of_lt_of_le l4 hb2.size)
      have p1 := hK2.p1
      have p2 := hK2.p2
      have q4 := hO2.cell
      have l4 := hO2.lt
      have hmt := argb_le ltB (divAt xs ys t) t
      have hX0 : joinAt xs ys t = nth xs (splitAt xs ys t) + nth ys (t - splitAt xs ys t) := rfl
      change splitAt xs ys t ≤ t at hmt
      generalize splitAt xs ys t = m at *
      have hmz : (0 : Int) ≤ (m : Int) := by omega
      have hmz1 : (m : Int) < (xs.length : Int) := by omega
      have hmz2 : (0 : Int) ≤ (t : Int) - (m : Int) := by omega
      have hmz3 : (t : Int) - (m : Int) < (ys.length : Int) := by have := H3.out; omega
      have e1 : ((t : Int) - (m : Int)).toNat = t - m := by omega
      obtain ⟨b1, o1, rfl, lb1, hc1⟩ := hK2.r1 (by omega)
      obtain ⟨b2, o2, rfl, lb2, hc2⟩ := hK2.r2 (by have := H3.out; omega)
      have k1 := hc1 m (by omega)
      have k2 := hc2 (t - m) (by have := H3.out; omega)
      obtain ⟨n1, n2⟩ := HS.out.1 m
      obtain ⟨n3, n4⟩ := HS.out.2 (t - m)
      have hwr1 : IntKind.i64.wrap ((t : Int) - (m : Int)) = (t : Int) - (m : Int) := by rw [IntKind.wrap_i64]; omega
      have hwr2 : IntKind.i64.wrap (nth xs m + nth ys (t - m)) = nth xs m + nth ys (t - m) := by rw [IntKind.wrap_i64]; omega
      have hown := hO2.own
      have HO2 := Lib.hid hO2
      have HX := Lib.hid hX0
      clear hc1 hc2 hO2 hK2 hX0 HO HC hb2
      unfold Own at hown
      rw [tab_length] at hown
      refine wp_region_made (fun W => W.cell? ⟨w.heap.size, 0, none⟩ = some (.slice (some ⟨b1, o1, none⟩) xs.length c1) ∧ W.cell? ⟨w.heap.size + 1, 0, none⟩ = some (.slice (some ⟨b2, o2, none⟩) ys.length c2) ∧ W.cell? ⟨w.heap.size + 1 + 1 + 1, 0, none⟩ = some (.slice A t c) ∧
          W.cell? ⟨b1, o1 + m, none⟩ = some (.int .i64 (nth xs m)) ∧ W.cell? ⟨b2, o2 + (t - m), none⟩ = some (.int .i64 (nth ys (t - m)))) 15 (by kernel_rfl) (by kernel_rfl) (by rfl) ⟨p1, p2, q4, k1, k2⟩ ?_
      simp only [List.take_succ_cons, List.take_zero]
      iterate 15
        refine wpReads_op (v := ?_) (by rfl) (fun W hW => ?_) ?_
        rotate_left
        focus
          obtain ⟨d1, d2, d3, d4, d5⟩ := hW
          go_simp
          try (with_reducible rfl)
        try simp only [Act.put, List.setIfInBounds_toArray, List.set_cons_zero, List.set_cons_succ]
      rw [← HX.out]
      generalize hXX : joinAt xs ys t = X at *
      have HXX := Lib.hid hXX
      clear hXX
      refine wpReads_nil ⟨by rfl, .slice (some ⟨w2.heap.size, 0, none⟩) 1 1, w2.drew.alloc (.cells #[.int .i64 X] 3), ?_, ?_, ?_⟩
      · go_simp
      · go_keep
      simp only [Act.put, List.setIfInBounds_toArray, List.set_cons_zero, List.set_cons_succ]
      have hBw : Below w2.heap.size w2 (w2.drew.alloc (.cells #[.int .i64 X] 3)) := ((Below.refl _ w2).drew).alloc (Nat.le_refl _) _
      have hnew := World.news_of_block (cs := #[.int .i64 X]) (t := 3) (fr := (0, 0)) (heap_alloc_new w2.drew (.cells #[.int .i64 X] 3))
      have hown2 := hown.drew.alloc (.cells #[.int .i64 X] 3)
      have hsz : w.heap.size + 1 + 1 + 1 + 1 ≤ (w2.drew.alloc (.cells #[.int .i64 X] 3)).heap.size := by have := HO2.out.lt; simp; omega
      generalize hgW : w2.drew.alloc (.cells #[.int .i64 X] 3) = W at *
      have HB := Lib.hid (And.intro hBw (And.intro hnew (And.intro hown2 hsz)))
      clear hBw hnew hown2 hsz hgW
      go_wp2_with (at_builtin; refine wpList_append_own_at _ rfl _ _ 24 rfl (w.heap.size + 1 + 1 + 1 + 1) 3 i0 (.int .i64 0) 1 8 Try.underlying24 hi0 hz0 hz1 hz2 rfl (by decide) (.slice A t c) t _ rfl HB.out.2.2.1 ⟨w2.heap.size, 0, none⟩ 1 1 [.int .i64 X] rfl (by simp) HB.out.2.1 (by simp [Value.oneCell']) (by unfold maxLen; omega) (by omega) HB.out.2.2.2 ?_; intro v' w9 hown1 hgrow _ _; have hpush := HO2.out.push (nv := v') (x := X) HB.out.1 hgrow (by rw [tab_length]; exact hown1); obtain ⟨c2G, f2G, rc2⟩ := HO2.out.appended HB.out.1 hgrow; obtain ⟨A', c', rfl⟩ := hpush.slice (n := t + 1) (by simp [tab_length]); have HP := Lib.hid hpush; clear hpush hown1 hgrow rc2)
      go_roundg (xs.length - (t + 1))
      case measure => omega
      case rel => exact ⟨t + 1, by omega, by omega, by go_num, _, _, by rw [tab_succ, HXX.out]; exact HP.out⟩
    · have hltz : ¬ (t : Int) < (xs.length : Int) := by omega
      obtain rfl : t = xs.length := by omega
      have HF := Lib.hid (hO'.curve (w := w) hK.below (by omega))
      have p3 := hK'.p3
      have p4 := hK'.p4
      have q4 := hO'.cell
      have q3 := World.cell?_setCell_same' wr ⟨w.heap.size + 1 + 1, 0, none⟩ (.slice A xs.length c) (by rw [p3]; rfl)
      have Q3 := Lib.hid q3
      clear hO' hK' q3
      go_wp2
      have q3 := Q3.out
      exact bodyPost_ret (v := .agg #[.slice A xs.length c]) (by simp [results, Try.results111, go_sem, q3]) rfl HF.out

/-- What is known where two boxed curves and a result's cell lie. -/
structure In2r (w W : World) (A1 A2 : Option Addr) (c1 c2 : Nat) (xs ys : List Int) : Prop where
  p1 : W.cell? ⟨w.heap.size, 0, none⟩ = some (.slice A1 xs.length c1)
  p2 : W.cell? ⟨w.heap.size + 1, 0, none⟩ = some (.slice A2 ys.length c2)
  p3 : W.cell? ⟨w.heap.size + 1 + 1, 0, none⟩ = some (.slice none 0 0)
  p4 : W.frozen? ⟨w.heap.size + 1 + 1, 0, none⟩ = false
  r1 : Rd W W.heap.size A1 xs
  r2 : Rd W W.heap.size A2 ys
  bl : Below w.heap.size w W
  lt : w.heap.size + 1 + 1 < W.heap.size
theorem In2r.ext {w w1 w2 : World} {A1 A2 : Option Addr} {c1 c2 : Nat} {xs ys : List Int} (h : In2r w w1 A1 A2 c1 c2 xs ys) (hb : Below w1.heap.size w1 w2) : In2r w w2 A1 A2 c1 c2 xs ys := by
  have hlt := h.lt
  exact ⟨(hb.cell (p := ⟨w.heap.size, 0, none⟩) (show w.heap.size < _ by omega)).trans h.p1, (hb.cell (p := ⟨w.heap.size + 1, 0, none⟩) (show w.heap.size + 1 < _ by omega)).trans h.p2, (hb.cell (p := ⟨w.heap.size + 1 + 1, 0, none⟩) hlt).trans h.p3,
    (hb.frozen (p := ⟨w.heap.size + 1 + 1, 0, none⟩) hlt).trans h.p4, h.r1.ext hb, h.r2.ext hb, h.bl.trans (hb.mono h.bl.size), Nat.lt_of_lt_of_le hlt hb.size⟩
theorem w2c_known {w : World} {A1 A2 : Option Addr} {c1 c2 : Nat} {xs ys : List Int} (r1 : Rd w w.heap.size A1 xs) (r2 : Rd w w.heap.size A2 ys) : In2r w (w2c w A1 A2 xs.length c1 ys.length c2) A1 A2 c1 c2 xs ys := by
  have hb := w2c_below w A1 A2 xs.length c1 ys.length c2
  exact ⟨by simp [w2c, go_sem], by simp [w2c, go_sem], by simp [w2c, go_sem], by simp [w2c, go_sem], r1.ext hb, r2.ext hb, hb, by simp [w2c]⟩


set_option maxRecDepth 100000 in
set_option maxHeartbeats 1600000 in
theorem leastOf_any (A1 A2 : Option Addr) (c1 c2 : Nat) (xs ys : List Int) (w : World) (r1 : Rd w w.heap.size A1 xs) (r2 : Rd w w.heap.size A2 ys) (hm : xs.length ≤ 1000) (h3 : ys.length = xs.length) (sx : Small xs) (sy : Small ys) :
    Calls Try.prog 102 #[.agg #[.slice A1 xs.length c1], .agg #[.slice A2 ys.length c2]] w fun e w' => RCurve w (leastL xs ys) e w' := by
  have hK := w2c_known (c1 := c1) (c2 := c2) r1 r2
  have hj := fun W => fun (h : In2r w W A1 A2 c1 c2 xs ys) => rjoin_any A1 A2 c1 c2 xs ys W h.r1 h.r2 hm h3 sx sy
  have hl := fun W A c => fun (h : Rd W W.heap.size A1 xs) (h' : Rd W W.heap.size A (joinL xs ys)) => rlower_any A1 A c1 c xs (joinL xs ys) W h h' hm (joinL_length xs ys)
  have HC := Lib.hid (And.intro hj hl)
  have n1 := set_other (g := w.heap.size + 1 + 1) (b := w.heap.size) (o := 0) (by omega)
  have n2 := set_other (g := w.heap.size + 1 + 1) (b := w.heap.size + 1) (o := 0) (by omega)
  clear r1 r2 h3 sx sy hj hl
  go_enter Try.func102, Try.ntmps102
  go_upto_region 1 with fail
  change Code.wp _ _ _ _ (w2c w A1 A2 xs.length c1 ys.length c2)
  generalize w2c w A1 A2 xs.length c1 ys.length c2 = w1 at *
  have HK := Lib.hid hK
  have p1 := hK.p1
  have p2 := hK.p2
  clear hK
  go_region_held3 (fun W => W.cell? ⟨w.heap.size, 0, none⟩ = some (.slice A1 xs.length c1) ∧ W.cell? ⟨w.heap.size + 1, 0, none⟩ = some (.slice A2 ys.length c2)) (go_keep) (first
    | (go_at_call 111; refine (HC.out.1 _ (HK.out.ext ((Below.refl _ w1).drew))).mono ?_; rintro e w2 ⟨A, c, rfl, hrd, hfr, hb⟩; have HK2 := Lib.hid (And.intro (HK.out.ext (((Below.refl _ w1).drew).trans hb)) (And.intro hrd hb)); obtain ⟨s1, s2⟩ := And.intro HK2.out.1.p1 HK2.out.1.p2; clear hrd hfr hb)
    | (go_at_call 110; refine (HC.out.2 _ A c HK2.out.1.r1 HK2.out.2.1).mono ?_; rintro e w3 ⟨A', c', rfl, hrd, hfr, hb⟩; have HK3 := Lib.hid (And.intro (HK2.out.1.ext hb) (And.intro hrd (hfr.mono HK2.out.1.lt))); obtain ⟨t1, t2, t3, t4⟩ := And.intro HK3.out.1.p1 (And.intro HK3.out.1.p2 (And.intro HK3.out.1.p3 HK3.out.1.p4)); clear hrd hfr hb))
  have q3 := World.cell?_setCell_same' w3 ⟨w.heap.size + 1 + 1, 0, none⟩ (.slice A' (lowerL xs (joinL xs ys)).length c') (by rw [t3]; rfl)
  have HF := Lib.hid (And.intro q3 (fin_curve (c := c') (g := w.heap.size + 1 + 1) HK3.out.1.bl (by omega) HK3.out.2.1 HK3.out.2.2 (by omega) (by omega)))
  clear q3
  go_wp2
  have q3 := HF.out.1
  exact bodyPost_ret (v := .agg #[.slice A' (lowerL xs (joinL xs ys)).length c']) (by simp [results, Try.results102, go_sem, q3]) rfl HF.out.2
end Go.Proofs.Ytknkneccnhgjmaa
namespace Go.Proofs.Ytknkneccnhgjmaa
open Go.RowKit Go.Shelf

theorem four_cells {w : World} {g : Nat} {v0 v1 v2 v3 : Value} {ty : TypeId} (h : w.heap[g]? = some (.cells #[v0, v1, v2, v3] ty (0, 0))) :
    w.cell? ⟨g, 0, none⟩ = some v0 ∧ w.cell? ⟨g, 1, none⟩ = some v1 ∧ w.cell? ⟨g, 2, none⟩ = some v2 ∧ w.cell? ⟨g, 3, none⟩ = some v3 ∧ (∀ i, w.frozen? ⟨g, i, none⟩ = false) :=
  ⟨by rw [cell_of_row w g 0 _ _ _ h]; rfl, by rw [cell_of_row w g 1 _ _ _ h]; rfl, by rw [cell_of_row w g 2 _ _ _ h]; rfl, by rw [cell_of_row w g 3 _ _ _ h]; rfl, fun i => frozen_of_row w g i _ _ h⟩
theorem cell_ne {g i j : Nat} (h : i ≠ j) (w : World) (v : Value) : (w.setCell ⟨g, i, none⟩ v).cell? ⟨g, j, none⟩ = w.cell? ⟨g, j, none⟩ := World.cell?_setCell_other w ⟨g, i, none⟩ ⟨g, j, none⟩ v (fun e => h (by injection e))
theorem four_set {w : World} {g : Nat} {v0 v1 v2 v3 : Value} {ty : TypeId} (h : w.heap[g]? = some (.cells #[v0, v1, v2, v3] ty (0, 0))) (a b c d : Value) :
    ((((w.setCell ⟨g, 0, none⟩ a).setCell ⟨g, 1, none⟩ b).setCell ⟨g, 2, none⟩ c).setCell ⟨g, 3, none⟩ d).cell? ⟨g, 0, none⟩ = some a ∧
    ((((w.setCell ⟨g, 0, none⟩ a).setCell ⟨g, 1, none⟩ b).setCell ⟨g, 2, none⟩ c).setCell ⟨g, 3, none⟩ d).cell? ⟨g, 1, none⟩ = some b ∧
    ((((w.setCell ⟨g, 0, none⟩ a).setCell ⟨g, 1, none⟩ b).setCell ⟨g, 2, none⟩ c).setCell ⟨g, 3, none⟩ d).cell? ⟨g, 2, none⟩ = some c ∧
    ((((w.setCell ⟨g, 0, none⟩ a).setCell ⟨g, 1, none⟩ b).setCell ⟨g, 2, none⟩ c).setCell ⟨g, 3, none⟩ d).cell? ⟨g, 3, none⟩ = some d := by
  obtain ⟨h0, h1, h2, h3, _⟩ := four_cells h
  refine ⟨?_, ?_, ?_, ?_⟩
  · rw [cell_ne (by omega), cell_ne (by omega), cell_ne (by omega)]; exact World.cell?_setCell_same' _ _ _ (by rw [h0]; rfl)
  · rw [cell_ne (by omega), cell_ne (by omega)]; exact World.cell?_setCell_same' _ _ _ (by rw [cell_ne (by omega), h1]; rfl)
  · rw [cell_ne (by omega)]; exact World.cell?_setCell_same' _ _ _ (by rw [cell_ne (by omega), cell_ne (by omega), h2]; rfl)
  · exact World.cell?_setCell_same' _ _ _ (by rw [cell_ne (by omega), cell_ne (by omega), cell_ne (by omega), h3]; rfl)

/-- Two boxed curves, and a result of four cells. -/
def w2q (w : World) (A1 A2 : Option Addr) (n1 c1 n2 c2 : Nat) : World := (w2b w A1 A2 n1 c1 n2 c2).alloc (.cells #[.int .i64 0, .int .i64 0, .bool false, .int .i64 0] 77)
structure In2q (w W : World) (A1 A2 : Option Addr) (c1 c2 : Nat) (xs ys : List Int) : Prop where
  p1 : W.cell? ⟨w.heap.size, 0, none⟩ = some (.slice A1 xs.length c1)
  p2 : W.cell? ⟨w.heap.size + 1, 0, none⟩ = some (.slice A2 ys.length c2)
  row : W.heap[w.heap.size + 1 + 1]? = some (.cells #[.int .i64 0, .int .i64 0, .bool false, .int .i64 0] 77 (0, 0))
  r1 : Rd W W.heap.size A1 xs
  r2 : Rd W W.heap.size A2 ys
  bl : Below w.heap.size w W
  lt : w.heap.size + 1 + 1 < W.heap.size
theorem In2q.ext {w w1 w2 : World} {A1 A2 : Option Addr} {c1 c2 : Nat} {xs ys : List Int} (h : In2q w w1 A1 A2 c1 c2 xs ys) (hb : Below w1.heap.size w1 w2) : In2q w w2 A1 A2 c1 c2 xs ys := by
  have hlt := h.lt
  exact ⟨(hb.cell (p := ⟨w.heap.size, 0, none⟩) (show w.heap.size < _ by omega)).trans h.p1, (hb.cell (p := ⟨w.heap.size + 1, 0, none⟩) (show w.heap.size + 1 < _ by omega)).trans h.p2, (hb.block _ hlt).trans h.row,
    h.r1.ext hb, h.r2.ext hb, h.bl.trans (hb.mono h.bl.size), Nat.lt_of_lt_of_le hlt hb.size⟩
theorem w2q_known {w : World} {A1 A2 : Option Addr} {c1 c2 : Nat} {xs ys : List Int} (r1 : Rd w w.heap.size A1 xs) (r2 : Rd w w.heap.size A2 ys) : In2q w (w2q w A1 A2 xs.length c1 ys.length c2) A1 A2 c1 c2 xs ys := by
  have hs2 := w2b_size w A1 A2 xs.length c1 ys.length c2
  have hb : Below w.heap.size w (w2q w A1 A2 xs.length c1 ys.length c2) := (w2b_below w A1 A2 xs.length c1 ys.length c2).alloc (by rw [hs2]; omega) _
  have hq : (w2q w A1 A2 xs.length c1 ys.length c2).heap[w.heap.size + 1 + 1]? = some (.cells #[.int .i64 0, .int .i64 0, .bool false, .int .i64 0] 77 (0, 0)) := by
    have := heap_alloc_new (w2b w A1 A2 xs.length c1 ys.length c2) (.cells #[.int .i64 0, .int .i64 0, .bool false, .int .i64 0] 77)
    rwa [hs2] at this
  exact ⟨by simp [w2q, w2b, go_sem], by simp [w2q, w2b, go_sem], hq, r1.ext hb, r2.ext hb, hb, by simp [w2q, w2b]⟩

set_option maxRecDepth 100000 in
set_option maxHeartbeats 1600000 in
theorem robeys_any (A1 A2 : Option Addr) (c1 c2 : Nat) (xs ys : List Int) (w : World) (r1 : Rd w w.heap.size A1 xs) (r2 : Rd w w.heap.size A2 ys) (h1 : 1 ≤ xs.length) (h2 : xs.length ≤ 1000) (h3 : ys.length = xs.length) (sx : Small xs) (h0 : 0 ≤ nth ys 0) :
    Calls Try.prog 98 #[.agg #[.slice A1 xs.length c1], .agg #[.slice A2 ys.length c2]] w fun e w' => e = .returned (.agg #[.int .i64 (brkLo (brk xs ys)), .int .i64 (brkHi (brk xs ys)), .bool (brk xs ys).isNone, .int .i64 0]) ∧ Below w.heap.size w w' := by
  have hK := w2q_known (c1 := c1) (c2 := c2) r1 r2
  have H3 := Lib.hid h3
  clear r1 r2 h3
  go_enter Try.func98, Try.ntmps98
  go_upto_region 1 with fail
  change Code.wp _ _ _ _ (w2q w A1 A2 xs.length c1 ys.length c2)
  generalize w2q w A1 A2 xs.length c1 ys.length c2 = w1 at *
  go_wp2
  go_loopg [5] xs.length (fun gk i wr => ∃ t : Nat, t ≤ xs.length ∧ xs.length - t ≤ gk ∧ i = .int .i64 t ∧ Aside (Below w1.heap.size w1 wr) ∧ Aside (∀ t', t' < t → ∀ s', s' < t' → brkAt xs ys t' s' = false))
  case atStart => exact ⟨0, Nat.zero_le _, by omega, rfl, Below.refl _ _, fun j hj => absurd hj (Nat.not_lt_zero _)⟩
  case round =>
    obtain ⟨t, ht, hgk, rfl, hb, hA⟩ := hrel
    have hK' := hK.ext hb.out
    have p1 := hK'.p1
    have p2 := hK'.p2
    by_cases hlt : t < xs.length
    · have hltz : (t : Int) < (xs.length : Int) := by omega
      have HK := Lib.hid hK'
      have HA := Lib.hid (And.intro hA.out hb.out)
      clear hK' hb hA
      go_wp2
      go_loopg [6] (t + 1) (fun gm i wq => ∃ s : Nat, s ≤ t + 1 ∧ t + 1 - s ≤ gm ∧ i = .int .i64 s ∧ Aside (Below wr.heap.size wr wq) ∧ Aside (∀ s', s' < s → s' < t → brkAt xs ys t s' = false))
      case atStart => exact ⟨0, Nat.zero_le _, by omega, rfl, Below.refl _ _, fun j hj => absurd hj (Nat.not_lt_zero _)⟩
      case round =>
        obtain ⟨s, hs, hgm, rfl, hb, hC⟩ := hrel
        have hK2 := HK.out.ext hb.out
        by_cases hst : s < t + 1
        · have hsz : (s : Int) ≤ (t : Int) := by omega
          have hszl : (s : Int) < (xs.length : Int) := by omega
          have hd0 : (0 : Int) ≤ (t : Int) - (s : Int) := by omega
          have hd1 : (t : Int) - (s : Int) < (ys.length : Int) := by have := H3.out; omega
          have hd2 : ((t : Int) - (s : Int)).toNat = t - s := by omega
          have p1 := hK2.p1
          have p2 := hK2.p2
          have hlt2 := hK2.lt
          obtain ⟨b1, o1, rfl, lb1, g1⟩ := hK2.r1 (by omega)
          obtain ⟨b2, o2, rfl, lb2, g2⟩ := hK2.r2 (by have := H3.out; omega)
          have k1 := g1 t hlt
          have k2 := g1 s (by omega)
          have k3 := g2 (t - s) (by have := H3.out; omega)
          obtain ⟨n1, n2⟩ := sx t
          obtain ⟨n3, n4⟩ := sx s
          have l1 : w.heap.size < wr.heap.size := by omega
          have l2 : w.heap.size + 1 < wr.heap.size := by omega
          have HK2 := Lib.hid hK2
          have HC := Lib.hid (And.intro hC.out hb.out)
          clear g1 g2 sx hK2 hb hC
          by_cases hcm : nth ys (t - s) < nth xs t - nth xs s
          · have hst2 : s < t := by
              rcases Nat.lt_or_ge s t with h | h
              · exact h
              · obtain rfl : s = t := by omega
                rw [Nat.sub_self] at hcm
                omega
            have hfin : brk xs ys = some (s, t) := brk_some hlt hst2 (by simp [brkAt, hcm]) HA.out.1 (fun j hj => HC.out.1 j hj (by omega))
            have HF := Lib.hid hfin
            clear hfin
            go_wp2
            refine wp_region_ext (by kernel_rfl) (by kernel_rfl) ?_
            intro ι _ X hX hC
            have rX := fun k => (bcell (hX k)).1
            repeat (first | go_big_quiet_skip | (go_big_quiet_want; go_big_quiet_op; first | go_big_quiet_on | (apply Exists.intro; refine ⟨fun _ => ?_, ?_⟩; (focus (fail)); go_big_quiet_on)))
            refine wpQuiet_nil ?_
            intro w1 hb1
            clear rX hX hC
            have hK3 := HK2.out.ext hb1
            obtain ⟨z0, z1, z2, z3, zf⟩ := four_cells hK3.row
            have f0 := zf 0
            have f1 := zf 1
            have f2 := zf 2
            have f3 := zf 3
            have HS := Lib.hid (And.intro (four_set hK3.row (.int .i64 s) (.int .i64 t) (.bool false) (.int .i64 0)) hK3.bl)
            clear hK3 hb1 zf
            go_wp2
            obtain ⟨⟨q0, q1, q2, q3⟩, hbl⟩ := HS.out
            refine bodyPost_ret (v := .agg #[.int .i64 s, .int .i64 t, .bool false, .int .i64 0]) (by simp [results, Try.results98, go_sem, q0, q1, q2, q3]) rfl ⟨by rw [HF.out]; rfl, ?_⟩
            exact (((hbl.setCell (by show w.heap.size ≤ w.heap.size + 1 + 1; omega) _).setCell (by show w.heap.size ≤ w.heap.size + 1 + 1; omega) _).setCell (by show w.heap.size ≤ w.heap.size + 1 + 1; omega) _).setCell (by show w.heap.size ≤ w.heap.size + 1 + 1; omega) _
          · go_wp2
            refine wp_region_ext (by kernel_rfl) (by kernel_rfl) ?_
            intro ι _ X hX hC
            have rX := fun k => (bcell (hX k)).1
            repeat (first | go_big_quiet_skip | (go_big_quiet_want; go_big_quiet_op; first | go_big_quiet_on | (apply Exists.intro; refine ⟨fun _ => ?_, ?_⟩; (focus (fail)); go_big_quiet_on)))
            refine wpQuiet_nil ?_
            intro w1 hb1
            clear rX hX hC
            have HB := Lib.hid (HC.out.2.trans (hb1.mono HC.out.2.size))
            clear hb1
            go_wp2
            go_roundg (t + 1 - (s + 1))
            case measure => omega
            case rel => exact ⟨s + 1, by omega, by omega, by go_num, HB.out, (show Aside _ from fun j hj hj2 => by
              by_cases e : j = s
              · subst e; unfold brkAt; rw [decide_eq_false_iff_not]; omega
              · exact HC.out.1 j (by omega) hj2)⟩
        · have hsz : ¬ (s : Int) ≤ (t : Int) := by omega
          obtain rfl : s = t + 1 := by omega
          go_wp2
          have HC := Lib.hid (And.intro hC.out (HA.out.2.trans (hb.out.mono HA.out.2.size)))
          clear hC hb hK2
          go_roundg (xs.length - (t + 1))
          case measure => omega
          case rel => exact ⟨t + 1, by omega, by omega, by go_num, HC.out.2, (show Aside _ from fun j hj s' hs' => by
            by_cases e : j = t
            · subst e; exact HC.out.1 s' (by omega) hs'
            · exact HA.out.1 j (by omega) s' hs')⟩
    · have hltz : ¬ (t : Int) < (xs.length : Int) := by omega
      obtain rfl : t = xs.length := by omega
      have hfin : brk xs ys = none := brk_none hA.out
      obtain ⟨z0, z1, z2, z3, zf⟩ := four_cells hK'.row
      have f0 := zf 0
      have f1 := zf 1
      have f2 := zf 2
      have f3 := zf 3
      have HS := Lib.hid (And.intro (four_set hK'.row (.int .i64 0) (.int .i64 0) (.bool true) (.int .i64 0)) (And.intro hK'.bl hfin))
      clear hK' hfin zf hA hb
      go_wp2
      obtain ⟨⟨q0, q1, q2, q3⟩, hbl, hfin⟩ := HS.out
      refine bodyPost_ret (v := .agg #[.int .i64 0, .int .i64 0, .bool true, .int .i64 0]) (by simp [results, Try.results98, go_sem, q0, q1, q2, q3]) rfl ⟨by rw [hfin]; rfl, ?_⟩
      exact (((hbl.setCell (by show w.heap.size ≤ w.heap.size + 1 + 1; omega) _).setCell (by show w.heap.size ≤ w.heap.size + 1 + 1; omega) _).setCell (by show w.heap.size ≤ w.heap.size + 1 + 1; omega) _).setCell (by show w.heap.size ≤ w.heap.size + 1 + 1; omega) _
end Go.Proofs.Ytknkneccnhgjmaa
namespace Go.Proofs.Ytknkneccnhgjmaa
open Go.RowKit Go.Shelf

theorem three_cells {w : World} {g : Nat} {v0 v1 v2 : Value} {ty : TypeId} (h : w.heap[g]? = some (.cells #[v0, v1, v2] ty (0, 0))) :
    w.cell? ⟨g, 0, none⟩ = some v0 ∧ w.cell? ⟨g, 1, none⟩ = some v1 ∧ w.cell? ⟨g, 2, none⟩ = some v2 ∧ (∀ i, w.frozen? ⟨g, i, none⟩ = false) :=
  ⟨by rw [cell_of_row w g 0 _ _ _ h]; rfl, by rw [cell_of_row w g 1 _ _ _ h]; rfl, by rw [cell_of_row w g 2 _ _ _ h]; rfl, fun i => frozen_of_row w g i _ _ h⟩
theorem three_set {w : World} {g : Nat} {v0 v1 v2 : Value} {ty : TypeId} (h : w.heap[g]? = some (.cells #[v0, v1, v2] ty (0, 0))) (a b c : Value) :
    (((w.setCell ⟨g, 0, none⟩ a).setCell ⟨g, 1, none⟩ b).setCell ⟨g, 2, none⟩ c).cell? ⟨g, 0, none⟩ = some a ∧
    (((w.setCell ⟨g, 0, none⟩ a).setCell ⟨g, 1, none⟩ b).setCell ⟨g, 2, none⟩ c).cell? ⟨g, 1, none⟩ = some b ∧
    (((w.setCell ⟨g, 0, none⟩ a).setCell ⟨g, 1, none⟩ b).setCell ⟨g, 2, none⟩ c).cell? ⟨g, 2, none⟩ = some c := by
  obtain ⟨h0, h1, h2, _⟩ := three_cells h
  refine ⟨?_, ?_, ?_⟩
  · rw [cell_ne (by omega), cell_ne (by omega)]; exact World.cell?_setCell_same' _ _ _ (by rw [h0]; rfl)
  · rw [cell_ne (by omega)]; exact World.cell?_setCell_same' _ _ _ (by rw [cell_ne (by omega), h1]; rfl)
  · exact World.cell?_setCell_same' _ _ _ (by rw [cell_ne (by omega), cell_ne (by omega), h2]; rfl)

/-- Three boxed curves, and a result of three cells. -/
def w3q (w : World) (A1 A2 A3 : Option Addr) (n1 c1 n2 c2 n3 c3 : Nat) : World := (w3b w A1 A2 A3 n1 c1 n2 c2 n3 c3).alloc (.cells #[.int .i64 0, .bool false, .int .i64 0] 58)
structure In3q (w W : World) (A1 A2 A3 : Option Addr) (c1 c2 c3 : Nat) (xs ys zs : List Int) : Prop where
  p1 : W.cell? ⟨w.heap.size, 0, none⟩ = some (.slice A1 xs.length c1)
  p2 : W.cell? ⟨w.heap.size + 1, 0, none⟩ = some (.slice A2 ys.length c2)
  p3 : W.cell? ⟨w.heap.size + 1 + 1, 0, none⟩ = some (.slice A3 zs.length c3)
  row : W.heap[w.heap.size + 1 + 1 + 1]? = some (.cells #[.int .i64 0, .bool false, .int .i64 0] 58 (0, 0))
  r1 : Rd W W.heap.size A1 xs
  r2 : Rd W W.heap.size A2 ys
  r3 : Rd W W.heap.size A3 zs
  bl : Below w.heap.size w W
  lt : w.heap.size + 1 + 1 + 1 < W.heap.size
theorem In3q.ext {w w1 w2 : World} {A1 A2 A3 : Option Addr} {c1 c2 c3 : Nat} {xs ys zs : List Int} (h : In3q w w1 A1 A2 A3 c1 c2 c3 xs ys zs) (hb : Below w1.heap.size w1 w2) : In3q w w2 A1 A2 A3 c1 c2 c3 xs ys zs := by
  have hlt := h.lt
  exact ⟨(hb.cell (p := ⟨w.heap.size, 0, none⟩) (show w.heap.size < _ by omega)).trans h.p1, (hb.cell (p := ⟨w.heap.size + 1, 0, none⟩) (show w.heap.size + 1 < _ by omega)).trans h.p2, (hb.cell (p := ⟨w.heap.size + 1 + 1, 0, none⟩) (show w.heap.size + 1 + 1 < _ by omega)).trans h.p3, (hb.block _ hlt).trans h.row,
    h.r1.ext hb, h.r2.ext hb, h.r3.ext hb, h.bl.trans (hb.mono h.bl.size), Nat.lt_of_lt_of_le hlt hb.size⟩
theorem w3q_known {w : World} {A1 A2 A3 : Option Addr} {c1 c2 c3 : Nat} {xs ys zs : List Int} (r1 : Rd w w.heap.size A1 xs) (r2 : Rd w w.heap.size A2 ys) (r3 : Rd w w.heap.size A3 zs) : In3q w (w3q w A1 A2 A3 xs.length c1 ys.length c2 zs.length c3) A1 A2 A3 c1 c2 c3 xs ys zs := by
  have hs2 := w3b_size w A1 A2 A3 xs.length c1 ys.length c2 zs.length c3
  have hb : Below w.heap.size w (w3q w A1 A2 A3 xs.length c1 ys.length c2 zs.length c3) := (w3b_below w A1 A2 A3 xs.length c1 ys.length c2 zs.length c3).alloc (by rw [hs2]; omega) _
  have hq : (w3q w A1 A2 A3 xs.length c1 ys.length c2 zs.length c3).heap[w.heap.size + 1 + 1 + 1]? = some (.cells #[.int .i64 0, .bool false, .int .i64 0] 58 (0, 0)) := by
    have := heap_alloc_new (w3b w A1 A2 A3 xs.length c1 ys.length c2 zs.length c3) (.cells #[.int .i64 0, .bool false, .int .i64 0] 58)
    rwa [hs2] at this
  exact ⟨by simp [w3q, w3b, go_sem], by simp [w3q, w3b, go_sem], by simp [w3q, w3b, go_sem], hq, r1.ext hb, r2.ext hb, r3.ext hb, hb, by simp [w3q, w3b]⟩

def servedI (xs ys zs : List Int) : Int := if 0 ≤ failsI xs ys zs then failsI xs ys zs else 0
def servedOk (xs ys zs : List Int) : Bool := decide (failsI xs ys zs < 0)

theorem served_hit {xs ys zs : List Int} {t : Nat} (hlt : t < xs.length) (h : failAt xs ys (leastL xs zs) t = true) (hA : ∀ j, j < t → failAt xs ys (leastL xs zs) j = false) : servedI xs ys zs = t ∧ servedOk xs ys zs = false := by
  have e : failsI xs ys zs = t := firstIdx_hit hlt h hA
  unfold servedI servedOk
  rw [e]
  exact ⟨if_pos (by omega), by rw [decide_eq_false_iff_not]; omega⟩
theorem served_miss {xs ys zs : List Int} (hA : ∀ j, j < xs.length → failAt xs ys (leastL xs zs) j = false) : servedI xs ys zs = 0 ∧ servedOk xs ys zs = true := by
  have e : failsI xs ys zs = -1 := firstIdx_miss hA
  unfold servedI servedOk
  rw [e]
  exact ⟨if_neg (by omega), rfl⟩

set_option maxRecDepth 100000 in
set_option maxHeartbeats 1600000 in
theorem rserved_any (A1 A2 A3 : Option Addr) (c1 c2 c3 : Nat) (xs ys zs : List Int) (w : World) (r1 : Rd w w.heap.size A1 xs) (r2 : Rd w w.heap.size A2 ys) (r3 : Rd w w.heap.size A3 zs) (h2 : xs.length ≤ 1000) (h3 : ys.length = xs.length) (h4 : zs.length = xs.length) (sx : Small xs) (sz : Small zs) :
    Calls Try.prog 99 #[.agg #[.slice A1 xs.length c1], .agg #[.slice A2 ys.length c2], .agg #[.slice A3 zs.length c3]] w fun e w' => e = .returned (.agg #[.int .i64 (servedI xs ys zs), .bool (servedOk xs ys zs), .int .i64 0]) ∧ Below w.heap.size w w' := by
  have hK := w3q_known (c1 := c1) (c2 := c2) (c3 := c3) r1 r2 r3
  have hcall := leastOf_any A1 A3 c1 c3 xs zs (w3q w A1 A2 A3 xs.length c1 ys.length c2 zs.length c3) hK.r1 hK.r3 h2 h4 sx sz
  have HC := Lib.hid hcall
  have H3 := Lib.hid (And.intro h3 h4)
  clear r1 r2 r3 h3 h4 hcall sx sz
  go_enter Try.func99, Try.ntmps99
  go_upto_region 1 with fail
  change Code.wp _ _ _ _ (w3q w A1 A2 A3 xs.length c1 ys.length c2 zs.length c3)
  generalize w3q w A1 A2 A3 xs.length c1 ys.length c2 zs.length c3 = w1 at *
  have p1 := hK.p1
  have p2 := hK.p2
  have p3 := hK.p3
  have HK := Lib.hid hK
  clear hK
  go_upto_region 2 with (go_at_call 102; refine HC.out.mono ?_; rintro e w2 ⟨A, c, rfl, hrd, hfr, hb⟩)
  have hw3 : Below w2.heap.size w2 (w2.alloc (.cells #[.slice A (leastL xs zs).length c] 26)) := (Below.refl _ w2).alloc (Nat.le_refl _) _
  have hK3 := HK.out.ext (hb.trans (hw3.mono hb.size))
  have hL := hrd.ext hw3
  have u1 : (w2.alloc (.cells #[.slice A (leastL xs zs).length c] 26)).cell? ⟨w2.heap.size, 0, none⟩ = some (.slice A (leastL xs zs).length c) := by simp [go_sem]
  have u2 : w2.heap.size < (w2.alloc (.cells #[.slice A (leastL xs zs).length c] 26)).heap.size := by simp
  generalize hg3 : w2.alloc (.cells #[.slice A (leastL xs zs).length c] 26) = w3 at *
  generalize hgg : w2.heap.size = g at *
  clear hg3 hgg hrd hfr hb hw3 p1 p2 p3 HC
  go_wp2
  go_loopg [8] xs.length (fun gk i wr => ∃ t : Nat, t ≤ xs.length ∧ xs.length - t ≤ gk ∧ i = .int .i64 t ∧ Aside (Below w3.heap.size w3 wr) ∧ Aside (∀ j, j < t → failAt xs ys (leastL xs zs) j = false))
  case atStart => exact ⟨0, Nat.zero_le _, by omega, rfl, Below.refl _ _, fun j hj => absurd hj (Nat.not_lt_zero _)⟩
  case round =>
    obtain ⟨t, ht, hgk, rfl, hb, hA⟩ := hrel
    have hK' := hK3.ext hb.out
    have p1 := hK'.p1
    have p2 := hK'.p2
    have p4 := (hb.out.cell (p := ⟨g, 0, none⟩) u2).trans u1
    have l4 := Nat.lt_of_lt_of_le u2 hb.out.size
    by_cases hlt : t < xs.length
    · have hltz : (t : Int) < (xs.length : Int) := by omega
      have hlty : (t : Int) < (ys.length : Int) := by have := H3.out.1; omega
      have hltl : (t : Int) < ((leastL xs zs).length : Int) := by rw [leastL_length]; exact hltz
      have hlt2 := hK'.lt
      obtain ⟨b1, o1, rfl, lb1, g1⟩ := hK'.r1 (by omega)
      obtain ⟨b2, o2, rfl, lb2, g2⟩ := hK'.r2 (by have := H3.out.1; omega)
      obtain ⟨b3, o3, rfl, lb3, g3⟩ := (hL.ext hb.out) (by rw [leastL_length]; omega)
      have k1 := g1 t hlt
      have k2 := g2 t (by have := H3.out.1; omega)
      have k3 := g3 t (by rw [leastL_length]; exact hlt)
      have l1 : w.heap.size < wr.heap.size := by omega
      have l2 : w.heap.size + 1 < wr.heap.size := by omega
      have HK' := Lib.hid hK'
      have HA := Lib.hid (And.intro hA.out hb.out)
      have hf : failAt xs ys (leastL xs zs) t = (decide (nth xs t < nth ys t) || decide (nth ys t < nth (leastL xs zs) t)) := rfl
      clear g1 g2 g3 hK' hb hA hK3 hL u1 u2
      generalize hq : nth (leastL xs zs) t = q at *
      have HQ := Lib.hid hq
      clear hq
      by_cases hc1 : nth xs t < nth ys t
      · have HFb := Lib.hid (show failAt xs ys (leastL xs zs) t = true by rw [hf, decide_eq_true hc1]; rfl)
        clear hf
        go_wp2
        refine wp_region_ext (by kernel_rfl) (by kernel_rfl) ?_
        intro ι _ X hX hC
        have rX := fun k => (bcell (hX k)).1
        repeat (first | go_big_quiet_skip | (go_big_quiet_want; go_big_quiet_op; first | go_big_quiet_on | (apply Exists.intro; refine ⟨fun _ => ?_, ?_⟩; (focus (fail)); go_big_quiet_on)))
        refine wpQuiet_nil ?_
        intro w1 hb1
        clear rX hX hC
        have hK3 := HK'.out.ext hb1
        obtain ⟨z0, z1, z2, zf⟩ := three_cells hK3.row
        have f0 := zf 0
        have f1 := zf 1
        have f2 := zf 2
        have HS := Lib.hid (And.intro (three_set hK3.row (.int .i64 t) (.bool false) (.int .i64 0)) (And.intro hK3.bl (served_hit hlt HFb.out HA.out.1)))
        clear hK3 hb1 zf
        go_wp2
        obtain ⟨⟨q0, q1, q2⟩, hbl, e1, e2⟩ := HS.out
        refine bodyPost_ret (v := .agg #[.int .i64 t, .bool false, .int .i64 0]) (by simp [results, Try.results99, go_sem, q0, q1, q2]) rfl ⟨by rw [e1, e2], ?_⟩
        exact ((hbl.setCell (by show w.heap.size ≤ w.heap.size + 1 + 1 + 1; omega) _).setCell (by show w.heap.size ≤ w.heap.size + 1 + 1 + 1; omega) _).setCell (by show w.heap.size ≤ w.heap.size + 1 + 1 + 1; omega) _
      · by_cases hc2 : nth ys t < q
        · have HFb := Lib.hid (show failAt xs ys (leastL xs zs) t = true by rw [hf, decide_eq_true hc2, Bool.or_true])
          clear hf
          go_wp2
          refine wp_region_ext (by kernel_rfl) (by kernel_rfl) ?_
          intro ι _ X hX hC
          have rX := fun k => (bcell (hX k)).1
          have hd1 : ¬ nth xs t < nth ys t := by omega
          repeat (first | go_big_quiet_skip | (go_big_quiet_want; go_big_quiet_op; first | go_big_quiet_on | (apply Exists.intro; refine ⟨fun _ => ?_, ?_⟩; (focus (fail)); go_big_quiet_on)))
          refine wpQuiet_nil ?_
          intro w1 hb1
          clear rX hX hC
          have hK3 := HK'.out.ext hb1
          obtain ⟨z0, z1, z2, zf⟩ := three_cells hK3.row
          have f0 := zf 0
          have f1 := zf 1
          have f2 := zf 2
          have HS := Lib.hid (And.intro (three_set hK3.row (.int .i64 t) (.bool false) (.int .i64 0)) (And.intro hK3.bl (served_hit hlt HFb.out HA.out.1)))
          clear hK3 hb1 zf
          go_wp2
          obtain ⟨⟨q0, q1, q2⟩, hbl, e1, e2⟩ := HS.out
          refine bodyPost_ret (v := .agg #[.int .i64 t, .bool false, .int .i64 0]) (by simp [results, Try.results99, go_sem, q0, q1, q2]) rfl ⟨by rw [e1, e2], ?_⟩
          exact ((hbl.setCell (by show w.heap.size ≤ w.heap.size + 1 + 1 + 1; omega) _).setCell (by show w.heap.size ≤ w.heap.size + 1 + 1 + 1; omega) _).setCell (by show w.heap.size ≤ w.heap.size + 1 + 1 + 1; omega) _
        · have HFb := Lib.hid (show failAt xs ys (leastL xs zs) t = false by rw [hf, decide_eq_false hc1, decide_eq_false hc2]; rfl)
          clear hf
          go_wp2
          refine wp_region_ext (by kernel_rfl) (by kernel_rfl) ?_
          intro ι _ X hX hC
          have rX := fun k => (bcell (hX k)).1
          have hd1 : ¬ nth xs t < nth ys t := by omega
          repeat (first | go_big_quiet_skip | (go_big_quiet_want; go_big_quiet_op; first | go_big_quiet_on | (apply Exists.intro; refine ⟨fun _ => ?_, ?_⟩; (focus (fail)); go_big_quiet_on)))
          refine wpQuiet_nil ?_
          intro w1 hb1
          clear rX hX hC
          have HB := Lib.hid (HA.out.2.trans (hb1.mono HA.out.2.size))
          clear hb1
          go_wp2
          go_roundg (xs.length - (t + 1))
          case measure => omega
          case rel => exact ⟨t + 1, by omega, by omega, by go_num, HB.out, (show Aside _ from fun j hj => by
            by_cases e : j = t
            · subst e; exact HFb.out
            · exact HA.out.1 j (by omega))⟩
    · have hltz : ¬ (t : Int) < (xs.length : Int) := by omega
      obtain rfl : t = xs.length := by omega
      obtain ⟨z0, z1, z2, zf⟩ := three_cells hK'.row
      have f0 := zf 0
      have f1 := zf 1
      have f2 := zf 2
      have HS := Lib.hid (And.intro (three_set hK'.row (.int .i64 0) (.bool true) (.int .i64 0)) (And.intro hK'.bl (served_miss hA.out)))
      clear hK' hb hA zf
      go_wp2
      obtain ⟨⟨q0, q1, q2⟩, hbl, e1, e2⟩ := HS.out
      refine bodyPost_ret (v := .agg #[.int .i64 0, .bool true, .int .i64 0]) (by simp [results, Try.results99, go_sem, q0, q1, q2]) rfl ⟨by rw [e1, e2], ?_⟩
      exact ((hbl.setCell (by show w.heap.size ≤ w.heap.size + 1 + 1 + 1; omega) _).setCell (by show w.heap.size ≤ w.heap.size + 1 + 1 + 1; omega) _).setCell (by show w.heap.size ≤ w.heap.size + 1 + 1 + 1; omega) _
end Go.Proofs.Ytknkneccnhgjmaa
namespace Go.Proofs.Ytknkneccnhgjmaa
open Go.RowKit Go.Shelf

/-- Two boxed curves and a boxed surge. -/
def w2h (w : World) (A1 A2 A3 A4 : Option Addr) (n1 c1 n2 c2 n3 c3 n4 c4 : Nat) (p : Int) : World := (w2b w A1 A2 n1 c1 n2 c2).alloc (.cells #[.slice A3 n3 c3, .slice A4 n4 c4, .int .i64 p] 45)
structure InH (w W : World) (A1 A2 A3 A4 : Option Addr) (c1 c2 c3 c4 : Nat) (xs ys zs us : List Int) (p : Int) : Prop where
  p1 : W.cell? ⟨w.heap.size, 0, none⟩ = some (.slice A1 xs.length c1)
  p2 : W.cell? ⟨w.heap.size + 1, 0, none⟩ = some (.slice A2 ys.length c2)
  s0 : W.cell? ⟨w.heap.size + 1 + 1, 0, none⟩ = some (.slice A3 zs.length c3)
  s1 : W.cell? ⟨w.heap.size + 1 + 1, 1, none⟩ = some (.slice A4 us.length c4)
  s2 : W.cell? ⟨w.heap.size + 1 + 1, 2, none⟩ = some (.int .i64 p)
  r1 : Rd W W.heap.size A1 xs
  r2 : Rd W W.heap.size A2 ys
  r3 : Rd W W.heap.size A3 zs
  r4 : Rd W W.heap.size A4 us
  bl : Below w.heap.size w W
  lt : w.heap.size + 1 + 1 < W.heap.size
theorem InH.ext {w w1 w2 : World} {A1 A2 A3 A4 : Option Addr} {c1 c2 c3 c4 : Nat} {xs ys zs us : List Int} {p : Int} (h : InH w w1 A1 A2 A3 A4 c1 c2 c3 c4 xs ys zs us p) (hb : Below w1.heap.size w1 w2) : InH w w2 A1 A2 A3 A4 c1 c2 c3 c4 xs ys zs us p := by
  have hlt := h.lt
  exact ⟨(hb.cell (p := ⟨w.heap.size, 0, none⟩) (show w.heap.size < _ by omega)).trans h.p1, (hb.cell (p := ⟨w.heap.size + 1, 0, none⟩) (show w.heap.size + 1 < _ by omega)).trans h.p2,
    (hb.cell (p := ⟨w.heap.size + 1 + 1, 0, none⟩) hlt).trans h.s0, (hb.cell (p := ⟨w.heap.size + 1 + 1, 1, none⟩) hlt).trans h.s1, (hb.cell (p := ⟨w.heap.size + 1 + 1, 2, none⟩) hlt).trans h.s2,
    h.r1.ext hb, h.r2.ext hb, h.r3.ext hb, h.r4.ext hb, h.bl.trans (hb.mono h.bl.size), Nat.lt_of_lt_of_le hlt hb.size⟩
theorem w2h_known {w : World} {A1 A2 A3 A4 : Option Addr} {c1 c2 c3 c4 : Nat} {xs ys zs us : List Int} {p : Int} (r1 : Rd w w.heap.size A1 xs) (r2 : Rd w w.heap.size A2 ys) (r3 : Rd w w.heap.size A3 zs) (r4 : Rd w w.heap.size A4 us) :
    InH w (w2h w A1 A2 A3 A4 xs.length c1 ys.length c2 zs.length c3 us.length c4 p) A1 A2 A3 A4 c1 c2 c3 c4 xs ys zs us p := by
  have hs2 := w2b_size w A1 A2 xs.length c1 ys.length c2
  have hb : Below w.heap.size w (w2h w A1 A2 A3 A4 xs.length c1 ys.length c2 zs.length c3 us.length c4 p) := (w2b_below w A1 A2 xs.length c1 ys.length c2).alloc (by rw [hs2]; omega) _
  have hq : (w2h w A1 A2 A3 A4 xs.length c1 ys.length c2 zs.length c3 us.length c4 p).heap[w.heap.size + 1 + 1]? = some (.cells #[.slice A3 zs.length c3, .slice A4 us.length c4, .int .i64 p] 45 (0, 0)) := by
    have := heap_alloc_new (w2b w A1 A2 xs.length c1 ys.length c2) (.cells #[.slice A3 zs.length c3, .slice A4 us.length c4, .int .i64 p] 45)
    rwa [hs2] at this
  obtain ⟨z0, z1, z2, _⟩ := three_cells hq
  exact ⟨by simp [w2h, w2b, go_sem], by simp [w2h, w2b, go_sem], z0, z1, z2, r1.ext hb, r2.ext hb, r3.ext hb, r4.ext hb, hb, by simp [w2h, w2b]⟩

def cbB (xs ys : List Int) (n : Int) (zs us : List Int) (p : Int) : Bool := ok3' xs zs us && withinB p 0 ((xs.length : Int) - 1) && (brk zs xs).isNone && servedOk zs us ys && decide (nth zs 0 = 0) && decide (nth zs p.toNat - nth us p.toNat = n)
def cbE (xs ys : List Int) (n : Int) (zs us : List Int) (p : Int) : Int := if ok2 xs ys then (if cbB xs ys n zs us p then 0 else 8) else 1
theorem cb_not {xs ys : List Int} {n : Int} {zs us : List Int} {p : Int} (h : ok2 xs ys = true) (h2 : cbB xs ys n zs us p = false) : cbE xs ys n zs us p = 8 := by simp [cbE, h, h2]

set_option maxRecDepth 100000 in
set_option maxHeartbeats 3200000 in
theorem rcheckB_any (A1 A2 A3 A4 : Option Addr) (c1 c2 c3 c4 : Nat) (xs ys zs us : List Int) (n p : Int) (w : World) (r1 : Rd w w.heap.size A1 xs) (r2 : Rd w w.heap.size A2 ys) (r3 : Rd w w.heap.size A3 zs) (r4 : Rd w w.heap.size A4 us)
    (m1 : xs.length ≤ maxLen) (m2 : ys.length ≤ maxLen) (m3 : zs.length ≤ maxLen) (m4 : us.length ≤ maxLen) :
    Calls Try.prog 34 #[.agg #[.slice A1 xs.length c1], .agg #[.slice A2 ys.length c2], .int .i64 n, .agg #[.slice A3 zs.length c3, .slice A4 us.length c4, .int .i64 p]] w fun e w' => e = .returned (.int .i64 (cbE xs ys n zs us p)) ∧ Below w.heap.size w w' := by
  have hK := w2h_known (c1 := c1) (c2 := c2) (c3 := c3) (c4 := c4) (p := p) r1 r2 r3 r4
  have hB := fun W (h : InH w W A1 A2 A3 A4 c1 c2 c3 c4 xs ys zs us p) => Both_any A1 A2 c1 c2 xs ys W h.r1 h.r2 m1 m2
  have hT := fun W (h : InH w W A1 A2 A3 A4 c1 c2 c3 c4 xs ys zs us p) => three_any A1 A3 A4 c1 c3 c4 xs zs us W h.r1 h.r3 h.r4 m1 m3 m4
  have HC := Lib.hid (And.intro hK (And.intro hB hT))
  clear r1 r2 r3 r4 hK hB hT
  cases hv : ok2 xs ys with
  | false =>
    have hE : cbE xs ys n zs us p = 1 := by simp [cbE, hv]
    have HE := Lib.hid (And.intro hE hv)
    clear hE hv
    go_enter Try.func34, Try.ntmps34
    go_upto_region 2 with (go_at_call 93; refine (HC.out.2.1 _ HC.out.1).mono ?_; rw [HE.out.2, errB_f]; rintro e w1 ⟨rfl, hb⟩; have HI := Lib.hid (HC.out.1.ext hb); clear hb)
    go_wp2
    go_ret
    exact ⟨by rw [HE.out.1]; rfl, HI.out.bl⟩
  | true =>
  have ⟨v1, v2, hl2⟩ := ok2_iff.1 hv
  cases hv3 : ok3' xs zs us with
  | false =>
    have hE : cbE xs ys n zs us p = 8 := cb_not hv (by simp [cbB, hv3])
    have HE := Lib.hid (And.intro hE (And.intro hv hv3))
    clear hE hv hv3 v1 v2 hl2
    go_enter Try.func34, Try.ntmps34
    go_upto_region 2 with (go_at_call 93; refine (HC.out.2.1 _ HC.out.1).mono ?_; rw [HE.out.2.1, errB_t]; rintro e w1 ⟨rfl, hb⟩; have HI := Lib.hid (HC.out.1.ext hb); obtain ⟨p1, s0, s1⟩ := And.intro HI.out.p1 (And.intro HI.out.s0 HI.out.s1); clear hb)
    go_wp2_with (go_at_call 97; refine (HC.out.2.2 w1 HI.out).mono ?_; rw [HE.out.2.2, errB_f]; rintro e w2 ⟨rfl, hb⟩; have HI2 := Lib.hid (HI.out.ext hb); clear hb)
    go_ret
    exact ⟨by rw [HE.out.1]; rfl, HI2.out.bl⟩
  | true =>
  cases hw : withinB p 0 ((xs.length : Int) - 1) with
  | false =>
    have hE : cbE xs ys n zs us p = 8 := cb_not hv (by simp [cbB, hw])
    have hl1 := v1.1
    have HE := Lib.hid (And.intro hE (And.intro hv hv3))
    clear hE hv hv3 v1 v2 hl2
    have m1' := m1
    unfold maxLen at m1'
    go_enter Try.func34, Try.ntmps34
    go_upto_region 2 with (go_at_call 93; refine (HC.out.2.1 _ HC.out.1).mono ?_; rw [HE.out.2.1, errB_t]; rintro e w1 ⟨rfl, hb⟩; have HI := Lib.hid (HC.out.1.ext hb); obtain ⟨p1, s0, s1⟩ := And.intro HI.out.p1 (And.intro HI.out.s0 HI.out.s1); clear hb)
    go_wp2_with (first
      | (go_at_call 97; refine (HC.out.2.2 w1 HI.out).mono ?_; rw [HE.out.2.2, errB_t]; rintro e w2 ⟨rfl, hb⟩; have HI2 := Lib.hid (HI.out.ext hb); obtain ⟨t1, t2⟩ := And.intro HI2.out.p1 HI2.out.s2; clear hb)
      | (go_at_call 77; refine (in_any _ _ _ _).mono ?_; rw [hw]; rintro e w' ⟨rfl, rfl⟩))
    go_ret
    exact ⟨by rw [HE.out.1]; rfl, HI2.out.bl⟩
  | true =>
  have hok3 : ok2 xs zs = true ∧ ok2 xs us = true := by unfold ok3' at hv3; simpa using hv3
  have ⟨_, v3, hl3⟩ := ok2_iff.1 hok3.1
  have ⟨_, v4, hl4⟩ := ok2_iff.1 hok3.2
  have hp : 0 ≤ p ∧ p ≤ (xs.length : Int) - 1 := by unfold withinB at hw; rwa [decide_eq_true_eq] at hw
  obtain ⟨m, rfl⟩ : ∃ m : Nat, p = (m : Int) := ⟨p.toNat, by omega⟩
  have hm : m < xs.length := by omega
  have hob := fun W (h : InH w W A1 A2 A3 A4 c1 c2 c3 c4 xs ys zs us m) => robeys_any A3 A1 c3 c1 zs xs W h.r3 h.r1 v3.1 (by have := v3.2.1; omega) (by omega) v3.small (v1.bd 0).1
  have hse := fun W (h : InH w W A1 A2 A3 A4 c1 c2 c3 c4 xs ys zs us m) => rserved_any A3 A4 A2 c3 c4 c2 zs us ys W h.r3 h.r4 h.r2 (by have := v3.2.1; omega) (by omega) (by omega) v3.small v2.small
  have hcb : cbB xs ys n zs us m = ((brk zs xs).isNone && servedOk zs us ys && decide (nth zs 0 = 0) && decide (nth zs m - nth us m = n)) := by simp [cbB, hv3, hw]
  have hcE : cbE xs ys n zs us m = if cbB xs ys n zs us m then 0 else 8 := by simp [cbE, hv]
  rw [hcb] at hcE
  generalize (brk zs xs).isNone = bo at *
  generalize servedOk zs us ys = bs at *
  have hl1 := v1.1
  have m1' := m1
  unfold maxLen at m1'
  have HE := Lib.hid (And.intro hcE (And.intro hv (And.intro hv3 (And.intro hob (And.intro hse (And.intro (And.intro v3 v4) (And.intro hl3 hl4)))))))
  clear hcE hv hv3 v1 v2 v3 v4 hl2 hl3 hl4 hob hse hok3 hcb
  go_enter Try.func34, Try.ntmps34
  go_upto_region 2 with (go_at_call 93; refine (HC.out.2.1 _ HC.out.1).mono ?_; rw [HE.out.2.1, errB_t]; rintro e w1 ⟨rfl, hb⟩; have HI := Lib.hid (HC.out.1.ext hb); obtain ⟨p1, s0, s1⟩ := And.intro HI.out.p1 (And.intro HI.out.s0 HI.out.s1); clear hb)
  go_upto_region 6 with (first
    | (go_at_call 97; refine (HC.out.2.2 w1 HI.out).mono ?_; rw [HE.out.2.2.1, errB_t]; rintro e w2 ⟨rfl, hb⟩; have HI2 := Lib.hid (HI.out.ext hb); obtain ⟨t1, t2, t3⟩ := And.intro HI2.out.p1 (And.intro HI2.out.s2 HI2.out.s0); clear hb)
    | (go_at_call 77; refine (in_any _ _ _ _).mono ?_; rw [hw]; rintro e w' ⟨rfl, rfl⟩))
  clear p1 s0 s1
  go_upto_region 7 with (go_at_call 98; refine (HE.out.2.2.2.1 w2 HI2.out).mono ?_; rintro e w3 ⟨rfl, hb3⟩)
  generalize brkLo (brk zs xs) = lo at *
  generalize brkHi (brk zs xs) = hi at *
  have hw4 : Below w3.heap.size w3 (w3.alloc (.cells #[.int .i64 lo, .int .i64 hi, .bool bo, .int .i64 0] 77)) := (Below.refl _ w3).alloc (Nat.le_refl _) _
  have hI4 := HI2.out.ext (hb3.trans (hw4.mono hb3.size))
  have u1 : (w3.alloc (.cells #[.int .i64 lo, .int .i64 hi, .bool bo, .int .i64 0] 77)).cell? ⟨w3.heap.size, 2, none⟩ = some (.bool bo) := by simp [go_sem]
  have u2 : w3.heap.size < (w3.alloc (.cells #[.int .i64 lo, .int .i64 hi, .bool bo, .int .i64 0] 77)).heap.size := by simp
  generalize hg4 : w3.alloc (.cells #[.int .i64 lo, .int .i64 hi, .bool bo, .int .i64 0] 77) = w4 at *
  generalize hgg : w3.heap.size = g1 at *
  have HI4 := Lib.hid (And.intro hI4 (And.intro u1 u2))
  obtain ⟨a1, a2, a3⟩ := And.intro hI4.s0 (And.intro hI4.s1 hI4.p2)
  clear hg4 hgg hw4 hI4 u1 u2 hb3 t1 t2 t3 w2 HI2
  go_upto_region 8 with (go_at_call 99; refine (HE.out.2.2.2.2.1 w4 HI4.out.1).mono ?_; rintro e w5 ⟨rfl, hb5⟩)
  generalize servedI zs us ys = N at *
  have hw6 : Below w5.heap.size w5 (w5.alloc (.cells #[.int .i64 N, .bool bs, .int .i64 0] 58)) := (Below.refl _ w5).alloc (Nat.le_refl _) _
  have hB6 := hb5.trans (hw6.mono hb5.size)
  have hI6 := HI4.out.1.ext hB6
  have u1 := (hB6.cell (p := ⟨g1, 2, none⟩) HI4.out.2.2).trans HI4.out.2.1
  have u2 := Nat.lt_of_lt_of_le HI4.out.2.2 hB6.size
  have u3 : (w5.alloc (.cells #[.int .i64 N, .bool bs, .int .i64 0] 58)).cell? ⟨w5.heap.size, 1, none⟩ = some (.bool bs) := by simp [go_sem]
  have u4 : w5.heap.size < (w5.alloc (.cells #[.int .i64 N, .bool bs, .int .i64 0] 58)).heap.size := by simp
  generalize hg6 : w5.alloc (.cells #[.int .i64 N, .bool bs, .int .i64 0] 58) = w6 at *
  generalize hgg : w5.heap.size = g2 at *
  have hlz := HE.out.2.2.2.2.2.2.1
  have hlu := HE.out.2.2.2.2.2.2.2
  obtain ⟨b3, o3, rfl, lb3, hc3⟩ := hI6.r3 (by omega)
  obtain ⟨b4, o4, rfl, lb4, hc4⟩ := hI6.r4 (by omega)
  have k0 := hc3 0 (by omega)
  rw [Nat.add_zero] at k0
  have k1 := hc3 m (by omega)
  have k2 := hc4 m (by omega)
  have s0 := hI6.s0
  have s1 := hI6.s1
  have s2 := hI6.s2
  have l6 := hI6.lt
  have hbl := hI6.bl
  have hmz : (m : Int) < (zs.length : Int) := by omega
  have hmu : (m : Int) < (us.length : Int) := by omega
  have h0z : (0 : Int) < (zs.length : Int) := by omega
  obtain ⟨n1, n2⟩ := HE.out.2.2.2.2.2.1.1.bd m
  obtain ⟨n3, n4⟩ := HE.out.2.2.2.2.2.1.2.bd m
  have hEE := HE.out.1
  have HBL := Lib.hid hbl
  clear hg6 hgg hw6 hB6 hb5 hI6 hc3 hc4 hlz hlu HI4 a1 a2 a3 HE HC hbl m1 m2 m3 m4 m1'
  generalize nth zs 0 = q0 at *
  generalize nth zs m = q1 at *
  generalize nth us m = q2 at *
  cases bo with
  | false =>
    have HEE := Lib.hid (show cbE xs ys n zs us m = 8 by rw [hEE]; rfl)
    clear hEE
    refine wp_region_ext (by kernel_rfl) (by kernel_rfl) ?_
    intro ι _ X hX hC
    have rX := fun k => (bcell (hX k)).1
    repeat (first | go_big_quiet_skip | (go_big_quiet_want; go_big_quiet_op; first | go_big_quiet_on | (apply Exists.intro; refine ⟨fun _ => ?_, ?_⟩; (focus (fail)); go_big_quiet_on)))
    refine wpQuiet_nil ?_
    intro w1 hb1
    clear rX hX hC
    have HB := Lib.hid (HBL.out.trans (hb1.mono HBL.out.size))
    clear hb1
    go_wp2
    go_ret
    exact ⟨by rw [HEE.out]; rfl, HB.out⟩
  | true =>
  cases bs with
  | false =>
    have HEE := Lib.hid (show cbE xs ys n zs us m = 8 by rw [hEE]; rfl)
    clear hEE
    refine wp_region_ext (by kernel_rfl) (by kernel_rfl) ?_
    intro ι _ X hX hC
    have rX := fun k => (bcell (hX k)).1
    repeat (first | go_big_quiet_skip | (go_big_quiet_want; go_big_quiet_op; first | go_big_quiet_on | (apply Exists.intro; refine ⟨fun _ => ?_, ?_⟩; (focus (fail)); go_big_quiet_on)))
    refine wpQuiet_nil ?_
    intro w1 hb1
    clear rX hX hC
    have HB := Lib.hid (HBL.out.trans (hb1.mono HBL.out.size))
    clear hb1
    go_wp2
    go_ret
    exact ⟨by rw [HEE.out]; rfl, HB.out⟩
  | true =>
  by_cases hq0 : q0 = 0
  · subst hq0
    by_cases hd : q1 - q2 = n
    · have HEE := Lib.hid (show cbE xs ys n zs us m = 0 by rw [hEE, decide_eq_true hd]; rfl)
      clear hEE
      refine wp_region_ext (by kernel_rfl) (by kernel_rfl) ?_
      intro ι _ X hX hC
      have rX := fun k => (bcell (hX k)).1
      repeat (first | go_big_quiet_skip | (go_big_quiet_want; go_big_quiet_op; first | go_big_quiet_on | (apply Exists.intro; refine ⟨fun _ => ?_, ?_⟩; (focus (fail)); go_big_quiet_on)))
      refine wpQuiet_nil ?_
      intro w1 hb1
      clear rX hX hC
      have HB := Lib.hid (HBL.out.trans (hb1.mono HBL.out.size))
      clear hb1
      go_wp2
      go_ret
      exact ⟨by rw [HEE.out]; rfl, HB.out⟩
    · have HEE := Lib.hid (show cbE xs ys n zs us m = 8 by rw [hEE, decide_eq_false hd]; rfl)
      clear hEE
      refine wp_region_ext (by kernel_rfl) (by kernel_rfl) ?_
      intro ι _ X hX hC
      have rX := fun k => (bcell (hX k)).1
      repeat (first | go_big_quiet_skip | (go_big_quiet_want; go_big_quiet_op; first | go_big_quiet_on | (apply Exists.intro; refine ⟨fun _ => ?_, ?_⟩; (focus (fail)); go_big_quiet_on)))
      refine wpQuiet_nil ?_
      intro w1 hb1
      clear rX hX hC
      have HB := Lib.hid (HBL.out.trans (hb1.mono HBL.out.size))
      clear hb1
      go_wp2
      go_ret
      exact ⟨by rw [HEE.out]; rfl, HB.out⟩
  · have HEE := Lib.hid (show cbE xs ys n zs us m = 8 by rw [hEE, decide_eq_false hq0]; rfl)
    clear hEE
    refine wp_region_ext (by kernel_rfl) (by kernel_rfl) ?_
    intro ι _ X hX hC
    have rX := fun k => (bcell (hX k)).1
    have hq1 : (q0 != 0) = true := by simpa using hq0
    repeat (first | go_big_quiet_skip | (go_big_quiet_want; go_big_quiet_op; first | go_big_quiet_on | (apply Exists.intro; refine ⟨fun _ => ?_, ?_⟩; (focus (fail)); go_big_quiet_on)))
    refine wpQuiet_nil ?_
    intro w1 hb1
    clear rX hX hC
    have HB := Lib.hid (HBL.out.trans (hb1.mono HBL.out.size))
    clear hb1
    go_wp2
    go_ret
    exact ⟨by rw [HEE.out]; rfl, HB.out⟩
end Go.Proofs.Ytknkneccnhgjmaa
namespace Go.Proofs.Ytknkneccnhgjmaa
open Go.RowKit Go.Shelf

def REnds (w : World) (xs ys : List Int) (E : Int) (e : Ending) (w' : World) : Prop :=
  ∃ A c A' c', e = .returned (.agg #[.slice A xs.length c, .slice A' ys.length c', .int .i64 E]) ∧ Rd w' w'.heap.size A xs ∧ Rd w' w'.heap.size A' ys ∧ Below w.heap.size w w'

/-- A variable of the call's own: two curves and an error; both curves are appended to. -/
structure Outs2 (w1 wr : World) (G : Nat) (o0 o1 : Value) (xs ys : List Int) : Prop where
  bl : Below G w1 wr
  own0 : Own wr (G + 1) o0 xs
  own1 : Own wr (G + 1) o1 ys
  ne : ∀ k, o0.ownBlock = some k → o1.ownBlock ≠ some k
  c0 : wr.cell? ⟨G, 0, none⟩ = some o0
  c1 : wr.cell? ⟨G, 1, none⟩ = some o1
  c2 : wr.cell? ⟨G, 2, none⟩ = some (.int .i64 0)
  fr : ∀ i, wr.frozen? ⟨G, i, none⟩ = false
  lt : G < wr.heap.size

theorem own_lt {w : World} {base k : Nat} {v : Value} {xs : List Int} (h : Own w base v xs) (e : v.ownBlock = some k) : k < w.heap.size := by
  rcases h.2 with ⟨rfl, _⟩ | ⟨g, cap, cur, rfl, _, hg, _⟩
  · simp [Value.ownBlock] at e
  · simp only [Value.ownBlock, Option.some.injEq] at e
    subst e
    exact (Array.getElem?_eq_some_iff.1 hg).1
theorem own_keep {w w2 : World} {base : Nat} {v : Value} {xs : List Int} (h : Own w base v xs) (hk : ∀ k, v.ownBlock = some k → w2.heap[k]? = w.heap[k]?) : Own w2 base v xs := by
  have h' := h
  rcases h.2 with ⟨e, hn⟩ | ⟨g, cap, cur, e, hbg, hg, hrest⟩
  · exact ⟨h.1, .inl ⟨e, hn⟩⟩
  · exact ⟨h.1, .inr ⟨g, cap, cur, e, hbg, (hk g (by rw [e]; rfl)).trans hg, hrest⟩⟩

theorem Outs2.later {w1 wr w2 : World} {G : Nat} {o0 o1 : Value} {xs ys : List Int} (h : Outs2 w1 wr G o0 o1 xs ys) (hb : Below wr.heap.size wr w2) : Outs2 w1 w2 G o0 o1 xs ys :=
  ⟨h.bl.trans (hb.mono (Nat.le_of_lt h.lt)), own_keep h.own0 (fun k e => hb.block k (own_lt h.own0 e)), own_keep h.own1 (fun k e => hb.block k (own_lt h.own1 e)), h.ne,
    (hb.cell (p := ⟨G, 0, none⟩) h.lt).trans h.c0, (hb.cell (p := ⟨G, 1, none⟩) h.lt).trans h.c1, (hb.cell (p := ⟨G, 2, none⟩) h.lt).trans h.c2, fun i => (hb.frozen (p := ⟨G, i, none⟩) h.lt).trans (h.fr i), Nat.lt_of_lt_of_le h.lt hb.size⟩

theorem Outs2.app0 {w1 W w2 : World} {G : Nat} {o0 o1 : Value} {xs ys : List Int} (h : Outs2 w1 W G o0 o1 xs ys) (hg : W.grownBy w2 o0.ownBlock) :
    w2.cell? ⟨G, 0, none⟩ = some o0 ∧ w2.cell? ⟨G, 1, none⟩ = some o1 ∧ w2.cell? ⟨G, 2, none⟩ = some (.int .i64 0) ∧ (∀ i, w2.frozen? ⟨G, i, none⟩ = false) ∧ Below G W w2 ∧ Own w2 (G + 1) o1 ys ∧ W.heap.size ≤ w2.heap.size := by
  have hne : ∀ k, o0.ownBlock = some k → G < k := fun k e => own_block h.own0 e
  have hn : some G ≠ o0.ownBlock := fun e => by have := hne G e.symm; omega
  exact ⟨(hg.cell_far ⟨G, 0, none⟩ h.lt hn).trans h.c0, (hg.cell_far ⟨G, 1, none⟩ h.lt hn).trans h.c1, (hg.cell_far ⟨G, 2, none⟩ h.lt hn).trans h.c2, fun i => (hg.frozen_far ⟨G, i, none⟩ h.lt hn).trans (h.fr i),
    (Below.refl _ W).grown hg (Nat.le_of_lt h.lt) (fun k e => Nat.le_of_lt (hne k e)), own_keep h.own1 (fun k e => hg.block k (own_lt h.own1 e) (fun e' => h.ne k e'.symm e)), hg.size⟩
theorem Outs2.app1 {w1 W w2 : World} {G : Nat} {o0 o1 : Value} {xs ys : List Int} (h : Outs2 w1 W G o0 o1 xs ys) (hg : W.grownBy w2 o1.ownBlock) :
    w2.cell? ⟨G, 0, none⟩ = some o0 ∧ w2.cell? ⟨G, 1, none⟩ = some o1 ∧ w2.cell? ⟨G, 2, none⟩ = some (.int .i64 0) ∧ (∀ i, w2.frozen? ⟨G, i, none⟩ = false) ∧ Below G W w2 ∧ Own w2 (G + 1) o0 xs ∧ W.heap.size ≤ w2.heap.size := by
  have hne : ∀ k, o1.ownBlock = some k → G < k := fun k e => own_block h.own1 e
  have hn : some G ≠ o1.ownBlock := fun e => by have := hne G e.symm; omega
  exact ⟨(hg.cell_far ⟨G, 0, none⟩ h.lt hn).trans h.c0, (hg.cell_far ⟨G, 1, none⟩ h.lt hn).trans h.c1, (hg.cell_far ⟨G, 2, none⟩ h.lt hn).trans h.c2, fun i => (hg.frozen_far ⟨G, i, none⟩ h.lt hn).trans (h.fr i),
    (Below.refl _ W).grown hg (Nat.le_of_lt h.lt) (fun k e => Nat.le_of_lt (hne k e)), own_keep h.own0 (fun k e => hg.block k (own_lt h.own0 e) (fun e' => h.ne k e e'.symm)), hg.size⟩

theorem Outs2.push0 {w1 W w2 : World} {G : Nat} {o0 o1 nv : Value} {xs ys : List Int} {x : Int} (h : Outs2 w1 W G o0 o1 xs ys) (hg : W.grownBy w2 o0.ownBlock)
    (ho : w2.ownsRow (G + 1) 3 1 nv (xs.length + 1) (xs.map (Value.int .i64) ++ [.int .i64 x])) (hv : nv.ownBlock = o0.ownBlock ∨ nv.ownBlock = some W.heap.size) : Outs2 w1 (w2.setCell ⟨G, 0, none⟩ nv) G nv o1 (xs ++ [x]) ys := by
  obtain ⟨d0, d1, d2, df, db, dn, ds⟩ := h.app0 hg
  have hown : Own w2 (G + 1) nv (xs ++ [x]) := by unfold Own; rw [List.length_append, List.map_append]; exact ho
  refine ⟨(h.bl.trans db).setCell (Nat.le_refl G) nv, ownsRow_setCell_below hown (by show G < G + 1; omega) nv, ownsRow_setCell_below dn (by show G < G + 1; omega) nv, fun k e e' => ?_, World.cell?_setCell_same' _ _ _ (by rw [d0]; rfl),
    (cell_ne (by omega) _ _).trans d1, (cell_ne (by omega) _ _).trans d2, fun i => by rw [World.frozen?_setCell]; exact df i, by simp only [World.size_setCell]; exact Nat.lt_of_lt_of_le h.lt ds⟩
  rcases hv with hv | hv
  · exact h.ne k (hv.symm.trans e) e'
  · have := own_lt h.own1 e'
    rw [hv] at e
    simp only [Option.some.injEq] at e
    omega
theorem Outs2.push1 {w1 W w2 : World} {G : Nat} {o0 o1 nv : Value} {xs ys : List Int} {x : Int} (h : Outs2 w1 W G o0 o1 xs ys) (hg : W.grownBy w2 o1.ownBlock)
    (ho : w2.ownsRow (G + 1) 3 1 nv (ys.length + 1) (ys.map (Value.int .i64) ++ [.int .i64 x])) (hv : nv.ownBlock = o1.ownBlock ∨ nv.ownBlock = some W.heap.size) : Outs2 w1 (w2.setCell ⟨G, 1, none⟩ nv) G o0 nv xs (ys ++ [x]) := by
  obtain ⟨d0, d1, d2, df, db, dn, ds⟩ := h.app1 hg
  have hown : Own w2 (G + 1) nv (ys ++ [x]) := by unfold Own; rw [List.length_append, List.map_append]; exact ho
  refine ⟨(h.bl.trans db).setCell (Nat.le_refl G) nv, ownsRow_setCell_below dn (by show G < G + 1; omega) nv, ownsRow_setCell_below hown (by show G < G + 1; omega) nv, fun k e e' => ?_, (cell_ne (by omega) _ _).trans d0,
    World.cell?_setCell_same' _ _ _ (by rw [d1]; rfl), (cell_ne (by omega) _ _).trans d2, fun i => by rw [World.frozen?_setCell]; exact df i, by simp only [World.size_setCell]; exact Nat.lt_of_lt_of_le h.lt ds⟩
  rcases hv with hv | hv
  · exact h.ne k e (hv.symm.trans e')
  · have := own_lt h.own0 e
    rw [hv] at e'
    simp only [Option.some.injEq] at e'
    omega

theorem anyWrong_hit {last : Int} {l : List Sv} {i : Nat} (hi : i < l.length) (h : wrongB last (nthS l i) = true) (hA : ∀ j, j < i → wrongB last (nthS l j) = false) : anyWrong last l = true := by
  unfold anyWrong
  rw [firstIdx_hit hi h hA, decide_eq_true_eq]
  omega
theorem anyWrong_miss {last : Int} {l : List Sv} (hA : ∀ j, j < l.length → wrongB last (nthS l j) = false) : anyWrong last l = false := by
  unfold anyWrong
  rw [firstIdx_miss hA]
  rfl
theorem nth_loL {l : List Sv} {n t : Nat} (h : t < n) : nth (loL l n) t = loTo l t l.length := by unfold loL; rw [nth_tab h]
theorem nth_hiL {l : List Sv} {n t : Nat} (h : t < n) : nth (hiL l n) t = hiTo l t l.length := by unfold hiL; rw [nth_tab h]
theorem clash_hit {l : List Sv} {n t : Nat} (ht : t < n) (h : hiTo l t l.length < loTo l t l.length) (hA : ∀ j, j < t → ¬ hiTo l j l.length < loTo l j l.length) : clashB (hiL l n) (loL l n) = true := by
  unfold clashB
  have e : firstIdx (earlyAt (hiL l n) (loL l n)) (hiL l n).length = t := firstIdx_hit (by rw [hiL_length]; exact ht) (by unfold earlyAt; rw [nth_loL ht, nth_hiL ht]; exact decide_eq_true h) (fun j hj => by unfold earlyAt; rw [nth_loL (by omega), nth_hiL (by omega)]; exact decide_eq_false (hA j hj))
  rw [e, decide_eq_true_eq]
  omega
theorem clash_miss {l : List Sv} {n : Nat} (hA : ∀ j, j < n → ¬ hiTo l j l.length < loTo l j l.length) : clashB (hiL l n) (loL l n) = false := by
  unfold clashB
  have e : firstIdx (earlyAt (hiL l n) (loL l n)) (hiL l n).length = -1 := firstIdx_miss (fun j hj => by rw [hiL_length] at hj; unfold earlyAt; rw [nth_loL hj, nth_hiL hj]; exact decide_eq_false (hA j hj))
  rw [e]
  rfl
end Go.Proofs.Ytknkneccnhgjmaa
