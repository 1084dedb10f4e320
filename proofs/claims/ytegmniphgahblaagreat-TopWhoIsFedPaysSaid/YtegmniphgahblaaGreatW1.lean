/- A loop over an iterator that keeps a state of its own in a block of cells: what such an iterator's contract says, and the loop's law. No program here. -/
import Derived.RangeFuncWrites
namespace Go.Proofs.YtegmniphgahblaaGreat
open Go.RowKit

/-- What is said of the iterator's caller does not hang on block bs. -/
def Minds {β : Type} (bs : Option Nat) (J : β → World → Prop) : Prop := ∀ s W W' row, J s W → W.grownBy W' row → (∀ r, row = some r → bs = some r) → J s W'
/-- Nor on any block from B on that holds no cells. -/
def Abide {β : Type} (B : Nat) (bs : Option Nat) (I : β → World → Prop) : Prop := ∀ s W W' row, I s W → W.grownBy W' row → (∀ r, row = some r → bs = some r ∨ (B ≤ r ∧ ∃ o : Obj, W.heap[r]? = some o ∧ o.isCells = false)) → I s W'
theorem Abide.minds {β : Type} {B : Nat} {bs : Option Nat} {I : β → World → Prop} (h : Abide B bs I) : Minds bs I := fun s W W' row hs hg hr => h s W W' row hs hg fun r e => .inl (hr r e)
theorem Abide.put {β : Type} {B : Nat} {bs : Option Nat} {I : β → World → Prop} (h : Abide B bs I) {s : β} {W : World} {l : Nat} {o : Obj} (o' : Obj) (hs : I s W) (hB : B ≤ l) (hl : W.heap[l]? = some o) (ho : o.isCells = false) : I s (W.putObj l o') :=
 h s W _ (some l) hs (grownBy_putObj' W l o') fun r e => by cases e; exact .inr ⟨hB, o, hl, ho⟩
theorem Abide.alloc {β : Type} {B : Nat} {bs : Option Nat} {I : β → World → Prop} (h : Abide B bs I) {s : β} {W : World} (o : Obj) (hs : I s W) : I s (W.alloc o) := h s W _ none hs (World.grownBy_alloc W o none) fun r e => by cases e
theorem Abide.and {β : Type} {B : Nat} {bs : Option Nat} {I I' : β → World → Prop} (h : Abide B bs I) (h' : Abide B bs I') : Abide B bs (fun s W => I s W ∧ I' s W) := fun s W W' row hs hg hr => ⟨h s W W' row hs.1 hg hr, h' s W W' row hs.2 hg hr⟩

/-- The iterator hands out just the things of a list, in order, as long as its loop goes on; it may write block bs between two rounds; Kp is what a round keeps for it. -/
def SeqB {α : Type} (F : Fence) (n : Nat) (P : Program) (g : Nat) (lb : Array Value) (encs : α → Array Value) (bs : Option Nat) (Kp : World → World → Prop) (full : List α) (w : World) : Prop :=
 ∀ (l : Nat) (J Jx : List α → World → Prop) (W : World), Below w.heap.size w W → Minds bs J → Minds bs Jx →
  (∀ pre x rest W1, full = pre ++ x :: rest → J pre W1 → YieldAt F (n - 1) P l (encs x) W1 fun e W' =>
   (e = .returned (.bool true) ∧ J (pre ++ [x]) W' ∧ Kp W1 W') ∨ (e = .returned (.bool false) ∧ Jx (pre ++ [x]) W')) →
  J [] W →
  CallsIn F n P g (#[.func (.yield l) #[] #[]] ++ lb) W fun e W' => (∃ v, e = .returned v) ∧ (J full W' ∨ ∃ pre x rest, full = pre ++ x :: rest ∧ Jx (pre ++ [x]) W')

/-- The blocks of a choice lie as they lay. -/
structure KeepB (p : Nat → Prop) (W W' : World) : Prop where
 size : W.heap.size ≤ W'.heap.size
 same : ∀ b, p b → W'.heap[b]? = W.heap[b]?
theorem KeepB.refl (p : Nat → Prop) (W : World) : KeepB p W W := ⟨Nat.le_refl _, fun _ _ => rfl⟩
theorem KeepB.trans {p : Nat → Prop} {A B C : World} (h : KeepB p A B) (k : KeepB p B C) : KeepB p A C := ⟨Nat.le_trans h.size k.size, fun b hb => (k.same b hb).trans (h.same b hb)⟩
theorem KeepB.grown {p : Nat → Prop} {W W' : World} {row : Option Nat} (hg : W.grownBy W' row) (hr : ∀ r, row = some r → ¬ p r) (hp : ∀ b, p b → b < W.heap.size) : KeepB p W W' := ⟨hg.size, fun b hb => hg.block b (hp b hb) fun e => hr b e.symm hb⟩
theorem KeepB.set {p : Nat → Prop} (W : World) (a : Addr) (v : Value) (hp : ¬ p a.block) : KeepB p W (W.setCell a v) :=
 ⟨(KeepsWalks.setCell W a v).size, fun b hb => Below.heap_setCell W a v b fun e => hp (e ▸ hb)⟩
theorem KeepB.put {p : Nat → Prop} (W : World) (l : Nat) (o : Obj) (hp : ¬ p l) : KeepB p W (W.putObj l o) := ⟨by simp, fun _ hb => World.putObj_heap_other fun e => hp (e ▸ hb)⟩
theorem KeepB.below {p : Nat → Prop} {W W' : World} (h : Below W.heap.size W W') (hp : ∀ b, p b → b < W.heap.size) : KeepB p W W' := ⟨h.size, fun b hb => h.block b (hp b hb)⟩
theorem KeepB.drew {p : Nat → Prop} (W : World) : KeepB p W W.drew := ⟨Nat.le_refl _, fun _ _ => rfl⟩
theorem KeepB.cell {p : Nat → Prop} {W W' : World} (h : KeepB p W W') {a : Addr} {v : Value} (hp : p a.block) (hc : W.cell? a = some v) : W'.cell? a = some v := (World.cell?_of_block (h.same _ hp)).trans hc
theorem KeepB.frozen {p : Nat → Prop} {W W' : World} (h : KeepB p W W') {a : Addr} (hp : p a.block) : W'.frozen? a = W.frozen? a := World.frozen?_of_block (h.same _ hp)

variable {F : Fence} {n : Nat} {P : Program}
/-- The record of a loop, by its state. -/
def recOf (fn : FuncId) (tm : Array Value) (ps : Array Tmp) (assign body : Code) (D : Nat) (st : LoopState) (pe : Option Code) : Loop := { state := st, pending := pe, fn, tmps := tm, params := ps, assign, body, defers := D }
/-- The loop over such an iterator: what the loop's own code owes is one round. -/
theorem wpIn_range_box {α : Type} {g : Operand} {ps : Array Tmp} {assign body : Code} {Q : Exit → Act → World → Prop} {a : Act} {w : World}
  (hro : F.round = none) (h1 : 1 ≤ n) {gf : Nat} {lb : Array Value} (hg : a.eval g = .func (.func gf) #[] lb) (hFg : F.fn gf) (eg : ∀ args w, (callFunc gf args).run P w = .ok (.enter gf args) w)
  {encs : α → Array Value} {bs : Option Nat} {Kp : World → World → Prop} {full : List α} {w0 : World} (hseq : SeqB F (n - 1) P gf lb encs bs Kp full w0)
  (hKt : ∀ {A B C : World}, Kp A B → Kp B C → Kp A C) (hKb : ∀ (W : World) (l : Nat) (o : Obj), w.heap.size ≤ l → Kp W (W.putObj l o)) (hb0 : Below w0.heap.size w0 w) (hbs : ∀ b, bs = some b → b < w.heap.size) (hps : ∀ x, (encs x).size = ps.size)
  (I : List α → World → Prop) (Ix : Code → List α → World → Prop) (hI : Abide w.heap.size bs I) (hIx : ∀ c, Abide w.heap.size bs (Ix c)) (h0 : I [] w)
  (hround : ∀ (l : Nat) (pre : List α) (x : α) (rest : List α) (W : World), full = pre ++ x :: rest → I pre W → w.heap.size + 1 < W.heap.size →
   assign.wpIn (F.inRound l) (n - 1 - 1) P (Exit.then (fun a₁ W₁ => KeepsFrom w.heap.size W W₁ ∧ Kp W W₁ ∧ ∀ W₂ r, w.heap.size ≤ r → W₁.grownBy W₂ (some r) → (∃ o : Obj, W₁.heap[r]? = some o ∧ o.isCells = false) →
    body.wpIn (F.inRound l) (n - 1 - 1) P (ownPostG w.heap.size Kp I Ix (pre ++ [x]) W₂) a₁ W₂) (fun _ _ _ => False)) { tmps := (ps.zip (encs x)).foldl (fun t (p, v) => t.setIfInBounds p v) a.tmps, defers := [] } W)
  (hdone : ∀ (D : Nat) (W : World), w.heap.size ≤ D → I full W → W.heap[D]? = some (.deferred (some [])) → Q .normal { a with defers := { target := .collected D, args := #[] } :: a.defers } W)
  (hstop : ∀ (D : Nat) (c : Code) (pre : List α) (x : α) (rest : List α) (W : World), w.heap.size ≤ D → full = pre ++ x :: rest → Ix c (pre ++ [x]) W → W.heap[D]? = some (.deferred (some [])) → c.wpIn F n P Q { a with defers := { target := .collected D, args := #[] } :: a.defers } W) :
  (Code.rangeFunc g ps assign body).wpIn F n P Q a w := by
 refine wpIn_rangeFunc fun fn hfn => ?_
 rw [hro]
 generalize hD : w.heap.size = D at *
 obtain ⟨R, hR⟩ : ∃ R, R = recOf fn a.tmps ps assign body D := ⟨_, rfl⟩
 have hnc : ∀ st pe, (Obj.loop (R st pe)).isCells = false := fun _ _ => rfl
 obtain ⟨W1, hW1⟩ : ∃ W1, (w.alloc (.deferred (some []))).alloc (.loop (R .ready none)) = W1 := ⟨_, rfl⟩
 have z1 : W1.heap.size = D + 1 + 1 := by rw [← hW1, World.size_alloc, World.size_alloc, hD]
 have l1 : W1.heap[D + 1]? = some (.loop (R .ready none)) := by
  have := World.alloc_heap_new (w.alloc (.deferred (some []))) (.loop (R .ready none))
  rw [World.size_alloc, hD] at this
  rw [← hW1]; exact this
 have k1 : W1.heap[D]? = some (.deferred (some [])) := by
  have := World.alloc_heap_new w (.deferred (some []))
  rw [hD] at this
  rw [← hW1]; exact (Below.heap_alloc _ _ _ (by simp [hD])).trans this
 have i1 : I [] W1 := by rw [← hW1]; exact hI.alloc _ (hI.alloc _ h0)
 have b1 : Below w0.heap.size w0 W1 := by
  rw [← hW1]; exact hb0.trans ((((Below.refl _ w).alloc (Nat.le_refl _) _).alloc (by simp) _).mono hb0.size)
 have en := run_enterLoop_outer (P := P) (w := w) fn a.tmps ps assign body
 rw [hD] at en
 refine ⟨D + 1, [{ target := .collected D, args := #[] }], W1, { target := .fn (.func gf) lb, args := #[.func (.yield (D + 1)) #[] #[]] }, W1, gf, #[.func (.yield (D + 1)) #[] #[]] ++ lb, W1,
  by rw [← hW1, hR]; exact en, by simp only [resolve, hg]; simp [go_sem], fun f' hf' => by simp [Target.leads] at hf'; subst hf'; exact hFg, by simp [invoke, go_sem, eg], fun _ => h1, ?_⟩
 -- the two blocks that the loop has laid stay while the iterator writes its own
 have far : ∀ {row : Option Nat}, (∀ r, row = some r → bs = some r) → ∀ k, D ≤ k → row ≠ some k := fun hr k hk e => by
  have := hbs k (hr k e); omega
 refine (hseq (D + 1) (fun pre W => I pre W ∧ W.heap[D + 1]? = some (.loop (R .ready none)) ∧ W.heap[D]? = some (.deferred (some [])))
  (fun pre W => ∃ c, Ix c pre W ∧ W.heap[D + 1]? = some (.loop (R .done (some c))) ∧ W.heap[D]? = some (.deferred (some [])))
  W1 b1
  (fun s A B row hs hg' hr => ⟨hI.minds s A B row hs.1 hg' hr, (hg'.block _ (Array.getElem?_eq_some_iff.1 hs.2.1).1 (fun e => far hr (D + 1) (by omega) e.symm)).trans hs.2.1, (hg'.block _ (Array.getElem?_eq_some_iff.1 hs.2.2).1 (fun e => far hr D (Nat.le_refl _) e.symm)).trans hs.2.2⟩)
  (fun s A B row hs hg' hr => by
   obtain ⟨c, hc, hl, hk⟩ := hs
   exact ⟨c, (hIx c).minds s A B row hc hg' hr, (hg'.block _ (Array.getElem?_eq_some_iff.1 hl).1 (fun e => far hr (D + 1) (by omega) e.symm)).trans hl, (hg'.block _ (Array.getElem?_eq_some_iff.1 hk).1 (fun e => far hr D (Nat.le_refl _) e.symm)).trans hk⟩)
  ?_ ⟨i1, l1, k1⟩).mono ?_
 ·rintro pre x rest W hf ⟨hi, hl, hk⟩
  have hlt : D + 1 < W.heap.size := (Array.getElem?_eq_some_iff.1 hl).1
  have hy := run_yield (P := P) (args := encs x) hl (by rw [hR]; exact hps x)
  rw [hR] at hy
  refine ⟨fn, _, assign, body, hy, roundIn_of_wpIn hfn (wpIn_mono (hround _ pre x rest W hf hi hlt) ?_)⟩
  rintro e a₁ W₁ hp
  cases e with
  | normal =>
   obtain ⟨hkf, hkp, hbody⟩ := hp
   have hl1 := hkf.same _ _ (by omega) hl rfl
   have hk1 := hkf.same _ _ (Nat.le_refl _) hk rfl
   have hlt1 : D + 1 < W₁.heap.size := (Array.getElem?_eq_some_iff.1 hl1).1
   refine ⟨_, run_beginRound hl1 (by rw [hR]; rfl), ?_⟩
   generalize hW2 : W₁.putObj (D + 1) (.loop { R .ready none with state := .busy }) = W₂
   have hl2 : W₂.heap[D + 1]? = some (.loop { R .ready none with state := .busy }) := by rw [← hW2]; exact World.putObj_heap_same hlt1
   have hk2 : W₂.heap[D]? = some (.deferred (some [])) := by rw [← hW2]; exact (World.putObj_heap_other (by omega)).trans hk1
   have hp2 : Kp W₁ W₂ := by rw [← hW2]; exact hKb _ _ _ (by omega)
   have hg2 : W₁.grownBy W₂ (some (D + 1)) := by rw [← hW2]; exact grownBy_putObj' _ _ _
   refine wpIn_mono (hbody W₂ (D + 1) (by omega) hg2 ⟨_, hl1, hnc _ _⟩) ?_
   have fin : ∀ (jump : Option Code) (W3 : World), KeepsFrom D W₂ W3 →
     ∃ W4, W4 = W3.putObj (D + 1) (.loop (R (if jump.isNone then .ready else .done) jump)) ∧ (Instr.endRound (D + 1) jump).run P W3 = .ok (.bool jump.isNone) W4 ∧ (∃ o : Obj, W3.heap[D + 1]? = some o ∧ o.isCells = false) ∧
     W4.heap[D + 1]? = some (.loop (R (if jump.isNone then .ready else .done) jump)) ∧ W4.heap[D]? = some (.deferred (some [])) := fun jump W3 hk3 => by
    have hl3 := hk3.same _ _ (by omega) hl2 rfl
    have er := run_endRound (P := P) jump hl3
    refine ⟨_, rfl, ?_, ⟨_, hl3, rfl⟩, World.putObj_heap_same (Array.getElem?_eq_some_iff.1 hl3).1, (World.putObj_heap_other (by omega)).trans (hk3.same _ _ (Nat.le_refl _) hk2 rfl)⟩
    rw [er, hR]
    rfl
   rintro e a3 W3 hp3
   cases e with
   | normal =>
    obtain ⟨q1, q2, q3⟩ := hp3
    obtain ⟨W4, e4, hr, ⟨o, ho, hc⟩, hl4, hk4⟩ := fin none W3 q1
    exact ⟨_, _, hr, .inl ⟨rfl, ⟨by rw [e4]; exact hI.put _ q3 (by omega) ho hc, hl4, hk4⟩, hKt hkp (hKt hp2 (hKt q2 (by rw [e4]; exact hKb _ _ _ (by omega))))⟩⟩
   | ret =>
    obtain ⟨q1, q3⟩ := hp3
    obtain ⟨W4, e4, hr, ⟨o, ho, hc⟩, hl4, hk4⟩ := fin (some .ret) W3 q1
    exact ⟨_, _, hr, .inr ⟨rfl, .ret, by rw [e4]; exact (hIx _).put _ q3 (by omega) ho hc, hl4, hk4⟩⟩
   | exit id =>
    obtain ⟨q1, q3⟩ := hp3
    obtain ⟨W4, e4, hr, ⟨o, ho, hc⟩, hl4, hk4⟩ := fin (some (.exit id)) W3 q1
    exact ⟨_, _, hr, .inr ⟨rfl, .exit id, by rw [e4]; exact (hIx _).put _ q3 (by omega) ho hc, hl4, hk4⟩⟩
   | goto t =>
    obtain ⟨q1, q3⟩ := hp3
    obtain ⟨W4, e4, hr, ⟨o, ho, hc⟩, hl4, hk4⟩ := fin (some (.goto t)) W3 q1
    exact ⟨_, _, hr, .inr ⟨rfl, .goto t, by rw [e4]; exact (hIx _).put _ q3 (by omega) ho hc, hl4, hk4⟩⟩
   | panic ch => exact hp3.elim
   | outgrown => exact hp3.elim
  | ret => exact hp.elim
  | exit id => exact hp.elim
  | goto t => exact hp.elim
  | panic ch => exact hp.elim
  | outgrown => exact hp.elim
 ·rintro e W2 ⟨⟨v, rfl⟩, (⟨hi, hl, hk⟩ | ⟨pre, x, rest, hf, c, hi, hl, hk⟩)⟩
  ·exact ⟨none, _, by have := run_endLoop (P := P) hl (by rw [hR]; intro h; cases h); rw [hR] at this; exact this, hdone D _ (Nat.le_refl _) (hI.put _ hi (by omega) hl rfl) ((World.putObj_heap_other (by omega)).trans hk)⟩
  ·exact ⟨some c, _, by have := run_endLoop (P := P) hl (by rw [hR]; intro h; cases h); rw [hR] at this; exact this, hstop D c pre x rest _ (Nat.le_refl _) hf ((hIx c).put _ hi (by omega) hl rfl) ((World.putObj_heap_other (by omega)).trans hk)⟩
/-- The same where the assignment to the loop's variables lays nothing. -/
theorem wpIn_range_boxP {α : Type} {g : Operand} {ps : Array Tmp} {assign body : Code} {Q : Exit → Act → World → Prop} {a : Act} {w : World}
  (hro : F.round = none) (h1 : 1 ≤ n) {gf : Nat} {lb : Array Value} (hg : a.eval g = .func (.func gf) #[] lb) (hFg : F.fn gf) (eg : ∀ args w, (callFunc gf args).run P w = .ok (.enter gf args) w)
  {encs : α → Array Value} {bs : Option Nat} {p : Nat → Prop} {full : List α} {w0 : World} (hseq : SeqB F (n - 1) P gf lb encs bs (KeepB p) full w0)
  (hp : ∀ b, p b → b < w.heap.size) (hb0 : Below w0.heap.size w0 w) (hbs : ∀ b, bs = some b → b < w.heap.size) (hps : ∀ x, (encs x).size = ps.size)
  (I : List α → World → Prop) (Ix : Code → List α → World → Prop) (hI : Abide w.heap.size bs I) (hIx : ∀ c, Abide w.heap.size bs (Ix c)) (h0 : I [] w) (a₁ : α → Act)
  (hassign : ∀ (l : Nat) (x : α) (W : World) (K : Act → World → Prop), K (a₁ x) W →
   assign.wpIn (F.inRound l) (n - 1 - 1) P (Exit.then K (fun _ _ _ => False)) { tmps := (ps.zip (encs x)).foldl (fun t (p, v) => t.setIfInBounds p v) a.tmps, defers := [] } W)
  (hbody : ∀ (l : Nat) (pre : List α) (x : α) (rest : List α) (W : World), full = pre ++ x :: rest → I pre W → w.heap.size ≤ W.heap.size → body.wpIn (F.inRound l) (n - 1 - 1) P (ownPostG w.heap.size (KeepB p) I Ix (pre ++ [x]) W) (a₁ x) W)
  (hdone : ∀ (D : Nat) (W : World), w.heap.size ≤ D → I full W → W.heap[D]? = some (.deferred (some [])) → Q .normal { a with defers := { target := .collected D, args := #[] } :: a.defers } W)
  (hstop : ∀ (D : Nat) (c : Code) (pre : List α) (x : α) (rest : List α) (W : World), w.heap.size ≤ D → full = pre ++ x :: rest → Ix c (pre ++ [x]) W → W.heap[D]? = some (.deferred (some [])) → c.wpIn F n P Q { a with defers := { target := .collected D, args := #[] } :: a.defers } W) :
  (Code.rangeFunc g ps assign body).wpIn F n P Q a w :=
 wpIn_range_box hro h1 hg hFg eg hseq (fun h k => h.trans k) (fun W l o hl => KeepB.put W l o fun h => by have := hp l h; omega) hb0 hbs hps I Ix hI hIx h0
  (fun l pre x rest W hf hi hlt => hassign l x W _ ⟨KeepsFrom.refl _ _, KeepB.refl _ _, fun W₂ r hr hg2 ho => hbody l pre x rest W₂ hf (hI _ _ _ _ hi hg2 fun k e => by cases e; exact .inr ⟨hr, ho⟩) (by have := hg2.size; omega)⟩) hdone hstop
end Go.Proofs.YtegmniphgahblaaGreat
