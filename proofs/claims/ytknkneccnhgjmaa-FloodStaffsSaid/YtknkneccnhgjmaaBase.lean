/- Words for memory, plain: a slice of ints that reads as a list; a region that draws its order, whose callees may lay blocks. No program here. -/
import Derived.WalkKit
import Derived.Deep.LoopGhost
import Derived.Deep.QuietTactic
import Derived.BigQuiet
import Derived.Lib.Hide
namespace Go.Proofs.Ytknkneccnhgjmaa
open Go.RowKit

/-- The i-th number of a list (0 beyond it): a name that the walk does not open. -/
def nth (xs : List Int) (i : Nat) : Int := xs.getD i 0

/-- The slice '.slice A xs.length c' reads as xs, and lies below block B. -/
def Rd (w : World) (B : Nat) (A : Option Addr) (xs : List Int) : Prop :=
  0 < xs.length → ∃ b off, A = some ⟨b, off, none⟩ ∧ b < B ∧ ∀ i, i < xs.length → w.cell? ⟨b, off + i, none⟩ = some (.int .i64 (nth xs i))

theorem Rd.nil {w : World} {B : Nat} {A : Option Addr} : Rd w B A [] := fun h => absurd h (by simp)
theorem Rd.mono {w : World} {B B' : Nat} {A : Option Addr} {xs : List Int} (h : Rd w B A xs) (hB : B ≤ B') : Rd w B' A xs := fun hn => by
  obtain ⟨b, off, e, hb, hc⟩ := h hn
  exact ⟨b, off, e, by omega, hc⟩
theorem Rd.below {w w' : World} {B n : Nat} {A : Option Addr} {xs : List Int} (h : Rd w B A xs) (hb : Below n w w') (hB : B ≤ n) : Rd w' B A xs := fun hn => by
  obtain ⟨b, off, e, hb', hc⟩ := h hn
  exact ⟨b, off, e, hb', fun i hi => (hb.cell (p := ⟨b, off + i, none⟩) (by show b < n; omega)).trans (hc i hi)⟩

/-- The slice lies in a block from L on. -/
def Fresh (L : Nat) (A : Option Addr) : Prop := ∀ ad, A = some ad → L ≤ ad.block
theorem Fresh.mono {L L' : Nat} {A : Option Addr} (h : Fresh L A) (hL : L' ≤ L) : Fresh L' A := fun ad e => Nat.le_trans hL (h ad e)

theorem Rd.setCell {w : World} {B : Nat} {A : Option Addr} {xs : List Int} (h : Rd w B A xs) {p : Addr} (hp : ∀ ad, A = some ad → ad.block ≠ p.block) (v : Value) : Rd (w.setCell p v) B A xs := fun hn => by
  obtain ⟨b, off, e, hb, hc⟩ := h hn
  exact ⟨b, off, e, hb, fun i hi => (World.cell?_setCell_other w p ⟨b, off + i, none⟩ v (fun e' => hp _ e (by rw [e']))).trans (hc i hi)⟩

/-- What a world that has kept all below B gives as rules. -/
theorem bcell {B : Nat} {w w1 : World} (hb : Below B w w1) : (∀ b o, b < B → w1.cell? ⟨b, o, none⟩ = w.cell? ⟨b, o, none⟩) ∧ (∀ b o, b < B → w1.frozen? ⟨b, o, none⟩ = w.frozen? ⟨b, o, none⟩) :=
  ⟨fun b o h => hb.cell (p := ⟨b, o, none⟩) h, fun b o h => hb.frozen (p := ⟨b, o, none⟩) h⟩

theorem ret_int {k : IntKind} {a b : Int} (h : a = b) : Ending.returned (.int k a) = .returned (.int k b) := by rw [h]
theorem int_eq {k : IntKind} {a b : Int} (h : a = b) : Value.int k a = Value.int k b := by rw [h]
theorem ret_bool {a b : Bool} (h : a = b) : Ending.returned (.bool a) = .returned (.bool b) := by rw [h]

/-- A region that draws its order, of whose operations each only reads or calls a function that keeps all that lay (it may lay blocks): ONE walk in the text's order, in worlds 'X k' of which 'Below' is known; behind it the world is a variable of which 'Below' is known. -/
theorem wp_region_ext {P : Program} {id : Nat} {Q : Exit → Act → World → Prop} {a : Act} {w : World} {l : List Oper} (hm : P.follows .mixedOrders = true) (hB : Region.lexB .any l.toArray = true)
    (h : ∀ (ι : Type) (_ : Nonempty ι) (X : ι → World), (∀ k, Below w.heap.size w (X k)) → (∀ w', Below w.heap.size w w' → ∃ k, w' = X k) →
      wpQuiet P l.toArray (fun w' => ∃ k, w' = X k) (fun a' => ∀ w', Below w.heap.size w w' → Q .normal a' w') l a) : (Code.region id l.toArray true).wp P Q a w := by
  have h1 := h { w' : World // Below w.heap.size w w' } ⟨⟨w, Below.refl _ _⟩⟩ Subtype.val (fun k => k.2) (fun w' hw => ⟨⟨w', hw⟩, rfl⟩)
  refine wp_region_quiet (C := fun w' => ∃ k : { w' : World // Below w.heap.size w w' }, w' = k.1) hm hB ⟨⟨_, (Below.refl _ w).drew⟩, rfl⟩ ?_
  have e : (fun a' => ∀ w', (∃ k : { w' : World // Below w.heap.size w w' }, w' = k.1) → Q .normal a' w') = (fun a' => ∀ w', Below w.heap.size w w' → Q .normal a' w') := by
    funext a'
    exact propext ⟨fun h w' hw => h w' ⟨⟨w', hw⟩, rfl⟩, fun h w' ⟨k, hk⟩ => h w' (hk ▸ k.2)⟩
  rw [e]
  simpa using h1

/-- A callee's contract, met in the world 'X k'. -/
theorem Calls.ext_of {P : Program} {f : FuncId} {args : Array Value} {w : World} {ι : Type} {X : ι → World} (hX : ∀ k, Below w.heap.size w (X k)) (hC : ∀ w', Below w.heap.size w w' → ∃ k, w' = X k) {k : ι} {v : Value}
    (h : Calls P f args (X k) fun e w' => e = .returned v ∧ Below (X k).heap.size (X k) w') : Calls P f args (X k) fun e w'' => e = .returned v ∧ ∃ k', w'' = X k' :=
  h.mono fun _ _ ⟨he, hb⟩ => ⟨he, hC _ ((hX k).trans (hb.mono (hX k).size))⟩
/-- .. of one that leaves the world alone. -/
theorem Calls.ext_same {P : Program} {f : FuncId} {args : Array Value} {ι : Type} {X : ι → World} {k : ι} {v : Value}
    (h : Calls P f args (X k) fun e w' => e = .returned v ∧ X k = w') : Calls P f args (X k) fun e w'' => e = .returned v ∧ ∃ k', w'' = X k' :=
  h.mono fun _ _ ⟨he, hb⟩ => ⟨he, k, hb.symm⟩

end Go.Proofs.Ytknkneccnhgjmaa
