/- Words: reaches and payers of a tree in memory; the way up from a reach. No program here. -/
import Derived.Test.YtegmniphgahblaaGreatM1
import Derived.Test.YtegmniphgahblaaGreatM11
namespace Go.Proofs.YtegmniphgahblaaGreat
open Go.RowKit

structure Rch where
 ab : Int
 co : Int
structure Pay where
 id : Int
 rc : Int
 wt : Int
instance : Inhabited Rch := ⟨⟨0, 0⟩⟩
instance : Inhabited Pay := ⟨⟨0, 0, 0⟩⟩
def rAt (l : List Rch) (i : Nat) : Rch := l.getD i default
def yAt (l : List Pay) (i : Nat) : Pay := l.getD i default
/-- The slice reads as reaches; as payers. -/
def RdR (w : World) (B : Nat) (A : Option Addr) (l : List Rch) : Prop :=
 0 < l.length → ∃ b off, A = some ⟨b, off, none⟩ ∧ b < B ∧ ∀ i, i < l.length → w.cell? ⟨b, off + i * 2, none⟩ = some (.int .i64 (rAt l i).ab) ∧ w.cell? ⟨b, off + i * 2 + 1, none⟩ = some (.int .i64 (rAt l i).co)
def RdY (w : World) (B : Nat) (A : Option Addr) (l : List Pay) : Prop :=
 0 < l.length → ∃ b off, A = some ⟨b, off, none⟩ ∧ b < B ∧ ∀ i, i < l.length → w.cell? ⟨b, off + i * 3, none⟩ = some (.int .i64 (yAt l i).id) ∧ w.cell? ⟨b, off + i * 3 + 1, none⟩ = some (.int .i64 (yAt l i).rc) ∧ w.cell? ⟨b, off + i * 3 + 2, none⟩ = some (.int .i64 (yAt l i).wt)
theorem RdR.keep {w w' : World} {B : Nat} {A : Option Addr} {l : List Rch} (h : RdR w B A l) (hk : ∀ b, b < B → w'.heap[b]? = w.heap[b]?) : RdR w' B A l := fun hn => by
 obtain ⟨b, off, e, hb, hc⟩ := h hn
 exact ⟨b, off, e, hb, fun i hi => ⟨(World.cell?_of_block (hk b hb)).trans (hc i hi).1, (World.cell?_of_block (hk b hb)).trans (hc i hi).2⟩⟩
theorem RdY.keep {w w' : World} {B : Nat} {A : Option Addr} {l : List Pay} (h : RdY w B A l) (hk : ∀ b, b < B → w'.heap[b]? = w.heap[b]?) : RdY w' B A l := fun hn => by
 obtain ⟨b, off, e, hb, hc⟩ := h hn
 exact ⟨b, off, e, hb, fun i hi => ⟨(World.cell?_of_block (hk b hb)).trans (hc i hi).1, (World.cell?_of_block (hk b hb)).trans (hc i hi).2.1, (World.cell?_of_block (hk b hb)).trans (hc i hi).2.2⟩⟩
theorem RdR.ext {w w' : World} {B : Nat} {A : Option Addr} {l : List Rch} (h : RdR w B A l) (hb : Below w.heap.size w w') (hB : B ≤ w.heap.size) : RdR w' B A l := h.keep fun b hlt => hb.block b (by omega)
theorem RdY.ext {w w' : World} {B : Nat} {A : Option Addr} {l : List Pay} (h : RdY w B A l) (hb : Below w.heap.size w w') (hB : B ≤ w.heap.size) : RdY w' B A l := h.keep fun b hlt => hb.block b (by omega)
theorem RdR.mono {w : World} {B B' : Nat} {A : Option Addr} {l : List Rch} (h : RdR w B A l) (hB : B ≤ B') : RdR w B' A l := fun hn => by
 obtain ⟨b, off, e, hb, hc⟩ := h hn
 exact ⟨b, off, e, by omega, hc⟩
theorem RdY.mono {w : World} {B B' : Nat} {A : Option Addr} {l : List Pay} (h : RdY w B A l) (hB : B ≤ B') : RdY w B' A l := fun hn => by
 obtain ⟨b, off, e, hb, hc⟩ := h hn
 exact ⟨b, off, e, by omega, hc⟩

/-- A tree, as it lies. -/
structure Tr where
 A : Option Addr
 c : Nat
 rs : List Rch
 B : Option Addr
 d : Nat
 ps : List Pay
def Tr.cells (t : Tr) : Array Value := #[.slice t.A t.rs.length t.c, .slice t.B t.ps.length t.d]
def Tr.v (t : Tr) : Value := .agg #[.slice t.A t.rs.length t.c, .slice t.B t.ps.length t.d]
structure TrAt (w : World) (B : Nat) (t : Tr) : Prop where
 r : RdR w B t.A t.rs
 p : RdY w B t.B t.ps
 q : t.ps.length ≤ t.d
theorem TrAt.keep {w w' : World} {B : Nat} {t : Tr} (h : TrAt w B t) (hk : ∀ b, b < B → w'.heap[b]? = w.heap[b]?) : TrAt w' B t := ⟨h.r.keep hk, h.p.keep hk, h.q⟩
theorem TrAt.ext {w w' : World} {B : Nat} {t : Tr} (h : TrAt w B t) (hb : Below w.heap.size w w') (hB : B ≤ w.heap.size) : TrAt w' B t := ⟨h.r.ext hb hB, h.p.ext hb hB, h.q⟩
theorem TrAt.mono {w : World} {B B' : Nat} {t : Tr} (h : TrAt w B t) (hB : B ≤ B') : TrAt w B' t := ⟨h.r.mono hB, h.p.mono hB, h.q⟩
def abF (rs : List Rch) (r : Nat) : Int := (rAt rs r).ab
def coF (rs : List Rch) (r : Nat) : Int := (rAt rs r).co
/-- Reaches that are right. -/
structure RsOk (rs : List Rch) : Prop where
 n : rs.length ≤ 24
 up : ∀ i, i < rs.length → -1 ≤ (rAt rs i).ab ∧ (rAt rs i).ab < i
 co : ∀ i, i < rs.length → 0 ≤ (rAt rs i).co ∧ (rAt rs i).co ≤ 65536
theorem RsOk.ab {rs : List Rch} (h : RsOk rs) : ∀ r, r < rs.length → abF rs r < r := fun r hr => (h.up r hr).2

/-- The way from a reach up to the river. -/
def wayN (ab : Nat → Int) : Nat → Int → List Nat
 | 0, _ => []
 | f + 1, x => if 0 ≤ x then x.toNat :: wayN ab f (ab x.toNat) else []
def way (ab : Nat → Int) (x : Int) : List Nat := wayN ab (x.toNat + 1) x
section
variable {ab : Nat → Int} {m : Nat}
theorem wayN_fuel (hab : ∀ r, r < m → ab r < r) : ∀ (f g : Nat) (x : Int), x < m → x < f → x < g → wayN ab f x = wayN ab g x
 | 0, 0, _, _, _, _ => rfl
 | 0, g + 1, x, _, h, _ => by unfold wayN; rw [if_neg (by omega)]
 | f + 1, 0, x, _, _, h => by unfold wayN; rw [if_neg (by omega)]
 | f + 1, g + 1, x, hx, hf, hg => by
  unfold wayN
  by_cases h : 0 ≤ x
  ·have := hab x.toNat (by omega)
   rw [if_pos h, if_pos h, wayN_fuel hab f g (ab x.toNat) (by omega) (by omega) (by omega)]
  ·rw [if_neg h, if_neg h]
theorem way_neg {x : Int} (h : x < 0) : way ab x = [] := by
 show (if 0 ≤ x then _ else _) = _
 rw [if_neg (by omega)]
theorem way_cons (hab : ∀ r, r < m → ab r < r) {x : Int} (h : 0 ≤ x) (hx : x < m) : way ab x = x.toNat :: way ab (ab x.toNat) := by
 show (if 0 ≤ x then _ else _) = _
 rw [if_pos h]
 have := hab x.toNat (by omega)
 unfold way
 rw [wayN_fuel hab x.toNat ((ab x.toNat).toNat + 1) (ab x.toNat) (by omega) (by omega) (by omega)]
theorem way_mem (hab : ∀ r, r < m → ab r < r) {r : Nat} : ∀ (x : Nat), x < m → (r ∈ way ab (x : Int) ↔ isUp ab x r = true) := by
 intro x
 induction x using Nat.strongRecOn with
 | _ x ih =>
  intro hx
  have h1 := hab x hx
  rw [way_cons hab (by omega) (by omega), Int.toNat_natCast, List.mem_cons, isUp_step hab hx, Bool.or_eq_true, Bool.and_eq_true, decide_eq_true_eq, decide_eq_true_eq]
  by_cases h : 0 ≤ ab x
  ·have := ih (ab x).toNat (by omega) (by omega)
   rw [show (((ab x).toNat : Nat) : Int) = ab x by omega] at this
   rw [this]
   exact ⟨fun e => e.imp (fun e => e.symm) (fun e => ⟨h, e⟩), fun e => e.imp (fun e => e.symm) (fun e => e.2)⟩
  ·rw [way_neg (by omega)]
   exact ⟨fun e => by rcases e with e | e; (· exact .inl e.symm); (· cases e), fun e => by rcases e with e | ⟨e, _⟩; (· exact .inl e.symm); (· exact absurd e h)⟩
theorem way_lt (hab : ∀ r, r < m → ab r < r) (x : Int) (hx : x < m) : ∀ r, r ∈ way ab x → (r : Int) ≤ x ∧ r < m := fun r hr => by
 by_cases h : 0 ≤ x
 ·have e := (way_mem hab (r := r) x.toNat (by omega)).1 (by rwa [show ((x.toNat : Nat) : Int) = x by omega])
  have := isUp_le hab _ (by omega) e
  omega
 ·rw [way_neg (by omega)] at hr; cases hr
theorem way_len (hab : ∀ r, r < m → ab r < r) : ∀ (k : Nat) (x : Int), x < m → x < k → (way ab x).length ≤ k
 | 0, x, _, h => by rw [way_neg (by omega)]; exact Nat.le_refl _
 | k + 1, x, hx, h => by
  by_cases h0 : 0 ≤ x
  ·have h1 := hab x.toNat (by omega)
   rw [way_cons hab h0 hx, List.length_cons]
   exact Nat.succ_le_succ (way_len hab k _ (by omega) (by omega))
  ·rw [way_neg (by omega)]; exact Nat.zero_le _
/-- The way goes down in numbers. -/
theorem way_desc (hab : ∀ r, r < m → ab r < r) : ∀ (k : Nat) (x : Int), x < m → x < k → (way ab x).Pairwise (fun a b => b < a)
 | 0, x, _, h => by rw [way_neg (by omega)]; exact List.Pairwise.nil
 | k + 1, x, hx, h => by
  by_cases h0 : 0 ≤ x
  ·have h1 := hab x.toNat (by omega)
   rw [way_cons hab h0 hx]
   refine List.Pairwise.cons (fun r hr => ?_) (way_desc hab k _ (by omega) (by omega))
   have := way_lt hab (ab x.toNat) (by omega) r hr
   omega
  ·rw [way_neg (by omega)]; exact List.Pairwise.nil
end
end Go.Proofs.YtegmniphgahblaaGreat
