/- Plain: the first test of the law; what it compares; the water that it writes. -/
import Derived.Test.YtegmniphgahblaaGreatM16
import Derived.Test.YtegmniphgahblaaGreatW34
import Derived.Test.YtegmniphgahblaaGreatW24
namespace Go.Proofs.YtegmniphgahblaaGreat
open Go.RowKit Go.Shelf

theorem RdU.up {w W : World} {K : Option Addr} {xs : List Int} (h : RdU w w.heap.size K xs) (hb : Below w.heap.size w W) : RdU W W.heap.size K xs := by
 obtain ⟨h1, h2⟩ := h.ext hb (Nat.le_refl _)
 exact ⟨h1, fun hn => by
  obtain ⟨b, off, e, hl, hc⟩ := h2 hn
  exact ⟨b, off, e, Nat.lt_of_lt_of_le hl hb.size, hc⟩⟩
theorem start_sum {ws : List Car} (h : ∀ i, i < ws.length → (cAt ws i).os.length ≤ reachBytes) : ∀ t, t ≤ ws.length → start ws t ≤ t * reachBytes
 | 0, _ => by simp [start_zero]
 | t + 1, ht => by
  rw [start_succ ht]
  have := start_sum h t (by omega)
  have := h t ht
  rw [Nat.succ_mul]
  omega
/-- The law does not look at more than these. -/
def manyB (ws : List Car) (m : Int) (cs : Cs) (s : Wt) (cost more : List Int) : Bool :=
 decide (6 < ws.length) || decide (14 < m) || decide (20 < cost.length) || decide (20 < more.length) || decide (20 < s.ri.length) || decide (40 < s.bo.length) || decide (40 < s.lk.length) || decide (40 < s.lo.length) || decide (20 < cs.ri.length) || decide (40 < cs.bo.length)
theorem manyB_iff {ws : List Car} {m : Int} {cs : Cs} {s : Wt} {cost more : List Int} : manyB ws m cs s cost more = true ↔ 6 < ws.length ∨ 14 < m ∨ 20 < cost.length ∨ 20 < more.length ∨ 20 < s.ri.length ∨ 40 < s.bo.length ∨ 40 < s.lk.length ∨ 40 < s.lo.length ∨ 20 < cs.ri.length ∨ 40 < cs.bo.length := by
 unfold manyB
 simp only [Bool.or_eq_true, decide_eq_true_eq, or_assoc]
theorem many_wk {w : World} {A : Option Addr} {ws : List Car} (h : WkIn w A ws) (h1 : ws.length ≤ 6) (h2 : (outs ws).length ≤ 14) : Wk w A ws := by
 refine ⟨h.rd, by omega, by omega, fun i hi => ?_⟩
 obtain ⟨c, k, hc, hk, e⟩ := place_of hi
 subst e
 rw [oAt_outs hc hk]
 exact h.n2 c hc k hk
/-- Shares that are made, as they read. -/
def RdT (w : World) (A : Option Addr) (n : Nat) (S : Nat → Nat) : Prop := 0 < n → ∃ g, A = some ⟨g, 0, none⟩ ∧ g < w.heap.size ∧ ∀ i, i < n → w.cell? ⟨g, i * 2, none⟩ = some (.int .i64 ((ratN (S i) lcmT : Nat) : Int)) ∧ w.cell? ⟨g, i * 2 + 1, none⟩ = some (.int .i64 ((ratD (S i) lcmT : Nat) : Int))
theorem RdT.ext {w W : World} {A : Option Addr} {n : Nat} {S : Nat → Nat} (h : RdT w A n S) (hb : Below w.heap.size w W) : RdT W A n S := fun hn => by
 obtain ⟨g, e, hg, hc⟩ := h hn
 exact ⟨g, e, Nat.lt_of_lt_of_le hg hb.size, fun i hi => ⟨(hb.cell (p := ⟨g, i * 2, none⟩) hg).trans (hc i hi).1, (hb.cell (p := ⟨g, i * 2 + 1, none⟩) hg).trans (hc i hi).2⟩⟩
theorem stays_rdT {W : World} {A : Option Addr} {n : Nat} {S : Nat → Nat} (h : RdT W A n S) : Stays (fun X => RdT X A n S) W := ⟨h, fun _ _ a b => a.ext b⟩
theorem rdT_of {w : World} {base n c : Nat} {A : Option Addr} {rs : List Rch} {ps : List Pay} (h : OwnT w base (.slice A n c) (shTo rs ps n)) : RdT w A n (shN rs ps) := fun hn => by
 obtain ⟨A', c', e, hc⟩ := OwnK.rd (f := shL) (fun _ => rfl) 0 h
 have e3 : A = A' ∧ n = (shTo rs ps n).length ∧ c = c' := by simpa using e
 obtain ⟨rfl, -, rfl⟩ := e3
 rw [shTo_length] at hc
 obtain ⟨g, rfl, -, hg, hc⟩ := hc hn
 refine ⟨g, rfl, hg, fun i hi => ?_⟩
 have hs : (shTo rs ps n).getD i 0 = shN rs ps i := by simp [shTo, hi]
 exact ⟨hc i 0 _ hi (by decide) (by rw [hs]; rfl), hc i 1 _ hi (by decide) (by rw [hs]; rfl)⟩
/-- The shares of one bed in two trees. -/
theorem shares_pair {ws : List Car} {cost : List Int} {f1 f2 : List Int} (g : Good ws) (hm : ws.length ≤ 6) (hN : (outs ws).length ≤ 14) (hco : ∀ i, i < cost.length → 0 ≤ nth cost i ∧ nth cost i ≤ 65535)
  (h : ∀ k, k < (outs ws).length → paysB ws f1 k = true → paysB ws f2 k = true) {i j : Nat} (hi : i < (psTo ws f1 (outs ws).length).length) (hj : j < (psTo ws f2 (outs ws).length).length) (e : (yAt (psTo ws f2 (outs ws).length) j).id = (yAt (psTo ws f1 (outs ws).length) i).id) :
  IntKind.i64.wrap ((ratN (shN (rsTo ws cost ws.length) (psTo ws f2 (outs ws).length) j) lcmT : Int) * (ratD (shN (rsTo ws cost ws.length) (psTo ws f1 (outs ws).length) i) lcmT : Int)) = (ratN (shN (rsTo ws cost ws.length) (psTo ws f2 (outs ws).length) j) lcmT : Int) * (ratD (shN (rsTo ws cost ws.length) (psTo ws f1 (outs ws).length) i) lcmT : Int) ∧
  IntKind.i64.wrap ((ratN (shN (rsTo ws cost ws.length) (psTo ws f1 (outs ws).length) i) lcmT : Int) * (ratD (shN (rsTo ws cost ws.length) (psTo ws f2 (outs ws).length) j) lcmT : Int)) = (ratN (shN (rsTo ws cost ws.length) (psTo ws f1 (outs ws).length) i) lcmT : Int) * (ratD (shN (rsTo ws cost ws.length) (psTo ws f2 (outs ws).length) j) lcmT : Int) ∧
  (ratN (shN (rsTo ws cost ws.length) (psTo ws f2 (outs ws).length) j) lcmT : Int) * (ratD (shN (rsTo ws cost ws.length) (psTo ws f1 (outs ws).length) i) lcmT : Int) ≤ (ratN (shN (rsTo ws cost ws.length) (psTo ws f1 (outs ws).length) i) lcmT : Int) * (ratD (shN (rsTo ws cost ws.length) (psTo ws f2 (outs ws).length) j) lcmT : Int) := by
 have rok := rsTo_ok g hm hco
 have p1 := psTo_ok (cost := cost) (fl := f1) g hN
 have p2 := psTo_ok (cost := cost) (fl := f2) g hN
 obtain ⟨k1, a1, _, b1⟩ := psTo_at hi
 obtain ⟨k2, a2, _, b2⟩ := psTo_at hj
 have hk : k2 = k1 := g.ids k2 k1 a2 a1 (by rw [b1, b2] at e; exact e)
 subst hk
 exact shares_cmp (shN_dvd hN i) (shN_dvd hN j) (shN_le6 rok (by rw [rsTo_len]; exact hm) p1 hi) (shN_le6 rok (by rw [rsTo_len]; exact hm) p2 hj) (shN_more rok h p1 hi (b1.trans b2.symm))
/-- Who paid is among the payers of the richer tree. -/
theorem pays_again {ws : List Car} {f1 f2 : List Int} (h : ∀ k, k < (outs ws).length → paysB ws f1 k = true → paysB ws f2 k = true) {i : Nat} (hi : i < (psTo ws f1 (outs ws).length).length) :
  payId (psTo ws f2 (outs ws).length) (yAt (psTo ws f1 (outs ws).length) i).id (psTo ws f2 (outs ws).length).length = true := by
 obtain ⟨k, a, hp, b⟩ := psTo_at hi
 obtain ⟨j, hj, e⟩ := psTo_has a (h k a hp)
 exact payId_iff.2 ⟨j, hj, by rw [e, b]⟩
/-- A box at gR whose first slice is a list of the call's own that is being made. -/
structure RcI (V X : World) (gR : Nat) (s : Wt) (A : Option Addr) (c : Nat) (L : List Int) : Prop where
 bt : ButB (fun b => b = gR) V X
 bk : Blk X gR #[.slice A L.length c, .slice s.A1 s.bo.length s.c1, .slice s.A2 s.lk.length s.c2, .slice s.A3 s.lo.length s.c3] 30
 ow : Own X V.heap.size (.slice A L.length c) L
section
variable {V X Y : World} {gR : Nat} {s : Wt} {A : Option Addr} {c : Nat} {L : List Int}
theorem RcI.later (h : RcI V X gR s A c L) (hg : gR < V.heap.size) (hb : Below X.heap.size X Y) : RcI V Y gR s A c L :=
 ⟨h.bt.trans (ButB.of_below hb), (hb.block gR (by have := h.bt.size; omega)).trans h.bk, h.ow.later hb⟩
theorem RcI.app (h : RcI V X gR s A c L) (hgl : gR < V.heap.size) (hg : X.grownBy Y (Value.slice A L.length c).ownBlock) : Blk Y gR #[.slice A L.length c, .slice s.A1 s.bo.length s.c1, .slice s.A2 s.lk.length s.c2, .slice s.A3 s.lo.length s.c3] 30 :=
 (hg.block gR (by have := h.bt.size; omega) (fun e => by have := (h.ow.blkIs e.symm).1; omega)).trans h.bk
theorem RcI.push (h : RcI V X gR s A c L) (hgl : gR < V.heap.size) {y : Int} {n : Nat} (hn : L.length = n) {A' : Option Addr} {c' : Nat} (hg : X.grownBy Y (Value.slice A L.length c).ownBlock) (ho : Own Y V.heap.size (.slice A' (n + 1) c') (L ++ [y])) :
  RcI V (Y.setCell ⟨gR, 0, none⟩ (.slice A' (n + 1) c')) gR s A' c' (L ++ [y]) := by
 subst hn
 have e : (L ++ [y]).length = L.length + 1 := by rw [List.length_append]; rfl
 refine ⟨(h.bt.grown hg (fun r e => .inr ((h.ow.blkIs e).1))).set (a := ⟨gR, 0, none⟩) rfl _, ?_, ?_⟩
 ·rw [e]
  exact heap_setCell_same _ _ 0 _ _ _ (h.app hgl hg)
 ·rw [e]
  exact ho.blk fun k e => Below.heap_setCell _ _ _ _ (by have := (ho.blkIs e).1; show k ≠ gR; omega)
end
end Go.Proofs.YtegmniphgahblaaGreat
