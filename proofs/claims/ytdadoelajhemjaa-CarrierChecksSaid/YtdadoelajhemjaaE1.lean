/- Walks: the specification's index. -/
import Derived.Test.YtdadoelajhemjaaC7
import Derived.Test.YtdadoelajhemjaaB2
import Derived.Test.YtdadoelajhemjaaB3
namespace Go.Proofs.Ytdadoelajhemjaa
open Go.RowKit Go.Shelf

set_option maxRecDepth 100000 in
set_option maxHeartbeats 1600000 in
theorem rIndex_any (A : Option Addr) (c : Nat) (ws : List Car) (d : Int) (w : World) (h : Wk w A ws) :
  Calls Try.prog 133 #[.agg #[.slice A ws.length c], .int .i64 d] w fun e w' => e = .returned (.int .i64 (idxI (idxO ws d))) ∧ Below w.heap.size w w' := by
 have n2 := h.n2
 have hb : Below w.heap.size w (w.alloc (.cells #[.slice A ws.length c] 24)) := (Below.refl _ w).alloc (Nat.le_refl _) _
 have K := Lib.hid (((stays_bl hb).and (stays_blk (blk_new w #[.slice A ws.length c] 24 rfl))).and (stays_wk (h.ext hb)))
 clear hb h
 have hf : ∀ x, x < (outs ws).length → (∀ i, i < x → (oAt (outs ws) i).id ≠ d) → (oAt (outs ws) x).id = d → idxI (idxO ws d) = x := fun x hx hn he => by rw [idxO_first hx he hn]; rfl
 have hz : (∀ i, i < (outs ws).length → (oAt (outs ws) i).id ≠ d) → idxI (idxO ws d) = -1 := fun hn => by rw [idxO_none (fun y => hn y.1 y.2)]; rfl
 have HR := hd2 hf hz
 clear hf hz
 generalize idxI (idxO ws d) = R at *
 go_enter Try.func133, Try.ntmps133
 go_upto_region 1 with fail
 generalize w.alloc (.cells #[.slice A ws.length c] 24) = W1 at *
 have p0 := cr 0 K.out.1.1.2
 go_upto_region 3 with (go_at_call 90; refine (rOutlets_any A c ws _ K.out.1.2).mono ?_; rintro e w2 ⟨A2, c2, rfl, hr, -, hb⟩; have HO := hd2 hr (K.out.1.1.1.trans (hb.mono K.out.1.1.1.size)); clear hr hb)
 clear p0 K
 go_loopg [6] (outs ws).length (fun gg i wr => ∃ t : Nat, t ≤ (outs ws).length ∧ (outs ws).length - t ≤ gg ∧ i = .int .i64 t ∧ Aside (Below w2.heap.size w2 wr ∧ ∀ j, j < t → (oAt (outs ws) j).id ≠ d))
 case atStart => exact ⟨0, Nat.zero_le _, by omega, rfl, Below.refl _ _, fun j hj => absurd hj (Nat.not_lt_zero _)⟩
 case round =>
  obtain ⟨t, hlt0, hgg, rfl, hA⟩ := hrel
  have HA := Lib.hid hA.out
  clear hA
  by_cases hlt : t < (outs ws).length
  ·have hltz : (t : Int) < ((outs ws).length : Int) := by omega
   obtain ⟨b, off, rfl, _, hc⟩ := (HO.out.1.ext HA.out.1) (by omega)
   have p1 := (hc t hlt).c0
   clear hc
   by_cases he : (oAt (outs ws) t).id = d
   ·have hR := HR.out.1 t hlt HA.out.2 he
    subst hR
    have hez : ((oAt (outs ws) t).id == d) = true := by rw [he]; simp
    clear he
    go_wp2
    go_ret
    exact ⟨rfl, HO.out.2.trans (HA.out.1.mono HO.out.2.size)⟩
   ·have hez : ((oAt (outs ws) t).id == d) = false := by simpa using he
    have HE := Lib.hid he
    clear he
    go_wp2
    go_roundg ((outs ws).length - (t + 1))
    case measure => omega
    case rel => exact ⟨t + 1, by omega, by omega, by go_num, (show _ ∧ _ from ⟨HA.out.1, fun j hj => by
     by_cases e : j = t
     ·subst e; exact HE.out
     ·exact HA.out.2 j (by omega)⟩)⟩
  ·have hltz : ¬ (t : Int) < ((outs ws).length : Int) := by omega
   obtain rfl : t = (outs ws).length := by omega
   have hR := HR.out.2 HA.out.2
   subst hR
   go_wp2
   go_ret
   exact ⟨rfl, HO.out.2.trans (HA.out.1.mono HO.out.2.size)⟩

theorem in_iff {xs : List Int} {x : Int} : (xs.contains x) = true ↔ ∃ i, i < xs.length ∧ nth xs i = x := by
 rw [List.contains_iff_mem, List.mem_iff_getElem]
 constructor
 ·rintro ⟨i, hi, e⟩
  exact ⟨i, hi, by unfold nth; rw [List.getD_eq_getElem?_getD, List.getElem?_eq_getElem hi]; exact e⟩
 ·rintro ⟨i, hi, e⟩
  refine ⟨i, hi, ?_⟩
  unfold nth at e
  rw [List.getD_eq_getElem?_getD, List.getElem?_eq_getElem hi] at e
  exact e
set_option maxRecDepth 100000 in
set_option maxHeartbeats 800000 in
theorem rIn_any (A : Option Addr) (c : Nat) (xs : List Int) (x : Int) (w : World) (h : Rd w w.heap.size A xs) (hm : xs.length ≤ 1000) :
  Calls Try.prog 124 #[.slice A xs.length c, .int .i64 x] w fun e w' => e = .returned (.bool (xs.contains x)) ∧ Below w.heap.size w w' := by
 have hf : ∀ t, t < xs.length → nth xs t = x → xs.contains x = true := fun t ht e => in_iff.2 ⟨t, ht, e⟩
 have hn : (∀ t, t < xs.length → nth xs t ≠ x) → xs.contains x = false := fun hn => Bool.eq_false_iff.2 (fun e => by obtain ⟨i, hi, e2⟩ := in_iff.1 e; exact hn i hi e2)
 have HR := hd2 hf hn
 clear hf hn
 generalize xs.contains x = R at *
 go_enter Try.func124, Try.ntmps124
 go_upto_region 2 with fail
 go_loopg [5] xs.length (fun gg i wr => ∃ t : Nat, t ≤ xs.length ∧ xs.length - t ≤ gg ∧ i = .int .i64 t ∧ Aside (Below w.heap.size w wr ∧ ∀ j, j < t → nth xs j ≠ x))
 case atStart => exact ⟨0, Nat.zero_le _, by omega, rfl, Below.refl _ _, fun j hj => absurd hj (Nat.not_lt_zero _)⟩
 case round =>
  obtain ⟨t, hlt0, hgg, rfl, hA⟩ := hrel
  have HA := Lib.hid hA.out
  clear hA
  by_cases hlt : t < xs.length
  ·have hltz : (t : Int) < (xs.length : Int) := by omega
   obtain ⟨b0, o0, rfl, lb0, hc0⟩ := h (by omega)
   have p1 := (HA.out.1.cell (p := ⟨b0, o0 + t, none⟩) lb0).trans (hc0 t hlt)
   clear hc0
   by_cases he : nth xs t = x
   ·obtain rfl := HR.out.1 t hlt he
    have hez : (nth xs t == x) = true := by rw [he]; simp
    clear he
    go_wp2
    go_ret
    exact ⟨rfl, HA.out.1⟩
   ·have hez : (nth xs t == x) = false := by simpa using he
    have HE := Lib.hid he
    clear he
    go_wp2
    go_roundg (xs.length - (t + 1))
    case measure => omega
    case rel => exact ⟨t + 1, by omega, by omega, by go_num, (show _ ∧ _ from ⟨HA.out.1, fun j hj => by
     by_cases e : j = t
     ·subst e; exact HE.out
     ·exact HA.out.2 j (by omega)⟩)⟩
  ·have hltz : ¬ (t : Int) < (xs.length : Int) := by omega
   obtain rfl : t = xs.length := by omega
   obtain rfl := HR.out.2 HA.out.2
   go_wp2
   go_ret
   exact ⟨rfl, HA.out.1⟩

/-- What known answers: the outlet's number (0 at an error), the error. -/
def knI (ws : List Car) (id : Int) : Int := if sigE ws id = 0 then idxI (idxO ws id) else 0
set_option maxRecDepth 100000 in
set_option maxHeartbeats 1600000 in
theorem rKnown_any (A : Option Addr) (c : Nat) (ws : List Car) (id : Int) (w : World) (h : Wk w A ws) :
  Calls Try.prog 104 #[.agg #[.slice A ws.length c], .int .i64 id] w fun e w' => e = .returned (.tuple #[.int .i64 (knI ws id), .int .i64 (sigE ws id)]) ∧ Below w.heap.size w w' := by
 have hb : Below w.heap.size w (w.alloc (.cells #[.slice A ws.length c] 24)) := (Below.refl _ w).alloc (Nat.le_refl _) _
 have K := Lib.hid (((stays_bl hb).and (stays_blk (blk_new w #[.slice A ws.length c] 24 rfl))).and (stays_wk (h.ext hb)))
 clear hb h
 have HC := Lib.hid (fun W hW => rCheck_any A c ws W hW)
 have HF := Lib.hid (fun W hW => rIndex_any A c ws id W hW)
 by_cases hc : checkE ws = 0
 ·cases hx : idxO ws id with
  | none =>
   have h5 : sigE ws id = 5 := by unfold sigE; rw [if_pos hc, hx]; rfl
   have h6 : knI ws id = 0 := by unfold knI; rw [h5]; rfl
   rw [h5, h6]
   rw [hx] at HF
   have HX := Lib.hid hc
   clear hc hx h5 h6
   dsimp only [idxI] at HF
   go_enter Try.func104, Try.ntmps104
   go_upto_region 1 with fail
   generalize w.alloc (.cells #[.slice A ws.length c] 24) = W0 at *
   have p0 := cr 0 K.out.1.1.2
   go_upto_region 4 with (go_at_call 75; refine (HC.out _ K.out.1.2).mono ?_; rw [HX.out]; rintro e w1 ⟨rfl, hb⟩; have K1 := Lib.hid (K.out.on hb); clear hb)
   clear p0
   have p0 := cr 0 K1.out.1.1.2
   go_wp2_with (go_at_call 133; refine (HF.out _ K1.out.1.2).mono ?_; rintro e w2 ⟨rfl, hb⟩; have K2 := Lib.hid (K1.out.on hb); clear hb)
   go_ret2
   exact ⟨rfl, K2.out.1.1.1⟩
  | some x =>
   have h5 : sigE ws id = 0 := by unfold sigE; rw [if_pos hc, hx]; rfl
   have h6 : knI ws id = x := by unfold knI; rw [h5, hx]; rfl
   rw [h5, h6]
   rw [hx] at HF
   have HX := Lib.hid hc
   clear hc hx h5 h6
   dsimp only [idxI] at HF
   have hx0 : ¬ (x : Int) < 0 := by omega
   go_enter Try.func104, Try.ntmps104
   go_upto_region 1 with fail
   generalize w.alloc (.cells #[.slice A ws.length c] 24) = W0 at *
   have p0 := cr 0 K.out.1.1.2
   go_upto_region 4 with (go_at_call 75; refine (HC.out _ K.out.1.2).mono ?_; rw [HX.out]; rintro e w1 ⟨rfl, hb⟩; have K1 := Lib.hid (K.out.on hb); clear hb)
   clear p0
   have p0 := cr 0 K1.out.1.1.2
   go_wp2_with (go_at_call 133; refine (HF.out _ K1.out.1.2).mono ?_; rintro e w2 ⟨rfl, hb⟩; have K2 := Lib.hid (K1.out.on hb); clear hb)
   go_ret2
   exact ⟨rfl, K2.out.1.1.1⟩
 ·have hE : sigE ws id = checkE ws := if_neg hc
  have h6 : knI ws id = 0 := if_neg (by rw [hE]; exact hc)
  rw [hE, h6]
  clear hE h6
  generalize checkE ws = E at *
  have hz : (E != 0) = true := by simpa using hc
  clear hc
  go_enter Try.func104, Try.ntmps104
  go_upto_region 1 with fail
  generalize w.alloc (.cells #[.slice A ws.length c] 24) = W0 at *
  have p0 := cr 0 K.out.1.1.2
  go_wp2_with (go_at_call 75; refine (HC.out _ K.out.1.2).mono ?_; rintro e w1 ⟨rfl, hb⟩; have K1 := Lib.hid (K.out.on hb); clear hb)
  go_ret2
  exact ⟨rfl, K1.out.1.1.1⟩
end Go.Proofs.Ytdadoelajhemjaa
