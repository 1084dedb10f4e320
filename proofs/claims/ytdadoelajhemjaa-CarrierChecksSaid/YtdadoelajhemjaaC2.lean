/- Walks: the specification's feeder. -/
import Derived.Test.YtdadoelajhemjaaC1
import Derived.Test.YtdadoelajhemjaaB2
namespace Go.Proofs.Ytdadoelajhemjaa
open Go.RowKit Go.Shelf

theorem upO_first {ws : List Car} {d : Int} {k : Nat} (hk : k < (outs ws).length) (h : (oAt (outs ws) k).into = d) (hn : ∀ i, i < k → (oAt (outs ws) i).into ≠ d) : upO ws d = some k := by
 unfold upO
 rw [List.find?_range_eq_some]
 exact ⟨by simpa using h, by simpa using hk, fun i hi => by simpa using hn i hi⟩
theorem upO_not {ws : List Car} {d : Int} (hn : ∀ i, i < (outs ws).length → (oAt (outs ws) i).into ≠ d) : upO ws d = none := by
 unfold upO
 rw [List.find?_eq_none]
 intro i hi
 have := hn i (by simpa using hi)
 simpa using this
set_option maxRecDepth 100000 in
set_option maxHeartbeats 1600000 in
theorem rFeeder_any (A : Option Addr) (c : Nat) (ws : List Car) (d : Int) (w : World) (h : Wk w A ws) :
  Calls Try.prog 113 #[.agg #[.slice A ws.length c], .int .i64 d] w fun e w' => e = .returned (.int .i64 (idxI (upO ws d))) ∧ Below w.heap.size w w' := by
 have n2 := h.n2
 have hb : Below w.heap.size w (w.alloc (.cells #[.slice A ws.length c] 24)) := (Below.refl _ w).alloc (Nat.le_refl _) _
 have K := Lib.hid (((stays_bl hb).and (stays_blk (blk_new w #[.slice A ws.length c] 24 rfl))).and (stays_wk (h.ext hb)))
 clear hb h
 have hf : ∀ x, x < (outs ws).length → (∀ i, i < x → (oAt (outs ws) i).into ≠ d) → (oAt (outs ws) x).into = d → idxI (upO ws d) = x := fun x hx hn he => by rw [upO_first hx he hn]; rfl
 have hz : (∀ i, i < (outs ws).length → (oAt (outs ws) i).into ≠ d) → idxI (upO ws d) = -1 := fun hn => by rw [upO_not hn]; rfl
 have HR := hd2 hf hz
 clear hf hz
 generalize idxI (upO ws d) = R at *
 go_enter Try.func113, Try.ntmps113
 go_upto_region 1 with fail
 generalize w.alloc (.cells #[.slice A ws.length c] 24) = W1 at *
 have p0 := cr 0 K.out.1.1.2
 go_upto_region 3 with (go_at_call 90; refine (rOutlets_any A c ws _ K.out.1.2).mono ?_; rintro e w2 ⟨A2, c2, rfl, hr, -, hb⟩; have HO := hd2 hr (K.out.1.1.1.trans (hb.mono K.out.1.1.1.size)); clear hr hb)
 clear p0 K
 go_loopg [6] (outs ws).length (fun gg i wr => ∃ t : Nat, t ≤ (outs ws).length ∧ (outs ws).length - t ≤ gg ∧ i = .int .i64 t ∧ Aside (Below w2.heap.size w2 wr ∧ ∀ j, j < t → (oAt (outs ws) j).into ≠ d))
 case atStart => exact ⟨0, Nat.zero_le _, by omega, rfl, Below.refl _ _, fun j hj => absurd hj (Nat.not_lt_zero _)⟩
 case round =>
  obtain ⟨t, hlt0, hgg, rfl, hA⟩ := hrel
  have HA := Lib.hid hA.out
  clear hA
  by_cases hlt : t < (outs ws).length
  ·have hltz : (t : Int) < ((outs ws).length : Int) := by omega
   obtain ⟨b, off, rfl, _, hc⟩ := (HO.out.1.ext HA.out.1) (by omega)
   have p1 := (hc t hlt).c1
   clear hc
   by_cases he : (oAt (outs ws) t).into = d
   ·have hR := HR.out.1 t hlt HA.out.2 he
    subst hR
    have hez : ((oAt (outs ws) t).into == d) = true := by rw [he]; simp
    clear he
    go_wp2
    go_ret
    exact ⟨rfl, HO.out.2.trans (HA.out.1.mono HO.out.2.size)⟩
   ·have hez : ((oAt (outs ws) t).into == d) = false := by simpa using he
    have HE := Lib.hid he
    clear he
    go_wp2
    go_roundg ((outs ws).length - (t + 1))
    case measure => omega
    case rel => exact ⟨t + 1, by omega, by omega, by go_num, (show _ ∧ _ from ⟨HA.out.1, fun j hj => by
     by_cases e : j = t
     ·subst e; exact HE.out
     ·exact HA.out.2 j (by omega)⟩)⟩
  ·have hltz : ¬ (t : Int) < ((outs ws).length : Int) := by omega
   obtain rfl : t = (outs ws).length := by omega
   have hR := HR.out.2 HA.out.2
   subst hR
   go_wp2
   go_ret
   exact ⟨rfl, HO.out.2.trans (HA.out.1.mono HO.out.2.size)⟩
end Go.Proofs.Ytdadoelajhemjaa
