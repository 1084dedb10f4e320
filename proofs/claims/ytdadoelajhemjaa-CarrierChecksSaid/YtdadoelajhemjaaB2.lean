/- Walks: place of the laws. -/
import Derived.Test.YtdadoelajhemjaaM12
namespace Go.Proofs.Ytdadoelajhemjaa
open Go.RowKit Go.Shelf

def idxI (o : Option Nat) : Int := match o with | some x => x | none => -1
set_option maxRecDepth 100000 in
set_option maxHeartbeats 1600000 in
theorem place_any (A : Option Addr) (c : Nat) (ws : List Car) (id : Int) (w : World) (h : Wk w A ws) :
  Calls Try.prog 39 #[.agg #[.slice A ws.length c], .int .i64 id] w fun e w' => e = .returned (.int .i64 (idxI (idxO ws id))) ∧ Below w.heap.size w w' := by
 obtain ⟨hrd, n1, n2, _⟩ := h
 have hb0 : Below w.heap.size w (w.alloc (.cells #[.slice A ws.length c] 24)) := (Below.refl _ w).alloc (Nat.le_refl _) _
 have HK := hd3 hb0 (show Blk (w.alloc (.cells #[.slice A ws.length c] 24)) w.heap.size #[.slice A ws.length c] 24 from blk_new _ _ _ rfl) (hrd.ext hb0)
 clear hrd hb0
 have hf : ∀ x, x < (outs ws).length → (∀ i, i < x → (oAt (outs ws) i).id ≠ id) → (oAt (outs ws) x).id = id → idxI (idxO ws id) = x := fun x hx hn he => by rw [idxO_first hx he hn]; rfl
 have hz : (∀ i, i < (outs ws).length → (oAt (outs ws) i).id ≠ id) → idxI (idxO ws id) = -1 := fun hn => by rw [idxO_none (fun y => hn y.1 y.2)]; rfl
 have HR := hd2 hf hz
 clear hf hz
 generalize idxI (idxO ws id) = R at *
 go_enter Try.func39, Try.ntmps39
 go_upto_region 3 with fail
 generalize w.alloc (.cells #[.slice A ws.length c] 24) = W1 at *
 go_loopg [5, 6, 7] ws.length (fun gg n i _ wr => ∃ t : Nat, t ≤ ws.length ∧ ws.length - t ≤ gg ∧ i = .int .i64 t ∧ n = .int .i64 ((start ws t : Nat) : Int) ∧ Aside (Below W1.heap.size W1 wr ∧ ∀ j, j < start ws t → (oAt (outs ws) j).id ≠ id))
 case atStart => exact ⟨0, Nat.zero_le _, by omega, rfl, rfl, Below.refl _ _, fun j hj => absurd hj (Nat.not_lt_zero _)⟩
 case round =>
  obtain ⟨t, hlt0, hgg, rfl, rfl, hA⟩ := hrel
  have HA := Lib.hid hA.out
  clear hA
  have p0 := cr 0 (blk_on HK.out.2.1 HA.out.1)
  by_cases hlt : t < ws.length
  ·have hltz : (t : Int) < (ws.length : Int) := by omega
   obtain ⟨b, off, rfl, hbl, hcs⟩ := HK.out.2.2 (by omega)
   have p1 := (HA.out.1.cell (p := ⟨b, off + t, none⟩) hbl).trans (hcs t hlt).1
   have HO := Lib.hid ((hcs t hlt).2.ext HA.out.1)
   clear hcs
   generalize (cAt ws t).A = A2 at *
   have hls := start_succ hlt
   have hlm : start ws (t + 1) ≤ (outs ws).length := by rw [← start_all]; exact start_mono hlt (Nat.le_refl _)
   go_upto_region 6 with fail
   have q0 : wr.cell? ⟨w.heap.size, 0, none⟩ = some (.slice (some ⟨b, off, none⟩) ws.length c) := p0
   have q1 := p1
   clear p0 p1
   have HB := Lib.hid HA.out.1
   have HF := Lib.hid HA.out.2
   clear HA
   generalize wr = w5 at *
   go_loopg [5, 7] (cAt ws t).os.length (fun gg n k wr => ∃ d : Nat, d ≤ (cAt ws t).os.length ∧ (cAt ws t).os.length - d ≤ gg ∧ k = .int .i64 d ∧ n = .int .i64 ((start ws t + d : Nat) : Int) ∧ Aside (Below w5.heap.size w5 wr ∧ ∀ j, j < start ws t + d → (oAt (outs ws) j).id ≠ id))
   case atStart => exact ⟨0, Nat.zero_le _, by omega, rfl, rfl, Below.refl _ _, HF.out⟩
   case round =>
    obtain ⟨d, hd0, hdg, rfl, rfl, hC⟩ := hrel
    have HC := Lib.hid hC.out
    clear hC
    have p0 := (HC.out.1.cell (p := ⟨w.heap.size, 0, none⟩) (lt_of_cell q0)).trans q0
    have p1 := (HC.out.1.cell (p := ⟨b, off + t, none⟩) (lt_of_cell q1)).trans q1
    by_cases hdl : d < (cAt ws t).os.length
    ·have hdz : (d : Int) < ((cAt ws t).os.length : Int) := by omega
     obtain ⟨b2, o2, rfl, _, hc2⟩ := (HO.out.ext HC.out.1) (by omega)
     have p2 := (hc2 d hdl).c0
     clear hc2
     have hx0 : start ws t + d < (outs ws).length := start_lt hlt hdl
     have HIN := Lib.hid (oAt_outs hlt hdl)
     generalize hx : start ws t + d = x at *
     have HX := Lib.hid hx
     clear hx
     by_cases he : (oAt (cAt ws t).os d).id = id
     ·have hR := HR.out.1 x hx0 HC.out.2 (by rw [HIN.out]; exact he)
      subst hR
      have hez : ((oAt (cAt ws t).os d).id == id) = true := by rw [he]; simp
      clear he
      go_wp2
      go_ret
      exact ⟨rfl, HK.out.1.trans ((HB.out.trans (HC.out.1.mono HB.out.size)).mono HK.out.1.size)⟩
     ·have hez : ((oAt (cAt ws t).os d).id == id) = false := by simpa using he
      have HE := Lib.hid he
      clear he
      go_wp2
      go_roundg ((cAt ws t).os.length - (d + 1))
      case measure => omega
      case rel => exact ⟨d + 1, by omega, by omega, by go_num, by rw [← Nat.add_assoc, HX.out]; go_num, (show _ ∧ _ from ⟨HC.out.1, fun j hj => by
       rw [← Nat.add_assoc, HX.out] at hj
       by_cases e : j = x
       ·subst e; rw [HIN.out]; exact HE.out
       ·exact HC.out.2 j (by omega)⟩)⟩
    ·have hdz : ¬ (d : Int) < ((cAt ws t).os.length : Int) := by omega
     obtain rfl : d = (cAt ws t).os.length := by omega
     have HL := Lib.hid hls
     clear hls
     go_wp2
     go_roundg (ws.length - (t + 1))
     case measure => omega
     case rel => exact ⟨t + 1, by omega, by omega, by go_num, by rw [HL.out, Int.natCast_add], (show _ ∧ _ from ⟨HB.out.trans (HC.out.1.mono HB.out.size), by rw [HL.out]; exact HC.out.2⟩)⟩
  ·have hltz : ¬ (t : Int) < (ws.length : Int) := by omega
   obtain rfl : t = ws.length := by omega
   have hR := HR.out.2 (by rw [← start_all]; exact HA.out.2)
   subst hR
   go_wp2
   go_ret
   exact ⟨rfl, HK.out.1.trans (HA.out.1.mono HK.out.1.size)⟩
end Go.Proofs.Ytdadoelajhemjaa
