/- Walks: fedCarrier. -/
import Derived.Test.YtegmniphgahblaaGreatM9
import Derived.Test.YtegmniphgahblaaGreatM10
namespace Go.Proofs.YtegmniphgahblaaGreat
open Go.RowKit Go.Shelf

/-- The carrier of an outlet; -1 if there is none. -/
def fcI (ws : List Car) (id : Int) : Int := match idxO ws id with | some x => (caAt ws x : Int) | none => -1
set_option maxRecDepth 100000 in
theorem fedCarrier_any (A : Option Addr) (c : Nat) (ws : List Car) (id : Int) (w : World) (h : Wk w A ws) :
  Calls Tryz.prog 23 #[.agg #[.slice A ws.length c], .int .i64 id] w fun e w' => e = .returned (.int .i64 (fcI ws id)) ∧ Below w.heap.size w w' := by
 have hb1 := (Below.refl _ w).alloc (Nat.le_refl _) (.cells #[.slice A ws.length c] 24)
 have HK := hd3 hb1 (blk_new w (g := w.heap.size) #[.slice A ws.length c] 24 rfl) h.rd
 have hn1 := h.n1
 have hn2 := h.n2
 clear hb1 h
 go_enter Tryz.func23, Tryz.ntmps23
 go_upto_region 1 with fail
 generalize w.alloc (.cells #[.slice A ws.length c] 24) = W at *
 have r0 := cr 0 HK.out.2.1
 go_upto_region 2 with fail
 go_loopg [5] ws.length (fun gg i wr => ∃ t : Nat, t ≤ ws.length ∧ ws.length - t ≤ gg ∧ i = .int .i64 (t : Int) ∧ W = wr ∧ Aside (∀ j, j < start ws t → (oAt (outs ws) j).id ≠ id))
 case atStart => exact ⟨0, Nat.zero_le _, Nat.le_refl _, by go_num, rfl, fun j hj => absurd hj (by rw [start_zero]; omega)⟩
 case round =>
  obtain ⟨t, ht, hgg, rfl, rfl, hA⟩ := hrel
  have HA := Lib.hid hA.out
  clear hA
  by_cases hlt : t < ws.length
  ·have hltz : (t : Int) < (ws.length : Int) := by omega
   obtain ⟨b, off, rfl, lb, hc⟩ := HK.out.2.2 (by omega)
   obtain ⟨k0, hO⟩ := hc t hlt
   have k1 := (HK.out.1.cell (p := ⟨b, off + t, none⟩) lb).trans k0
   have hs := start_succ hlt
   have hle := start_mono (ws := ws) (c := t + 1) (d := ws.length) hlt (Nat.le_refl _)
   rw [start_all] at hle
   have HO := Lib.hid (fun k (hk : k < (cAt ws t).os.length) => (show oAt (outs ws) (start ws t + k) = oAt (cAt ws t).os k ∧ caAt ws (start ws t + k) = t from ⟨oAt_outs hlt hk, caAt_start hlt hk⟩))
   have HL := Lib.hid (fun k (hk : k < (cAt ws t).os.length) => start_lt hlt hk)
   have HR2 := Lib.hid hO
   have HS := Lib.hid hs
   have hm1 : (cAt ws t).os.length ≤ 1000 := by omega
   clear hc hO k0 hs
   generalize hA1 : (cAt ws t).A = A1 at *
   generalize hc1 : (cAt ws t).c = c1 at *
   generalize hos : (cAt ws t).os = os at *
   go_upto_region 5 with fail
   go_loopg [6] os.length (fun gg i wr => ∃ k : Nat, k ≤ os.length ∧ os.length - k ≤ gg ∧ i = .int .i64 (k : Int) ∧ W = wr ∧ Aside (∀ j, j < start ws t + k → (oAt (outs ws) j).id ≠ id))
   case atStart => exact ⟨0, Nat.zero_le _, Nat.le_refl _, by go_num, rfl, fun j hj => HA.out j (by omega)⟩
   case round =>
    obtain ⟨k, hk, hgk, rfl, rfl, hB⟩ := hrel
    have HB := Lib.hid hB.out
    clear hB
    by_cases hlk : k < os.length
    ·have hlkz : (k : Int) < (os.length : Int) := by omega
     obtain ⟨b', off', rfl, lb', hc'⟩ := HR2.out (by omega)
     have q0 := (HK.out.1.cell (p := ⟨b', off' + k * 7, none⟩) lb').trans (hc' k hlk).c0
     have hoo := (HO.out k hlk).1
     clear hc'
     by_cases he : (oAt os k).id = id
     ·have hE : fcI ws id = (t : Int) := by
       unfold fcI
       rw [idxO_first (HL.out k hlk) (by rw [hoo]; exact he) HB.out]
       show ((caAt ws (start ws t + k) : Nat) : Int) = t
       rw [(HO.out k hlk).2]
      have HE := Lib.hid hE
      have he2 : ((oAt os k).id == id) = true := by simpa using he
      clear hE hoo
      go_wp2
      go_ret
      exact ⟨by rw [HE.out]; rfl, HK.out.1⟩
     ·have HN := Lib.hid (show ∀ j, j < start ws t + (k + 1) → (oAt (outs ws) j).id ≠ id from fun j hj => by
       by_cases e : j = start ws t + k
       ·rw [e, hoo]; exact he
       ·exact HB.out j (by omega))
      have he2 : ((oAt os k).id == id) = false := by simpa using he
      clear hoo
      go_wp2
      go_roundg (os.length - (k + 1))
      case measure => omega
      case rel => exact ⟨k + 1, by omega, by omega, by go_num, rfl, HN.out⟩
    ·obtain rfl : k = os.length := by omega
     have HN := Lib.hid (show ∀ j, j < start ws (t + 1) → (oAt (outs ws) j).id ≠ id from fun j hj => HB.out j (by rw [HS.out] at hj; exact hj))
     go_wp2
     go_roundg (ws.length - (t + 1))
     case measure => omega
     case rel => exact ⟨t + 1, by omega, by omega, by go_num, rfl, HN.out⟩
  ·obtain rfl : t = ws.length := by omega
   have hE : fcI ws id = -1 := by
    unfold fcI
    rw [idxO_none (fun y => HA.out y.1 (by rw [start_all]; exact y.2))]
   have HE := Lib.hid hE
   clear hE
   go_wp2
   go_ret
   exact ⟨by rw [HE.out]; rfl, HK.out.1⟩
end Go.Proofs.YtegmniphgahblaaGreat
