/- Walks: SameSpans, of one list twice. -/
import Derived.Test.YtdadoelajhemjaaQ2
import Derived.Test.YtdadoelajhemjaaM12
namespace Go.Proofs.Ytdadoelajhemjaa
open Go.RowKit Go.Shelf

set_option maxRecDepth 100000 in
set_option maxHeartbeats 800000 in
theorem spans_yes (A B : Option Addr) (c d : Nat) (l : List Sp) (w : World) (h1 : RdS w w.heap.size A l) (h2 : RdS w w.heap.size B l) (hm : l.length ≤ 1000) :
  Calls Try.prog 59 #[.slice A l.length c, .slice B l.length d] w fun e w' => e = .returned (.bool true) ∧ Below w.heap.size w w' := by
 have HR := hd2 h1 h2
 clear h1 h2
 go_enter Try.func59, Try.ntmps59
 go_upto_region 4 with fail
 go_loopg [5] l.length (fun gg i wr => ∃ t : Nat, t ≤ l.length ∧ l.length - t ≤ gg ∧ i = .int .i64 t ∧ Aside (Below w.heap.size w wr))
 case atStart => exact ⟨0, Nat.zero_le _, by omega, rfl, Below.refl _ _⟩
 case round =>
  obtain ⟨t, ht, hgg, rfl, hA⟩ := hrel
  have HA := Lib.hid hA.out
  clear hA
  by_cases hlt : t < l.length
  ·have hltz : (t : Int) < (l.length : Int) := by omega
   obtain ⟨b0, o0, rfl, l0, k0⟩ := HR.out.1 (by omega)
   obtain ⟨b1, o1, rfl, l1, k1⟩ := HR.out.2 (by omega)
   have hd := HA.out.drew
   have x0 := (hd.cell (p := ⟨b0, o0 + t * 2, none⟩) l0).trans (k0 t hlt).c0
   have x1 := (hd.cell (p := ⟨b0, o0 + t * 2 + 1, none⟩) l0).trans (k0 t hlt).c1
   have y0 := (hd.cell (p := ⟨b1, o1 + t * 2, none⟩) l1).trans (k1 t hlt).c0
   have y1 := (hd.cell (p := ⟨b1, o1 + t * 2 + 1, none⟩) l1).trans (k1 t hlt).c1
   have HB := Lib.hid hd
   generalize (sAt l t).1 = lo at *
   generalize (sAt l t).2 = hi at *
   clear k0 k1 hd
   go_upto_region 6 with fail
   refine wp_region_R (fun _ => true) ?_
   generalize wr.drew = X0 at *
   refine bF 0 rfl ?_
   refine bF 1 rfl ?_
   refine bF 2 rfl ?_
   refine bF 4 rfl ?_
   refine bF 5 rfl ?_
   refine bF 6 rfl ?_
   refine bP x0 x1 3 rfl ?_
   refine bP y0 y1 7 rfl ?_
   refine bF 8 rfl ?_
   refine bD ?_
   clear x0 x1 y0 y1
   go_wp2
   go_roundg (l.length - (t + 1))
   case measure => omega
   case rel => exact ⟨t + 1, by omega, by omega, by go_num, HB.out⟩
  ·have hltz : ¬ (t : Int) < (l.length : Int) := by omega
   obtain rfl : t = l.length := by omega
   go_wp2
   go_ret
   exact ⟨rfl, HA.out⟩
end Go.Proofs.Ytdadoelajhemjaa
