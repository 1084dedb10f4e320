/- Walks: Heads (with the specification's list). -/
import Derived.Test.YtdadoelajhemjaaJ10
import Derived.Test.YtdadoelajhemjaaJ8
namespace Go.Proofs.Ytdadoelajhemjaa
open Go.RowKit Go.Shelf

set_option maxRecDepth 100000 in
set_option maxHeartbeats 1600000 in
theorem Heads2_any (A : Option Addr) (c : Nat) (ws : List Car) (w : World) (h : Wk w A ws) :
  Calls Try.prog 62 #[.agg #[.slice A ws.length c]] w fun e w' => ∃ A' c', e = .returned (.tuple #[.slice A' (hd2L ws).length c', .int .i64 (checkE ws)]) ∧ Rd w' w'.heap.size A' (hd2L ws) ∧ Below w.heap.size w w' := by
 have hb : Below w.heap.size w (w.alloc (.cells #[.slice A ws.length c] 24)) := (Below.refl _ w).alloc (Nat.le_refl _) _
 have K := Lib.hid (((stays_bl hb).and (stays_blk (blk_new w #[.slice A ws.length c] 24 rfl))).and (stays_wk (h.ext hb)))
 have hck := fun W hW => Check_any A c ws W hW
 by_cases h0 : checkE ws = 0
 ·have hL : hd2L ws = hInt ws ws.length := if_pos h0
  have hh := fun W hW => heads_any A c ws W hW (good_of_check h0)
  rw [h0] at hck ⊢
  rw [hL]
  have HC := hd2 hck hh
  clear hb h hck hh h0 hL
  go_enter Try.func62, Try.ntmps62
  go_upto_region 1 with fail
  generalize (w.alloc (.cells #[.slice A ws.length c] 24)) = W1 at *
  have p0 := cr 0 K.out.1.1.2
  go_upto_region 4 with (go_at_call 74; refine (HC.out.1 _ K.out.1.2).mono ?_; rintro e w2 ⟨rfl, hb⟩; have K1 := Lib.hid (K.out.on hb); clear hb)
  clear p0 K
  have p0 := cr 0 K1.out.1.1.2
  go_wp2_with (go_at_call 98; refine (HC.out.2 _ K1.out.1.2).mono ?_; rintro e w3 ⟨A', c', rfl, hr, -, hb⟩; have K2 := Lib.hid ((K1.out.on hb).and (stays_rd hr)); clear hb hr)
  go_ret2
  exact ⟨A', c', rfl, K2.out.1.2, K2.out.1.1.1.1⟩
 ·have hL : hd2L ws = [] := if_neg h0
  rw [hL]
  generalize checkE ws = E at *
  have HC := Lib.hid hck
  have hz : (E != 0) = true := by simpa using h0
  clear hb h hck h0 hL
  go_enter Try.func62, Try.ntmps62
  go_upto_region 1 with fail
  generalize (w.alloc (.cells #[.slice A ws.length c] 24)) = W1 at *
  have p0 := cr 0 K.out.1.1.2
  go_wp2_with (go_at_call 74; refine (HC.out _ K.out.1.2).mono ?_; rintro e w2 ⟨rfl, hb⟩; have K1 := Lib.hid (K.out.on hb); clear hb)
  go_ret2
  exact ⟨none, 0, rfl, Rd.nil, K1.out.1.1.1⟩
theorem sgL_le2 {ws : List Car} {id : Int} (f : List Car → Nat → List Int) (h : Good ws → ∀ x, x < (outs ws).length → (f ws x).length ≤ 1000) : (sgL ws id f).length ≤ 1000 := by
 by_cases h0 : sigE ws id = 0
 ·obtain ⟨g, x, hx, hxl, hl⟩ := sig_zero h0
  rw [hl]
  exact h g x hxl
 ·rw [sgL_no h0]; exact Nat.zero_le _
theorem ints_small {ws : List Car} {id : Int} (n1 : ws.length ≤ 1000) (n2 : (outs ws).length ≤ 1000) : (hd2L ws).length ≤ 1000 ∧ (idL ws).length ≤ 1000 ∧ (bdL ws).length ≤ 1000 ∧ (sgL ws id ptX).length ≤ 1000 ∧ (sgL ws id blX).length ≤ 1000 := by
 have hk : ∀ p, (kpL ws p).length ≤ 1000 := fun p => Nat.le_trans (kpTo_length ws p _) n2
 refine ⟨?_, ?_, ?_, sgL_le2 _ fun g x hx => ?_, sgL_le2 _ fun g x hx => hk _⟩
 ·unfold hd2L
  by_cases h0 : checkE ws = 0
  ·rw [if_pos h0, hInt_length]; exact Nat.le_trans (headsTo_le ws ws.length) n1
  ·rw [if_neg h0]; exact Nat.zero_le _
 ·unfold idL
  by_cases h0 : checkE ws = 0
  ·rw [if_pos h0]; exact hk _
  ·rw [if_neg h0]; exact Nat.zero_le _
 ·unfold bdL
  by_cases h0 : checkE ws = 0
  ·rw [if_pos h0]; exact hk _
  ·rw [if_neg h0]; exact Nat.zero_le _
 ·have h1 := upList_len g _ x rfl
  have h2 := caAt_lt hx
  unfold ptX
  rw [List.length_map]
  unfold pathN
  rw [List.length_reverse]
  omega
end Go.Proofs.Ytdadoelajhemjaa
