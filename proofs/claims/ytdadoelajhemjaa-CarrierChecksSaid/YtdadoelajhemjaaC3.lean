/- Walks: the specification's heads. -/
import Derived.Test.YtdadoelajhemjaaC2
namespace Go.Proofs.Ytdadoelajhemjaa
open Go.RowKit Go.Shelf

def hInt (ws : List Car) (t : Nat) : List Int := (headsTo ws t).map (fun n : Nat => (n : Int))
theorem hInt_length (ws : List Car) (t : Nat) : (hInt ws t).length = (headsTo ws t).length := by simp [hInt]
theorem hInt_succ (ws : List Car) (t : Nat) : hInt ws (t + 1) = if (upO ws (t : Int)).isNone = true then hInt ws t ++ [(t : Int)] else hInt ws t := by
 unfold hInt
 rw [headsTo_succ]
 split <;> simp
set_option maxRecDepth 100000 in
set_option maxHeartbeats 1600000 in
theorem rHeads_any (A : Option Addr) (c : Nat) (ws : List Car) (w : World) (h : Wk w A ws) :
  Calls Try.prog 116 #[.agg #[.slice A ws.length c]] w fun e w' => RSlice w (hInt ws ws.length) e w' := by
 obtain ⟨i0, hi0, hz0, hz1, hz2⟩ := info_parts info3
 have n1 := h.n1
 have hb : Below w.heap.size w (w.alloc (.cells #[.slice A ws.length c] 24)) := (Below.refl _ w).alloc (Nat.le_refl _) _
 have K := Lib.hid (((stays_bl hb).and (stays_blk (blk_new w #[.slice A ws.length c] 24 rfl))).and (stays_wk (h.ext hb)))
 have HS := Lib.hid (show w.heap.size ≤ (w.alloc (.cells #[.slice A ws.length c] 24)).heap.size by simp)
 clear hb h
 go_enter Try.func116, Try.ntmps116
 go_upto_region 3 with fail
 generalize w.alloc (.cells #[.slice A ws.length c] 24) = W1 at *
 go_loopg [3, 4] ws.length (fun gg out i wr => ∃ t : Nat, t ≤ ws.length ∧ ws.length - t ≤ gg ∧ i = .int .i64 t ∧ Aside (Below W1.heap.size W1 wr ∧ Own wr W1.heap.size out (hInt ws t)))
 case atStart => exact ⟨0, Nat.zero_le _, by omega, rfl, Below.refl _ _, Own.nil _ _⟩
 case round =>
  rename_i out
  obtain ⟨t, hlt0, hgg, rfl, hA⟩ := hrel
  have HA := Lib.hid hA.out
  clear hA
  obtain ⟨A2, c2, rfl⟩ := HA.out.2.slice rfl
  have p0 := cr 0 (K.out.on HA.out.1).1.1.2
  have hln := headsTo_le ws t
  rw [← hInt_length] at hln
  have HLN := Lib.hid hln
  clear hln
  by_cases hlt : t < ws.length
  ·have hltz : (t : Int) < (ws.length : Int) := by omega
   have HF := Lib.hid (rFeeder_any A c ws (t : Int) wr (K.out.on HA.out.1).1.2)
   cases hu : upO ws (t : Int) with
   | some x =>
    have HU := hd2 (show idxI (upO ws (t : Int)) = (x : Int) by rw [hu]; rfl) (show hInt ws (t + 1) = hInt ws t by rw [hInt_succ, hu]; rfl)
    clear hu
    have hx0 : ¬ (x : Int) < 0 := by omega
    go_wp2_with (go_at_call 113; refine HF.out.mono ?_; rw [HU.out.1]; rintro e w3 ⟨rfl, hb⟩; have HB := Lib.hid hb; clear hb)
    go_roundg (ws.length - (t + 1))
    case measure => omega
    case rel => exact ⟨t + 1, by omega, by omega, by go_num, (show _ ∧ _ from ⟨HA.out.1.trans (HB.out.mono HA.out.1.size), by rw [HU.out.2]; exact HA.out.2.later HB.out⟩)⟩
   | none =>
    have HU := hd2 (show idxI (upO ws (t : Int)) = -1 by rw [hu]; rfl) (show hInt ws (t + 1) = hInt ws t ++ [(t : Int)] by rw [hInt_succ, hu]; rfl)
    clear hu
    go_upto_region 6 with (go_at_call 113; refine HF.out.mono ?_; rw [HU.out.1]; rintro e w3 ⟨rfl, hb⟩; have HB := Lib.hid hb; clear hb)
    have hnew := World.news_of_block (cs := #[.int .i64 (t : Int)]) (t := 3) (fr := (0, 0)) (World.alloc_heap_new w3 (.cells #[.int .i64 (t : Int)] 3))
    have hbA := (Below.refl _ w3).alloc (Nat.le_refl _) (.cells #[.int .i64 (t : Int)] 3)
    have hown := (((HA.out.2.later HB.out).later hbA)).row rfl
    have hbs : W1.heap.size ≤ (w3.alloc (.cells #[.int .i64 (t : Int)] 3)).heap.size := Nat.le_trans HA.out.1.size (Nat.le_trans HB.out.size hbA.size)
    have HN := hd4 hown hnew hbs hbA
    clear hown hnew hbs hbA
    have hl1 : (hInt ws t).length ≤ 1000 := by have := HLN.out; omega
    go_wp2_with (at_builtin; refine wpList_append_own_at _ rfl _ _ 25 rfl W1.heap.size 3 i0 (.int .i64 0) 1 8 Try.underlying25 hi0 hz0 hz1 hz2 rfl (by decide) (.slice A2 (hInt ws t).length c2) (hInt ws t).length _ rfl HN.out.1 ⟨w3.heap.size, 0, none⟩ 1 1 [.int .i64 (t : Int)] rfl (by simp) HN.out.2.1 (by simp [Value.oneCell']) (by unfold maxLen; omega) (by omega) HN.out.2.2.1 ?_; intro v' w9 hown1 hgrow _ _; have hO9 := Own.of_row hown1 rfl; have HP9 := hd2 hO9 hgrow; clear hO9 hown1 hgrow)
    go_roundg (ws.length - (t + 1))
    case measure => omega
    case rel => exact ⟨t + 1, by omega, by omega, by go_num, (show _ ∧ _ from ⟨((HA.out.1.trans (HB.out.mono HA.out.1.size)).trans (HN.out.2.2.2.mono (Nat.le_trans HA.out.1.size HB.out.size))).grown HP9.out.2 (Nat.le_trans HA.out.1.size (Nat.le_trans HB.out.size HN.out.2.2.2.size)) (fun k e => own_block HA.out.2 e), by rw [HU.out.2]; exact HP9.out.1⟩)⟩
  ·have hltz : ¬ (t : Int) < (ws.length : Int) := by omega
   obtain rfl : t = ws.length := by omega
   obtain ⟨A3, c3, e3, hr, hf⟩ := HA.out.2.rd
   cases e3
   have HR := hd3 hr (hf.mono HS.out) (K.out.on HA.out.1).1.1.1
   clear hr hf HA HLN
   go_wp2
   go_ret
   exact ⟨A2, c2, rfl, HR.out.1, HR.out.2.1, HR.out.2.2⟩
end Go.Proofs.Ytdadoelajhemjaa
