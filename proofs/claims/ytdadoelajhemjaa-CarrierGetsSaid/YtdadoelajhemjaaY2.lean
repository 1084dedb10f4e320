/- Walks: given, of the law CarrierGets. -/
import Derived.Test.YtdadoelajhemjaaY1
namespace Go.Proofs.Ytdadoelajhemjaa
open Go.RowKit Go.Shelf

/-- The River of the heads that have the sign 1 is turned. -/
def givF (hs ri : List Int) (r : Int) (t i : Nat) : Int := if i < t ∧ nth hs i = 1 then r else nth ri i
def givL (hs ri : List Int) (r : Int) : List Int := (List.range ri.length).map (givF hs ri r ri.length)
theorem givF_yes {hs ri : List Int} {r : Int} {t : Nat} (h : nth hs t = 1) : put (givF hs ri r t) t r = givF hs ri r (t + 1) := by
 funext i
 unfold put givF
 by_cases e : i = t
 ·subst e; rw [if_pos rfl, if_pos ⟨by omega, h⟩]
 ·rw [if_neg e]
  by_cases hi : i < t
  ·by_cases h1 : nth hs i = 1
   ·rw [if_pos ⟨hi, h1⟩, if_pos ⟨by omega, h1⟩]
   ·rw [if_neg (fun k => h1 k.2), if_neg (fun k => h1 k.2)]
  ·rw [if_neg (fun k => hi k.1), if_neg (fun k => by omega)]
theorem givF_no {hs ri : List Int} {r : Int} {t : Nat} (h : ¬ nth hs t = 1) : givF hs ri r t = givF hs ri r (t + 1) := by
 funext i
 unfold givF
 by_cases e : i = t
 ·subst e; rw [if_neg (fun k => h k.2), if_neg (fun k => h k.2)]
 ·by_cases hi : i < t
  ·by_cases h1 : nth hs i = 1
   ·rw [if_pos ⟨hi, h1⟩, if_pos ⟨by omega, h1⟩]
   ·rw [if_neg (fun k => h1 k.2), if_neg (fun k => h1 k.2)]
  ·rw [if_neg (fun k => hi k.1), if_neg (fun k => by omega)]
theorem givF_zero (hs ri : List Int) (r : Int) : givF hs ri r 0 = nth ri := by
 funext i
 exact if_neg (fun k => absurd k.1 (by omega))
set_option maxRecDepth 100000 in
set_option maxHeartbeats 3200000 in
theorem given_ok (A1 A2 A3 : Option Addr) (bb ob d0 d1 d2 d3 : Nat) (ri bo lk lo : List Int) (B : Option Addr) (e : Nat) (hl : List Int) (v : Int) (w : World) (hs : Wet w ⟨some ⟨bb, ob, none⟩, A1, A2, A3, d0, d1, d2, d3, ri, bo, lk, lo⟩) (hr : Rd w w.heap.size B hl) (hx : hl.length = ri.length) (h0 : 0 < ri.length) :
  Calls Try.prog 42 #[.agg #[.slice (some ⟨bb, ob, none⟩) ri.length d0, .slice A1 bo.length d1, .slice A2 lk.length d2, .slice A3 lo.length d3], .slice B ri.length e, .int .i64 v] w fun e w' => ∃ g9 cp, e = .returned (.agg #[.slice (some ⟨g9, 0, none⟩) ri.length cp, .slice A1 bo.length d1, .slice A2 lk.length d2, .slice A3 lo.length d3]) ∧ Wet w' ⟨some ⟨g9, 0, none⟩, A1, A2, A3, cp, d1, d2, d3, givL hl ri v, bo, lk, lo⟩ ∧ Below w.heap.size w w' := by
 obtain ⟨i0, hi0, hz0, hz1, hz2⟩ := info_parts info3
 have hm : ri.length ≤ 1000 := hs.m0
 have hb : Below w.heap.size w ((w.alloc (.cells #[.slice (some ⟨bb, ob, none⟩) ri.length d0, .slice A1 bo.length d1, .slice A2 lk.length d2, .slice A3 lo.length d3] 27)).alloc (.cells #[.slice none 0 0, .slice none 0 0, .slice none 0 0, .slice none 0 0] 27)) := ((Below.refl _ w).alloc (Nat.le_refl _) _).alloc (by simp) _
 have K := Lib.hid (((stays_bl hb).and (stays_blk (blk_alloc (blk_new w #[.slice (some ⟨bb, ob, none⟩) ri.length d0, .slice A1 bo.length d1, .slice A2 lk.length d2, .slice A3 lo.length d3] 27 rfl) (.cells #[.slice none 0 0, .slice none 0 0, .slice none 0 0, .slice none 0 0] 27)))).and ((stays_blk (g := w.heap.size + 1) (blk_new (w.alloc (.cells #[.slice (some ⟨bb, ob, none⟩) ri.length d0, .slice A1 bo.length d1, .slice A2 lk.length d2, .slice A3 lo.length d3] 27)) #[.slice none 0 0, .slice none 0 0, .slice none 0 0, .slice none 0 0] 27 (by simp))).and (stays_wet (hs.ext hb))))
 have HS := Lib.hid (show (((w.alloc (.cells #[.slice (some ⟨bb, ob, none⟩) ri.length d0, .slice A1 bo.length d1, .slice A2 lk.length d2, .slice A3 lo.length d3] 27)).alloc (.cells #[.slice none 0 0, .slice none 0 0, .slice none 0 0, .slice none 0 0] 27))).heap.size = w.heap.size + 1 + 1 by simp)
 have HW := Lib.hid hs
 obtain ⟨b5, o5, rfl, hlb5, hc5⟩ := hr (by omega)
 have HR := hd3 hlb5 hc5 hx
 clear hb hs hlb5 hc5 hr hx
 go_enter Try.func42, Try.ntmps42
 go_upto_region 1 with fail
 generalize ((w.alloc (.cells #[.slice (some ⟨bb, ob, none⟩) ri.length d0, .slice A1 bo.length d1, .slice A2 lk.length d2, .slice A3 lo.length d3] 27)).alloc (.cells #[.slice none 0 0, .slice none 0 0, .slice none 0 0, .slice none 0 0] 27)) = x3 at *
 have q1 := cr 0 K.out.1.1.2
 have f1 := bf 0 K.out.1.1.2
 have HE := Lib.hid (K.out.on ((Below.refl _ x3).alloc (Nat.le_refl _) (.cells #[] 3)))
 have HN : Hid ((x3.alloc (.cells #[] 3)).ownsRow x3.heap.size 3 1 (.slice (some ⟨x3.heap.size, 0, none⟩) 0 0) 0 [] ∧ (∀ (j : Nat) (u : Value), (ri.map (Value.int .i64))[j]? = some u → (x3.alloc (.cells #[] 3)).cell? ((⟨bb, ob, none⟩ : Addr).add j) = some u) ∧ Below x3.heap.size x3 (x3.alloc (.cells #[] 3))) := by
  refine Lib.hid ⟨⟨rfl, .inr ⟨x3.heap.size, 0, #[], rfl, Nat.le_refl _, World.alloc_heap_new _ _, Nat.le_refl _, by unfold maxLen; omega, rfl, rfl⟩⟩, fun j u hj => ?_, (Below.refl _ x3).alloc (Nat.le_refl _) (.cells #[] 3)⟩
  obtain ⟨hl, rfl⟩ := map_nth hj
  obtain ⟨b', off', e, hlb, hc⟩ := (show Rd _ _ (some ⟨bb, ob, none⟩) ri from HE.out.1.2.2.r0) (by omega)
  simp only [Option.some.injEq, Addr.mk.injEq, and_true] at e
  obtain ⟨rfl, rfl⟩ := e
  rw [add_eq]
  exact hc j hl
 have p2 := cr 0 HE.out.1.1.2
 go_upto_region 2 with (at_builtin; refine wpList_append_own_at _ rfl _ _ 25 rfl x3.heap.size 3 i0 (.int .i64 0) 1 8 Try.underlying25 hi0 hz0 hz1 hz2 rfl (by decide) (.slice (some ⟨x3.heap.size, 0, none⟩) 0 0) 0 [] rfl HN.out.1 ⟨bb, ob, none⟩ ri.length d0 (ri.map (Value.int .i64)) rfl (by simp) HN.out.2.1 (ints_oneCell _ _) (by unfold maxLen; omega) (by omega) HN.out.2.2.size ?_; intro v' w9 hown hgrow _ _; obtain ⟨g9, cp, rfl, hg9, hg9', hI⟩ := own_ints hown (by omega); have hb9 : Below x3.heap.size x3 w9 := (((Below.refl _ x3).alloc (Nat.le_refl _) _).grown hgrow (by simp) (by intro k hk; simp [Value.ownBlock] at hk; omega)); have HB := hd4 hg9 hI hb9 hg9'; have q1 := cr 0 (blk_on K.out.1.1.2 hb9); have f1 := bf 0 (blk_on K.out.1.1.2 hb9); clear hown hgrow hb9 hg9 hI hg9')
 clear p2 q1 f1 HN HE
 have HY := Lib.hid (gvI_of (j := 0) (vs := #[.slice (some ⟨bb, ob, none⟩) ri.length d0, .slice A1 bo.length d1, .slice A2 lk.length d2, .slice A3 lo.length d3]) (cs := #[.slice (some ⟨g9, 0, none⟩) ri.length cp, .slice A1 bo.length d1, .slice A2 lk.length d2, .slice A3 lo.length d3]) (v := .slice (some ⟨g9, 0, none⟩) ri.length cp) (by simp) K.out.1.1.1 K.out.1.1.2 K.out.1.2.1 HS.out HB.out.1 HB.out.2.1 HB.out.2.2.1 HB.out.2.2.2)
 rw [← givF_zero hl ri v] at HY
 clear HB K
 generalize w9.setCell ⟨w.heap.size, 0, none⟩ (.slice (some ⟨g9, 0, none⟩) ri.length cp) = x4 at *
 go_upto_region 3 with fail
 go_loopg [7] ri.length (fun gg i wr => ∃ t : Nat, t ≤ ri.length ∧ ri.length - t ≤ gg ∧ i = .int .i64 t ∧ Aside (GvI w wr #[.slice (some ⟨g9, 0, none⟩) ri.length cp, .slice A1 bo.length d1, .slice A2 lk.length d2, .slice A3 lo.length d3] g9 ri.length (givF hl ri v t)))
 case atStart => exact ⟨0, Nat.zero_le _, by omega, rfl, HY.out⟩
 case round =>
  obtain ⟨t, ht, hgg, rfl, hA⟩ := hrel
  have HA := Lib.hid hA.out
  clear hA HY
  by_cases hlt : t < ri.length
  ·have hltz : (t : Int) < (ri.length : Int) := by omega
   have q5 := (HA.out.bl.cell (p := ⟨b5, o5 + t, none⟩) HR.out.1).trans (HR.out.2.1 t (by have := HR.out.2.2; omega))
   by_cases h1 : nth hl t = 1
   ·have HG := Lib.hid (HA.out.set hlt v)
    rw [givF_yes h1] at HG
    have q1 := cr 0 HA.out.k0
    have q2 := HA.out.kf.at_ t hlt
    have f2 := HA.out.kf.fz t
    rw [h1] at q5
    clear h1
    go_wp2
    go_roundg (ri.length - (t + 1))
    case measure => omega
    case rel => exact ⟨t + 1, by omega, by omega, by go_num, HG.out⟩
   ·have HG := Lib.hid HA.out
    rw [givF_no h1] at HG
    have h1' : (nth hl t == 1) = false := by simpa using h1
    go_wp2
    go_roundg (ri.length - (t + 1))
    case measure => omega
    case rel => exact ⟨t + 1, by omega, by omega, by go_num, HG.out⟩
  ·have hltz : ¬ (t : Int) < (ri.length : Int) := by omega
   obtain rfl : t = ri.length := by omega
   have q0 := cr 0 HA.out.k0
   have q1 := cr 1 HA.out.k0
   have q2 := cr 2 HA.out.k0
   have q3 := cr 3 HA.out.k0
   go_wp2_with (refine wpList_store_mid rfl 27 (.tmp 6) (.tmp 29) rfl (w.heap.size + 1) 0 _ rfl rfl (show World.there _ _ 0 4 from blk_there HA.out.kr) (by kernel_rfl) (by simp [Value.oneCell']) ?_)
   have hBF := setCells_blk HA.out.kr [.slice (some ⟨g9, 0, none⟩) ri.length cp, .slice A1 bo.length d1, .slice A2 lk.length d2, .slice A3 lo.length d3] rfl
   have hbe := setCells_below (m := w.heap.size) (b := w.heap.size + 1) (by omega) [.slice (some ⟨g9, 0, none⟩) ri.length cp, .slice A1 bo.length d1, .slice A2 lk.length d2, .slice A3 lo.length d3] 0 _ HA.out.bl
   have hw := HW.out.ext hbe
   have hgl : (givL hl ri v).length = ri.length := by simp [givL]
   refine bodyPost_ret (results_cell1 Try.results42 _ _ ⟨w.heap.size + 1, 0, none⟩ _ (by rfl) (run_loadVar_mid _ _ 0 _ _ _ (blk_range hBF) Try.underlying27 rfl (by kernel_rfl))) rfl ⟨g9, cp, rfl, ⟨?_, hw.r1, hw.r2, hw.r3, by show (givL hl ri v).length ≤ 1000; rw [hgl]; exact hm, hw.m1, hw.m2, hw.m3⟩, hbe⟩
   refine IntF.rd (f := givF hl ri v ri.length) (by rw [hgl]; exact HA.out.kf.heap (setCells_oth (by have := HA.out.lo; omega) _ _ _)) (by rw [setCells_size]; exact HA.out.hi) (fun j hj => (nth_range _ (by rw [hgl] at hj; exact hj)).symm)
theorem given_any (s : Wt) (B : Option Addr) (e : Nat) (hl : List Int) (v : Int) (w : World) (hs : Wet w s) (hr : Rd w w.heap.size B hl) (hx : hl.length = s.ri.length) (h0 : 0 < s.ri.length) :
  Calls Try.prog 42 #[s.v, .slice B s.ri.length e, .int .i64 v] w fun e w' => ∃ s' : Wt, e = .returned s'.v ∧ Wet w' s' ∧ (s'.ri = givL hl s.ri v ∧ s'.bo = s.bo ∧ s'.lk = s.lk ∧ s'.lo = s.lo) ∧ Below w.heap.size w w' := by
 obtain ⟨A0, A1, A2, A3, d0, d1, d2, d3, ri, bo, lk, lo⟩ := s
 obtain ⟨bb, ob, rfl, -, -⟩ := (show Rd w w.heap.size A0 ri from hs.r0) h0
 refine (given_ok A1 A2 A3 bb ob d0 d1 d2 d3 ri bo lk lo B e hl v w hs hr hx h0).mono (fun e w' h => ?_)
 obtain ⟨g9, cp, rfl, hw, hb⟩ := h
 exact ⟨_, by simp [Wt.v, givL], hw, ⟨rfl, rfl, rfl, rfl⟩, hb⟩
end Go.Proofs.Ytdadoelajhemjaa
