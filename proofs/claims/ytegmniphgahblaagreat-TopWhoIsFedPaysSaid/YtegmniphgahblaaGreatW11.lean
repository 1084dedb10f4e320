/- Walks: shares. -/
import Derived.Test.YtegmniphgahblaaGreatW9
import Derived.Test.YtegmniphgahblaaGreatW10
namespace Go.Proofs.YtegmniphgahblaaGreat
open Go.RowKit Go.Shelf

def shL (S : Nat) : List Value := [.int .i64 ((ratN S lcmT : Nat) : Int), .int .i64 ((ratD S lcmT : Nat) : Int)]
def shTo (rs : List Rch) (ps : List Pay) (k : Nat) : List Nat := (List.range k).map (shN rs ps)
theorem shTo_succ (rs : List Rch) (ps : List Pay) (k : Nat) : shTo rs ps (k + 1) = shTo rs ps k ++ [shN rs ps k] := by simp [shTo, List.range_succ]
theorem shTo_length (rs : List Rch) (ps : List Pay) (k : Nat) : (shTo rs ps k).length = k := by simp [shTo]
abbrev OwnT (w : World) (base : Nat) (v : Value) (l : List Nat) : Prop := OwnK 55 2 shL w base v l
theorem info_ratio : (Tryz.prog.info? 55).map (fun i => (i.zero, i.size, i.bytes)) = some (some (.agg #[.int .i64 0, .int .i64 0]), 2, 16) := by kernel_rfl
theorem news2 {W : World} {g : Nat} {x y : Value} {ty : TypeId} (h : Blk W g #[x, y] ty) : ∀ j u, [x, y][j]? = some u → W.cell? ((⟨g, 0, none⟩ : Addr).add j) = some u := fun j u hj => by
 match j, hj with
 | 0, hj => cases hj; exact cr 0 h
 | 1, hj => cases hj; rw [add_eq]; exact cr 1 h
set_option maxRecDepth 100000 in
set_option maxHeartbeats 1600000 in
theorem shares_any (t : Tr) (ok : RsOk t.rs) (pk : PsOk t.rs t.ps) (w : World) (ht : TrAt w w.heap.size t) :
  Calls Tryz.prog 29 #[t.v] w fun e w' => ∃ A c, e = .returned (.slice A t.ps.length c) ∧ OwnT w' w.heap.size (.slice A t.ps.length c) (shTo t.rs t.ps t.ps.length) ∧ Below w.heap.size w w' := by
 obtain ⟨A, c, rs, B, d, ps⟩ := t
 dsimp only [Tr.v] at *
 have hpn := pk.n
 have hb1 : Below w.heap.size w (w.alloc (.cells #[.slice A rs.length c, .slice B ps.length d] 42)) := (Below.refl _ w).alloc (Nat.le_refl _) _
 have K := Lib.hid ((stays_bl hb1).and (stays_blk (blk_new w #[.slice A rs.length c, .slice B ps.length d] 42 rfl)))
 have HT := hd3 ht ok pk
 obtain ⟨i0, hi0, hz0, hz1, hz2⟩ := info_parts info_ratio
 clear hb1 ht ok pk
 go_enter Tryz.func29, Tryz.ntmps29
 go_upto_region 3 with fail
 generalize (w.alloc (.cells #[.slice A rs.length c, .slice B ps.length d] 42)) = W0 at *
 have hsz0 : w.heap.size ≤ W0.heap.size := K.out.1.1.size
 go_loopg [3, 9] ps.length (fun gg s i wr => ∃ t : Nat, t ≤ ps.length ∧ ps.length - t ≤ gg ∧ i = .int .i64 t ∧ ∃ A2 c2, s = .slice A2 t c2 ∧ Aside (Below W0.heap.size W0 wr ∧ OwnT wr W0.heap.size (.slice A2 t c2) (shTo rs ps t)))
 case atStart => exact ⟨0, Nat.zero_le _, by omega, rfl, none, 0, rfl, Below.refl _ _, OwnK.nil _ _ _ _ _⟩
 case round =>
  obtain ⟨t, ht, hgg, rfl, A2, c2, rfl, hA⟩ := hrel
  have HA := Lib.hid hA.out
  clear hA
  have K5 := Lib.hid (K.out.on HA.out.1)
  by_cases hlt : t < ps.length
  ·have hltz : (t : Int) < (ps.length : Int) := by omega
   have hs := shTo_succ rs ps t
   have hln := shTo_length rs ps t
   obtain ⟨b, off, rfl, lb, hc⟩ := HT.out.1.p (by show 0 < ps.length; omega)
   obtain ⟨q0, q1, q2⟩ := hc t hlt
   have p0 := (K5.out.1.1.cell (p := ⟨b, off + t * 3, none⟩) lb).trans q0
   have p1 := (K5.out.1.1.cell (p := ⟨b, off + t * 3 + 1, none⟩) lb).trans q1
   have p2 := (K5.out.1.1.cell (p := ⟨b, off + t * 3 + 2, none⟩) lb).trans q2
   clear q0 q1 q2 hc
   go_upto_region 5 with fail
   have hb6 := (Below.refl _ wr).alloc (Nat.le_refl _) (.cells #[.int .i64 (yAt ps t).id, .int .i64 (yAt ps t).rc, .int .i64 (yAt ps t).wt] 53)
   have K6 := Lib.hid ((K5.out.on hb6).and (stays_blk (blk_new wr #[.int .i64 (yAt ps t).id, .int .i64 (yAt ps t).rc, .int .i64 (yAt ps t).wt] 53 rfl)))
   have HB6 := Lib.hid hb6
   have hsh := share_any ⟨A, c, rs, some ⟨b, off, none⟩, d, ps⟩ HT.out.2.1 HT.out.2.2 t hlt _ ((HT.out.1.ext K6.out.1.1.1 (Nat.le_refl _)).mono K6.out.1.1.1.size)
   have HSH := Lib.hid hsh
   have HS := hd2 hs hln
   clear hb6 hsh hs hln p0 p1 p2
   generalize wr.alloc (.cells #[.int .i64 (yAt ps t).id, .int .i64 (yAt ps t).rc, .int .i64 (yAt ps t).wt] 53) = w6 at *
   have hle6 := HB6.out.size
   have hle0 := HA.out.1.size
   have r0 := cr 0 K6.out.1.1.2
   have r1 := cr 1 K6.out.1.1.2
   have y0 := cr 0 K6.out.1.2
   have y1 := cr 1 K6.out.1.2
   have y2 := cr 2 K6.out.1.2
   go_wp2_with first
    | (go_at_call 64; go_loud (refine HSH.out.mono ?_; rintro e w5 ⟨rfl, hb⟩; dsimp only [shC]; have hbA := (Below.refl _ w5).alloc (Nat.le_refl _) (.cells #[.int .i64 ((ratN (shN rs ps t) lcmT : Nat) : Int), .int .i64 ((ratD (shN rs ps t) lcmT : Nat) : Int)] 55); have hown := (HA.out.2.later (HB6.out.trans (hb.mono hle6))).later hbA; have HN := hd3 (hown.row HS.out.2) (news2 (blk_new w5 #[.int .i64 ((ratN (shN rs ps t) lcmT : Nat) : Int), .int .i64 ((ratD (shN rs ps t) lcmT : Nat) : Int)] 55 rfl)) (HB6.out.trans ((hb.trans (hbA.mono hb.size)).mono hle6)); clear hown))
    | (at_builtin; go_loud (refine wpList_append_own_at _ rfl _ _ 49 rfl W0.heap.size 55 i0 (.agg #[.int .i64 0, .int .i64 0]) 2 16 Tryz.underlying49 hi0 hz0 hz1 hz2 rfl (by decide) (.slice A2 t c2) t _ rfl HN.out.1 ⟨w5.heap.size, 0, none⟩ 1 1 [.int .i64 ((ratN (shN rs ps t) lcmT : Nat) : Int), .int .i64 ((ratD (shN rs ps t) lcmT : Nat) : Int)] rfl (by simp) HN.out.2.1 (by simp [Value.oneCell']) (by unfold maxLen; omega) (by omega) (Nat.le_trans (Nat.le_trans hle0 hle6) (Nat.le_trans hb.size hbA.size)) ?_; intro v' w9 hown1 hgrow _ _; have hO9 : OwnT w9 W0.heap.size v' (shTo rs ps t ++ [shN rs ps t]) := OwnK.of_row (y := shN rs ps t) hown1 (by rw [HS.out.2]); have HP9 := hd2 hO9 hgrow; clear hO9 hown1 hgrow))
   obtain ⟨A', c', rfl⟩ := HP9.out.1.slice (n := t + 1) (by rw [List.length_append, HS.out.2]; rfl)
   go_wp2
   go_roundg (ps.length - (t + 1))
   case measure => omega
   case rel => exact ⟨t + 1, by omega, by omega, by go_num, A', c', rfl, by rw [HS.out.1]; exact (show _ ∧ _ from ⟨(HA.out.1.trans (HN.out.2.2.mono hle0)).grown HP9.out.2 (by have := hb.size; have := hbA.size; omega) (fun k e => (HA.out.2.blkIs e).1), HP9.out.1⟩)⟩
  ·obtain rfl : t = ps.length := by omega
   have HF := hd2 (HA.out.2) K5.out.1.1
   go_wp2
   go_ret
   exact ⟨A2, c2, rfl, ⟨HF.out.1.1, HF.out.1.2.imp id fun ⟨g, cap, cur, e, hb, r⟩ => ⟨g, cap, cur, e, Nat.le_trans hsz0 hb, r⟩⟩, HF.out.2⟩
end Go.Proofs.YtegmniphgahblaaGreat
