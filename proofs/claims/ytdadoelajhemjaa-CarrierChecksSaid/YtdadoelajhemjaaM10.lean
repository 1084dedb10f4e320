/- Walks: lowest. | Words: the state of the closures of Open and Send. | Walks: the closure of Open. | Walks: Open. -/
import Derived.Test.YtdadoelajhemjaaM9
import Derived.Test.YtdadoelajhemjaaM7
namespace Go.Proofs.Ytdadoelajhemjaa
open Go.RowKit Go.Shelf

set_option maxRecDepth 100000 in
set_option maxHeartbeats 800000 in
theorem lowest_any (gf : Nat) (lb : Array Value) (eg : ∀ args w, (callFunc gf args).run Try.prog w = .ok (.enter gf args) w) (p : Int → Bool) (most : Int) (Inv : World → Prop) (hm0 : 0 ≤ most) (hm1 : most ≤ 1048576)
  (hp : ∀ n W, 0 ≤ n → n ≤ most → Inv W → Calls Try.prog gf (#[.int .i64 n] ++ lb) W fun e w' => e = .returned (.bool (p n)) ∧ Inv w')
  (mono : ∀ i j, 0 ≤ i → i ≤ j → j ≤ most → p i = true → p j = true) (w : World) (hI : Inv w) :
  Calls Try.prog 93 #[.int .i64 most, .func (.func gf) #[] lb] w fun e w' => Inv w' ∧ ((p most = false ∧ e = .returned (.tuple #[.int .i64 0, .bool false])) ∨
   (∃ r, 0 ≤ r ∧ r ≤ most ∧ p r = true ∧ (∀ j, 0 ≤ j → j < r → p j = false) ∧ e = .returned (.tuple #[.int .i64 r, .bool true]))) := by
 have HP := hd2 hp mono
 have HI := hd2 hI trivial
 clear hp mono hI
 have hc := HP.out.1 most w hm0 (Int.le_refl _) HI.out.1
 obtain ⟨q, hq⟩ : ∃ q, p most = q := ⟨_, rfl⟩
 rw [hq] at hc
 have HQ := Lib.hid hq
 have HC := Lib.hid hc
 clear hc
 cases q
 ·rw [hq]
  clear hq
  go_enter Try.func93, Try.ntmps93
  go_wp2_with (go_at_fn gf; refine HC.out.mono ?_; rintro e w1 ⟨rfl, hi⟩; have HI1 := hd2 hi trivial; clear hi)
  go_ret2
  exact ⟨HI1.out.1, .inl ⟨trivial, rfl⟩⟩
 ·clear hq
  go_enter Try.func93, Try.ntmps93
  go_upto_region 4 with (go_at_fn gf; refine HC.out.mono ?_; rintro e w1 ⟨rfl, hi⟩; have HI1 := hd2 hi trivial; clear hi)
  go_loopg [6, 7, 8] most.toNat (fun gg lo hi _ wr => ∃ l h : Int, lo = .int .i64 l ∧ hi = .int .i64 h ∧ 0 ≤ l ∧ l ≤ h ∧ h ≤ most ∧ (h - l).toNat ≤ gg ∧ Aside (p h = true ∧ (∀ j, 0 ≤ j → j < l → p j = false) ∧ Inv wr))
  case atStart => exact ⟨0, most, rfl, rfl, Int.le_refl _, hm0, Int.le_refl _, by omega, HQ.out, fun j h1 h2 => by omega, HI1.out.1⟩
  case round =>
   obtain ⟨l, h, rfl, rfl, hl0, hlh, hhm, hgg, hA⟩ := hrel
   have HA := Lib.hid hA.out
   clear hA
   by_cases hlt : l < h
   ·have hw1 : IntKind.i64.wrap (l + h) = l + h := IntWalk.i64_in _ (by omega)
    go_upto_region 6 with fail
    obtain ⟨m, hm⟩ : ∃ m, m = (l + h) / 2 := ⟨_, rfl⟩
    have hlm : l ≤ m := by omega
    have hmh : m < h := by omega
    rw [← hm]
    clear hm hw1
    have hcm := HP.out.1 m wr (by omega) (by omega) HA.out.2.2
    have hmo := fun (e : p m = false) (j : Int) (h1 : 0 ≤ j) (h2 : j < m + 1) => (show p j = false from by
     cases hj : p j with
     | false => rfl
     | true => rw [HP.out.2 j m h1 (by omega) (by omega) hj] at e; cases e)
    obtain ⟨q, hq⟩ : ∃ q, p m = q := ⟨_, rfl⟩
    rw [hq] at hcm
    have HM := hd3 hcm hmo hq
    have hw2 : IntKind.i64.wrap (m + 1) = m + 1 := IntWalk.i64_in _ (by omega)
    clear hcm hmo hq
    cases q
    ·go_wp2_with (go_at_fn gf; refine HM.out.1.mono ?_; rintro e w1 ⟨rfl, hi⟩; have HI2 := hd2 hi trivial; clear hi)
     go_roundg (h - (m + 1)).toNat
     case measure => omega
     case rel => exact ⟨m + 1, h, rfl, rfl, by omega, by omega, hhm, by omega, (show _ ∧ _ ∧ _ from ⟨HA.out.1, HM.out.2.1 HM.out.2.2, HI2.out.1⟩)⟩
    ·go_wp2_with (go_at_fn gf; refine HM.out.1.mono ?_; rintro e w1 ⟨rfl, hi⟩; have HI2 := hd2 hi trivial; clear hi)
     go_roundg (m - l).toNat
     case measure => omega
     case rel => exact ⟨l, m, rfl, rfl, hl0, hlm, by omega, by omega, (show _ ∧ _ ∧ _ from ⟨HM.out.2.2, HA.out.2.1, HI2.out.1⟩)⟩
   ·obtain rfl : l = h := by omega
    go_wp2
    go_ret2
    exact ⟨HA.out.2.2, .inr ⟨l, hl0, hhm, HA.out.1, HA.out.2.1, rfl⟩⟩
end Go.Proofs.Ytdadoelajhemjaa
namespace Go.Proofs.Ytdadoelajhemjaa
open Go.RowKit Go.Shelf

theorem nth_set {xs : List Int} {i : Nat} (v : Int) {j : Nat} (hj : j < xs.length) : nth (xs.set i v) j = put (nth xs) i v j := by
 unfold put nth
 rw [List.getD_eq_getElem?_getD, List.getD_eq_getElem?_getD, List.getElem?_set]
 by_cases e : i = j
 ·subst e; rw [if_pos rfl, if_pos rfl, if_pos hj]; rfl
 ·rw [if_neg e, if_neg (Ne.symm e)]
/-- What the closure reads and writes: the box of the water, of a place, of works, of the wish, one more, and the list that it writes. -/
structure OpI (w0 : World) (A : Option Addr) (c n : Nat) (s : Wt) (x ca ta : Nat) (want : Int) (gs gp gw gn gh gb : Nat) (vh : Array Value) (th : TypeId) (m : Nat) (fx : Nat → Int) (idx : Nat) (W : World) : Prop where
 bl : Below w0.heap.size w0 W
 ks : Blk W gs #[.slice s.A0 s.ri.length s.c0, .slice s.A1 s.bo.length s.c1, .slice s.A2 s.lk.length s.c2, .slice s.A3 s.lo.length s.c3] 27
 kp : Blk W gp #[.int .i64 (x : Int), .int .i64 (ca : Int), .int .i64 (ta : Int)] 131
 kw : Blk W gw #[.slice A n c] 24
 kn : Blk W gn #[.int .i64 want] 3
 kh : Blk W gh vh th
 kb : ∃ f, IntF W gb m f ∧ ∀ j, j < m → j ≠ idx → f j = fx j
 b0 : w0.heap.size ≤ gb ∧ gb ≠ gs ∧ gb ≠ gp ∧ gb ≠ gw ∧ gb ≠ gn ∧ gb ≠ gh
 lt : gb < W.heap.size
section
variable {w0 : World} {A : Option Addr} {c n : Nat} {s : Wt} {x ca ta : Nat} {want : Int} {gs gp gw gn gh gb : Nat} {vh : Array Value} {th : TypeId} {m : Nat} {fx : Nat → Int} {idx : Nat} {W W' : World}
theorem OpI.below (h : OpI w0 A c n s x ca ta want gs gp gw gn gh gb vh th m fx idx W) (hb : Below W.heap.size W W') : OpI w0 A c n s x ca ta want gs gp gw gn gh gb vh th m fx idx W' := by
 have l := fun {g : Nat} {cs : Array Value} {ty : TypeId} (k : Blk W g cs ty) => (hb.block g (Array.getElem?_eq_some_iff.1 k).1).trans k
 obtain ⟨f, h1, h2⟩ := h.kb
 exact ⟨h.bl.trans (hb.mono h.bl.size), l h.ks, l h.kp, l h.kw, l h.kn, l h.kh, ⟨f, h1.heap (hb.block gb h.lt), h2⟩, h.b0, Nat.lt_of_lt_of_le h.lt hb.size⟩
theorem OpI.set (h : OpI w0 A c n s x ca ta want gs gp gw gn gh gb vh th m fx idx W) (hi : idx < m) (v : Int) : OpI w0 A c n s x ca ta want gs gp gw gn gh gb vh th m fx idx (W.setCell ⟨gb, idx, none⟩ (.int .i64 v)) := by
 have b0 := h.b0
 have l := fun {g : Nat} {cs : Array Value} {ty : TypeId} (k : Blk W g cs ty) (hg : gb ≠ g) => ((Below.heap_setCell W ⟨gb, idx, none⟩ (.int .i64 v) g (Ne.symm hg)).trans k)
 obtain ⟨f, h1, h2⟩ := h.kb
 exact ⟨h.bl.setCell (p := ⟨gb, idx, none⟩) b0.1 _, l h.ks b0.2.1, l h.kp b0.2.2.1, l h.kw b0.2.2.2.1, l h.kn b0.2.2.2.2.1, l h.kh b0.2.2.2.2.2, ⟨put f idx v, h1.set hi v, fun j hj hne => by rw [put_ne _ _ hne]; exact h2 j hj hne⟩, b0, by rw [World.size_setCell]; exact h.lt⟩
/-- The list that was written, as it reads. -/
theorem OpI.rd {xs : List Int} (h : OpI w0 A c n s x ca ta want gs gp gw gn gh gb vh th xs.length (nth xs) idx W) (hi : idx < xs.length) (v : Int) : Rd (W.setCell ⟨gb, idx, none⟩ (.int .i64 v)) (W.setCell ⟨gb, idx, none⟩ (.int .i64 v)).heap.size (some ⟨gb, 0, none⟩) (xs.set idx v) := by
 obtain ⟨f, h1, h2⟩ := h.kb
 refine IntF.rd (f := put f idx v) (by rw [List.length_set]; exact h1.set hi v) (by rw [World.size_setCell]; exact h.lt) (fun j hj => ?_)
 rw [List.length_set] at hj
 rw [nth_set v hj]
 unfold put
 by_cases e : j = idx
 ·rw [if_pos e, if_pos e]
 ·rw [if_neg e, if_neg e]; exact h2 j hj e
end
/-- The cells that the closures read for the flow. -/
def opS (gs gp gw gn : Nat) (v0 v1 v2 s0 s1 s2 s3 : Value) (k : Nat) (X : World) : Prop := match k with
 | 0 => X.cell? ⟨gw, 0, none⟩ = some v0
 | 1 => X.cell? ⟨gp, 0, none⟩ = some v1
 | 2 => X.cell? ⟨gn, 0, none⟩ = some v2
 | _ => X.cell? ⟨gs, 0, none⟩ = some s0 ∧ X.cell? ⟨gs, 1, none⟩ = some s1 ∧ X.cell? ⟨gs, 2, none⟩ = some s2 ∧ X.cell? ⟨gs, 3, none⟩ = some s3
theorem opS_below {gs gp gw gn : Nat} {v0 v1 v2 s0 s1 s2 s3 : Value} {X X' : World} (hb : Below X.heap.size X X') (k : Nat) (h : opS gs gp gw gn v0 v1 v2 s0 s1 s2 s3 k X) : opS gs gp gw gn v0 v1 v2 s0 s1 s2 s3 k X' := by
 match k with
 | 0 => exact cell_below hb h
 | 1 => exact cell_below hb h
 | 2 => exact cell_below hb h
 | k + 3 =>
  obtain ⟨e0, e1, e2, e3⟩ : _ ∧ _ ∧ _ ∧ _ := h
  exact ⟨cell_below hb e0, cell_below hb e1, cell_below hb e2, cell_below hb e3⟩
/-- Water with another board of an outlet; with another River of a head. -/
def brdW (s : Wt) (x : Nat) (v : Int) : Wt := ⟨s.A0, s.A1, s.A2, s.A3, s.c0, s.c1, s.c2, s.c3, s.ri, s.bo.set x v, s.lk, s.lo⟩
def givW (s : Wt) (k : Nat) (v : Int) : Wt := ⟨s.A0, s.A1, s.A2, s.A3, s.c0, s.c1, s.c2, s.c3, s.ri.set k v, s.bo, s.lk, s.lo⟩
theorem brdW_ok {ws : List Car} {s : Wt} (ok : Ok ws s) {x : Nat} (hx : x < (outs ws).length) {v : Int} (h0 : 0 ≤ v) (h1 : v ≤ ((oAt (outs ws) x).ps.length : Int) - 1) : Ok ws (brdW s x v) := by
 refine ⟨ok.l0, by unfold brdW; dsimp only; rw [List.length_set]; exact ok.l1, ok.l2, ok.l3, ok.r0, fun i hi => ?_, ok.r2, ok.r3⟩
 unfold brdW
 dsimp only
 rw [nth_set v (by rw [ok.l1]; exact hi)]
 unfold put
 by_cases e : i = x
 ·subst e; rw [if_pos rfl]; exact ⟨h0, h1⟩
 ·rw [if_neg e]; exact ok.r1 i hi
theorem givW_ok {ws : List Car} {s : Wt} (ok : Ok ws s) {k : Nat} {v : Int} (h0 : 0 ≤ v) (h1 : v ≤ 1048576) : Ok ws (givW s k v) := by
 refine ⟨by unfold givW; dsimp only; rw [List.length_set]; exact ok.l0, ok.l1, ok.l2, ok.l3, fun i hi => ?_, ok.r1, ok.r2, ok.r3⟩
 unfold givW at hi ⊢
 dsimp only at hi ⊢
 rw [List.length_set] at hi
 rw [nth_set v hi]
 unfold put
 by_cases e : i = k
 ·subst e; rw [if_pos rfl]; exact ⟨h0, h1⟩
 ·rw [if_neg e]; exact ok.r0 i hi
end Go.Proofs.Ytdadoelajhemjaa
namespace Go.Proofs.Ytdadoelajhemjaa
open Go.RowKit Go.Shelf

def openP (ws : List Car) (s : Wt) (x : Nat) (want n : Int) : Bool := decide (want ≤ flowF ws (brdW s x n) x)
set_option maxRecDepth 100000 in
set_option maxHeartbeats 800000 in
theorem open1_any (w0 : World) (A : Option Addr) (c : Nat) (ws : List Car) (A0 A2 A3 : Option Addr) (c0 c1 c2 c3 : Nat) (ri bo lk lo : List Int) (x : Nat) (want : Int) (gs gp gw gn gb : Nat) (vh : Array Value) (th : TypeId) (gh : Nat)
  (hW : Wk w0 A ws) (g : Good ws) (hx : x < (outs ws).length) (hw0 : Rd w0 w0.heap.size A0 ri) (hw2 : Rd w0 w0.heap.size A2 lk) (hw3 : Rd w0 w0.heap.size A3 lo) (ok : Ok ws ⟨A0, some ⟨gb, 0, none⟩, A2, A3, c0, c1, c2, c3, ri, bo, lk, lo⟩) (n : Int) (h0 : 0 ≤ n) (h1 : n ≤ ((oAt (outs ws) x).ps.length : Int) - 1)
  (W : World) (hI : OpI w0 A c ws.length ⟨A0, some ⟨gb, 0, none⟩, A2, A3, c0, c1, c2, c3, ri, bo, lk, lo⟩ x (caAt ws x) (atAt ws x) want gs gp gw gn gh gb vh th bo.length (nth bo) x W) :
  Calls Try.prog 95 #[.int .i64 n, .pointer (some ⟨gs, 0, none⟩), .pointer (some ⟨gp, 0, none⟩), .pointer (some ⟨gw, 0, none⟩), .pointer (some ⟨gn, 0, none⟩)] W fun e w' => e = .returned (.bool (openP ws ⟨A0, some ⟨gb, 0, none⟩, A2, A3, c0, c1, c2, c3, ri, bo, lk, lo⟩ x want n)) ∧
   OpI w0 A c ws.length ⟨A0, some ⟨gb, 0, none⟩, A2, A3, c0, c1, c2, c3, ri, bo, lk, lo⟩ x (caAt ws x) (atAt ws x) want gs gp gw gn gh gb vh th bo.length (nth bo) x w' := by
 have hlb : bo.length = (outs ws).length := ok.l1
 have hlr : ri.length ≤ 16 := by have h : ri.length = _ := ok.l0; have := headsTo_le ws ws.length; have := g.n1; omega
 have hN6 := g.n2
 have hl2 : lk.length = (outs ws).length := ok.l2
 have hl3 : lo.length = (outs ws).length := ok.l3
 have hltz : (x : Int) < (bo.length : Int) := by omega
 have hx60 : x < 60 := by omega
 have hI1 := hI.set (by omega) n
 have hrd := OpI.rd hI (by omega) n
 have hok := brdW_ok ok hx h0 h1
 have k1 : W.cell? ⟨gs, 1, none⟩ = some (.slice (some ⟨gb, 0, none⟩) bo.length c1) := cell_row hI.ks
 have k2 : W.cell? ⟨gp, 0, none⟩ = some (.int .i64 (x : Int)) := cell_row hI.kp
 obtain ⟨f, hf1, hf2⟩ := hI.kb
 have k3 := hf1.at_ x (by omega)
 have f3 := hf1.fz x
 have HA := hd12 hI1 hrd hok hW g hw0 hw2 hw3 hlr hl2 hl3 hlb
 clear hI1 hrd hok hW hw0 hw2 hw3 hf1 hf2 hI ok hlb hlr hl2 hl3
 have hd : openP ws ⟨A0, some ⟨gb, 0, none⟩, A2, A3, c0, c1, c2, c3, ri, bo, lk, lo⟩ x want n = decide (want ≤ flowF ws (brdW ⟨A0, some ⟨gb, 0, none⟩, A2, A3, c0, c1, c2, c3, ri, bo, lk, lo⟩ x n) x) := rfl
 rw [hd]
 clear hd
 go_enter Try.func95, Try.ntmps95
 go_upto_region 2 with fail
 generalize W.setCell ⟨gb, x, none⟩ (.int .i64 n) = W1 at *
 have s0 : opS gs gp gw gn (.slice A ws.length c) (.int .i64 (x : Int)) (.int .i64 want) (.slice A0 ri.length c0) (.slice (some ⟨gb, 0, none⟩) bo.length c1) (.slice A2 lk.length c2) (.slice A3 lo.length c3) 0 W1.drew := cell_row HA.out.1.kw
 have s1 : opS gs gp gw gn (.slice A ws.length c) (.int .i64 (x : Int)) (.int .i64 want) (.slice A0 ri.length c0) (.slice (some ⟨gb, 0, none⟩) bo.length c1) (.slice A2 lk.length c2) (.slice A3 lo.length c3) 1 W1.drew := cell_row HA.out.1.kp
 have s2 : opS gs gp gw gn (.slice A ws.length c) (.int .i64 (x : Int)) (.int .i64 want) (.slice A0 ri.length c0) (.slice (some ⟨gb, 0, none⟩) bo.length c1) (.slice A2 lk.length c2) (.slice A3 lo.length c3) 2 W1.drew := cell_row HA.out.1.kn
 have s3 : opS gs gp gw gn (.slice A ws.length c) (.int .i64 (x : Int)) (.int .i64 want) (.slice A0 ri.length c0) (.slice (some ⟨gb, 0, none⟩) bo.length c1) (.slice A2 lk.length c2) (.slice A3 lo.length c3) 3 W1.drew := ⟨cr 0 HA.out.1.ks, cr 1 HA.out.1.ks, cr 2 HA.out.1.ks, cr 3 HA.out.1.ks⟩
 have hfl : Calls Try.prog 79 #[.agg #[.slice A ws.length c], .agg #[.slice A0 ri.length c0, .slice (some ⟨gb, 0, none⟩) bo.length c1, .slice A2 lk.length c2, .slice A3 lo.length c3]] W1.drew fun e w' => e = .returned (flV (flowF ws (brdW ⟨A0, some ⟨gb, 0, none⟩, A2, A3, c0, c1, c2, c3, ri, bo, lk, lo⟩ x n))) ∧ Below W1.drew.heap.size W1.drew w' := by
  obtain ⟨hI1, hrd, hok, hW, g, hw0, hw2, hw3, hlr, hl2, hl3, hlb⟩ := HA.out
  have hb := hI1.bl.drew
  have hd := (Below.refl W1.heap.size W1).drew
  have h2 := flow_any A c ws (brdW ⟨A0, some ⟨gb, 0, none⟩, A2, A3, c0, c1, c2, c3, ri, bo, lk, lo⟩ x n) W1.drew (hW.ext hb) g ⟨hw0.ext hb, hrd.ext hd, hw2.ext hb, hw3.ext hb, by show ri.length ≤ 1000; omega, by show (bo.set x n).length ≤ 1000; rw [List.length_set]; omega, by show lk.length ≤ 1000; omega, by show lo.length ≤ 1000; omega⟩ hok
  unfold Wt.v brdW at h2
  dsimp only at h2
  rw [List.length_set] at h2
  exact h2
 have hI2 : OpI w0 A c ws.length ⟨A0, some ⟨gb, 0, none⟩, A2, A3, c0, c1, c2, c3, ri, bo, lk, lo⟩ x (caAt ws x) (atAt ws x) want gs gp gw gn gh gb vh th bo.length (nth bo) x W1.drew := HA.out.1.below ((Below.refl _ _).drew)
 have HF := hd2 hfl hI2
 have hft := field_through
 have hit := fun (f : Nat → Int) => index_through f x hx60
 generalize hs' : brdW ⟨A0, some ⟨gb, 0, none⟩, A2, A3, c0, c1, c2, c3, ri, bo, lk, lo⟩ x n = s' at *
 have HS' := Lib.hid hs'
 clear hs'
 clear hfl hI2 k1 k2 k3 f3 HA
 refine wp_region_K (by kernel_rfl) (opS gs gp gw gn (.slice A ws.length c) (.int .i64 (x : Int)) (.int .i64 want) (.slice A0 ri.length c0) (.slice (some ⟨gb, 0, none⟩) bo.length c1) (.slice A2 lk.length c2) (.slice A3 lo.length c3)) (fun _ _ => true) ?_
 generalize W1.drew = X0 at *
 refine kT 0 0 rfl ?_
 refine kT 3 1 rfl ?_
 refine kT 0 4 rfl ?_
 refine kT 1 5 rfl ?_
 refine kT 2 7 rfl ?_
 clear s1 s2 s3
 refine kR 2 rfl fun K hK => ?_
 go_simp
 refine HF.out.1.mono ?_
 rintro e X1 ⟨rfl, hb⟩
 dsimp only
 refine hK.out _ _ (fun k _ h => opS_below hb k h) ?_
 have s0a := opS_below hb 0 s0
 have HE := Lib.hid (HF.out.2.below hb)
 clear hK hb s0
 refine kT 0 3 rfl ?_
 refine kT 0 6 rfl ?_
 refine kT 0 8 rfl ?_
 refine kT 0 9 rfl ?_
 clear s0a
 refine kD ?_
 go_wp2
 go_ret
 have hs' := HS'.out
 subst hs'
 exact ⟨rfl, HE.out⟩
end Go.Proofs.Ytdadoelajhemjaa
namespace Go.Proofs.Ytdadoelajhemjaa
open Go.RowKit Go.Shelf

theorem field_out (o : Ot) (w : World) : (Instr.field 42 o.v 2).run Try.prog w = .ok (.slice o.P o.ps.length o.c) w := by kernel_rfl
set_option maxRecDepth 100000 in
theorem eg_open1 : ∀ args w, (callFunc 95 args).run Try.prog w = .ok (.enter 95 args) w := fun _ _ => by rfl
theorem openP_congr {ws : List Car} {s t : Wt} (h0 : s.ri = t.ri) (h1 : s.bo = t.bo) (h2 : s.lk = t.lk) (h3 : s.lo = t.lo) (x : Nat) (want n : Int) : openP ws s x want n = openP ws t x want n := by
 unfold openP
 rw [flowF_congr (s := brdW s x n) (t := brdW t x n) h0 (by unfold brdW; dsimp only; rw [h1]) h2 h3]
theorem hat_self {ws : List Car} (g : Good ws) (x : Nat) : hatV ws x x = 1 := by
 have h := (hat_on g (upList_self g x) (i := x) rfl).1
 rw [if_pos rfl] at h
 exact h
theorem open_up {ws : List Car} {s : Wt} (g : Good ws) (ok : Ok ws s) {x : Nat} {i j : Int} (hij : i ≤ j) : Up ws x (brdW s x i) (brdW s x j) := by
 refine ⟨fun _ _ => Int.le_refl _, fun y hy => ?_, fun _ _ => Int.le_refl _, fun _ _ => Int.le_refl _⟩
 have hy2 : y < s.bo.length := by rw [ok.l1]; exact hy
 show hatV ws x y * nth (s.bo.set x i) y ≤ hatV ws x y * nth (s.bo.set x j) y
 rw [nth_set i hy2, nth_set j hy2]
 unfold put
 by_cases e : y = x
 ·subst e
  rw [if_pos rfl, if_pos rfl, hat_self g]
  omega
 ·rw [if_neg e, if_neg e]; exact Int.le_refl _
theorem open_mono {ws : List Car} {s : Wt} (g : Good ws) (ok : Ok ws s) {x : Nat} (hx : x < (outs ws).length) (want : Int) : ∀ i j, 0 ≤ i → i ≤ j → j ≤ ((oAt (outs ws) x).ps.length : Int) - 1 → openP ws s x want i = true → openP ws s x want j = true := fun i j h0 h1 h2 h => by
 unfold openP at h ⊢
 rw [decide_eq_true_eq] at h ⊢
 exact Int.le_trans h (mono_flow g (brdW_ok ok hx h0 (by omega)) (brdW_ok ok hx (by omega) h2) hx (open_up g ok h1))
/-- What Open finds. -/
def OpenR (ws : List Car) (s : Wt) (id want : Int) (e : Ending) : Prop :=
 (wishE ws s id want ≠ 0 ∧ e = .returned (.tuple #[.int .i64 0, .int .i64 (wishE ws s id want)])) ∨
 (wishE ws s id want = 0 ∧ ∃ x, idxO ws id = some x ∧ ((openP ws s x want ((oAt (outs ws) x).ps.length - 1) = false ∧ e = .returned (.tuple #[.int .i64 0, .int .i64 5])) ∨
  ∃ r, 0 ≤ r ∧ r ≤ ((oAt (outs ws) x).ps.length : Int) - 1 ∧ openP ws s x want r = true ∧ (∀ j, 0 ≤ j → j < r → openP ws s x want j = false) ∧ e = .returned (.tuple #[.int .i64 r, .int .i64 0])))

set_option maxRecDepth 100000 in
set_option maxHeartbeats 800000 in
theorem Open_any (A : Option Addr) (c : Nat) (ws : List Car) (s : Wt) (id want : Int) (w : World) (h : Wk w A ws) (hs : Wet w s) :
  Calls Try.prog 33 #[.agg #[.slice A ws.length c], s.v, .int .i64 id, .int .i64 want] w fun e w' => OpenR ws s id want e ∧ Below w.heap.size w w' := by
 obtain ⟨A0, A1, A2, A3, c0, c1, c2, c3, ri, bo, lk, lo⟩ := s
 have hb1 : Below w.heap.size w (((w.alloc (.cells #[.slice A ws.length c] 24)).alloc (.cells #[.slice A0 ri.length c0, .slice A1 bo.length c1, .slice A2 lk.length c2, .slice A3 lo.length c3] 27)).alloc (.cells #[.int .i64 want] 3)) := (((Below.refl _ w).alloc (Nat.le_refl _) _).alloc (by simp) _).alloc (by simp; omega) _
 have hch := wished_any A c ws ⟨A0, A1, A2, A3, c0, c1, c2, c3, ri, bo, lk, lo⟩ id want _ (h.ext hb1) (hs.ext hb1)
 have q0 : Blk (((w.alloc (.cells #[.slice A ws.length c] 24)).alloc (.cells #[.slice A0 ri.length c0, .slice A1 bo.length c1, .slice A2 lk.length c2, .slice A3 lo.length c3] 27)).alloc (.cells #[.int .i64 want] 3)) w.heap.size #[.slice A ws.length c] 24 := blk_alloc (blk_alloc (blk_new _ _ _ rfl) _) _
 have q1 : Blk (((w.alloc (.cells #[.slice A ws.length c] 24)).alloc (.cells #[.slice A0 ri.length c0, .slice A1 bo.length c1, .slice A2 lk.length c2, .slice A3 lo.length c3] 27)).alloc (.cells #[.int .i64 want] 3)) (w.heap.size + 1) #[.slice A0 ri.length c0, .slice A1 bo.length c1, .slice A2 lk.length c2, .slice A3 lo.length c3] 27 := blk_alloc (blk_new _ _ _ (by simp)) _
 have q2 : Blk (((w.alloc (.cells #[.slice A ws.length c] 24)).alloc (.cells #[.slice A0 ri.length c0, .slice A1 bo.length c1, .slice A2 lk.length c2, .slice A3 lo.length c3] 27)).alloc (.cells #[.int .i64 want] 3)) (w.heap.size + 1 + 1) #[.int .i64 want] 3 := blk_new _ _ _ (by simp)
 have hs1 : (((w.alloc (.cells #[.slice A ws.length c] 24)).alloc (.cells #[.slice A0 ri.length c0, .slice A1 bo.length c1, .slice A2 lk.length c2, .slice A3 lo.length c3] 27)).alloc (.cells #[.int .i64 want] 3)).heap.size = w.heap.size + 3 := by simp
 have p0 := cr 0 q0
 have p1 := cr 0 q1
 have p2 := cr 1 q1
 have p3 := cr 2 q1
 have p4 := cr 3 q1
 have p5 := cr 0 q2
 have hz := fun (h : wishE ws ⟨A0, A1, A2, A3, c0, c1, c2, c3, ri, bo, lk, lo⟩ id want = 0) => wish_zero h
 have hd : ∀ e, OpenR ws ⟨A0, A1, A2, A3, c0, c1, c2, c3, ri, bo, lk, lo⟩ id want e = ((wishE ws ⟨A0, A1, A2, A3, c0, c1, c2, c3, ri, bo, lk, lo⟩ id want ≠ 0 ∧ e = .returned (.tuple #[.int .i64 0, .int .i64 (wishE ws ⟨A0, A1, A2, A3, c0, c1, c2, c3, ri, bo, lk, lo⟩ id want)])) ∨ (wishE ws ⟨A0, A1, A2, A3, c0, c1, c2, c3, ri, bo, lk, lo⟩ id want = 0 ∧ ∃ x, idxO ws id = some x ∧ ((openP ws ⟨A0, A1, A2, A3, c0, c1, c2, c3, ri, bo, lk, lo⟩ x want ((oAt (outs ws) x).ps.length - 1) = false ∧ e = .returned (.tuple #[.int .i64 0, .int .i64 5])) ∨
  ∃ r, 0 ≤ r ∧ r ≤ ((oAt (outs ws) x).ps.length : Int) - 1 ∧ openP ws ⟨A0, A1, A2, A3, c0, c1, c2, c3, ri, bo, lk, lo⟩ x want r = true ∧ (∀ j, 0 ≤ j → j < r → openP ws ⟨A0, A1, A2, A3, c0, c1, c2, c3, ri, bo, lk, lo⟩ x want j = false) ∧ e = .returned (.tuple #[.int .i64 r, .int .i64 0])))) := fun _ => rfl
 have HH := hd10 hb1 hch h hs q0 q1 q2 hs1 hz hd
 clear hb1 hch q0 q1 q2 hs1 h hs hz hd
 dsimp only [Wt.v] at *
 generalize OpenR ws ⟨A0, A1, A2, A3, c0, c1, c2, c3, ri, bo, lk, lo⟩ id want = R at *
 generalize wishE ws ⟨A0, A1, A2, A3, c0, c1, c2, c3, ri, bo, lk, lo⟩ id want = D at *
 generalize wishP ws ⟨A0, A1, A2, A3, c0, c1, c2, c3, ri, bo, lk, lo⟩ id want = P at *
 by_cases h0 : D = 0
 rotate_left
 ·have hz : (D != 0) = true := by simpa using h0
  have HZ := Lib.hid h0
  clear h0
  go_enter Try.func33, Try.ntmps33
  go_upto_region 1 with fail
  generalize (((w.alloc (.cells #[.slice A ws.length c] 24)).alloc (.cells #[.slice A0 ri.length c0, .slice A1 bo.length c1, .slice A2 lk.length c2, .slice A3 lo.length c3] 27)).alloc (.cells #[.int .i64 want] 3)) = W1 at *
  go_wp2_with (go_at_call 92; refine HH.out.2.1.mono ?_; rintro e w1 ⟨rfl, hb⟩; unfold plV; have HF := Lib.hid hb; clear hb)
  go_ret2
  exact ⟨by rw [HH.out.2.2.2.2.2.2.2.2.2]; exact .inl ⟨HZ.out, rfl⟩, HH.out.1.trans ((HF.out.trans (((Below.refl _ w1).alloc (Nat.le_refl _) _).mono HF.out.size)).mono HH.out.1.size)⟩
 ·subst h0
  obtain ⟨g, ok, hwn, x, hx, hxl, hP⟩ := HH.out.2.2.2.2.2.2.2.2.1 rfl
  subst hP
  have hlb : bo.length = (outs ws).length := ok.l1
  have hps := (g.fine hxl).n
  have hN6 := g.n2
  obtain ⟨b1, o1, e1, lb1, hc1⟩ := HH.out.2.2.2.1.r1 (by show 0 < bo.length; omega)
  dsimp only at e1
  have hok : ∀ (B : Option Addr) (d : Nat), Ok ws ⟨A0, B, A2, A3, c0, d, c2, c3, ri, bo, lk, lo⟩ := fun B d => ⟨ok.l0, ok.l1, ok.l2, ok.l3, ok.r0, ok.r1, ok.r2, ok.r3⟩
  have HX := hd8 hx hxl g hok hlb lb1 hc1 e1
  clear hx hxl g ok hok hlb lb1 hc1 e1
  go_enter Try.func33, Try.ntmps33
  go_upto_region 1 with fail
  generalize (((w.alloc (.cells #[.slice A ws.length c] 24)).alloc (.cells #[.slice A0 ri.length c0, .slice A1 bo.length c1, .slice A2 lk.length c2, .slice A3 lo.length c3] 27)).alloc (.cells #[.int .i64 want] 3)) = W1 at *
  go_upto_region 4 with (go_at_call 92; refine HH.out.2.1.mono ?_; rintro e w1 ⟨rfl, hb⟩; unfold plV pl; dsimp only; have HF := Lib.hid hb; clear hb)
  have hb9 := (Below.refl _ w1).alloc (Nat.le_refl _) (.cells #[.int .i64 (x : Int), .int .i64 (caAt ws x : Int), .int .i64 (atAt ws x : Int)] 131)
  have hb5 := HF.out.trans (hb9.mono HF.out.size)
  have hbw := HH.out.1.trans (hb5.mono HH.out.1.size)
  have hs1 := HH.out.2.2.2.2.2.2.2.1
  have hw1 := HF.out.size
  have q0 := (hb5.block w.heap.size (by omega)).trans HH.out.2.2.2.2.1
  have q1 := (hb5.block (w.heap.size + 1) (by omega)).trans HH.out.2.2.2.2.2.1
  have q2 := (hb5.block (w.heap.size + 1 + 1) (by omega)).trans HH.out.2.2.2.2.2.2.1
  have q9 := blk_new w1 (g := w1.heap.size) #[.int .i64 (x : Int), .int .i64 (caAt ws x : Int), .int .i64 (atAt ws x : Int)] 131 rfl
  have hs9 : (w1.alloc (.cells #[.int .i64 (x : Int), .int .i64 (caAt ws x : Int), .int .i64 (atAt ws x : Int)] 131)).heap.size = w1.heap.size + 1 := by simp
  generalize w1.alloc (.cells #[.int .i64 (x : Int), .int .i64 (caAt ws x : Int), .int .i64 (atAt ws x : Int)] 131) = w3 at *
  have hcl : Calls Try.prog 80 #[.slice A1 bo.length c1] w3 fun e w' => ∃ g c', e = .returned (.slice (some ⟨g, 0, none⟩) bo.length c') ∧ w3.heap.size ≤ g ∧ g < w'.heap.size ∧ IntF w' g bo.length (nth bo) ∧ Below w3.heap.size w3 w' := by
   have hr := (HH.out.2.2.2.1.r1).ext hbw
   dsimp only at hr
   rw [HX.out.2.2.2.2.2.2.2] at hr ⊢
   exact clone_ints b1 o1 c1 bo w3 hr (by have := HX.out.2.2.2.2.1; have := HX.out.2.1; omega) (by have := HX.out.2.2.2.2.1; omega)
  have k1 : w3.cell? ⟨w.heap.size + 1, 1, none⟩ = some (.slice A1 bo.length c1) := cell_row q1
  have HB := hd9 hbw q0 q1 q2 q9 hs1 hw1 hs9 hcl
  clear hb9 hb5 hbw q0 q1 q2 q9 hs1 hw1 hs9 hcl
  go_upto_region 5 with (go_at_call 80; refine HB.out.2.2.2.2.2.2.2.2.mono ?_; rintro e w4 ⟨gb, cb, rfl, hg1, hg2, hif, hb⟩; have r1 := (hb.block (w.heap.size + 1) (Array.getElem?_eq_some_iff.1 HB.out.2.2.1).1).trans HB.out.2.2.1; have k2 := cr 1 r1; have f2 := bf 1 r1; have HG := hd5 hg1 hg2 hif hb r1; clear hg1 hg2 hif hb r1)
  have HI : Hid (OpI w A c ws.length ⟨A0, some ⟨gb, 0, none⟩, A2, A3, c0, cb, c2, c3, ri, bo, lk, lo⟩ x (caAt ws x) (atAt ws x) want (w.heap.size + 1) w1.heap.size w.heap.size (w.heap.size + 1 + 1) (w.heap.size + 1 + 1) gb #[.int .i64 want] 3 bo.length (nth bo) x (w4.setCell ⟨w.heap.size + 1, 1, none⟩ (.slice (some ⟨gb, 0, none⟩) bo.length cb))) := by
   obtain ⟨hbw, q0, q1, q2, q9, hs1, hw1, hs9, _⟩ := HB.out
   obtain ⟨hg1, hg2, hif, hb, r1⟩ := HG.out
   have hsz := hbw.size
   have l := fun {g : Nat} {cs : Array Value} {ty : TypeId} (k : Blk w3 g cs ty) (hg : g ≠ w.heap.size + 1) => ((Below.heap_setCell w4 ⟨w.heap.size + 1, 1, none⟩ (.slice (some ⟨gb, 0, none⟩) bo.length cb) g hg).trans ((hb.block g (Array.getElem?_eq_some_iff.1 k).1).trans k))
   refine Lib.hid ⟨(hbw.trans (hb.mono hbw.size)).setCell (p := ⟨w.heap.size + 1, 1, none⟩) (by show w.heap.size ≤ w.heap.size + 1; omega) _, heap_setCell_same _ _ 1 _ _ _ r1, l q9 (by omega), l q0 (by omega), l q2 (by omega), l q2 (by omega), ⟨nth bo, hif.heap (Below.heap_setCell _ _ _ _ (by show gb ≠ w.heap.size + 1; omega)), fun _ _ _ => rfl⟩, ⟨by omega, by omega, by omega, by omega, by omega, by omega⟩, by rw [World.size_setCell]; exact hg2⟩
  clear HG k1 k2 f2 p0 p1 p2 p3 p4 p5
  generalize (w4.setCell ⟨w.heap.size + 1, 1, none⟩ (.slice (some ⟨gb, 0, none⟩) bo.length cb)) = w5 at *
  have k0 : w5.cell? ⟨w.heap.size, 0, none⟩ = some (.slice A ws.length c) := cell_row HI.out.kw
  have z0 : w5.cell? ⟨w1.heap.size, 0, none⟩ = some (.int .i64 (x : Int)) := cell_row HI.out.kp
  have z1 : w5.cell? ⟨w1.heap.size, 1, none⟩ = some (.int .i64 (caAt ws x : Int)) := cell_row HI.out.kp
  have z2 : w5.cell? ⟨w1.heap.size, 2, none⟩ = some (.int .i64 (atAt ws x : Int)) := cell_row HI.out.kp
  have HO := Lib.hid (outlet_any A c ws x HX.out.2.1 w5 (HH.out.2.2.1.ext HI.out.bl))
  have hfo := field_out
  have hwr : IntKind.i64.wrap (((oAt (outs ws) x).ps.length : Int) - 1) = ((oAt (outs ws) x).ps.length : Int) - 1 := IntWalk.i64_in _ (by omega)
  have hcg : ∀ n, openP ws ⟨A0, some ⟨gb, 0, none⟩, A2, A3, c0, cb, c2, c3, ri, bo, lk, lo⟩ x want n = openP ws ⟨A0, A1, A2, A3, c0, c1, c2, c3, ri, bo, lk, lo⟩ x want n := fun n => openP_congr rfl rfl rfl rfl x want n
  have hlw := fun W hI => lowest_any 95 #[.pointer (some ⟨w.heap.size + 1, 0, none⟩), .pointer (some ⟨w1.heap.size, 0, none⟩), .pointer (some ⟨w.heap.size, 0, none⟩), .pointer (some ⟨w.heap.size + 1 + 1, 0, none⟩)] eg_open1 (openP ws ⟨A0, some ⟨gb, 0, none⟩, A2, A3, c0, cb, c2, c3, ri, bo, lk, lo⟩ x want) (((oAt (outs ws) x).ps.length : Int) - 1)
   (OpI w A c ws.length ⟨A0, some ⟨gb, 0, none⟩, A2, A3, c0, cb, c2, c3, ri, bo, lk, lo⟩ x (caAt ws x) (atAt ws x) want (w.heap.size + 1) w1.heap.size w.heap.size (w.heap.size + 1 + 1) (w.heap.size + 1 + 1) gb #[.int .i64 want] 3 bo.length (nth bo) x) (by omega) (by omega)
   (fun n W h0 h1 hI => open1_any w A c ws A0 A2 A3 c0 cb c2 c3 ri bo lk lo x want _ _ _ _ gb _ _ _ HH.out.2.2.1 HX.out.2.2.1 HX.out.2.1 HH.out.2.2.2.1.r0 HH.out.2.2.2.1.r2 HH.out.2.2.2.1.r3 (HX.out.2.2.2.1 _ _) n h0 h1 W hI)
   (open_mono HX.out.2.2.1 (HX.out.2.2.2.1 _ _) HX.out.2.1 want) W hI
  have HL := hd2 hlw hcg
  clear hlw hcg
  obtain ⟨q, hq⟩ : ∃ q, openP ws ⟨A0, some ⟨gb, 0, none⟩, A2, A3, c0, cb, c2, c3, ri, bo, lk, lo⟩ x want (((oAt (outs ws) x).ps.length : Int) - 1) = q := ⟨_, rfl⟩
  have HQ := Lib.hid hq
  clear hq
  cases q
  ·go_wp2_with first
    | (go_at_call 94; refine HO.out.mono ?_; rintro e w6 ⟨rfl, hb⟩; have HI6 := Lib.hid (HI.out.below hb); clear hb)
    | (go_at_call 93; refine (HL.out.1 _ HI6.out).mono ?_; rintro e w7 ⟨hi, hr⟩; obtain rfl : e = .returned (.tuple #[.int .i64 0, .bool false]) := (by
      rcases hr with ⟨_, he⟩ | ⟨r, h0, h1, h2, _, _⟩
      ·exact he
      ·have := open_mono HX.out.2.2.1 (HX.out.2.2.2.1 _ _) HX.out.2.1 want r _ h0 h1 (Int.le_refl _) h2
       rw [HQ.out] at this
       cases this); have HI7 := Lib.hid hi.bl; clear hi hr)
   go_ret2
   exact ⟨by rw [HH.out.2.2.2.2.2.2.2.2.2]; exact .inr ⟨trivial, x, HX.out.1, .inl ⟨(HL.out.2 _).symm.trans HQ.out, rfl⟩⟩, HI7.out⟩
  ·go_wp2_with first
    | (go_at_call 94; refine HO.out.mono ?_; rintro e w6 ⟨rfl, hb⟩; have HI6 := Lib.hid (HI.out.below hb); clear hb)
    | (go_at_call 93; refine (HL.out.1 _ HI6.out).mono ?_; rintro e w7 ⟨hi, hr⟩; obtain ⟨r, h0, h1, h2, h3, rfl⟩ : ∃ r, 0 ≤ r ∧ r ≤ ((oAt (outs ws) x).ps.length : Int) - 1 ∧ openP ws ⟨A0, some ⟨gb, 0, none⟩, A2, A3, c0, cb, c2, c3, ri, bo, lk, lo⟩ x want r = true ∧ (∀ j, 0 ≤ j → j < r → openP ws ⟨A0, some ⟨gb, 0, none⟩, A2, A3, c0, cb, c2, c3, ri, bo, lk, lo⟩ x want j = false) ∧ e = .returned (.tuple #[.int .i64 r, .bool true]) := (by
      rcases hr with ⟨hf, _⟩ | hr
      ·rw [HQ.out] at hf; cases hf
      ·exact hr); have HI7 := hd5 hi.bl h0 h1 h2 h3; clear hi hr h0 h1 h2 h3)
   go_ret2
   exact ⟨by rw [HH.out.2.2.2.2.2.2.2.2.2]; exact .inr ⟨trivial, x, HX.out.1, .inr ⟨r, HI7.out.2.1, HI7.out.2.2.1, (HL.out.2 _).symm.trans HI7.out.2.2.2.1, fun j h0 h1 => (HL.out.2 _).symm.trans (HI7.out.2.2.2.2 j h0 h1), rfl⟩⟩, HI7.out.1⟩
end Go.Proofs.Ytdadoelajhemjaa
