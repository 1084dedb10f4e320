/- Walk: the law CarrierEnds. -/
import Derived.Test.YtdadoelajhemjaaL1
import Derived.Test.YtdadoelajhemjaaD5
import Derived.Test.YtdadoelajhemjaaH2
import Derived.Test.YtdadoelajhemjaaH5
import Derived.Test.YtdadoelajhemjaaH6
namespace Go.Proofs.Ytdadoelajhemjaa
open Go.RowKit Go.Shelf

/-- Two waters of the same numbers. -/
def SameL (s t : Wt) : Prop := s.ri = t.ri ∧ s.bo = t.bo ∧ s.lk = t.lk ∧ s.lo = t.lo
theorem Corner.same {ws : List Car} {cs : Cs} {x : Nat} {m : Bool} {s t : Wt} (h : Corner ws cs x m s) (k : Corner ws cs x m t) : SameL s t := ⟨h.ri.trans k.ri.symm, h.bo.trans k.bo.symm, h.lk.trans k.lk.symm, h.lo.trans k.lo.symm⟩
theorem wet_no (w : World) : Wet w noW := ⟨Rd.nil, Rd.nil, Rd.nil, Rd.nil, Nat.zero_le _, Nat.zero_le _, Nat.zero_le _, Nat.zero_le _⟩
/-- What Ends answers: a supply that is told but for where it lies. -/
def EndT (ws : List Car) (cs : Cs) (id : Int) (f : Sp) (s t : Wt) : Prop := (askE ws cs id ≠ 0 ∧ f = (0, 0) ∧ s = noW ∧ t = noW) ∨ (askE ws cs id = 0 ∧ ∃ x, idxO ws id = some x ∧ f = endsF ws cs x ∧ Corner ws cs x false s ∧ Corner ws cs x true t)
theorem EndT.same {ws : List Car} {cs : Cs} {id : Int} {f f' : Sp} {s t s' t' : Wt} (h : EndT ws cs id f s t) (k : EndT ws cs id f' s' t') : f' = f ∧ SameL s s' ∧ SameL t t' := by
 rcases h with ⟨a, rfl, rfl, rfl⟩ | ⟨a, x, b, rfl, c, d⟩
 ·rcases k with ⟨_, rfl, rfl, rfl⟩ | ⟨a', _⟩
  ·exact ⟨rfl, ⟨rfl, rfl, rfl, rfl⟩, rfl, rfl, rfl, rfl⟩
  ·exact absurd a' a
 ·rcases k with ⟨a', _⟩ | ⟨_, x', b', rfl, c', d'⟩
  ·exact absurd a a'
  ·rw [b] at b'
   cases b'
   exact ⟨rfl, c.same c', d.same d'⟩
theorem Ends_told (A : Option Addr) (c : Nat) (ws : List Car) (cs : Cs) (id : Int) (w : World) (h : Wk w A ws) (hc : Csd w cs) :
  Calls Try.prog 54 #[.agg #[.slice A ws.length c], cs.v, .int .i64 id] w fun e w' => ∃ f s t, e = .returned (.tuple #[supV f s t, .int .i64 (askE ws cs id)]) ∧ EndT ws cs id f s t ∧ Wet w' s ∧ Wet w' t ∧ Below w.heap.size w w' :=
 (Ends_any A c ws cs id w h hc).mono fun e w' ⟨hb, h⟩ => by
  rcases h with ⟨a, rfl⟩ | ⟨a, x, s, t, b, rfl, hs, ht, c1, c2, _, _⟩
  ·exact ⟨_, _, _, rfl, .inl ⟨a, rfl, rfl, rfl⟩, wet_no _, wet_no _, hb⟩
  ·exact ⟨_, _, _, by rw [a], .inr ⟨a, x, b, rfl, c1, c2⟩, hs, ht, hb⟩
theorem rEnds_told (A : Option Addr) (c : Nat) (ws : List Car) (cs : Cs) (id : Int) (w : World) (h : Wk w A ws) (hc : Csd w cs) :
  Calls Try.prog 55 #[.agg #[.slice A ws.length c], cs.v, .int .i64 id] w fun e w' => ∃ f s t, e = .returned (supE f s t (askE ws cs id)) ∧ EndT ws cs id f s t ∧ Wet w' s ∧ Wet w' t ∧ Below w.heap.size w w' :=
 (rEndsI_any A c ws cs id w h hc).mono fun e w' ⟨hb, h⟩ => by
  rcases h with ⟨a, rfl⟩ | ⟨a, x, s, t, b, rfl, hs, ht, c1, c2⟩
  ·exact ⟨_, _, _, rfl, .inl ⟨a, rfl, rfl, rfl⟩, wet_no _, wet_no _, hb⟩
  ·exact ⟨_, _, _, by rw [a], .inr ⟨a, x, b, rfl, c1, c2⟩, hs, ht, hb⟩
theorem stays_rds {W : World} {A : Option Addr} {l : List Sp} (h : RdS W W.heap.size A l) : Stays (fun X => RdS X X.heap.size A l) W := ⟨h, fun _ _ a b => a.ext b⟩
theorem spnE_le {ws : List Car} {cs : Cs} (h : (outs ws).length ≤ 1000) : (spnE ws cs).length ≤ 1000 := by
 unfold spnE
 split
 ·rw [spnTo_length]; exact h
 ·exact Nat.zero_le _
/-- An operation that loads a row of cells. -/
theorem bL {P : Program} {l : List Oper} {Q : Exit → Act → World → Prop} {md : Region.Mode} {kb : Nat → Bool} {oi : Oper} {fuel : Nat} {listed : Array Bool} {a : Act} {w : World} {b o : Nat} {cs : List Value} (hc : w.rangeAt b o cs) (ty : TypeId) (x : Operand) (d : TypeDesc) (hu : P.underlying ty = some d) (i : Nat) (hi : l[i]? = some oi) (ho : oi.op = .load ty x)
  (h : wpAnyR P md l.toArray Q kb fuel (listed.setIfInBounds i true) (a.put oi.dst (.agg cs.toArray)) w) (hx : a.eval x = .pointer (some ⟨b, o, none⟩) := by rfl) (hd : d.isRow = true := by rfl) (hsz : (P.info? ty).map (·.size) = some cs.length := by kernel_rfl)
  (hw : Region.wanted oi (yielded l.toArray a.tmps) = true := by first | rfl | kernel_rfl)
  (hb : (Region.noSelect l.toArray && Region.free md l.toArray listed i && (Region.ready md l.toArray listed).contains i && keepsR md l.toArray kb listed i) = true := by kernel_rfl)
  (hQ : ∀ c a w, Q (.panic c) (a.put oi.dst (.agg cs.toArray)) w → Q (.panic c) a w := by exact fun _ _ _ h => h) : wpAnyR P md l.toArray Q kb (fuel + 1) listed a w :=
 bG (F := fun X => X.rangeAt b o cs) (fun _ _ hb h j v hv => cell_below hb (h j v hv)) hc i hi h (yieldsIf_load_mid hw ty x ho b o hx cs d (fun _ h => h) hu hd hsz) hb hQ

set_option maxRecDepth 100000 in
set_option maxHeartbeats 8000000 in
theorem CarrierEnds_row (w : World) (A1 : Option Addr) (c1 : Nat) (ws : List Car) (r0 : WkIn w A1 ws) (cs : Cs) (r1 : CsIn w cs) (id : Int) (_ : (Lit.int .i64 id).wf = true) (f : Sp) (s t : Wt) (r3 : WtIn w s) (r3b : WtIn w t) :
  Calls Try.prog 14 #[.agg #[.slice A1 ws.length c1], cs.v, .int .i64 id, supV f s t] w fun e w' => e = .returned (.bool true) ∧ Below w.heap.size w w' := by
 show Calls _ _ #[.agg #[.slice A1 ws.length c1], .agg #[.slice cs.A0 cs.ri.length cs.c0, .slice cs.A1 cs.bo.length cs.c1], .int .i64 id, .agg #[.int .i64 f.1, .int .i64 f.2, .slice s.A0 s.ri.length s.c0, .slice s.A1 s.bo.length s.c1, .slice s.A2 s.lk.length s.c2, .slice s.A3 s.lo.length s.c3, .slice t.A0 t.ri.length t.c0, .slice t.A1 t.bo.length t.c1, .slice t.A2 t.lk.length t.c2, .slice t.A3 t.lo.length t.c3]] _ _
 have hb : Below w.heap.size w (((w.alloc (.cells #[.slice A1 ws.length c1] 24)).alloc (.cells #[.slice cs.A0 cs.ri.length cs.c0, .slice cs.A1 cs.bo.length cs.c1] 51)).alloc (.cells #[.int .i64 f.1, .int .i64 f.2, .slice s.A0 s.ri.length s.c0, .slice s.A1 s.bo.length s.c1, .slice s.A2 s.lk.length s.c2, .slice s.A3 s.lo.length s.c3, .slice t.A0 t.ri.length t.c0, .slice t.A1 t.bo.length t.c1, .slice t.A2 t.lk.length t.c2, .slice t.A3 t.lo.length t.c3] 91)) := ((((Below.refl _ w).alloc (Nat.le_refl _) _).alloc (by simp) _).alloc (by simp; omega) _)
 have K := Lib.hid (((((stays_bl hb).and (stays_blk (g := w.heap.size) (blk_alloc (blk_alloc (blk_new w #[.slice A1 ws.length c1] 24 rfl) _) _))).and (stays_blk (g := w.heap.size + 1) (blk_alloc (blk_new (w.alloc (.cells #[.slice A1 ws.length c1] 24)) #[.slice cs.A0 cs.ri.length cs.c0, .slice cs.A1 cs.bo.length cs.c1] 51 (by simp)) _))).and (stays_blk (g := w.heap.size + 1 + 1) (blk_new ((w.alloc (.cells #[.slice A1 ws.length c1] 24)).alloc (.cells #[.slice cs.A0 cs.ri.length cs.c0, .slice cs.A1 cs.bo.length cs.c1] 51)) #[.int .i64 f.1, .int .i64 f.2, .slice s.A0 s.ri.length s.c0, .slice s.A1 s.bo.length s.c1, .slice s.A2 s.lk.length s.c2, .slice s.A3 s.lo.length s.c3, .slice t.A0 t.ri.length t.c0, .slice t.A1 t.bo.length t.c1, .slice t.A2 t.lk.length t.c2, .slice t.A3 t.lo.length t.c3] 91 (by simp)))).and (show Stays (fun _ => True) _ from ⟨trivial, fun _ _ _ _ => trivial⟩))
 replace K := Lib.hid (K.out.push (stays_wkIn (r0.ext hb)))
 replace K := Lib.hid (K.out.push (stays_csIn (r1.ext hb)))
 replace K := Lib.hid (K.out.push (stays_wtIn (r3.ext hb)))
 replace K := Lib.hid (K.out.push (stays_wtIn (r3b.ext hb)))
 clear hb
 cases hf : fewB ws with
 | false =>
  have F0 := Lib.hid hf
  clear hf
  go_enter Try.func14, Try.ntmps14
  go_upto_region 1 with fail
  generalize ((w.alloc (.cells #[.slice A1 ws.length c1] 24)).alloc (.cells #[.slice cs.A0 cs.ri.length cs.c0, .slice cs.A1 cs.bo.length cs.c1] 51)).alloc (.cells #[.int .i64 f.1, .int .i64 f.2, .slice s.A0 s.ri.length s.c0, .slice s.A1 s.bo.length s.c1, .slice s.A2 s.lk.length s.c2, .slice s.A3 s.lo.length s.c3, .slice t.A0 t.ri.length t.c0, .slice t.A1 t.bo.length t.c1, .slice t.A2 t.lk.length t.c2, .slice t.A3 t.lo.length t.c3] 91) = W0 at *
  have q1 := cr 0 (K.out.1.1.1.1.2)
  go_wp2_with (first
   | (go_at_call 20; have _t := K2; clear _t; refine (sanity_any _).mono ?_; rintro e w7 ⟨rfl, hb⟩; have K6 := Lib.hid (K2.out.on hb); clear hb)
   | (go_at_call 18; have _t := K; clear _t; refine (few_any A1 c1 ws _ K.out.1.2.2.2.2.1).mono ?_; rw [F0.out]; rintro e w3 ⟨rfl, hb⟩; have K2 := Lib.hid (K.out.on hb); have q4 := cr 0 (K2.out.1.1.1.2); have q5 := cr 1 (K2.out.1.1.1.2); clear hb))
  go_ret
  exact ⟨rfl, K6.out.1.1.1.1.1⟩
 | true =>
 have F0 := Lib.hid hf
 cases hc : casedB cs with
 | false =>
  have F1 := Lib.hid hc
  clear hc
  go_enter Try.func14, Try.ntmps14
  go_upto_region 1 with fail
  generalize ((w.alloc (.cells #[.slice A1 ws.length c1] 24)).alloc (.cells #[.slice cs.A0 cs.ri.length cs.c0, .slice cs.A1 cs.bo.length cs.c1] 51)).alloc (.cells #[.int .i64 f.1, .int .i64 f.2, .slice s.A0 s.ri.length s.c0, .slice s.A1 s.bo.length s.c1, .slice s.A2 s.lk.length s.c2, .slice s.A3 s.lo.length s.c3, .slice t.A0 t.ri.length t.c0, .slice t.A1 t.bo.length t.c1, .slice t.A2 t.lk.length t.c2, .slice t.A3 t.lo.length t.c3] 91) = W0 at *
  have q1 := cr 0 (K.out.1.1.1.1.2)
  go_wp2_with (first
   | (go_at_call 20; have _t := K6; clear _t; refine (sanity_any _).mono ?_; rintro e w13 ⟨rfl, hb⟩; have K12 := Lib.hid (K6.out.on hb); clear hb)
   | (go_at_call 30; have _t := K2; clear _t; refine (cased_any cs _ K2.out.1.2.2.2.1).mono ?_; rw [F1.out]; rintro e w7 ⟨rfl, hb⟩; have K6 := Lib.hid (K2.out.on hb); have q8 := cr 2 (K6.out.1.1.2); have q9 := cr 3 (K6.out.1.1.2); have q10 := cr 4 (K6.out.1.1.2); have q11 := cr 5 (K6.out.1.1.2); clear hb)
   | (go_at_call 18; have _t := K; clear _t; refine (few_any A1 c1 ws _ K.out.1.2.2.2.2.1).mono ?_; rw [F0.out]; rintro e w3 ⟨rfl, hb⟩; have K2 := Lib.hid (K.out.on hb); have q4 := cr 0 (K2.out.1.1.1.2); have q5 := cr 1 (K2.out.1.1.1.2); clear hb))
  go_ret
  exact ⟨rfl, K12.out.1.1.1.1.1⟩
 | true =>
 have F1 := Lib.hid hc
 cases hs : wetB s with
 | false =>
  have F2 := Lib.hid hs
  clear hs
  go_enter Try.func14, Try.ntmps14
  go_upto_region 1 with fail
  generalize ((w.alloc (.cells #[.slice A1 ws.length c1] 24)).alloc (.cells #[.slice cs.A0 cs.ri.length cs.c0, .slice cs.A1 cs.bo.length cs.c1] 51)).alloc (.cells #[.int .i64 f.1, .int .i64 f.2, .slice s.A0 s.ri.length s.c0, .slice s.A1 s.bo.length s.c1, .slice s.A2 s.lk.length s.c2, .slice s.A3 s.lo.length s.c3, .slice t.A0 t.ri.length t.c0, .slice t.A1 t.bo.length t.c1, .slice t.A2 t.lk.length t.c2, .slice t.A3 t.lo.length t.c3] 91) = W0 at *
  have q1 := cr 0 (K.out.1.1.1.1.2)
  go_wp2_with (first
   | (go_at_call 20; have _t := K12; clear _t; refine (sanity_any _).mono ?_; rintro e w19 ⟨rfl, hb⟩; have K18 := Lib.hid (K12.out.on hb); clear hb)
   | (go_at_call 19; have _t := K6; clear _t; refine (wet_any s _ K6.out.1.2.2.1).mono ?_; rw [F2.out]; rintro e w13 ⟨rfl, hb⟩; have K12 := Lib.hid (K6.out.on hb); have q14 := cr 6 (K12.out.1.1.2); have q15 := cr 7 (K12.out.1.1.2); have q16 := cr 8 (K12.out.1.1.2); have q17 := cr 9 (K12.out.1.1.2); clear hb)
   | (go_at_call 30; have _t := K2; clear _t; refine (cased_any cs _ K2.out.1.2.2.2.1).mono ?_; rw [F1.out]; rintro e w7 ⟨rfl, hb⟩; have K6 := Lib.hid (K2.out.on hb); have q8 := cr 2 (K6.out.1.1.2); have q9 := cr 3 (K6.out.1.1.2); have q10 := cr 4 (K6.out.1.1.2); have q11 := cr 5 (K6.out.1.1.2); clear hb)
   | (go_at_call 18; have _t := K; clear _t; refine (few_any A1 c1 ws _ K.out.1.2.2.2.2.1).mono ?_; rw [F0.out]; rintro e w3 ⟨rfl, hb⟩; have K2 := Lib.hid (K.out.on hb); have q4 := cr 0 (K2.out.1.1.1.2); have q5 := cr 1 (K2.out.1.1.1.2); clear hb))
  go_ret
  exact ⟨rfl, K18.out.1.1.1.1.1⟩
 | true =>
 have F2 := Lib.hid hs
 cases ht : wetB t with
 | false =>
  have F3 := Lib.hid ht
  clear ht
  go_enter Try.func14, Try.ntmps14
  go_upto_region 1 with fail
  generalize ((w.alloc (.cells #[.slice A1 ws.length c1] 24)).alloc (.cells #[.slice cs.A0 cs.ri.length cs.c0, .slice cs.A1 cs.bo.length cs.c1] 51)).alloc (.cells #[.int .i64 f.1, .int .i64 f.2, .slice s.A0 s.ri.length s.c0, .slice s.A1 s.bo.length s.c1, .slice s.A2 s.lk.length s.c2, .slice s.A3 s.lo.length s.c3, .slice t.A0 t.ri.length t.c0, .slice t.A1 t.bo.length t.c1, .slice t.A2 t.lk.length t.c2, .slice t.A3 t.lo.length t.c3] 91) = W0 at *
  have q1 := cr 0 (K.out.1.1.1.1.2)
  go_wp2_with (first
   | (go_at_call 20; have _t := K18; clear _t; refine (sanity_any _).mono ?_; rintro e w21 ⟨rfl, hb⟩; have K20 := Lib.hid (K18.out.on hb); clear hb)
   | (go_at_call 19; have _t := K12; clear _t; refine (wet_any t _ K12.out.1.2.1).mono ?_; rw [F3.out]; rintro e w19 ⟨rfl, hb⟩; have K18 := Lib.hid (K12.out.on hb); clear hb)
   | (go_at_call 19; have _t := K6; clear _t; refine (wet_any s _ K6.out.1.2.2.1).mono ?_; rw [F2.out]; rintro e w13 ⟨rfl, hb⟩; have K12 := Lib.hid (K6.out.on hb); have q14 := cr 6 (K12.out.1.1.2); have q15 := cr 7 (K12.out.1.1.2); have q16 := cr 8 (K12.out.1.1.2); have q17 := cr 9 (K12.out.1.1.2); clear hb)
   | (go_at_call 30; have _t := K2; clear _t; refine (cased_any cs _ K2.out.1.2.2.2.1).mono ?_; rw [F1.out]; rintro e w7 ⟨rfl, hb⟩; have K6 := Lib.hid (K2.out.on hb); have q8 := cr 2 (K6.out.1.1.2); have q9 := cr 3 (K6.out.1.1.2); have q10 := cr 4 (K6.out.1.1.2); have q11 := cr 5 (K6.out.1.1.2); clear hb)
   | (go_at_call 18; have _t := K; clear _t; refine (few_any A1 c1 ws _ K.out.1.2.2.2.2.1).mono ?_; rw [F0.out]; rintro e w3 ⟨rfl, hb⟩; have K2 := Lib.hid (K.out.on hb); have q4 := cr 0 (K2.out.1.1.1.2); have q5 := cr 1 (K2.out.1.1.1.2); clear hb))
  go_ret
  exact ⟨rfl, K20.out.1.1.1.1.1⟩
 | true =>
 have F3 := Lib.hid ht
 have hbw : Below w.heap.size w _ := K.out.1.1.1.1.1
 have hk := few_wk r0 hf
 have hcs := casedB_ok r1 hc
 have hws := wetB_ok r3 hs
 have hwt := wetB_ok r3b ht
 clear hf hc hs ht
 replace K := Lib.hid (K.out.push (stays_wk (hk.ext hbw)))
 replace K := Lib.hid (K.out.push (stays_csd (hcs.ext hbw)))
 replace K := Lib.hid (K.out.push (stays_wet (hws.ext hbw)))
 replace K := Lib.hid (K.out.push (stays_wet (hwt.ext hbw)))
 have hm1 := spnE_le (ws := ws) (cs := cs) (by have := hk.n2; omega)
 clear hbw hk hcs hws hwt
 have h1 := fun W hk hc => Ends_told A1 c1 ws cs id W hk hc
 have h2 := fun W hk hc => rEnds_told A1 c1 ws cs id W hk hc
 have h3 := fun W hk hc => Spans_any A1 c1 ws cs W hk hc
 have h4 := fun W hk hc => rSpans_any A1 c1 ws cs W hk hc
 have h5 := fun W hk hc hs ht => CheckEnds_any A1 c1 ws cs id f s t W hk hc hs ht
 have h6 := fun W hk hc hs ht => rCheckEnds_any A1 c1 ws cs id f s t W hk hc hs ht
 have h7 : ∀ f' f'' s' t' s'' t'', EndT ws cs id f' s' t' → EndT ws cs id f'' s'' t'' → f'' = f' ∧ SameL s' s'' ∧ SameL t' t'' := fun _ _ _ _ _ _ h k => h.same k
 generalize EndT ws cs id = T at *
 generalize spnE ws cs = L1 at *
 generalize askE ws cs id = E at *
 generalize ccE ws cs = E2 at *
 generalize chkE ws cs id f s t = E3 at *
 have HC := hd7 h1 h2 h3 h4 h5 h6 h7
 clear h1 h2 h3 h4 h5 h6 h7
 go_enter Try.func14, Try.ntmps14
 go_upto_region 1 with fail
 generalize ((w.alloc (.cells #[.slice A1 ws.length c1] 24)).alloc (.cells #[.slice cs.A0 cs.ri.length cs.c0, .slice cs.A1 cs.bo.length cs.c1] 51)).alloc (.cells #[.int .i64 f.1, .int .i64 f.2, .slice s.A0 s.ri.length s.c0, .slice s.A1 s.bo.length s.c1, .slice s.A2 s.lk.length s.c2, .slice s.A3 s.lo.length s.c3, .slice t.A0 t.ri.length t.c0, .slice t.A1 t.bo.length t.c1, .slice t.A2 t.lk.length t.c2, .slice t.A3 t.lo.length t.c3] 91) = W0 at *
 have q1 := cr 0 (K.out.1.1.1.1.2)
 go_upto_region 3 with (first
  | (go_at_call 19; have _t := K12; clear _t; refine (wet_any t _ K12.out.1.2.2.2.2.2.1).mono ?_; rw [F3.out]; rintro e w19 ⟨rfl, hb⟩; have K18 := Lib.hid (K12.out.on hb); clear hb)
  | (go_at_call 19; have _t := K6; clear _t; refine (wet_any s _ K6.out.1.2.2.2.2.2.2.1).mono ?_; rw [F2.out]; rintro e w13 ⟨rfl, hb⟩; have K12 := Lib.hid (K6.out.on hb); have q14 := cr 6 (K12.out.1.1.2); have q15 := cr 7 (K12.out.1.1.2); have q16 := cr 8 (K12.out.1.1.2); have q17 := cr 9 (K12.out.1.1.2); clear hb)
  | (go_at_call 30; have _t := K2; clear _t; refine (cased_any cs _ K2.out.1.2.2.2.2.2.2.2.1).mono ?_; rw [F1.out]; rintro e w7 ⟨rfl, hb⟩; have K6 := Lib.hid (K2.out.on hb); have q8 := cr 2 (K6.out.1.1.2); have q9 := cr 3 (K6.out.1.1.2); have q10 := cr 4 (K6.out.1.1.2); have q11 := cr 5 (K6.out.1.1.2); clear hb)
  | (go_at_call 18; have _t := K; clear _t; refine (few_any A1 c1 ws _ K.out.1.2.2.2.2.2.2.2.2.1).mono ?_; rw [F0.out]; rintro e w3 ⟨rfl, hb⟩; have K2 := Lib.hid (K.out.on hb); have q4 := cr 0 (K2.out.1.1.1.2); have q5 := cr 1 (K2.out.1.1.1.2); clear hb))
 clear q1 q4 q5 q8 q9 q10 q11 q14 q15 q16 q17
 clear K K2 K6 K12
 have q20 := cr 0 (K18.out.1.1.1.1.2)
 have q21 := cr 0 (K18.out.1.1.1.2)
 have q22 := cr 1 (K18.out.1.1.1.2)
 go_upto_region 4 with (go_at_call 54; have _t := K18; clear _t; refine (HC.out.1 _ K18.out.1.2.2.2.2.1 K18.out.1.2.2.2.1).mono ?_; rintro e w24 ⟨f1, s1, t1, rfl, hT, hs, ht, hb⟩; have K23 := Lib.hid (((K18.out.on hb).push (stays_wet hs)).push (stays_wet ht)); unfold supV; have HT := Lib.hid hT; clear hs ht hT; clear hb)
 clear q20 q21 q22
 clear K18
 have K25 := Lib.hid ((K23.out.on ((Below.refl _ w24).alloc (Nat.le_refl _) (.cells #[.int .i64 f1.1, .int .i64 f1.2, .slice s1.A0 s1.ri.length s1.c0, .slice s1.A1 s1.bo.length s1.c1, .slice s1.A2 s1.lk.length s1.c2, .slice s1.A3 s1.lo.length s1.c3, .slice t1.A0 t1.ri.length t1.c0, .slice t1.A1 t1.bo.length t1.c1, .slice t1.A2 t1.lk.length t1.c2, .slice t1.A3 t1.lo.length t1.c3] 91))).push (stays_blk (blk_new w24 #[.int .i64 f1.1, .int .i64 f1.2, .slice s1.A0 s1.ri.length s1.c0, .slice s1.A1 s1.bo.length s1.c1, .slice s1.A2 s1.lk.length s1.c2, .slice s1.A3 s1.lo.length s1.c3, .slice t1.A0 t1.ri.length t1.c0, .slice t1.A1 t1.bo.length t1.c1, .slice t1.A2 t1.lk.length t1.c2, .slice t1.A3 t1.lo.length t1.c3] 91 rfl)))
 generalize w24.alloc (.cells #[.int .i64 f1.1, .int .i64 f1.2, .slice s1.A0 s1.ri.length s1.c0, .slice s1.A1 s1.bo.length s1.c1, .slice s1.A2 s1.lk.length s1.c2, .slice s1.A3 s1.lo.length s1.c3, .slice t1.A0 t1.ri.length t1.c0, .slice t1.A1 t1.bo.length t1.c1, .slice t1.A2 t1.lk.length t1.c2, .slice t1.A3 t1.lo.length t1.c3] 91) = w26 at *
 generalize w24.heap.size = g1 at *
 clear K23
 have q27 := cr 0 (K25.out.1.1.1.1.2)
 have q28 := cr 0 (K25.out.1.1.1.2)
 have q29 := cr 1 (K25.out.1.1.1.2)
 go_upto_region 5 with (go_at_call 55; have _t := K25; clear _t; refine (HC.out.2.1 _ K25.out.1.2.2.2.2.2.2.2.1 K25.out.1.2.2.2.2.2.2.1).mono ?_; rintro e w31 ⟨f2, s2, t2, rfl, hT, hs, ht, hb⟩; have K30 := Lib.hid (((K25.out.on hb).push (stays_wet hs)).push (stays_wet ht)); unfold supE; have HT2 := Lib.hid (HC.out.2.2.2.2.2.2 _ _ _ _ _ _ HT.out hT); clear hs ht hT; clear hb)
 clear q27 q28 q29
 clear K25
 have e12 := HT2.out.1
 subst e12
 have K32 := Lib.hid ((K30.out.on ((Below.refl _ w31).alloc (Nat.le_refl _) (.cells #[.int .i64 f2.1, .int .i64 f2.2, .slice s2.A0 s2.ri.length s2.c0, .slice s2.A1 s2.bo.length s2.c1, .slice s2.A2 s2.lk.length s2.c2, .slice s2.A3 s2.lo.length s2.c3, .slice t2.A0 t2.ri.length t2.c0, .slice t2.A1 t2.bo.length t2.c1, .slice t2.A2 t2.lk.length t2.c2, .slice t2.A3 t2.lo.length t2.c3, .int .i64 E] 95))).push (stays_blk (blk_new w31 #[.int .i64 f2.1, .int .i64 f2.2, .slice s2.A0 s2.ri.length s2.c0, .slice s2.A1 s2.bo.length s2.c1, .slice s2.A2 s2.lk.length s2.c2, .slice s2.A3 s2.lo.length s2.c3, .slice t2.A0 t2.ri.length t2.c0, .slice t2.A1 t2.bo.length t2.c1, .slice t2.A2 t2.lk.length t2.c2, .slice t2.A3 t2.lo.length t2.c3, .int .i64 E] 95 rfl)))
 generalize w31.alloc (.cells #[.int .i64 f2.1, .int .i64 f2.2, .slice s2.A0 s2.ri.length s2.c0, .slice s2.A1 s2.bo.length s2.c1, .slice s2.A2 s2.lk.length s2.c2, .slice s2.A3 s2.lo.length s2.c3, .slice t2.A0 t2.ri.length t2.c0, .slice t2.A1 t2.bo.length t2.c1, .slice t2.A2 t2.lk.length t2.c2, .slice t2.A3 t2.lo.length t2.c3, .int .i64 E] 95) = w33 at *
 generalize w31.heap.size = g2 at *
 clear K30
 have q34 := cr 0 (K32.out.1.1.1.1.2)
 have q35 := cr 0 (K32.out.1.1.1.2)
 have q36 := cr 1 (K32.out.1.1.1.2)
 go_upto_region 6 with (go_at_call 56; have _t := K32; clear _t; refine (HC.out.2.2.1 _ K32.out.1.2.2.2.2.2.2.2.2.2.2.1 K32.out.1.2.2.2.2.2.2.2.2.2.1).mono ?_; rintro e w38 ⟨A4, c4, rfl, hr, hb⟩; have K37 := Lib.hid ((K32.out.on hb).push (stays_rds hr)); clear hr; clear hb)
 clear q34 q35 q36
 clear K32
 have q39 := cr 0 (K37.out.1.1.1.1.2)
 have q40 := cr 0 (K37.out.1.1.1.2)
 have q41 := cr 1 (K37.out.1.1.1.2)
 go_upto_region 7 with (go_at_call 57; have _t := K37; clear _t; refine (HC.out.2.2.2.1 _ K37.out.1.2.2.2.2.2.2.2.2.2.2.2.1 K37.out.1.2.2.2.2.2.2.2.2.2.2.1).mono ?_; rintro e w43 ⟨A5, c5, rfl, hr, hb⟩; have K42 := Lib.hid ((K37.out.on hb).push (stays_rds hr)); clear hr; clear hb)
 clear q39 q40 q41
 clear K37
 have K44 := Lib.hid ((K42.out.on ((Below.refl _ w43).alloc (Nat.le_refl _) (.cells #[.slice A5 L1.length c5, .int .i64 E2] 100))).push (stays_blk (blk_new w43 #[.slice A5 L1.length c5, .int .i64 E2] 100 rfl)))
 generalize w43.alloc (.cells #[.slice A5 L1.length c5, .int .i64 E2] 100) = w45 at *
 generalize w43.heap.size = g3 at *
 clear K42
 have z46 := cr 0 (K44.out.1.2.2.2.2.2.2.2.1)
 have z47 := cr 1 (K44.out.1.2.2.2.2.2.2.2.1)
 have z48 := cr 2 (K44.out.1.2.2.2.2.2.2.2.1)
 have z49 := cr 3 (K44.out.1.2.2.2.2.2.2.2.1)
 have z50 := cr 4 (K44.out.1.2.2.2.2.2.2.2.1)
 have z51 := cr 5 (K44.out.1.2.2.2.2.2.2.2.1)
 have z52 := cr 0 (K44.out.1.2.2.2.2.1)
 have z53 := cr 1 (K44.out.1.2.2.2.2.1)
 have z54 := cr 2 (K44.out.1.2.2.2.2.1)
 have z55 := cr 3 (K44.out.1.2.2.2.2.1)
 have z56 := cr 4 (K44.out.1.2.2.2.2.1)
 have z57 := cr 5 (K44.out.1.2.2.2.2.1)
 go_upto_region 8 with (first
  | (go_at_call 58; have _t := K58; clear _t; refine (sameW_yes t1 t2 _ K58.out.1.2.2.2.2.2.2.2.2.1 K58.out.1.2.2.2.2.2.1 HT2.out.2.2.1 HT2.out.2.2.2.1 HT2.out.2.2.2.2.1 HT2.out.2.2.2.2.2).mono ?_; rintro e w69 ⟨rfl, hb⟩; have K68 := Lib.hid (K58.out.on hb); have z70 := cr 10 (K68.out.1.2.2.2.2.1); clear hb)
  | (go_at_call 58; have _t := K44; clear _t; refine (sameW_yes s1 s2 _ K44.out.1.2.2.2.2.2.2.2.2.2.1 K44.out.1.2.2.2.2.2.2.1 HT2.out.2.1.1 HT2.out.2.1.2.1 HT2.out.2.1.2.2.1 HT2.out.2.1.2.2.2).mono ?_; rintro e w59 ⟨rfl, hb⟩; have K58 := Lib.hid (K44.out.on hb); have z60 := cr 6 (K58.out.1.2.2.2.2.2.2.2.1); have z61 := cr 7 (K58.out.1.2.2.2.2.2.2.2.1); have z62 := cr 8 (K58.out.1.2.2.2.2.2.2.2.1); have z63 := cr 9 (K58.out.1.2.2.2.2.2.2.2.1); have z64 := cr 6 (K58.out.1.2.2.2.2.1); have z65 := cr 7 (K58.out.1.2.2.2.2.1); have z66 := cr 8 (K58.out.1.2.2.2.2.1); have z67 := cr 9 (K58.out.1.2.2.2.2.1); clear hb))
 clear z46 z47 z48 z49 z50 z51 z52 z53 z54 z55 z56 z57 z60 z61 z62 z63 z64 z65 z66 z67 z70
 clear K44 K58
 refine wp_region_R (fun _ => true) ?_
 have KX := Lib.hid (K68.out.on ((Below.refl _ w69).drew))
 generalize w69.drew = X0 at *
 clear K68
 refine bR 0 rfl fun K hK => ?_
 go_simp
 refine (sanity_any X0).mono ?_
 rintro e X1 ⟨rfl, hb⟩
 dsimp only
 refine hK.out _ _ (fun _ => hb) ?_
 have KA := Lib.hid (KX.out.on hb)
 clear hK hb
 clear KX
 have z0 := cr 0 (KA.out.1.2.1)
 refine bF 1 rfl ?_
 refine bF 2 rfl ?_
 refine bF 3 rfl ?_
 refine bF 4 rfl ?_
 refine bF 5 rfl ?_
 refine bF 6 rfl ?_
 refine bT z0 7 rfl ?_
 clear z0
 refine bR 8 rfl fun K hK => ?_
 go_simp
 refine (spans_yes A4 A5 c4 c5 L1 X1 KA.out.1.2.2.2.1 KA.out.1.2.2.1 hm1).mono ?_
 rintro e X2 ⟨rfl, hb⟩
 dsimp only
 refine hK.out _ _ (fun _ => hb) ?_
 have KB := Lib.hid (KA.out.on hb)
 clear hK hb
 clear KA
 have z1 := cr 1 (KB.out.1.2.1)
 have p0 := cr 0 (KB.out.1.1.1.1.2)
 have p1 := cr 0 (KB.out.1.1.1.2)
 have p2 := cr 1 (KB.out.1.1.1.2)
 have hR := blk_range (KB.out.1.1.2)
 refine bF 9 rfl ?_
 refine bF 10 rfl ?_
 refine bF 11 rfl ?_
 refine bF 12 rfl ?_
 refine bT z1 13 rfl ?_
 refine bF 14 rfl ?_
 refine bF 15 rfl ?_
 refine bF 16 rfl ?_
 refine bT p0 17 rfl ?_
 refine bP p1 p2 18 rfl ?_
 refine bF 19 rfl ?_
 refine bL hR 91 (.tmp 7) _ Try.underlying91 20 rfl rfl ?_; try go_frame
 clear z1
 refine bT p0 22 rfl ?_
 refine bP p1 p2 23 rfl ?_
 refine bF 24 rfl ?_
 refine bL hR 91 (.tmp 7) _ Try.underlying91 25 rfl rfl ?_; try go_frame
 clear p0 p1 p2 hR
 refine bR 21 rfl fun K hK => ?_
 go_simp
 refine (HC.out.2.2.2.2.1 X2 KB.out.1.2.2.2.2.2.2.2.2.2.2.2.2.2.1 KB.out.1.2.2.2.2.2.2.2.2.2.2.2.2.1 KB.out.1.2.2.2.2.2.2.2.2.2.2.2.1 KB.out.1.2.2.2.2.2.2.2.2.2.2.1).mono ?_
 rintro e X3 ⟨rfl, hb⟩
 dsimp only
 refine hK.out _ _ (fun _ => hb) ?_
 have KC := Lib.hid (KB.out.on hb)
 clear hK hb
 clear KB
 refine bR 26 rfl fun K hK => ?_
 go_simp
 refine (HC.out.2.2.2.2.2.1 X3 KC.out.1.2.2.2.2.2.2.2.2.2.2.2.2.2.1 KC.out.1.2.2.2.2.2.2.2.2.2.2.2.2.1 KC.out.1.2.2.2.2.2.2.2.2.2.2.2.1 KC.out.1.2.2.2.2.2.2.2.2.2.2.1).mono ?_
 rintro e X4 ⟨rfl, hb⟩
 dsimp only
 refine hK.out _ _ (fun _ => hb) ?_
 have KD := Lib.hid (KC.out.on hb)
 clear hK hb
 refine bF 27 rfl ?_
 refine bF 28 rfl ?_
 refine bF 29 rfl ?_
 refine bD ?_
 go_wp2
 go_ret
 exact ⟨rfl, KD.out.1.1.1.1.1⟩
end Go.Proofs.Ytdadoelajhemjaa
