/- Walk: the law CarrierMonotone. -/
import Derived.Test.YtdadoelajhemjaaL2
import Derived.Test.YtdadoelajhemjaaB1
import Derived.Test.YtdadoelajhemjaaB2
import Derived.Test.YtdadoelajhemjaaB3
import Derived.Test.YtdadoelajhemjaaM7
namespace Go.Proofs.Ytdadoelajhemjaa
open Go.RowKit Go.Shelf

theorem sign_bounds {x y : Int} (h : x = -1 ∨ x = 0 ∨ x = 1) (h0 : 0 ≤ y) (h1 : y ≤ 1048576) : -1048576 ≤ x * y ∧ x * y ≤ 1048576 := by
  rcases h with rfl | rfl | rfl <;> constructor <;> omega
def monS (b0 o0 b1 o1 : Nat) (v0 v1 : Value) (k : Nat) (X : World) : Prop := match k with
  | 0 => X.cell? ⟨b0, o0, none⟩ = some v0
  | 1 => X.cell? ⟨b1, o1, none⟩ = some v1
  | _ => True
theorem monS_on {b0 o0 b1 o1 : Nat} {v0 v1 : Value} {k : Nat} {X Y : World} (hb : Below X.heap.size X Y) (h : monS b0 o0 b1 o1 v0 v1 k X) : monS b0 o0 b1 o1 v0 v1 k Y := by
  match k, h with
  | 0, h => exact (hb.cell (p := ⟨b0, o0, none⟩) (lt_of_cell h)).trans h
  | 1, h => exact (hb.cell (p := ⟨b1, o1, none⟩) (lt_of_cell h)).trans h
  | _ + 2, _ => trivial
/-- What CarrierMonotone goes by. -/
structure MonoK (ws : List Car) (s t : Wt) (l1 l2 l3 F G : List Int) (x : Nat) : Prop where
  e1 : l1.length = s.ri.length
  e2 : l2.length = s.bo.length
  e3 : l3.length = s.lo.length
  e4 : s.lk.length = s.bo.length
  m1 : s.ri.length ≤ 1000
  m2 : s.bo.length ≤ 1000
  m3 : s.lo.length ≤ 1000
  t1 : t.ri.length = s.ri.length
  t2 : t.bo.length = s.bo.length
  t3 : t.lk.length = s.lk.length
  t4 : t.lo.length = s.lo.length
  a1 : ∀ i, i < l1.length → -1048576 ≤ nth l1 i * nth s.ri i ∧ nth l1 i * nth s.ri i ≤ 1048576
  b1 : ∀ i, i < l1.length → -1048576 ≤ nth l1 i * nth t.ri i ∧ nth l1 i * nth t.ri i ≤ 1048576
  a2 : ∀ i, i < l2.length → -1048576 ≤ nth l2 i * nth s.bo i ∧ nth l2 i * nth s.bo i ≤ 1048576
  b2 : ∀ i, i < l2.length → -1048576 ≤ nth l2 i * nth t.bo i ∧ nth l2 i * nth t.bo i ≤ 1048576
  a3 : ∀ i, i < l2.length → -1048576 ≤ nth l2 i * nth s.lk i ∧ nth l2 i * nth s.lk i ≤ 1048576
  b3 : ∀ i, i < l2.length → -1048576 ≤ nth l2 i * nth t.lk i ∧ nth l2 i * nth t.lk i ≤ 1048576
  a4 : ∀ i, i < l3.length → -1048576 ≤ nth l3 i * nth s.lo i ∧ nth l3 i * nth s.lo i ≤ 1048576
  b4 : ∀ i, i < l3.length → -1048576 ≤ nth l3 i * nth t.lo i ∧ nth l3 i * nth t.lo i ≤ 1048576
  lF : F.length = s.bo.length
  lG : G.length = s.bo.length
  hx : x < s.bo.length
  law : upB l1 s.ri t.ri = true → upB l2 s.bo t.bo = true → upB l2 s.lk t.lk = true → upB l3 s.lo t.lo = true → nth F x ≤ nth G x
theorem nth_mem {xs : List Int} {k : Nat} (h : k < xs.length) : nth xs k ∈ xs := by
  unfold nth
  rw [List.getD_eq_getElem?_getD, List.getElem?_eq_getElem h]
  exact List.getElem_mem h
theorem rivS_at {ws : List Car} {x k : Nat} (h : k < (rivS ws x).length) : nth (rivS ws x) k = -1 ∨ nth (rivS ws x) k = 0 ∨ nth (rivS ws x) k = 1 := by
  have hm := nth_mem h
  unfold rivS rivTo at hm
  obtain ⟨y, _, e⟩ := List.mem_map.1 hm
  by_cases hy : y = caAt ws (headOf ws x)
  · rw [if_pos hy] at e; exact .inr (.inr e.symm)
  · rw [if_neg hy] at e; exact .inr (.inl e.symm)
theorem hat_at {ws : List Car} {x k : Nat} : hatV ws x k = -1 ∨ hatV ws x k = 0 ∨ hatV ws x k = 1 := by
  unfold hatV
  cases lastO ws x k with
  | none => exact .inr (.inl rfl)
  | some p =>
    dsimp only
    by_cases h1 : pl ws k = p
    · rw [if_pos h1]; exact .inr (.inr rfl)
    · rw [if_neg h1]
      by_cases h2 : (atAt ws k : Int) ≤ p.2.2
      · rw [if_pos h2]; exact .inl rfl
      · rw [if_neg h2]; exact .inr (.inl rfl)
theorem rea_at {ws : List Car} {x k : Nat} : reaV ws x k = -1 ∨ reaV ws x k = 0 ∨ reaV ws x k = 1 := by
  unfold reaV
  cases lastO ws x k with
  | none => exact .inr (.inl rfl)
  | some p =>
    dsimp only
    by_cases h2 : (atAt ws k : Int) ≤ p.2.2
    · rw [if_pos h2]; exact .inl rfl
    · rw [if_neg h2]; exact .inr (.inl rfl)
theorem ok_bounds {ws : List Car} {s : Wt} (g : Good ws) (ok : Ok ws s) {i : Nat} (hi : i < (outs ws).length) : (0 ≤ nth s.bo i ∧ nth s.bo i ≤ 1048576) ∧ (0 ≤ nth s.lk i ∧ nth s.lk i ≤ 1048576) ∧ (0 ≤ nth s.lo i ∧ nth s.lo i ≤ 1048576) := by
  have f := g.fine hi
  have a := ok.r1 i hi
  have b := ok.r2 i hi
  have c := ok.r3 i hi
  have h1 := f.n
  have h2 := f.k
  have h3 := f.s
  omega
theorem monoK {ws : List Car} {s t : Wt} {x : Nat} (g : Good ws) (oks : Ok ws s) (okt : Ok ws t) (hx : x < (outs ws).length) (hs : cwE ws s = 0) (ht : cwE ws t = 0) : MonoK ws s t (rivS ws x) (hatS ws x) (reaS ws x) (flowsO ws s) (flowsO ws t) x := by
  have n1 := g.n1
  have n2 := g.n2
  have hl := heads_le ws ws.length
  have e1 : (rivS ws x).length = (headsTo ws ws.length).length := rivTo_length (Nat.le_refl _)
  have e2 : (hatS ws x).length = (outs ws).length := by unfold hatS; simp
  have e3 : (reaS ws x).length = (outs ws).length := by unfold reaS; simp
  have v2 : ∀ k, k < (outs ws).length → nth (hatS ws x) k = hatV ws x k := fun k hk => nth_range _ hk
  have v3 : ∀ k, k < (outs ws).length → nth (reaS ws x) k = reaV ws x k := fun k hk => nth_range _ hk
  have vF : nth (flowsO ws s) x = flowF ws s x := by unfold flowsO; rw [if_pos hs]; exact nth_range _ hx
  have vG : nth (flowsO ws t) x = flowF ws t x := by unfold flowsO; rw [if_pos ht]; exact nth_range _ hx
  have r1 : ∀ {u : Wt}, Ok ws u → ∀ i, i < (rivS ws x).length → -1048576 ≤ nth (rivS ws x) i * nth u.ri i ∧ nth (rivS ws x) i * nth u.ri i ≤ 1048576 := fun ok i hi => by
    have h := ok.r0 i (by rw [ok.l0, ← e1]; exact hi)
    exact sign_bounds (rivS_at hi) h.1 h.2
  have r2 : ∀ {u : Wt}, Ok ws u → ∀ i, i < (hatS ws x).length → -1048576 ≤ nth (hatS ws x) i * nth u.bo i ∧ nth (hatS ws x) i * nth u.bo i ≤ 1048576 := fun ok i hi => by
    rw [e2] at hi
    rw [v2 i hi]
    have h := (ok_bounds g ok hi).1
    exact sign_bounds hat_at h.1 h.2
  have r3 : ∀ {u : Wt}, Ok ws u → ∀ i, i < (hatS ws x).length → -1048576 ≤ nth (hatS ws x) i * nth u.lk i ∧ nth (hatS ws x) i * nth u.lk i ≤ 1048576 := fun ok i hi => by
    rw [e2] at hi
    rw [v2 i hi]
    have h := (ok_bounds g ok hi).2.1
    exact sign_bounds hat_at h.1 h.2
  have r4 : ∀ {u : Wt}, Ok ws u → ∀ i, i < (reaS ws x).length → -1048576 ≤ nth (reaS ws x) i * nth u.lo i ∧ nth (reaS ws x) i * nth u.lo i ≤ 1048576 := fun ok i hi => by
    rw [e3] at hi
    rw [v3 i hi]
    have h := (ok_bounds g ok hi).2.2
    exact sign_bounds rea_at h.1 h.2
  exact ⟨by rw [e1, oks.l0], by rw [e2, oks.l1], by rw [e3, oks.l3], by rw [oks.l2, oks.l1], by rw [oks.l0]; omega, by rw [oks.l1]; omega, by rw [oks.l3]; omega, by rw [okt.l0, oks.l0], by rw [okt.l1, oks.l1], by rw [okt.l2, oks.l2], by rw [okt.l3, oks.l3],
    r1 oks, r1 okt, r2 oks, r2 okt, r3 oks, r3 okt, r4 oks, r4 okt, by rw [flowsO_length hs, oks.l1], by rw [flowsO_length ht, oks.l1], by rw [oks.l1]; exact hx, fun u1 u2 u3 u4 => by
      rw [vF, vG]
      refine mono_flow g oks okt hx ⟨fun k hk => upB_iff.1 u1 k (by rw [e1]; exact hk), fun i hi => ?_, fun i hi => ?_, fun i hi => ?_⟩
      · have := upB_iff.1 u2 i (by rw [e2]; exact hi)
        rwa [v2 i hi] at this
      · have := upB_iff.1 u3 i (by rw [e2]; exact hi)
        rwa [v2 i hi] at this
      · have := upB_iff.1 u4 i (by rw [e3]; exact hi)
        rwa [v3 i hi] at this⟩

set_option maxRecDepth 100000 in
set_option maxHeartbeats 8000000 in
theorem CarrierMonotone_row (w : World) (A1 : Option Addr) (c1 : Nat) (ws : List Car) (r0 : WkIn w A1 ws) (id : Int) (_ : (Lit.int .i64 id).wf = true) (s : Wt) (r2 : WtIn w s) (t : Wt) (r3 : WtIn w t) :
    Calls Try.prog 7 #[.agg #[.slice A1 ws.length c1], .int .i64 id, s.v, t.v] w fun e w' => e = .returned (.bool true) ∧ Below w.heap.size w w' := by
  show Calls _ _ #[.agg #[.slice A1 ws.length c1], .int .i64 id, .agg #[.slice s.A0 s.ri.length s.c0, .slice s.A1 s.bo.length s.c1, .slice s.A2 s.lk.length s.c2, .slice s.A3 s.lo.length s.c3], .agg #[.slice t.A0 t.ri.length t.c0, .slice t.A1 t.bo.length t.c1, .slice t.A2 t.lk.length t.c2, .slice t.A3 t.lo.length t.c3]] _ _
  have hb : Below w.heap.size w (((w.alloc (.cells #[.slice A1 ws.length c1] 24)).alloc (.cells #[.slice s.A0 s.ri.length s.c0, .slice s.A1 s.bo.length s.c1, .slice s.A2 s.lk.length s.c2, .slice s.A3 s.lo.length s.c3] 27)).alloc (.cells #[.slice t.A0 t.ri.length t.c0, .slice t.A1 t.bo.length t.c1, .slice t.A2 t.lk.length t.c2, .slice t.A3 t.lo.length t.c3] 27)) := ((((Below.refl _ w).alloc (Nat.le_refl _) _).alloc (by simp) _).alloc (by simp; omega) _)
  have K := Lib.hid (((((stays_bl hb).and (stays_blk (g := w.heap.size) (blk_alloc (blk_alloc (blk_new w #[.slice A1 ws.length c1] 24 rfl) _) _))).and (stays_blk (g := w.heap.size + 1) (blk_alloc (blk_new (w.alloc (.cells #[.slice A1 ws.length c1] 24)) #[.slice s.A0 s.ri.length s.c0, .slice s.A1 s.bo.length s.c1, .slice s.A2 s.lk.length s.c2, .slice s.A3 s.lo.length s.c3] 27 (by simp)) _))).and (stays_blk (g := w.heap.size + 1 + 1) (blk_new ((w.alloc (.cells #[.slice A1 ws.length c1] 24)).alloc (.cells #[.slice s.A0 s.ri.length s.c0, .slice s.A1 s.bo.length s.c1, .slice s.A2 s.lk.length s.c2, .slice s.A3 s.lo.length s.c3] 27)) #[.slice t.A0 t.ri.length t.c0, .slice t.A1 t.bo.length t.c1, .slice t.A2 t.lk.length t.c2, .slice t.A3 t.lo.length t.c3] 27 (by simp)))).and (show Stays (fun _ => True) _ from ⟨trivial, fun _ _ _ _ => trivial⟩))
  replace K := Lib.hid (K.out.push (stays_wkIn (r0.ext hb)))
  replace K := Lib.hid (K.out.push (stays_wtIn (r2.ext hb)))
  replace K := Lib.hid (K.out.push (stays_wtIn (r3.ext hb)))
  clear hb
  cases hf : fewB ws with
  | false =>
    have F0 := Lib.hid hf
    clear hf
    go_enter Try.func7, Try.ntmps7
    go_upto_region 1 with fail
    generalize ((w.alloc (.cells #[.slice A1 ws.length c1] 24)).alloc (.cells #[.slice s.A0 s.ri.length s.c0, .slice s.A1 s.bo.length s.c1, .slice s.A2 s.lk.length s.c2, .slice s.A3 s.lo.length s.c3] 27)).alloc (.cells #[.slice t.A0 t.ri.length t.c0, .slice t.A1 t.bo.length t.c1, .slice t.A2 t.lk.length t.c2, .slice t.A3 t.lo.length t.c3] 27) = W0 at *
    have q1 := cell_row (i := 0) (K.out.1.1.1.1.2)
    go_wp2_with (first
      | (go_at_call 20; have _t := K2; clear _t; refine (sanity_any _).mono ?_; rintro e w9 ⟨rfl, hb⟩; have K8 := Lib.hid (K2.out.on hb); clear hb)
      | (go_at_call 18; have _t := K; clear _t; refine (few_any A1 c1 ws _ K.out.1.2.2.2.1).mono ?_; rw [F0.out]; rintro e w3 ⟨rfl, hb⟩; have K2 := Lib.hid (K.out.on hb); have q4 := cell_row (i := 0) (K2.out.1.1.1.2); have q5 := cell_row (i := 1) (K2.out.1.1.1.2); have q6 := cell_row (i := 2) (K2.out.1.1.1.2); have q7 := cell_row (i := 3) (K2.out.1.1.1.2); clear hb))
    go_ret
    exact ⟨rfl, K8.out.1.1.1.1.1⟩
  | true =>
  have F0 := Lib.hid hf
  cases hs : wetB s with
  | false =>
    have F1 := Lib.hid hs
    clear hs
    go_enter Try.func7, Try.ntmps7
    go_upto_region 1 with fail
    generalize ((w.alloc (.cells #[.slice A1 ws.length c1] 24)).alloc (.cells #[.slice s.A0 s.ri.length s.c0, .slice s.A1 s.bo.length s.c1, .slice s.A2 s.lk.length s.c2, .slice s.A3 s.lo.length s.c3] 27)).alloc (.cells #[.slice t.A0 t.ri.length t.c0, .slice t.A1 t.bo.length t.c1, .slice t.A2 t.lk.length t.c2, .slice t.A3 t.lo.length t.c3] 27) = W0 at *
    have q1 := cell_row (i := 0) (K.out.1.1.1.1.2)
    go_wp2_with (first
      | (go_at_call 20; have _t := K8; clear _t; refine (sanity_any _).mono ?_; rintro e w15 ⟨rfl, hb⟩; have K14 := Lib.hid (K8.out.on hb); clear hb)
      | (go_at_call 19; have _t := K2; clear _t; refine (wet_any s _ K2.out.1.2.2.1).mono ?_; rw [F1.out]; rintro e w9 ⟨rfl, hb⟩; have K8 := Lib.hid (K2.out.on hb); have q10 := cell_row (i := 0) (K8.out.1.1.2); have q11 := cell_row (i := 1) (K8.out.1.1.2); have q12 := cell_row (i := 2) (K8.out.1.1.2); have q13 := cell_row (i := 3) (K8.out.1.1.2); clear hb)
      | (go_at_call 18; have _t := K; clear _t; refine (few_any A1 c1 ws _ K.out.1.2.2.2.1).mono ?_; rw [F0.out]; rintro e w3 ⟨rfl, hb⟩; have K2 := Lib.hid (K.out.on hb); have q4 := cell_row (i := 0) (K2.out.1.1.1.2); have q5 := cell_row (i := 1) (K2.out.1.1.1.2); have q6 := cell_row (i := 2) (K2.out.1.1.1.2); have q7 := cell_row (i := 3) (K2.out.1.1.1.2); clear hb))
    go_ret
    exact ⟨rfl, K14.out.1.1.1.1.1⟩
  | true =>
  have F1 := Lib.hid hs
  cases ht : wetB t with
  | false =>
    have F2 := Lib.hid ht
    clear ht
    go_enter Try.func7, Try.ntmps7
    go_upto_region 1 with fail
    generalize ((w.alloc (.cells #[.slice A1 ws.length c1] 24)).alloc (.cells #[.slice s.A0 s.ri.length s.c0, .slice s.A1 s.bo.length s.c1, .slice s.A2 s.lk.length s.c2, .slice s.A3 s.lo.length s.c3] 27)).alloc (.cells #[.slice t.A0 t.ri.length t.c0, .slice t.A1 t.bo.length t.c1, .slice t.A2 t.lk.length t.c2, .slice t.A3 t.lo.length t.c3] 27) = W0 at *
    have q1 := cell_row (i := 0) (K.out.1.1.1.1.2)
    go_wp2_with (first
      | (go_at_call 20; have _t := K14; clear _t; refine (sanity_any _).mono ?_; rintro e w22 ⟨rfl, hb⟩; have K21 := Lib.hid (K14.out.on hb); clear hb)
      | (go_at_call 19; have _t := K8; clear _t; refine (wet_any t _ K8.out.1.2.1).mono ?_; rw [F2.out]; rintro e w15 ⟨rfl, hb⟩; have K14 := Lib.hid (K8.out.on hb); have q16 := cell_row (i := 0) (K14.out.1.1.1.1.2); have q17 := cell_row (i := 0) (K14.out.1.1.1.2); have q18 := cell_row (i := 1) (K14.out.1.1.1.2); have q19 := cell_row (i := 2) (K14.out.1.1.1.2); have q20 := cell_row (i := 3) (K14.out.1.1.1.2); clear hb)
      | (go_at_call 19; have _t := K2; clear _t; refine (wet_any s _ K2.out.1.2.2.1).mono ?_; rw [F1.out]; rintro e w9 ⟨rfl, hb⟩; have K8 := Lib.hid (K2.out.on hb); have q10 := cell_row (i := 0) (K8.out.1.1.2); have q11 := cell_row (i := 1) (K8.out.1.1.2); have q12 := cell_row (i := 2) (K8.out.1.1.2); have q13 := cell_row (i := 3) (K8.out.1.1.2); clear hb)
      | (go_at_call 18; have _t := K; clear _t; refine (few_any A1 c1 ws _ K.out.1.2.2.2.1).mono ?_; rw [F0.out]; rintro e w3 ⟨rfl, hb⟩; have K2 := Lib.hid (K.out.on hb); have q4 := cell_row (i := 0) (K2.out.1.1.1.2); have q5 := cell_row (i := 1) (K2.out.1.1.1.2); have q6 := cell_row (i := 2) (K2.out.1.1.1.2); have q7 := cell_row (i := 3) (K2.out.1.1.1.2); clear hb))
    go_ret
    exact ⟨rfl, K21.out.1.1.1.1.1⟩
  | true =>
  have F2 := Lib.hid ht
  have hbw : Below w.heap.size w _ := K.out.1.1.1.1.1
  have hk := few_wk r0 hf
  have hws := wetB_ok r2 hs
  have hwt := wetB_ok r3 ht
  clear hf hs ht
  replace K := Lib.hid (K.out.push (stays_wk (hk.ext hbw)))
  replace K := Lib.hid (K.out.push (stays_wet (hws.ext hbw)))
  replace K := Lib.hid (K.out.push (stays_wet (hwt.ext hbw)))
  clear hbw hk hws hwt
  by_cases hF3 : cwE ws s = 0
  rotate_left
  · have hE : ∃ E, cwE ws s = E := ⟨_, rfl⟩
    obtain ⟨E, hE⟩ := hE
    have F3 := Lib.hid hE
    have hz : (E != 0) = true := by rw [← hE]; simpa using hF3
    clear hF3 hE
    go_enter Try.func7, Try.ntmps7
    go_upto_region 1 with fail
    generalize ((w.alloc (.cells #[.slice A1 ws.length c1] 24)).alloc (.cells #[.slice s.A0 s.ri.length s.c0, .slice s.A1 s.bo.length s.c1, .slice s.A2 s.lk.length s.c2, .slice s.A3 s.lo.length s.c3] 27)).alloc (.cells #[.slice t.A0 t.ri.length t.c0, .slice t.A1 t.bo.length t.c1, .slice t.A2 t.lk.length t.c2, .slice t.A3 t.lo.length t.c3] 27) = W0 at *
    have q1 := cell_row (i := 0) (K.out.1.1.1.1.2)
    go_wp2_with (first
      | (go_at_call 20; have _t := K21; clear _t; refine (sanity_any _).mono ?_; rintro e w29 ⟨rfl, hb⟩; have K28 := Lib.hid (K21.out.on hb); clear hb)
      | (go_at_call 27; have _t := K14; clear _t; refine (CheckWater_any A1 c1 ws s _ K14.out.1.2.2.2.1 K14.out.1.2.2.1).mono ?_; rw [F3.out]; rintro e w22 ⟨rfl, hb⟩; have K21 := Lib.hid (K14.out.on hb); have q23 := cell_row (i := 0) (K21.out.1.1.1.1.2); have q24 := cell_row (i := 0) (K21.out.1.1.2); have q25 := cell_row (i := 1) (K21.out.1.1.2); have q26 := cell_row (i := 2) (K21.out.1.1.2); have q27 := cell_row (i := 3) (K21.out.1.1.2); clear hb)
      | (go_at_call 19; have _t := K8; clear _t; refine (wet_any t _ K8.out.1.2.2.2.2.1).mono ?_; rw [F2.out]; rintro e w15 ⟨rfl, hb⟩; have K14 := Lib.hid (K8.out.on hb); have q16 := cell_row (i := 0) (K14.out.1.1.1.1.2); have q17 := cell_row (i := 0) (K14.out.1.1.1.2); have q18 := cell_row (i := 1) (K14.out.1.1.1.2); have q19 := cell_row (i := 2) (K14.out.1.1.1.2); have q20 := cell_row (i := 3) (K14.out.1.1.1.2); clear hb)
      | (go_at_call 19; have _t := K2; clear _t; refine (wet_any s _ K2.out.1.2.2.2.2.2.1).mono ?_; rw [F1.out]; rintro e w9 ⟨rfl, hb⟩; have K8 := Lib.hid (K2.out.on hb); have q10 := cell_row (i := 0) (K8.out.1.1.2); have q11 := cell_row (i := 1) (K8.out.1.1.2); have q12 := cell_row (i := 2) (K8.out.1.1.2); have q13 := cell_row (i := 3) (K8.out.1.1.2); clear hb)
      | (go_at_call 18; have _t := K; clear _t; refine (few_any A1 c1 ws _ K.out.1.2.2.2.2.2.2.1).mono ?_; rw [F0.out]; rintro e w3 ⟨rfl, hb⟩; have K2 := Lib.hid (K.out.on hb); have q4 := cell_row (i := 0) (K2.out.1.1.1.2); have q5 := cell_row (i := 1) (K2.out.1.1.1.2); have q6 := cell_row (i := 2) (K2.out.1.1.1.2); have q7 := cell_row (i := 3) (K2.out.1.1.1.2); clear hb))
    go_ret
    exact ⟨rfl, K28.out.1.1.1.1.1⟩
  have F3 := Lib.hid hF3
  by_cases hF4 : cwE ws t = 0
  rotate_left
  · have hE : ∃ E, cwE ws t = E := ⟨_, rfl⟩
    obtain ⟨E, hE⟩ := hE
    have F4 := Lib.hid hE
    have hz : (E != 0) = true := by rw [← hE]; simpa using hF4
    clear hF4 hE
    go_enter Try.func7, Try.ntmps7
    go_upto_region 1 with fail
    generalize ((w.alloc (.cells #[.slice A1 ws.length c1] 24)).alloc (.cells #[.slice s.A0 s.ri.length s.c0, .slice s.A1 s.bo.length s.c1, .slice s.A2 s.lk.length s.c2, .slice s.A3 s.lo.length s.c3] 27)).alloc (.cells #[.slice t.A0 t.ri.length t.c0, .slice t.A1 t.bo.length t.c1, .slice t.A2 t.lk.length t.c2, .slice t.A3 t.lo.length t.c3] 27) = W0 at *
    have q1 := cell_row (i := 0) (K.out.1.1.1.1.2)
    go_wp2_with (first
      | (go_at_call 20; have _t := K28; clear _t; refine (sanity_any _).mono ?_; rintro e w32 ⟨rfl, hb⟩; have K31 := Lib.hid (K28.out.on hb); clear hb)
      | (go_at_call 27; have _t := K21; clear _t; refine (CheckWater_any A1 c1 ws t _ K21.out.1.2.2.2.1 K21.out.1.2.1).mono ?_; rw [F4.out]; rintro e w29 ⟨rfl, hb⟩; have K28 := Lib.hid (K21.out.on hb); have q30 := cell_row (i := 0) (K28.out.1.1.1.1.2); clear hb)
      | (go_at_call 27; have _t := K14; clear _t; refine (CheckWater_any A1 c1 ws s _ K14.out.1.2.2.2.1 K14.out.1.2.2.1).mono ?_; rw [F3.out]; rintro e w22 ⟨rfl, hb⟩; have K21 := Lib.hid (K14.out.on hb); have q23 := cell_row (i := 0) (K21.out.1.1.1.1.2); have q24 := cell_row (i := 0) (K21.out.1.1.2); have q25 := cell_row (i := 1) (K21.out.1.1.2); have q26 := cell_row (i := 2) (K21.out.1.1.2); have q27 := cell_row (i := 3) (K21.out.1.1.2); clear hb)
      | (go_at_call 19; have _t := K8; clear _t; refine (wet_any t _ K8.out.1.2.2.2.2.1).mono ?_; rw [F2.out]; rintro e w15 ⟨rfl, hb⟩; have K14 := Lib.hid (K8.out.on hb); have q16 := cell_row (i := 0) (K14.out.1.1.1.1.2); have q17 := cell_row (i := 0) (K14.out.1.1.1.2); have q18 := cell_row (i := 1) (K14.out.1.1.1.2); have q19 := cell_row (i := 2) (K14.out.1.1.1.2); have q20 := cell_row (i := 3) (K14.out.1.1.1.2); clear hb)
      | (go_at_call 19; have _t := K2; clear _t; refine (wet_any s _ K2.out.1.2.2.2.2.2.1).mono ?_; rw [F1.out]; rintro e w9 ⟨rfl, hb⟩; have K8 := Lib.hid (K2.out.on hb); have q10 := cell_row (i := 0) (K8.out.1.1.2); have q11 := cell_row (i := 1) (K8.out.1.1.2); have q12 := cell_row (i := 2) (K8.out.1.1.2); have q13 := cell_row (i := 3) (K8.out.1.1.2); clear hb)
      | (go_at_call 18; have _t := K; clear _t; refine (few_any A1 c1 ws _ K.out.1.2.2.2.2.2.2.1).mono ?_; rw [F0.out]; rintro e w3 ⟨rfl, hb⟩; have K2 := Lib.hid (K.out.on hb); have q4 := cell_row (i := 0) (K2.out.1.1.1.2); have q5 := cell_row (i := 1) (K2.out.1.1.1.2); have q6 := cell_row (i := 2) (K2.out.1.1.1.2); have q7 := cell_row (i := 3) (K2.out.1.1.1.2); clear hb))
    go_ret
    exact ⟨rfl, K31.out.1.1.1.1.1⟩
  have F4 := Lib.hid hF4
  by_cases hg : sigE ws id = 0
  rotate_left
  · obtain ⟨E, hE⟩ : ∃ E, sigE ws id = E := ⟨_, rfl⟩
    have F5 := Lib.hid hE
    have hz : (E != 0) = true := by rw [← hE]; simpa using hg
    clear hg hE hF3 hF4
    go_enter Try.func7, Try.ntmps7
    go_upto_region 1 with fail
    generalize ((w.alloc (.cells #[.slice A1 ws.length c1] 24)).alloc (.cells #[.slice s.A0 s.ri.length s.c0, .slice s.A1 s.bo.length s.c1, .slice s.A2 s.lk.length s.c2, .slice s.A3 s.lo.length s.c3] 27)).alloc (.cells #[.slice t.A0 t.ri.length t.c0, .slice t.A1 t.bo.length t.c1, .slice t.A2 t.lk.length t.c2, .slice t.A3 t.lo.length t.c3] 27) = W0 at *
    have q1 := cell_row (i := 0) (K.out.1.1.1.1.2)
    go_upto_region 3 with (first
      | (go_at_call 27; have _t := K21; clear _t; refine (CheckWater_any A1 c1 ws t _ K21.out.1.2.2.2.1 K21.out.1.2.1).mono ?_; rw [F4.out]; rintro e w29 ⟨rfl, hb⟩; have K28 := Lib.hid (K21.out.on hb); have q30 := cell_row (i := 0) (K28.out.1.1.1.1.2); clear hb)
      | (go_at_call 27; have _t := K14; clear _t; refine (CheckWater_any A1 c1 ws s _ K14.out.1.2.2.2.1 K14.out.1.2.2.1).mono ?_; rw [F3.out]; rintro e w22 ⟨rfl, hb⟩; have K21 := Lib.hid (K14.out.on hb); have q23 := cell_row (i := 0) (K21.out.1.1.1.1.2); have q24 := cell_row (i := 0) (K21.out.1.1.2); have q25 := cell_row (i := 1) (K21.out.1.1.2); have q26 := cell_row (i := 2) (K21.out.1.1.2); have q27 := cell_row (i := 3) (K21.out.1.1.2); clear hb)
      | (go_at_call 19; have _t := K8; clear _t; refine (wet_any t _ K8.out.1.2.2.2.2.1).mono ?_; rw [F2.out]; rintro e w15 ⟨rfl, hb⟩; have K14 := Lib.hid (K8.out.on hb); have q16 := cell_row (i := 0) (K14.out.1.1.1.1.2); have q17 := cell_row (i := 0) (K14.out.1.1.1.2); have q18 := cell_row (i := 1) (K14.out.1.1.1.2); have q19 := cell_row (i := 2) (K14.out.1.1.1.2); have q20 := cell_row (i := 3) (K14.out.1.1.1.2); clear hb)
      | (go_at_call 19; have _t := K2; clear _t; refine (wet_any s _ K2.out.1.2.2.2.2.2.1).mono ?_; rw [F1.out]; rintro e w9 ⟨rfl, hb⟩; have K8 := Lib.hid (K2.out.on hb); have q10 := cell_row (i := 0) (K8.out.1.1.2); have q11 := cell_row (i := 1) (K8.out.1.1.2); have q12 := cell_row (i := 2) (K8.out.1.1.2); have q13 := cell_row (i := 3) (K8.out.1.1.2); clear hb)
      | (go_at_call 18; have _t := K; clear _t; refine (few_any A1 c1 ws _ K.out.1.2.2.2.2.2.2.1).mono ?_; rw [F0.out]; rintro e w3 ⟨rfl, hb⟩; have K2 := Lib.hid (K.out.on hb); have q4 := cell_row (i := 0) (K2.out.1.1.1.2); have q5 := cell_row (i := 1) (K2.out.1.1.1.2); have q6 := cell_row (i := 2) (K2.out.1.1.1.2); have q7 := cell_row (i := 3) (K2.out.1.1.1.2); clear hb))
    clear q1 q4 q5 q6 q7 q10 q11 q12 q13 q16 q17 q18 q19 q20 q23 q24 q25 q26 q27 q30
    clear K K2 K8 K14 K21
    have q31 := cell_row (i := 0) (K28.out.1.1.1.1.2)
    go_wp2_with (first
      | (go_at_call 20; have _t := K32; clear _t; refine (sanity_any _).mono ?_; rintro e w35 ⟨rfl, hb⟩; have K34 := Lib.hid (K32.out.on hb); clear hb)
      | (go_at_call 37; have _t := K28; clear _t; refine (Signs_any A1 c1 ws id _ K28.out.1.2.2.2.1).mono ?_; rw [F5.out]; rintro e w33 ⟨⟨A7, c7, A8, c8, A9, c9, rfl, h7, h8, h9⟩, hb⟩; have K32 := Lib.hid (K28.out.on hb); clear h7 h8 h9; clear hb))
    go_ret
    exact ⟨rfl, K34.out.1.1.1.1.1⟩
  obtain ⟨g, x, hx, hxl, hl⟩ := sig_zero hg
  have hK := monoK g (cw_good hF3).2 (cw_good hF4).2 hxl hF3 hF4
  obtain ⟨F, hFF⟩ : ∃ F, flowsO ws s = F := ⟨_, rfl⟩
  obtain ⟨G, hGG⟩ : ∃ G, flowsO ws t = G := ⟨_, rfl⟩
  rw [hFF, hGG] at hK
  have F6 := Lib.hid (And.intro hFF hGG)
  have h1 := hl rivS
  have h2 := hl hatS
  have h3 := hl reaS
  generalize rivS ws x = l1 at *
  generalize hatS ws x = l2 at *
  generalize reaS ws x = l3 at *
  have HK := Lib.hid hK
  have F5 := Lib.hid (And.intro h1 (And.intro h2 (And.intro h3 (And.intro hg (show idxI (idxO ws id) = x by rw [hx]; rfl)))))
  clear hg hF3 hF4 hl hx hxl g hFF hGG hK h1 h2 h3
  cases hu : upB l1 s.ri t.ri with
  | false =>
    have U1 := Lib.hid hu
    clear hu
    go_enter Try.func7, Try.ntmps7
    go_upto_region 1 with fail
    generalize ((w.alloc (.cells #[.slice A1 ws.length c1] 24)).alloc (.cells #[.slice s.A0 s.ri.length s.c0, .slice s.A1 s.bo.length s.c1, .slice s.A2 s.lk.length s.c2, .slice s.A3 s.lo.length s.c3] 27)).alloc (.cells #[.slice t.A0 t.ri.length t.c0, .slice t.A1 t.bo.length t.c1, .slice t.A2 t.lk.length t.c2, .slice t.A3 t.lo.length t.c3] 27) = W0 at *
    have q1 := cell_row (i := 0) (K.out.1.1.1.1.2)
    go_upto_region 3 with (first
      | (go_at_call 27; have _t := K21; clear _t; refine (CheckWater_any A1 c1 ws t _ K21.out.1.2.2.2.1 K21.out.1.2.1).mono ?_; rw [F4.out]; rintro e w29 ⟨rfl, hb⟩; have K28 := Lib.hid (K21.out.on hb); have q30 := cell_row (i := 0) (K28.out.1.1.1.1.2); clear hb)
      | (go_at_call 27; have _t := K14; clear _t; refine (CheckWater_any A1 c1 ws s _ K14.out.1.2.2.2.1 K14.out.1.2.2.1).mono ?_; rw [F3.out]; rintro e w22 ⟨rfl, hb⟩; have K21 := Lib.hid (K14.out.on hb); have q23 := cell_row (i := 0) (K21.out.1.1.1.1.2); have q24 := cell_row (i := 0) (K21.out.1.1.2); have q25 := cell_row (i := 1) (K21.out.1.1.2); have q26 := cell_row (i := 2) (K21.out.1.1.2); have q27 := cell_row (i := 3) (K21.out.1.1.2); clear hb)
      | (go_at_call 19; have _t := K8; clear _t; refine (wet_any t _ K8.out.1.2.2.2.2.1).mono ?_; rw [F2.out]; rintro e w15 ⟨rfl, hb⟩; have K14 := Lib.hid (K8.out.on hb); have q16 := cell_row (i := 0) (K14.out.1.1.1.1.2); have q17 := cell_row (i := 0) (K14.out.1.1.1.2); have q18 := cell_row (i := 1) (K14.out.1.1.1.2); have q19 := cell_row (i := 2) (K14.out.1.1.1.2); have q20 := cell_row (i := 3) (K14.out.1.1.1.2); clear hb)
      | (go_at_call 19; have _t := K2; clear _t; refine (wet_any s _ K2.out.1.2.2.2.2.2.1).mono ?_; rw [F1.out]; rintro e w9 ⟨rfl, hb⟩; have K8 := Lib.hid (K2.out.on hb); have q10 := cell_row (i := 0) (K8.out.1.1.2); have q11 := cell_row (i := 1) (K8.out.1.1.2); have q12 := cell_row (i := 2) (K8.out.1.1.2); have q13 := cell_row (i := 3) (K8.out.1.1.2); clear hb)
      | (go_at_call 18; have _t := K; clear _t; refine (few_any A1 c1 ws _ K.out.1.2.2.2.2.2.2.1).mono ?_; rw [F0.out]; rintro e w3 ⟨rfl, hb⟩; have K2 := Lib.hid (K.out.on hb); have q4 := cell_row (i := 0) (K2.out.1.1.1.2); have q5 := cell_row (i := 1) (K2.out.1.1.1.2); have q6 := cell_row (i := 2) (K2.out.1.1.1.2); have q7 := cell_row (i := 3) (K2.out.1.1.1.2); clear hb))
    clear q1 q4 q5 q6 q7 q10 q11 q12 q13 q16 q17 q18 q19 q20 q23 q24 q25 q26 q27 q30
    clear K K2 K8 K14 K21
    have q31 := cell_row (i := 0) (K28.out.1.1.1.1.2)
    go_upto_region 6 with (go_at_call 37; have _t := K28; clear _t; refine (Signs_any A1 c1 ws id _ K28.out.1.2.2.2.1).mono ?_; rw [F5.out.1, F5.out.2.1, F5.out.2.2.1, F5.out.2.2.2.1]; rintro e w33 ⟨⟨A7, c7, A8, c8, A9, c9, rfl, h7, h8, h9⟩, hb⟩; have K32 := Lib.hid ((((K28.out.on hb).push (stays_rd h7)).push (stays_rd h8)).push (stays_rd h9)); clear h7 h8 h9; clear hb)
    clear q31
    clear K28
    have q34 := cell_row (i := 0) (K32.out.1.1.1.2)
    have q35 := cell_row (i := 1) (K32.out.1.1.1.2)
    have q36 := cell_row (i := 2) (K32.out.1.1.1.2)
    have q37 := cell_row (i := 3) (K32.out.1.1.1.2)
    have z1 : ((l1.length : Int) != (s.ri.length : Int)) = false := by rw [HK.out.e1]; simp
    have z2 : ((l2.length : Int) != (s.bo.length : Int)) = false := by rw [HK.out.e2]; simp
    have z3 : ((l3.length : Int) != (s.lo.length : Int)) = false := by rw [HK.out.e3]; simp
    go_upto_region 8 with fail
    clear q34 q35 q36 q37
    clear z1 z2 z3
    have q38 := cell_row (i := 0) (K32.out.1.1.1.2)
    have q39 := cell_row (i := 1) (K32.out.1.1.1.2)
    have q40 := cell_row (i := 2) (K32.out.1.1.1.2)
    have q41 := cell_row (i := 3) (K32.out.1.1.1.2)
    have q42 := cell_row (i := 0) (K32.out.1.1.2)
    have q43 := cell_row (i := 1) (K32.out.1.1.2)
    have q44 := cell_row (i := 2) (K32.out.1.1.2)
    have q45 := cell_row (i := 3) (K32.out.1.1.2)
    go_upto_region 9 with (go_at_call 38; have _t := K32; clear _t; refine (up_any A7 s.A0 t.A0 c7 s.c0 t.c0 l1 s.ri t.ri _ K32.out.1.2.2.2.1 K32.out.1.2.2.2.2.2.1.r0 K32.out.1.2.2.2.2.1.r0 (by have a := HK.out.m1; have b := HK.out.e1; omega) (by rw [HK.out.e1]) (by rw [HK.out.t1, HK.out.e1]) HK.out.a1 HK.out.b1).mono ?_; rw [U1.out]; rintro e w47 ⟨rfl, hb⟩; have K46 := Lib.hid (K32.out.on hb); have q48 := cell_row (i := 0) (K46.out.1.1.1.2); have q49 := cell_row (i := 1) (K46.out.1.1.1.2); have q50 := cell_row (i := 2) (K46.out.1.1.1.2); have q51 := cell_row (i := 3) (K46.out.1.1.1.2); have q52 := cell_row (i := 0) (K46.out.1.1.2); have q53 := cell_row (i := 1) (K46.out.1.1.2); have q54 := cell_row (i := 2) (K46.out.1.1.2); have q55 := cell_row (i := 3) (K46.out.1.1.2); clear hb)
    clear q38 q39 q40 q41 q42 q43 q44 q45 q48 q49 q50 q51 q52 q53 q54 q55
    clear K32
    have q56 := cell_row (i := 0) (K46.out.1.1.1.1.2)
    have q57 := cell_row (i := 0) (K46.out.1.1.1.2)
    have q58 := cell_row (i := 1) (K46.out.1.1.1.2)
    have q59 := cell_row (i := 2) (K46.out.1.1.1.2)
    have q60 := cell_row (i := 3) (K46.out.1.1.1.2)
    go_upto_region 10 with (go_at_call 21; have _t := K46; clear _t; refine (Flow_any A1 c1 ws s _ K46.out.1.2.2.2.2.2.2.1 K46.out.1.2.2.2.2.2.1).mono ?_; rw [F3.out, F6.out.1]; rintro e w62 ⟨A4, c4, rfl, hr, -, hb⟩; have K61 := Lib.hid ((K46.out.on hb).push (stays_rd hr)); clear hr; clear hb)
    clear q56 q57 q58 q59 q60
    clear K46
    have q63 := cell_row (i := 0) (K61.out.1.1.1.1.2)
    have q64 := cell_row (i := 0) (K61.out.1.1.2)
    have q65 := cell_row (i := 1) (K61.out.1.1.2)
    have q66 := cell_row (i := 2) (K61.out.1.1.2)
    have q67 := cell_row (i := 3) (K61.out.1.1.2)
    go_upto_region 11 with (go_at_call 21; have _t := K61; clear _t; refine (Flow_any A1 c1 ws t _ K61.out.1.2.2.2.2.2.2.2.1 K61.out.1.2.2.2.2.2.1).mono ?_; rw [F4.out, F6.out.2]; rintro e w69 ⟨A5, c5, rfl, hr, -, hb⟩; have K68 := Lib.hid ((K61.out.on hb).push (stays_rd hr)); clear hr; clear hb)
    clear q63 q64 q65 q66 q67
    clear K61
    have q70 := cell_row (i := 0) (K68.out.1.1.1.1.2)
    go_upto_region 12 with (go_at_call 39; have _t := K68; clear _t; refine (place_any A1 c1 ws id _ K68.out.1.2.2.2.2.2.2.2.2.1).mono ?_; rw [F5.out.2.2.2.2]; rintro e w72 ⟨rfl, hb⟩; have K71 := Lib.hid (K68.out.on hb); clear hb)
    clear q70
    clear K68
    have hx0 : ¬ (x : Int) < 0 := by omega
    have hx1 : ¬ (F.length : Int) ≤ (x : Int) := by have a := HK.out.lF; have b := HK.out.hx; omega
    have hx2 : ¬ (G.length : Int) ≤ (x : Int) := by have a := HK.out.lG; have b := HK.out.hx; omega
    have hx3 : (x : Int) < (F.length : Int) := by omega
    have hx4 : (x : Int) < (G.length : Int) := by omega
    have hrF := K71.out.1.2.2.1
    have hrG := K71.out.1.2.1
    obtain ⟨b1, o1, rfl, lb1, hcF⟩ := hrF (by omega)
    obtain ⟨b0, o0, rfl, lb0, hcG⟩ := hrG (by omega)
    have k0 := hcG x (by omega)
    have k1 := hcF x (by omega)
    clear hcF hcG hrF hrG
    go_upto_region 14 with fail
    have kS : monS b0 (o0 + x) b1 (o1 + x) (.int .i64 (nth G x)) (.int .i64 (nth F x)) 0 w72.drew := k0
    have kT : monS b0 (o0 + x) b1 (o1 + x) (.int .i64 (nth G x)) (.int .i64 (nth F x)) 1 w72.drew := k1
    have KX := Lib.hid (K71.out.on ((Below.refl _ w72).drew))
    clear K71 k0 k1
    refine wp_region_K (by kernel_rfl) (monS b0 (o0 + x) b1 (o1 + x) (.int .i64 (nth G x)) (.int .i64 (nth F x))) (fun _ _ => true) ?_
    generalize w72.drew = X0 at *
    refine wpAnyK_ready (rs := [0]) (by kernel_rfl) (by simp) (AllK.consL rfl (by rfl) (fun K hK => ?_) AllK.nil)
    go_simp
    refine (sanity_any X0).mono ?_
    rintro e X1 ⟨rfl, hb⟩
    dsimp only
    refine hK.out _ _ (fun k _ h => monS_on hb h) ?_
    have KY := Lib.hid (KX.out.on hb)
    replace kS := monS_on hb kS
    replace kT := monS_on hb kT
    clear hK hb KX
    refine wpAnyK_takeL 2 (i := 1) (v := ?_) rfl (by kernel_rfl) (by kernel_rfl) (by kernel_rfl) (by kernel_rfl) (fun _ _ _ h => h) (by first | assumption | trivial) (Or.inl ⟨by rfl, ?_⟩) ?_
    rotate_left
    · intro w hSw; (try dsimp only at hSw); (try change _ = _ at hSw); (try (obtain ⟨_, _⟩ : _ ∧ _ := hSw)); go_simp; (try with_reducible rfl)
    (try go_frame)
    refine wpAnyK_takeL 2 (i := 2) (v := ?_) rfl (by kernel_rfl) (by kernel_rfl) (by kernel_rfl) (by kernel_rfl) (fun _ _ _ h => h) (by first | assumption | trivial) (Or.inl ⟨by rfl, ?_⟩) ?_
    rotate_left
    · intro w hSw; (try dsimp only at hSw); (try change _ = _ at hSw); (try (obtain ⟨_, _⟩ : _ ∧ _ := hSw)); go_simp; (try with_reducible rfl)
    (try go_frame)
    refine wpAnyK_takeL 2 (i := 3) (v := ?_) rfl (by kernel_rfl) (by kernel_rfl) (by kernel_rfl) (by kernel_rfl) (fun _ _ _ h => h) (by first | assumption | trivial) (Or.inl ⟨by rfl, ?_⟩) ?_
    rotate_left
    · intro w hSw; (try dsimp only at hSw); (try change _ = _ at hSw); (try (obtain ⟨_, _⟩ : _ ∧ _ := hSw)); go_simp; (try with_reducible rfl)
    (try go_frame)
    refine wpAnyK_takeL 2 (i := 4) (v := ?_) rfl (by kernel_rfl) (by kernel_rfl) (by kernel_rfl) (by kernel_rfl) (fun _ _ _ h => h) (by first | assumption | trivial) (Or.inl ⟨by rfl, ?_⟩) ?_
    rotate_left
    · intro w hSw; (try dsimp only at hSw); (try change _ = _ at hSw); (try (obtain ⟨_, _⟩ : _ ∧ _ := hSw)); go_simp; (try with_reducible rfl)
    (try go_frame)
    refine wpAnyK_takeL 2 (i := 5) (v := undef) rfl (by kernel_rfl) (by kernel_rfl) (by kernel_rfl) (by kernel_rfl) (fun _ _ _ h => h) (by first | assumption | trivial) (Or.inr ⟨by kernel_rfl, rfl⟩) ?_
    (try go_frame)
    refine wpAnyK_takeL 2 (i := 6) (v := undef) rfl (by kernel_rfl) (by kernel_rfl) (by kernel_rfl) (by kernel_rfl) (fun _ _ _ h => h) (by first | assumption | trivial) (Or.inr ⟨by kernel_rfl, rfl⟩) ?_
    (try go_frame)
    refine wpAnyK_takeL 2 (i := 7) (v := undef) rfl (by kernel_rfl) (by kernel_rfl) (by kernel_rfl) (by kernel_rfl) (fun _ _ _ h => h) (by first | assumption | trivial) (Or.inr ⟨by kernel_rfl, rfl⟩) ?_
    (try go_frame)
    refine wpAnyK_takeL 2 (i := 8) (v := undef) rfl (by kernel_rfl) (by kernel_rfl) (by kernel_rfl) (by kernel_rfl) (fun _ _ _ h => h) (by first | assumption | trivial) (Or.inr ⟨by kernel_rfl, rfl⟩) ?_
    (try go_frame)
    refine wpAnyK_takeL 2 (i := 9) (v := undef) rfl (by kernel_rfl) (by kernel_rfl) (by kernel_rfl) (by kernel_rfl) (fun _ _ _ h => h) (by first | assumption | trivial) (Or.inr ⟨by kernel_rfl, rfl⟩) ?_
    (try go_frame)
    refine wpAnyK_takeL 2 (i := 10) (v := undef) rfl (by kernel_rfl) (by kernel_rfl) (by kernel_rfl) (by kernel_rfl) (fun _ _ _ h => h) (by first | assumption | trivial) (Or.inr ⟨by kernel_rfl, rfl⟩) ?_
    (try go_frame)
    refine wpAnyK_takeL 2 (i := 11) (v := undef) rfl (by kernel_rfl) (by kernel_rfl) (by kernel_rfl) (by kernel_rfl) (fun _ _ _ h => h) (by first | assumption | trivial) (Or.inr ⟨by kernel_rfl, rfl⟩) ?_
    (try go_frame)
    refine wpAnyK_takeL 2 (i := 12) (v := undef) rfl (by kernel_rfl) (by kernel_rfl) (by kernel_rfl) (by kernel_rfl) (fun _ _ _ h => h) (by first | assumption | trivial) (Or.inr ⟨by kernel_rfl, rfl⟩) ?_
    (try go_frame)
    refine wpAnyK_takeL 2 (i := 13) (v := undef) rfl (by kernel_rfl) (by kernel_rfl) (by kernel_rfl) (by kernel_rfl) (fun _ _ _ h => h) (by first | assumption | trivial) (Or.inr ⟨by kernel_rfl, rfl⟩) ?_
    (try go_frame)
    refine wpAnyK_takeL 2 (i := 14) (v := ?_) rfl (by kernel_rfl) (by kernel_rfl) (by kernel_rfl) (by kernel_rfl) (fun _ _ _ h => h) (by first | assumption | trivial) (Or.inl ⟨by rfl, ?_⟩) ?_
    rotate_left
    · intro w hSw; (try dsimp only at hSw); (try change _ = _ at hSw); (try (obtain ⟨_, _⟩ : _ ∧ _ := hSw)); go_simp; (try with_reducible rfl)
    (try go_frame)
    refine wpAnyK_takeL 2 (i := 15) (v := ?_) rfl (by kernel_rfl) (by kernel_rfl) (by kernel_rfl) (by kernel_rfl) (fun _ _ _ h => h) (by first | assumption | trivial) (Or.inl ⟨by rfl, ?_⟩) ?_
    rotate_left
    · intro w hSw; (try dsimp only at hSw); (try change _ = _ at hSw); (try (obtain ⟨_, _⟩ : _ ∧ _ := hSw)); go_simp; (try with_reducible rfl)
    (try go_frame)
    refine wpAnyK_takeL 2 (i := 16) (v := ?_) rfl (by kernel_rfl) (by kernel_rfl) (by kernel_rfl) (by kernel_rfl) (fun _ _ _ h => h) (by first | assumption | trivial) (Or.inl ⟨by rfl, ?_⟩) ?_
    rotate_left
    · intro w hSw; (try dsimp only at hSw); (try change _ = _ at hSw); (try (obtain ⟨_, _⟩ : _ ∧ _ := hSw)); go_simp; (try with_reducible rfl)
    (try go_frame)
    refine wpAnyK_done (by kernel_rfl) ?_ _
    clear kS kT
    go_wp2
    go_ret
    exact ⟨rfl, KY.out.1.1.1.1.1⟩
  | true =>
  have U1 := Lib.hid hu
  clear hu
  cases hu : upB l2 s.bo t.bo with
  | false =>
    have U2 := Lib.hid hu
    clear hu
    go_enter Try.func7, Try.ntmps7
    go_upto_region 1 with fail
    generalize ((w.alloc (.cells #[.slice A1 ws.length c1] 24)).alloc (.cells #[.slice s.A0 s.ri.length s.c0, .slice s.A1 s.bo.length s.c1, .slice s.A2 s.lk.length s.c2, .slice s.A3 s.lo.length s.c3] 27)).alloc (.cells #[.slice t.A0 t.ri.length t.c0, .slice t.A1 t.bo.length t.c1, .slice t.A2 t.lk.length t.c2, .slice t.A3 t.lo.length t.c3] 27) = W0 at *
    have q1 := cell_row (i := 0) (K.out.1.1.1.1.2)
    go_upto_region 3 with (first
      | (go_at_call 27; have _t := K21; clear _t; refine (CheckWater_any A1 c1 ws t _ K21.out.1.2.2.2.1 K21.out.1.2.1).mono ?_; rw [F4.out]; rintro e w29 ⟨rfl, hb⟩; have K28 := Lib.hid (K21.out.on hb); have q30 := cell_row (i := 0) (K28.out.1.1.1.1.2); clear hb)
      | (go_at_call 27; have _t := K14; clear _t; refine (CheckWater_any A1 c1 ws s _ K14.out.1.2.2.2.1 K14.out.1.2.2.1).mono ?_; rw [F3.out]; rintro e w22 ⟨rfl, hb⟩; have K21 := Lib.hid (K14.out.on hb); have q23 := cell_row (i := 0) (K21.out.1.1.1.1.2); have q24 := cell_row (i := 0) (K21.out.1.1.2); have q25 := cell_row (i := 1) (K21.out.1.1.2); have q26 := cell_row (i := 2) (K21.out.1.1.2); have q27 := cell_row (i := 3) (K21.out.1.1.2); clear hb)
      | (go_at_call 19; have _t := K8; clear _t; refine (wet_any t _ K8.out.1.2.2.2.2.1).mono ?_; rw [F2.out]; rintro e w15 ⟨rfl, hb⟩; have K14 := Lib.hid (K8.out.on hb); have q16 := cell_row (i := 0) (K14.out.1.1.1.1.2); have q17 := cell_row (i := 0) (K14.out.1.1.1.2); have q18 := cell_row (i := 1) (K14.out.1.1.1.2); have q19 := cell_row (i := 2) (K14.out.1.1.1.2); have q20 := cell_row (i := 3) (K14.out.1.1.1.2); clear hb)
      | (go_at_call 19; have _t := K2; clear _t; refine (wet_any s _ K2.out.1.2.2.2.2.2.1).mono ?_; rw [F1.out]; rintro e w9 ⟨rfl, hb⟩; have K8 := Lib.hid (K2.out.on hb); have q10 := cell_row (i := 0) (K8.out.1.1.2); have q11 := cell_row (i := 1) (K8.out.1.1.2); have q12 := cell_row (i := 2) (K8.out.1.1.2); have q13 := cell_row (i := 3) (K8.out.1.1.2); clear hb)
      | (go_at_call 18; have _t := K; clear _t; refine (few_any A1 c1 ws _ K.out.1.2.2.2.2.2.2.1).mono ?_; rw [F0.out]; rintro e w3 ⟨rfl, hb⟩; have K2 := Lib.hid (K.out.on hb); have q4 := cell_row (i := 0) (K2.out.1.1.1.2); have q5 := cell_row (i := 1) (K2.out.1.1.1.2); have q6 := cell_row (i := 2) (K2.out.1.1.1.2); have q7 := cell_row (i := 3) (K2.out.1.1.1.2); clear hb))
    clear q1 q4 q5 q6 q7 q10 q11 q12 q13 q16 q17 q18 q19 q20 q23 q24 q25 q26 q27 q30
    clear K K2 K8 K14 K21
    have q31 := cell_row (i := 0) (K28.out.1.1.1.1.2)
    go_upto_region 6 with (go_at_call 37; have _t := K28; clear _t; refine (Signs_any A1 c1 ws id _ K28.out.1.2.2.2.1).mono ?_; rw [F5.out.1, F5.out.2.1, F5.out.2.2.1, F5.out.2.2.2.1]; rintro e w33 ⟨⟨A7, c7, A8, c8, A9, c9, rfl, h7, h8, h9⟩, hb⟩; have K32 := Lib.hid ((((K28.out.on hb).push (stays_rd h7)).push (stays_rd h8)).push (stays_rd h9)); clear h7 h8 h9; clear hb)
    clear q31
    clear K28
    have q34 := cell_row (i := 0) (K32.out.1.1.1.2)
    have q35 := cell_row (i := 1) (K32.out.1.1.1.2)
    have q36 := cell_row (i := 2) (K32.out.1.1.1.2)
    have q37 := cell_row (i := 3) (K32.out.1.1.1.2)
    have z1 : ((l1.length : Int) != (s.ri.length : Int)) = false := by rw [HK.out.e1]; simp
    have z2 : ((l2.length : Int) != (s.bo.length : Int)) = false := by rw [HK.out.e2]; simp
    have z3 : ((l3.length : Int) != (s.lo.length : Int)) = false := by rw [HK.out.e3]; simp
    go_upto_region 8 with fail
    clear q34 q35 q36 q37
    clear z1 z2 z3
    have q38 := cell_row (i := 0) (K32.out.1.1.1.2)
    have q39 := cell_row (i := 1) (K32.out.1.1.1.2)
    have q40 := cell_row (i := 2) (K32.out.1.1.1.2)
    have q41 := cell_row (i := 3) (K32.out.1.1.1.2)
    have q42 := cell_row (i := 0) (K32.out.1.1.2)
    have q43 := cell_row (i := 1) (K32.out.1.1.2)
    have q44 := cell_row (i := 2) (K32.out.1.1.2)
    have q45 := cell_row (i := 3) (K32.out.1.1.2)
    go_upto_region 9 with (first
      | (go_at_call 38; have _t := K46; clear _t; refine (up_any A8 s.A1 t.A1 c8 s.c1 t.c1 l2 s.bo t.bo _ K46.out.1.2.2.1 K46.out.1.2.2.2.2.2.1.r1 K46.out.1.2.2.2.2.1.r1 (by have a := HK.out.m2; have b := HK.out.e2; omega) (by rw [HK.out.e2]) (by rw [HK.out.t2, HK.out.e2]) HK.out.a2 HK.out.b2).mono ?_; rw [U2.out]; rintro e w57 ⟨rfl, hb⟩; have K56 := Lib.hid (K46.out.on hb); have q58 := cell_row (i := 0) (K56.out.1.1.1.2); have q59 := cell_row (i := 1) (K56.out.1.1.1.2); have q60 := cell_row (i := 2) (K56.out.1.1.1.2); have q61 := cell_row (i := 3) (K56.out.1.1.1.2); have q62 := cell_row (i := 0) (K56.out.1.1.2); have q63 := cell_row (i := 1) (K56.out.1.1.2); have q64 := cell_row (i := 2) (K56.out.1.1.2); have q65 := cell_row (i := 3) (K56.out.1.1.2); clear hb)
      | (go_at_call 38; have _t := K32; clear _t; refine (up_any A7 s.A0 t.A0 c7 s.c0 t.c0 l1 s.ri t.ri _ K32.out.1.2.2.2.1 K32.out.1.2.2.2.2.2.1.r0 K32.out.1.2.2.2.2.1.r0 (by have a := HK.out.m1; have b := HK.out.e1; omega) (by rw [HK.out.e1]) (by rw [HK.out.t1, HK.out.e1]) HK.out.a1 HK.out.b1).mono ?_; rw [U1.out]; rintro e w47 ⟨rfl, hb⟩; have K46 := Lib.hid (K32.out.on hb); have q48 := cell_row (i := 0) (K46.out.1.1.1.2); have q49 := cell_row (i := 1) (K46.out.1.1.1.2); have q50 := cell_row (i := 2) (K46.out.1.1.1.2); have q51 := cell_row (i := 3) (K46.out.1.1.1.2); have q52 := cell_row (i := 0) (K46.out.1.1.2); have q53 := cell_row (i := 1) (K46.out.1.1.2); have q54 := cell_row (i := 2) (K46.out.1.1.2); have q55 := cell_row (i := 3) (K46.out.1.1.2); clear hb))
    clear q38 q39 q40 q41 q42 q43 q44 q45 q48 q49 q50 q51 q52 q53 q54 q55 q58 q59 q60 q61 q62 q63 q64 q65
    clear K32 K46
    have q66 := cell_row (i := 0) (K56.out.1.1.1.1.2)
    have q67 := cell_row (i := 0) (K56.out.1.1.1.2)
    have q68 := cell_row (i := 1) (K56.out.1.1.1.2)
    have q69 := cell_row (i := 2) (K56.out.1.1.1.2)
    have q70 := cell_row (i := 3) (K56.out.1.1.1.2)
    go_upto_region 10 with (go_at_call 21; have _t := K56; clear _t; refine (Flow_any A1 c1 ws s _ K56.out.1.2.2.2.2.2.2.1 K56.out.1.2.2.2.2.2.1).mono ?_; rw [F3.out, F6.out.1]; rintro e w72 ⟨A4, c4, rfl, hr, -, hb⟩; have K71 := Lib.hid ((K56.out.on hb).push (stays_rd hr)); clear hr; clear hb)
    clear q66 q67 q68 q69 q70
    clear K56
    have q73 := cell_row (i := 0) (K71.out.1.1.1.1.2)
    have q74 := cell_row (i := 0) (K71.out.1.1.2)
    have q75 := cell_row (i := 1) (K71.out.1.1.2)
    have q76 := cell_row (i := 2) (K71.out.1.1.2)
    have q77 := cell_row (i := 3) (K71.out.1.1.2)
    go_upto_region 11 with (go_at_call 21; have _t := K71; clear _t; refine (Flow_any A1 c1 ws t _ K71.out.1.2.2.2.2.2.2.2.1 K71.out.1.2.2.2.2.2.1).mono ?_; rw [F4.out, F6.out.2]; rintro e w79 ⟨A5, c5, rfl, hr, -, hb⟩; have K78 := Lib.hid ((K71.out.on hb).push (stays_rd hr)); clear hr; clear hb)
    clear q73 q74 q75 q76 q77
    clear K71
    have q80 := cell_row (i := 0) (K78.out.1.1.1.1.2)
    go_upto_region 12 with (go_at_call 39; have _t := K78; clear _t; refine (place_any A1 c1 ws id _ K78.out.1.2.2.2.2.2.2.2.2.1).mono ?_; rw [F5.out.2.2.2.2]; rintro e w82 ⟨rfl, hb⟩; have K81 := Lib.hid (K78.out.on hb); clear hb)
    clear q80
    clear K78
    have hx0 : ¬ (x : Int) < 0 := by omega
    have hx1 : ¬ (F.length : Int) ≤ (x : Int) := by have a := HK.out.lF; have b := HK.out.hx; omega
    have hx2 : ¬ (G.length : Int) ≤ (x : Int) := by have a := HK.out.lG; have b := HK.out.hx; omega
    have hx3 : (x : Int) < (F.length : Int) := by omega
    have hx4 : (x : Int) < (G.length : Int) := by omega
    have hrF := K81.out.1.2.2.1
    have hrG := K81.out.1.2.1
    obtain ⟨b1, o1, rfl, lb1, hcF⟩ := hrF (by omega)
    obtain ⟨b0, o0, rfl, lb0, hcG⟩ := hrG (by omega)
    have k0 := hcG x (by omega)
    have k1 := hcF x (by omega)
    clear hcF hcG hrF hrG
    go_upto_region 14 with fail
    have kS : monS b0 (o0 + x) b1 (o1 + x) (.int .i64 (nth G x)) (.int .i64 (nth F x)) 0 w82.drew := k0
    have kT : monS b0 (o0 + x) b1 (o1 + x) (.int .i64 (nth G x)) (.int .i64 (nth F x)) 1 w82.drew := k1
    have KX := Lib.hid (K81.out.on ((Below.refl _ w82).drew))
    clear K81 k0 k1
    refine wp_region_K (by kernel_rfl) (monS b0 (o0 + x) b1 (o1 + x) (.int .i64 (nth G x)) (.int .i64 (nth F x))) (fun _ _ => true) ?_
    generalize w82.drew = X0 at *
    refine wpAnyK_ready (rs := [0]) (by kernel_rfl) (by simp) (AllK.consL rfl (by rfl) (fun K hK => ?_) AllK.nil)
    go_simp
    refine (sanity_any X0).mono ?_
    rintro e X1 ⟨rfl, hb⟩
    dsimp only
    refine hK.out _ _ (fun k _ h => monS_on hb h) ?_
    have KY := Lib.hid (KX.out.on hb)
    replace kS := monS_on hb kS
    replace kT := monS_on hb kT
    clear hK hb KX
    refine wpAnyK_takeL 2 (i := 1) (v := ?_) rfl (by kernel_rfl) (by kernel_rfl) (by kernel_rfl) (by kernel_rfl) (fun _ _ _ h => h) (by first | assumption | trivial) (Or.inl ⟨by rfl, ?_⟩) ?_
    rotate_left
    · intro w hSw; (try dsimp only at hSw); (try change _ = _ at hSw); (try (obtain ⟨_, _⟩ : _ ∧ _ := hSw)); go_simp; (try with_reducible rfl)
    (try go_frame)
    refine wpAnyK_takeL 2 (i := 2) (v := ?_) rfl (by kernel_rfl) (by kernel_rfl) (by kernel_rfl) (by kernel_rfl) (fun _ _ _ h => h) (by first | assumption | trivial) (Or.inl ⟨by rfl, ?_⟩) ?_
    rotate_left
    · intro w hSw; (try dsimp only at hSw); (try change _ = _ at hSw); (try (obtain ⟨_, _⟩ : _ ∧ _ := hSw)); go_simp; (try with_reducible rfl)
    (try go_frame)
    refine wpAnyK_takeL 2 (i := 3) (v := ?_) rfl (by kernel_rfl) (by kernel_rfl) (by kernel_rfl) (by kernel_rfl) (fun _ _ _ h => h) (by first | assumption | trivial) (Or.inl ⟨by rfl, ?_⟩) ?_
    rotate_left
    · intro w hSw; (try dsimp only at hSw); (try change _ = _ at hSw); (try (obtain ⟨_, _⟩ : _ ∧ _ := hSw)); go_simp; (try with_reducible rfl)
    (try go_frame)
    refine wpAnyK_takeL 2 (i := 4) (v := ?_) rfl (by kernel_rfl) (by kernel_rfl) (by kernel_rfl) (by kernel_rfl) (fun _ _ _ h => h) (by first | assumption | trivial) (Or.inl ⟨by rfl, ?_⟩) ?_
    rotate_left
    · intro w hSw; (try dsimp only at hSw); (try change _ = _ at hSw); (try (obtain ⟨_, _⟩ : _ ∧ _ := hSw)); go_simp; (try with_reducible rfl)
    (try go_frame)
    refine wpAnyK_takeL 2 (i := 5) (v := undef) rfl (by kernel_rfl) (by kernel_rfl) (by kernel_rfl) (by kernel_rfl) (fun _ _ _ h => h) (by first | assumption | trivial) (Or.inr ⟨by kernel_rfl, rfl⟩) ?_
    (try go_frame)
    refine wpAnyK_takeL 2 (i := 6) (v := undef) rfl (by kernel_rfl) (by kernel_rfl) (by kernel_rfl) (by kernel_rfl) (fun _ _ _ h => h) (by first | assumption | trivial) (Or.inr ⟨by kernel_rfl, rfl⟩) ?_
    (try go_frame)
    refine wpAnyK_takeL 2 (i := 7) (v := undef) rfl (by kernel_rfl) (by kernel_rfl) (by kernel_rfl) (by kernel_rfl) (fun _ _ _ h => h) (by first | assumption | trivial) (Or.inr ⟨by kernel_rfl, rfl⟩) ?_
    (try go_frame)
    refine wpAnyK_takeL 2 (i := 8) (v := undef) rfl (by kernel_rfl) (by kernel_rfl) (by kernel_rfl) (by kernel_rfl) (fun _ _ _ h => h) (by first | assumption | trivial) (Or.inr ⟨by kernel_rfl, rfl⟩) ?_
    (try go_frame)
    refine wpAnyK_takeL 2 (i := 9) (v := undef) rfl (by kernel_rfl) (by kernel_rfl) (by kernel_rfl) (by kernel_rfl) (fun _ _ _ h => h) (by first | assumption | trivial) (Or.inr ⟨by kernel_rfl, rfl⟩) ?_
    (try go_frame)
    refine wpAnyK_takeL 2 (i := 10) (v := undef) rfl (by kernel_rfl) (by kernel_rfl) (by kernel_rfl) (by kernel_rfl) (fun _ _ _ h => h) (by first | assumption | trivial) (Or.inr ⟨by kernel_rfl, rfl⟩) ?_
    (try go_frame)
    refine wpAnyK_takeL 2 (i := 11) (v := undef) rfl (by kernel_rfl) (by kernel_rfl) (by kernel_rfl) (by kernel_rfl) (fun _ _ _ h => h) (by first | assumption | trivial) (Or.inr ⟨by kernel_rfl, rfl⟩) ?_
    (try go_frame)
    refine wpAnyK_takeL 2 (i := 12) (v := undef) rfl (by kernel_rfl) (by kernel_rfl) (by kernel_rfl) (by kernel_rfl) (fun _ _ _ h => h) (by first | assumption | trivial) (Or.inr ⟨by kernel_rfl, rfl⟩) ?_
    (try go_frame)
    refine wpAnyK_takeL 2 (i := 13) (v := undef) rfl (by kernel_rfl) (by kernel_rfl) (by kernel_rfl) (by kernel_rfl) (fun _ _ _ h => h) (by first | assumption | trivial) (Or.inr ⟨by kernel_rfl, rfl⟩) ?_
    (try go_frame)
    refine wpAnyK_takeL 2 (i := 14) (v := ?_) rfl (by kernel_rfl) (by kernel_rfl) (by kernel_rfl) (by kernel_rfl) (fun _ _ _ h => h) (by first | assumption | trivial) (Or.inl ⟨by rfl, ?_⟩) ?_
    rotate_left
    · intro w hSw; (try dsimp only at hSw); (try change _ = _ at hSw); (try (obtain ⟨_, _⟩ : _ ∧ _ := hSw)); go_simp; (try with_reducible rfl)
    (try go_frame)
    refine wpAnyK_takeL 2 (i := 15) (v := ?_) rfl (by kernel_rfl) (by kernel_rfl) (by kernel_rfl) (by kernel_rfl) (fun _ _ _ h => h) (by first | assumption | trivial) (Or.inl ⟨by rfl, ?_⟩) ?_
    rotate_left
    · intro w hSw; (try dsimp only at hSw); (try change _ = _ at hSw); (try (obtain ⟨_, _⟩ : _ ∧ _ := hSw)); go_simp; (try with_reducible rfl)
    (try go_frame)
    refine wpAnyK_takeL 2 (i := 16) (v := ?_) rfl (by kernel_rfl) (by kernel_rfl) (by kernel_rfl) (by kernel_rfl) (fun _ _ _ h => h) (by first | assumption | trivial) (Or.inl ⟨by rfl, ?_⟩) ?_
    rotate_left
    · intro w hSw; (try dsimp only at hSw); (try change _ = _ at hSw); (try (obtain ⟨_, _⟩ : _ ∧ _ := hSw)); go_simp; (try with_reducible rfl)
    (try go_frame)
    refine wpAnyK_done (by kernel_rfl) ?_ _
    clear kS kT
    go_wp2
    go_ret
    exact ⟨rfl, KY.out.1.1.1.1.1⟩
  | true =>
  have U2 := Lib.hid hu
  clear hu
  cases hu : upB l2 s.lk t.lk with
  | false =>
    have U3 := Lib.hid hu
    clear hu
    go_enter Try.func7, Try.ntmps7
    go_upto_region 1 with fail
    generalize ((w.alloc (.cells #[.slice A1 ws.length c1] 24)).alloc (.cells #[.slice s.A0 s.ri.length s.c0, .slice s.A1 s.bo.length s.c1, .slice s.A2 s.lk.length s.c2, .slice s.A3 s.lo.length s.c3] 27)).alloc (.cells #[.slice t.A0 t.ri.length t.c0, .slice t.A1 t.bo.length t.c1, .slice t.A2 t.lk.length t.c2, .slice t.A3 t.lo.length t.c3] 27) = W0 at *
    have q1 := cell_row (i := 0) (K.out.1.1.1.1.2)
    go_upto_region 3 with (first
      | (go_at_call 27; have _t := K21; clear _t; refine (CheckWater_any A1 c1 ws t _ K21.out.1.2.2.2.1 K21.out.1.2.1).mono ?_; rw [F4.out]; rintro e w29 ⟨rfl, hb⟩; have K28 := Lib.hid (K21.out.on hb); have q30 := cell_row (i := 0) (K28.out.1.1.1.1.2); clear hb)
      | (go_at_call 27; have _t := K14; clear _t; refine (CheckWater_any A1 c1 ws s _ K14.out.1.2.2.2.1 K14.out.1.2.2.1).mono ?_; rw [F3.out]; rintro e w22 ⟨rfl, hb⟩; have K21 := Lib.hid (K14.out.on hb); have q23 := cell_row (i := 0) (K21.out.1.1.1.1.2); have q24 := cell_row (i := 0) (K21.out.1.1.2); have q25 := cell_row (i := 1) (K21.out.1.1.2); have q26 := cell_row (i := 2) (K21.out.1.1.2); have q27 := cell_row (i := 3) (K21.out.1.1.2); clear hb)
      | (go_at_call 19; have _t := K8; clear _t; refine (wet_any t _ K8.out.1.2.2.2.2.1).mono ?_; rw [F2.out]; rintro e w15 ⟨rfl, hb⟩; have K14 := Lib.hid (K8.out.on hb); have q16 := cell_row (i := 0) (K14.out.1.1.1.1.2); have q17 := cell_row (i := 0) (K14.out.1.1.1.2); have q18 := cell_row (i := 1) (K14.out.1.1.1.2); have q19 := cell_row (i := 2) (K14.out.1.1.1.2); have q20 := cell_row (i := 3) (K14.out.1.1.1.2); clear hb)
      | (go_at_call 19; have _t := K2; clear _t; refine (wet_any s _ K2.out.1.2.2.2.2.2.1).mono ?_; rw [F1.out]; rintro e w9 ⟨rfl, hb⟩; have K8 := Lib.hid (K2.out.on hb); have q10 := cell_row (i := 0) (K8.out.1.1.2); have q11 := cell_row (i := 1) (K8.out.1.1.2); have q12 := cell_row (i := 2) (K8.out.1.1.2); have q13 := cell_row (i := 3) (K8.out.1.1.2); clear hb)
      | (go_at_call 18; have _t := K; clear _t; refine (few_any A1 c1 ws _ K.out.1.2.2.2.2.2.2.1).mono ?_; rw [F0.out]; rintro e w3 ⟨rfl, hb⟩; have K2 := Lib.hid (K.out.on hb); have q4 := cell_row (i := 0) (K2.out.1.1.1.2); have q5 := cell_row (i := 1) (K2.out.1.1.1.2); have q6 := cell_row (i := 2) (K2.out.1.1.1.2); have q7 := cell_row (i := 3) (K2.out.1.1.1.2); clear hb))
    clear q1 q4 q5 q6 q7 q10 q11 q12 q13 q16 q17 q18 q19 q20 q23 q24 q25 q26 q27 q30
    clear K K2 K8 K14 K21
    have q31 := cell_row (i := 0) (K28.out.1.1.1.1.2)
    go_upto_region 6 with (go_at_call 37; have _t := K28; clear _t; refine (Signs_any A1 c1 ws id _ K28.out.1.2.2.2.1).mono ?_; rw [F5.out.1, F5.out.2.1, F5.out.2.2.1, F5.out.2.2.2.1]; rintro e w33 ⟨⟨A7, c7, A8, c8, A9, c9, rfl, h7, h8, h9⟩, hb⟩; have K32 := Lib.hid ((((K28.out.on hb).push (stays_rd h7)).push (stays_rd h8)).push (stays_rd h9)); clear h7 h8 h9; clear hb)
    clear q31
    clear K28
    have q34 := cell_row (i := 0) (K32.out.1.1.1.2)
    have q35 := cell_row (i := 1) (K32.out.1.1.1.2)
    have q36 := cell_row (i := 2) (K32.out.1.1.1.2)
    have q37 := cell_row (i := 3) (K32.out.1.1.1.2)
    have z1 : ((l1.length : Int) != (s.ri.length : Int)) = false := by rw [HK.out.e1]; simp
    have z2 : ((l2.length : Int) != (s.bo.length : Int)) = false := by rw [HK.out.e2]; simp
    have z3 : ((l3.length : Int) != (s.lo.length : Int)) = false := by rw [HK.out.e3]; simp
    go_upto_region 8 with fail
    clear q34 q35 q36 q37
    clear z1 z2 z3
    have q38 := cell_row (i := 0) (K32.out.1.1.1.2)
    have q39 := cell_row (i := 1) (K32.out.1.1.1.2)
    have q40 := cell_row (i := 2) (K32.out.1.1.1.2)
    have q41 := cell_row (i := 3) (K32.out.1.1.1.2)
    have q42 := cell_row (i := 0) (K32.out.1.1.2)
    have q43 := cell_row (i := 1) (K32.out.1.1.2)
    have q44 := cell_row (i := 2) (K32.out.1.1.2)
    have q45 := cell_row (i := 3) (K32.out.1.1.2)
    go_upto_region 9 with (first
      | (go_at_call 38; have _t := K56; clear _t; refine (up_any A8 s.A2 t.A2 c8 s.c2 t.c2 l2 s.lk t.lk _ K56.out.1.2.2.1 K56.out.1.2.2.2.2.2.1.r2 K56.out.1.2.2.2.2.1.r2 (by have a := HK.out.m2; have b := HK.out.e2; omega) (by rw [HK.out.e4, HK.out.e2]) (by rw [HK.out.t3, HK.out.e4, HK.out.e2]) HK.out.a3 HK.out.b3).mono ?_; rw [U3.out]; rintro e w67 ⟨rfl, hb⟩; have K66 := Lib.hid (K56.out.on hb); have q68 := cell_row (i := 0) (K66.out.1.1.1.2); have q69 := cell_row (i := 1) (K66.out.1.1.1.2); have q70 := cell_row (i := 2) (K66.out.1.1.1.2); have q71 := cell_row (i := 3) (K66.out.1.1.1.2); have q72 := cell_row (i := 0) (K66.out.1.1.2); have q73 := cell_row (i := 1) (K66.out.1.1.2); have q74 := cell_row (i := 2) (K66.out.1.1.2); have q75 := cell_row (i := 3) (K66.out.1.1.2); clear hb)
      | (go_at_call 38; have _t := K46; clear _t; refine (up_any A8 s.A1 t.A1 c8 s.c1 t.c1 l2 s.bo t.bo _ K46.out.1.2.2.1 K46.out.1.2.2.2.2.2.1.r1 K46.out.1.2.2.2.2.1.r1 (by have a := HK.out.m2; have b := HK.out.e2; omega) (by rw [HK.out.e2]) (by rw [HK.out.t2, HK.out.e2]) HK.out.a2 HK.out.b2).mono ?_; rw [U2.out]; rintro e w57 ⟨rfl, hb⟩; have K56 := Lib.hid (K46.out.on hb); have q58 := cell_row (i := 0) (K56.out.1.1.1.2); have q59 := cell_row (i := 1) (K56.out.1.1.1.2); have q60 := cell_row (i := 2) (K56.out.1.1.1.2); have q61 := cell_row (i := 3) (K56.out.1.1.1.2); have q62 := cell_row (i := 0) (K56.out.1.1.2); have q63 := cell_row (i := 1) (K56.out.1.1.2); have q64 := cell_row (i := 2) (K56.out.1.1.2); have q65 := cell_row (i := 3) (K56.out.1.1.2); clear hb)
      | (go_at_call 38; have _t := K32; clear _t; refine (up_any A7 s.A0 t.A0 c7 s.c0 t.c0 l1 s.ri t.ri _ K32.out.1.2.2.2.1 K32.out.1.2.2.2.2.2.1.r0 K32.out.1.2.2.2.2.1.r0 (by have a := HK.out.m1; have b := HK.out.e1; omega) (by rw [HK.out.e1]) (by rw [HK.out.t1, HK.out.e1]) HK.out.a1 HK.out.b1).mono ?_; rw [U1.out]; rintro e w47 ⟨rfl, hb⟩; have K46 := Lib.hid (K32.out.on hb); have q48 := cell_row (i := 0) (K46.out.1.1.1.2); have q49 := cell_row (i := 1) (K46.out.1.1.1.2); have q50 := cell_row (i := 2) (K46.out.1.1.1.2); have q51 := cell_row (i := 3) (K46.out.1.1.1.2); have q52 := cell_row (i := 0) (K46.out.1.1.2); have q53 := cell_row (i := 1) (K46.out.1.1.2); have q54 := cell_row (i := 2) (K46.out.1.1.2); have q55 := cell_row (i := 3) (K46.out.1.1.2); clear hb))
    clear q38 q39 q40 q41 q42 q43 q44 q45 q48 q49 q50 q51 q52 q53 q54 q55 q58 q59 q60 q61 q62 q63 q64 q65 q68 q69 q70 q71 q72 q73 q74 q75
    clear K32 K46 K56
    have q76 := cell_row (i := 0) (K66.out.1.1.1.1.2)
    have q77 := cell_row (i := 0) (K66.out.1.1.1.2)
    have q78 := cell_row (i := 1) (K66.out.1.1.1.2)
    have q79 := cell_row (i := 2) (K66.out.1.1.1.2)
    have q80 := cell_row (i := 3) (K66.out.1.1.1.2)
    go_upto_region 10 with (go_at_call 21; have _t := K66; clear _t; refine (Flow_any A1 c1 ws s _ K66.out.1.2.2.2.2.2.2.1 K66.out.1.2.2.2.2.2.1).mono ?_; rw [F3.out, F6.out.1]; rintro e w82 ⟨A4, c4, rfl, hr, -, hb⟩; have K81 := Lib.hid ((K66.out.on hb).push (stays_rd hr)); clear hr; clear hb)
    clear q76 q77 q78 q79 q80
    clear K66
    have q83 := cell_row (i := 0) (K81.out.1.1.1.1.2)
    have q84 := cell_row (i := 0) (K81.out.1.1.2)
    have q85 := cell_row (i := 1) (K81.out.1.1.2)
    have q86 := cell_row (i := 2) (K81.out.1.1.2)
    have q87 := cell_row (i := 3) (K81.out.1.1.2)
    go_upto_region 11 with (go_at_call 21; have _t := K81; clear _t; refine (Flow_any A1 c1 ws t _ K81.out.1.2.2.2.2.2.2.2.1 K81.out.1.2.2.2.2.2.1).mono ?_; rw [F4.out, F6.out.2]; rintro e w89 ⟨A5, c5, rfl, hr, -, hb⟩; have K88 := Lib.hid ((K81.out.on hb).push (stays_rd hr)); clear hr; clear hb)
    clear q83 q84 q85 q86 q87
    clear K81
    have q90 := cell_row (i := 0) (K88.out.1.1.1.1.2)
    go_upto_region 12 with (go_at_call 39; have _t := K88; clear _t; refine (place_any A1 c1 ws id _ K88.out.1.2.2.2.2.2.2.2.2.1).mono ?_; rw [F5.out.2.2.2.2]; rintro e w92 ⟨rfl, hb⟩; have K91 := Lib.hid (K88.out.on hb); clear hb)
    clear q90
    clear K88
    have hx0 : ¬ (x : Int) < 0 := by omega
    have hx1 : ¬ (F.length : Int) ≤ (x : Int) := by have a := HK.out.lF; have b := HK.out.hx; omega
    have hx2 : ¬ (G.length : Int) ≤ (x : Int) := by have a := HK.out.lG; have b := HK.out.hx; omega
    have hx3 : (x : Int) < (F.length : Int) := by omega
    have hx4 : (x : Int) < (G.length : Int) := by omega
    have hrF := K91.out.1.2.2.1
    have hrG := K91.out.1.2.1
    obtain ⟨b1, o1, rfl, lb1, hcF⟩ := hrF (by omega)
    obtain ⟨b0, o0, rfl, lb0, hcG⟩ := hrG (by omega)
    have k0 := hcG x (by omega)
    have k1 := hcF x (by omega)
    clear hcF hcG hrF hrG
    go_upto_region 14 with fail
    have kS : monS b0 (o0 + x) b1 (o1 + x) (.int .i64 (nth G x)) (.int .i64 (nth F x)) 0 w92.drew := k0
    have kT : monS b0 (o0 + x) b1 (o1 + x) (.int .i64 (nth G x)) (.int .i64 (nth F x)) 1 w92.drew := k1
    have KX := Lib.hid (K91.out.on ((Below.refl _ w92).drew))
    clear K91 k0 k1
    refine wp_region_K (by kernel_rfl) (monS b0 (o0 + x) b1 (o1 + x) (.int .i64 (nth G x)) (.int .i64 (nth F x))) (fun _ _ => true) ?_
    generalize w92.drew = X0 at *
    refine wpAnyK_ready (rs := [0]) (by kernel_rfl) (by simp) (AllK.consL rfl (by rfl) (fun K hK => ?_) AllK.nil)
    go_simp
    refine (sanity_any X0).mono ?_
    rintro e X1 ⟨rfl, hb⟩
    dsimp only
    refine hK.out _ _ (fun k _ h => monS_on hb h) ?_
    have KY := Lib.hid (KX.out.on hb)
    replace kS := monS_on hb kS
    replace kT := monS_on hb kT
    clear hK hb KX
    refine wpAnyK_takeL 2 (i := 1) (v := ?_) rfl (by kernel_rfl) (by kernel_rfl) (by kernel_rfl) (by kernel_rfl) (fun _ _ _ h => h) (by first | assumption | trivial) (Or.inl ⟨by rfl, ?_⟩) ?_
    rotate_left
    · intro w hSw; (try dsimp only at hSw); (try change _ = _ at hSw); (try (obtain ⟨_, _⟩ : _ ∧ _ := hSw)); go_simp; (try with_reducible rfl)
    (try go_frame)
    refine wpAnyK_takeL 2 (i := 2) (v := ?_) rfl (by kernel_rfl) (by kernel_rfl) (by kernel_rfl) (by kernel_rfl) (fun _ _ _ h => h) (by first | assumption | trivial) (Or.inl ⟨by rfl, ?_⟩) ?_
    rotate_left
    · intro w hSw; (try dsimp only at hSw); (try change _ = _ at hSw); (try (obtain ⟨_, _⟩ : _ ∧ _ := hSw)); go_simp; (try with_reducible rfl)
    (try go_frame)
    refine wpAnyK_takeL 2 (i := 3) (v := ?_) rfl (by kernel_rfl) (by kernel_rfl) (by kernel_rfl) (by kernel_rfl) (fun _ _ _ h => h) (by first | assumption | trivial) (Or.inl ⟨by rfl, ?_⟩) ?_
    rotate_left
    · intro w hSw; (try dsimp only at hSw); (try change _ = _ at hSw); (try (obtain ⟨_, _⟩ : _ ∧ _ := hSw)); go_simp; (try with_reducible rfl)
    (try go_frame)
    refine wpAnyK_takeL 2 (i := 4) (v := ?_) rfl (by kernel_rfl) (by kernel_rfl) (by kernel_rfl) (by kernel_rfl) (fun _ _ _ h => h) (by first | assumption | trivial) (Or.inl ⟨by rfl, ?_⟩) ?_
    rotate_left
    · intro w hSw; (try dsimp only at hSw); (try change _ = _ at hSw); (try (obtain ⟨_, _⟩ : _ ∧ _ := hSw)); go_simp; (try with_reducible rfl)
    (try go_frame)
    refine wpAnyK_takeL 2 (i := 5) (v := undef) rfl (by kernel_rfl) (by kernel_rfl) (by kernel_rfl) (by kernel_rfl) (fun _ _ _ h => h) (by first | assumption | trivial) (Or.inr ⟨by kernel_rfl, rfl⟩) ?_
    (try go_frame)
    refine wpAnyK_takeL 2 (i := 6) (v := undef) rfl (by kernel_rfl) (by kernel_rfl) (by kernel_rfl) (by kernel_rfl) (fun _ _ _ h => h) (by first | assumption | trivial) (Or.inr ⟨by kernel_rfl, rfl⟩) ?_
    (try go_frame)
    refine wpAnyK_takeL 2 (i := 7) (v := undef) rfl (by kernel_rfl) (by kernel_rfl) (by kernel_rfl) (by kernel_rfl) (fun _ _ _ h => h) (by first | assumption | trivial) (Or.inr ⟨by kernel_rfl, rfl⟩) ?_
    (try go_frame)
    refine wpAnyK_takeL 2 (i := 8) (v := undef) rfl (by kernel_rfl) (by kernel_rfl) (by kernel_rfl) (by kernel_rfl) (fun _ _ _ h => h) (by first | assumption | trivial) (Or.inr ⟨by kernel_rfl, rfl⟩) ?_
    (try go_frame)
    refine wpAnyK_takeL 2 (i := 9) (v := undef) rfl (by kernel_rfl) (by kernel_rfl) (by kernel_rfl) (by kernel_rfl) (fun _ _ _ h => h) (by first | assumption | trivial) (Or.inr ⟨by kernel_rfl, rfl⟩) ?_
    (try go_frame)
    refine wpAnyK_takeL 2 (i := 10) (v := undef) rfl (by kernel_rfl) (by kernel_rfl) (by kernel_rfl) (by kernel_rfl) (fun _ _ _ h => h) (by first | assumption | trivial) (Or.inr ⟨by kernel_rfl, rfl⟩) ?_
    (try go_frame)
    refine wpAnyK_takeL 2 (i := 11) (v := undef) rfl (by kernel_rfl) (by kernel_rfl) (by kernel_rfl) (by kernel_rfl) (fun _ _ _ h => h) (by first | assumption | trivial) (Or.inr ⟨by kernel_rfl, rfl⟩) ?_
    (try go_frame)
    refine wpAnyK_takeL 2 (i := 12) (v := undef) rfl (by kernel_rfl) (by kernel_rfl) (by kernel_rfl) (by kernel_rfl) (fun _ _ _ h => h) (by first | assumption | trivial) (Or.inr ⟨by kernel_rfl, rfl⟩) ?_
    (try go_frame)
    refine wpAnyK_takeL 2 (i := 13) (v := undef) rfl (by kernel_rfl) (by kernel_rfl) (by kernel_rfl) (by kernel_rfl) (fun _ _ _ h => h) (by first | assumption | trivial) (Or.inr ⟨by kernel_rfl, rfl⟩) ?_
    (try go_frame)
    refine wpAnyK_takeL 2 (i := 14) (v := ?_) rfl (by kernel_rfl) (by kernel_rfl) (by kernel_rfl) (by kernel_rfl) (fun _ _ _ h => h) (by first | assumption | trivial) (Or.inl ⟨by rfl, ?_⟩) ?_
    rotate_left
    · intro w hSw; (try dsimp only at hSw); (try change _ = _ at hSw); (try (obtain ⟨_, _⟩ : _ ∧ _ := hSw)); go_simp; (try with_reducible rfl)
    (try go_frame)
    refine wpAnyK_takeL 2 (i := 15) (v := ?_) rfl (by kernel_rfl) (by kernel_rfl) (by kernel_rfl) (by kernel_rfl) (fun _ _ _ h => h) (by first | assumption | trivial) (Or.inl ⟨by rfl, ?_⟩) ?_
    rotate_left
    · intro w hSw; (try dsimp only at hSw); (try change _ = _ at hSw); (try (obtain ⟨_, _⟩ : _ ∧ _ := hSw)); go_simp; (try with_reducible rfl)
    (try go_frame)
    refine wpAnyK_takeL 2 (i := 16) (v := ?_) rfl (by kernel_rfl) (by kernel_rfl) (by kernel_rfl) (by kernel_rfl) (fun _ _ _ h => h) (by first | assumption | trivial) (Or.inl ⟨by rfl, ?_⟩) ?_
    rotate_left
    · intro w hSw; (try dsimp only at hSw); (try change _ = _ at hSw); (try (obtain ⟨_, _⟩ : _ ∧ _ := hSw)); go_simp; (try with_reducible rfl)
    (try go_frame)
    refine wpAnyK_done (by kernel_rfl) ?_ _
    clear kS kT
    go_wp2
    go_ret
    exact ⟨rfl, KY.out.1.1.1.1.1⟩
  | true =>
  have U3 := Lib.hid hu
  clear hu
  cases hu : upB l3 s.lo t.lo with
  | false =>
    have U4 := Lib.hid hu
    clear hu
    go_enter Try.func7, Try.ntmps7
    go_upto_region 1 with fail
    generalize ((w.alloc (.cells #[.slice A1 ws.length c1] 24)).alloc (.cells #[.slice s.A0 s.ri.length s.c0, .slice s.A1 s.bo.length s.c1, .slice s.A2 s.lk.length s.c2, .slice s.A3 s.lo.length s.c3] 27)).alloc (.cells #[.slice t.A0 t.ri.length t.c0, .slice t.A1 t.bo.length t.c1, .slice t.A2 t.lk.length t.c2, .slice t.A3 t.lo.length t.c3] 27) = W0 at *
    have q1 := cell_row (i := 0) (K.out.1.1.1.1.2)
    go_upto_region 3 with (first
      | (go_at_call 27; have _t := K21; clear _t; refine (CheckWater_any A1 c1 ws t _ K21.out.1.2.2.2.1 K21.out.1.2.1).mono ?_; rw [F4.out]; rintro e w29 ⟨rfl, hb⟩; have K28 := Lib.hid (K21.out.on hb); have q30 := cell_row (i := 0) (K28.out.1.1.1.1.2); clear hb)
      | (go_at_call 27; have _t := K14; clear _t; refine (CheckWater_any A1 c1 ws s _ K14.out.1.2.2.2.1 K14.out.1.2.2.1).mono ?_; rw [F3.out]; rintro e w22 ⟨rfl, hb⟩; have K21 := Lib.hid (K14.out.on hb); have q23 := cell_row (i := 0) (K21.out.1.1.1.1.2); have q24 := cell_row (i := 0) (K21.out.1.1.2); have q25 := cell_row (i := 1) (K21.out.1.1.2); have q26 := cell_row (i := 2) (K21.out.1.1.2); have q27 := cell_row (i := 3) (K21.out.1.1.2); clear hb)
      | (go_at_call 19; have _t := K8; clear _t; refine (wet_any t _ K8.out.1.2.2.2.2.1).mono ?_; rw [F2.out]; rintro e w15 ⟨rfl, hb⟩; have K14 := Lib.hid (K8.out.on hb); have q16 := cell_row (i := 0) (K14.out.1.1.1.1.2); have q17 := cell_row (i := 0) (K14.out.1.1.1.2); have q18 := cell_row (i := 1) (K14.out.1.1.1.2); have q19 := cell_row (i := 2) (K14.out.1.1.1.2); have q20 := cell_row (i := 3) (K14.out.1.1.1.2); clear hb)
      | (go_at_call 19; have _t := K2; clear _t; refine (wet_any s _ K2.out.1.2.2.2.2.2.1).mono ?_; rw [F1.out]; rintro e w9 ⟨rfl, hb⟩; have K8 := Lib.hid (K2.out.on hb); have q10 := cell_row (i := 0) (K8.out.1.1.2); have q11 := cell_row (i := 1) (K8.out.1.1.2); have q12 := cell_row (i := 2) (K8.out.1.1.2); have q13 := cell_row (i := 3) (K8.out.1.1.2); clear hb)
      | (go_at_call 18; have _t := K; clear _t; refine (few_any A1 c1 ws _ K.out.1.2.2.2.2.2.2.1).mono ?_; rw [F0.out]; rintro e w3 ⟨rfl, hb⟩; have K2 := Lib.hid (K.out.on hb); have q4 := cell_row (i := 0) (K2.out.1.1.1.2); have q5 := cell_row (i := 1) (K2.out.1.1.1.2); have q6 := cell_row (i := 2) (K2.out.1.1.1.2); have q7 := cell_row (i := 3) (K2.out.1.1.1.2); clear hb))
    clear q1 q4 q5 q6 q7 q10 q11 q12 q13 q16 q17 q18 q19 q20 q23 q24 q25 q26 q27 q30
    clear K K2 K8 K14 K21
    have q31 := cell_row (i := 0) (K28.out.1.1.1.1.2)
    go_upto_region 6 with (go_at_call 37; have _t := K28; clear _t; refine (Signs_any A1 c1 ws id _ K28.out.1.2.2.2.1).mono ?_; rw [F5.out.1, F5.out.2.1, F5.out.2.2.1, F5.out.2.2.2.1]; rintro e w33 ⟨⟨A7, c7, A8, c8, A9, c9, rfl, h7, h8, h9⟩, hb⟩; have K32 := Lib.hid ((((K28.out.on hb).push (stays_rd h7)).push (stays_rd h8)).push (stays_rd h9)); clear h7 h8 h9; clear hb)
    clear q31
    clear K28
    have q34 := cell_row (i := 0) (K32.out.1.1.1.2)
    have q35 := cell_row (i := 1) (K32.out.1.1.1.2)
    have q36 := cell_row (i := 2) (K32.out.1.1.1.2)
    have q37 := cell_row (i := 3) (K32.out.1.1.1.2)
    have z1 : ((l1.length : Int) != (s.ri.length : Int)) = false := by rw [HK.out.e1]; simp
    have z2 : ((l2.length : Int) != (s.bo.length : Int)) = false := by rw [HK.out.e2]; simp
    have z3 : ((l3.length : Int) != (s.lo.length : Int)) = false := by rw [HK.out.e3]; simp
    go_upto_region 8 with fail
    clear q34 q35 q36 q37
    clear z1 z2 z3
    have q38 := cell_row (i := 0) (K32.out.1.1.1.2)
    have q39 := cell_row (i := 1) (K32.out.1.1.1.2)
    have q40 := cell_row (i := 2) (K32.out.1.1.1.2)
    have q41 := cell_row (i := 3) (K32.out.1.1.1.2)
    have q42 := cell_row (i := 0) (K32.out.1.1.2)
    have q43 := cell_row (i := 1) (K32.out.1.1.2)
    have q44 := cell_row (i := 2) (K32.out.1.1.2)
    have q45 := cell_row (i := 3) (K32.out.1.1.2)
    go_upto_region 9 with (first
      | (go_at_call 38; have _t := K66; clear _t; refine (up_any A9 s.A3 t.A3 c9 s.c3 t.c3 l3 s.lo t.lo _ K66.out.1.2.1 K66.out.1.2.2.2.2.2.1.r3 K66.out.1.2.2.2.2.1.r3 (by have a := HK.out.m3; have b := HK.out.e3; omega) (by rw [HK.out.e3]) (by rw [HK.out.t4, HK.out.e3]) HK.out.a4 HK.out.b4).mono ?_; rw [U4.out]; rintro e w77 ⟨rfl, hb⟩; have K76 := Lib.hid (K66.out.on hb); have q78 := cell_row (i := 0) (K76.out.1.1.1.2); have q79 := cell_row (i := 1) (K76.out.1.1.1.2); have q80 := cell_row (i := 2) (K76.out.1.1.1.2); have q81 := cell_row (i := 3) (K76.out.1.1.1.2); have q82 := cell_row (i := 0) (K76.out.1.1.2); have q83 := cell_row (i := 1) (K76.out.1.1.2); have q84 := cell_row (i := 2) (K76.out.1.1.2); have q85 := cell_row (i := 3) (K76.out.1.1.2); clear hb)
      | (go_at_call 38; have _t := K56; clear _t; refine (up_any A8 s.A2 t.A2 c8 s.c2 t.c2 l2 s.lk t.lk _ K56.out.1.2.2.1 K56.out.1.2.2.2.2.2.1.r2 K56.out.1.2.2.2.2.1.r2 (by have a := HK.out.m2; have b := HK.out.e2; omega) (by rw [HK.out.e4, HK.out.e2]) (by rw [HK.out.t3, HK.out.e4, HK.out.e2]) HK.out.a3 HK.out.b3).mono ?_; rw [U3.out]; rintro e w67 ⟨rfl, hb⟩; have K66 := Lib.hid (K56.out.on hb); have q68 := cell_row (i := 0) (K66.out.1.1.1.2); have q69 := cell_row (i := 1) (K66.out.1.1.1.2); have q70 := cell_row (i := 2) (K66.out.1.1.1.2); have q71 := cell_row (i := 3) (K66.out.1.1.1.2); have q72 := cell_row (i := 0) (K66.out.1.1.2); have q73 := cell_row (i := 1) (K66.out.1.1.2); have q74 := cell_row (i := 2) (K66.out.1.1.2); have q75 := cell_row (i := 3) (K66.out.1.1.2); clear hb)
      | (go_at_call 38; have _t := K46; clear _t; refine (up_any A8 s.A1 t.A1 c8 s.c1 t.c1 l2 s.bo t.bo _ K46.out.1.2.2.1 K46.out.1.2.2.2.2.2.1.r1 K46.out.1.2.2.2.2.1.r1 (by have a := HK.out.m2; have b := HK.out.e2; omega) (by rw [HK.out.e2]) (by rw [HK.out.t2, HK.out.e2]) HK.out.a2 HK.out.b2).mono ?_; rw [U2.out]; rintro e w57 ⟨rfl, hb⟩; have K56 := Lib.hid (K46.out.on hb); have q58 := cell_row (i := 0) (K56.out.1.1.1.2); have q59 := cell_row (i := 1) (K56.out.1.1.1.2); have q60 := cell_row (i := 2) (K56.out.1.1.1.2); have q61 := cell_row (i := 3) (K56.out.1.1.1.2); have q62 := cell_row (i := 0) (K56.out.1.1.2); have q63 := cell_row (i := 1) (K56.out.1.1.2); have q64 := cell_row (i := 2) (K56.out.1.1.2); have q65 := cell_row (i := 3) (K56.out.1.1.2); clear hb)
      | (go_at_call 38; have _t := K32; clear _t; refine (up_any A7 s.A0 t.A0 c7 s.c0 t.c0 l1 s.ri t.ri _ K32.out.1.2.2.2.1 K32.out.1.2.2.2.2.2.1.r0 K32.out.1.2.2.2.2.1.r0 (by have a := HK.out.m1; have b := HK.out.e1; omega) (by rw [HK.out.e1]) (by rw [HK.out.t1, HK.out.e1]) HK.out.a1 HK.out.b1).mono ?_; rw [U1.out]; rintro e w47 ⟨rfl, hb⟩; have K46 := Lib.hid (K32.out.on hb); have q48 := cell_row (i := 0) (K46.out.1.1.1.2); have q49 := cell_row (i := 1) (K46.out.1.1.1.2); have q50 := cell_row (i := 2) (K46.out.1.1.1.2); have q51 := cell_row (i := 3) (K46.out.1.1.1.2); have q52 := cell_row (i := 0) (K46.out.1.1.2); have q53 := cell_row (i := 1) (K46.out.1.1.2); have q54 := cell_row (i := 2) (K46.out.1.1.2); have q55 := cell_row (i := 3) (K46.out.1.1.2); clear hb))
    clear q38 q39 q40 q41 q42 q43 q44 q45 q48 q49 q50 q51 q52 q53 q54 q55 q58 q59 q60 q61 q62 q63 q64 q65 q68 q69 q70 q71 q72 q73 q74 q75 q78 q79 q80 q81 q82 q83 q84 q85
    clear K32 K46 K56 K66
    have q86 := cell_row (i := 0) (K76.out.1.1.1.1.2)
    have q87 := cell_row (i := 0) (K76.out.1.1.1.2)
    have q88 := cell_row (i := 1) (K76.out.1.1.1.2)
    have q89 := cell_row (i := 2) (K76.out.1.1.1.2)
    have q90 := cell_row (i := 3) (K76.out.1.1.1.2)
    go_upto_region 10 with (go_at_call 21; have _t := K76; clear _t; refine (Flow_any A1 c1 ws s _ K76.out.1.2.2.2.2.2.2.1 K76.out.1.2.2.2.2.2.1).mono ?_; rw [F3.out, F6.out.1]; rintro e w92 ⟨A4, c4, rfl, hr, -, hb⟩; have K91 := Lib.hid ((K76.out.on hb).push (stays_rd hr)); clear hr; clear hb)
    clear q86 q87 q88 q89 q90
    clear K76
    have q93 := cell_row (i := 0) (K91.out.1.1.1.1.2)
    have q94 := cell_row (i := 0) (K91.out.1.1.2)
    have q95 := cell_row (i := 1) (K91.out.1.1.2)
    have q96 := cell_row (i := 2) (K91.out.1.1.2)
    have q97 := cell_row (i := 3) (K91.out.1.1.2)
    go_upto_region 11 with (go_at_call 21; have _t := K91; clear _t; refine (Flow_any A1 c1 ws t _ K91.out.1.2.2.2.2.2.2.2.1 K91.out.1.2.2.2.2.2.1).mono ?_; rw [F4.out, F6.out.2]; rintro e w99 ⟨A5, c5, rfl, hr, -, hb⟩; have K98 := Lib.hid ((K91.out.on hb).push (stays_rd hr)); clear hr; clear hb)
    clear q93 q94 q95 q96 q97
    clear K91
    have q100 := cell_row (i := 0) (K98.out.1.1.1.1.2)
    go_upto_region 12 with (go_at_call 39; have _t := K98; clear _t; refine (place_any A1 c1 ws id _ K98.out.1.2.2.2.2.2.2.2.2.1).mono ?_; rw [F5.out.2.2.2.2]; rintro e w102 ⟨rfl, hb⟩; have K101 := Lib.hid (K98.out.on hb); clear hb)
    clear q100
    clear K98
    have hx0 : ¬ (x : Int) < 0 := by omega
    have hx1 : ¬ (F.length : Int) ≤ (x : Int) := by have a := HK.out.lF; have b := HK.out.hx; omega
    have hx2 : ¬ (G.length : Int) ≤ (x : Int) := by have a := HK.out.lG; have b := HK.out.hx; omega
    have hx3 : (x : Int) < (F.length : Int) := by omega
    have hx4 : (x : Int) < (G.length : Int) := by omega
    have hrF := K101.out.1.2.2.1
    have hrG := K101.out.1.2.1
    obtain ⟨b1, o1, rfl, lb1, hcF⟩ := hrF (by omega)
    obtain ⟨b0, o0, rfl, lb0, hcG⟩ := hrG (by omega)
    have k0 := hcG x (by omega)
    have k1 := hcF x (by omega)
    clear hcF hcG hrF hrG
    go_upto_region 14 with fail
    have kS : monS b0 (o0 + x) b1 (o1 + x) (.int .i64 (nth G x)) (.int .i64 (nth F x)) 0 w102.drew := k0
    have kT : monS b0 (o0 + x) b1 (o1 + x) (.int .i64 (nth G x)) (.int .i64 (nth F x)) 1 w102.drew := k1
    have KX := Lib.hid (K101.out.on ((Below.refl _ w102).drew))
    clear K101 k0 k1
    refine wp_region_K (by kernel_rfl) (monS b0 (o0 + x) b1 (o1 + x) (.int .i64 (nth G x)) (.int .i64 (nth F x))) (fun _ _ => true) ?_
    generalize w102.drew = X0 at *
    refine wpAnyK_ready (rs := [0]) (by kernel_rfl) (by simp) (AllK.consL rfl (by rfl) (fun K hK => ?_) AllK.nil)
    go_simp
    refine (sanity_any X0).mono ?_
    rintro e X1 ⟨rfl, hb⟩
    dsimp only
    refine hK.out _ _ (fun k _ h => monS_on hb h) ?_
    have KY := Lib.hid (KX.out.on hb)
    replace kS := monS_on hb kS
    replace kT := monS_on hb kT
    clear hK hb KX
    refine wpAnyK_takeL 2 (i := 1) (v := ?_) rfl (by kernel_rfl) (by kernel_rfl) (by kernel_rfl) (by kernel_rfl) (fun _ _ _ h => h) (by first | assumption | trivial) (Or.inl ⟨by rfl, ?_⟩) ?_
    rotate_left
    · intro w hSw; (try dsimp only at hSw); (try change _ = _ at hSw); (try (obtain ⟨_, _⟩ : _ ∧ _ := hSw)); go_simp; (try with_reducible rfl)
    (try go_frame)
    refine wpAnyK_takeL 2 (i := 2) (v := ?_) rfl (by kernel_rfl) (by kernel_rfl) (by kernel_rfl) (by kernel_rfl) (fun _ _ _ h => h) (by first | assumption | trivial) (Or.inl ⟨by rfl, ?_⟩) ?_
    rotate_left
    · intro w hSw; (try dsimp only at hSw); (try change _ = _ at hSw); (try (obtain ⟨_, _⟩ : _ ∧ _ := hSw)); go_simp; (try with_reducible rfl)
    (try go_frame)
    refine wpAnyK_takeL 2 (i := 3) (v := ?_) rfl (by kernel_rfl) (by kernel_rfl) (by kernel_rfl) (by kernel_rfl) (fun _ _ _ h => h) (by first | assumption | trivial) (Or.inl ⟨by rfl, ?_⟩) ?_
    rotate_left
    · intro w hSw; (try dsimp only at hSw); (try change _ = _ at hSw); (try (obtain ⟨_, _⟩ : _ ∧ _ := hSw)); go_simp; (try with_reducible rfl)
    (try go_frame)
    refine wpAnyK_takeL 2 (i := 4) (v := ?_) rfl (by kernel_rfl) (by kernel_rfl) (by kernel_rfl) (by kernel_rfl) (fun _ _ _ h => h) (by first | assumption | trivial) (Or.inl ⟨by rfl, ?_⟩) ?_
    rotate_left
    · intro w hSw; (try dsimp only at hSw); (try change _ = _ at hSw); (try (obtain ⟨_, _⟩ : _ ∧ _ := hSw)); go_simp; (try with_reducible rfl)
    (try go_frame)
    refine wpAnyK_takeL 2 (i := 5) (v := undef) rfl (by kernel_rfl) (by kernel_rfl) (by kernel_rfl) (by kernel_rfl) (fun _ _ _ h => h) (by first | assumption | trivial) (Or.inr ⟨by kernel_rfl, rfl⟩) ?_
    (try go_frame)
    refine wpAnyK_takeL 2 (i := 6) (v := undef) rfl (by kernel_rfl) (by kernel_rfl) (by kernel_rfl) (by kernel_rfl) (fun _ _ _ h => h) (by first | assumption | trivial) (Or.inr ⟨by kernel_rfl, rfl⟩) ?_
    (try go_frame)
    refine wpAnyK_takeL 2 (i := 7) (v := undef) rfl (by kernel_rfl) (by kernel_rfl) (by kernel_rfl) (by kernel_rfl) (fun _ _ _ h => h) (by first | assumption | trivial) (Or.inr ⟨by kernel_rfl, rfl⟩) ?_
    (try go_frame)
    refine wpAnyK_takeL 2 (i := 8) (v := undef) rfl (by kernel_rfl) (by kernel_rfl) (by kernel_rfl) (by kernel_rfl) (fun _ _ _ h => h) (by first | assumption | trivial) (Or.inr ⟨by kernel_rfl, rfl⟩) ?_
    (try go_frame)
    refine wpAnyK_takeL 2 (i := 9) (v := undef) rfl (by kernel_rfl) (by kernel_rfl) (by kernel_rfl) (by kernel_rfl) (fun _ _ _ h => h) (by first | assumption | trivial) (Or.inr ⟨by kernel_rfl, rfl⟩) ?_
    (try go_frame)
    refine wpAnyK_takeL 2 (i := 10) (v := undef) rfl (by kernel_rfl) (by kernel_rfl) (by kernel_rfl) (by kernel_rfl) (fun _ _ _ h => h) (by first | assumption | trivial) (Or.inr ⟨by kernel_rfl, rfl⟩) ?_
    (try go_frame)
    refine wpAnyK_takeL 2 (i := 11) (v := undef) rfl (by kernel_rfl) (by kernel_rfl) (by kernel_rfl) (by kernel_rfl) (fun _ _ _ h => h) (by first | assumption | trivial) (Or.inr ⟨by kernel_rfl, rfl⟩) ?_
    (try go_frame)
    refine wpAnyK_takeL 2 (i := 12) (v := undef) rfl (by kernel_rfl) (by kernel_rfl) (by kernel_rfl) (by kernel_rfl) (fun _ _ _ h => h) (by first | assumption | trivial) (Or.inr ⟨by kernel_rfl, rfl⟩) ?_
    (try go_frame)
    refine wpAnyK_takeL 2 (i := 13) (v := undef) rfl (by kernel_rfl) (by kernel_rfl) (by kernel_rfl) (by kernel_rfl) (fun _ _ _ h => h) (by first | assumption | trivial) (Or.inr ⟨by kernel_rfl, rfl⟩) ?_
    (try go_frame)
    refine wpAnyK_takeL 2 (i := 14) (v := ?_) rfl (by kernel_rfl) (by kernel_rfl) (by kernel_rfl) (by kernel_rfl) (fun _ _ _ h => h) (by first | assumption | trivial) (Or.inl ⟨by rfl, ?_⟩) ?_
    rotate_left
    · intro w hSw; (try dsimp only at hSw); (try change _ = _ at hSw); (try (obtain ⟨_, _⟩ : _ ∧ _ := hSw)); go_simp; (try with_reducible rfl)
    (try go_frame)
    refine wpAnyK_takeL 2 (i := 15) (v := ?_) rfl (by kernel_rfl) (by kernel_rfl) (by kernel_rfl) (by kernel_rfl) (fun _ _ _ h => h) (by first | assumption | trivial) (Or.inl ⟨by rfl, ?_⟩) ?_
    rotate_left
    · intro w hSw; (try dsimp only at hSw); (try change _ = _ at hSw); (try (obtain ⟨_, _⟩ : _ ∧ _ := hSw)); go_simp; (try with_reducible rfl)
    (try go_frame)
    refine wpAnyK_takeL 2 (i := 16) (v := ?_) rfl (by kernel_rfl) (by kernel_rfl) (by kernel_rfl) (by kernel_rfl) (fun _ _ _ h => h) (by first | assumption | trivial) (Or.inl ⟨by rfl, ?_⟩) ?_
    rotate_left
    · intro w hSw; (try dsimp only at hSw); (try change _ = _ at hSw); (try (obtain ⟨_, _⟩ : _ ∧ _ := hSw)); go_simp; (try with_reducible rfl)
    (try go_frame)
    refine wpAnyK_done (by kernel_rfl) ?_ _
    clear kS kT
    go_wp2
    go_ret
    exact ⟨rfl, KY.out.1.1.1.1.1⟩
  | true =>
  have U4 := Lib.hid hu
  clear hu
  go_enter Try.func7, Try.ntmps7
  go_upto_region 1 with fail
  generalize ((w.alloc (.cells #[.slice A1 ws.length c1] 24)).alloc (.cells #[.slice s.A0 s.ri.length s.c0, .slice s.A1 s.bo.length s.c1, .slice s.A2 s.lk.length s.c2, .slice s.A3 s.lo.length s.c3] 27)).alloc (.cells #[.slice t.A0 t.ri.length t.c0, .slice t.A1 t.bo.length t.c1, .slice t.A2 t.lk.length t.c2, .slice t.A3 t.lo.length t.c3] 27) = W0 at *
  have q1 := cell_row (i := 0) (K.out.1.1.1.1.2)
  go_upto_region 3 with (first
    | (go_at_call 27; have _t := K21; clear _t; refine (CheckWater_any A1 c1 ws t _ K21.out.1.2.2.2.1 K21.out.1.2.1).mono ?_; rw [F4.out]; rintro e w29 ⟨rfl, hb⟩; have K28 := Lib.hid (K21.out.on hb); have q30 := cell_row (i := 0) (K28.out.1.1.1.1.2); clear hb)
    | (go_at_call 27; have _t := K14; clear _t; refine (CheckWater_any A1 c1 ws s _ K14.out.1.2.2.2.1 K14.out.1.2.2.1).mono ?_; rw [F3.out]; rintro e w22 ⟨rfl, hb⟩; have K21 := Lib.hid (K14.out.on hb); have q23 := cell_row (i := 0) (K21.out.1.1.1.1.2); have q24 := cell_row (i := 0) (K21.out.1.1.2); have q25 := cell_row (i := 1) (K21.out.1.1.2); have q26 := cell_row (i := 2) (K21.out.1.1.2); have q27 := cell_row (i := 3) (K21.out.1.1.2); clear hb)
    | (go_at_call 19; have _t := K8; clear _t; refine (wet_any t _ K8.out.1.2.2.2.2.1).mono ?_; rw [F2.out]; rintro e w15 ⟨rfl, hb⟩; have K14 := Lib.hid (K8.out.on hb); have q16 := cell_row (i := 0) (K14.out.1.1.1.1.2); have q17 := cell_row (i := 0) (K14.out.1.1.1.2); have q18 := cell_row (i := 1) (K14.out.1.1.1.2); have q19 := cell_row (i := 2) (K14.out.1.1.1.2); have q20 := cell_row (i := 3) (K14.out.1.1.1.2); clear hb)
    | (go_at_call 19; have _t := K2; clear _t; refine (wet_any s _ K2.out.1.2.2.2.2.2.1).mono ?_; rw [F1.out]; rintro e w9 ⟨rfl, hb⟩; have K8 := Lib.hid (K2.out.on hb); have q10 := cell_row (i := 0) (K8.out.1.1.2); have q11 := cell_row (i := 1) (K8.out.1.1.2); have q12 := cell_row (i := 2) (K8.out.1.1.2); have q13 := cell_row (i := 3) (K8.out.1.1.2); clear hb)
    | (go_at_call 18; have _t := K; clear _t; refine (few_any A1 c1 ws _ K.out.1.2.2.2.2.2.2.1).mono ?_; rw [F0.out]; rintro e w3 ⟨rfl, hb⟩; have K2 := Lib.hid (K.out.on hb); have q4 := cell_row (i := 0) (K2.out.1.1.1.2); have q5 := cell_row (i := 1) (K2.out.1.1.1.2); have q6 := cell_row (i := 2) (K2.out.1.1.1.2); have q7 := cell_row (i := 3) (K2.out.1.1.1.2); clear hb))
  clear q1 q4 q5 q6 q7 q10 q11 q12 q13 q16 q17 q18 q19 q20 q23 q24 q25 q26 q27 q30
  clear K K2 K8 K14 K21
  have q31 := cell_row (i := 0) (K28.out.1.1.1.1.2)
  go_upto_region 6 with (go_at_call 37; have _t := K28; clear _t; refine (Signs_any A1 c1 ws id _ K28.out.1.2.2.2.1).mono ?_; rw [F5.out.1, F5.out.2.1, F5.out.2.2.1, F5.out.2.2.2.1]; rintro e w33 ⟨⟨A7, c7, A8, c8, A9, c9, rfl, h7, h8, h9⟩, hb⟩; have K32 := Lib.hid ((((K28.out.on hb).push (stays_rd h7)).push (stays_rd h8)).push (stays_rd h9)); clear h7 h8 h9; clear hb)
  clear q31
  clear K28
  have q34 := cell_row (i := 0) (K32.out.1.1.1.2)
  have q35 := cell_row (i := 1) (K32.out.1.1.1.2)
  have q36 := cell_row (i := 2) (K32.out.1.1.1.2)
  have q37 := cell_row (i := 3) (K32.out.1.1.1.2)
  have z1 : ((l1.length : Int) != (s.ri.length : Int)) = false := by rw [HK.out.e1]; simp
  have z2 : ((l2.length : Int) != (s.bo.length : Int)) = false := by rw [HK.out.e2]; simp
  have z3 : ((l3.length : Int) != (s.lo.length : Int)) = false := by rw [HK.out.e3]; simp
  go_upto_region 8 with fail
  clear q34 q35 q36 q37
  clear z1 z2 z3
  have q38 := cell_row (i := 0) (K32.out.1.1.1.2)
  have q39 := cell_row (i := 1) (K32.out.1.1.1.2)
  have q40 := cell_row (i := 2) (K32.out.1.1.1.2)
  have q41 := cell_row (i := 3) (K32.out.1.1.1.2)
  have q42 := cell_row (i := 0) (K32.out.1.1.2)
  have q43 := cell_row (i := 1) (K32.out.1.1.2)
  have q44 := cell_row (i := 2) (K32.out.1.1.2)
  have q45 := cell_row (i := 3) (K32.out.1.1.2)
  go_upto_region 9 with (first
    | (go_at_call 38; have _t := K66; clear _t; refine (up_any A9 s.A3 t.A3 c9 s.c3 t.c3 l3 s.lo t.lo _ K66.out.1.2.1 K66.out.1.2.2.2.2.2.1.r3 K66.out.1.2.2.2.2.1.r3 (by have a := HK.out.m3; have b := HK.out.e3; omega) (by rw [HK.out.e3]) (by rw [HK.out.t4, HK.out.e3]) HK.out.a4 HK.out.b4).mono ?_; rw [U4.out]; rintro e w77 ⟨rfl, hb⟩; have K76 := Lib.hid (K66.out.on hb); have q78 := cell_row (i := 0) (K76.out.1.1.1.2); have q79 := cell_row (i := 1) (K76.out.1.1.1.2); have q80 := cell_row (i := 2) (K76.out.1.1.1.2); have q81 := cell_row (i := 3) (K76.out.1.1.1.2); have q82 := cell_row (i := 0) (K76.out.1.1.2); have q83 := cell_row (i := 1) (K76.out.1.1.2); have q84 := cell_row (i := 2) (K76.out.1.1.2); have q85 := cell_row (i := 3) (K76.out.1.1.2); clear hb)
    | (go_at_call 38; have _t := K56; clear _t; refine (up_any A8 s.A2 t.A2 c8 s.c2 t.c2 l2 s.lk t.lk _ K56.out.1.2.2.1 K56.out.1.2.2.2.2.2.1.r2 K56.out.1.2.2.2.2.1.r2 (by have a := HK.out.m2; have b := HK.out.e2; omega) (by rw [HK.out.e4, HK.out.e2]) (by rw [HK.out.t3, HK.out.e4, HK.out.e2]) HK.out.a3 HK.out.b3).mono ?_; rw [U3.out]; rintro e w67 ⟨rfl, hb⟩; have K66 := Lib.hid (K56.out.on hb); have q68 := cell_row (i := 0) (K66.out.1.1.1.2); have q69 := cell_row (i := 1) (K66.out.1.1.1.2); have q70 := cell_row (i := 2) (K66.out.1.1.1.2); have q71 := cell_row (i := 3) (K66.out.1.1.1.2); have q72 := cell_row (i := 0) (K66.out.1.1.2); have q73 := cell_row (i := 1) (K66.out.1.1.2); have q74 := cell_row (i := 2) (K66.out.1.1.2); have q75 := cell_row (i := 3) (K66.out.1.1.2); clear hb)
    | (go_at_call 38; have _t := K46; clear _t; refine (up_any A8 s.A1 t.A1 c8 s.c1 t.c1 l2 s.bo t.bo _ K46.out.1.2.2.1 K46.out.1.2.2.2.2.2.1.r1 K46.out.1.2.2.2.2.1.r1 (by have a := HK.out.m2; have b := HK.out.e2; omega) (by rw [HK.out.e2]) (by rw [HK.out.t2, HK.out.e2]) HK.out.a2 HK.out.b2).mono ?_; rw [U2.out]; rintro e w57 ⟨rfl, hb⟩; have K56 := Lib.hid (K46.out.on hb); have q58 := cell_row (i := 0) (K56.out.1.1.1.2); have q59 := cell_row (i := 1) (K56.out.1.1.1.2); have q60 := cell_row (i := 2) (K56.out.1.1.1.2); have q61 := cell_row (i := 3) (K56.out.1.1.1.2); have q62 := cell_row (i := 0) (K56.out.1.1.2); have q63 := cell_row (i := 1) (K56.out.1.1.2); have q64 := cell_row (i := 2) (K56.out.1.1.2); have q65 := cell_row (i := 3) (K56.out.1.1.2); clear hb)
    | (go_at_call 38; have _t := K32; clear _t; refine (up_any A7 s.A0 t.A0 c7 s.c0 t.c0 l1 s.ri t.ri _ K32.out.1.2.2.2.1 K32.out.1.2.2.2.2.2.1.r0 K32.out.1.2.2.2.2.1.r0 (by have a := HK.out.m1; have b := HK.out.e1; omega) (by rw [HK.out.e1]) (by rw [HK.out.t1, HK.out.e1]) HK.out.a1 HK.out.b1).mono ?_; rw [U1.out]; rintro e w47 ⟨rfl, hb⟩; have K46 := Lib.hid (K32.out.on hb); have q48 := cell_row (i := 0) (K46.out.1.1.1.2); have q49 := cell_row (i := 1) (K46.out.1.1.1.2); have q50 := cell_row (i := 2) (K46.out.1.1.1.2); have q51 := cell_row (i := 3) (K46.out.1.1.1.2); have q52 := cell_row (i := 0) (K46.out.1.1.2); have q53 := cell_row (i := 1) (K46.out.1.1.2); have q54 := cell_row (i := 2) (K46.out.1.1.2); have q55 := cell_row (i := 3) (K46.out.1.1.2); clear hb))
  clear q38 q39 q40 q41 q42 q43 q44 q45 q48 q49 q50 q51 q52 q53 q54 q55 q58 q59 q60 q61 q62 q63 q64 q65 q68 q69 q70 q71 q72 q73 q74 q75 q78 q79 q80 q81 q82 q83 q84 q85
  clear K32 K46 K56 K66
  have q86 := cell_row (i := 0) (K76.out.1.1.1.1.2)
  have q87 := cell_row (i := 0) (K76.out.1.1.1.2)
  have q88 := cell_row (i := 1) (K76.out.1.1.1.2)
  have q89 := cell_row (i := 2) (K76.out.1.1.1.2)
  have q90 := cell_row (i := 3) (K76.out.1.1.1.2)
  go_upto_region 10 with (go_at_call 21; have _t := K76; clear _t; refine (Flow_any A1 c1 ws s _ K76.out.1.2.2.2.2.2.2.1 K76.out.1.2.2.2.2.2.1).mono ?_; rw [F3.out, F6.out.1]; rintro e w92 ⟨A4, c4, rfl, hr, -, hb⟩; have K91 := Lib.hid ((K76.out.on hb).push (stays_rd hr)); clear hr; clear hb)
  clear q86 q87 q88 q89 q90
  clear K76
  have q93 := cell_row (i := 0) (K91.out.1.1.1.1.2)
  have q94 := cell_row (i := 0) (K91.out.1.1.2)
  have q95 := cell_row (i := 1) (K91.out.1.1.2)
  have q96 := cell_row (i := 2) (K91.out.1.1.2)
  have q97 := cell_row (i := 3) (K91.out.1.1.2)
  go_upto_region 11 with (go_at_call 21; have _t := K91; clear _t; refine (Flow_any A1 c1 ws t _ K91.out.1.2.2.2.2.2.2.2.1 K91.out.1.2.2.2.2.2.1).mono ?_; rw [F4.out, F6.out.2]; rintro e w99 ⟨A5, c5, rfl, hr, -, hb⟩; have K98 := Lib.hid ((K91.out.on hb).push (stays_rd hr)); clear hr; clear hb)
  clear q93 q94 q95 q96 q97
  clear K91
  have q100 := cell_row (i := 0) (K98.out.1.1.1.1.2)
  go_upto_region 12 with (go_at_call 39; have _t := K98; clear _t; refine (place_any A1 c1 ws id _ K98.out.1.2.2.2.2.2.2.2.2.1).mono ?_; rw [F5.out.2.2.2.2]; rintro e w102 ⟨rfl, hb⟩; have K101 := Lib.hid (K98.out.on hb); clear hb)
  clear q100
  clear K98
  have hx0 : ¬ (x : Int) < 0 := by omega
  have hx1 : ¬ (F.length : Int) ≤ (x : Int) := by have a := HK.out.lF; have b := HK.out.hx; omega
  have hx2 : ¬ (G.length : Int) ≤ (x : Int) := by have a := HK.out.lG; have b := HK.out.hx; omega
  have hx3 : (x : Int) < (F.length : Int) := by omega
  have hx4 : (x : Int) < (G.length : Int) := by omega
  have hrF := K101.out.1.2.2.1
  have hrG := K101.out.1.2.1
  obtain ⟨b1, o1, rfl, lb1, hcF⟩ := hrF (by omega)
  obtain ⟨b0, o0, rfl, lb0, hcG⟩ := hrG (by omega)
  have k0 := hcG x (by omega)
  have k1 := hcF x (by omega)
  clear hcF hcG hrF hrG
  go_upto_region 14 with fail
  have kS : monS b0 (o0 + x) b1 (o1 + x) (.int .i64 (nth G x)) (.int .i64 (nth F x)) 0 w102.drew := k0
  have kT : monS b0 (o0 + x) b1 (o1 + x) (.int .i64 (nth G x)) (.int .i64 (nth F x)) 1 w102.drew := k1
  have KX := Lib.hid (K101.out.on ((Below.refl _ w102).drew))
  clear K101 k0 k1
  refine wp_region_K (by kernel_rfl) (monS b0 (o0 + x) b1 (o1 + x) (.int .i64 (nth G x)) (.int .i64 (nth F x))) (fun _ _ => true) ?_
  generalize w102.drew = X0 at *
  refine wpAnyK_ready (rs := [0]) (by kernel_rfl) (by simp) (AllK.consL rfl (by rfl) (fun K hK => ?_) AllK.nil)
  go_simp
  refine (sanity_any X0).mono ?_
  rintro e X1 ⟨rfl, hb⟩
  dsimp only
  refine hK.out _ _ (fun k _ h => monS_on hb h) ?_
  have KY := Lib.hid (KX.out.on hb)
  replace kS := monS_on hb kS
  replace kT := monS_on hb kT
  clear hK hb KX
  have hle : nth F x ≤ nth G x := HK.out.law U1.out U2.out U3.out U4.out
  refine wpAnyK_takeL 2 (i := 1) (v := ?_) rfl (by kernel_rfl) (by kernel_rfl) (by kernel_rfl) (by kernel_rfl) (fun _ _ _ h => h) (by first | assumption | trivial) (Or.inl ⟨by rfl, ?_⟩) ?_
  rotate_left
  · intro w hSw; (try dsimp only at hSw); (try change _ = _ at hSw); (try (obtain ⟨_, _⟩ : _ ∧ _ := hSw)); go_simp; (try with_reducible rfl)
  (try go_frame)
  refine wpAnyK_takeL 2 (i := 2) (v := ?_) rfl (by kernel_rfl) (by kernel_rfl) (by kernel_rfl) (by kernel_rfl) (fun _ _ _ h => h) (by first | assumption | trivial) (Or.inl ⟨by rfl, ?_⟩) ?_
  rotate_left
  · intro w hSw; (try dsimp only at hSw); (try change _ = _ at hSw); (try (obtain ⟨_, _⟩ : _ ∧ _ := hSw)); go_simp; (try with_reducible rfl)
  (try go_frame)
  refine wpAnyK_takeL 2 (i := 3) (v := ?_) rfl (by kernel_rfl) (by kernel_rfl) (by kernel_rfl) (by kernel_rfl) (fun _ _ _ h => h) (by first | assumption | trivial) (Or.inl ⟨by rfl, ?_⟩) ?_
  rotate_left
  · intro w hSw; (try dsimp only at hSw); (try change _ = _ at hSw); (try (obtain ⟨_, _⟩ : _ ∧ _ := hSw)); go_simp; (try with_reducible rfl)
  (try go_frame)
  refine wpAnyK_takeL 2 (i := 4) (v := ?_) rfl (by kernel_rfl) (by kernel_rfl) (by kernel_rfl) (by kernel_rfl) (fun _ _ _ h => h) (by first | assumption | trivial) (Or.inl ⟨by rfl, ?_⟩) ?_
  rotate_left
  · intro w hSw; (try dsimp only at hSw); (try change _ = _ at hSw); (try (obtain ⟨_, _⟩ : _ ∧ _ := hSw)); go_simp; (try with_reducible rfl)
  (try go_frame)
  refine wpAnyK_takeL 2 (i := 5) (v := ?_) rfl (by kernel_rfl) (by kernel_rfl) (by kernel_rfl) (by kernel_rfl) (fun _ _ _ h => h) (by first | assumption | trivial) (Or.inl ⟨by rfl, ?_⟩) ?_
  rotate_left
  · intro w hSw; (try dsimp only at hSw); (try change _ = _ at hSw); (try (obtain ⟨_, _⟩ : _ ∧ _ := hSw)); go_simp; (try with_reducible rfl)
  (try go_frame)
  refine wpAnyK_takeL 2 (i := 6) (v := ?_) rfl (by kernel_rfl) (by kernel_rfl) (by kernel_rfl) (by kernel_rfl) (fun _ _ _ h => h) (by first | assumption | trivial) (Or.inl ⟨by rfl, ?_⟩) ?_
  rotate_left
  · intro w hSw; (try dsimp only at hSw); (try change _ = _ at hSw); (try (obtain ⟨_, _⟩ : _ ∧ _ := hSw)); go_simp; (try with_reducible rfl)
  (try go_frame)
  refine wpAnyK_takeL 2 (i := 7) (v := ?_) rfl (by kernel_rfl) (by kernel_rfl) (by kernel_rfl) (by kernel_rfl) (fun _ _ _ h => h) (by first | assumption | trivial) (Or.inl ⟨by rfl, ?_⟩) ?_
  rotate_left
  · intro w hSw; (try dsimp only at hSw); (try change _ = _ at hSw); (try (obtain ⟨_, _⟩ : _ ∧ _ := hSw)); go_simp; (try with_reducible rfl)
  (try go_frame)
  refine wpAnyK_takeL 0 (i := 8) (v := ?_) rfl (by kernel_rfl) (by kernel_rfl) (by kernel_rfl) (by kernel_rfl) (fun _ _ _ h => h) (by first | assumption | trivial) (Or.inl ⟨by rfl, ?_⟩) ?_
  rotate_left
  · intro w hSw; (try dsimp only at hSw); (try change _ = _ at hSw); (try (obtain ⟨_, _⟩ : _ ∧ _ := hSw)); go_simp; (try with_reducible rfl)
  (try go_frame)
  refine wpAnyK_takeL 2 (i := 9) (v := ?_) rfl (by kernel_rfl) (by kernel_rfl) (by kernel_rfl) (by kernel_rfl) (fun _ _ _ h => h) (by first | assumption | trivial) (Or.inl ⟨by rfl, ?_⟩) ?_
  rotate_left
  · intro w hSw; (try dsimp only at hSw); (try change _ = _ at hSw); (try (obtain ⟨_, _⟩ : _ ∧ _ := hSw)); go_simp; (try with_reducible rfl)
  (try go_frame)
  refine wpAnyK_takeL 2 (i := 10) (v := ?_) rfl (by kernel_rfl) (by kernel_rfl) (by kernel_rfl) (by kernel_rfl) (fun _ _ _ h => h) (by first | assumption | trivial) (Or.inl ⟨by rfl, ?_⟩) ?_
  rotate_left
  · intro w hSw; (try dsimp only at hSw); (try change _ = _ at hSw); (try (obtain ⟨_, _⟩ : _ ∧ _ := hSw)); go_simp; (try with_reducible rfl)
  (try go_frame)
  refine wpAnyK_takeL 2 (i := 11) (v := ?_) rfl (by kernel_rfl) (by kernel_rfl) (by kernel_rfl) (by kernel_rfl) (fun _ _ _ h => h) (by first | assumption | trivial) (Or.inl ⟨by rfl, ?_⟩) ?_
  rotate_left
  · intro w hSw; (try dsimp only at hSw); (try change _ = _ at hSw); (try (obtain ⟨_, _⟩ : _ ∧ _ := hSw)); go_simp; (try with_reducible rfl)
  (try go_frame)
  refine wpAnyK_takeL 1 (i := 12) (v := ?_) rfl (by kernel_rfl) (by kernel_rfl) (by kernel_rfl) (by kernel_rfl) (fun _ _ _ h => h) (by first | assumption | trivial) (Or.inl ⟨by rfl, ?_⟩) ?_
  rotate_left
  · intro w hSw; (try dsimp only at hSw); (try change _ = _ at hSw); (try (obtain ⟨_, _⟩ : _ ∧ _ := hSw)); go_simp; (try with_reducible rfl)
  (try go_frame)
  refine wpAnyK_takeL 2 (i := 13) (v := ?_) rfl (by kernel_rfl) (by kernel_rfl) (by kernel_rfl) (by kernel_rfl) (fun _ _ _ h => h) (by first | assumption | trivial) (Or.inl ⟨by rfl, ?_⟩) ?_
  rotate_left
  · intro w hSw; (try dsimp only at hSw); (try change _ = _ at hSw); (try (obtain ⟨_, _⟩ : _ ∧ _ := hSw)); go_simp; (try with_reducible rfl)
  (try go_frame)
  refine wpAnyK_takeL 2 (i := 14) (v := ?_) rfl (by kernel_rfl) (by kernel_rfl) (by kernel_rfl) (by kernel_rfl) (fun _ _ _ h => h) (by first | assumption | trivial) (Or.inl ⟨by rfl, ?_⟩) ?_
  rotate_left
  · intro w hSw; (try dsimp only at hSw); (try change _ = _ at hSw); (try (obtain ⟨_, _⟩ : _ ∧ _ := hSw)); go_simp; (try with_reducible rfl)
  (try go_frame)
  refine wpAnyK_takeL 2 (i := 15) (v := ?_) rfl (by kernel_rfl) (by kernel_rfl) (by kernel_rfl) (by kernel_rfl) (fun _ _ _ h => h) (by first | assumption | trivial) (Or.inl ⟨by rfl, ?_⟩) ?_
  rotate_left
  · intro w hSw; (try dsimp only at hSw); (try change _ = _ at hSw); (try (obtain ⟨_, _⟩ : _ ∧ _ := hSw)); go_simp; (try with_reducible rfl)
  (try go_frame)
  refine wpAnyK_takeL 2 (i := 16) (v := ?_) rfl (by kernel_rfl) (by kernel_rfl) (by kernel_rfl) (by kernel_rfl) (fun _ _ _ h => h) (by first | assumption | trivial) (Or.inl ⟨by rfl, ?_⟩) ?_
  rotate_left
  · intro w hSw; (try dsimp only at hSw); (try change _ = _ at hSw); (try (obtain ⟨_, _⟩ : _ ∧ _ := hSw)); go_simp; (try with_reducible rfl)
  (try go_frame)
  refine wpAnyK_done (by kernel_rfl) ?_ _
  clear kS kT
  go_wp2
  go_ret
  exact ⟨rfl, KY.out.1.1.1.1.1⟩
end Go.Proofs.Ytdadoelajhemjaa
