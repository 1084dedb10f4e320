/- Walk: the law FloodStaffs. -/
import Derived.Test.YtknkneccnhgjmaaF5
import Derived.Test.YtknkneccnhgjmaaL1
namespace Go.Proofs.Ytknkneccnhgjmaa
open Go.RowKit Go.Shelf

theorem pick_len {b : Bool} {xs : List Int} {n : Nat} (h : b = true → xs.length ≤ n) : (pick b xs).length ≤ n := by
  cases b
  · exact Nat.zero_le _
  · exact h rfl
theorem betE_last {l : List Sv} {last : Int} (h : betE l last = 0) : 0 ≤ last ∧ last ≤ 120 := by
  unfold betE at h
  split at h
  · omega
  · split at h
    · omega
    · rename_i h2
      have : withinB last 0 120 = true := by simpa using h2
      unfold withinB at this
      simpa using this

set_option maxRecDepth 100000 in
set_option maxHeartbeats 3200000 in
theorem FloodStaffs_any (A : Option Addr) (c : Nat) (l : List Sv) (last : Int) (w : World) (h : RdS w w.heap.size A l) (hm : l.length ≤ maxLen) :
    Calls Try.prog 3 #[.slice A l.length c, .int .i64 last] w fun e w' => e = .returned (.bool true) ∧ Below w.heap.size w w' := by
  have hB := fun W (hr : RdS W W.heap.size A l) => Between_any A c l last W hr hm
  have hR := fun W (hr : RdS W W.heap.size A l) => rBetween_any A c l last W hr hm
  have hX : (pick (decide (betE l last = 0)) (loL l (last.toNat + 1))).length ≤ 1000 := pick_len fun h0 => by
    have := betE_last (of_decide_eq_true h0); rw [loL_length]; omega
  have hY : (pick (decide (betE l last = 0)) (hiL l (last.toNat + 1))).length ≤ 1000 := pick_len fun h0 => by
    have := betE_last (of_decide_eq_true h0); rw [hiL_length]; omega
  generalize pick (decide (betE l last = 0)) (loL l (last.toNat + 1)) = X at *
  generalize pick (decide (betE l last = 0)) (hiL l (last.toNat + 1)) = Y at *
  generalize betE l last = E at *
  have HB := Lib.hid (And.intro hB (And.intro hR (And.intro hX (And.intro hY h))))
  have hK : Ex w w [] [] := ⟨Below.refl _ _, fun p hp => (by cases hp), fun p hp => (by cases hp)⟩
  have K := Lib.hid hK
  unfold maxLen at hm
  clear hB hR hX hY h hK
  by_cases h70 : 70 < l.length
  · have z1 : (30 : Int) < (l.length : Int) := by omega
    have z2 : ¬ (l.length : Int) ≤ 60 := by omega
    have z3 : (70 : Int) < (l.length : Int) := by omega
    clear h70 HB K
    go_enter Try.func3, Try.ntmps3
    go_wp2_with (go_at_call 16; refine (sanity_any _).mono ?_; rintro e w1 ⟨rfl, hb⟩)
    go_ret
    exact ⟨rfl, hb⟩
  by_cases h30 : 30 < l.length ∧ l.length ≤ 60
  · have z1 : (30 : Int) < (l.length : Int) := by omega
    have z2 : (l.length : Int) ≤ 60 := by omega
    clear h70 h30 HB K
    go_enter Try.func3, Try.ntmps3
    go_wp2_with (go_at_call 16; refine (sanity_any _).mono ?_; rintro e w1 ⟨rfl, hb⟩)
    go_ret
    exact ⟨rfl, hb⟩
  have z3 : ¬ (70 : Int) < (l.length : Int) := by omega
  have h32 : (¬ (30 : Int) < (l.length : Int)) ∨ ((30 : Int) < (l.length : Int) ∧ ¬ (l.length : Int) ≤ 60) := by
    rcases Nat.lt_or_ge 30 l.length with h | h
    · rcases Nat.lt_or_ge 60 l.length with h' | h'
      · exact .inr ⟨by omega, by omega⟩
      · exact absurd ⟨h, h'⟩ h30
    · exact .inl (by omega)
  clear h70 h30 hm
  rcases h32 with z1 | ⟨z1, z2⟩
  all_goals
    go_enter Try.func3, Try.ntmps3
    go_upto_region 4 with (go_at_call 17; refine (HB.out.1 _ HB.out.2.2.2.2).mono ?_; rintro e y1 ⟨A1, c1, A2, c2, rfl, hr, hr', hb⟩; have K1 := Lib.hid (And.intro (K.out.ext hb) (And.intro hr (And.intro hr' (HB.out.2.2.2.2.ext hb)))); clear hr hr' hb)
    have hK := (K1.out.1.box (A := A1) (c := c1) K1.out.2.1).box (A := A2) (c := c2) (K1.out.2.2.1.ext ((Below.refl _ y1).alloc (Nat.le_refl _) _))
    have hS := K1.out.2.2.2.ext (((Below.refl _ y1).alloc (Nat.le_refl _) (.cells #[.slice A1 X.length c1] 26)).alloc (by simp) (.cells #[.slice A2 Y.length c2] 26))
    rw [World.size_alloc] at hK
    generalize hgW : (y1.alloc (.cells #[.slice A1 X.length c1] 26)).alloc (.cells #[.slice A2 Y.length c2] 26) = W1 at *
    generalize hgg : y1.heap.size = g1 at *
    clear K K1 hgW hgg z1 z3
    have K := Lib.hid (And.intro hK hS)
    clear hK hS
    go_upto_region 5 with (go_at_call 18; refine (HB.out.2.1 _ K.out.2).mono ?_; rintro e y2 ⟨A3, c3, A4, c4, rfl, hr, hr', hb⟩; have K2 := Lib.hid (And.intro (K.out.1.ext hb) (And.intro hr hr')); clear hr hr' hb)
    have hK := ((K2.out.1.addRd K2.out.2.1).addRd K2.out.2.2).three (.slice A3 X.length c3) (.slice A4 Y.length c4) (.int .i64 E) 31
    generalize hgW : y2.alloc (.cells #[.slice A3 X.length c3, .slice A4 Y.length c4, .int .i64 E] 31) = W2 at *
    generalize hgg : y2.heap.size = g2 at *
    clear K K2 hgW hgg
    have K := Lib.hid hK
    clear hK
    go_wp2_with (first | (go_at_call 16; refine (sanity_any _).mono ?_; rintro e x1 ⟨rfl, hb⟩; have K1 := Lib.hid (K.out.ext hb); have q1 := (K1.out.cells (⟨g1, 0, none⟩, .slice A1 X.length c1) (by simp)).2; have q2 := (K1.out.cells (⟨g2, 0, none⟩, .slice A3 X.length c3) (by simp)).2; clear hb) | (go_at_call 19; refine (Same_ex A2 A4 c2 c4 Y _ (K2.out.rds (A2, Y) (by simp)) (K2.out.rds (A4, Y) (by simp)) HB.out.2.2.2.1).mono ?_; rintro e x3 ⟨rfl, hb⟩; have K3 := Lib.hid (K2.out.ext hb); have q5 := (K3.out.cells (⟨g2, 2, none⟩, .int .i64 E) (by simp)).2; clear hb) | (go_at_call 19; refine (Same_ex A1 A3 c1 c3 X _ (K1.out.rds (A1, X) (by simp)) (K1.out.rds (A3, X) (by simp)) HB.out.2.2.1).mono ?_; rintro e x2 ⟨rfl, hb⟩; have K2 := Lib.hid (K1.out.ext hb); have q3 := (K2.out.cells (⟨g1 + 1, 0, none⟩, .slice A2 Y.length c2) (by simp)).2; have q4 := (K2.out.cells (⟨g2, 1, none⟩, .slice A4 Y.length c4) (by simp)).2; clear hb))
    go_ret
    exact ⟨by simp, K3.out.bl⟩
theorem FloodStaffs_row (w : World) (A : Option Addr) (c : Nat) (l : List Sv) (h : RdS w w.heap.size A l) (hm : l.length ≤ maxLen) (last : Int) (_ : (Lit.int .i64 last).wf = true) :
    Calls Try.prog 3 #[.slice A l.length c, .int .i64 last] w fun e w' => e = .returned (.bool true) ∧ Below w.heap.size w w' := FloodStaffs_any A c l last w h hm
end Go.Proofs.Ytknkneccnhgjmaa
