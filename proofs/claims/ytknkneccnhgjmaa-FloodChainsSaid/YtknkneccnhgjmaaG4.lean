/- Walk: the reference's lead. -/
import Derived.Test.YtknkneccnhgjmaaG1
import Derived.Deep.AppendLies
namespace Go.Proofs.Ytknkneccnhgjmaa
open Go.RowKit Go.Shelf

set_option maxRecDepth 100000 in
set_option maxHeartbeats 3200000 in
theorem rlead_any (A1 A2 : Option Addr) (c1 c2 : Nat) (xs ys : List Int) (w : World) (r1 : Rd w w.heap.size A1 xs) (r2 : Rd w w.heap.size A2 ys) (hm : xs.length ≤ 1000) (h3 : ys.length = xs.length) (bx : ∀ i, 0 ≤ nth xs i ∧ nth xs i ≤ 1073741824) (by' : ∀ i, 0 ≤ nth ys i ∧ nth ys i ≤ 1073741824) :
    Calls Try.prog 104 #[.agg #[.slice A1 xs.length c1], .agg #[.slice A2 ys.length c2]] w fun e w' => RCurve w (leadL xs ys) e w' := by
  obtain ⟨i0, hi0, hz0, hz1, hz2⟩ := info_parts info3
  have hK := w4b_known (c1 := c1) (c2 := c2) r1 r2
  have hO := w4b_outs w A1 A2 xs.length c1 ys.length c2
  have H3 := Lib.hid h3
  have HX := Lib.hid (And.intro bx by')
  clear r1 r2 h3 bx by'
  go_enter Try.func104, Try.ntmps104
  go_upto_region 2 with fail
  change Code.wp _ _ _ _ (w4b w A1 A2 xs.length c1 ys.length c2)
  generalize w4b w A1 A2 xs.length c1 ys.length c2 = w1 at *
  go_wp2
  go_loopg [6] xs.length (fun gg s wr => ∃ t : Nat, t ≤ xs.length ∧ xs.length - t ≤ gg ∧ s = .int .i64 t ∧ ∃ A c, Outs w1 wr (w.heap.size + 1 + 1 + 1) (.slice A t c) (tab t (leadAt xs ys)))
  case atStart => exact ⟨0, Nat.zero_le _, by omega, rfl, _, _, hO⟩
  case round =>
    obtain ⟨t, ht, hg, rfl, A, c, hO'⟩ := hrel
    have hK' := hK.ext hO'.bl hO'.lt
    have p1 := hK'.p1
    by_cases hlt : t < xs.length
    · have hltz : (t : Int) < (xs.length : Int) := by omega
      have HO := Lib.hid hO'
      clear hO' hK'
      go_wp2
      clear p1
      obtain ⟨wp, hwp⟩ : ∃ wp : World, wp = wr := ⟨_, rfl⟩
      rw [← hwp] at HO ⊢
      clear hwp
      go_loopg [7, 8] xs.length (fun gg2 n u wi => ∃ k : Nat, t + k ≤ xs.length ∧ xs.length - t - k ≤ gg2 ∧ u = .int .i64 k ∧ n = .int .i64 (maxTo (fun u => nth xs (t + u) - nth ys u) k) ∧ Aside (Outs w1 wi (w.heap.size + 1 + 1 + 1) (.slice A t c) (tab t (leadAt xs ys))))
      case atStart => exact ⟨0, by omega, by omega, rfl, rfl, HO.out⟩
      case round =>
        obtain ⟨k, hk, hgk, rfl, rfl, hO2⟩ := hrel
        have hO2' := hO2.out
        clear hO2
        have hK' := hK.ext hO2'.bl hO2'.lt
        have p1 := hK'.p1
        have p2 := hK'.p2
        have l4 := hO2'.lt
        by_cases hkt : t + k < xs.length
        · have hkz : (t : Int) + (k : Int) < (xs.length : Int) := by omega
          have hkz2 : (k : Int) < (ys.length : Int) := by have := H3.out; omega
          obtain ⟨b1, o1, rfl, lb1, hc1⟩ := hK'.r1 (by omega)
          obtain ⟨b2, o2, rfl, lb2, hc2⟩ := hK'.r2 (by have := H3.out; omega)
          have k1 := hc1 (t + k) hkt
          have k2 := hc2 k (by have := H3.out; omega)
          obtain ⟨n1, n2⟩ := HX.out.1 (t + k)
          obtain ⟨n3, n4⟩ := HX.out.2 k
          obtain ⟨n5, n6⟩ := maxTo_bd (fun u => nth xs (t + u) - nth ys u) 1073741824 (by omega) k (fun i _ => by have := (HX.out.1 (t + i)).2; have := (HX.out.2 i).1; omega)
          have hs : maxTo (fun u => nth xs (t + u) - nth ys u) (k + 1) = max (maxTo (fun u => nth xs (t + u) - nth ys u) k) (nth xs (t + k) - nth ys k) := rfl
          have HO2 := Lib.hid hO2'
          clear hc1 hc2 hO2' hK'
          generalize maxTo (fun u => nth xs (t + u) - nth ys u) k = M at *
          have HS := Lib.hid hs
          clear hs
          have hw : IntKind.i64.wrap (nth xs (t + k) - nth ys k) = nth xs (t + k) - nth ys k := by rw [IntKind.wrap_i64]; omega
          have hw2 : IntKind.i64.wrap ((t : Int) + (k : Int)) = (t : Int) + (k : Int) := by rw [IntKind.wrap_i64]; omega
          have l1 : w.heap.size < wr.heap.size := by omega
          have l2 : w.heap.size + 1 < wr.heap.size := by omega
          have l5 : b1 < wr.heap.size := by omega
          have l6 : b2 < wr.heap.size := by omega
          go_wp2
          refine wp_region_ext (by kernel_rfl) (by kernel_rfl) ?_
          intro ι _ X hX hC
          have rX := fun k => (bcell (hX k)).1
          repeat (first | go_big_quiet_skip | (go_big_quiet_want; go_big_quiet_op; first | go_big_quiet_on | (apply Exists.intro; refine ⟨fun _ => ?_, ?_⟩; (focus (fail)); go_big_quiet_on)))
          refine wpQuiet_nil ?_
          intro w1 hb1
          clear rX hX hC
          have HB := Lib.hid (HO2.out.later hb1)
          clear hw hw2
          go_wp2
          all_goals
            go_roundg (xs.length - t - (k + 1))
            case measure => omega
            case rel => exact ⟨k + 1, by omega, Nat.le_refl _, by go_num, int_eq (by rw [HS.out]; omega), HB.out⟩
        · have hkz : ¬ (t : Int) + (k : Int) < (xs.length : Int) := by omega
          have hM : maxTo (fun u => nth xs (t + u) - nth ys u) k = leadAt xs ys t := by unfold leadAt; rw [show xs.length - t = k by omega]
          rw [hM]
          have q4 := hO2'.cell
          have hown := hO2'.own
          have HO2 := Lib.hid hO2'
          clear hO2' hK' hM
          unfold Own at hown
          rw [tab_length] at hown
          generalize hXg : leadAt xs ys t = X at *
          have HXX := Lib.hid hXg
          clear hXg
          have hBw : Below wr.heap.size wr (wr.alloc (.cells #[.int .i64 X] 3)) := (Below.refl _ wr).alloc (Nat.le_refl _) _
          have hnew := World.news_of_block (cs := #[.int .i64 X]) (t := 3) (fr := (0, 0)) (heap_alloc_new wr (.cells #[.int .i64 X] 3))
          have hown2 := hown.alloc (.cells #[.int .i64 X] 3)
          have hsz : w.heap.size + 1 + 1 + 1 + 1 ≤ (wr.alloc (.cells #[.int .i64 X] 3)).heap.size := by have := HO2.out.lt; simp; omega
          have HB := Lib.hid (And.intro hBw (And.intro hnew (And.intro hown2 hsz)))
          clear hBw hnew hown2 hsz hown
          go_wp2_with (at_builtin; refine wpList_append_own_at _ rfl _ _ 24 rfl (w.heap.size + 1 + 1 + 1 + 1) 3 i0 (.int .i64 0) 1 8 Try.underlying24 hi0 hz0 hz1 hz2 rfl (by decide) (.slice A t c) t _ rfl HB.out.2.2.1 ⟨wr.heap.size, 0, none⟩ 1 1 [.int .i64 X] rfl (by simp) HB.out.2.1 (by simp [Value.oneCell']) (by unfold maxLen; omega) (by omega) HB.out.2.2.2 ?_; intro v' w9 hown1 hgrow _ _; have hpush := HO2.out.push (nv := v') (x := X) HB.out.1 hgrow (by rw [tab_length]; exact hown1); obtain ⟨c2G, f2G, rc2⟩ := HO2.out.appended HB.out.1 hgrow; obtain ⟨A', c', rfl⟩ := hpush.slice (n := t + 1) (by simp [tab_length]); have HP := Lib.hid hpush; clear hpush hown1 hgrow rc2)
          go_roundg (xs.length - (t + 1))
          case measure => omega
          case rel => exact ⟨t + 1, by omega, by omega, by go_num, _, _, by rw [tab_succ, HXX.out]; exact HP.out⟩
    · have hltz : ¬ (t : Int) < (xs.length : Int) := by omega
      obtain rfl : t = xs.length := by omega
      have HF := Lib.hid (hO'.curve (w := w) hK.below (by omega))
      have p3 := hK'.p3
      have p4 := hK'.p4
      have q4 := hO'.cell
      have q3 := World.cell?_setCell_same' wr ⟨w.heap.size + 1 + 1, 0, none⟩ (.slice A xs.length c) (by rw [p3]; rfl)
      have Q3 := Lib.hid q3
      clear hO' hK' q3
      go_wp2
      have q3 := Q3.out
      exact bodyPost_ret (v := .agg #[.slice A xs.length c]) (by simp [results, Try.results104, go_sem, q3]) rfl HF.out
end Go.Proofs.Ytknkneccnhgjmaa
