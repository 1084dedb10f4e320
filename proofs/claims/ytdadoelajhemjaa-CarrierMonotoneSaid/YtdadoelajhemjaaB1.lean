/- Walks: up of the laws. -/
import Derived.Test.YtdadoelajhemjaaM12
namespace Go.Proofs.Ytdadoelajhemjaa
open Go.RowKit Go.Shelf

def upAt (sg a b : List Int) (i : Nat) : Bool := decide (nth sg i * nth a i ≤ nth sg i * nth b i)
def upB (sg a b : List Int) : Bool := (List.range sg.length).all (upAt sg a b)
theorem upB_iff {sg a b : List Int} : upB sg a b = true ↔ ∀ i, i < sg.length → nth sg i * nth a i ≤ nth sg i * nth b i := by
  unfold upB upAt
  rw [List.all_eq_true]
  exact ⟨fun h i hi => of_decide_eq_true (h i (List.mem_range.2 hi)), fun h i hi => decide_eq_true (h i (List.mem_range.1 hi))⟩
def upS (b0 o0 b1 o1 b2 o2 : Nat) (v0 v1 v2 : Value) (k : Nat) (X : World) : Prop := match k with
  | 0 => X.cell? ⟨b0, o0, none⟩ = some v0
  | 1 => X.cell? ⟨b1, o1, none⟩ = some v1
  | _ => X.cell? ⟨b2, o2, none⟩ = some v2

theorem wrap_id {x : Int} (h1 : -1048576 ≤ x) (h2 : x ≤ 1048576) : IntKind.i64.wrap x = x := by rw [IntKind.wrap_i64]; omega
set_option maxRecDepth 100000 in
set_option maxHeartbeats 800000 in
theorem up_any (A B C : Option Addr) (c d f : Nat) (sg a b : List Int) (w : World) (h0 : Rd w w.heap.size A sg) (h1 : Rd w w.heap.size B a) (h2 : Rd w w.heap.size C b) (hm : sg.length ≤ 1000) (ha : a.length = sg.length) (hb : b.length = sg.length)
    (ma : ∀ i, i < sg.length → -1048576 ≤ nth sg i * nth a i ∧ nth sg i * nth a i ≤ 1048576) (mb : ∀ i, i < sg.length → -1048576 ≤ nth sg i * nth b i ∧ nth sg i * nth b i ≤ 1048576) :
    Calls Try.prog 38 #[.slice A sg.length c, .slice B a.length d, .slice C b.length f] w fun e w' => e = .returned (.bool (upB sg a b)) ∧ Below w.heap.size w w' := by
  rw [ha, hb]
  have HM := Lib.hid (And.intro ma (And.intro mb (And.intro ha hb)))
  clear ma mb ha hb
  have hf : ∀ t, t < sg.length → ¬ nth sg t * nth a t ≤ nth sg t * nth b t → upB sg a b = false := fun t ht h => by
    cases e : upB sg a b with
    | false => rfl
    | true => exact absurd (upB_iff.1 e t ht) h
  have HR := Lib.hid (And.intro hf (fun h => (upB_iff (sg := sg) (a := a) (b := b)).2 h))
  clear hf
  generalize upB sg a b = R at *
  go_enter Try.func38, Try.ntmps38
  go_upto_region 2 with fail
  go_loopg [7] sg.length (fun gg i wr => ∃ t : Nat, t ≤ sg.length ∧ sg.length - t ≤ gg ∧ i = .int .i64 t ∧ Aside (Below w.heap.size w wr ∧ ∀ j, j < t → nth sg j * nth a j ≤ nth sg j * nth b j))
  case atStart => exact ⟨0, Nat.zero_le _, by omega, rfl, Below.refl _ _, fun j hj => absurd hj (Nat.not_lt_zero _)⟩
  case round =>
    obtain ⟨t, hlt0, hgg, rfl, hA⟩ := hrel
    have HA := Lib.hid hA.out
    clear hA
    by_cases hlt : t < sg.length
    · have hltz : (t : Int) < (sg.length : Int) := by omega
      have e1 := HM.out.2.2.1
      have e2 := HM.out.2.2.2
      obtain ⟨b0, o0, rfl, lb0, hc0⟩ := h0 (by omega)
      obtain ⟨b1, o1, rfl, lb1, hc1⟩ := h2 (by omega)
      obtain ⟨b2, o2, rfl, lb2, hc2⟩ := h1 (by omega)
      have k0 : upS b0 (o0 + t) b1 (o1 + t) b2 (o2 + t) (.int .i64 (nth sg t)) (.int .i64 (nth b t)) (.int .i64 (nth a t)) 0 wr.drew := (HA.out.1.cell (p := ⟨b0, o0 + t, none⟩) lb0).trans (hc0 t hlt)
      have k1 : upS b0 (o0 + t) b1 (o1 + t) b2 (o2 + t) (.int .i64 (nth sg t)) (.int .i64 (nth b t)) (.int .i64 (nth a t)) 1 wr.drew := (HA.out.1.cell (p := ⟨b1, o1 + t, none⟩) lb1).trans (hc1 t (by omega))
      have k2 : upS b0 (o0 + t) b1 (o1 + t) b2 (o2 + t) (.int .i64 (nth sg t)) (.int .i64 (nth b t)) (.int .i64 (nth a t)) 2 wr.drew := (HA.out.1.cell (p := ⟨b2, o2 + t, none⟩) lb2).trans (hc2 t (by omega))
      have HB := Lib.hid (HA.out.1.drew)
      have HE := Lib.hid (fun (e : nth sg t * nth a t ≤ nth sg t * nth b t) (j : Nat) (hj : j < t + 1) => (show nth sg j * nth a j ≤ nth sg j * nth b j from by
        by_cases e2 : j = t
        · subst e2; exact e
        · exact HA.out.2 j (by omega)))
      obtain ⟨ma1, ma2⟩ := HM.out.1 t hlt
      obtain ⟨mb1, mb2⟩ := HM.out.2.1 t hlt
      clear hc0 hc1 hc2 e1 e2
      by_cases hq : nth sg t * nth a t ≤ nth sg t * nth b t
      · have HQ := Lib.hid hq
        have HQZ := Lib.hid (show decide (nth sg t * nth b t < nth sg t * nth a t) = false from decide_eq_false (by omega))
        clear hq
        go_wp2
        refine wp_region_K (by kernel_rfl) (upS b0 (o0 + t) b1 (o1 + t) b2 (o2 + t) (.int .i64 (nth sg t)) (.int .i64 (nth b t)) (.int .i64 (nth a t))) (fun _ _ => true) ?_
        generalize wr.drew = X0 at *
        refine wpAnyK_takeL 0 (i := 0) (v := ?_) rfl (by kernel_rfl) (by kernel_rfl) (by kernel_rfl) (by kernel_rfl) (fun _ _ _ h => h) (by first | assumption | trivial) (Or.inl ⟨by rfl, ?_⟩) ?_
        rotate_left
        · intro w hSw; (try dsimp only at hSw); (try change _ = _ at hSw); (try (obtain ⟨_, _⟩ : _ ∧ _ := hSw)); go_simp; (try with_reducible rfl)
        (try go_frame)
        refine wpAnyK_takeL 0 (i := 1) (v := ?_) rfl (by kernel_rfl) (by kernel_rfl) (by kernel_rfl) (by kernel_rfl) (fun _ _ _ h => h) (by first | assumption | trivial) (Or.inl ⟨by rfl, ?_⟩) ?_
        rotate_left
        · intro w hSw; (try dsimp only at hSw); (try change _ = _ at hSw); (try (obtain ⟨_, _⟩ : _ ∧ _ := hSw)); go_simp; (try with_reducible rfl)
        (try go_frame)
        refine wpAnyK_takeL 0 (i := 2) (v := ?_) rfl (by kernel_rfl) (by kernel_rfl) (by kernel_rfl) (by kernel_rfl) (fun _ _ _ h => h) (by first | assumption | trivial) (Or.inl ⟨by rfl, ?_⟩) ?_
        rotate_left
        · intro w hSw; (try dsimp only at hSw); (try change _ = _ at hSw); (try (obtain ⟨_, _⟩ : _ ∧ _ := hSw)); go_simp; (try with_reducible rfl)
        (try go_frame)
        refine wpAnyK_takeL 0 (i := 3) (v := ?_) rfl (by kernel_rfl) (by kernel_rfl) (by kernel_rfl) (by kernel_rfl) (fun _ _ _ h => h) (by first | assumption | trivial) (Or.inl ⟨by rfl, ?_⟩) ?_
        rotate_left
        · intro w hSw; (try dsimp only at hSw); (try change _ = _ at hSw); (try (obtain ⟨_, _⟩ : _ ∧ _ := hSw)); go_simp; (try with_reducible rfl)
        (try go_frame)
        refine wpAnyK_takeL 0 (i := 4) (v := ?_) rfl (by kernel_rfl) (by kernel_rfl) (by kernel_rfl) (by kernel_rfl) (fun _ _ _ h => h) (by first | assumption | trivial) (Or.inl ⟨by rfl, ?_⟩) ?_
        rotate_left
        · intro w hSw; (try dsimp only at hSw); (try change _ = _ at hSw); (try (obtain ⟨_, _⟩ : _ ∧ _ := hSw)); go_simp; (try with_reducible rfl)
        (try go_frame)
        refine wpAnyK_takeL 0 (i := 5) (v := ?_) rfl (by kernel_rfl) (by kernel_rfl) (by kernel_rfl) (by kernel_rfl) (fun _ _ _ h => h) (by first | assumption | trivial) (Or.inl ⟨by rfl, ?_⟩) ?_
        rotate_left
        · intro w hSw; (try dsimp only at hSw); (try change _ = _ at hSw); (try (obtain ⟨_, _⟩ : _ ∧ _ := hSw)); go_simp; (try with_reducible rfl)
        (try go_frame)
        refine wpAnyK_takeL 0 (i := 6) (v := ?_) rfl (by kernel_rfl) (by kernel_rfl) (by kernel_rfl) (by kernel_rfl) (fun _ _ _ h => h) (by first | assumption | trivial) (Or.inl ⟨by rfl, ?_⟩) ?_
        rotate_left
        · intro w hSw; (try dsimp only at hSw); (try change _ = _ at hSw); (try (obtain ⟨_, _⟩ : _ ∧ _ := hSw)); go_simp; (try with_reducible rfl)
        (try go_frame)
        refine wpAnyK_takeL 1 (i := 7) (v := ?_) rfl (by kernel_rfl) (by kernel_rfl) (by kernel_rfl) (by kernel_rfl) (fun _ _ _ h => h) (by first | assumption | trivial) (Or.inl ⟨by rfl, ?_⟩) ?_
        rotate_left
        · intro w hSw; (try dsimp only at hSw); (try change _ = _ at hSw); (try (obtain ⟨_, _⟩ : _ ∧ _ := hSw)); go_simp; (try with_reducible rfl)
        (try go_frame)
        refine wpAnyK_takeL 0 (i := 8) (v := ?_) rfl (by kernel_rfl) (by kernel_rfl) (by kernel_rfl) (by kernel_rfl) (fun _ _ _ h => h) (by first | assumption | trivial) (Or.inl ⟨by rfl, ?_⟩) ?_
        rotate_left
        · intro w hSw; (try dsimp only at hSw); (try change _ = _ at hSw); (try (obtain ⟨_, _⟩ : _ ∧ _ := hSw)); go_simp; (try with_reducible rfl)
        (try go_frame)
        refine wpAnyK_takeL 0 (i := 9) (v := ?_) rfl (by kernel_rfl) (by kernel_rfl) (by kernel_rfl) (by kernel_rfl) (fun _ _ _ h => h) (by first | assumption | trivial) (Or.inl ⟨by rfl, ?_⟩) ?_
        rotate_left
        · intro w hSw; (try dsimp only at hSw); (try change _ = _ at hSw); (try (obtain ⟨_, _⟩ : _ ∧ _ := hSw)); go_simp; (try with_reducible rfl)
        (try go_frame)
        refine wpAnyK_takeL 0 (i := 10) (v := ?_) rfl (by kernel_rfl) (by kernel_rfl) (by kernel_rfl) (by kernel_rfl) (fun _ _ _ h => h) (by first | assumption | trivial) (Or.inl ⟨by rfl, ?_⟩) ?_
        rotate_left
        · intro w hSw; (try dsimp only at hSw); (try change _ = _ at hSw); (try (obtain ⟨_, _⟩ : _ ∧ _ := hSw)); go_simp; (try with_reducible rfl)
        (try go_frame)
        refine wpAnyK_takeL 0 (i := 11) (v := ?_) rfl (by kernel_rfl) (by kernel_rfl) (by kernel_rfl) (by kernel_rfl) (fun _ _ _ h => h) (by first | assumption | trivial) (Or.inl ⟨by rfl, ?_⟩) ?_
        rotate_left
        · intro w hSw; (try dsimp only at hSw); (try change _ = _ at hSw); (try (obtain ⟨_, _⟩ : _ ∧ _ := hSw)); go_simp; (try with_reducible rfl)
        (try go_frame)
        refine wpAnyK_takeL 0 (i := 12) (v := ?_) rfl (by kernel_rfl) (by kernel_rfl) (by kernel_rfl) (by kernel_rfl) (fun _ _ _ h => h) (by first | assumption | trivial) (Or.inl ⟨by rfl, ?_⟩) ?_
        rotate_left
        · intro w hSw; (try dsimp only at hSw); (try change _ = _ at hSw); (try (obtain ⟨_, _⟩ : _ ∧ _ := hSw)); go_simp; (try with_reducible rfl)
        (try go_frame)
        refine wpAnyK_takeL 0 (i := 13) (v := ?_) rfl (by kernel_rfl) (by kernel_rfl) (by kernel_rfl) (by kernel_rfl) (fun _ _ _ h => h) (by first | assumption | trivial) (Or.inl ⟨by rfl, ?_⟩) ?_
        rotate_left
        · intro w hSw; (try dsimp only at hSw); (try change _ = _ at hSw); (try (obtain ⟨_, _⟩ : _ ∧ _ := hSw)); go_simp; (try with_reducible rfl)
        (try go_frame)
        refine wpAnyK_takeL 0 (i := 14) (v := ?_) rfl (by kernel_rfl) (by kernel_rfl) (by kernel_rfl) (by kernel_rfl) (fun _ _ _ h => h) (by first | assumption | trivial) (Or.inl ⟨by rfl, ?_⟩) ?_
        rotate_left
        · intro w hSw; (try dsimp only at hSw); (try change _ = _ at hSw); (try (obtain ⟨_, _⟩ : _ ∧ _ := hSw)); go_simp; (try with_reducible rfl)
        (try go_frame)
        refine wpAnyK_takeL 0 (i := 15) (v := ?_) rfl (by kernel_rfl) (by kernel_rfl) (by kernel_rfl) (by kernel_rfl) (fun _ _ _ h => h) (by first | assumption | trivial) (Or.inl ⟨by rfl, ?_⟩) ?_
        rotate_left
        · intro w hSw; (try dsimp only at hSw); (try change _ = _ at hSw); (try (obtain ⟨_, _⟩ : _ ∧ _ := hSw)); go_simp; (try with_reducible rfl)
        (try go_frame)
        refine wpAnyK_takeL 2 (i := 16) (v := ?_) rfl (by kernel_rfl) (by kernel_rfl) (by kernel_rfl) (by kernel_rfl) (fun _ _ _ h => h) (by first | assumption | trivial) (Or.inl ⟨by rfl, ?_⟩) ?_
        rotate_left
        · intro w hSw; (try dsimp only at hSw); (try change _ = _ at hSw); (try (obtain ⟨_, _⟩ : _ ∧ _ := hSw)); go_simp; (try with_reducible rfl)
        (try go_frame)
        refine wpAnyK_takeL 0 (i := 17) (v := ?_) rfl (by kernel_rfl) (by kernel_rfl) (by kernel_rfl) (by kernel_rfl) (fun _ _ _ h => h) (by first | assumption | trivial) (Or.inl ⟨by rfl, ?_⟩) ?_
        rotate_left
        · intro w hSw; (try dsimp only at hSw); (try change _ = _ at hSw); (try (obtain ⟨_, _⟩ : _ ∧ _ := hSw)); go_simp; (try with_reducible rfl)
        (try go_frame)
        refine wpAnyK_takeL 0 (i := 18) (v := ?_) rfl (by kernel_rfl) (by kernel_rfl) (by kernel_rfl) (by kernel_rfl) (fun _ _ _ h => h) (by first | assumption | trivial) (Or.inl ⟨by rfl, ?_⟩) ?_
        rotate_left
        · intro w hSw; (try dsimp only at hSw); (try change _ = _ at hSw); (try (obtain ⟨_, _⟩ : _ ∧ _ := hSw)); go_simp; (try with_reducible rfl)
        (try go_frame)
        rw [wrap_id mb1 mb2, wrap_id ma1 ma2, HQZ.out]
        refine wpAnyK_done (by kernel_rfl) ?_ _
        clear k0 k1 k2
        go_wp2
        go_roundg (sg.length - (t + 1))
        case measure => omega
        case rel => exact ⟨t + 1, by omega, by omega, by go_num, (show _ ∧ _ from ⟨HB.out, HE.out HQ.out⟩)⟩
      · obtain rfl := HR.out.1 t hlt (by first | exact hq | omega)
        have HQZ := Lib.hid (show decide (nth sg t * nth b t < nth sg t * nth a t) = true from decide_eq_true (by omega))
        clear hq
        go_wp2
        refine wp_region_K (by kernel_rfl) (upS b0 (o0 + t) b1 (o1 + t) b2 (o2 + t) (.int .i64 (nth sg t)) (.int .i64 (nth b t)) (.int .i64 (nth a t))) (fun _ _ => true) ?_
        generalize wr.drew = X0 at *
        refine wpAnyK_takeL 0 (i := 0) (v := ?_) rfl (by kernel_rfl) (by kernel_rfl) (by kernel_rfl) (by kernel_rfl) (fun _ _ _ h => h) (by first | assumption | trivial) (Or.inl ⟨by rfl, ?_⟩) ?_
        rotate_left
        · intro w hSw; (try dsimp only at hSw); (try change _ = _ at hSw); (try (obtain ⟨_, _⟩ : _ ∧ _ := hSw)); go_simp; (try with_reducible rfl)
        (try go_frame)
        refine wpAnyK_takeL 0 (i := 1) (v := ?_) rfl (by kernel_rfl) (by kernel_rfl) (by kernel_rfl) (by kernel_rfl) (fun _ _ _ h => h) (by first | assumption | trivial) (Or.inl ⟨by rfl, ?_⟩) ?_
        rotate_left
        · intro w hSw; (try dsimp only at hSw); (try change _ = _ at hSw); (try (obtain ⟨_, _⟩ : _ ∧ _ := hSw)); go_simp; (try with_reducible rfl)
        (try go_frame)
        refine wpAnyK_takeL 0 (i := 2) (v := ?_) rfl (by kernel_rfl) (by kernel_rfl) (by kernel_rfl) (by kernel_rfl) (fun _ _ _ h => h) (by first | assumption | trivial) (Or.inl ⟨by rfl, ?_⟩) ?_
        rotate_left
        · intro w hSw; (try dsimp only at hSw); (try change _ = _ at hSw); (try (obtain ⟨_, _⟩ : _ ∧ _ := hSw)); go_simp; (try with_reducible rfl)
        (try go_frame)
        refine wpAnyK_takeL 0 (i := 3) (v := ?_) rfl (by kernel_rfl) (by kernel_rfl) (by kernel_rfl) (by kernel_rfl) (fun _ _ _ h => h) (by first | assumption | trivial) (Or.inl ⟨by rfl, ?_⟩) ?_
        rotate_left
        · intro w hSw; (try dsimp only at hSw); (try change _ = _ at hSw); (try (obtain ⟨_, _⟩ : _ ∧ _ := hSw)); go_simp; (try with_reducible rfl)
        (try go_frame)
        refine wpAnyK_takeL 0 (i := 4) (v := ?_) rfl (by kernel_rfl) (by kernel_rfl) (by kernel_rfl) (by kernel_rfl) (fun _ _ _ h => h) (by first | assumption | trivial) (Or.inl ⟨by rfl, ?_⟩) ?_
        rotate_left
        · intro w hSw; (try dsimp only at hSw); (try change _ = _ at hSw); (try (obtain ⟨_, _⟩ : _ ∧ _ := hSw)); go_simp; (try with_reducible rfl)
        (try go_frame)
        refine wpAnyK_takeL 0 (i := 5) (v := ?_) rfl (by kernel_rfl) (by kernel_rfl) (by kernel_rfl) (by kernel_rfl) (fun _ _ _ h => h) (by first | assumption | trivial) (Or.inl ⟨by rfl, ?_⟩) ?_
        rotate_left
        · intro w hSw; (try dsimp only at hSw); (try change _ = _ at hSw); (try (obtain ⟨_, _⟩ : _ ∧ _ := hSw)); go_simp; (try with_reducible rfl)
        (try go_frame)
        refine wpAnyK_takeL 0 (i := 6) (v := ?_) rfl (by kernel_rfl) (by kernel_rfl) (by kernel_rfl) (by kernel_rfl) (fun _ _ _ h => h) (by first | assumption | trivial) (Or.inl ⟨by rfl, ?_⟩) ?_
        rotate_left
        · intro w hSw; (try dsimp only at hSw); (try change _ = _ at hSw); (try (obtain ⟨_, _⟩ : _ ∧ _ := hSw)); go_simp; (try with_reducible rfl)
        (try go_frame)
        refine wpAnyK_takeL 1 (i := 7) (v := ?_) rfl (by kernel_rfl) (by kernel_rfl) (by kernel_rfl) (by kernel_rfl) (fun _ _ _ h => h) (by first | assumption | trivial) (Or.inl ⟨by rfl, ?_⟩) ?_
        rotate_left
        · intro w hSw; (try dsimp only at hSw); (try change _ = _ at hSw); (try (obtain ⟨_, _⟩ : _ ∧ _ := hSw)); go_simp; (try with_reducible rfl)
        (try go_frame)
        refine wpAnyK_takeL 0 (i := 8) (v := ?_) rfl (by kernel_rfl) (by kernel_rfl) (by kernel_rfl) (by kernel_rfl) (fun _ _ _ h => h) (by first | assumption | trivial) (Or.inl ⟨by rfl, ?_⟩) ?_
        rotate_left
        · intro w hSw; (try dsimp only at hSw); (try change _ = _ at hSw); (try (obtain ⟨_, _⟩ : _ ∧ _ := hSw)); go_simp; (try with_reducible rfl)
        (try go_frame)
        refine wpAnyK_takeL 0 (i := 9) (v := ?_) rfl (by kernel_rfl) (by kernel_rfl) (by kernel_rfl) (by kernel_rfl) (fun _ _ _ h => h) (by first | assumption | trivial) (Or.inl ⟨by rfl, ?_⟩) ?_
        rotate_left
        · intro w hSw; (try dsimp only at hSw); (try change _ = _ at hSw); (try (obtain ⟨_, _⟩ : _ ∧ _ := hSw)); go_simp; (try with_reducible rfl)
        (try go_frame)
        refine wpAnyK_takeL 0 (i := 10) (v := ?_) rfl (by kernel_rfl) (by kernel_rfl) (by kernel_rfl) (by kernel_rfl) (fun _ _ _ h => h) (by first | assumption | trivial) (Or.inl ⟨by rfl, ?_⟩) ?_
        rotate_left
        · intro w hSw; (try dsimp only at hSw); (try change _ = _ at hSw); (try (obtain ⟨_, _⟩ : _ ∧ _ := hSw)); go_simp; (try with_reducible rfl)
        (try go_frame)
        refine wpAnyK_takeL 0 (i := 11) (v := ?_) rfl (by kernel_rfl) (by kernel_rfl) (by kernel_rfl) (by kernel_rfl) (fun _ _ _ h => h) (by first | assumption | trivial) (Or.inl ⟨by rfl, ?_⟩) ?_
        rotate_left
        · intro w hSw; (try dsimp only at hSw); (try change _ = _ at hSw); (try (obtain ⟨_, _⟩ : _ ∧ _ := hSw)); go_simp; (try with_reducible rfl)
        (try go_frame)
        refine wpAnyK_takeL 0 (i := 12) (v := ?_) rfl (by kernel_rfl) (by kernel_rfl) (by kernel_rfl) (by kernel_rfl) (fun _ _ _ h => h) (by first | assumption | trivial) (Or.inl ⟨by rfl, ?_⟩) ?_
        rotate_left
        · intro w hSw; (try dsimp only at hSw); (try change _ = _ at hSw); (try (obtain ⟨_, _⟩ : _ ∧ _ := hSw)); go_simp; (try with_reducible rfl)
        (try go_frame)
        refine wpAnyK_takeL 0 (i := 13) (v := ?_) rfl (by kernel_rfl) (by kernel_rfl) (by kernel_rfl) (by kernel_rfl) (fun _ _ _ h => h) (by first | assumption | trivial) (Or.inl ⟨by rfl, ?_⟩) ?_
        rotate_left
        · intro w hSw; (try dsimp only at hSw); (try change _ = _ at hSw); (try (obtain ⟨_, _⟩ : _ ∧ _ := hSw)); go_simp; (try with_reducible rfl)
        (try go_frame)
        refine wpAnyK_takeL 0 (i := 14) (v := ?_) rfl (by kernel_rfl) (by kernel_rfl) (by kernel_rfl) (by kernel_rfl) (fun _ _ _ h => h) (by first | assumption | trivial) (Or.inl ⟨by rfl, ?_⟩) ?_
        rotate_left
        · intro w hSw; (try dsimp only at hSw); (try change _ = _ at hSw); (try (obtain ⟨_, _⟩ : _ ∧ _ := hSw)); go_simp; (try with_reducible rfl)
        (try go_frame)
        refine wpAnyK_takeL 0 (i := 15) (v := ?_) rfl (by kernel_rfl) (by kernel_rfl) (by kernel_rfl) (by kernel_rfl) (fun _ _ _ h => h) (by first | assumption | trivial) (Or.inl ⟨by rfl, ?_⟩) ?_
        rotate_left
        · intro w hSw; (try dsimp only at hSw); (try change _ = _ at hSw); (try (obtain ⟨_, _⟩ : _ ∧ _ := hSw)); go_simp; (try with_reducible rfl)
        (try go_frame)
        refine wpAnyK_takeL 2 (i := 16) (v := ?_) rfl (by kernel_rfl) (by kernel_rfl) (by kernel_rfl) (by kernel_rfl) (fun _ _ _ h => h) (by first | assumption | trivial) (Or.inl ⟨by rfl, ?_⟩) ?_
        rotate_left
        · intro w hSw; (try dsimp only at hSw); (try change _ = _ at hSw); (try (obtain ⟨_, _⟩ : _ ∧ _ := hSw)); go_simp; (try with_reducible rfl)
        (try go_frame)
        refine wpAnyK_takeL 0 (i := 17) (v := ?_) rfl (by kernel_rfl) (by kernel_rfl) (by kernel_rfl) (by kernel_rfl) (fun _ _ _ h => h) (by first | assumption | trivial) (Or.inl ⟨by rfl, ?_⟩) ?_
        rotate_left
        · intro w hSw; (try dsimp only at hSw); (try change _ = _ at hSw); (try (obtain ⟨_, _⟩ : _ ∧ _ := hSw)); go_simp; (try with_reducible rfl)
        (try go_frame)
        refine wpAnyK_takeL 0 (i := 18) (v := ?_) rfl (by kernel_rfl) (by kernel_rfl) (by kernel_rfl) (by kernel_rfl) (fun _ _ _ h => h) (by first | assumption | trivial) (Or.inl ⟨by rfl, ?_⟩) ?_
        rotate_left
        · intro w hSw; (try dsimp only at hSw); (try change _ = _ at hSw); (try (obtain ⟨_, _⟩ : _ ∧ _ := hSw)); go_simp; (try with_reducible rfl)
        (try go_frame)
        rw [wrap_id mb1 mb2, wrap_id ma1 ma2, HQZ.out]
        refine wpAnyK_done (by kernel_rfl) ?_ _
        clear k0 k1 k2
        go_wp2
        go_ret
        exact ⟨rfl, HB.out⟩
    · have hltz : ¬ (t : Int) < (sg.length : Int) := by omega
      obtain rfl : t = sg.length := by omega
      obtain rfl := HR.out.2 HA.out.2
      go_wp2
      go_ret
      exact ⟨rfl, HA.out.1⟩
end Go.Proofs.Ytdadoelajhemjaa
