/- Walks: Left's closure. -/
import Derived.Test.YtknkneccnhgjmaaA5
import Derived.StillTailTactics
namespace Go.Proofs.Ytknkneccnhgjmaa
open Go.RowKit

/-- What is left behind a call of Left's closure. -/
def RLeft (w : World) (B0 : Nat) (m : Int) (e : Ending) (w' : World) : Prop := e = .returned (.int .i64 m) ∧ w'.cell? ⟨B0, 0, none⟩ = some (.int .i64 m) ∧ w'.frozen? ⟨B0, 0, none⟩ = false ∧ w.grownBy w' (some B0)

set_option maxRecDepth 100000 in
set_option maxHeartbeats 400000 in
theorem left1_any (t : Nat) (B0 B1 B2 : Nat) (m : Int) (xs ys : List Int) (w : World) (hc0 : w.cell? ⟨B0, 0, none⟩ = some (.int .i64 m)) (hf0 : w.frozen? ⟨B0, 0, none⟩ = false)
    (hx : Held w B1 0 xs) (hy : Held w B2 0 ys) (h1 : t < xs.length) (h2 : t < ys.length) (sx : Small xs) (sy : Small ys) :
    Calls Try.prog 92 #[.int .i64 t, .pointer (some ⟨B0, 0, none⟩), .pointer (some ⟨B1, 0, none⟩), .pointer (some ⟨B2, 0, none⟩)] w
      fun e w' => RLeft w B0 (max m (nth xs t - nth ys t)) e w' := by
  obtain ⟨l1, b1, o1, c1, lb1, f1, g1⟩ := hx.at h1
  obtain ⟨l2, b2, o2, c2, lb2, f2, g2⟩ := hy.at h2
  have k1 := g1 t h1
  have k2 := g2 t h2
  obtain ⟨m1, m2⟩ := sx t
  obtain ⟨m3, m4⟩ := sy t
  clear g1 g2 hx hy sx sy
  have hw : IntKind.i64.wrap (nth xs t - nth ys t) = nth xs t - nth ys t := IntWalk.i64_in _ (by omega)
  have hsl : ∀ x : Int, (w.setCell ⟨B0, 0, none⟩ (.int .i64 x)).cell? ⟨B0, 0, none⟩ = some (.int .i64 x) := fun x => World.cell?_setCell_same' _ _ _ (by rw [hc0]; rfl)
  have hsf : ∀ x : Int, (w.setCell ⟨B0, 0, none⟩ (.int .i64 x)).frozen? ⟨B0, 0, none⟩ = false := fun x => by rw [World.frozen?_setCell]; exact hf0
  have hg : ∀ x : Int, w.grownBy (w.setCell ⟨B0, 0, none⟩ (.int .i64 x)).drew (some B0) := fun x => ⟨rfl, rfl, rfl, by simp [World.setCell], fun k hk hne => Below.heap_setCell _ _ _ _ (fun e => hne (by rw [e]))⟩
  have Hg := Lib.hid hg
  clear hg
  by_cases hlt : m < nth xs t - nth ys t
  · have Hmx := Lib.hid (show max m (nth xs t - nth ys t) = nth xs t - nth ys t by omega)
    go_enter Try.func92, Try.ntmps92
    go_wp2
    go_still_tail 13, (by kernel_rfl)
    change wpList _ _ _ _ _ w.drew
    go_wp2
    go_ret
    rw [Hmx.out]
    exact ⟨rfl, hsl _, hsf _, Hg.out _⟩
  · have Hmx := Lib.hid (show max m (nth xs t - nth ys t) = m by omega)
    go_enter Try.func92, Try.ntmps92
    go_wp2
    go_still_tail 13, (by kernel_rfl)
    change wpList _ _ _ _ _ w.drew
    go_wp2
    go_ret
    rw [Hmx.out]
    exact ⟨rfl, hsl _, hsf _, Hg.out _⟩
end Go.Proofs.Ytknkneccnhgjmaa
