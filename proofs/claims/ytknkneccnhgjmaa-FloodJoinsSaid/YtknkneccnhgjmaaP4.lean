/- Plain: joins, whatever the order. -/
import Derived.Test.YtknkneccnhgjmaaP2
namespace Go.Proofs.Ytknkneccnhgjmaa

theorem split_facts {xs ys : List Int} {t : Nat} (ht : t < xs.length) :
    splitAt xs ys t ≤ t ∧ nth xs (splitAt xs ys t) + nth ys (t - splitAt xs ys t) = nth (joinL xs ys) t ∧ nth (joinL xs ys) t ≤ nth xs t + nth ys 0 ∧ nth (joinL xs ys) t ≤ nth ys t + nth xs 0 := by
  have h1 := joinAt_le xs ys (s := t) (t := t) (Nat.le_refl _)
  have h2 := joinAt_le xs ys (s := 0) (t := t) (Nat.zero_le _)
  rw [Nat.sub_self] at h1
  rw [Nat.sub_zero] at h2
  rw [nth_joinL ht]
  exact ⟨splitAt_le xs ys t, (joinAt_eq xs ys t).symm, h1, by omega⟩
theorem ok2_joinL {xs ys zs : List Int} (h1 : ok2 xs ys = true) (hf : fitB (joinL xs ys) = true) (h2 : ok2 ys zs = true) : ok2 (joinL xs ys) zs = true := by
  obtain ⟨a, b, c⟩ := ok2_iff.1 h1
  obtain ⟨_, d, e⟩ := ok2_iff.1 h2
  exact ok2_iff.2 ⟨joinL_valid a b c hf, d, by rw [joinL_length]; omega⟩
theorem ok2_joinR {xs ys zs : List Int} (h1 : ok2 xs ys = true) (hf : fitB (joinL ys zs) = true) (h2 : ok2 ys zs = true) : ok2 xs (joinL ys zs) = true := by
  obtain ⟨a, b, c⟩ := ok2_iff.1 h1
  obtain ⟨_, d, e⟩ := ok2_iff.1 h2
  exact ok2_iff.2 ⟨a, joinL_valid b d e hf, by rw [joinL_length]; omega⟩
end Go.Proofs.Ytknkneccnhgjmaa
