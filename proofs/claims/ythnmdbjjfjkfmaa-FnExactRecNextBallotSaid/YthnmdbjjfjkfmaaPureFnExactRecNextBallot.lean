/- RecNextBallot of the program and of the reference give the same ballot at every three whole numbers; no condition. -/
import Derived.Test.YthnmdbjjfjkfmaaPFnExactRecNextBallotx1
namespace Go.Proofs.Ythnmdbjjfjkfmaa.Pure
open Go.RowKit Go.Proofs.Ythnmdbjjfjkfmaa.PFnExactRecNextBallot Go.Proofs.YthnmdbjjfjkfmaaW.PrintWords Go.Proofs.YthnmdbjjfjkfmaaW.PrintLast

namespace NB
theorem wrap_in {x : Int} (h0 : -9223372036854775808 ≤ x) (h1 : x ≤ 9223372036854775807) : wrap64 x = x := by unfold wrap64; omega

theorem mod_ne (n o t x : Int) (ho : 1 ≤ o) (ho5 : o ≤ 5) (ht : t % o = n % o) (h1 : 0 < t - x) (h2 : t - x < o) : ¬ x % o = n % o := by
  rcases (by omega : o = 1 ∨ o = 2 ∨ o = 3 ∨ o = 4 ∨ o = 5) with rfl | rfl | rfl | rfl | rfl <;> omega

theorem loop (n o t : Int) (ho : 1 ≤ o) (ho5 : o ≤ 5) (hn : 1 ≤ n) (ht : t % o = n % o) (htm : t ≤ 1000010) (d : Nat) :
    ∀ (k : Nat) (x : Int), x = t - d → (d : Int) < o → 0 ≤ x → d < k →
      impl_RecNextBallot.l0 k n o x = some (if t ≤ 1000000 then t else 0) := by
  induction d with
  | zero =>
    intro k x hx _ h0 hk
    obtain ⟨k, rfl⟩ : ∃ m, k = m + 1 := ⟨k - 1, by omega⟩
    obtain rfl : x = t := by omega
    simp only [impl_RecNextBallot.l0]
    by_cases h : x ≤ 1000000
    · rw [if_pos h, if_neg (by omega), if_pos (by rw [Int.tmod_eq_emod_of_nonneg h0, Int.tmod_eq_emod_of_nonneg (by omega)]; exact ht), if_pos h]
    · rw [if_neg h, if_neg h]
  | succ d ih =>
    intro k x hx hd h0 hk
    obtain ⟨k, rfl⟩ : ∃ m, k = m + 1 := ⟨k - 1, by omega⟩
    simp only [impl_RecNextBallot.l0]
    by_cases h : x ≤ 1000000
    · rw [if_pos h, if_neg (by omega), if_neg (by rw [Int.tmod_eq_emod_of_nonneg h0, Int.tmod_eq_emod_of_nonneg (by omega)]; exact mod_ne n o t x ho ho5 ht (by omega) (by omega)),
        wrap_in (by omega) (by omega)]
      exact ih k (x + 1) (by omega) (by omega) (by omega) (by omega)
    · rw [if_neg h, if_neg (by omega)]
end NB

theorem FnExactRecNextBallot : laws_FnExactRecNextBallot.Pure := by
  intro a n o _ _ _
  refine ⟨20, ?_⟩
  unfold laws_FnExactRecNextBallot.f spec_RecNextBallot.f impl_RecNextBallot.f
  simp only [spec_l1In.f, impl_within.f]
  by_cases h : (1 ≤ o ∧ o ≤ 5) ∧ (1 ≤ n ∧ n ≤ o) ∧ (0 ≤ a ∧ a ≤ 1000000)
  · obtain ⟨⟨h1, h2⟩, ⟨h3, h4⟩, h5, h6⟩ := h
    have hm : a / o * o ≤ a ∧ a < a / o * o + o ∧ 0 ≤ a / o * o := by
      rcases (by omega : o = 1 ∨ o = 2 ∨ o = 3 ∨ o = 4 ∨ o = 5) with rfl | rfl | rfl | rfl | rfl <;> omega
    have hdv : 0 ≤ a / o ∧ a / o ≤ a := by
      rcases (by omega : o = 1 ∨ o = 2 ∨ o = 3 ∨ o = 4 ∨ o = 5) with rfl | rfl | rfl | rfl | rfl <;> omega
    have hr : ∀ q : Int, (q * o + n) % o = n % o := fun q => by rw [Int.add_comm, Int.add_mul_emod_self_right]
    have hr2 : ∀ q : Int, (q * o + n + o) % o = n % o := fun q => by rw [Int.add_emod_right]; exact hr q
    simp only [ge_iff_le, h1, h2, h3, h4, h5, h6, if_true, decide_true, Option.bind_some, Bool.not_true, spec_RecNextBallot.j0, impl_RecNextBallot.j0, Bool.false_eq_true, if_false]
    rw [if_neg (by omega : ¬ o = 0), Int.tdiv_eq_ediv_of_nonneg h5]
    rw [NB.wrap_in (x := a / o) (by omega) (by omega), NB.wrap_in (x := a / o * o) (by omega) (by omega), NB.wrap_in (x := a / o * o + n) (by omega) (by omega), NB.wrap_in (x := a + 1) (by omega) (by omega), NB.wrap_in (x := a / o * o + n + o) (by omega) (by omega)]
    generalize hq : a / o = q at *
    have hq1 := hr q
    have hq2 := hr2 q
    generalize q * o = m at *
    by_cases hb : m + n ≤ a
    · rw [if_pos hb, NB.loop n o (m + n + o) h1 h2 h3 hq2 (by omega) (m + n + o - (a + 1)).toNat 19 (a + 1) (by omega) (by omega) (by omega) (by omega)]
      by_cases hc : m + n + o > 1000000
      · rw [if_pos hc, if_neg (by omega)]; simp
      · rw [if_neg hc, if_pos (by omega)]; simp
    · rw [if_neg hb, NB.loop n o (m + n) h1 h2 h3 hq1 (by omega) (m + n - (a + 1)).toNat 19 (a + 1) (by omega) (by omega) (by omega) (by omega)]
      by_cases hc : m + n > 1000000
      · rw [if_pos hc, if_neg (by omega)]; simp
      · rw [if_neg hc, if_pos (by omega)]; simp
  · by_cases c1 : o ≥ 1 <;> by_cases c2 : o ≤ 5 <;> by_cases c3 : n ≥ 1 <;> by_cases c4 : n ≤ o <;> by_cases c5 : a ≥ 0 <;> by_cases c6 : a ≤ 1000000 <;>
      first
        | (simp [c1, c2, c3, c4, c5, c6, spec_RecNextBallot.j0, impl_RecNextBallot.j0]; done)
        | omega

end Go.Proofs.Ythnmdbjjfjkfmaa.Pure
