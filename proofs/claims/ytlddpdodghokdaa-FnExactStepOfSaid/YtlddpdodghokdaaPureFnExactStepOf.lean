/- The program's StepOf answers what the reference's answers, for all arguments. No condition but those that the statement itself names. -/
import Derived.Test.YtlddpdodghokdaaPFnExactStepOfx1
import Derived.Test.YtlddpdodghokdaaLib
namespace Go.Proofs.Ytlddpdodghokdaa.Pure
open Go.RowKit Go.Proofs.Ytlddpdodghokdaa.PFnExactStepOf Go.Proofs.YtlddpdodghokdaaW.PrintWords Go.Proofs.YtlddpdodghokdaaW.PrintLast Go.Proofs.YtlddpdodghokdaaW.PrintMore Go.Proofs.Ytlddpdodghokdaa.Lib
set_option linter.unusedVariables false
set_option linter.unusedSimpArgs false

/-! spec_l1In -/
theorem spec_l1In_f (a b c : Int) : spec_l1In.f a b c = some (decide (b ≤ a ∧ a ≤ c)) := by
  unfold spec_l1In.f
  by_cases h : b ≤ a <;> simp [h]

/-! spec_IsCard -/
theorem spec_IsCard_f (a : Int) : spec_IsCard.f a = some (isCardM a) := by
  unfold spec_IsCard.f
  rw [spec_l1In_f]
  rfl

/-! spec_RankOf -/
theorem spec_RankOf_f (a : Int) : spec_RankOf.f a = some (rankM a) := by
  unfold spec_RankOf.f
  rw [spec_IsCard_f]
  unfold rankM isCardM
  by_cases h : 0 ≤ a ∧ a ≤ 51
  · simp [h, tmod13 a h.1]
  · simp [h]

/-! spec_StepOf -/
theorem spec_StepOf_f (a : Int) : spec_StepOf.f a = some (stepM a) := by
  unfold spec_StepOf.f
  simp only [spec_RankOf_f, spec_IsCard_f, Option.bind_some]
  unfold stepM rankM
  by_cases h : 0 ≤ a ∧ a ≤ 51
  · have e : Int.tmod (wrap64 (a % 13 + 1)) 13 = (a % 13 + 1) % 13 := by
      rw [w64 (by omega) (by omega), Int.tmod_eq_emod_of_nonneg (by omega)]
    simp only [isCardM, h, and_self, decide_true, ↓reduceIte, Option.bind_some, e]
    rw [w64 (by omega) (by omega)]
  · simp [h, isCardM]

/-! impl_InRange -/
theorem impl_InRange_f (a b c : Int) : impl_InRange.f a b c = some (decide (b ≤ a ∧ a ≤ c)) := by
  unfold impl_InRange.f
  by_cases h : b ≤ a <;> simp [h]

/-! impl_IsCard -/
theorem impl_IsCard_f (a : Int) : impl_IsCard.f a = some (isCardM a) := by
  unfold impl_IsCard.f
  rw [impl_InRange_f]
  rfl

/-! impl_RankOf -/
theorem impl_RankOf_f (a : Int) : impl_RankOf.f a = some (rankM a) := by
  unfold impl_RankOf.f
  rw [impl_IsCard_f]
  unfold rankM isCardM
  by_cases h : 0 ≤ a ∧ a ≤ 51
  · simp [h, tmod13 a h.1]
  · simp [h]

/-! impl_StepOf -/
theorem impl_StepOf_f (a : Int) : impl_StepOf.f a = some (stepM a) := by
  unfold impl_StepOf.f
  simp only [impl_RankOf_f, Option.bind_some]
  unfold stepM rankM
  by_cases h : 0 ≤ a ∧ a ≤ 51
  · simp only [h, and_self, ↓reduceIte]
    by_cases e : a % 13 = 12
    · simp [e]
    · have e1 : ¬ a % 13 = -1 := by omega
      simp only [e, e1, ↓reduceIte]
      rw [w64 (by omega) (by omega)]
      congr 1
      omega
  · simp [h]

theorem FnExactStepOf : laws_FnExactStepOf.Pure := by
  intro a _
  simp [laws_FnExactStepOf.f, spec_StepOf_f, impl_StepOf_f]

end Go.Proofs.Ytlddpdodghokdaa.Pure
