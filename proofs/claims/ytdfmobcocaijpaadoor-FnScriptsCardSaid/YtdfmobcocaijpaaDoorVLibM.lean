/- Lemmas of this place's own for the plain laws. No condition beyond what each names. -/
import Derived.Test.YtdfmobcocaijpaaDoorVLib
namespace Go.Proofs.YtdfmobcocaijpaaDoor.Lib
open Go.RowKit Go.Proofs.YtdfmobcocaijpaaDoorW.PrintWords Go.Proofs.YtdfmobcocaijpaaDoorW.PrintLast Go.Proofs.YtdfmobcocaijpaaDoorW.PrintMore
set_option linter.unusedVariables false
set_option linter.unusedSimpArgs false
theorem isPatM_run {p : List Int} (h : isPatM p = true) : patF p 0 = some 1 ∧ p.length ≤ 20 := by
  unfold isPatM at h
  cases e : patF p 0 with
  | none => rw [e] at h; simp [patEnd] at h
  | some n =>
    rw [e] at h
    simp only [patEnd, Bool.and_eq_true, decide_eq_true_eq] at h
    exact ⟨by rw [h.1], h.2⟩
theorem patF_step {s : Int} {r : List Int} {n : Int} (h : patF (s :: r) n = some 1) :
    (s ≠ -1 ∧ s ≠ -2 ∧ s ≠ -3 ∧ patF r (n + 1) = some 1) ∨ (s = -1 ∧ 1 ≤ n ∧ patF r n = some 1) ∨ ((s = -2 ∨ s = -3) ∧ 2 ≤ n ∧ patF r (n - 1) = some 1) := by
  unfold patF at h
  by_cases hl : leafM s = true
  · rw [if_pos hl] at h
    unfold leafM at hl
    simp only [Bool.or_eq_true, decide_eq_true_eq, beq_iff_eq] at hl
    exact Or.inl ⟨by omega, by omega, by omega, h⟩
  · rw [if_neg hl] at h
    by_cases h1 : s = -1 ∧ 1 ≤ n
    · rw [if_pos h1] at h
      exact Or.inr (Or.inl ⟨h1.1, h1.2, h⟩)
    · rw [if_neg h1] at h
      by_cases h2 : (s = -2 ∨ s = -3) ∧ 2 ≤ n
      · rw [if_pos h2] at h
        exact Or.inr (Or.inr ⟨h2.1, h2.2, h⟩)
      · rw [if_neg h2] at h
        exact absurd h (by simp)
end Go.Proofs.YtdfmobcocaijpaaDoor.Lib
