/- The program's ValueAfter answers what the reference's answers, for all arguments. No condition but those that the statement itself names. -/
import Derived.Test.YtlddpdodghokdaaQFnExactValueAfterx1
import Derived.Test.YtlddpdodghokdaaLib
namespace Go.Proofs.Ytlddpdodghokdaa.Pure
open Go.RowKit Go.Proofs.Ytlddpdodghokdaa.QFnExactValueAfter Go.Proofs.YtlddpdodghokdaaW.PrintWords Go.Proofs.YtlddpdodghokdaaW.PrintLast Go.Proofs.YtlddpdodghokdaaW.PrintMore Go.Proofs.Ytlddpdodghokdaa.Lib
set_option linter.unusedVariables false
set_option linter.unusedSimpArgs false


theorem FnExactValueAfter : laws_FnExactValueAfter.Pure := by
  intro a b ha hb
  by_cases h1 : (a.size : Int) > 1048576
  · simp only [laws_FnExactValueAfter.f, h1, ↓reduceIte]
  by_cases h2 : (b.size : Int) > 1048576
  · simp only [laws_FnExactValueAfter.f, h1, h2, ↓reduceIte]
  have e0 : b.size + 1 ≤ 9223372036854775807 := by omega
  have e2 : (b ++ (⟨#[61]⟩ : ByteArray)).size = b.size + 1 := by rw [ByteArray.size_append]; rfl
  have e4 : wrap64 ((b.size : Int) + 1) = ((b.size + 1 : Nat) : Int) := by rw [w64 (by omega) (by omega)]; omega
  have e7 : (0 : Int) ≤ (b.size : Int) := by omega
  have e9 : (0 : Int) ≤ ((b.size + 1 : Nat) : Int) := by omega
  have key : impl_ValueAfter.f a b = spec_ValueAfter.f a b := by
    simp only [impl_ValueAfter.f, e0, ↓reduceIte, strings_CutPrefix.f, stringslite_CutPrefix.f, stringslite_HasPrefix.f, e2, spec_ValueAfter.f, e4, e7, e9, Int.toNat_natCast]
    by_cases h : (a.size : Int) ≤ (b.size : Int)
    · have h' : ¬ (a.size : Int) ≥ ((b.size + 1 : Nat) : Int) := by omega
      simp only [h, h', ↓reduceIte, Option.bind_some, Bool.false_eq_true]
    · have h3 : (a.size : Int) ≥ ((b.size + 1 : Nat) : Int) := by omega
      have h4 : ((b.size + 1 : Nat) : Int) ≤ (a.size : Int) := by omega
      have h5 : (b.size : Int) ≤ (a.size : Int) := by omega
      have h6 : (b.size : Int) < (a.size : Int) := by omega
      have cw := cut_word a b 61 (by omega)
      simp only [h, h3, h4, h5, h6, ↓reduceIte, Option.bind_some, toList_iff, beq_iff_eq]
      by_cases g1 : a.extract 0 b.size = b
      · by_cases g2 : bt a (b.size : Int) = 61
        · have g3 := cw.2 ⟨g1, g2⟩
          simp [g1, g2, g3]
        · have g3 : ¬ a.extract 0 (b.size + 1) = b ++ (⟨#[61]⟩ : ByteArray) := fun e => g2 (cw.1 e).2
          simp [g1, g2, g3]
      · have g3 : ¬ a.extract 0 (b.size + 1) = b ++ (⟨#[61]⟩ : ByteArray) := fun e => g1 (cw.1 e).1
        simp [g1, g3]
  have some_ : ∃ r, spec_ValueAfter.f a b = some r := by
    simp only [spec_ValueAfter.f, e4, e7, e9, ↓reduceIte, Int.toNat_natCast]
    by_cases h : (a.size : Int) ≤ (b.size : Int)
    · exact ⟨_, by rw [if_pos h]⟩
    · have h5 : (b.size : Int) ≤ (a.size : Int) := by omega
      have h6 : (b.size : Int) < (a.size : Int) := by omega
      have h4 : ((b.size + 1 : Nat) : Int) ≤ (a.size : Int) := by omega
      simp only [h, h4, h5, h6, ↓reduceIte]
      split
      · split
        · exact ⟨_, rfl⟩
        · exact ⟨_, rfl⟩
      · exact ⟨_, rfl⟩
  obtain ⟨r, hr⟩ := some_
  simp only [laws_FnExactValueAfter.f, h1, h2, ↓reduceIte, key, hr, Option.bind_some]
  simp

end Go.Proofs.Ytlddpdodghokdaa.Pure
