/- The program's SeedSeal answers what the reference's answers, for all arguments. No condition but those that the statement itself names. -/
import Derived.Test.YtlddpdodghokdaaPFnExactSeedSealx1
import Derived.Test.YtlddpdodghokdaaLib
namespace Go.Proofs.Ytlddpdodghokdaa.Pure
open Go.RowKit Go.Proofs.Ytlddpdodghokdaa.PFnExactSeedSeal Go.Proofs.YtlddpdodghokdaaW.PrintWords Go.Proofs.YtlddpdodghokdaaW.PrintLast Go.Proofs.YtlddpdodghokdaaW.PrintMore Go.Proofs.Ytlddpdodghokdaa.Lib
set_option linter.unusedVariables false
set_option linter.unusedSimpArgs false

/-! spec_l1In -/
theorem spec_l1In_f (a b c : Int) : spec_l1In.f a b c = some (decide (b ≤ a ∧ a ≤ c)) := by
  unfold spec_l1In.f
  by_cases h : b ≤ a <;> simp [h]

/-! spec_Mod -/
theorem spec_Mod_f (a b : Int) : spec_Mod.f a b = some (modM a b) := by
  unfold spec_Mod.f
  rw [spec_l1In_f]
  unfold modM
  by_cases h : 1 ≤ b ∧ b ≤ 1000000000000
  · have : ¬ b = 0 := by omega
    simp [h, this]
  · simp [h]

/-! spec_Hash -/
theorem spec_Hash_ev (l : List Int) (hl : l.length ≤ 1099511627776) : Ev (fun k => spec_Hash.f k l) (hashM l) := by
  simp only [spec_Hash.f, hashM]
  refine loop_int l hl (P := fun i rest => ∀ d, Ev (fun k => spec_Hash.l0 k l d i) (rest.foldl hashStep d)) ?_ ?_ 11
  · intro d
    refine ev_succ (ev_of_eq fun k => ?_)
    simp only [spec_Hash.l0, Int.lt_irrefl, ↓reduceIte, List.foldl_nil]
  · intro i x rest h0 h1 hx _ hw ih d
    refine ev_succ ?_
    simp only [spec_Hash.l0, h1, h0, ↓reduceIte, hx, hw, spec_Mod_f, Option.bind_some]
    exact ih _

/-! spec_SeedSeal -/
theorem spec_SeedSeal_ev (a b c : Int) : Ev (fun k => spec_SeedSeal.f k a b c) (hashM [a, b, c]) := by
  simp only [spec_SeedSeal.f]
  exact Ev.bind (spec_Hash_ev [a, b, c] (by simp)) (Ev.now _)

/-! impl_InRange -/
theorem impl_InRange_f (a b c : Int) : impl_InRange.f a b c = some (decide (b ≤ a ∧ a ≤ c)) := by
  unfold impl_InRange.f
  by_cases h : b ≤ a <;> simp [h]

/-! impl_Mod -/
theorem impl_Mod_f (a b : Int) : impl_Mod.f a b = some (modM a b) := by
  unfold impl_Mod.f
  rw [impl_InRange_f]
  unfold modM
  by_cases h : 1 ≤ b ∧ b ≤ 1000000000000
  · have : ¬ b = 0 := by omega
    simp [h, this]
  · simp [h]

/-! impl_Hash -/
theorem impl_Hash_ev (l : List Int) (hl : l.length ≤ 1099511627776) : Ev (fun k => impl_Hash.f k l) (hashM l) := by
  simp only [impl_Hash.f, hashM]
  refine loop_int l hl (P := fun i rest => ∀ d, Ev (fun k => impl_Hash.l0 k d l (l.length : Int) i) (rest.foldl hashStep d)) ?_ ?_ 11
  · intro d
    refine ev_succ (ev_of_eq fun k => ?_)
    simp only [impl_Hash.l0, Int.lt_irrefl, ↓reduceIte, List.foldl_nil]
  · intro i x rest h0 h1 hx _ hw ih d
    refine ev_succ ?_
    simp only [impl_Hash.l0, h1, h0, ↓reduceIte, hx, hw, impl_Mod_f, Option.bind_some]
    exact ih _

/-! impl_SeedSeal -/
theorem impl_SeedSeal_ev (a b c : Int) : Ev (fun k => impl_SeedSeal.f k a b c) (hashM [a, b, c]) := by
  simp only [impl_SeedSeal.f]
  exact Ev.bind (impl_Hash_ev [a, b, c] (by simp)) (Ev.now _)

theorem FnExactSeedSeal : laws_FnExactSeedSeal.Pure := by
  intro a b c _ _ _
  refine Ev.rounds (g := fun k => laws_FnExactSeedSeal.f k a b c) ?_
  simp only [laws_FnExactSeedSeal.f]
  exact Ev.bind (spec_SeedSeal_ev a b c) (Ev.bind (impl_SeedSeal_ev a b c) (ev_of_eq fun k => by simp))

end Go.Proofs.Ytlddpdodghokdaa.Pure
