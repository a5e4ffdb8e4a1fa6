/- The program's JointSeed answers what the reference's answers, for all arguments. No condition but those that the statement itself names. -/
import Derived.Test.YtlddpdodghokdaaPFnExactJointSeedx1
import Derived.Test.YtlddpdodghokdaaLib
namespace Go.Proofs.Ytlddpdodghokdaa.Pure
open Go.RowKit Go.Proofs.Ytlddpdodghokdaa.PFnExactJointSeed Go.Proofs.YtlddpdodghokdaaW.PrintWords Go.Proofs.YtlddpdodghokdaaW.PrintLast Go.Proofs.YtlddpdodghokdaaW.PrintMore Go.Proofs.Ytlddpdodghokdaa.Lib
set_option linter.unusedVariables false
set_option linter.unusedSimpArgs false

/-! laws_toIntS -/
theorem laws_toIntS_ev (l : List Int) (hl : l.length ≤ 1099511627776) : Ev (fun k => laws_toIntS.f k l) l := by
  have e1 : (0 : Int) ≤ (l.length : Int) := by omega
  have e2 : ((l.length : Int) : Int).toNat ≤ 35184372088832 := by omega
  simp only [laws_toIntS.f, e1, e2, ↓reduceIte]
  refine loop_int_pre l hl (P := fun i pre rest => Ev (fun k => laws_toIntS.l0 k l (pre ++ List.replicate rest.length 0) i) l) ?_ ?_
  · refine ev_succ (ev_of_eq fun k => ?_)
    simp only [laws_toIntS.l0, Int.lt_irrefl, ↓reduceIte, List.length_nil, List.replicate_zero, List.append_nil]
  · intro i pre x rest hl' hi h0 h1 hx hw ih
    refine ev_succ ?_
    have h2 : i < ((pre ++ List.replicate (x :: rest).length 0 : List Int).length : Int) := by simp; omega
    simp only [laws_toIntS.l0, h1, h0, h2, ↓reduceIte, hx, hw]
    rw [List.length_cons, List.replicate_succ, set_mid pre _ i hi]
    exact ih

/-! laws_eqIntS -/
theorem laws_eqIntS_ev (l : List Int) (hl : l.length ≤ 1099511627776) : Ev (fun k => laws_eqIntS.f k l l) true := by
  simp only [laws_eqIntS.f, ↓reduceIte]
  refine loop_int l hl (P := fun i _ => Ev (fun k => laws_eqIntS.l0 k l l i) true) ?_ ?_
  · refine ev_succ (ev_of_eq fun k => ?_)
    simp only [laws_eqIntS.l0, Int.lt_irrefl, ↓reduceIte]
  · intro i x rest h0 h1 hx _ hw ih
    refine ev_succ ?_
    simp only [laws_eqIntS.l0, h1, h0, ↓reduceIte, hw]
    exact ih

/-! spec_l1In -/
theorem spec_l1In_f (a b c : Int) : spec_l1In.f a b c = some (decide (b ≤ a ∧ a ≤ c)) := by
  unfold spec_l1In.f
  by_cases h : b ≤ a <;> simp [h]

/-! spec_Mod -/
theorem spec_Mod_f (a b : Int) : spec_Mod.f a b = some (modM a b) := by
  unfold spec_Mod.f
  rw [spec_l1In_f]
  unfold modM
  by_cases h : 1 ≤ b ∧ b ≤ 1000000000000
  · have : ¬ b = 0 := by omega
    simp [h, this]
  · simp [h]

/-! spec_JointSeed -/
theorem spec_JointSeed_ev (l : List Int) (hl : l.length ≤ 1099511627776) : Ev (fun k => spec_JointSeed.f k l) (jointM l) := by
  simp only [spec_JointSeed.f, jointM]
  refine loop_int l hl (P := fun i rest => ∀ d, Ev (fun k => spec_JointSeed.l0 k l d i) (rest.foldl jointStep d)) ?_ ?_ 0
  · intro d
    refine ev_succ (ev_of_eq fun k => ?_)
    simp only [spec_JointSeed.l0, Int.lt_irrefl, ↓reduceIte, List.foldl_nil]
  · intro i x rest h0 h1 hx _ hw ih d
    refine ev_succ ?_
    simp only [spec_JointSeed.l0, h1, h0, ↓reduceIte, hx, hw, spec_Mod_f, Option.bind_some]
    exact ih _

/-! impl_InRange -/
theorem impl_InRange_f (a b c : Int) : impl_InRange.f a b c = some (decide (b ≤ a ∧ a ≤ c)) := by
  unfold impl_InRange.f
  by_cases h : b ≤ a <;> simp [h]

/-! impl_Mod -/
theorem impl_Mod_f (a b : Int) : impl_Mod.f a b = some (modM a b) := by
  unfold impl_Mod.f
  rw [impl_InRange_f]
  unfold modM
  by_cases h : 1 ≤ b ∧ b ≤ 1000000000000
  · have : ¬ b = 0 := by omega
    simp [h, this]
  · simp [h]

/-! impl_JointSeed -/
theorem impl_JointSeed_ev (l : List Int) (hl : l.length ≤ 1099511627776) : Ev (fun k => impl_JointSeed.f k l) (jointM l) := by
  simp only [impl_JointSeed.f, jointM]
  refine loop_int l hl (P := fun i rest => ∀ d, Ev (fun k => impl_JointSeed.l0 k d l (l.length : Int) i) (rest.foldl jointStep d)) ?_ ?_ 0
  · intro d
    refine ev_succ (ev_of_eq fun k => ?_)
    simp only [impl_JointSeed.l0, Int.lt_irrefl, ↓reduceIte, List.foldl_nil]
  · intro i x rest h0 h1 hx _ hw ih d
    refine ev_succ ?_
    simp only [impl_JointSeed.l0, h1, h0, ↓reduceIte, hx, hw, impl_Mod_f, Option.bind_some]
    exact ih _

theorem FnExactJointSeed : laws_FnExactJointSeed.Pure := by
  intro l h1 h2 h3
  refine Ev.rounds (g := fun k => laws_FnExactJointSeed.f k l) ?_
  by_cases hb : (l.length : Int) > 1048576
  · exact ev_of_eq fun k => by simp only [laws_FnExactJointSeed.f, hb, ↓reduceIte]
  · have hl : l.length ≤ 1099511627776 := by omega
    simp only [laws_FnExactJointSeed.f, hb, ↓reduceIte]
    refine Ev.bind (laws_toIntS_ev l hl) ?_
    refine Ev.bind (spec_JointSeed_ev l hl) ?_
    refine Ev.bind (laws_toIntS_ev l hl) ?_
    refine Ev.bind (impl_JointSeed_ev l hl) ?_
    simp only [bne_self_eq_false, Bool.false_eq_true, ↓reduceIte]
    refine Ev.bind (laws_toIntS_ev l hl) ?_
    refine Ev.bind (laws_eqIntS_ev l hl) ?_
    exact ev_of_eq fun k => by simp

end Go.Proofs.Ytlddpdodghokdaa.Pure
