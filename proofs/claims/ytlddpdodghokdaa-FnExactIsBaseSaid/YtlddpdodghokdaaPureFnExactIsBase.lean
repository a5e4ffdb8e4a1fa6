/- The program's IsBase answers what the reference's answers, for all arguments. No condition but those that the statement itself names. -/
import Derived.Test.YtlddpdodghokdaaPFnExactIsBasex1
import Derived.Test.YtlddpdodghokdaaLib
namespace Go.Proofs.Ytlddpdodghokdaa.Pure
open Go.RowKit Go.Proofs.Ytlddpdodghokdaa.PFnExactIsBase Go.Proofs.YtlddpdodghokdaaW.PrintWords Go.Proofs.YtlddpdodghokdaaW.PrintLast Go.Proofs.YtlddpdodghokdaaW.PrintMore Go.Proofs.Ytlddpdodghokdaa.Lib
set_option linter.unusedVariables false
set_option linter.unusedSimpArgs false

/-! laws_toIntS -/
theorem laws_toIntS_ev (l : List Int) (hl : l.length ≤ 1099511627776) : Ev (fun k => laws_toIntS.f k l) l := by
  have e1 : (0 : Int) ≤ (l.length : Int) := by omega
  have e2 : ((l.length : Int) : Int).toNat ≤ 35184372088832 := by omega
  simp only [laws_toIntS.f, e1, e2, ↓reduceIte]
  refine loop_int_pre l hl (P := fun i pre rest => Ev (fun k => laws_toIntS.l0 k l (pre ++ List.replicate rest.length 0) i) l) ?_ ?_
  · refine ev_succ (ev_of_eq fun k => ?_)
    simp only [laws_toIntS.l0, Int.lt_irrefl, ↓reduceIte, List.length_nil, List.replicate_zero, List.append_nil]
  · intro i pre x rest hl' hi h0 h1 hx hw ih
    refine ev_succ ?_
    have h2 : i < ((pre ++ List.replicate (x :: rest).length 0 : List Int).length : Int) := by simp; omega
    simp only [laws_toIntS.l0, h1, h0, h2, ↓reduceIte, hx, hw]
    rw [List.length_cons, List.replicate_succ, set_mid pre _ i hi]
    exact ih

/-! laws_eqIntS -/
theorem laws_eqIntS_ev (l : List Int) (hl : l.length ≤ 1099511627776) : Ev (fun k => laws_eqIntS.f k l l) true := by
  simp only [laws_eqIntS.f, ↓reduceIte]
  refine loop_int l hl (P := fun i _ => Ev (fun k => laws_eqIntS.l0 k l l i) true) ?_ ?_
  · refine ev_succ (ev_of_eq fun k => ?_)
    simp only [laws_eqIntS.l0, Int.lt_irrefl, ↓reduceIte]
  · intro i x rest h0 h1 hx _ hw ih
    refine ev_succ ?_
    simp only [laws_eqIntS.l0, h1, h0, ↓reduceIte, hw]
    exact ih

/-! spec_l1In -/
theorem spec_l1In_f (a b c : Int) : spec_l1In.f a b c = some (decide (b ≤ a ∧ a ≤ c)) := by
  unfold spec_l1In.f
  by_cases h : b ≤ a <;> simp [h]

/-! spec_IsBase -/
theorem spec_IsBase_ev (l : List Int) (hl : l.length ≤ 1099511627776) : Ev (fun k => spec_IsBase.f k l) (isBaseM l) := by
  simp only [spec_IsBase.f, isBaseM]
  have := loop_int l hl (P := fun i rest => Ev (fun k => spec_IsBase.l0 k l i) (decide (l.length = 4) && rest.all (fun x => decide (0 ≤ x ∧ x ≤ 13)))) ?_ ?_
  · exact this
  · refine ev_succ (ev_of_eq fun k => ?_)
    simp only [spec_IsBase.l0, Int.lt_irrefl, ↓reduceIte, List.all_nil, Bool.and_true]
    congr 1
    rw [Bool.eq_iff_iff]
    simp
    omega
  · intro i x rest h0 h1 hx _ hw ih
    refine ev_succ ?_
    simp only [spec_IsBase.l0, h1, h0, ↓reduceIte, hx, hw, spec_l1In_f, Option.bind_some]
    by_cases h : 0 ≤ x ∧ x ≤ 13
    · simp only [h, and_self, decide_true, ↓reduceIte, List.all_cons, Bool.true_and]
      exact ih
    · refine ev_of_eq fun k => ?_
      simp [h]

/-! impl_InRange -/
theorem impl_InRange_f (a b c : Int) : impl_InRange.f a b c = some (decide (b ≤ a ∧ a ≤ c)) := by
  unfold impl_InRange.f
  by_cases h : b ≤ a <;> simp [h]

/-! impl_allIn -/
theorem impl_allIn_ev (l : List Int) (hl : l.length ≤ 1099511627776) (a b : Int) : Ev (fun k => impl_allIn.f k l a b) (l.all (fun x => decide (a ≤ x ∧ x ≤ b))) := by
  simp only [impl_allIn.f]
  refine loop_int l hl (P := fun i rest => Ev (fun k => impl_allIn.l0 k a b l (l.length : Int) i) (rest.all (fun x => decide (a ≤ x ∧ x ≤ b)))) ?_ ?_
  · refine ev_succ (ev_of_eq fun k => ?_)
    simp only [impl_allIn.l0, Int.lt_irrefl, ↓reduceIte, List.all_nil]
  · intro i x rest h0 h1 hx _ hw ih
    refine ev_succ ?_
    simp only [impl_allIn.l0, h1, h0, ↓reduceIte, hx, hw, impl_InRange_f, Option.bind_some]
    by_cases h : a ≤ x ∧ x ≤ b
    · simp only [h, and_self, decide_true, ↓reduceIte, List.all_cons, Bool.true_and]
      exact ih
    · refine ev_of_eq fun k => ?_
      simp [h]

/-! impl_IsBase -/
theorem impl_IsBase_ev (l : List Int) (hl : l.length ≤ 1099511627776) : Ev (fun k => impl_IsBase.f k l) (isBaseM l) := by
  simp only [impl_IsBase.f, isBaseM]
  by_cases h : l.length = 4
  · have h' : (l.length : Int) = 4 := by omega
    simp only [h', h, ↓reduceIte, decide_true, Bool.true_and]
    exact Ev.bind (impl_allIn_ev l hl 0 13) (Ev.now _)
  · have h' : ¬ (l.length : Int) = 4 := by omega
    refine ev_of_eq fun k => ?_
    simp [h, h']

theorem FnExactIsBase : laws_FnExactIsBase.Pure := by
  intro l h1 h2 h3
  refine Ev.rounds (g := fun k => laws_FnExactIsBase.f k l) ?_
  by_cases hb : (l.length : Int) > 1048576
  · exact ev_of_eq fun k => by simp only [laws_FnExactIsBase.f, hb, ↓reduceIte]
  · have hl : l.length ≤ 1099511627776 := by omega
    simp only [laws_FnExactIsBase.f, hb, ↓reduceIte]
    refine Ev.bind (laws_toIntS_ev l hl) ?_
    refine Ev.bind (spec_IsBase_ev l hl) ?_
    refine Ev.bind (laws_toIntS_ev l hl) ?_
    refine Ev.bind (impl_IsBase_ev l hl) ?_
    simp only [bne_self_eq_false, Bool.false_eq_true, ↓reduceIte]
    refine Ev.bind (laws_toIntS_ev l hl) ?_
    refine Ev.bind (laws_eqIntS_ev l hl) ?_
    exact ev_of_eq fun k => by simp

end Go.Proofs.Ytlddpdodghokdaa.Pure
