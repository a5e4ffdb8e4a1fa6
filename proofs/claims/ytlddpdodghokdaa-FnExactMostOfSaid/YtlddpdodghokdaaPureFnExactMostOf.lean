/- The program's MostOf answers what the reference's answers, for all arguments. No condition but those that the statement itself names. -/
import Derived.Test.YtlddpdodghokdaaPFnExactMostOfx1
import Derived.Test.YtlddpdodghokdaaLib
namespace Go.Proofs.Ytlddpdodghokdaa.Pure
open Go.RowKit Go.Proofs.Ytlddpdodghokdaa.PFnExactMostOf Go.Proofs.YtlddpdodghokdaaW.PrintWords Go.Proofs.YtlddpdodghokdaaW.PrintLast Go.Proofs.YtlddpdodghokdaaW.PrintMore Go.Proofs.Ytlddpdodghokdaa.Lib
set_option linter.unusedVariables false
set_option linter.unusedSimpArgs false

/-! spec_MostOf -/
theorem spec_MostOf_ev (l : List Int) (hl : l.length ≤ 1099511627776) : Ev (fun k => spec_MostOf.f k l) (mostF l (-1) 0 l) := by
  simp only [spec_MostOf.f]
  refine loop_int l hl (P := fun i rest => ∀ best, best < (l.length : Int) → Ev (fun k => spec_MostOf.l0 k l best i) (mostF l best i rest)) ?_ ?_ (-1) (by omega)
  · intro best _
    refine ev_succ (ev_of_eq fun k => ?_)
    simp only [spec_MostOf.l0, Int.lt_irrefl, ↓reduceIte, mostF]
  · intro i x rest h0 h1 hx _ hw ih best hb
    refine ev_succ ?_
    simp only [spec_MostOf.l0, h1, h0, ↓reduceIte, hx, hw, mostF]
    by_cases h : best < 0
    · simp only [h, ↓reduceIte]
      exact ih i h1
    · have h' : 0 ≤ best := by omega
      simp only [h, h', hb, ↓reduceIte]
      by_cases g : x > rd l best
      · simp only [g, ↓reduceIte]
        exact ih i h1
      · simp only [g, ↓reduceIte]
        exact ih best hb

/-! laws_toIntS -/
theorem laws_toIntS_ev (l : List Int) (hl : l.length ≤ 1099511627776) : Ev (fun k => laws_toIntS.f k l) l := by
  have e1 : (0 : Int) ≤ (l.length : Int) := by omega
  have e2 : ((l.length : Int) : Int).toNat ≤ 35184372088832 := by omega
  simp only [laws_toIntS.f, e1, e2, ↓reduceIte]
  refine loop_int_pre l hl (P := fun i pre rest => Ev (fun k => laws_toIntS.l0 k l (pre ++ List.replicate rest.length 0) i) l) ?_ ?_
  · refine ev_succ (ev_of_eq fun k => ?_)
    simp only [laws_toIntS.l0, Int.lt_irrefl, ↓reduceIte, List.length_nil, List.replicate_zero, List.append_nil]
  · intro i pre x rest hl' hi h0 h1 hx hw ih
    refine ev_succ ?_
    have h2 : i < ((pre ++ List.replicate (x :: rest).length 0 : List Int).length : Int) := by simp; omega
    simp only [laws_toIntS.l0, h1, h0, h2, ↓reduceIte, hx, hw]
    rw [List.length_cons, List.replicate_succ, set_mid pre _ i hi]
    exact ih

/-! impl_MostOf -/
theorem impl_MostOf_ev (l : List Int) (hl : l.length ≤ 1099511627776) : Ev (fun k => impl_MostOf.f k l) (mostF l (-1) 0 l) := by
  simp only [impl_MostOf.f]
  refine loop_int l hl (P := fun i rest => ∀ best, best < (l.length : Int) → Ev (fun k => impl_MostOf.l0 k l best l (l.length : Int) i) (mostF l best i rest)) ?_ ?_ (-1) (by omega)
  · intro best _
    refine ev_succ (ev_of_eq fun k => ?_)
    simp only [impl_MostOf.l0, Int.lt_irrefl, ↓reduceIte, mostF]
  · intro i x rest h0 h1 hx _ hw ih best hb
    refine ev_succ ?_
    simp only [impl_MostOf.l0, h1, h0, ↓reduceIte, hx, hw, mostF]
    by_cases h : best < 0
    · simp only [h, ↓reduceIte]
      exact ih i h1
    · have h' : 0 ≤ best := by omega
      simp only [h, h', hb, ↓reduceIte]
      by_cases g : x > rd l best
      · simp only [g, ↓reduceIte]
        exact ih i h1
      · simp only [g, ↓reduceIte]
        exact ih best hb

/-! laws_eqIntS -/
theorem laws_eqIntS_ev (l : List Int) (hl : l.length ≤ 1099511627776) : Ev (fun k => laws_eqIntS.f k l l) true := by
  simp only [laws_eqIntS.f, ↓reduceIte]
  refine loop_int l hl (P := fun i _ => Ev (fun k => laws_eqIntS.l0 k l l i) true) ?_ ?_
  · refine ev_succ (ev_of_eq fun k => ?_)
    simp only [laws_eqIntS.l0, Int.lt_irrefl, ↓reduceIte]
  · intro i x rest h0 h1 hx _ hw ih
    refine ev_succ ?_
    simp only [laws_eqIntS.l0, h1, h0, ↓reduceIte, hw]
    exact ih

theorem FnExactMostOf : laws_FnExactMostOf.Pure := by
  intro l h1 h2 h3
  refine Ev.rounds (g := fun k => laws_FnExactMostOf.f k l) ?_
  by_cases hb : (l.length : Int) > 1048576
  · exact ev_of_eq fun k => by simp only [laws_FnExactMostOf.f, hb, ↓reduceIte]
  · have hl : l.length ≤ 1099511627776 := by omega
    simp only [laws_FnExactMostOf.f, hb, ↓reduceIte]
    refine Ev.bind (laws_toIntS_ev l hl) ?_
    refine Ev.bind (spec_MostOf_ev l hl) ?_
    refine Ev.bind (laws_toIntS_ev l hl) ?_
    refine Ev.bind (impl_MostOf_ev l hl) ?_
    simp only [bne_self_eq_false, Bool.false_eq_true, ↓reduceIte]
    refine Ev.bind (laws_toIntS_ev l hl) ?_
    refine Ev.bind (laws_eqIntS_ev l hl) ?_
    exact ev_of_eq fun k => by simp

end Go.Proofs.Ytlddpdodghokdaa.Pure
