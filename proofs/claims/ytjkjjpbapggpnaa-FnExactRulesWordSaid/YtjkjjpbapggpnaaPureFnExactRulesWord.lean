/- The program's RulesWord answers what the reference's answers, for all arguments. No condition but those that the statement itself names. -/
import Derived.Test.YtjkjjpbapggpnaaPFnExactRulesWordx2
import Derived.Test.YtjkjjpbapggpnaaLib
namespace Go.Proofs.Ytjkjjpbapggpnaa.Pure
open Go.RowKit Go.Proofs.Ytjkjjpbapggpnaa.PFnExactRulesWord Go.Proofs.YtjkjjpbapggpnaaW.PrintWords Go.Proofs.YtjkjjpbapggpnaaW.PrintLast Go.Proofs.YtjkjjpbapggpnaaW.PrintMore Go.Proofs.Ytjkjjpbapggpnaa.Lib
set_option linter.unusedVariables false
set_option linter.unusedSimpArgs false

/-! laws_eqIntS -/
theorem laws_eqIntS_ev (l : List Int) (hl : l.length ≤ 1099511627776) : Ev (fun k => laws_eqIntS.f k l l) true := by
  simp only [laws_eqIntS.f, ↓reduceIte]
  refine loop_int l hl (P := fun i _ => Ev (fun k => laws_eqIntS.l0 k l l i) true) ?_ ?_
  · refine ev_succ (ev_of_eq fun k => ?_)
    simp only [laws_eqIntS.l0, Int.lt_irrefl, ↓reduceIte]
  · intro i x rest h0 h1 hx _ hw ih
    refine ev_succ ?_
    simp only [laws_eqIntS.l0, h1, h0, ↓reduceIte, hw]
    exact ih

/-! laws_eqRules -/
theorem laws_eqRules_ev (a0 a1 : Int) (a2 a3 : Bool) (l4 l5 : List Int) (a6 a7 : Int) (h4 : l4.length ≤ 1099511627776) (h5 : l5.length ≤ 1099511627776) :
    Ev (fun k => laws_eqRules.f k a0 a1 a2 a3 l4 l5 a6 a7 a0 a1 a2 a3 l4 l5 a6 a7) true := by
  simp only [laws_eqRules.f, bne_self_eq_false, Bool.false_eq_true, ↓reduceIte]
  refine Ev.bind (laws_eqIntS_ev l4 h4) ?_
  simp only [↓reduceIte]
  refine Ev.bind (laws_eqIntS_ev l5 h5) ?_
  exact ev_of_eq fun k => by simp only [↓reduceIte]

/-! laws_szIntS -/
theorem laws_szIntS_f (l : List Int) (a : Int) (hl : l.length ≤ maxLen) (ha : 0 ≤ a) (ha2 : a ≤ 1048576) : laws_szIntS.f l a = some (if (l.length : Int) ≤ a then a - l.length else -1) := by
  unfold maxLen at hl
  unfold laws_szIntS.f
  rw [w64 (by omega) (by omega)]
  by_cases h : (l.length : Int) ≤ a
  · rw [if_pos h, if_neg (by omega)]
  · rw [if_neg h, if_pos (by omega)]

/-! laws_szRules -/
/-- Small rules: the bound on both patterns. -/
def RulesSmall (l4 l5 : List Int) (a : Int) : Prop := (l4.length : Int) + l5.length ≤ a
theorem laws_szRules_f (a0 a1 : Int) (a2 a3 : Bool) (l4 l5 : List Int) (a6 a7 a : Int) (h4 : l4.length ≤ maxLen) (h5 : l5.length ≤ maxLen) (ha : 0 ≤ a) (ha2 : a ≤ 1048576) :
    laws_szRules.f a0 a1 a2 a3 l4 l5 a6 a7 a = some (if (l4.length : Int) + l5.length ≤ a then a - l4.length - l5.length else -1) := by
  unfold laws_szRules.f
  rw [laws_szIntS_f l4 a h4 ha ha2]
  simp only [Option.bind_some]
  by_cases h : (l4.length : Int) ≤ a
  · have n1 : ¬ a - (l4.length : Int) < 0 := by omega
    simp only [h, n1, ↓reduceIte]
    rw [laws_szIntS_f l5 _ h5 (by omega) (by omega)]
    simp only [Option.bind_some]
    by_cases g : (l4.length : Int) + l5.length ≤ a
    · have g1 : (l5.length : Int) ≤ a - l4.length := by omega
      have n2 : ¬ a - (l4.length : Int) - l5.length < 0 := by omega
      simp only [g, g1, n2, ↓reduceIte]
    · have g1 : ¬ (l5.length : Int) ≤ a - l4.length := by omega
      have n3 : (-1 : Int) < 0 := by omega
      simp only [g, g1, n3, ↓reduceIte]
  · have g : ¬ (l4.length : Int) + l5.length ≤ a := by omega
    have n3 : (-1 : Int) < 0 := by omega
    simp only [h, g, n3, ↓reduceIte]

/-! spec_RulesWord -/
theorem spec_RulesWord_ev (a0 a1 : Int) (a2 a3 : Bool) (l4 l5 : List Int) (a6 a7 : Int) : Ev (fun k => spec_RulesWord.f k a0 a1 a2 a3 l4 l5 a6 a7) (rulesWordM a2 a3) := by
  simp only [spec_RulesWord.f]
  cases a2 <;> cases a3 <;> exact ev_succ (ev_of_eq fun k => by simp [spec_RulesWord.j0, rulesWordM])

/-! laws_toIntS -/
theorem laws_toIntS_ev (l : List Int) (hl : l.length ≤ 1099511627776) : Ev (fun k => laws_toIntS.f k l) l := by
  have e1 : (0 : Int) ≤ (l.length : Int) := by omega
  have e2 : ((l.length : Int) : Int).toNat ≤ 35184372088832 := by omega
  simp only [laws_toIntS.f, e1, e2, ↓reduceIte]
  refine loop_int_pre l hl (P := fun i pre rest => Ev (fun k => laws_toIntS.l0 k l (pre ++ List.replicate rest.length 0) i) l) ?_ ?_
  · refine ev_succ (ev_of_eq fun k => ?_)
    simp only [laws_toIntS.l0, Int.lt_irrefl, ↓reduceIte, List.length_nil, List.replicate_zero, List.append_nil]
  · intro i pre x rest hl' hi h0 h1 hx hw ih
    refine ev_succ ?_
    have h2 : i < ((pre ++ List.replicate (x :: rest).length 0 : List Int).length : Int) := by simp; omega
    simp only [laws_toIntS.l0, h1, h0, h2, ↓reduceIte, hx, hw]
    rw [List.length_cons, List.replicate_succ, set_mid pre _ i hi]
    exact ih

/-! laws_toRules -/
theorem laws_toRules_ev (a0 a1 : Int) (a2 a3 : Bool) (l4 l5 : List Int) (a6 a7 : Int) (h4 : l4.length ≤ 1099511627776) (h5 : l5.length ≤ 1099511627776) :
    Ev (fun k => laws_toRules.f k a0 a1 a2 a3 l4 l5 a6 a7) (a0, a1, a2, a3, l4, l5, a6, a7) := by
  simp only [laws_toRules.f]
  exact Ev.bind (laws_toIntS_ev l4 h4) (Ev.bind (laws_toIntS_ev l5 h5) (Ev.now _))

/-! impl_RulesWord -/
theorem impl_RulesWord_ev (a0 a1 : Int) (a2 a3 : Bool) (l4 l5 : List Int) (a6 a7 : Int) : Ev (fun k => impl_RulesWord.f k a0 a1 a2 a3 l4 l5 a6 a7) (rulesWordM a2 a3) := by
  simp only [impl_RulesWord.f]
  cases a2 <;> cases a3 <;> exact ev_succ (ev_of_eq fun k => by simp [impl_RulesWord.j0, rulesWordM])

/-- The pure statement. -/
def FnExactRulesWord_Stmt : Prop := ∀ (a0_0 : Int) (a0_1 : Int) (a0_2 : Bool) (a0_3 : Bool) (a0_4 : (List Int)) (a0_5 : (List Int)) (a0_6 : Int) (a0_7 : Int), (Lit.int .i64 a0_0).wf = true → (Lit.int .i64 a0_1).wf = true → a0_4.length ≤ maxLen → (∀ y ∈ a0_4, (Lit.int .i64 y).wf = true) → a0_5.length ≤ maxLen → (∀ y ∈ a0_5, (Lit.int .i64 y).wf = true) → (Lit.int .i64 a0_6).wf = true → (Lit.int .i64 a0_7).wf = true → ∃ k, laws_FnExactRulesWord.f k a0_0 a0_1 a0_2 a0_3 a0_4 a0_5 a0_6 a0_7 = some true
theorem FnExactRulesWord : FnExactRulesWord_Stmt := by
  intro a0 a1 a2 a3 l4 l5 a6 a7 _ _ m4 _ m5 _ _ _
  refine Ev.rounds (g := fun k => laws_FnExactRulesWord.f k a0 a1 a2 a3 l4 l5 a6 a7) ?_
  simp only [laws_FnExactRulesWord.f, laws_szRules_f a0 a1 a2 a3 l4 l5 a6 a7 1048576 m4 m5 (by omega) (by omega), Option.bind_some]
  by_cases h : (l4.length : Int) + l5.length ≤ 1048576
  · have n1 : ¬ (1048576 : Int) - (l4.length : Int) - l5.length < 0 := by omega
    have h4 : l4.length ≤ 1099511627776 := by omega
    have h5 : l5.length ≤ 1099511627776 := by omega
    simp only [h, n1, ↓reduceIte]
    refine Ev.bind (laws_toRules_ev a0 a1 a2 a3 l4 l5 a6 a7 h4 h5) ?_
    refine Ev.bind (spec_RulesWord_ev _ _ _ _ _ _ _ _) ?_
    refine Ev.bind (laws_toRules_ev a0 a1 a2 a3 l4 l5 a6 a7 h4 h5) ?_
    refine Ev.bind (impl_RulesWord_ev _ _ _ _ _ _ _ _) ?_
    simp only [↓reduceIte]
    refine Ev.bind (laws_toRules_ev a0 a1 a2 a3 l4 l5 a6 a7 h4 h5) ?_
    refine Ev.bind (laws_eqRules_ev a0 a1 a2 a3 l4 l5 a6 a7 h4 h5) ?_
    exact ev_of_eq fun k => by simp only [↓reduceIte]
  · have n3 : (-1 : Int) < 0 := by omega
    simp only [h, n3, ↓reduceIte]
    exact Ev.now _

end Go.Proofs.Ytjkjjpbapggpnaa.Pure
