/- The program's AreOpened answers what the reference's answers, for all arguments. No condition but those that the statement itself names. -/
import Derived.Test.YtjkjjpbapggpnaaPFnExactAreOpenedx4
import Derived.Test.YtjkjjpbapggpnaaLib
namespace Go.Proofs.Ytjkjjpbapggpnaa.Pure
open Go.RowKit Go.Proofs.Ytjkjjpbapggpnaa.PFnExactAreOpened Go.Proofs.YtjkjjpbapggpnaaW.PrintWords Go.Proofs.YtjkjjpbapggpnaaW.PrintLast Go.Proofs.YtjkjjpbapggpnaaW.PrintMore Go.Proofs.Ytjkjjpbapggpnaa.Lib
set_option linter.unusedVariables false
set_option linter.unusedSimpArgs false

/-! spec_l1In -/
theorem spec_l1In_f (a b c : Int) : spec_l1In.f a b c = some (decide (b ≤ a ∧ a ≤ c)) := by
  unfold spec_l1In.f
  by_cases h : b ≤ a <;> simp [h]

/-! spec_Mod -/
theorem spec_Mod_f (a b : Int) : spec_Mod.f a b = some (modM a b) := by
  unfold spec_Mod.f
  rw [spec_l1In_f]
  unfold modM
  by_cases h : 1 ≤ b ∧ b ≤ 1000000000000
  · have : ¬ b = 0 := by omega
    simp [h, this]
  · simp [h]

/-! spec_Hash -/
theorem spec_Hash_ev (l : List Int) (hl : l.length ≤ 1099511627776) : Ev (fun k => spec_Hash.f k l) (hashM l) := by
  simp only [spec_Hash.f, hashM]
  refine loop_int l hl (P := fun i rest => ∀ d, Ev (fun k => spec_Hash.l0 k l d i) (rest.foldl hashStep d)) ?_ ?_ 11
  · intro d
    refine ev_succ (ev_of_eq fun k => ?_)
    simp only [spec_Hash.l0, Int.lt_irrefl, ↓reduceIte, List.foldl_nil]
  · intro i x rest h0 h1 hx _ hw ih d
    refine ev_succ ?_
    simp only [spec_Hash.l0, h1, h0, ↓reduceIte, hx, hw, spec_Mod_f, Option.bind_some]
    exact ih _

/-! spec_SeedSeal -/
theorem spec_SeedSeal_ev (a b c : Int) : Ev (fun k => spec_SeedSeal.f k a b c) (hashM [a, b, c]) := by
  simp only [spec_SeedSeal.f]
  exact Ev.bind (spec_Hash_ev [a, b, c] (by simp)) (Ev.now _)

/-! spec_IsOpened -/
theorem spec_IsOpened_ev (a b c d : Int) : Ev (fun k => spec_IsOpened.f k a b c d) (decide (0 ≤ b ∧ b ≤ 1000000) && decide (0 ≤ c ∧ c ≤ 1000000) && (hashM [a, b, c] == d)) := by
  simp only [spec_IsOpened.f, spec_l1In_f, Option.bind_some]
  by_cases h1 : 0 ≤ b ∧ b ≤ 1000000
  · by_cases h2 : 0 ≤ c ∧ c ≤ 1000000
    · simp only [h1, h2, and_self, decide_true, ↓reduceIte, Bool.true_and]
      exact Ev.bind (spec_SeedSeal_ev a b c) (Ev.now _)
    · refine ev_of_eq fun k => ?_
      simp [h1, h2]
  · refine ev_of_eq fun k => ?_
    simp [h1]

/-! spec_AreOpened -/
theorem spec_AreOpened_ev (a b c : List Int) : Ev (fun k => spec_AreOpened.f k a b c) (areOpenedM a b c) := by
  simp only [spec_AreOpened.f, spec_l1In_f, Option.bind_some, areOpenedM]
  by_cases h1 : 1 ≤ a.length ∧ a.length ≤ 6
  · have h1' : (1 : Int) ≤ (a.length : Int) ∧ (a.length : Int) ≤ 6 := by omega
    by_cases h2 : b.length = a.length
    · have h2' : (b.length : Int) = (a.length : Int) := by omega
      refine ev_eq (r := decide (c.length = a.length) && openF b c 0 a) ?_ (by simp [h1, h2])
      simp only [h1', h2', and_self, decide_true, ↓reduceIte]
      refine ev_succ ?_
      by_cases h3 : c.length = a.length
      · have h3' : ((c.length : Int) != (a.length : Int)) = false := by simp [h3]
        refine ev_eq (r := openF b c 0 a) ?_ (by simp [h3])
        simp only [spec_AreOpened.j0, h3', Bool.false_eq_true, ↓reduceIte]
        refine loop_int a (by omega) (P := fun i rest => Ev (fun k => (spec_AreOpened.l0 k a b c i)) (openF b c i rest)) ?_ ?_
        · refine ev_succ (ev_of_eq fun k => ?_)
          simp only [spec_AreOpened.l0, Int.lt_irrefl, ↓reduceIte, openF]
        · intro i x rest h0 h4 hx _ hw ih
          refine ev_succ ?_
          have h5 : i < (b.length : Int) := by omega
          have h6 : i < (c.length : Int) := by omega
          simp only [spec_AreOpened.l0, h4, h0, h5, h6, ↓reduceIte, hx, hw, openF]
          refine Ev.bind (spec_IsOpened_ev _ _ _ _) ?_
          cases decide (0 ≤ rd b i ∧ rd b i ≤ 1000000) && decide (0 ≤ rd c i ∧ rd c i ≤ 1000000) && (hashM [i, rd b i, rd c i] == x)
          · simp only [Bool.false_eq_true, ↓reduceIte, Bool.false_and]
            exact Ev.now _
          · simp only [↓reduceIte, Bool.true_and]
            exact ih
      · have h3' : ((c.length : Int) != (a.length : Int)) = true := by simp; omega
        refine ev_of_eq fun k => ?_
        simp only [spec_AreOpened.j0, h3', ↓reduceIte, h3, decide_false, Bool.false_and]
    · have h2' : ¬ (b.length : Int) = (a.length : Int) := by omega
      refine ev_succ (ev_of_eq fun k => ?_)
      simp only [h1', h2', and_self, decide_true, ↓reduceIte, spec_AreOpened.j0]
      simp [h2]
  · have h1' : ¬ ((1 : Int) ≤ (a.length : Int) ∧ (a.length : Int) ≤ 6) := by omega
    refine ev_succ (ev_of_eq fun k => ?_)
    simp only [h1', decide_false, Bool.false_eq_true, ↓reduceIte, spec_AreOpened.j0, h1, Bool.false_and]

/-! laws_toIntS -/
theorem laws_toIntS_ev (l : List Int) (hl : l.length ≤ 1099511627776) : Ev (fun k => laws_toIntS.f k l) l := by
  have e1 : (0 : Int) ≤ (l.length : Int) := by omega
  have e2 : ((l.length : Int) : Int).toNat ≤ 35184372088832 := by omega
  simp only [laws_toIntS.f, e1, e2, ↓reduceIte]
  refine loop_int_pre l hl (P := fun i pre rest => Ev (fun k => laws_toIntS.l0 k l (pre ++ List.replicate rest.length 0) i) l) ?_ ?_
  · refine ev_succ (ev_of_eq fun k => ?_)
    simp only [laws_toIntS.l0, Int.lt_irrefl, ↓reduceIte, List.length_nil, List.replicate_zero, List.append_nil]
  · intro i pre x rest hl' hi h0 h1 hx hw ih
    refine ev_succ ?_
    have h2 : i < ((pre ++ List.replicate (x :: rest).length 0 : List Int).length : Int) := by simp; omega
    simp only [laws_toIntS.l0, h1, h0, h2, ↓reduceIte, hx, hw]
    rw [List.length_cons, List.replicate_succ, set_mid pre _ i hi]
    exact ih

/-! impl_InRange -/
theorem impl_InRange_f (a b c : Int) : impl_InRange.f a b c = some (decide (b ≤ a ∧ a ≤ c)) := by
  unfold impl_InRange.f
  by_cases h : b ≤ a <;> simp [h]

/-! impl_Mod -/
theorem impl_Mod_f (a b : Int) : impl_Mod.f a b = some (modM a b) := by
  unfold impl_Mod.f
  rw [impl_InRange_f]
  unfold modM
  by_cases h : 1 ≤ b ∧ b ≤ 1000000000000
  · have : ¬ b = 0 := by omega
    simp [h, this]
  · simp [h]

/-! impl_Hash -/
theorem impl_Hash_ev (l : List Int) (hl : l.length ≤ 1099511627776) : Ev (fun k => impl_Hash.f k l) (hashM l) := by
  simp only [impl_Hash.f, hashM]
  refine loop_int l hl (P := fun i rest => ∀ d, Ev (fun k => impl_Hash.l0 k d l (l.length : Int) i) (rest.foldl hashStep d)) ?_ ?_ 11
  · intro d
    refine ev_succ (ev_of_eq fun k => ?_)
    simp only [impl_Hash.l0, Int.lt_irrefl, ↓reduceIte, List.foldl_nil]
  · intro i x rest h0 h1 hx _ hw ih d
    refine ev_succ ?_
    simp only [impl_Hash.l0, h1, h0, ↓reduceIte, hx, hw, impl_Mod_f, Option.bind_some]
    exact ih _

/-! impl_SeedSeal -/
theorem impl_SeedSeal_ev (a b c : Int) : Ev (fun k => impl_SeedSeal.f k a b c) (hashM [a, b, c]) := by
  simp only [impl_SeedSeal.f]
  exact Ev.bind (impl_Hash_ev [a, b, c] (by simp)) (Ev.now _)

/-! impl_IsOpened -/
theorem impl_IsOpened_ev (a b c d : Int) : Ev (fun k => impl_IsOpened.f k a b c d) (decide (0 ≤ b ∧ b ≤ 1000000) && decide (0 ≤ c ∧ c ≤ 1000000) && (hashM [a, b, c] == d)) := by
  simp only [impl_IsOpened.f, impl_InRange_f, Option.bind_some]
  by_cases h1 : 0 ≤ b ∧ b ≤ 1000000
  · by_cases h2 : 0 ≤ c ∧ c ≤ 1000000
    · simp only [h1, h2, and_self, decide_true, ↓reduceIte, Bool.true_and]
      exact Ev.bind (impl_SeedSeal_ev a b c) (Ev.now _)
    · refine ev_of_eq fun k => ?_
      simp [h1, h2]
  · refine ev_of_eq fun k => ?_
    simp [h1]

/-! impl_AreOpened -/
theorem impl_AreOpened_ev (a b c : List Int) : Ev (fun k => impl_AreOpened.f k a b c) (areOpenedM a b c) := by
  simp only [impl_AreOpened.f, impl_InRange_f, Option.bind_some, areOpenedM]
  by_cases h1 : 1 ≤ a.length ∧ a.length ≤ 6
  · have h1' : (1 : Int) ≤ (a.length : Int) ∧ (a.length : Int) ≤ 6 := by omega
    by_cases h2 : b.length = a.length
    · have h2' : (b.length : Int) = (a.length : Int) := by omega
      refine ev_eq (r := decide (c.length = a.length) && openF b c 0 a) ?_ (by simp [h1, h2])
      simp only [h1', h2', and_self, decide_true, ↓reduceIte]
      refine ev_succ ?_
      by_cases h3 : c.length = a.length
      · have h3' : ((c.length : Int) != (a.length : Int)) = false := by simp [h3]
        refine ev_eq (r := openF b c 0 a) ?_ (by simp [h3])
        simp only [impl_AreOpened.j0, h3', Bool.false_eq_true, ↓reduceIte]
        refine loop_int a (by omega) (P := fun i rest => Ev (fun k => (impl_AreOpened.l0 k a b c (a.length : Int) i)) (openF b c i rest)) ?_ ?_
        · refine ev_succ (ev_of_eq fun k => ?_)
          simp only [impl_AreOpened.l0, Int.lt_irrefl, ↓reduceIte, openF]
        · intro i x rest h0 h4 hx _ hw ih
          refine ev_succ ?_
          have h5 : i < (b.length : Int) := by omega
          have h6 : i < (c.length : Int) := by omega
          simp only [impl_AreOpened.l0, h4, h0, h5, h6, ↓reduceIte, hx, hw, openF]
          refine Ev.bind (impl_IsOpened_ev _ _ _ _) ?_
          cases decide (0 ≤ rd b i ∧ rd b i ≤ 1000000) && decide (0 ≤ rd c i ∧ rd c i ≤ 1000000) && (hashM [i, rd b i, rd c i] == x)
          · simp only [Bool.false_eq_true, ↓reduceIte, Bool.false_and]
            exact Ev.now _
          · simp only [↓reduceIte, Bool.true_and]
            exact ih
      · have h3' : ((c.length : Int) != (a.length : Int)) = true := by simp; omega
        refine ev_of_eq fun k => ?_
        simp only [impl_AreOpened.j0, h3', ↓reduceIte, h3, decide_false, Bool.false_and]
    · have h2' : ¬ (b.length : Int) = (a.length : Int) := by omega
      refine ev_succ (ev_of_eq fun k => ?_)
      simp only [h1', h2', and_self, decide_true, ↓reduceIte, impl_AreOpened.j0]
      simp [h2]
  · have h1' : ¬ ((1 : Int) ≤ (a.length : Int) ∧ (a.length : Int) ≤ 6) := by omega
    refine ev_succ (ev_of_eq fun k => ?_)
    simp only [h1', decide_false, Bool.false_eq_true, ↓reduceIte, impl_AreOpened.j0, h1, Bool.false_and]

/-! laws_eqIntS -/
theorem laws_eqIntS_ev (l : List Int) (hl : l.length ≤ 1099511627776) : Ev (fun k => laws_eqIntS.f k l l) true := by
  simp only [laws_eqIntS.f, ↓reduceIte]
  refine loop_int l hl (P := fun i _ => Ev (fun k => laws_eqIntS.l0 k l l i) true) ?_ ?_
  · refine ev_succ (ev_of_eq fun k => ?_)
    simp only [laws_eqIntS.l0, Int.lt_irrefl, ↓reduceIte]
  · intro i x rest h0 h1 hx _ hw ih
    refine ev_succ ?_
    simp only [laws_eqIntS.l0, h1, h0, ↓reduceIte, hw]
    exact ih

theorem FnExactAreOpened : laws_FnExactAreOpened.Pure := by
  intro a b c _ _ _ _ _ _ _ _ _
  refine Ev.rounds (g := fun k => laws_FnExactAreOpened.f k a b c) ?_
  by_cases h1 : (a.length : Int) > 1048576
  · exact ev_of_eq fun k => by simp only [laws_FnExactAreOpened.f, h1, ↓reduceIte]
  by_cases h2 : (b.length : Int) > 1048576
  · exact ev_of_eq fun k => by simp only [laws_FnExactAreOpened.f, h1, h2, ↓reduceIte]
  by_cases h3 : (c.length : Int) > 1048576
  · exact ev_of_eq fun k => by simp only [laws_FnExactAreOpened.f, h1, h2, h3, ↓reduceIte]
  have ha : a.length ≤ 1099511627776 := by omega
  have hb : b.length ≤ 1099511627776 := by omega
  have hc : c.length ≤ 1099511627776 := by omega
  simp only [laws_FnExactAreOpened.f, h1, h2, h3, ↓reduceIte]
  refine Ev.bind (laws_toIntS_ev a ha) ?_
  refine Ev.bind (laws_toIntS_ev b hb) ?_
  refine Ev.bind (laws_toIntS_ev c hc) ?_
  refine Ev.bind (spec_AreOpened_ev a b c) ?_
  refine Ev.bind (laws_toIntS_ev a ha) ?_
  refine Ev.bind (laws_toIntS_ev b hb) ?_
  refine Ev.bind (laws_toIntS_ev c hc) ?_
  refine Ev.bind (impl_AreOpened_ev a b c) ?_
  simp only [bne_self_eq_false, Bool.false_eq_true, ↓reduceIte]
  refine Ev.bind (laws_toIntS_ev a ha) ?_
  refine Ev.bind (laws_eqIntS_ev a ha) ?_
  simp only [↓reduceIte]
  refine Ev.bind (laws_toIntS_ev b hb) ?_
  refine Ev.bind (laws_eqIntS_ev b hb) ?_
  simp only [↓reduceIte]
  refine Ev.bind (laws_toIntS_ev c hc) ?_
  refine Ev.bind (laws_eqIntS_ev c hc) ?_
  exact ev_of_eq fun k => by simp

end Go.Proofs.Ytjkjjpbapggpnaa.Pure
