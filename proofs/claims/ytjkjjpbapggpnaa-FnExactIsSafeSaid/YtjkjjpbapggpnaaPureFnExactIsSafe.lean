/- The program's IsSafe answers what the reference's answers, for all arguments. No condition but those that the statement itself names. -/
import Derived.Test.YtjkjjpbapggpnaaQFnExactIsSafex1
import Derived.Test.YtjkjjpbapggpnaaLib
namespace Go.Proofs.Ytjkjjpbapggpnaa.Pure
open Go.RowKit Go.Proofs.Ytjkjjpbapggpnaa.QFnExactIsSafe Go.Proofs.YtjkjjpbapggpnaaW.PrintWords Go.Proofs.YtjkjjpbapggpnaaW.PrintLast Go.Proofs.YtjkjjpbapggpnaaW.PrintMore Go.Proofs.Ytjkjjpbapggpnaa.Lib
set_option linter.unusedVariables false
set_option linter.unusedSimpArgs false

/-! laws_toIntS -/
theorem laws_toIntS_ev (l : List Int) (hl : l.length ≤ 1099511627776) : Ev (fun k => laws_toIntS.f k l) l := by
  have e1 : (0 : Int) ≤ (l.length : Int) := by omega
  have e2 : ((l.length : Int) : Int).toNat ≤ 35184372088832 := by omega
  simp only [laws_toIntS.f, e1, e2, ↓reduceIte]
  refine loop_int_pre l hl (P := fun i pre rest => Ev (fun k => laws_toIntS.l0 k l (pre ++ List.replicate rest.length 0) i) l) ?_ ?_
  · refine ev_succ (ev_of_eq fun k => ?_)
    simp only [laws_toIntS.l0, Int.lt_irrefl, ↓reduceIte, List.length_nil, List.replicate_zero, List.append_nil]
  · intro i pre x rest hl' hi h0 h1 hx hw ih
    refine ev_succ ?_
    have h2 : i < ((pre ++ List.replicate (x :: rest).length 0 : List Int).length : Int) := by simp; omega
    simp only [laws_toIntS.l0, h1, h0, h2, ↓reduceIte, hx, hw]
    rw [List.length_cons, List.replicate_succ, set_mid pre _ i hi]
    exact ih

/-! laws_eqIntS -/
theorem laws_eqIntS_ev (l : List Int) (hl : l.length ≤ 1099511627776) : Ev (fun k => laws_eqIntS.f k l l) true := by
  simp only [laws_eqIntS.f, ↓reduceIte]
  refine loop_int l hl (P := fun i _ => Ev (fun k => laws_eqIntS.l0 k l l i) true) ?_ ?_
  · refine ev_succ (ev_of_eq fun k => ?_)
    simp only [laws_eqIntS.l0, Int.lt_irrefl, ↓reduceIte]
  · intro i x rest h0 h1 hx _ hw ih
    refine ev_succ ?_
    simp only [laws_eqIntS.l0, h1, h0, ↓reduceIte, hw]
    exact ih

/-! spec_l1In -/
theorem spec_l1In_f (a b c : Int) : spec_l1In.f a b c = some (decide (b ≤ a ∧ a ≤ c)) := by
  unfold spec_l1In.f
  by_cases h : b ≤ a <;> simp [h]

/-! spec_IsBase -/
theorem spec_IsBase_ev (l : List Int) (hl : l.length ≤ 1099511627776) : Ev (fun k => spec_IsBase.f k l) (isBaseM l) := by
  simp only [spec_IsBase.f, isBaseM]
  have := loop_int l hl (P := fun i rest => Ev (fun k => spec_IsBase.l0 k l i) (decide (l.length = 4) && rest.all (fun x => decide (0 ≤ x ∧ x ≤ 13)))) ?_ ?_
  · exact this
  · refine ev_succ (ev_of_eq fun k => ?_)
    simp only [spec_IsBase.l0, Int.lt_irrefl, ↓reduceIte, List.all_nil, Bool.and_true]
    congr 1
    rw [Bool.eq_iff_iff]
    simp
    omega
  · intro i x rest h0 h1 hx _ hw ih
    refine ev_succ ?_
    simp only [spec_IsBase.l0, h1, h0, ↓reduceIte, hx, hw, spec_l1In_f, Option.bind_some]
    by_cases h : 0 ≤ x ∧ x ≤ 13
    · simp only [h, and_self, decide_true, ↓reduceIte, List.all_cons, Bool.true_and]
      exact ih
    · refine ev_of_eq fun k => ?_
      simp [h]

/-! spec_IsCard -/
theorem spec_IsCard_f (a : Int) : spec_IsCard.f a = some (isCardM a) := by
  unfold spec_IsCard.f
  rw [spec_l1In_f]
  rfl

/-! spec_RankOf -/
theorem spec_RankOf_f (a : Int) : spec_RankOf.f a = some (rankM a) := by
  unfold spec_RankOf.f
  rw [spec_IsCard_f]
  unfold rankM isCardM
  by_cases h : 0 ≤ a ∧ a ≤ 51
  · simp [h, tmod13 a h.1]
  · simp [h]

/-! spec_StepOf -/
theorem spec_StepOf_f (a : Int) : spec_StepOf.f a = some (stepM a) := by
  unfold spec_StepOf.f
  simp only [spec_RankOf_f, spec_IsCard_f, Option.bind_some]
  unfold stepM rankM
  by_cases h : 0 ≤ a ∧ a ≤ 51
  · have e : Int.tmod (wrap64 (a % 13 + 1)) 13 = (a % 13 + 1) % 13 := by
      rw [w64 (by omega) (by omega), Int.tmod_eq_emod_of_nonneg (by omega)]
    simp only [isCardM, h, and_self, decide_true, ↓reduceIte, Option.bind_some, e]
    rw [w64 (by omega) (by omega)]
  · simp [h, isCardM]

/-! spec_SuitOf -/
theorem spec_SuitOf_f (a : Int) : spec_SuitOf.f a = some (suitM a) := by
  unfold spec_SuitOf.f
  rw [spec_IsCard_f]
  unfold suitM isCardM
  by_cases h : 0 ≤ a ∧ a ≤ 51
  · simp [h, tdiv13 a h.1 h.2]
  · simp [h]

/-! spec_MayBuild -/
theorem spec_MayBuild_ev (l : List Int) (c : Int) (hl : l.length ≤ 1099511627776) : Ev (fun k => spec_MayBuild.f k l c) (mayBuildM l c) := by
  simp only [spec_MayBuild.f, spec_IsCard_f, spec_StepOf_f, spec_SuitOf_f, Option.bind_some, mayBuildM]
  refine Ev.bind (spec_IsBase_ev l hl) ?_
  by_cases h1 : isBaseM l = true
  · by_cases h2 : isCardM c = true
    · have h3 := isBaseM_len h1
      have h4 := (isCardM_iff c).1 h2
      have h5 : 0 ≤ suitM c := (suitM_nonneg c).2 h4
      have h6 : suitM c < (l.length : Int) := by have := suitM_range c; omega
      simp only [h1, h2, h5, h6, ↓reduceIte, Bool.true_and]
      exact Ev.now _
    · refine ev_of_eq fun k => ?_
      simp [h1, h2]
  · refine ev_of_eq fun k => ?_
    simp [h1]

/-! spec_IsRed -/
theorem spec_IsRed_f (c : Int) : spec_IsRed.f c = some (isRedM c) := by
  simp only [spec_IsRed.f, spec_SuitOf_f, spec_l1In_f, Option.bind_some, isRedM]

/-! spec_IsSafe -/
theorem spec_IsSafe_ev (l : List Int) (c : Int) (hl : l.length ≤ 1099511627776) : Ev (fun k => spec_IsSafe.f k l c) (isSafeM l c) := by
  simp only [spec_IsSafe.f, isSafeM]
  refine Ev.bind (spec_MayBuild_ev l c hl) ?_
  by_cases h1 : mayBuildM l c = true
  · have h2 := h1
    unfold mayBuildM at h2
    simp only [Bool.and_eq_true] at h2
    have h3 := isBaseM_len h2.1.1
    have hs := stepM_range c
    have w1 : wrap64 ((0 : Int) + 1) = 1 := w64 (by omega) (by omega)
    have w2 : wrap64 ((1 : Int) + 1) = 2 := w64 (by omega) (by omega)
    have w3 : wrap64 ((2 : Int) + 1) = 3 := w64 (by omega) (by omega)
    have w4 : wrap64 ((3 : Int) + 1) = 4 := w64 (by omega) (by omega)
    have w5 : wrap64 (stepM c - 1) = stepM c - 1 := w64 (by omega) (by omega)
    have b1 : (0 : Int) < (l.length : Int) := by omega
    have b2 : (1 : Int) < (l.length : Int) := by omega
    have b3 : (2 : Int) < (l.length : Int) := by omega
    have b4 : (3 : Int) < (l.length : Int) := by omega
    simp only [h1, ↓reduceIte, Bool.true_and]
    refine ev_succ (ev_succ (ev_succ (ev_succ (ev_succ (ev_of_eq fun k => ?_)))))
    simp only [spec_IsSafe.l0, spec_l1In_f, spec_IsRed_f, spec_StepOf_f, Option.bind_some, w1, w2, w3, w4, w5, b1, b2, b3, b4]
    have r (a b : Int) : decide (b ≤ a) = !decide (a < b) := by
      by_cases h : a < b <;> simp [h] <;> omega
    rw [r (rd l 0), r (rd l 1), r (rd l 2), r (rd l 3), r 2]
    cases hr : isRedM c <;> by_cases g0 : 2 < stepM c <;> by_cases g1 : rd l 0 < stepM c - 1 <;> by_cases g2 : rd l 1 < stepM c - 1 <;> by_cases g3 : rd l 2 < stepM c - 1 <;> by_cases g4 : rd l 3 < stepM c - 1 <;> simp [g0, g1, g2, g3, g4]
  · simp only [h1, Bool.false_eq_true, ↓reduceIte, Bool.false_and]
    exact Ev.now _

/-! impl_InRange -/
theorem impl_InRange_f (a b c : Int) : impl_InRange.f a b c = some (decide (b ≤ a ∧ a ≤ c)) := by
  unfold impl_InRange.f
  by_cases h : b ≤ a <;> simp [h]

/-! impl_allIn -/
theorem impl_allIn_ev (l : List Int) (hl : l.length ≤ 1099511627776) (a b : Int) : Ev (fun k => impl_allIn.f k l a b) (l.all (fun x => decide (a ≤ x ∧ x ≤ b))) := by
  simp only [impl_allIn.f]
  refine loop_int l hl (P := fun i rest => Ev (fun k => impl_allIn.l0 k a b l (l.length : Int) i) (rest.all (fun x => decide (a ≤ x ∧ x ≤ b)))) ?_ ?_
  · refine ev_succ (ev_of_eq fun k => ?_)
    simp only [impl_allIn.l0, Int.lt_irrefl, ↓reduceIte, List.all_nil]
  · intro i x rest h0 h1 hx _ hw ih
    refine ev_succ ?_
    simp only [impl_allIn.l0, h1, h0, ↓reduceIte, hx, hw, impl_InRange_f, Option.bind_some]
    by_cases h : a ≤ x ∧ x ≤ b
    · simp only [h, and_self, decide_true, ↓reduceIte, List.all_cons, Bool.true_and]
      exact ih
    · refine ev_of_eq fun k => ?_
      simp [h]

/-! impl_IsBase -/
theorem impl_IsBase_ev (l : List Int) (hl : l.length ≤ 1099511627776) : Ev (fun k => impl_IsBase.f k l) (isBaseM l) := by
  simp only [impl_IsBase.f, isBaseM]
  by_cases h : l.length = 4
  · have h' : (l.length : Int) = 4 := by omega
    simp only [h', h, ↓reduceIte, decide_true, Bool.true_and]
    exact Ev.bind (impl_allIn_ev l hl 0 13) (Ev.now _)
  · have h' : ¬ (l.length : Int) = 4 := by omega
    refine ev_of_eq fun k => ?_
    simp [h, h']

/-! impl_IsCard -/
theorem impl_IsCard_f (a : Int) : impl_IsCard.f a = some (isCardM a) := by
  unfold impl_IsCard.f
  rw [impl_InRange_f]
  rfl

/-! impl_RankOf -/
theorem impl_RankOf_f (a : Int) : impl_RankOf.f a = some (rankM a) := by
  unfold impl_RankOf.f
  rw [impl_IsCard_f]
  unfold rankM isCardM
  by_cases h : 0 ≤ a ∧ a ≤ 51
  · simp [h, tmod13 a h.1]
  · simp [h]

/-! impl_StepOf -/
theorem impl_StepOf_f (a : Int) : impl_StepOf.f a = some (stepM a) := by
  unfold impl_StepOf.f
  simp only [impl_RankOf_f, Option.bind_some]
  unfold stepM rankM
  by_cases h : 0 ≤ a ∧ a ≤ 51
  · simp only [h, and_self, ↓reduceIte]
    by_cases e : a % 13 = 12
    · simp [e]
    · have e1 : ¬ a % 13 = -1 := by omega
      simp only [e, e1, ↓reduceIte]
      rw [w64 (by omega) (by omega)]
      congr 1
      omega
  · simp [h]

/-! impl_SuitOf -/
theorem impl_SuitOf_f (a : Int) : impl_SuitOf.f a = some (suitM a) := by
  unfold impl_SuitOf.f
  rw [impl_IsCard_f]
  unfold suitM isCardM
  by_cases h : 0 ≤ a ∧ a ≤ 51
  · simp [h, tdiv13 a h.1 h.2]
  · simp [h]

/-! impl_MayBuild -/
theorem impl_MayBuild_ev (l : List Int) (c : Int) (hl : l.length ≤ 1099511627776) : Ev (fun k => impl_MayBuild.f k l c) (mayBuildM l c) := by
  simp only [impl_MayBuild.f, impl_IsCard_f, impl_StepOf_f, impl_SuitOf_f, Option.bind_some, mayBuildM]
  refine Ev.bind (impl_IsBase_ev l hl) ?_
  by_cases h1 : isBaseM l = true
  · by_cases h2 : isCardM c = true
    · have h3 := isBaseM_len h1
      have h4 := (isCardM_iff c).1 h2
      have h5 : 0 ≤ suitM c := (suitM_nonneg c).2 h4
      have h6 : suitM c < (l.length : Int) := by have := suitM_range c; omega
      simp only [h1, h2, h5, h6, ↓reduceIte, Bool.true_and]
      exact Ev.now _
    · refine ev_of_eq fun k => ?_
      simp [h1, h2]
  · refine ev_of_eq fun k => ?_
    simp [h1]

/-! impl_IsRed -/
theorem impl_IsRed_f (c : Int) : impl_IsRed.f c = some (isRedM c) := by
  simp only [impl_IsRed.f, impl_SuitOf_f, Option.bind_some, isRedM]
  by_cases h : suitM c = 1
  · simp [h]
  · simp only [h, ↓reduceIte]
    congr 1
    rw [Bool.eq_iff_iff]
    simp
    omega

/-! impl_IsSafe -/
theorem impl_IsSafe_ev (l : List Int) (c : Int) (hl : l.length ≤ 1099511627776) : Ev (fun k => impl_IsSafe.f k l c) (isSafeM l c) := by
  simp only [impl_IsSafe.f, isSafeM]
  refine Ev.bind (impl_MayBuild_ev l c hl) ?_
  by_cases h1 : mayBuildM l c = true
  · have h2 := h1
    unfold mayBuildM at h2
    simp only [Bool.and_eq_true] at h2
    have h3 := isBaseM_len h2.1.1
    have hs := stepM_range c
    have w5 : wrap64 (stepM c - 1) = stepM c - 1 := w64 (by omega) (by omega)
    have b1 : (0 : Int) < (l.length : Int) := by omega
    have b2 : (1 : Int) < (l.length : Int) := by omega
    have b3 : (2 : Int) < (l.length : Int) := by omega
    have b4 : (3 : Int) < (l.length : Int) := by omega
    refine ev_of_eq fun k => ?_
    simp only [h1, ↓reduceIte, Bool.true_and, impl_IsRed_f, impl_StepOf_f, Option.bind_some, w5, b1, b2, b3, b4, ge_iff_le]
    cases hr : isRedM c <;> by_cases g0 : stepM c ≤ 2 <;> by_cases g1 : stepM c - 1 ≤ rd l 0 <;> by_cases g2 : stepM c - 1 ≤ rd l 1 <;> simp [g0, g1, g2]
  · simp only [h1, Bool.false_eq_true, ↓reduceIte, Bool.false_and]
    exact Ev.now _

theorem FnExactIsSafe : laws_FnExactIsSafe.Pure := by
  intro l c _ _ _ _
  refine Ev.rounds (g := fun k => laws_FnExactIsSafe.f k l c) ?_
  by_cases hb : (l.length : Int) > 1048576
  · exact ev_of_eq fun k => by simp only [laws_FnExactIsSafe.f, hb, ↓reduceIte]
  · have hl : l.length ≤ 1099511627776 := by omega
    simp only [laws_FnExactIsSafe.f, hb, ↓reduceIte]
    refine Ev.bind (laws_toIntS_ev l hl) ?_
    refine Ev.bind (spec_IsSafe_ev l c hl) ?_
    refine Ev.bind (laws_toIntS_ev l hl) ?_
    refine Ev.bind (impl_IsSafe_ev l c hl) ?_
    simp only [bne_self_eq_false, Bool.false_eq_true, ↓reduceIte]
    refine Ev.bind (laws_toIntS_ev l hl) ?_
    refine Ev.bind (laws_eqIntS_ev l hl) ?_
    exact ev_of_eq fun k => by simp

end Go.Proofs.Ytjkjjpbapggpnaa.Pure
