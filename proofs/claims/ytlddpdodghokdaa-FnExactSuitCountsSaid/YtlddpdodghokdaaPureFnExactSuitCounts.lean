/- The program's SuitCounts answers what the reference's answers, for all arguments. No condition but those that the statement itself names. -/
import Derived.Test.YtlddpdodghokdaaPFnExactSuitCountsx2
import Derived.Test.YtlddpdodghokdaaLib
namespace Go.Proofs.Ytlddpdodghokdaa.Pure
open Go.RowKit Go.Proofs.Ytlddpdodghokdaa.PFnExactSuitCounts Go.Proofs.YtlddpdodghokdaaW.PrintWords Go.Proofs.YtlddpdodghokdaaW.PrintLast Go.Proofs.YtlddpdodghokdaaW.PrintMore Go.Proofs.Ytlddpdodghokdaa.Lib
set_option linter.unusedVariables false
set_option linter.unusedSimpArgs false

/-! laws_toIntS -/
theorem laws_toIntS_ev (l : List Int) (hl : l.length ≤ 1099511627776) : Ev (fun k => laws_toIntS.f k l) l := by
  have e1 : (0 : Int) ≤ (l.length : Int) := by omega
  have e2 : ((l.length : Int) : Int).toNat ≤ 35184372088832 := by omega
  simp only [laws_toIntS.f, e1, e2, ↓reduceIte]
  refine loop_int_pre l hl (P := fun i pre rest => Ev (fun k => laws_toIntS.l0 k l (pre ++ List.replicate rest.length 0) i) l) ?_ ?_
  · refine ev_succ (ev_of_eq fun k => ?_)
    simp only [laws_toIntS.l0, Int.lt_irrefl, ↓reduceIte, List.length_nil, List.replicate_zero, List.append_nil]
  · intro i pre x rest hl' hi h0 h1 hx hw ih
    refine ev_succ ?_
    have h2 : i < ((pre ++ List.replicate (x :: rest).length 0 : List Int).length : Int) := by simp; omega
    simp only [laws_toIntS.l0, h1, h0, h2, ↓reduceIte, hx, hw]
    rw [List.length_cons, List.replicate_succ, set_mid pre _ i hi]
    exact ih

/-! laws_eqIntS -/
theorem laws_eqIntS_ev (l : List Int) (hl : l.length ≤ 1099511627776) : Ev (fun k => laws_eqIntS.f k l l) true := by
  simp only [laws_eqIntS.f, ↓reduceIte]
  refine loop_int l hl (P := fun i _ => Ev (fun k => laws_eqIntS.l0 k l l i) true) ?_ ?_
  · refine ev_succ (ev_of_eq fun k => ?_)
    simp only [laws_eqIntS.l0, Int.lt_irrefl, ↓reduceIte]
  · intro i x rest h0 h1 hx _ hw ih
    refine ev_succ ?_
    simp only [laws_eqIntS.l0, h1, h0, ↓reduceIte, hw]
    exact ih

/-! spec_l1In -/
theorem spec_l1In_f (a b c : Int) : spec_l1In.f a b c = some (decide (b ≤ a ∧ a ≤ c)) := by
  unfold spec_l1In.f
  by_cases h : b ≤ a <;> simp [h]

/-! spec_IsCard -/
theorem spec_IsCard_f (a : Int) : spec_IsCard.f a = some (isCardM a) := by
  unfold spec_IsCard.f
  rw [spec_l1In_f]
  rfl

/-! spec_SuitOf -/
theorem spec_SuitOf_f (a : Int) : spec_SuitOf.f a = some (suitM a) := by
  unfold spec_SuitOf.f
  rw [spec_IsCard_f]
  unfold suitM isCardM
  by_cases h : 0 ≤ a ∧ a ≤ 51
  · simp [h, tdiv13 a h.1 h.2]
  · simp [h]

/-! spec_SuitCounts -/
theorem spec_SuitCounts_ev (l : List Int) (hl : l.length ≤ 1099511627776) : Ev (fun k => spec_SuitCounts.f k l) (countsM l) := by
  have e1 : (4 : Nat) ≤ 35184372088832 := by omega
  simp only [spec_SuitCounts.f, countsM, e1, ↓reduceIte]
  refine loop_int l hl (P := fun i rest => ∀ d : List Int, d.length = 4 → Ev (fun k => spec_SuitCounts.l0 k l d i) (rest.foldl countStep d)) ?_ ?_ [0, 0, 0, 0] rfl
  · intro d _
    refine ev_succ (ev_of_eq fun k => ?_)
    simp only [spec_SuitCounts.l0, Int.lt_irrefl, ↓reduceIte, List.foldl_nil]
  · intro i x rest h0 h1 hx _ hw ih d hd
    refine ev_succ ?_
    simp only [spec_SuitCounts.l0, h1, h0, ↓reduceIte, hx, hw, spec_SuitOf_f, Option.bind_some, ge_iff_le]
    have h2 : suitM x < (d.length : Int) := by have := suitM_range x; omega
    have ih' := ih (countStep d x) (by rw [countStep_length]; exact hd)
    rw [List.foldl_cons]
    unfold countStep at ih' ⊢
    by_cases h : 0 ≤ suitM x
    · simp only [h, h2, ↓reduceIte] at ih' ⊢
      exact ih'
    · simp only [h, ↓reduceIte] at ih' ⊢
      exact ih'

/-! impl_InRange -/
theorem impl_InRange_f (a b c : Int) : impl_InRange.f a b c = some (decide (b ≤ a ∧ a ≤ c)) := by
  unfold impl_InRange.f
  by_cases h : b ≤ a <;> simp [h]

/-! impl_IsCard -/
theorem impl_IsCard_f (a : Int) : impl_IsCard.f a = some (isCardM a) := by
  unfold impl_IsCard.f
  rw [impl_InRange_f]
  rfl

/-! impl_SuitOf -/
theorem impl_SuitOf_f (a : Int) : impl_SuitOf.f a = some (suitM a) := by
  unfold impl_SuitOf.f
  rw [impl_IsCard_f]
  unfold suitM isCardM
  by_cases h : 0 ≤ a ∧ a ≤ 51
  · simp [h, tdiv13 a h.1 h.2]
  · simp [h]

/-! impl_SuitCounts -/
theorem impl_SuitCounts_ev (l : List Int) (hl : l.length ≤ 1099511627776) : Ev (fun k => impl_SuitCounts.f k l) (countsM l) := by
  have e1 : (4 : Nat) ≤ 35184372088832 := by omega
  simp only [impl_SuitCounts.f, countsM, e1, ↓reduceIte]
  refine loop_int l hl (P := fun i rest => ∀ d : List Int, d.length = 4 → Ev (fun k => impl_SuitCounts.l0 k d l (l.length : Int) i) (rest.foldl countStep d)) ?_ ?_ [0, 0, 0, 0] rfl
  · intro d _
    refine ev_succ (ev_of_eq fun k => ?_)
    simp only [impl_SuitCounts.l0, Int.lt_irrefl, ↓reduceIte, List.foldl_nil]
  · intro i x rest h0 h1 hx _ hw ih d hd
    refine ev_succ ?_
    simp only [impl_SuitCounts.l0, h1, h0, ↓reduceIte, hx, hw, impl_SuitOf_f, impl_IsCard_f, Option.bind_some]
    have h2 : suitM x < (d.length : Int) := by have := suitM_range x; omega
    have h3 : isCardM x = decide (0 ≤ suitM x) := by rw [Bool.eq_iff_iff]; simp [isCardM, suitM_nonneg]
    have ih' := ih (countStep d x) (by rw [countStep_length]; exact hd)
    rw [List.foldl_cons, h3]
    unfold countStep at ih' ⊢
    by_cases h : 0 ≤ suitM x
    · simp only [h, h2, ↓reduceIte, decide_true] at ih' ⊢
      exact ih'
    · simp only [h, ↓reduceIte, decide_false, Bool.false_eq_true] at ih' ⊢
      exact ih'

/-! laws_markIntS -/
theorem laws_markIntS_ev (l : List Int) (hl : l.length ≤ 1099511627776) (a : Int) (ha : 0 ≤ a) (ha2 : a ≤ 4611686018427387904) : Ev (fun k => laws_markIntS.f k l a) (a + l.length, (List.range l.length).map fun j : Nat => a + (j : Int)) := by
  simp only [laws_markIntS.f]
  suffices H : ∀ (n : Nat) (pre rest : List Int) (i : Int), i = pre.length → rest.length = n → (pre ++ rest).length = l.length → Ev (fun k => laws_markIntS.l0 k (pre ++ rest) (a + i) i) (a + l.length, pre ++ (List.range n).map fun j : Nat => a + i + (j : Int)) by
    have := H l.length [] l 0 rfl rfl rfl
    simpa using this
  intro n
  induction n with
  | zero =>
    intro pre rest i hi hr ht
    obtain rfl : rest = [] := List.eq_nil_of_length_eq_zero hr
    refine ev_succ (ev_of_eq fun k => ?_)
    have e : i = (l.length : Int) := by simp at ht; omega
    have e2 : ¬ i < ((pre ++ [] : List Int).length : Int) := by simp; omega
    simp only [laws_markIntS.l0, e2, ↓reduceIte]
    simp [e]
  | succ n ih =>
    intro pre rest i hi hr ht
    obtain ⟨x, rest, rfl⟩ : ∃ x r, rest = x :: r := by cases rest with | nil => simp at hr | cons x r => exact ⟨x, r, rfl⟩
    have h1 : i < ((pre ++ x :: rest : List Int).length : Int) := by simp; omega
    have h0 : 0 ≤ i := by omega
    have hb : i + 1 ≤ (l.length : Int) := by rw [← ht]; omega
    refine ev_succ ?_
    simp only [laws_markIntS.l0, h1, h0, ↓reduceIte]
    rw [set_mid pre rest i hi, w64 (n := a + i + 1) (by omega) (by omega), w64 (n := i + 1) (by omega) (by omega)]
    have := ih (pre ++ [a + i]) rest (i + 1) (by simp; omega) (by simpa using hr) (by simpa using ht)
    rw [show a + (i + 1) = a + i + 1 by omega] at this
    refine ev_eq this ?_
    rw [List.range_succ_eq_map]
    simp [Function.comp_def]
    intro j _
    omega

/-! laws_heldIntS -/
theorem laws_heldIntS_ev (n : Nat) (hl : n ≤ 1099511627776) (a : Int) (ha : 0 ≤ a) (ha2 : a ≤ 4611686018427387904) : Ev (fun k => laws_heldIntS.f k ((List.range n).map fun j : Nat => a + (j : Int)) a) (a + n) := by
  simp only [laws_heldIntS.f]
  have hlen : ((List.range n).map fun j : Nat => a + (j : Int)).length = n := by simp
  have hget : ∀ i : Int, 0 ≤ i → i < (n : Int) → rd ((List.range n).map fun j : Nat => a + (j : Int)) i = a + i := by
    intro i h0 h1
    have : i.toNat < n := by omega
    unfold rd
    simp [List.getD_eq_getElem?_getD, this]
    omega
  generalize (List.range n).map (fun j : Nat => a + (j : Int)) = l at *
  subst hlen
  have := loop_up l.length hl (P := fun i m => Ev (fun k => laws_heldIntS.l0 k l (a + i) i) (a + l.length)) ?_ ?_
  · simpa using this
  · refine ev_succ (ev_of_eq fun k => ?_)
    simp only [laws_heldIntS.l0, Int.lt_irrefl, ↓reduceIte]
  · intro i m h0 h1 _ hw ih
    refine ev_succ ?_
    simp only [laws_heldIntS.l0, h1, h0, ↓reduceIte, hget i h0 h1, hw]
    rw [w64 (n := a + i + 1) (by omega) (by omega), show a + i + 1 = a + (i + 1) by omega]
    exact ih

theorem FnExactSuitCounts : laws_FnExactSuitCounts.Pure := by
  intro l h1 h2 h3
  refine Ev.rounds (g := fun k => laws_FnExactSuitCounts.f k l) ?_
  by_cases hb : (l.length : Int) > 1048576
  · exact ev_of_eq fun k => by simp only [laws_FnExactSuitCounts.f, hb, ↓reduceIte]
  · have hl : l.length ≤ 1099511627776 := by omega
    have hc : (countsM l).length ≤ 1099511627776 := by
      have : ∀ (r d : List Int), (r.foldl countStep d).length = d.length := by
        intro r
        induction r with
        | nil => intro d; rfl
        | cons x r ih => intro d; rw [List.foldl_cons, ih, countStep_length]
      unfold countsM
      rw [this]
      simp
    simp only [laws_FnExactSuitCounts.f, hb, ↓reduceIte]
    refine Ev.bind (laws_toIntS_ev l hl) ?_
    refine Ev.bind (spec_SuitCounts_ev l hl) ?_
    refine Ev.bind (laws_toIntS_ev l hl) ?_
    refine Ev.bind (impl_SuitCounts_ev l hl) ?_
    refine Ev.bind (laws_eqIntS_ev _ hc) ?_
    simp only [↓reduceIte]
    refine Ev.bind (laws_toIntS_ev l hl) ?_
    refine Ev.bind (laws_eqIntS_ev l hl) ?_
    simp only [↓reduceIte]
    refine Ev.bind (laws_markIntS_ev l hl 1 (by omega) (by omega)) ?_
    have n1 : ¬ (1 : Int) + (l.length : Int) < 0 := by omega
    simp only [n1, ↓reduceIte]
    refine Ev.bind (laws_eqIntS_ev _ hc) ?_
    refine ev_succ ?_
    simp only [laws_FnExactSuitCounts.j0, Bool.not_true, Bool.false_eq_true, ↓reduceIte]
    refine Ev.bind (laws_markIntS_ev _ hc 1 (by omega) (by omega)) ?_
    refine Ev.bind (laws_heldIntS_ev _ hc 1 (by omega) (by omega)) ?_
    have n2 : ¬ (1 : Int) + ((countsM l).length : Int) < 0 := by omega
    simp only [n2, ↓reduceIte]
    refine Ev.bind (laws_toIntS_ev l hl) ?_
    refine Ev.bind (impl_SuitCounts_ev l hl) ?_
    refine Ev.bind (laws_eqIntS_ev _ hc) ?_
    simp only [↓reduceIte]
    refine Ev.bind (laws_heldIntS_ev _ hc 1 (by omega) (by omega)) ?_
    exact ev_of_eq fun k => by simp only [n2, ↓reduceIte]

end Go.Proofs.Ytlddpdodghokdaa.Pure
