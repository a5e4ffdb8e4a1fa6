/- The program's BaseCards answers what the reference's answers, for all arguments. No condition but those that the statement itself names. -/
import Derived.Test.YtjkjjpbapggpnaaPFnExactBaseCardsx3
import Derived.Test.YtjkjjpbapggpnaaLib
namespace Go.Proofs.Ytjkjjpbapggpnaa.Pure
open Go.RowKit Go.Proofs.Ytjkjjpbapggpnaa.PFnExactBaseCards Go.Proofs.YtjkjjpbapggpnaaW.PrintWords Go.Proofs.YtjkjjpbapggpnaaW.PrintLast Go.Proofs.YtjkjjpbapggpnaaW.PrintMore Go.Proofs.Ytjkjjpbapggpnaa.Lib
set_option linter.unusedVariables false
set_option linter.unusedSimpArgs false

/-! laws_toIntS -/
theorem laws_toIntS_ev (l : List Int) (hl : l.length ≤ 1099511627776) : Ev (fun k => laws_toIntS.f k l) l := by
  have e1 : (0 : Int) ≤ (l.length : Int) := by omega
  have e2 : ((l.length : Int) : Int).toNat ≤ 35184372088832 := by omega
  simp only [laws_toIntS.f, e1, e2, ↓reduceIte]
  refine loop_int_pre l hl (P := fun i pre rest => Ev (fun k => laws_toIntS.l0 k l (pre ++ List.replicate rest.length 0) i) l) ?_ ?_
  · refine ev_succ (ev_of_eq fun k => ?_)
    simp only [laws_toIntS.l0, Int.lt_irrefl, ↓reduceIte, List.length_nil, List.replicate_zero, List.append_nil]
  · intro i pre x rest hl' hi h0 h1 hx hw ih
    refine ev_succ ?_
    have h2 : i < ((pre ++ List.replicate (x :: rest).length 0 : List Int).length : Int) := by simp; omega
    simp only [laws_toIntS.l0, h1, h0, h2, ↓reduceIte, hx, hw]
    rw [List.length_cons, List.replicate_succ, set_mid pre _ i hi]
    exact ih

/-! laws_eqIntS -/
theorem laws_eqIntS_ev (l : List Int) (hl : l.length ≤ 1099511627776) : Ev (fun k => laws_eqIntS.f k l l) true := by
  simp only [laws_eqIntS.f, ↓reduceIte]
  refine loop_int l hl (P := fun i _ => Ev (fun k => laws_eqIntS.l0 k l l i) true) ?_ ?_
  · refine ev_succ (ev_of_eq fun k => ?_)
    simp only [laws_eqIntS.l0, Int.lt_irrefl, ↓reduceIte]
  · intro i x rest h0 h1 hx _ hw ih
    refine ev_succ ?_
    simp only [laws_eqIntS.l0, h1, h0, ↓reduceIte, hw]
    exact ih

/-! laws_markIntS -/
theorem laws_markIntS_ev (l : List Int) (hl : l.length ≤ 1099511627776) (a : Int) (ha : 0 ≤ a) (ha2 : a ≤ 4611686018427387904) : Ev (fun k => laws_markIntS.f k l a) (a + l.length, (List.range l.length).map fun j : Nat => a + (j : Int)) := by
  simp only [laws_markIntS.f]
  suffices H : ∀ (n : Nat) (pre rest : List Int) (i : Int), i = pre.length → rest.length = n → (pre ++ rest).length = l.length → Ev (fun k => laws_markIntS.l0 k (pre ++ rest) (a + i) i) (a + l.length, pre ++ (List.range n).map fun j : Nat => a + i + (j : Int)) by
    have := H l.length [] l 0 rfl rfl rfl
    simpa using this
  intro n
  induction n with
  | zero =>
    intro pre rest i hi hr ht
    obtain rfl : rest = [] := List.eq_nil_of_length_eq_zero hr
    refine ev_succ (ev_of_eq fun k => ?_)
    have e : i = (l.length : Int) := by simp at ht; omega
    have e2 : ¬ i < ((pre ++ [] : List Int).length : Int) := by simp; omega
    simp only [laws_markIntS.l0, e2, ↓reduceIte]
    simp [e]
  | succ n ih =>
    intro pre rest i hi hr ht
    obtain ⟨x, rest, rfl⟩ : ∃ x r, rest = x :: r := by cases rest with | nil => simp at hr | cons x r => exact ⟨x, r, rfl⟩
    have h1 : i < ((pre ++ x :: rest : List Int).length : Int) := by simp; omega
    have h0 : 0 ≤ i := by omega
    have hb : i + 1 ≤ (l.length : Int) := by rw [← ht]; omega
    refine ev_succ ?_
    simp only [laws_markIntS.l0, h1, h0, ↓reduceIte]
    rw [set_mid pre rest i hi, w64 (n := a + i + 1) (by omega) (by omega), w64 (n := i + 1) (by omega) (by omega)]
    have := ih (pre ++ [a + i]) rest (i + 1) (by simp; omega) (by simpa using hr) (by simpa using ht)
    rw [show a + (i + 1) = a + i + 1 by omega] at this
    refine ev_eq this ?_
    rw [List.range_succ_eq_map]
    simp [Function.comp_def]
    intro j _
    omega

/-! laws_heldIntS -/
theorem laws_heldIntS_ev (n : Nat) (hl : n ≤ 1099511627776) (a : Int) (ha : 0 ≤ a) (ha2 : a ≤ 4611686018427387904) : Ev (fun k => laws_heldIntS.f k ((List.range n).map fun j : Nat => a + (j : Int)) a) (a + n) := by
  simp only [laws_heldIntS.f]
  have hlen : ((List.range n).map fun j : Nat => a + (j : Int)).length = n := by simp
  have hget : ∀ i : Int, 0 ≤ i → i < (n : Int) → rd ((List.range n).map fun j : Nat => a + (j : Int)) i = a + i := by
    intro i h0 h1
    have : i.toNat < n := by omega
    unfold rd
    simp [List.getD_eq_getElem?_getD, this]
    omega
  generalize (List.range n).map (fun j : Nat => a + (j : Int)) = l at *
  subst hlen
  have := loop_up l.length hl (P := fun i m => Ev (fun k => laws_heldIntS.l0 k l (a + i) i) (a + l.length)) ?_ ?_
  · simpa using this
  · refine ev_succ (ev_of_eq fun k => ?_)
    simp only [laws_heldIntS.l0, Int.lt_irrefl, ↓reduceIte]
  · intro i m h0 h1 _ hw ih
    refine ev_succ ?_
    simp only [laws_heldIntS.l0, h1, h0, ↓reduceIte, hget i h0 h1, hw]
    rw [w64 (n := a + i + 1) (by omega) (by omega), show a + i + 1 = a + (i + 1) by omega]
    exact ih

/-! spec_l1In -/
theorem spec_l1In_f (a b c : Int) : spec_l1In.f a b c = some (decide (b ≤ a ∧ a ≤ c)) := by
  unfold spec_l1In.f
  by_cases h : b ≤ a <;> simp [h]

/-! spec_IsBase -/
theorem spec_IsBase_ev (l : List Int) (hl : l.length ≤ 1099511627776) : Ev (fun k => spec_IsBase.f k l) (isBaseM l) := by
  simp only [spec_IsBase.f, isBaseM]
  have := loop_int l hl (P := fun i rest => Ev (fun k => spec_IsBase.l0 k l i) (decide (l.length = 4) && rest.all (fun x => decide (0 ≤ x ∧ x ≤ 13)))) ?_ ?_
  · exact this
  · refine ev_succ (ev_of_eq fun k => ?_)
    simp only [spec_IsBase.l0, Int.lt_irrefl, ↓reduceIte, List.all_nil, Bool.and_true]
    congr 1
    rw [Bool.eq_iff_iff]
    simp
    omega
  · intro i x rest h0 h1 hx _ hw ih
    refine ev_succ ?_
    simp only [spec_IsBase.l0, h1, h0, ↓reduceIte, hx, hw, spec_l1In_f, Option.bind_some]
    by_cases h : 0 ≤ x ∧ x ≤ 13
    · simp only [h, and_self, decide_true, ↓reduceIte, List.all_cons, Bool.true_and]
      exact ih
    · refine ev_of_eq fun k => ?_
      simp [h]

/-! spec_IsCard -/
theorem spec_IsCard_f (a : Int) : spec_IsCard.f a = some (isCardM a) := by
  unfold spec_IsCard.f
  rw [spec_l1In_f]
  rfl

/-! spec_RankOf -/
theorem spec_RankOf_f (a : Int) : spec_RankOf.f a = some (rankM a) := by
  unfold spec_RankOf.f
  rw [spec_IsCard_f]
  unfold rankM isCardM
  by_cases h : 0 ≤ a ∧ a ≤ 51
  · simp [h, tmod13 a h.1]
  · simp [h]

/-! spec_StepOf -/
theorem spec_StepOf_f (a : Int) : spec_StepOf.f a = some (stepM a) := by
  unfold spec_StepOf.f
  simp only [spec_RankOf_f, spec_IsCard_f, Option.bind_some]
  unfold stepM rankM
  by_cases h : 0 ≤ a ∧ a ≤ 51
  · have e : Int.tmod (wrap64 (a % 13 + 1)) 13 = (a % 13 + 1) % 13 := by
      rw [w64 (by omega) (by omega), Int.tmod_eq_emod_of_nonneg (by omega)]
    simp only [isCardM, h, and_self, decide_true, ↓reduceIte, Option.bind_some, e]
    rw [w64 (by omega) (by omega)]
  · simp [h, isCardM]

/-! spec_SuitOf -/
theorem spec_SuitOf_f (a : Int) : spec_SuitOf.f a = some (suitM a) := by
  unfold spec_SuitOf.f
  rw [spec_IsCard_f]
  unfold suitM isCardM
  by_cases h : 0 ≤ a ∧ a ≤ 51
  · simp [h, tdiv13 a h.1 h.2]
  · simp [h]

/-! spec_BaseCards -/
theorem spec_BaseCards_ev (l : List Int) (hl : l.length ≤ 1099511627776) : Ev (fun k => spec_BaseCards.f k l) (baseCardsM l) := by
  simp only [spec_BaseCards.f, baseCardsM]
  by_cases hb : isBaseM l = true
  · have h3 := isBaseM_len hb
    simp only [hb, ↓reduceIte]
    suffices H : ∀ (n : Nat) (out : List Int) (c : Int), 0 ≤ c → c + n = 52 → out.length ≤ c → Ev (fun k => spec_BaseCards.l0 k l out c) (out ++ baseF l n c) by
      simpa using H 52 [] 0 (by omega) (by omega) (by simp)
    intro n
    induction n with
    | zero =>
      intro out c h0 h1 h2
      have e : ¬ c < 52 := by omega
      refine ev_succ (ev_succ (ev_of_eq fun k => ?_))
      simp only [spec_BaseCards.l0, e, ↓reduceIte, spec_BaseCards.j1, Bool.false_eq_true, baseF, List.append_nil]
    | succ n ih =>
      intro out c h0 h1 h2
      have e : c < 52 := by omega
      have e1 : 0 ≤ suitM c := (suitM_nonneg c).2 (by omega)
      have e2 : suitM c < (l.length : Int) := by have := suitM_range c; omega
      have e3 : out.length < 17592186044416 := by omega
      have e4 : wrap64 (c + 1) = c + 1 := w64 (by omega) (by omega)
      refine ev_succ ?_
      simp only [spec_BaseCards.l0, e, ↓reduceIte]
      refine Ev.bind (spec_IsBase_ev l hl) ?_
      rw [hb]
      refine ev_succ ?_
      simp only [spec_BaseCards.j1, spec_StepOf_f, spec_SuitOf_f, Option.bind_some, e1, e2, e3, e4, ↓reduceIte, baseF, inBaseM]
      by_cases g : stepM c ≤ rd l (suitM c)
      · simp only [g, ↓reduceIte, decide_true]
        have := ih (out ++ [c]) (c + 1) (by omega) (by omega) (by simp; omega)
        simpa using this
      · simp only [g, ↓reduceIte, decide_false, Bool.false_eq_true]
        exact ih out (c + 1) (by omega) (by omega) (by omega)
  · simp only [hb, Bool.false_eq_true, ↓reduceIte]
    refine ev_succ ?_
    have e : (0 : Int) < 52 := by omega
    simp only [spec_BaseCards.l0, e, ↓reduceIte]
    refine Ev.bind (spec_IsBase_ev l hl) ?_
    refine ev_succ (ev_of_eq fun k => ?_)
    simp only [spec_BaseCards.j1, hb, Bool.false_eq_true, ↓reduceIte]

/-! impl_InRange -/
theorem impl_InRange_f (a b c : Int) : impl_InRange.f a b c = some (decide (b ≤ a ∧ a ≤ c)) := by
  unfold impl_InRange.f
  by_cases h : b ≤ a <;> simp [h]

/-! impl_allIn -/
theorem impl_allIn_ev (l : List Int) (hl : l.length ≤ 1099511627776) (a b : Int) : Ev (fun k => impl_allIn.f k l a b) (l.all (fun x => decide (a ≤ x ∧ x ≤ b))) := by
  simp only [impl_allIn.f]
  refine loop_int l hl (P := fun i rest => Ev (fun k => impl_allIn.l0 k a b l (l.length : Int) i) (rest.all (fun x => decide (a ≤ x ∧ x ≤ b)))) ?_ ?_
  · refine ev_succ (ev_of_eq fun k => ?_)
    simp only [impl_allIn.l0, Int.lt_irrefl, ↓reduceIte, List.all_nil]
  · intro i x rest h0 h1 hx _ hw ih
    refine ev_succ ?_
    simp only [impl_allIn.l0, h1, h0, ↓reduceIte, hx, hw, impl_InRange_f, Option.bind_some]
    by_cases h : a ≤ x ∧ x ≤ b
    · simp only [h, and_self, decide_true, ↓reduceIte, List.all_cons, Bool.true_and]
      exact ih
    · refine ev_of_eq fun k => ?_
      simp [h]

/-! impl_IsBase -/
theorem impl_IsBase_ev (l : List Int) (hl : l.length ≤ 1099511627776) : Ev (fun k => impl_IsBase.f k l) (isBaseM l) := by
  simp only [impl_IsBase.f, isBaseM]
  by_cases h : l.length = 4
  · have h' : (l.length : Int) = 4 := by omega
    simp only [h', h, ↓reduceIte, decide_true, Bool.true_and]
    exact Ev.bind (impl_allIn_ev l hl 0 13) (Ev.now _)
  · have h' : ¬ (l.length : Int) = 4 := by omega
    refine ev_of_eq fun k => ?_
    simp [h, h']

/-! impl_IsCard -/
theorem impl_IsCard_f (a : Int) : impl_IsCard.f a = some (isCardM a) := by
  unfold impl_IsCard.f
  rw [impl_InRange_f]
  rfl

/-! impl_RankOf -/
theorem impl_RankOf_f (a : Int) : impl_RankOf.f a = some (rankM a) := by
  unfold impl_RankOf.f
  rw [impl_IsCard_f]
  unfold rankM isCardM
  by_cases h : 0 ≤ a ∧ a ≤ 51
  · simp [h, tmod13 a h.1]
  · simp [h]

/-! impl_StepOf -/
theorem impl_StepOf_f (a : Int) : impl_StepOf.f a = some (stepM a) := by
  unfold impl_StepOf.f
  simp only [impl_RankOf_f, Option.bind_some]
  unfold stepM rankM
  by_cases h : 0 ≤ a ∧ a ≤ 51
  · simp only [h, and_self, ↓reduceIte]
    by_cases e : a % 13 = 12
    · simp [e]
    · have e1 : ¬ a % 13 = -1 := by omega
      simp only [e, e1, ↓reduceIte]
      rw [w64 (by omega) (by omega)]
      congr 1
      omega
  · simp [h]

/-! impl_SuitOf -/
theorem impl_SuitOf_f (a : Int) : impl_SuitOf.f a = some (suitM a) := by
  unfold impl_SuitOf.f
  rw [impl_IsCard_f]
  unfold suitM isCardM
  by_cases h : 0 ≤ a ∧ a ≤ 51
  · simp [h, tdiv13 a h.1 h.2]
  · simp [h]

/-! impl_BaseCards -/
theorem impl_BaseCards_ev (l : List Int) (hl : l.length ≤ 1099511627776) : Ev (fun k => impl_BaseCards.f k l) (baseCardsM l) := by
  simp only [impl_BaseCards.f, baseCardsM]
  refine Ev.bind (impl_IsBase_ev l hl) ?_
  by_cases hb : isBaseM l = true
  · have h3 := isBaseM_len hb
    simp only [hb, ↓reduceIte]
    suffices H : ∀ (n : Nat) (out : List Int) (c : Int), 0 ≤ c → c + n = 52 → out.length ≤ c → Ev (fun k => impl_BaseCards.l0 k l out c) (out ++ baseF l n c) by
      simpa using H 52 [] 0 (by omega) (by omega) (by simp)
    intro n
    induction n with
    | zero =>
      intro out c h0 h1 h2
      have e : ¬ c < 52 := by omega
      refine ev_succ (ev_of_eq fun k => ?_)
      simp only [impl_BaseCards.l0, e, ↓reduceIte, baseF, List.append_nil]
    | succ n ih =>
      intro out c h0 h1 h2
      have e : c < 52 := by omega
      have e1 : 0 ≤ suitM c := (suitM_nonneg c).2 (by omega)
      have e2 : suitM c < (l.length : Int) := by have := suitM_range c; omega
      have e3 : out.length < 17592186044416 := by omega
      have e4 : wrap64 (c + 1) = c + 1 := w64 (by omega) (by omega)
      refine ev_succ ?_
      simp only [impl_BaseCards.l0, e, ↓reduceIte, impl_StepOf_f, impl_SuitOf_f, Option.bind_some, e1, e2, e3, e4, baseF, inBaseM]
      by_cases g : stepM c ≤ rd l (suitM c)
      · simp only [g, ↓reduceIte, decide_true]
        have := ih (out ++ [c]) (c + 1) (by omega) (by omega) (by simp; omega)
        simpa using this
      · simp only [g, ↓reduceIte, decide_false, Bool.false_eq_true]
        exact ih out (c + 1) (by omega) (by omega) (by omega)
  · simp only [hb, Bool.false_eq_true, ↓reduceIte]
    exact Ev.now _

theorem FnExactBaseCards : laws_FnExactBaseCards.Pure := by
  intro l h1 h2 h3
  refine Ev.rounds (g := fun k => laws_FnExactBaseCards.f k l) ?_
  by_cases hb : (l.length : Int) > 1048576
  · exact ev_of_eq fun k => by simp only [laws_FnExactBaseCards.f, hb, ↓reduceIte]
  · have hl : l.length ≤ 1099511627776 := by omega
    have hc : (baseCardsM l).length ≤ 1099511627776 := by
      have := baseF_len l 52 0
      unfold baseCardsM
      split
      · omega
      · simp
    simp only [laws_FnExactBaseCards.f, hb, ↓reduceIte]
    refine Ev.bind (laws_toIntS_ev l hl) ?_
    refine Ev.bind (spec_BaseCards_ev l hl) ?_
    refine Ev.bind (laws_toIntS_ev l hl) ?_
    refine Ev.bind (impl_BaseCards_ev l hl) ?_
    refine Ev.bind (laws_eqIntS_ev _ hc) ?_
    simp only [↓reduceIte]
    refine Ev.bind (laws_toIntS_ev l hl) ?_
    refine Ev.bind (laws_eqIntS_ev l hl) ?_
    simp only [↓reduceIte]
    refine Ev.bind (laws_markIntS_ev l hl 1 (by omega) (by omega)) ?_
    have n1 : ¬ (1 : Int) + (l.length : Int) < 0 := by omega
    simp only [n1, ↓reduceIte]
    refine Ev.bind (laws_eqIntS_ev _ hc) ?_
    refine ev_succ ?_
    simp only [laws_FnExactBaseCards.j0, Bool.not_true, Bool.false_eq_true, ↓reduceIte]
    refine Ev.bind (laws_markIntS_ev _ hc 1 (by omega) (by omega)) ?_
    refine Ev.bind (laws_heldIntS_ev _ hc 1 (by omega) (by omega)) ?_
    have n2 : ¬ (1 : Int) + ((baseCardsM l).length : Int) < 0 := by omega
    simp only [n2, ↓reduceIte]
    refine Ev.bind (laws_toIntS_ev l hl) ?_
    refine Ev.bind (impl_BaseCards_ev l hl) ?_
    refine Ev.bind (laws_eqIntS_ev _ hc) ?_
    simp only [↓reduceIte]
    refine Ev.bind (laws_heldIntS_ev _ hc 1 (by omega) (by omega)) ?_
    exact ev_of_eq fun k => by simp only [n2, ↓reduceIte]

end Go.Proofs.Ytjkjjpbapggpnaa.Pure
