/- The program's MayStack answers what the reference's answers, for all arguments. No condition but those that the statement itself names. -/
import Derived.Test.YtdakhelapeojgaaQFnExactMayStackx2
import Derived.Test.YtdakhelapeojgaaLib
namespace Go.Proofs.Ytdakhelapeojgaa.Pure
open Go.RowKit Go.Proofs.Ytdakhelapeojgaa.QFnExactMayStack Go.Proofs.YtdakhelapeojgaaW.PrintWords Go.Proofs.YtdakhelapeojgaaW.PrintLast Go.Proofs.YtdakhelapeojgaaW.PrintMore Go.Proofs.Ytdakhelapeojgaa.Lib
set_option linter.unusedVariables false
set_option linter.unusedSimpArgs false

/-! laws_szIntS -/
theorem laws_szIntS_f (l : List Int) (a : Int) (hl : l.length ≤ maxLen) (ha : 0 ≤ a) (ha2 : a ≤ 1048576) : ∃ v, laws_szIntS.f l a = some v ∧ (v < 0 ∨ (0 ≤ v ∧ v ≤ a ∧ l.length ≤ 1048576)) := by
  unfold maxLen at hl
  unfold laws_szIntS.f
  rw [w64 (by omega) (by omega)]
  by_cases h : (l.length : Int) ≤ a
  · exact ⟨_, if_neg (by omega), .inr (by omega)⟩
  · exact ⟨_, if_pos (by omega), .inl (by omega)⟩

/-! laws_szPile -/
theorem laws_szPile_f (l : List Int) (h a : Int) (hl : l.length ≤ maxLen) (ha : 0 ≤ a) (ha2 : a ≤ 1048576) : ∃ v, laws_szPile.f l h a = some v ∧ (v < 0 ∨ (0 ≤ v ∧ v ≤ a ∧ l.length ≤ 1048576)) := by
  unfold laws_szPile.f
  obtain ⟨v, e, h⟩ := laws_szIntS_f l a hl ha ha2
  simp only [e, Option.bind_some]
  rcases h with h | h
  · exact ⟨_, if_pos h, .inl (by omega)⟩
  · exact ⟨_, if_neg (by omega), .inr h⟩

/-! laws_toIntS -/
theorem laws_toIntS_ev (l : List Int) (hl : l.length ≤ 1099511627776) : Ev (fun k => laws_toIntS.f k l) l := by
  have e1 : (0 : Int) ≤ (l.length : Int) := by omega
  have e2 : ((l.length : Int) : Int).toNat ≤ 35184372088832 := by omega
  simp only [laws_toIntS.f, e1, e2, ↓reduceIte]
  refine loop_int_pre l hl (P := fun i pre rest => Ev (fun k => laws_toIntS.l0 k l (pre ++ List.replicate rest.length 0) i) l) ?_ ?_
  · refine ev_succ (ev_of_eq fun k => ?_)
    simp only [laws_toIntS.l0, Int.lt_irrefl, ↓reduceIte, List.length_nil, List.replicate_zero, List.append_nil]
  · intro i pre x rest hl' hi h0 h1 hx hw ih
    refine ev_succ ?_
    have h2 : i < ((pre ++ List.replicate (x :: rest).length 0 : List Int).length : Int) := by simp; omega
    simp only [laws_toIntS.l0, h1, h0, h2, ↓reduceIte, hx, hw]
    rw [List.length_cons, List.replicate_succ, set_mid pre _ i hi]
    exact ih

/-! laws_toPile -/
theorem laws_toPile_ev (l : List Int) (h : Int) (hl : l.length ≤ 1048576) : Ev (fun k => laws_toPile.f k l h) (l, h) := by
  simp only [laws_toPile.f]
  exact Ev.bind (laws_toIntS_ev l (by omega)) (Ev.now _)

/-! laws_eqIntS -/
theorem laws_eqIntS_ev (l : List Int) (hl : l.length ≤ 1099511627776) : Ev (fun k => laws_eqIntS.f k l l) true := by
  simp only [laws_eqIntS.f, ↓reduceIte]
  refine loop_int l hl (P := fun i _ => Ev (fun k => laws_eqIntS.l0 k l l i) true) ?_ ?_
  · refine ev_succ (ev_of_eq fun k => ?_)
    simp only [laws_eqIntS.l0, Int.lt_irrefl, ↓reduceIte]
  · intro i x rest h0 h1 hx _ hw ih
    refine ev_succ ?_
    simp only [laws_eqIntS.l0, h1, h0, ↓reduceIte, hw]
    exact ih

/-! laws_eqPile -/
theorem laws_eqPile_ev (l : List Int) (h : Int) (hl : l.length ≤ 1048576) : Ev (fun k => laws_eqPile.f k l h l h) true := by
  simp only [laws_eqPile.f, ↓reduceIte]
  refine Ev.bind (laws_eqIntS_ev l (by omega)) ?_
  exact ev_of_eq fun k => by simp only [↓reduceIte]

/-! spec_l1In -/
theorem spec_l1In_f (a b c : Int) : spec_l1In.f a b c = some (decide (b ≤ a ∧ a ≤ c)) := by
  unfold spec_l1In.f
  by_cases h : b ≤ a <;> simp [h]

/-! spec_IsCard -/
theorem spec_IsCard_f (a : Int) : spec_IsCard.f a = some (isCardM a) := by
  unfold spec_IsCard.f
  rw [spec_l1In_f]
  rfl

/-! spec_RankOf -/
theorem spec_RankOf_f (a : Int) : spec_RankOf.f a = some (rankM a) := by
  unfold spec_RankOf.f
  rw [spec_IsCard_f]
  unfold rankM isCardM
  by_cases h : 0 ≤ a ∧ a ≤ 51
  · simp [h, tmod13 a h.1]
  · simp [h]

/-! spec_SuitOf -/
theorem spec_SuitOf_f (a : Int) : spec_SuitOf.f a = some (suitM a) := by
  unfold spec_SuitOf.f
  rw [spec_IsCard_f]
  unfold suitM isCardM
  by_cases h : 0 ≤ a ∧ a ≤ 51
  · simp [h, tdiv13 a h.1 h.2]
  · simp [h]

/-! spec_IsRed -/
theorem spec_IsRed_f (c : Int) : spec_IsRed.f c = some (isRedM c) := by
  simp only [spec_IsRed.f, spec_SuitOf_f, spec_l1In_f, Option.bind_some, isRedM]

/-! spec_l16Step -/
theorem spec_l16Step_f (a b : Int) : spec_l16Step.f a b = some (goesM a b) := by
  have := rankM_range b
  simp only [spec_l16Step.f, spec_RankOf_f, spec_IsRed_f, Option.bind_some, goesM]
  rw [w64 (by omega) (by omega)]
  by_cases h : rankM a = rankM b + 1
  · simp [h]
  · simp [h]

/-! spec_HasCard -/
theorem spec_HasCard_ev (l : List Int) (c : Int) (hl : l.length ≤ 1099511627776) : Ev (fun k => spec_HasCard.f k l c) (l.contains c) := by
  simp only [spec_HasCard.f]
  refine loop_int l hl (P := fun i rest => Ev (fun k => spec_HasCard.l0 k l c i) (rest.contains c)) ?_ ?_
  · refine ev_succ (ev_of_eq fun k => ?_)
    simp only [spec_HasCard.l0, Int.lt_irrefl, ↓reduceIte, List.contains_nil]
  · intro i x rest h0 h1 hx _ hw ih
    refine ev_succ ?_
    simp only [spec_HasCard.l0, h1, h0, ↓reduceIte, hx, hw]
    by_cases h : x = c
    · refine ev_of_eq fun k => ?_
      simp [h]
    · have h' : ¬ c = x := fun e => h e.symm
      simp only [h, ↓reduceIte]
      refine ev_eq ih ?_
      simp [h']

/-! spec_IsHand -/
theorem spec_IsHand_ev (l : List Int) (hl : l.length ≤ 1099511627776) : Ev (fun k => spec_IsHand.f k l) (isHandM l) := by
  simp only [spec_IsHand.f, isHandM]
  refine loop_int_pre l hl (P := fun i pre rest => Ev (fun k => spec_IsHand.l0 k l i) (handP pre rest)) ?_ ?_
  · refine ev_succ (ev_of_eq fun k => ?_)
    simp only [spec_IsHand.l0, Int.lt_irrefl, ↓reduceIte, handP]
  · intro i pre x rest hl' hi h0 h1 hx hw ih
    refine ev_succ ?_
    have h2 : i ≤ (l.length : Int) := by omega
    have ht : l.take i.toNat = pre := by
      rw [hl', hi, Int.toNat_natCast]
      simp
    simp only [spec_IsHand.l0, h1, h0, h2, ↓reduceIte, hx, hw, ht, spec_IsCard_f, Option.bind_some, handP]
    cases hc : isCardM x
    · refine ev_of_eq fun k => ?_
      simp
    · simp only [↓reduceIte, Bool.true_and]
      refine Ev.bind (spec_HasCard_ev pre x (by rw [hl'] at hl; simp at hl; omega)) ?_
      cases hp : pre.contains x
      · simp only [Bool.false_eq_true, ↓reduceIte, Bool.not_false, Bool.true_and]
        exact ih
      · refine ev_of_eq fun k => ?_
        simp

/-! spec_IsPile -/
theorem spec_IsPile_ev (l : List Int) (h : Int) (hl : l.length ≤ 1048576) : Ev (fun k => spec_IsPile.f k l h) (isPileM l h) := by
  simp only [spec_IsPile.f, spec_l1In_f, Option.bind_some, isPileM]
  refine Ev.bind (spec_IsHand_ev l (by omega)) ?_
  cases hh : isHandM l
  · refine ev_succ (ev_of_eq fun k => ?_)
    simp [spec_IsPile.j0]
  · simp only [↓reduceIte, Bool.true_and]
    refine ev_succ ?_
    by_cases hr : 0 ≤ h ∧ h ≤ (l.length : Int)
    · simp only [spec_IsPile.j0, hr, and_self, decide_true, Bool.not_true, Bool.false_eq_true, ↓reduceIte, Bool.true_and]
      rw [w64 (n := h + 1) (by omega) (by omega)]
      suffices H : ∀ (n : Nat) (i : Int), 1 ≤ i → n = ((l.length : Int) - i).toNat → i ≤ (l.length : Int) + 1 → Ev (fun k => spec_IsPile.l0 k i l h) (pileF l n i) from H _ _ (by omega) rfl (by omega)
      intro n
      induction n with
      | zero =>
        intro i h1 hn h2
        have e : ¬ i < (l.length : Int) := by omega
        refine ev_succ (ev_of_eq fun k => ?_)
        simp only [spec_IsPile.l0, e, ↓reduceIte, pileF]
      | succ n ih =>
        intro i h1 hn h2
        have e1 : i < (l.length : Int) := by omega
        have e2 : wrap64 (i - 1) = i - 1 := w64 (by omega) (by omega)
        have e3 : wrap64 (i + 1) = i + 1 := w64 (by omega) (by omega)
        have e4 : 0 ≤ i - 1 := by omega
        have e5 : i - 1 < (l.length : Int) := by omega
        have e6 : 0 ≤ i := by omega
        refine ev_succ ?_
        simp only [spec_IsPile.l0, e1, e2, e3, e4, e5, e6, ↓reduceIte, spec_l16Step_f, Option.bind_some, pileF]
        cases goesM (rd l (i - 1)) (rd l i)
        · exact Ev.now _
        · simp only [↓reduceIte, Bool.true_and]
          exact ih _ (by omega) (by omega) (by omega)
    · refine ev_of_eq fun k => ?_
      simp [spec_IsPile.j0, hr]

/-! spec_TopOf -/
theorem spec_TopOf_f (l : List Int) (h : Int) (hl : l.length ≤ 1048576) : spec_TopOf.f l h = some (topM l) := by
  unfold spec_TopOf.f topM
  by_cases hz : l.length = 0
  · rw [if_pos hz, if_pos (by omega)]
  · have w1 : wrap64 ((l.length : Int) - 1) = (l.length : Int) - 1 := w64 (by omega) (by omega)
    rw [if_neg hz, if_neg (by omega), w1, if_pos (by omega), if_pos (by omega)]

/-! spec_MayStack -/
theorem spec_MayStack_ev (l : List Int) (h c : Int) (hl : l.length ≤ 1048576) : Ev (fun k => spec_MayStack.f k l h c) (mayStackM l h c) := by
  simp only [spec_MayStack.f, spec_IsCard_f, Option.bind_some, mayStackM]
  refine Ev.bind (spec_IsPile_ev l h hl) ?_
  cases isPileM l h
  · refine ev_succ (ev_of_eq fun k => ?_)
    simp [spec_MayStack.j0]
  · cases isCardM c
    · refine ev_succ (ev_of_eq fun k => ?_)
      simp [spec_MayStack.j0]
    · simp only [↓reduceIte, Bool.true_and]
      refine Ev.bind (spec_HasCard_ev l c (by omega)) ?_
      cases l.contains c
      · refine ev_succ (ev_of_eq fun k => ?_)
        simp only [spec_MayStack.j0, Bool.false_eq_true, ↓reduceIte, Bool.not_false, Bool.true_and, spec_RankOf_f, spec_TopOf_f l h hl, spec_l16Step_f, Option.bind_some]
        by_cases hz : l.length = 0
        · have hz' : (l.length : Int) = 0 := by omega
          rw [if_pos hz, if_pos hz']
          congr 1
        · have hz' : ¬ (l.length : Int) = 0 := by omega
          rw [if_neg hz, if_neg hz']
          by_cases hh : h < (l.length : Int) <;> simp [hh]
      · refine ev_succ (ev_of_eq fun k => ?_)
        simp [spec_MayStack.j0]

/-! impl_InRange -/
theorem impl_InRange_f (a b c : Int) : impl_InRange.f a b c = some (decide (b ≤ a ∧ a ≤ c)) := by
  unfold impl_InRange.f
  by_cases h : b ≤ a <;> simp [h]

/-! impl_IsCard -/
theorem impl_IsCard_f (a : Int) : impl_IsCard.f a = some (isCardM a) := by
  unfold impl_IsCard.f
  rw [impl_InRange_f]
  rfl

/-! impl_RankOf -/
theorem impl_RankOf_f (a : Int) : impl_RankOf.f a = some (rankM a) := by
  unfold impl_RankOf.f
  rw [impl_IsCard_f]
  unfold rankM isCardM
  by_cases h : 0 ≤ a ∧ a ≤ 51
  · simp [h, tmod13 a h.1]
  · simp [h]

/-! impl_SuitOf -/
theorem impl_SuitOf_f (a : Int) : impl_SuitOf.f a = some (suitM a) := by
  unfold impl_SuitOf.f
  rw [impl_IsCard_f]
  unfold suitM isCardM
  by_cases h : 0 ≤ a ∧ a ≤ 51
  · simp [h, tdiv13 a h.1 h.2]
  · simp [h]

/-! impl_IsRed -/
theorem impl_IsRed_f (c : Int) : impl_IsRed.f c = some (isRedM c) := by
  simp only [impl_IsRed.f, impl_SuitOf_f, Option.bind_some, isRedM]
  by_cases h : suitM c = 1
  · simp [h]
  · simp only [h, ↓reduceIte]
    congr 1
    rw [Bool.eq_iff_iff]
    simp
    omega

/-! impl_goesOn -/
theorem impl_goesOn_f (a b : Int) : impl_goesOn.f a b = some (goesM a b) := by
  have := rankM_range a
  simp only [impl_goesOn.f, impl_RankOf_f, impl_IsRed_f, Option.bind_some, goesM]
  rw [w64 (by omega) (by omega)]
  by_cases h : rankM a = rankM b + 1
  · have h' : rankM b = rankM a - 1 := by omega
    rw [if_pos h', decide_eq_true h]
    cases isRedM a <;> cases isRedM b <;> rfl
  · have h' : ¬ rankM b = rankM a - 1 := by omega
    simp [h, h']

/-! impl_IsHand -/
theorem impl_IsHand_f (l : List Int) : impl_IsHand.f l = some (isHandM l) := by
  suffices H : ∀ (rest pre : List Int) (seen : List Bool), seen.length = 52 → (∀ c : Int, 0 ≤ c → c ≤ 51 → seen.getD c.toNat false = pre.contains c) → impl_IsHand.handF seen rest = handP pre rest by
    unfold impl_IsHand.f isHandM
    rw [H l [] _ List.length_replicate (fun c h0 h1 => by rw [getD_replicate_false]; rfl)]
  intro rest
  induction rest with
  | nil => intro pre seen _ _; cases seen <;> rfl
  | cons x rest ih =>
    intro pre seen hs hp
    unfold impl_IsHand.handF handP isCardM
    by_cases h : 0 ≤ x ∧ x ≤ 51
    · simp only [h, and_self, ↓reduceIte, decide_true, Bool.true_and, hp x h.1 h.2]
      cases hc : pre.contains x
      · simp only [Bool.false_eq_true, ↓reduceIte, Bool.not_false, Bool.true_and]
        refine ih _ _ (by simp [hs]) (fun c h0 h1 => ?_)
        by_cases e : c = x
        · subst e
          have : c.toNat < seen.length := by omega
          simp [List.getD_eq_getElem?_getD, List.getElem?_set, this]
        · have e' : ¬ x.toNat = c.toNat := by omega
          have := hp c h0 h1
          simp only [List.getD_eq_getElem?_getD] at this ⊢
          rw [List.getElem?_set_ne e', this]
          simp [e]
      · simp
    · simp [h]

/-! impl_IsPile -/
theorem impl_IsPile_ev (l : List Int) (h : Int) (hl : l.length ≤ 1048576) : Ev (fun k => impl_IsPile.f k l h) (isPileM l h) := by
  simp only [impl_IsPile.f, impl_InRange_f, Option.bind_some, isPileM]
  simp only [impl_IsHand_f, Option.bind_some]
  cases hh : isHandM l
  · refine ev_succ (ev_of_eq fun k => ?_)
    simp [impl_IsPile.j0]
  · simp only [↓reduceIte, Bool.true_and]
    refine ev_succ ?_
    by_cases hr : 0 ≤ h ∧ h ≤ (l.length : Int)
    · simp only [impl_IsPile.j0, hr, and_self, decide_true, Bool.not_true, Bool.false_eq_true, ↓reduceIte, Bool.true_and]
      rw [w64 (n := h + 1) (by omega) (by omega)]
      suffices H : ∀ (n : Nat) (i : Int), 1 ≤ i → n = ((l.length : Int) - i).toNat → i ≤ (l.length : Int) + 1 → Ev (fun k => impl_IsPile.l0 k i l h) (pileF l n i) from H _ _ (by omega) rfl (by omega)
      intro n
      induction n with
      | zero =>
        intro i h1 hn h2
        have e : ¬ i < (l.length : Int) := by omega
        refine ev_succ (ev_of_eq fun k => ?_)
        simp only [impl_IsPile.l0, e, ↓reduceIte, pileF]
      | succ n ih =>
        intro i h1 hn h2
        have e1 : i < (l.length : Int) := by omega
        have e2 : wrap64 (i - 1) = i - 1 := w64 (by omega) (by omega)
        have e3 : wrap64 (i + 1) = i + 1 := w64 (by omega) (by omega)
        have e4 : 0 ≤ i - 1 := by omega
        have e5 : i - 1 < (l.length : Int) := by omega
        have e6 : 0 ≤ i := by omega
        refine ev_succ ?_
        simp only [impl_IsPile.l0, e1, e2, e3, e4, e5, e6, ↓reduceIte, impl_goesOn_f, Option.bind_some, pileF]
        cases goesM (rd l (i - 1)) (rd l i)
        · exact Ev.now _
        · simp only [↓reduceIte, Bool.true_and]
          exact ih _ (by omega) (by omega) (by omega)
    · refine ev_of_eq fun k => ?_
      simp [impl_IsPile.j0, hr]

/-! impl_PlaceOf -/
/-- Where a number stands first, from place i on. -/
def placeF (c : Int) : Int → List Int → Int
  | _, [] => -1
  | i, x :: r => if x = c then i else placeF c (i + 1) r
theorem placeF_iff (c : Int) : ∀ (r : List Int) (i : Int), 0 ≤ i → (decide (placeF c i r ≥ 0) = r.contains c) := by
  intro r
  induction r with
  | nil => intro i h; simp [placeF]
  | cons x r ih =>
    intro i h
    unfold placeF
    by_cases e : x = c
    · simp [e, h]
    · have e' : ¬ c = x := fun g => e g.symm
      rw [if_neg e, ih (i + 1) (by omega)]
      simp [e']
theorem impl_PlaceOf_ev (l : List Int) (c : Int) (hl : l.length ≤ 1099511627776) : Ev (fun k => impl_PlaceOf.f k l c) (placeF c 0 l) := by
  simp only [impl_PlaceOf.f]
  refine loop_int l hl (P := fun i rest => Ev (fun k => impl_PlaceOf.l0 k c l (l.length : Int) i) (placeF c i rest)) ?_ ?_
  · refine ev_succ (ev_of_eq fun k => ?_)
    simp only [impl_PlaceOf.l0, Int.lt_irrefl, ↓reduceIte, placeF]
  · intro i x rest h0 h1 hx _ hw ih
    refine ev_succ ?_
    simp only [impl_PlaceOf.l0, h1, h0, ↓reduceIte, hx, hw, placeF]
    by_cases h : x = c
    · simp only [h, ↓reduceIte]
      exact Ev.now _
    · simp only [h, ↓reduceIte]
      exact ih

/-! impl_HasCard -/
theorem impl_HasCard_ev (l : List Int) (c : Int) (hl : l.length ≤ 1099511627776) : Ev (fun k => impl_HasCard.f k l c) (l.contains c) := by
  simp only [impl_HasCard.f]
  refine Ev.bind (impl_PlaceOf_ev l c hl) ?_
  rw [placeF_iff c l 0 (by omega)]
  exact Ev.now _

/-! impl_TopOf -/
theorem impl_TopOf_f (l : List Int) (h : Int) (hl : l.length ≤ 1048576) : impl_TopOf.f l h = some (topM l) := by
  unfold impl_TopOf.f topM
  by_cases hz : l.length = 0
  · rw [if_pos hz, if_pos (by omega)]
  · have w1 : wrap64 ((l.length : Int) - 1) = (l.length : Int) - 1 := w64 (by omega) (by omega)
    rw [if_neg hz, if_neg (by omega), w1, if_pos (by omega), if_pos (by omega)]

/-! impl_MayStack -/
theorem impl_MayStack_ev (l : List Int) (h c : Int) (hl : l.length ≤ 1048576) : Ev (fun k => impl_MayStack.f k l h c) (mayStackM l h c) := by
  simp only [impl_MayStack.f, impl_IsCard_f, Option.bind_some, mayStackM]
  refine Ev.bind (impl_IsPile_ev l h hl) ?_
  cases isPileM l h
  · refine ev_succ (ev_of_eq fun k => ?_)
    simp [impl_MayStack.j0]
  · cases isCardM c
    · refine ev_succ (ev_of_eq fun k => ?_)
      simp [impl_MayStack.j0]
    · simp only [↓reduceIte, Bool.true_and]
      refine Ev.bind (impl_HasCard_ev l c (by omega)) ?_
      cases l.contains c
      · refine ev_succ (ev_of_eq fun k => ?_)
        simp only [impl_MayStack.j0, Bool.false_eq_true, ↓reduceIte, Bool.not_false, Bool.true_and, impl_RankOf_f, impl_TopOf_f l h hl, impl_goesOn_f, Option.bind_some]
        by_cases hz : l.length = 0
        · have hz' : (l.length : Int) = 0 := by omega
          rw [if_pos hz, if_pos hz']
          congr 1
        · have hz' : ¬ (l.length : Int) = 0 := by omega
          rw [if_neg hz, if_neg hz']
          by_cases hh : h < (l.length : Int) <;> simp [hh]
      · refine ev_succ (ev_of_eq fun k => ?_)
        simp [impl_MayStack.j0]

/-- The pure statement. -/
def FnExactMayStack_Stmt : Prop := ∀ (a0_0 : (List Int)) (a0_1 : Int) (a1 : Int), a0_0.length ≤ maxLen → (∀ y ∈ a0_0, (Lit.int .i64 y).wf = true) → (Lit.int .i64 a0_1).wf = true → (Lit.int .i64 a1).wf = true → ∃ k, laws_FnExactMayStack.f k a0_0 a0_1 a1 = some true
theorem FnExactMayStack : FnExactMayStack_Stmt := by
  intro a0_0 a0_1 a1 ma0_0 oa0_0 oa0_1 oa1
  refine Ev.rounds (g := fun k => laws_FnExactMayStack.f k a0_0 a0_1 a1) ?_
  simp only [laws_FnExactMayStack.f]
  obtain ⟨v0, e0, z0⟩ := laws_szPile_f a0_0 a0_1 1048576 ma0_0 (by omega) (by omega)
  simp only [e0, Option.bind_some]
  rcases z0 with z0 | ⟨y0, x0, sa0_0⟩
  · exact ev_of_eq fun k => by simp only [z0, ↓reduceIte]
  have n0 : ¬ v0 < 0 := by omega
  simp only [n0, ↓reduceIte]
  refine Ev.bind (laws_toPile_ev a0_0 a0_1 sa0_0) ?_
  refine Ev.bind (spec_MayStack_ev a0_0 a0_1 a1 sa0_0) ?_
  refine Ev.bind (laws_toPile_ev a0_0 a0_1 sa0_0) ?_
  refine Ev.bind (impl_MayStack_ev a0_0 a0_1 a1 sa0_0) ?_
  simp only [bne_self_eq_false, Bool.false_eq_true, ↓reduceIte]
  refine Ev.bind (laws_toPile_ev a0_0 a0_1 sa0_0) ?_
  refine Ev.bind (laws_eqPile_ev a0_0 a0_1 sa0_0) ?_
  exact ev_of_eq fun k => by simp only [↓reduceIte]

end Go.Proofs.Ytdakhelapeojgaa.Pure
