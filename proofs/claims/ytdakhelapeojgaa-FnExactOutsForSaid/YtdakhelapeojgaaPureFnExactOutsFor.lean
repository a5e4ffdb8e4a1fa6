/- The program's OutsFor answers what the reference's answers, for all arguments. No condition but those that the statement itself names. -/
import Derived.Test.YtdakhelapeojgaaQFnExactOutsForx3
import Derived.Test.YtdakhelapeojgaaLib
import Derived.Test.YtdakhelapeojgaaLibM
namespace Go.Proofs.Ytdakhelapeojgaa.Pure
open Go.RowKit Go.Proofs.Ytdakhelapeojgaa.QFnExactOutsFor Go.Proofs.YtdakhelapeojgaaW.PrintWords Go.Proofs.YtdakhelapeojgaaW.PrintLast Go.Proofs.YtdakhelapeojgaaW.PrintMore Go.Proofs.Ytdakhelapeojgaa.Lib
set_option linter.unusedVariables false
set_option linter.unusedSimpArgs false

/-! laws_toIntS -/
theorem laws_toIntS_ev (l : List Int) (hl : l.length ≤ 1099511627776) : Ev (fun k => laws_toIntS.f k l) l := by
  have e1 : (0 : Int) ≤ (l.length : Int) := by omega
  have e2 : ((l.length : Int) : Int).toNat ≤ 35184372088832 := by omega
  simp only [laws_toIntS.f, e1, e2, ↓reduceIte]
  refine loop_int_pre l hl (P := fun i pre rest => Ev (fun k => laws_toIntS.l0 k l (pre ++ List.replicate rest.length 0) i) l) ?_ ?_
  · refine ev_succ (ev_of_eq fun k => ?_)
    simp only [laws_toIntS.l0, Int.lt_irrefl, ↓reduceIte, List.length_nil, List.replicate_zero, List.append_nil]
  · intro i pre x rest hl' hi h0 h1 hx hw ih
    refine ev_succ ?_
    have h2 : i < ((pre ++ List.replicate (x :: rest).length 0 : List Int).length : Int) := by simp; omega
    simp only [laws_toIntS.l0, h1, h0, h2, ↓reduceIte, hx, hw]
    rw [List.length_cons, List.replicate_succ, set_mid pre _ i hi]
    exact ih

/-! laws_eqIntS -/
theorem laws_eqIntS_ev (l : List Int) (hl : l.length ≤ 1099511627776) : Ev (fun k => laws_eqIntS.f k l l) true := by
  simp only [laws_eqIntS.f, ↓reduceIte]
  refine loop_int l hl (P := fun i _ => Ev (fun k => laws_eqIntS.l0 k l l i) true) ?_ ?_
  · refine ev_succ (ev_of_eq fun k => ?_)
    simp only [laws_eqIntS.l0, Int.lt_irrefl, ↓reduceIte]
  · intro i x rest h0 h1 hx _ hw ih
    refine ev_succ ?_
    simp only [laws_eqIntS.l0, h1, h0, ↓reduceIte, hw]
    exact ih

/-! spec_HasCard -/
theorem spec_HasCard_ev (l : List Int) (c : Int) (hl : l.length ≤ 1099511627776) : Ev (fun k => spec_HasCard.f k l c) (l.contains c) := by
  simp only [spec_HasCard.f]
  refine loop_int l hl (P := fun i rest => Ev (fun k => spec_HasCard.l0 k l c i) (rest.contains c)) ?_ ?_
  · refine ev_succ (ev_of_eq fun k => ?_)
    simp only [spec_HasCard.l0, Int.lt_irrefl, ↓reduceIte, List.contains_nil]
  · intro i x rest h0 h1 hx _ hw ih
    refine ev_succ ?_
    simp only [spec_HasCard.l0, h1, h0, ↓reduceIte, hx, hw]
    by_cases h : x = c
    · refine ev_of_eq fun k => ?_
      simp [h]
    · have h' : ¬ c = x := fun e => h e.symm
      simp only [h, ↓reduceIte]
      refine ev_eq ih ?_
      simp [h']

/-! spec_Missing -/
theorem spec_Missing_ev (l : List Int) (hl : l.length ≤ 1099511627776) : Ev (fun k => spec_Missing.f k l) (missingM l) := by
  simp only [spec_Missing.f, missingM]
  suffices H : ∀ (n : Nat) (out : List Int) (c : Int), 0 ≤ c → c + n = 52 → out.length ≤ c → Ev (fun k => spec_Missing.l0 k l out c) (out ++ missF l n c) by
    simpa using H 52 [] 0 (by omega) (by omega) (by simp)
  intro n
  induction n with
  | zero =>
    intro out c h0 h1 h2
    have e : ¬ c < 52 := by omega
    refine ev_succ (ev_of_eq fun k => ?_)
    simp only [spec_Missing.l0, e, ↓reduceIte, missF, List.append_nil]
  | succ n ih =>
    intro out c h0 h1 h2
    have e : c < 52 := by omega
    have e3 : out.length < 17592186044416 := by omega
    have e4 : wrap64 (c + 1) = c + 1 := w64 (by omega) (by omega)
    refine ev_succ ?_
    simp only [spec_Missing.l0, e, ↓reduceIte, missF]
    refine Ev.bind (spec_HasCard_ev l c hl) ?_
    cases hc : l.contains c
    · simp only [Bool.false_eq_true, ↓reduceIte, e3, e4]
      have := ih (out ++ [c]) (c + 1) (by omega) (by omega) (by simp; omega)
      simpa using this
    · simp only [↓reduceIte, e4]
      exact ih out (c + 1) (by omega) (by omega) (by omega)

/-! spec_l1In -/
theorem spec_l1In_f (a b c : Int) : spec_l1In.f a b c = some (decide (b ≤ a ∧ a ≤ c)) := by
  unfold spec_l1In.f
  by_cases h : b ≤ a <;> simp [h]

/-! spec_IsCard -/
theorem spec_IsCard_f (a : Int) : spec_IsCard.f a = some (isCardM a) := by
  unfold spec_IsCard.f
  rw [spec_l1In_f]
  rfl

/-! spec_l8Leaf -/
theorem spec_l8Leaf_f (s : Int) : spec_l8Leaf.f s = some (leafM s) := by
  simp only [spec_l8Leaf.f, spec_l1In_f, Option.bind_some, leafM]
  by_cases h1 : 100 ≤ s ∧ s ≤ 103
  · simp [h1]
  by_cases h2 : 200 ≤ s ∧ s ≤ 212
  · simp [h1, h2]
  by_cases h3 : 300 ≤ s ∧ s ≤ 312
  · simp [h1, h2, h3]
  simp [h1, h2, h3]

/-! spec_IsPattern -/
theorem spec_IsPattern_ev (l : List Int) (hl : l.length ≤ 1099511627776) : Ev (fun k => spec_IsPattern.f k l) (isPatM l) := by
  simp only [spec_IsPattern.f, isPatM]
  refine loop_int l hl (P := fun i rest => ∀ n, 0 ≤ n → n ≤ i → Ev (fun k => spec_IsPattern.l0 k l n i) (patEnd l.length (patF rest n))) ?_ ?_ 0 (by omega) (by omega)
  · intro n hn hi
    refine ev_succ (ev_of_eq fun k => ?_)
    simp only [spec_IsPattern.l0, Int.lt_irrefl, ↓reduceIte, patF, patEnd]
    by_cases h : n = 1
    · simp only [h, ↓reduceIte, decide_true, Bool.true_and]
      congr 1
      rw [Bool.eq_iff_iff]
      simp
      omega
    · simp [h]
  · intro i x rest h0 h1 hx _ hw ih n hn hi
    refine ev_succ ?_
    have w1 : wrap64 (n + 1) = n + 1 := w64 (by omega) (by omega)
    simp only [spec_IsPattern.l0, h1, h0, ↓reduceIte, hx, hw, spec_l8Leaf_f, Option.bind_some, patF, w1]
    by_cases g1 : leafM x = true
    · simp only [g1, ↓reduceIte]
      exact ih _ (by omega) (by omega)
    · simp only [g1, Bool.false_eq_true, ↓reduceIte]
      by_cases g2 : x = -1
      · have e2 : ¬ x = -2 := by omega
        have e3 : ¬ x = -3 := by omega
        by_cases g3 : 1 ≤ n
        · have g3' : decide (n ≥ 1) = true := by simp; omega
          simp only [g2, g3, g3', ↓reduceIte, and_self]
          refine ev_succ ?_
          simp only [spec_IsPattern.j1, ↓reduceIte, hw]
          exact ih _ (by omega) (by omega)
        · have g3' : decide (n ≥ 1) = false := by simp; omega
          refine ev_succ (ev_of_eq fun k => ?_)
          simp only [spec_IsPattern.j1, g2, g3', g3, h1, h0, hx, ↓reduceIte, Bool.false_eq_true]
          simp [patEnd, e2, e3, g2, g3]
      · simp only [g2, ↓reduceIte, false_and]
        refine ev_succ ?_
        simp only [spec_IsPattern.j1, h1, h0, hx, hw, ↓reduceIte, Bool.false_eq_true, ge_iff_le]
        have w2 : 2 ≤ n → wrap64 (n - 1) = n - 1 := fun _ => w64 (by omega) (by omega)
        by_cases g4 : x = -2
        · by_cases g5 : 2 ≤ n
          · simp only [g4, g5, w2 g5, ↓reduceIte, true_or, and_self]
            exact ih _ (by omega) (by omega)
          · refine ev_of_eq fun k => ?_
            simp [g4, g5, patEnd]
        · by_cases g6 : x = -3
          · by_cases g5 : 2 ≤ n
            · simp only [g4, g6, g5, w2 g5, ↓reduceIte, or_true, and_self]
              exact ih _ (by omega) (by omega)
            · refine ev_of_eq fun k => ?_
              simp [g6, g5, patEnd]
          · refine ev_of_eq fun k => ?_
            simp [g4, g6, patEnd]

/-! spec_RankOf -/
theorem spec_RankOf_f (a : Int) : spec_RankOf.f a = some (rankM a) := by
  unfold spec_RankOf.f
  rw [spec_IsCard_f]
  unfold rankM isCardM
  by_cases h : 0 ≤ a ∧ a ≤ 51
  · simp [h, tmod13 a h.1]
  · simp [h]

/-! spec_SuitOf -/
theorem spec_SuitOf_f (a : Int) : spec_SuitOf.f a = some (suitM a) := by
  unfold spec_SuitOf.f
  rw [spec_IsCard_f]
  unfold suitM isCardM
  by_cases h : 0 ≤ a ∧ a ≤ 51
  · simp [h, tdiv13 a h.1 h.2]
  · simp [h]

/-! spec_IsRed -/
theorem spec_IsRed_f (c : Int) : spec_IsRed.f c = some (isRedM c) := by
  simp only [spec_IsRed.f, spec_SuitOf_f, spec_l1In_f, Option.bind_some, isRedM]

/-! spec_l8Value -/
theorem spec_ask_f (s c : Int) : spec_l8Value.f s c = some (askM s c) := by
  unfold spec_l8Value.f askM
  by_cases h1 : s = 400
  · simp only [h1, ↓reduceIte, spec_IsRed_f, Option.bind_some]
  · by_cases h2 : s ≥ 300
    · simp only [h1, h2, ↓reduceIte, spec_RankOf_f, Option.bind_some]
    · by_cases h3 : s ≥ 200
      · simp only [h1, h2, h3, ↓reduceIte, spec_RankOf_f, Option.bind_some]
      · simp only [h1, h2, h3, ↓reduceIte, spec_SuitOf_f, Option.bind_some]

/-! spec_Matches -/
theorem spec_Matches_l0 (p : List Int) (c : Int) (hl : p.length ≤ 20) (hp : patF p 0 = some 1) : Ev (fun k => spec_Matches.l0 k p c [] 0) (matchF c p []) := by
  suffices H : ∀ x : List Bool, (x.length : Int) ≤ 0 → patF p (x.length : Int) = some 1 → Ev (fun k => spec_Matches.l0 k p c x 0) (matchF c p x) from H [] (by simp) hp
  refine loop_int p (by omega) (P := fun i rest => ∀ x : List Bool, (x.length : Int) ≤ i → patF rest (x.length : Int) = some 1 → Ev (fun k => spec_Matches.l0 k p c x i) (matchF c rest x)) ?_ ?_
  · intro x hx he
    have h1 : 0 < (x.length : Int) := by simp only [patF, Option.some.injEq] at he; omega
    refine ev_succ (ev_of_eq fun k => ?_)
    simp only [spec_Matches.l0, Int.lt_irrefl, h1, ↓reduceIte, matchF]
  · intro i s rest h0 h1 hs hm hw ih x hx he
    refine ev_succ ?_
    have b : x.length < 140737488355328 := by omega
    have w1 : wrap64 ((x.length : Int) - 1) = (x.length : Int) - 1 := w64 (by omega) (by omega)
    have w2 : wrap64 ((x.length : Int) - 2) = (x.length : Int) - 2 := w64 (by omega) (by omega)
    rcases patF_step he with ⟨e1, e2, e3, e4⟩ | ⟨e1, e2, e4⟩ | ⟨e1, e2, e4⟩
    · simp only [spec_Matches.l0, h1, h0, hs, e1, e2, e3, b, hw, ↓reduceIte, spec_ask_f, Option.bind_some, matchF]
      exact ih (x ++ [askM s c]) (by simp; omega) (by simpa using e4)
    · have g1 : 0 ≤ (x.length : Int) - 1 := by omega
      have g2 : (x.length : Int) - 1 < (x.length : Int) := by omega
      simp only [spec_Matches.l0, h1, h0, hs, e1, w1, g1, g2, hw, ↓reduceIte, matchF]
      exact ih _ (by rw [List.length_set]; omega) (by rw [List.length_set]; exact e4)
    · have g1 : 0 ≤ (x.length : Int) - 2 := by omega
      have g2 : (x.length : Int) - 2 < (x.length : Int) := by omega
      have g3 : (x.length : Int) - 2 ≤ (x.length : Int) := by omega
      have g4 : 0 ≤ (x.length : Int) - 1 := by omega
      have g5 : (x.length : Int) - 1 < (x.length : Int) := by omega
      have tl : (x.take ((x.length : Int) - 2).toNat).length = ((x.length : Int) - 2).toNat := by rw [List.length_take]; omega
      have g6 : (x.take ((x.length : Int) - 2).toNat).length < 140737488355328 := by omega
      have nx : ∀ y : Bool, Ev (fun k => spec_Matches.l0 k p c (x.take ((x.length : Int) - 2).toNat ++ [y]) (i + 1)) (matchF c rest (x.take ((x.length : Int) - 2).toNat ++ [y])) := by
        intro y
        have ln : ((x.take ((x.length : Int) - 2).toNat ++ [y]).length : Int) = (x.length : Int) - 1 := by rw [List.length_append, tl]; simp; omega
        exact ih _ (by omega) (by rw [ln]; exact e4)
      rcases e1 with e1 | e1
      · have z : ¬ (-2 : Int) = -1 := by omega
        cases hv : rdOf false x ((x.length : Int) - 2)
        · simp only [spec_Matches.l0, h1, h0, hs, e1, z, w1, w2, g1, g2, g3, g4, g5, g6, hv, hw, Option.bind_some, Bool.false_eq_true, Bool.false_and, ↓reduceIte, matchF]
          exact nx false
        · simp only [spec_Matches.l0, h1, h0, hs, e1, z, w1, w2, g1, g2, g3, g4, g5, g6, hv, hw, Option.bind_some, Bool.true_and, ↓reduceIte, matchF]
          exact nx _
      · have z : ¬ (-3 : Int) = -1 := by omega
        have z2 : ¬ (-3 : Int) = -2 := by omega
        cases hv : rdOf false x ((x.length : Int) - 2)
        · simp only [spec_Matches.l0, h1, h0, hs, e1, z, z2, w1, w2, g1, g2, g3, g4, g5, g6, hv, hw, Option.bind_some, Bool.false_eq_true, Bool.false_or, ↓reduceIte, matchF]
          exact nx _
        · simp only [spec_Matches.l0, h1, h0, hs, e1, z, z2, w1, w2, g1, g2, g3, g4, g5, g6, hv, hw, Option.bind_some, Bool.true_or, ↓reduceIte, matchF]
          exact nx true
theorem spec_Matches_ev (p : List Int) (c : Int) (hl : p.length ≤ 1099511627776) : Ev (fun k => spec_Matches.f k p c) (matchM p c) := by
  simp only [spec_Matches.f, spec_IsCard_f, Option.bind_some, matchM]
  refine Ev.bind (spec_IsPattern_ev p hl) ?_
  cases hp : isPatM p
  · simp only [Bool.false_eq_true, ↓reduceIte, Bool.false_and]
    exact ev_succ (ev_of_eq fun k => by simp only [spec_Matches.j0, ↓reduceIte])
  · simp only [↓reduceIte, Bool.true_and]
    refine ev_succ ?_
    cases hc : isCardM c
    · exact ev_of_eq fun k => by simp only [spec_Matches.j0, Bool.not_false, ↓reduceIte, Bool.false_and]
    · simp only [spec_Matches.j0, Bool.not_true, Bool.false_eq_true, ↓reduceIte, Bool.true_and]
      obtain ⟨h1, h2⟩ := isPatM_run hp
      exact spec_Matches_l0 p c h2 h1

/-! spec_CountMatches -/
theorem spec_CountMatches_ev (p l : List Int) (hp : p.length ≤ 1099511627776) (hl : l.length ≤ 1048576) : Ev (fun k => spec_CountMatches.f k p l) ((l.countP (matchM p) : Nat) : Int) := by
  simp only [spec_CountMatches.f]
  suffices H : ∀ t : Int, 0 ≤ t → t ≤ 0 → Ev (fun k => spec_CountMatches.l0 k p l t 0) (t + ((l.countP (matchM p) : Nat) : Int)) by simpa using H 0 (by omega) (by omega)
  refine loop_int l (by omega) (P := fun i rest => ∀ t : Int, 0 ≤ t → t ≤ i → Ev (fun k => spec_CountMatches.l0 k p l t i) (t + ((rest.countP (matchM p) : Nat) : Int))) ?_ ?_
  · intro t _ _
    refine ev_succ (ev_of_eq fun k => ?_)
    simp [spec_CountMatches.l0]
  · intro i x rest h0 h1 hx hm hw ih t ht0 ht1
    refine ev_succ ?_
    simp only [spec_CountMatches.l0, h1, h0, hx, hw, ↓reduceIte]
    refine Ev.bind (spec_Matches_ev p x hp) ?_
    rw [List.countP_cons]
    cases matchM p x
    · simp only [Bool.false_eq_true, ↓reduceIte, Nat.add_zero]
      exact ih t ht0 (by omega)
    · simp only [↓reduceIte]
      rw [w64 (by omega) (by omega)]
      exact ev_eq (ih (t + 1) (by omega) (by omega)) (by omega)

/-! spec_OutsFor -/
theorem spec_OutsFor_ev (p l : List Int) (hp : p.length ≤ 1048576) (hl : l.length ≤ 1048576) : Ev (fun k => spec_OutsFor.f k p l) (((missingM l).countP (matchM p) : Nat) : Int) := by
  simp only [spec_OutsFor.f]
  have := missingM_len l
  exact Ev.bind (spec_Missing_ev l (by omega)) (Ev.bind (spec_CountMatches_ev p (missingM l) (by omega) (by omega)) (Ev.now _))

/-! impl_PlaceOf -/
/-- Where a number stands first, from place i on. -/
def placeF (c : Int) : Int → List Int → Int
  | _, [] => -1
  | i, x :: r => if x = c then i else placeF c (i + 1) r
theorem placeF_iff (c : Int) : ∀ (r : List Int) (i : Int), 0 ≤ i → (decide (placeF c i r ≥ 0) = r.contains c) := by
  intro r
  induction r with
  | nil => intro i h; simp [placeF]
  | cons x r ih =>
    intro i h
    unfold placeF
    by_cases e : x = c
    · simp [e, h]
    · have e' : ¬ c = x := fun g => e g.symm
      rw [if_neg e, ih (i + 1) (by omega)]
      simp [e']
theorem impl_PlaceOf_ev (l : List Int) (c : Int) (hl : l.length ≤ 1099511627776) : Ev (fun k => impl_PlaceOf.f k l c) (placeF c 0 l) := by
  simp only [impl_PlaceOf.f]
  refine loop_int l hl (P := fun i rest => Ev (fun k => impl_PlaceOf.l0 k c l (l.length : Int) i) (placeF c i rest)) ?_ ?_
  · refine ev_succ (ev_of_eq fun k => ?_)
    simp only [impl_PlaceOf.l0, Int.lt_irrefl, ↓reduceIte, placeF]
  · intro i x rest h0 h1 hx _ hw ih
    refine ev_succ ?_
    simp only [impl_PlaceOf.l0, h1, h0, ↓reduceIte, hx, hw, placeF]
    by_cases h : x = c
    · simp only [h, ↓reduceIte]
      exact Ev.now _
    · simp only [h, ↓reduceIte]
      exact ih

/-! impl_HasCard -/
theorem impl_HasCard_ev (l : List Int) (c : Int) (hl : l.length ≤ 1099511627776) : Ev (fun k => impl_HasCard.f k l c) (l.contains c) := by
  simp only [impl_HasCard.f]
  refine Ev.bind (impl_PlaceOf_ev l c hl) ?_
  rw [placeF_iff c l 0 (by omega)]
  exact Ev.now _

/-! impl_Missing -/
theorem impl_Missing_ev (l : List Int) (hl : l.length ≤ 1099511627776) : Ev (fun k => impl_Missing.f k l) (missingM l) := by
  simp only [impl_Missing.f, missingM]
  suffices H : ∀ (n : Nat) (out : List Int) (c : Int), 0 ≤ c → c + n = 52 → out.length ≤ c → Ev (fun k => impl_Missing.l0 k l out c) (out ++ missF l n c) by
    simpa using H 52 [] 0 (by omega) (by omega) (by simp)
  intro n
  induction n with
  | zero =>
    intro out c h0 h1 h2
    have e : ¬ c < 52 := by omega
    refine ev_succ (ev_of_eq fun k => ?_)
    simp only [impl_Missing.l0, e, ↓reduceIte, missF, List.append_nil]
  | succ n ih =>
    intro out c h0 h1 h2
    have e : c < 52 := by omega
    have e3 : out.length < 17592186044416 := by omega
    have e4 : wrap64 (c + 1) = c + 1 := w64 (by omega) (by omega)
    refine ev_succ ?_
    simp only [impl_Missing.l0, e, ↓reduceIte, missF]
    refine Ev.bind (impl_HasCard_ev l c hl) ?_
    cases hc : l.contains c
    · simp only [Bool.false_eq_true, ↓reduceIte, e3, e4]
      have := ih (out ++ [c]) (c + 1) (by omega) (by omega) (by simp; omega)
      simpa using this
    · simp only [↓reduceIte, e4]
      exact ih out (c + 1) (by omega) (by omega) (by omega)

/-! impl_InRange -/
theorem impl_InRange_f (a b c : Int) : impl_InRange.f a b c = some (decide (b ≤ a ∧ a ≤ c)) := by
  unfold impl_InRange.f
  by_cases h : b ≤ a <;> simp [h]

/-! impl_IsCard -/
theorem impl_IsCard_f (a : Int) : impl_IsCard.f a = some (isCardM a) := by
  unfold impl_IsCard.f
  rw [impl_InRange_f]
  rfl

/-! impl_isTest -/
theorem impl_isTest_f (s : Int) : impl_isTest.f s = some (leafM s) := by
  simp only [impl_isTest.f, impl_InRange_f, Option.bind_some, leafM]
  by_cases h1 : 100 ≤ s ∧ s ≤ 103
  · simp [h1]
  by_cases h2 : 200 ≤ s ∧ s ≤ 212
  · simp [h1, h2]
  by_cases h3 : 300 ≤ s ∧ s ≤ 312
  · simp [h1, h2, h3]
  simp [h1, h2, h3]

/-! impl_IsPattern -/
theorem impl_IsPattern_ev (l : List Int) (hl : l.length ≤ 1099511627776) : Ev (fun k => impl_IsPattern.f k l) (isPatM l) := by
  simp only [impl_IsPattern.f, isPatM]
  refine loop_int l hl (P := fun i rest => ∀ n, 0 ≤ n → n ≤ i → Ev (fun k => impl_IsPattern.l0 k l n l (l.length : Int) i) (patEnd l.length (patF rest n))) ?_ ?_ 0 (by omega) (by omega)
  · intro n hn hi
    refine ev_succ (ev_of_eq fun k => ?_)
    simp only [impl_IsPattern.l0, Int.lt_irrefl, ↓reduceIte, patF, patEnd, impl_InRange_f, Option.bind_some]
    by_cases h : n = 1
    · by_cases g : l.length ≤ 20
      · have g' : (1 : Int) ≤ (l.length : Int) ∧ (l.length : Int) ≤ 20 := by omega
        simp [h, g, g']
      · have g' : ¬ ((1 : Int) ≤ (l.length : Int) ∧ (l.length : Int) ≤ 20) := by omega
        simp [h, g, g']
    · by_cases g : (1 : Int) ≤ (l.length : Int) ∧ (l.length : Int) ≤ 20
      · simp [h, g]
      · simp [h, g]
  · intro i x rest h0 h1 hx _ hw ih n hn hi
    refine ev_succ ?_
    have w1 : wrap64 (n + 1) = n + 1 := w64 (by omega) (by omega)
    simp only [impl_IsPattern.l0, h1, h0, ↓reduceIte, hx, hw, impl_isTest_f, Option.bind_some, patF, w1]
    by_cases g1 : leafM x = true
    · simp only [g1, ↓reduceIte]
      exact ih _ (by omega) (by omega)
    · simp only [g1, Bool.false_eq_true, ↓reduceIte]
      by_cases g2 : x = -1
      · have e2 : ¬ x = -2 := by omega
        have e3 : ¬ x = -3 := by omega
        by_cases g3 : 1 ≤ n
        · have g3' : decide (n ≥ 1) = true := by simp; omega
          simp only [g2, g3, g3', ↓reduceIte, and_self]
          refine ev_succ ?_
          simp only [impl_IsPattern.j1, ↓reduceIte, hw]
          exact ih _ (by omega) (by omega)
        · have g3' : decide (n ≥ 1) = false := by simp; omega
          refine ev_succ (ev_of_eq fun k => ?_)
          simp only [impl_IsPattern.j1, g2, g3', g3, h1, h0, hx, ↓reduceIte, Bool.false_eq_true]
          simp [patEnd, e2, e3, g2, g3]
      · simp only [g2, ↓reduceIte, false_and]
        refine ev_succ ?_
        simp only [impl_IsPattern.j1, h1, h0, hx, hw, ↓reduceIte, Bool.false_eq_true, ge_iff_le]
        have w2 : 2 ≤ n → wrap64 (n - 1) = n - 1 := fun _ => w64 (by omega) (by omega)
        by_cases g4 : x = -2
        · by_cases g5 : 2 ≤ n
          · simp only [g4, g5, w2 g5, ↓reduceIte, true_or, and_self]
            exact ih _ (by omega) (by omega)
          · refine ev_of_eq fun k => ?_
            simp [g4, g5, patEnd]
        · by_cases g6 : x = -3
          · by_cases g5 : 2 ≤ n
            · simp only [g4, g6, g5, w2 g5, ↓reduceIte, or_true, and_self]
              exact ih _ (by omega) (by omega)
            · refine ev_of_eq fun k => ?_
              simp [g6, g5, patEnd]
          · refine ev_of_eq fun k => ?_
            simp [g4, g6, patEnd]

/-! impl_RankOf -/
theorem impl_RankOf_f (a : Int) : impl_RankOf.f a = some (rankM a) := by
  unfold impl_RankOf.f
  rw [impl_IsCard_f]
  unfold rankM isCardM
  by_cases h : 0 ≤ a ∧ a ≤ 51
  · simp [h, tmod13 a h.1]
  · simp [h]

/-! impl_SuitOf -/
theorem impl_SuitOf_f (a : Int) : impl_SuitOf.f a = some (suitM a) := by
  unfold impl_SuitOf.f
  rw [impl_IsCard_f]
  unfold suitM isCardM
  by_cases h : 0 ≤ a ∧ a ≤ 51
  · simp [h, tdiv13 a h.1 h.2]
  · simp [h]

/-! impl_IsRed -/
theorem impl_IsRed_f (c : Int) : impl_IsRed.f c = some (isRedM c) := by
  simp only [impl_IsRed.f, impl_SuitOf_f, Option.bind_some, isRedM]
  by_cases h : suitM c = 1
  · simp [h]
  · simp only [h, ↓reduceIte]
    congr 1
    rw [Bool.eq_iff_iff]
    simp
    omega

/-! impl_asks -/
theorem impl_ask_f (s c : Int) : impl_asks.f s c = some (askM s c) := by
  unfold impl_asks.f askM
  by_cases h1 : s = 400
  · simp only [h1, ↓reduceIte, impl_IsRed_f, Option.bind_some]
  · by_cases h2 : s ≥ 300
    · simp only [h1, h2, ↓reduceIte, impl_RankOf_f, Option.bind_some]
    · by_cases h3 : s ≥ 200
      · simp only [h1, h2, h3, ↓reduceIte, impl_RankOf_f, Option.bind_some]
      · simp only [h1, h2, h3, ↓reduceIte, impl_SuitOf_f, Option.bind_some]

/-! impl_Matches -/
theorem impl_Matches_l0 (p : List Int) (c : Int) (hl : p.length ≤ 20) (hp : patF p 0 = some 1) : Ev (fun k => impl_Matches.l0 k c [] p (p.length : Int) 0) (matchF c p []) := by
  suffices H : ∀ x : List Bool, (x.length : Int) ≤ 0 → patF p (x.length : Int) = some 1 → Ev (fun k => impl_Matches.l0 k c x p (p.length : Int) 0) (matchF c p x) from H [] (by simp) hp
  refine loop_int p (by omega) (P := fun i rest => ∀ x : List Bool, (x.length : Int) ≤ i → patF rest (x.length : Int) = some 1 → Ev (fun k => impl_Matches.l0 k c x p (p.length : Int) i) (matchF c rest x)) ?_ ?_
  · intro x hx he
    have h1 : 0 < (x.length : Int) := by simp only [patF, Option.some.injEq] at he; omega
    refine ev_succ (ev_of_eq fun k => ?_)
    simp only [impl_Matches.l0, Int.lt_irrefl, h1, ↓reduceIte, matchF]
  · intro i s rest h0 h1 hs hm hw ih x hx he
    refine ev_succ ?_
    have b : x.length < 140737488355328 := by omega
    have w1 : wrap64 ((x.length : Int) - 1) = (x.length : Int) - 1 := w64 (by omega) (by omega)
    have w2 : wrap64 ((x.length : Int) - 2) = (x.length : Int) - 2 := w64 (by omega) (by omega)
    rcases patF_step he with ⟨e1, e2, e3, e4⟩ | ⟨e1, e2, e4⟩ | ⟨e1, e2, e4⟩
    · simp only [impl_Matches.l0, h1, h0, hs, e1, e2, e3, b, hw, ↓reduceIte, impl_ask_f, Option.bind_some, matchF]
      exact ih (x ++ [askM s c]) (by simp; omega) (by simpa using e4)
    · have g1 : 0 ≤ (x.length : Int) - 1 := by omega
      have g2 : (x.length : Int) - 1 < (x.length : Int) := by omega
      simp only [impl_Matches.l0, h1, h0, hs, e1, w1, g1, g2, hw, ↓reduceIte, matchF]
      exact ih _ (by rw [List.length_set]; omega) (by rw [List.length_set]; exact e4)
    · have g1 : 0 ≤ (x.length : Int) - 2 := by omega
      have g2 : (x.length : Int) - 2 < (x.length : Int) := by omega
      have g3 : (x.length : Int) - 2 ≤ (x.length : Int) := by omega
      have g4 : 0 ≤ (x.length : Int) - 1 := by omega
      have g5 : (x.length : Int) - 1 < (x.length : Int) := by omega
      have tl : (x.take ((x.length : Int) - 2).toNat).length = ((x.length : Int) - 2).toNat := by rw [List.length_take]; omega
      have g6 : (x.take ((x.length : Int) - 2).toNat).length < 140737488355328 := by omega
      have nx : ∀ y : Bool, Ev (fun k => impl_Matches.l0 k c (x.take ((x.length : Int) - 2).toNat ++ [y]) p (p.length : Int) (i + 1)) (matchF c rest (x.take ((x.length : Int) - 2).toNat ++ [y])) := by
        intro y
        have ln : ((x.take ((x.length : Int) - 2).toNat ++ [y]).length : Int) = (x.length : Int) - 1 := by rw [List.length_append, tl]; simp; omega
        exact ih _ (by omega) (by rw [ln]; exact e4)
      rcases e1 with e1 | e1
      · have z : ¬ (-2 : Int) = -1 := by omega
        cases hv : rdOf false x ((x.length : Int) - 2)
        · simp only [impl_Matches.l0, h1, h0, hs, e1, z, w1, w2, g1, g2, g3, g4, g5, g6, hv, hw, Option.bind_some, Bool.false_eq_true, Bool.false_and, ↓reduceIte, matchF]
          exact nx false
        · simp only [impl_Matches.l0, h1, h0, hs, e1, z, w1, w2, g1, g2, g3, g4, g5, g6, hv, hw, Option.bind_some, Bool.true_and, ↓reduceIte, matchF]
          exact nx _
      · have z : ¬ (-3 : Int) = -1 := by omega
        have z2 : ¬ (-3 : Int) = -2 := by omega
        cases hv : rdOf false x ((x.length : Int) - 2)
        · simp only [impl_Matches.l0, h1, h0, hs, e1, z, z2, w1, w2, g1, g2, g3, g4, g5, g6, hv, hw, Option.bind_some, Bool.false_eq_true, Bool.false_or, ↓reduceIte, matchF]
          exact nx _
        · simp only [impl_Matches.l0, h1, h0, hs, e1, z, z2, w1, w2, g1, g2, g3, g4, g5, g6, hv, hw, Option.bind_some, Bool.true_or, ↓reduceIte, matchF]
          exact nx true
theorem impl_Matches_ev (p : List Int) (c : Int) (hl : p.length ≤ 1099511627776) : Ev (fun k => impl_Matches.f k p c) (matchM p c) := by
  simp only [impl_Matches.f, impl_IsCard_f, Option.bind_some, matchM]
  refine Ev.bind (impl_IsPattern_ev p hl) ?_
  cases hp : isPatM p
  · simp only [Bool.false_eq_true, ↓reduceIte, Bool.false_and]
    exact ev_succ (ev_of_eq fun k => by simp only [impl_Matches.j0, ↓reduceIte])
  · simp only [↓reduceIte, Bool.true_and]
    refine ev_succ ?_
    cases hc : isCardM c
    · exact ev_of_eq fun k => by simp only [impl_Matches.j0, Bool.not_false, ↓reduceIte, Bool.false_and]
    · simp only [impl_Matches.j0, Bool.not_true, Bool.false_eq_true, ↓reduceIte, Bool.true_and]
      obtain ⟨h1, h2⟩ := isPatM_run hp
      exact impl_Matches_l0 p c h2 h1

/-! impl_CountMatches -/
theorem impl_CountMatches_ev (p l : List Int) (hp : p.length ≤ 1099511627776) (hl : l.length ≤ 1048576) : Ev (fun k => impl_CountMatches.f k p l) ((l.countP (matchM p) : Nat) : Int) := by
  simp only [impl_CountMatches.f]
  suffices H : ∀ t : Int, 0 ≤ t → t ≤ 0 → Ev (fun k => impl_CountMatches.l0 k p t l (l.length : Int) 0) (t + ((l.countP (matchM p) : Nat) : Int)) by simpa using H 0 (by omega) (by omega)
  refine loop_int l (by omega) (P := fun i rest => ∀ t : Int, 0 ≤ t → t ≤ i → Ev (fun k => impl_CountMatches.l0 k p t l (l.length : Int) i) (t + ((rest.countP (matchM p) : Nat) : Int))) ?_ ?_
  · intro t _ _
    refine ev_succ (ev_of_eq fun k => ?_)
    simp [impl_CountMatches.l0]
  · intro i x rest h0 h1 hx hm hw ih t ht0 ht1
    refine ev_succ ?_
    simp only [impl_CountMatches.l0, h1, h0, hx, hw, ↓reduceIte]
    refine Ev.bind (impl_Matches_ev p x hp) ?_
    rw [List.countP_cons]
    cases matchM p x
    · simp only [Bool.false_eq_true, ↓reduceIte, Nat.add_zero]
      exact ih t ht0 (by omega)
    · simp only [↓reduceIte]
      rw [w64 (by omega) (by omega)]
      exact ev_eq (ih (t + 1) (by omega) (by omega)) (by omega)

/-! impl_OutsFor -/
theorem impl_OutsFor_ev (p l : List Int) (hp : p.length ≤ 1048576) (hl : l.length ≤ 1048576) : Ev (fun k => impl_OutsFor.f k p l) (((missingM l).countP (matchM p) : Nat) : Int) := by
  simp only [impl_OutsFor.f]
  have := missingM_len l
  exact Ev.bind (impl_Missing_ev l (by omega)) (Ev.bind (impl_CountMatches_ev p (missingM l) (by omega) (by omega)) (Ev.now _))

-- uses: LibM
theorem FnExactOutsFor : laws_FnExactOutsFor.Pure := by
  intro p l _ _ _ _ _ _
  refine Ev.rounds (g := fun k => laws_FnExactOutsFor.f k p l) ?_
  by_cases h1 : (p.length : Int) > 1048576
  · exact ev_of_eq fun k => by simp only [laws_FnExactOutsFor.f, h1, ↓reduceIte]
  by_cases h2 : (l.length : Int) > 1048576
  · exact ev_of_eq fun k => by simp only [laws_FnExactOutsFor.f, h1, h2, ↓reduceIte]
  have a1 : p.length ≤ 1048576 := by omega
  have a2 : l.length ≤ 1048576 := by omega
  simp only [laws_FnExactOutsFor.f, h1, h2, ↓reduceIte]
  refine Ev.bind (laws_toIntS_ev p (by omega)) ?_
  refine Ev.bind (laws_toIntS_ev l (by omega)) ?_
  refine Ev.bind (spec_OutsFor_ev p l a1 a2) ?_
  refine Ev.bind (laws_toIntS_ev p (by omega)) ?_
  refine Ev.bind (laws_toIntS_ev l (by omega)) ?_
  refine Ev.bind (impl_OutsFor_ev p l a1 a2) ?_
  simp only [↓reduceIte]
  refine Ev.bind (laws_toIntS_ev p (by omega)) ?_
  refine Ev.bind (laws_eqIntS_ev p (by omega)) ?_
  simp only [↓reduceIte]
  refine Ev.bind (laws_toIntS_ev l (by omega)) ?_
  refine Ev.bind (laws_eqIntS_ev l (by omega)) ?_
  exact ev_of_eq fun k => by simp only [↓reduceIte]

end Go.Proofs.Ytdakhelapeojgaa.Pure
