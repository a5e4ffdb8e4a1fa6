/- The program's FitCount answers what the reference's answers, for all arguments. No condition but those that the statement itself names. -/
import Derived.Test.YtkhgeockdjjhmaaQFnExactFitCountx4
import Derived.Test.YtkhgeockdjjhmaaLib
import Derived.Test.YtkhgeockdjjhmaaLibM
namespace Go.Proofs.Ytkhgeockdjjhmaa.Pure
open Go.RowKit Go.Proofs.Ytkhgeockdjjhmaa.QFnExactFitCount Go.Proofs.YtkhgeockdjjhmaaW.PrintWords Go.Proofs.YtkhgeockdjjhmaaW.PrintLast Go.Proofs.YtkhgeockdjjhmaaW.PrintMore Go.Proofs.Ytkhgeockdjjhmaa.Lib
set_option linter.unusedVariables false
set_option linter.unusedSimpArgs false

/-! laws_szIntS -/
theorem laws_szIntS_f (l : List Int) (a : Int) (hl : l.length ≤ maxLen) (ha : 0 ≤ a) (ha2 : a ≤ 1048576) : ∃ v, laws_szIntS.f l a = some v ∧ (v < 0 ∨ (0 ≤ v ∧ v ≤ a ∧ l.length ≤ 1048576)) := by
  unfold maxLen at hl
  unfold laws_szIntS.f
  rw [w64 (by omega) (by omega)]
  by_cases h : (l.length : Int) ≤ a
  · exact ⟨_, if_neg (by omega), .inr (by omega)⟩
  · exact ⟨_, if_pos (by omega), .inl (by omega)⟩

/-! laws_szRules -/
theorem laws_szRules_f (a0 a1 : Int) (a2 a3 : Bool) (l4 l5 : List Int) (a6 a7 a : Int) (h4 : l4.length ≤ maxLen) (h5 : l5.length ≤ maxLen) (ha : 0 ≤ a) (ha2 : a ≤ 1048576) :
    ∃ v, laws_szRules.f a0 a1 a2 a3 l4 l5 a6 a7 a = some v ∧ (v < 0 ∨ (0 ≤ v ∧ v ≤ a ∧ l4.length ≤ 1048576 ∧ l5.length ≤ 1048576)) := by
  unfold laws_szRules.f
  obtain ⟨v, e, h⟩ := laws_szIntS_f l4 a h4 ha ha2
  simp only [e, Option.bind_some]
  rcases h with h | ⟨g0, g1, g2⟩
  · exact ⟨_, if_pos h, .inl (by omega)⟩
  · have n1 : ¬ v < 0 := by omega
    simp only [n1, ↓reduceIte]
    obtain ⟨v', e', h'⟩ := laws_szIntS_f l5 v h5 g0 (by omega)
    simp only [e', Option.bind_some]
    rcases h' with h' | ⟨g0', g1', g2'⟩
    · exact ⟨_, if_pos h', .inl (by omega)⟩
    · exact ⟨_, if_neg (by omega), .inr (by omega)⟩

/-! spec_l1In -/
theorem spec_l1In_f (a b c : Int) : spec_l1In.f a b c = some (decide (b ≤ a ∧ a ≤ c)) := by
  unfold spec_l1In.f
  by_cases h : b ≤ a <;> simp [h]

/-! spec_l8Leaf -/
theorem spec_l8Leaf_f (s : Int) : spec_l8Leaf.f s = some (leafM s) := by
  simp only [spec_l8Leaf.f, spec_l1In_f, Option.bind_some, leafM]
  by_cases h1 : 100 ≤ s ∧ s ≤ 103
  · simp [h1]
  by_cases h2 : 200 ≤ s ∧ s ≤ 212
  · simp [h1, h2]
  by_cases h3 : 300 ≤ s ∧ s ≤ 312
  · simp [h1, h2, h3]
  simp [h1, h2, h3]

/-! spec_IsPattern -/
theorem spec_IsPattern_ev (l : List Int) (hl : l.length ≤ 1099511627776) : Ev (fun k => spec_IsPattern.f k l) (isPatM l) := by
  simp only [spec_IsPattern.f, isPatM]
  refine loop_int l hl (P := fun i rest => ∀ n, 0 ≤ n → n ≤ i → Ev (fun k => spec_IsPattern.l0 k l n i) (patEnd l.length (patF rest n))) ?_ ?_ 0 (by omega) (by omega)
  · intro n hn hi
    refine ev_succ (ev_of_eq fun k => ?_)
    simp only [spec_IsPattern.l0, Int.lt_irrefl, ↓reduceIte, patF, patEnd]
    by_cases h : n = 1
    · simp only [h, ↓reduceIte, decide_true, Bool.true_and]
      congr 1
      rw [Bool.eq_iff_iff]
      simp
      omega
    · simp [h]
  · intro i x rest h0 h1 hx _ hw ih n hn hi
    refine ev_succ ?_
    have w1 : wrap64 (n + 1) = n + 1 := w64 (by omega) (by omega)
    simp only [spec_IsPattern.l0, h1, h0, ↓reduceIte, hx, hw, spec_l8Leaf_f, Option.bind_some, patF, w1]
    by_cases g1 : leafM x = true
    · simp only [g1, ↓reduceIte]
      exact ih _ (by omega) (by omega)
    · simp only [g1, Bool.false_eq_true, ↓reduceIte]
      by_cases g2 : x = -1
      · have e2 : ¬ x = -2 := by omega
        have e3 : ¬ x = -3 := by omega
        by_cases g3 : 1 ≤ n
        · have g3' : decide (n ≥ 1) = true := by simp; omega
          simp only [g2, g3, g3', ↓reduceIte, and_self]
          refine ev_succ ?_
          simp only [spec_IsPattern.j1, ↓reduceIte, hw]
          exact ih _ (by omega) (by omega)
        · have g3' : decide (n ≥ 1) = false := by simp; omega
          refine ev_succ (ev_of_eq fun k => ?_)
          simp only [spec_IsPattern.j1, g2, g3', g3, h1, h0, hx, ↓reduceIte, Bool.false_eq_true]
          simp [patEnd, e2, e3, g2, g3]
      · simp only [g2, ↓reduceIte, false_and]
        refine ev_succ ?_
        simp only [spec_IsPattern.j1, h1, h0, hx, hw, ↓reduceIte, Bool.false_eq_true, ge_iff_le]
        have w2 : 2 ≤ n → wrap64 (n - 1) = n - 1 := fun _ => w64 (by omega) (by omega)
        by_cases g4 : x = -2
        · by_cases g5 : 2 ≤ n
          · simp only [g4, g5, w2 g5, ↓reduceIte, true_or, and_self]
            exact ih _ (by omega) (by omega)
          · refine ev_of_eq fun k => ?_
            simp [g4, g5, patEnd]
        · by_cases g6 : x = -3
          · by_cases g5 : 2 ≤ n
            · simp only [g4, g6, g5, w2 g5, ↓reduceIte, or_true, and_self]
              exact ih _ (by omega) (by omega)
            · refine ev_of_eq fun k => ?_
              simp [g6, g5, patEnd]
          · refine ev_of_eq fun k => ?_
            simp [g4, g6, patEnd]

/-! spec_l22Pattern -/
theorem spec_l22Pattern_ev (l : List Int) (hl : l.length ≤ 1099511627776) : Ev (fun k => spec_l22Pattern.f k l) (maybeM l) := by
  simp only [spec_l22Pattern.f, maybeM]
  by_cases h : l.length = 0
  · obtain rfl := List.eq_nil_of_length_eq_zero h
    exact ev_of_eq fun k => rfl
  · have h' : ¬ (l.length : Int) = 0 := by omega
    simp only [h', h, ↓reduceIte, decide_false, Bool.false_or]
    exact Ev.bind (spec_IsPattern_ev l hl) (Ev.now _)

/-! spec_IsRules -/
theorem spec_IsRules_ev (a0 a1 : Int) (a2 a3 : Bool) (l4 l5 : List Int) (a6 a7 : Int) (h4 : l4.length ≤ 1048576) (h5 : l5.length ≤ 1048576) :
    Ev (fun k => spec_IsRules.f k a0 a1 a2 a3 l4 l5 a6 a7) (isRulesM a0 a1 a2 a3 l4 l5 a6 a7) := by
  have tail : Ev (fun k => (spec_l22Pattern.f k l4).bind fun t => (if t = true then ((spec_l22Pattern.f k l5).bind fun t => (if t = true then ((spec_l1In.f a6 1 4).bind fun t => (if t = true then ((spec_l1In.f a7 1 400).bind fun t => (some t)) else (some false))) else (some false))) else (some false)))
      (maybeM l4 && (maybeM l5 && (decide (1 ≤ a6 ∧ a6 ≤ 4) && decide (1 ≤ a7 ∧ a7 ≤ 400)))) := by
    refine Ev.bind (spec_l22Pattern_ev l4 (by omega)) ?_
    cases maybeM l4
    · exact Ev.now _
    · refine Ev.bind (spec_l22Pattern_ev l5 (by omega)) ?_
      cases maybeM l5
      · exact Ev.now _
      · refine ev_of_eq fun k => ?_
        simp only [spec_l1In_f, Option.bind_some, ↓reduceIte]
        cases decide (1 ≤ a6 ∧ a6 ≤ 4) <;> simp
  simp only [spec_IsRules.f]
  simp only [spec_l1In_f, Option.bind_some] at tail ⊢
  unfold isRulesM
  cases decide (2 ≤ a0 ∧ a0 ≤ 6)
  · exact Ev.now _
  · cases decide (1 ≤ a1 ∧ a1 ≤ 8)
    · exact Ev.now _
    · cases a2
      · cases a3
        · exact Ev.now _
        · simpa using tail
      · simpa using tail

/-! spec_IsCard -/
theorem spec_IsCard_f (a : Int) : spec_IsCard.f a = some (isCardM a) := by
  unfold spec_IsCard.f
  rw [spec_l1In_f]
  rfl

/-! spec_SuitOf -/
theorem spec_SuitOf_f (a : Int) : spec_SuitOf.f a = some (suitM a) := by
  unfold spec_SuitOf.f
  rw [spec_IsCard_f]
  unfold suitM isCardM
  by_cases h : 0 ≤ a ∧ a ≤ 51
  · simp [h, tdiv13 a h.1 h.2]
  · simp [h]

/-! spec_RankOf -/
theorem spec_RankOf_f (a : Int) : spec_RankOf.f a = some (rankM a) := by
  unfold spec_RankOf.f
  rw [spec_IsCard_f]
  unfold rankM isCardM
  by_cases h : 0 ≤ a ∧ a ≤ 51
  · simp [h, tmod13 a h.1]
  · simp [h]

/-! spec_IsRed -/
theorem spec_IsRed_f (c : Int) : spec_IsRed.f c = some (isRedM c) := by
  simp only [spec_IsRed.f, spec_SuitOf_f, spec_l1In_f, Option.bind_some, isRedM]

/-! spec_l8Value -/
theorem spec_ask_f (s c : Int) : spec_l8Value.f s c = some (askM s c) := by
  unfold spec_l8Value.f askM
  by_cases h1 : s = 400
  · simp only [h1, ↓reduceIte, spec_IsRed_f, Option.bind_some]
  · by_cases h2 : s ≥ 300
    · simp only [h1, h2, ↓reduceIte, spec_RankOf_f, Option.bind_some]
    · by_cases h3 : s ≥ 200
      · simp only [h1, h2, h3, ↓reduceIte, spec_RankOf_f, Option.bind_some]
      · simp only [h1, h2, h3, ↓reduceIte, spec_SuitOf_f, Option.bind_some]

/-! spec_Matches -/
theorem spec_Matches_l0 (p : List Int) (c : Int) (hl : p.length ≤ 20) (hp : patF p 0 = some 1) : Ev (fun k => spec_Matches.l0 k p c [] 0) (matchF c p []) := by
  suffices H : ∀ x : List Bool, (x.length : Int) ≤ 0 → patF p (x.length : Int) = some 1 → Ev (fun k => spec_Matches.l0 k p c x 0) (matchF c p x) from H [] (by simp) hp
  refine loop_int p (by omega) (P := fun i rest => ∀ x : List Bool, (x.length : Int) ≤ i → patF rest (x.length : Int) = some 1 → Ev (fun k => spec_Matches.l0 k p c x i) (matchF c rest x)) ?_ ?_
  · intro x hx he
    have h1 : 0 < (x.length : Int) := by simp only [patF, Option.some.injEq] at he; omega
    refine ev_succ (ev_of_eq fun k => ?_)
    simp only [spec_Matches.l0, Int.lt_irrefl, h1, ↓reduceIte, matchF]
  · intro i s rest h0 h1 hs hm hw ih x hx he
    refine ev_succ ?_
    have b : x.length < 140737488355328 := by omega
    have w1 : wrap64 ((x.length : Int) - 1) = (x.length : Int) - 1 := w64 (by omega) (by omega)
    have w2 : wrap64 ((x.length : Int) - 2) = (x.length : Int) - 2 := w64 (by omega) (by omega)
    rcases patF_step he with ⟨e1, e2, e3, e4⟩ | ⟨e1, e2, e4⟩ | ⟨e1, e2, e4⟩
    · simp only [spec_Matches.l0, h1, h0, hs, e1, e2, e3, b, hw, ↓reduceIte, spec_ask_f, Option.bind_some, matchF]
      exact ih (x ++ [askM s c]) (by simp; omega) (by simpa using e4)
    · have g1 : 0 ≤ (x.length : Int) - 1 := by omega
      have g2 : (x.length : Int) - 1 < (x.length : Int) := by omega
      simp only [spec_Matches.l0, h1, h0, hs, e1, w1, g1, g2, hw, ↓reduceIte, matchF]
      exact ih _ (by rw [List.length_set]; omega) (by rw [List.length_set]; exact e4)
    · have g1 : 0 ≤ (x.length : Int) - 2 := by omega
      have g2 : (x.length : Int) - 2 < (x.length : Int) := by omega
      have g3 : (x.length : Int) - 2 ≤ (x.length : Int) := by omega
      have g4 : 0 ≤ (x.length : Int) - 1 := by omega
      have g5 : (x.length : Int) - 1 < (x.length : Int) := by omega
      have tl : (x.take ((x.length : Int) - 2).toNat).length = ((x.length : Int) - 2).toNat := by rw [List.length_take]; omega
      have g6 : (x.take ((x.length : Int) - 2).toNat).length < 140737488355328 := by omega
      have nx : ∀ y : Bool, Ev (fun k => spec_Matches.l0 k p c (x.take ((x.length : Int) - 2).toNat ++ [y]) (i + 1)) (matchF c rest (x.take ((x.length : Int) - 2).toNat ++ [y])) := by
        intro y
        have ln : ((x.take ((x.length : Int) - 2).toNat ++ [y]).length : Int) = (x.length : Int) - 1 := by rw [List.length_append, tl]; simp; omega
        exact ih _ (by omega) (by rw [ln]; exact e4)
      rcases e1 with e1 | e1
      · have z : ¬ (-2 : Int) = -1 := by omega
        cases hv : rdOf false x ((x.length : Int) - 2)
        · simp only [spec_Matches.l0, h1, h0, hs, e1, z, w1, w2, g1, g2, g3, g4, g5, g6, hv, hw, Option.bind_some, Bool.false_eq_true, Bool.false_and, ↓reduceIte, matchF]
          exact nx false
        · simp only [spec_Matches.l0, h1, h0, hs, e1, z, w1, w2, g1, g2, g3, g4, g5, g6, hv, hw, Option.bind_some, Bool.true_and, ↓reduceIte, matchF]
          exact nx _
      · have z : ¬ (-3 : Int) = -1 := by omega
        have z2 : ¬ (-3 : Int) = -2 := by omega
        cases hv : rdOf false x ((x.length : Int) - 2)
        · simp only [spec_Matches.l0, h1, h0, hs, e1, z, z2, w1, w2, g1, g2, g3, g4, g5, g6, hv, hw, Option.bind_some, Bool.false_eq_true, Bool.false_or, ↓reduceIte, matchF]
          exact nx _
        · simp only [spec_Matches.l0, h1, h0, hs, e1, z, z2, w1, w2, g1, g2, g3, g4, g5, g6, hv, hw, Option.bind_some, Bool.true_or, ↓reduceIte, matchF]
          exact nx true
theorem spec_Matches_ev (p : List Int) (c : Int) (hl : p.length ≤ 1099511627776) : Ev (fun k => spec_Matches.f k p c) (matchM p c) := by
  simp only [spec_Matches.f, spec_IsCard_f, Option.bind_some, matchM]
  refine Ev.bind (spec_IsPattern_ev p hl) ?_
  cases hp : isPatM p
  · simp only [Bool.false_eq_true, ↓reduceIte, Bool.false_and]
    exact ev_succ (ev_of_eq fun k => by simp only [spec_Matches.j0, ↓reduceIte])
  · simp only [↓reduceIte, Bool.true_and]
    refine ev_succ ?_
    cases hc : isCardM c
    · exact ev_of_eq fun k => by simp only [spec_Matches.j0, Bool.not_false, ↓reduceIte, Bool.false_and]
    · simp only [spec_Matches.j0, Bool.not_true, Bool.false_eq_true, ↓reduceIte, Bool.true_and]
      obtain ⟨h1, h2⟩ := isPatM_run hp
      exact spec_Matches_l0 p c h2 h1

/-! spec_FitsOn -/
theorem spec_FitsOn_ev (a0 a1 : Int) (a2 a3 : Bool) (l4 l5 : List Int) (a6 a7 t c : Int) (h4 : l4.length ≤ 1048576) (h5 : l5.length ≤ 1048576) :
    Ev (fun k => spec_FitsOn.f k a0 a1 a2 a3 l4 l5 a6 a7 t c) (isRulesM a0 a1 a2 a3 l4 l5 a6 a7 && (isCardM t && (isCardM c && ((a2 && decide (suitM c = suitM t)) || ((a3 && decide (rankM c = rankM t)) || matchM l4 c))))) := by
  simp only [spec_FitsOn.f, spec_IsCard_f, Option.bind_some]
  refine Ev.bind (spec_IsRules_ev a0 a1 a2 a3 l4 l5 a6 a7 h4 h5) ?_
  have no : ∀ v : Bool, v = false → Ev (fun k => spec_FitsOn.j0 k t c true a0 a1 a2 a3 l4 l5 a6 a7) v := by
    intro v hv
    exact ev_succ (ev_of_eq fun k => by simp only [spec_FitsOn.j0, ↓reduceIte, hv])
  cases isRulesM a0 a1 a2 a3 l4 l5 a6 a7
  · simp only [Bool.false_eq_true, ↓reduceIte, Bool.false_and]
    exact no _ rfl
  · simp only [↓reduceIte, Bool.true_and]
    cases isCardM t
    · simp only [Bool.false_eq_true, ↓reduceIte, Bool.false_and]
      exact no _ rfl
    · simp only [↓reduceIte, Bool.true_and]
      cases isCardM c
      · simp only [Bool.not_false, Bool.false_and]
        exact no _ rfl
      · simp only [Bool.not_true, Bool.true_and]
        refine ev_succ ?_
        have mt : Ev (fun k => (spec_Matches.f k l4 c).bind fun x => some x) (matchM l4 c) := Ev.bind (spec_Matches_ev l4 c (by omega)) (Ev.now _)
        simp only [spec_FitsOn.j0, spec_SuitOf_f, spec_RankOf_f, Option.bind_some, Bool.false_eq_true, ↓reduceIte]
        by_cases h1 : suitM c = suitM t <;> by_cases h2 : rankM c = rankM t <;> cases a2 <;> cases a3 <;> simp only [h1, h2, decide_true, decide_false, Bool.and_self, Bool.and_true, Bool.and_false, Bool.true_and, Bool.false_and, Bool.true_or, Bool.false_or, Bool.or_true, Bool.or_false, Bool.false_eq_true, ↓reduceIte] <;> first | exact Ev.now _ | exact mt

/-! spec_FitCount -/
def fitsM (a0 a1 : Int) (a2 a3 : Bool) (l4 l5 : List Int) (a6 a7 t c : Int) : Bool := isRulesM a0 a1 a2 a3 l4 l5 a6 a7 && (isCardM t && (isCardM c && ((a2 && decide (suitM c = suitM t)) || ((a3 && decide (rankM c = rankM t)) || matchM l4 c))))
def fitF (g : Int → Bool) (t : Int) : Nat → Int → Int
  | 0, _ => 0
  | n + 1, i => if i = t then fitF g t n (i + 1) else if g i = true then 1 + fitF g t n (i + 1) else fitF g t n (i + 1)
theorem spec_FitCount_ev (a0 a1 : Int) (a2 a3 : Bool) (l4 l5 : List Int) (a6 a7 t : Int) (h4 : l4.length ≤ 1048576) (h5 : l5.length ≤ 1048576) :
    Ev (fun k => spec_FitCount.f k a0 a1 a2 a3 l4 l5 a6 a7 t) (fitF (fitsM a0 a1 a2 a3 l4 l5 a6 a7 t) t 52 0) := by
  simp only [spec_FitCount.f]
  suffices H : ∀ n : Int, 0 ≤ n → n ≤ 0 → Ev (fun k => spec_FitCount.l0 k t n 0 a0 a1 a2 a3 l4 l5 a6 a7) (n + fitF (fitsM a0 a1 a2 a3 l4 l5 a6 a7 t) t 52 0) by simpa using H 0 (by omega) (by omega)
  refine loop_up 52 (by omega) (P := fun i m => ∀ n : Int, 0 ≤ n → n ≤ i → Ev (fun k => spec_FitCount.l0 k t n i a0 a1 a2 a3 l4 l5 a6 a7) (n + fitF (fitsM a0 a1 a2 a3 l4 l5 a6 a7 t) t m i)) ?_ ?_
  · intro n _ _
    refine ev_succ (ev_of_eq fun k => ?_)
    have c : ¬ ((52 : Nat) : Int) < 52 := by omega
    simp only [spec_FitCount.l0, c, ↓reduceIte, fitF, Int.add_zero]
  · intro i m h0 h1 hm hw ih n hn0 hn1
    have c : i < 52 := by omega
    refine ev_succ ?_
    by_cases e : i = t
    · subst e
      simp only [spec_FitCount.l0, c, ↓reduceIte, fitF, hw]
      exact ih n hn0 (by omega)
    · simp only [spec_FitCount.l0, c, e, ↓reduceIte, fitF, hw]
      refine Ev.bind (spec_FitsOn_ev a0 a1 a2 a3 l4 l5 a6 a7 t i h4 h5) ?_
      show Ev (fun k => if fitsM a0 a1 a2 a3 l4 l5 a6 a7 t i = true then _ else _) _
      cases fitsM a0 a1 a2 a3 l4 l5 a6 a7 t i
      · simp only [Bool.false_eq_true, ↓reduceIte]
        exact ih n hn0 (by omega)
      · simp only [↓reduceIte]
        rw [w64 (by omega) (by omega)]
        exact ev_eq (ih (n + 1) (by omega) (by omega)) (by omega)

/-! laws_toIntS -/
theorem laws_toIntS_ev (l : List Int) (hl : l.length ≤ 1099511627776) : Ev (fun k => laws_toIntS.f k l) l := by
  have e1 : (0 : Int) ≤ (l.length : Int) := by omega
  have e2 : ((l.length : Int) : Int).toNat ≤ 35184372088832 := by omega
  simp only [laws_toIntS.f, e1, e2, ↓reduceIte]
  refine loop_int_pre l hl (P := fun i pre rest => Ev (fun k => laws_toIntS.l0 k l (pre ++ List.replicate rest.length 0) i) l) ?_ ?_
  · refine ev_succ (ev_of_eq fun k => ?_)
    simp only [laws_toIntS.l0, Int.lt_irrefl, ↓reduceIte, List.length_nil, List.replicate_zero, List.append_nil]
  · intro i pre x rest hl' hi h0 h1 hx hw ih
    refine ev_succ ?_
    have h2 : i < ((pre ++ List.replicate (x :: rest).length 0 : List Int).length : Int) := by simp; omega
    simp only [laws_toIntS.l0, h1, h0, h2, ↓reduceIte, hx, hw]
    rw [List.length_cons, List.replicate_succ, set_mid pre _ i hi]
    exact ih

/-! laws_toRules -/
theorem laws_toRules_ev (a0 a1 : Int) (a2 a3 : Bool) (l4 l5 : List Int) (a6 a7 : Int) (h4 : l4.length ≤ 1048576) (h5 : l5.length ≤ 1048576) :
    Ev (fun k => laws_toRules.f k a0 a1 a2 a3 l4 l5 a6 a7) (a0, a1, a2, a3, l4, l5, a6, a7) := by
  simp only [laws_toRules.f]
  exact Ev.bind (laws_toIntS_ev l4 (by omega)) (Ev.bind (laws_toIntS_ev l5 (by omega)) (Ev.now _))

/-! impl_InRange -/
theorem impl_InRange_f (a b c : Int) : impl_InRange.f a b c = some (decide (b ≤ a ∧ a ≤ c)) := by
  unfold impl_InRange.f
  by_cases h : b ≤ a <;> simp [h]

/-! impl_IsCard -/
theorem impl_IsCard_f (a : Int) : impl_IsCard.f a = some (isCardM a) := by
  unfold impl_IsCard.f
  rw [impl_InRange_f]
  rfl

/-! impl_isTest -/
theorem impl_isTest_f (s : Int) : impl_isTest.f s = some (leafM s) := by
  simp only [impl_isTest.f, impl_InRange_f, Option.bind_some, leafM]
  by_cases h1 : 100 ≤ s ∧ s ≤ 103
  · simp [h1]
  by_cases h2 : 200 ≤ s ∧ s ≤ 212
  · simp [h1, h2]
  by_cases h3 : 300 ≤ s ∧ s ≤ 312
  · simp [h1, h2, h3]
  simp [h1, h2, h3]

/-! impl_IsPattern -/
theorem impl_IsPattern_ev (l : List Int) (hl : l.length ≤ 1099511627776) : Ev (fun k => impl_IsPattern.f k l) (isPatM l) := by
  simp only [impl_IsPattern.f, isPatM]
  refine loop_int l hl (P := fun i rest => ∀ n, 0 ≤ n → n ≤ i → Ev (fun k => impl_IsPattern.l0 k l n l (l.length : Int) i) (patEnd l.length (patF rest n))) ?_ ?_ 0 (by omega) (by omega)
  · intro n hn hi
    refine ev_succ (ev_of_eq fun k => ?_)
    simp only [impl_IsPattern.l0, Int.lt_irrefl, ↓reduceIte, patF, patEnd, impl_InRange_f, Option.bind_some]
    by_cases h : n = 1
    · by_cases g : l.length ≤ 20
      · have g' : (1 : Int) ≤ (l.length : Int) ∧ (l.length : Int) ≤ 20 := by omega
        simp [h, g, g']
      · have g' : ¬ ((1 : Int) ≤ (l.length : Int) ∧ (l.length : Int) ≤ 20) := by omega
        simp [h, g, g']
    · by_cases g : (1 : Int) ≤ (l.length : Int) ∧ (l.length : Int) ≤ 20
      · simp [h, g]
      · simp [h, g]
  · intro i x rest h0 h1 hx _ hw ih n hn hi
    refine ev_succ ?_
    have w1 : wrap64 (n + 1) = n + 1 := w64 (by omega) (by omega)
    simp only [impl_IsPattern.l0, h1, h0, ↓reduceIte, hx, hw, impl_isTest_f, Option.bind_some, patF, w1]
    by_cases g1 : leafM x = true
    · simp only [g1, ↓reduceIte]
      exact ih _ (by omega) (by omega)
    · simp only [g1, Bool.false_eq_true, ↓reduceIte]
      by_cases g2 : x = -1
      · have e2 : ¬ x = -2 := by omega
        have e3 : ¬ x = -3 := by omega
        by_cases g3 : 1 ≤ n
        · have g3' : decide (n ≥ 1) = true := by simp; omega
          simp only [g2, g3, g3', ↓reduceIte, and_self]
          refine ev_succ ?_
          simp only [impl_IsPattern.j1, ↓reduceIte, hw]
          exact ih _ (by omega) (by omega)
        · have g3' : decide (n ≥ 1) = false := by simp; omega
          refine ev_succ (ev_of_eq fun k => ?_)
          simp only [impl_IsPattern.j1, g2, g3', g3, h1, h0, hx, ↓reduceIte, Bool.false_eq_true]
          simp [patEnd, e2, e3, g2, g3]
      · simp only [g2, ↓reduceIte, false_and]
        refine ev_succ ?_
        simp only [impl_IsPattern.j1, h1, h0, hx, hw, ↓reduceIte, Bool.false_eq_true, ge_iff_le]
        have w2 : 2 ≤ n → wrap64 (n - 1) = n - 1 := fun _ => w64 (by omega) (by omega)
        by_cases g4 : x = -2
        · by_cases g5 : 2 ≤ n
          · simp only [g4, g5, w2 g5, ↓reduceIte, true_or, and_self]
            exact ih _ (by omega) (by omega)
          · refine ev_of_eq fun k => ?_
            simp [g4, g5, patEnd]
        · by_cases g6 : x = -3
          · by_cases g5 : 2 ≤ n
            · simp only [g4, g6, g5, w2 g5, ↓reduceIte, or_true, and_self]
              exact ih _ (by omega) (by omega)
            · refine ev_of_eq fun k => ?_
              simp [g6, g5, patEnd]
          · refine ev_of_eq fun k => ?_
            simp [g4, g6, patEnd]

/-! impl_SuitOf -/
theorem impl_SuitOf_f (a : Int) : impl_SuitOf.f a = some (suitM a) := by
  unfold impl_SuitOf.f
  rw [impl_IsCard_f]
  unfold suitM isCardM
  by_cases h : 0 ≤ a ∧ a ≤ 51
  · simp [h, tdiv13 a h.1 h.2]
  · simp [h]

/-! impl_RankOf -/
theorem impl_RankOf_f (a : Int) : impl_RankOf.f a = some (rankM a) := by
  unfold impl_RankOf.f
  rw [impl_IsCard_f]
  unfold rankM isCardM
  by_cases h : 0 ≤ a ∧ a ≤ 51
  · simp [h, tmod13 a h.1]
  · simp [h]

/-! impl_IsRed -/
theorem impl_IsRed_f (c : Int) : impl_IsRed.f c = some (isRedM c) := by
  simp only [impl_IsRed.f, impl_SuitOf_f, Option.bind_some, isRedM]
  by_cases h : suitM c = 1
  · simp [h]
  · simp only [h, ↓reduceIte]
    congr 1
    rw [Bool.eq_iff_iff]
    simp
    omega

/-! impl_asks -/
theorem impl_ask_f (s c : Int) : impl_asks.f s c = some (askM s c) := by
  unfold impl_asks.f askM
  by_cases h1 : s = 400
  · simp only [h1, ↓reduceIte, impl_IsRed_f, Option.bind_some]
  · by_cases h2 : s ≥ 300
    · simp only [h1, h2, ↓reduceIte, impl_RankOf_f, Option.bind_some]
    · by_cases h3 : s ≥ 200
      · simp only [h1, h2, h3, ↓reduceIte, impl_RankOf_f, Option.bind_some]
      · simp only [h1, h2, h3, ↓reduceIte, impl_SuitOf_f, Option.bind_some]

/-! impl_Matches -/
theorem impl_Matches_l0 (p : List Int) (c : Int) (hl : p.length ≤ 20) (hp : patF p 0 = some 1) : Ev (fun k => impl_Matches.l0 k c [] p (p.length : Int) 0) (matchF c p []) := by
  suffices H : ∀ x : List Bool, (x.length : Int) ≤ 0 → patF p (x.length : Int) = some 1 → Ev (fun k => impl_Matches.l0 k c x p (p.length : Int) 0) (matchF c p x) from H [] (by simp) hp
  refine loop_int p (by omega) (P := fun i rest => ∀ x : List Bool, (x.length : Int) ≤ i → patF rest (x.length : Int) = some 1 → Ev (fun k => impl_Matches.l0 k c x p (p.length : Int) i) (matchF c rest x)) ?_ ?_
  · intro x hx he
    have h1 : 0 < (x.length : Int) := by simp only [patF, Option.some.injEq] at he; omega
    refine ev_succ (ev_of_eq fun k => ?_)
    simp only [impl_Matches.l0, Int.lt_irrefl, h1, ↓reduceIte, matchF]
  · intro i s rest h0 h1 hs hm hw ih x hx he
    refine ev_succ ?_
    have b : x.length < 140737488355328 := by omega
    have w1 : wrap64 ((x.length : Int) - 1) = (x.length : Int) - 1 := w64 (by omega) (by omega)
    have w2 : wrap64 ((x.length : Int) - 2) = (x.length : Int) - 2 := w64 (by omega) (by omega)
    rcases patF_step he with ⟨e1, e2, e3, e4⟩ | ⟨e1, e2, e4⟩ | ⟨e1, e2, e4⟩
    · simp only [impl_Matches.l0, h1, h0, hs, e1, e2, e3, b, hw, ↓reduceIte, impl_ask_f, Option.bind_some, matchF]
      exact ih (x ++ [askM s c]) (by simp; omega) (by simpa using e4)
    · have g1 : 0 ≤ (x.length : Int) - 1 := by omega
      have g2 : (x.length : Int) - 1 < (x.length : Int) := by omega
      simp only [impl_Matches.l0, h1, h0, hs, e1, w1, g1, g2, hw, ↓reduceIte, matchF]
      exact ih _ (by rw [List.length_set]; omega) (by rw [List.length_set]; exact e4)
    · have g1 : 0 ≤ (x.length : Int) - 2 := by omega
      have g2 : (x.length : Int) - 2 < (x.length : Int) := by omega
      have g3 : (x.length : Int) - 2 ≤ (x.length : Int) := by omega
      have g4 : 0 ≤ (x.length : Int) - 1 := by omega
      have g5 : (x.length : Int) - 1 < (x.length : Int) := by omega
      have tl : (x.take ((x.length : Int) - 2).toNat).length = ((x.length : Int) - 2).toNat := by rw [List.length_take]; omega
      have g6 : (x.take ((x.length : Int) - 2).toNat).length < 140737488355328 := by omega
      have nx : ∀ y : Bool, Ev (fun k => impl_Matches.l0 k c (x.take ((x.length : Int) - 2).toNat ++ [y]) p (p.length : Int) (i + 1)) (matchF c rest (x.take ((x.length : Int) - 2).toNat ++ [y])) := by
        intro y
        have ln : ((x.take ((x.length : Int) - 2).toNat ++ [y]).length : Int) = (x.length : Int) - 1 := by rw [List.length_append, tl]; simp; omega
        exact ih _ (by omega) (by rw [ln]; exact e4)
      rcases e1 with e1 | e1
      · have z : ¬ (-2 : Int) = -1 := by omega
        cases hv : rdOf false x ((x.length : Int) - 2)
        · simp only [impl_Matches.l0, h1, h0, hs, e1, z, w1, w2, g1, g2, g3, g4, g5, g6, hv, hw, Option.bind_some, Bool.false_eq_true, Bool.false_and, ↓reduceIte, matchF]
          exact nx false
        · simp only [impl_Matches.l0, h1, h0, hs, e1, z, w1, w2, g1, g2, g3, g4, g5, g6, hv, hw, Option.bind_some, Bool.true_and, ↓reduceIte, matchF]
          exact nx _
      · have z : ¬ (-3 : Int) = -1 := by omega
        have z2 : ¬ (-3 : Int) = -2 := by omega
        cases hv : rdOf false x ((x.length : Int) - 2)
        · simp only [impl_Matches.l0, h1, h0, hs, e1, z, z2, w1, w2, g1, g2, g3, g4, g5, g6, hv, hw, Option.bind_some, Bool.false_eq_true, Bool.false_or, ↓reduceIte, matchF]
          exact nx _
        · simp only [impl_Matches.l0, h1, h0, hs, e1, z, z2, w1, w2, g1, g2, g3, g4, g5, g6, hv, hw, Option.bind_some, Bool.true_or, ↓reduceIte, matchF]
          exact nx true
theorem impl_Matches_ev (p : List Int) (c : Int) (hl : p.length ≤ 1099511627776) : Ev (fun k => impl_Matches.f k p c) (matchM p c) := by
  simp only [impl_Matches.f, impl_IsCard_f, Option.bind_some, matchM]
  refine Ev.bind (impl_IsPattern_ev p hl) ?_
  cases hp : isPatM p
  · simp only [Bool.false_eq_true, ↓reduceIte, Bool.false_and]
    exact ev_succ (ev_of_eq fun k => by simp only [impl_Matches.j0, ↓reduceIte])
  · simp only [↓reduceIte, Bool.true_and]
    refine ev_succ ?_
    cases hc : isCardM c
    · exact ev_of_eq fun k => by simp only [impl_Matches.j0, Bool.not_false, ↓reduceIte, Bool.false_and]
    · simp only [impl_Matches.j0, Bool.not_true, Bool.false_eq_true, ↓reduceIte, Bool.true_and]
      obtain ⟨h1, h2⟩ := isPatM_run hp
      exact impl_Matches_l0 p c h2 h1

/-! impl_isMaybe -/
theorem impl_isMaybe_ev (l : List Int) (hl : l.length ≤ 1099511627776) : Ev (fun k => impl_isMaybe.f k l) (maybeM l) := by
  simp only [impl_isMaybe.f, maybeM]
  by_cases h : l.length = 0
  · obtain rfl := List.eq_nil_of_length_eq_zero h
    exact ev_of_eq fun k => rfl
  · have h' : ¬ (l.length : Int) = 0 := by omega
    simp only [h', h, ↓reduceIte, decide_false, Bool.false_or]
    exact Ev.bind (impl_IsPattern_ev l hl) (Ev.now _)

/-! impl_IsRules -/
theorem impl_IsRules_ev (a0 a1 : Int) (a2 a3 : Bool) (l4 l5 : List Int) (a6 a7 : Int) (h4 : l4.length ≤ 1048576) (h5 : l5.length ≤ 1048576) :
    Ev (fun k => impl_IsRules.f k a0 a1 a2 a3 l4 l5 a6 a7) (isRulesM a0 a1 a2 a3 l4 l5 a6 a7) := by
  have tail : Ev (fun k => (impl_isMaybe.f k l4).bind fun t => (if t = true then ((impl_isMaybe.f k l5).bind fun t => (if t = true then ((impl_InRange.f a6 1 4).bind fun t => (if t = true then ((impl_InRange.f a7 1 400).bind fun t => (some t)) else (some false))) else (some false))) else (some false)))
      (maybeM l4 && (maybeM l5 && (decide (1 ≤ a6 ∧ a6 ≤ 4) && decide (1 ≤ a7 ∧ a7 ≤ 400)))) := by
    refine Ev.bind (impl_isMaybe_ev l4 (by omega)) ?_
    cases maybeM l4
    · exact Ev.now _
    · refine Ev.bind (impl_isMaybe_ev l5 (by omega)) ?_
      cases maybeM l5
      · exact Ev.now _
      · refine ev_of_eq fun k => ?_
        simp only [impl_InRange_f, Option.bind_some, ↓reduceIte]
        cases decide (1 ≤ a6 ∧ a6 ≤ 4) <;> simp
  simp only [impl_IsRules.f]
  simp only [impl_InRange_f, Option.bind_some] at tail ⊢
  unfold isRulesM
  cases decide (2 ≤ a0 ∧ a0 ≤ 6)
  · exact Ev.now _
  · cases decide (1 ≤ a1 ∧ a1 ≤ 8)
    · exact Ev.now _
    · cases a2
      · cases a3
        · exact Ev.now _
        · simpa using tail
      · simpa using tail

/-! impl_FitsOn -/
theorem impl_FitsOn_ev (a0 a1 : Int) (a2 a3 : Bool) (l4 l5 : List Int) (a6 a7 t c : Int) (h4 : l4.length ≤ 1048576) (h5 : l5.length ≤ 1048576) :
    Ev (fun k => impl_FitsOn.f k a0 a1 a2 a3 l4 l5 a6 a7 t c) (isRulesM a0 a1 a2 a3 l4 l5 a6 a7 && (isCardM t && (isCardM c && ((a2 && decide (suitM c = suitM t)) || ((a3 && decide (rankM c = rankM t)) || matchM l4 c))))) := by
  simp only [impl_FitsOn.f, impl_IsCard_f, Option.bind_some]
  refine Ev.bind (impl_IsRules_ev a0 a1 a2 a3 l4 l5 a6 a7 h4 h5) ?_
  have no : ∀ v : Bool, v = false → Ev (fun k => impl_FitsOn.j0 k t c true a0 a1 a2 a3 l4 l5 a6 a7) v := by
    intro v hv
    exact ev_succ (ev_of_eq fun k => by simp only [impl_FitsOn.j0, ↓reduceIte, hv])
  cases isRulesM a0 a1 a2 a3 l4 l5 a6 a7
  · simp only [Bool.false_eq_true, ↓reduceIte, Bool.false_and]
    exact no _ rfl
  · simp only [↓reduceIte, Bool.true_and]
    cases isCardM t
    · simp only [Bool.false_eq_true, ↓reduceIte, Bool.false_and]
      exact no _ rfl
    · simp only [↓reduceIte, Bool.true_and]
      cases isCardM c
      · simp only [Bool.not_false, Bool.false_and]
        exact no _ rfl
      · simp only [Bool.not_true, Bool.true_and]
        refine ev_succ ?_
        have mt : Ev (fun k => (impl_Matches.f k l4 c).bind fun x => some x) (matchM l4 c) := Ev.bind (impl_Matches_ev l4 c (by omega)) (Ev.now _)
        simp only [impl_FitsOn.j0, impl_SuitOf_f, impl_RankOf_f, Option.bind_some, Bool.false_eq_true, ↓reduceIte]
        by_cases h1 : suitM c = suitM t <;> by_cases h2 : rankM c = rankM t <;> cases a2 <;> cases a3 <;> simp only [h1, h2, decide_true, decide_false, Bool.and_self, Bool.and_true, Bool.and_false, Bool.true_and, Bool.false_and, Bool.true_or, Bool.false_or, Bool.or_true, Bool.or_false, Bool.false_eq_true, ↓reduceIte] <;> first | exact Ev.now _ | exact mt

/-! impl_FitCount -/
theorem impl_FitCount_ev (a0 a1 : Int) (a2 a3 : Bool) (l4 l5 : List Int) (a6 a7 t : Int) (h4 : l4.length ≤ 1048576) (h5 : l5.length ≤ 1048576) :
    Ev (fun k => impl_FitCount.f k a0 a1 a2 a3 l4 l5 a6 a7 t) (fitF (fitsM a0 a1 a2 a3 l4 l5 a6 a7 t) t 52 0) := by
  simp only [impl_FitCount.f]
  suffices H : ∀ n : Int, 0 ≤ n → n ≤ 0 → Ev (fun k => impl_FitCount.l0 k t n 0 a0 a1 a2 a3 l4 l5 a6 a7) (n + fitF (fitsM a0 a1 a2 a3 l4 l5 a6 a7 t) t 52 0) by simpa using H 0 (by omega) (by omega)
  refine loop_up 52 (by omega) (P := fun i m => ∀ n : Int, 0 ≤ n → n ≤ i → Ev (fun k => impl_FitCount.l0 k t n i a0 a1 a2 a3 l4 l5 a6 a7) (n + fitF (fitsM a0 a1 a2 a3 l4 l5 a6 a7 t) t m i)) ?_ ?_
  · intro n _ _
    refine ev_succ (ev_of_eq fun k => ?_)
    have c : ¬ ((52 : Nat) : Int) < 52 := by omega
    simp only [impl_FitCount.l0, c, ↓reduceIte, fitF, Int.add_zero]
  · intro i m h0 h1 hm hw ih n hn0 hn1
    have c : i < 52 := by omega
    refine ev_succ ?_
    by_cases e : i = t
    · subst e
      simp only [impl_FitCount.l0, c, ↓reduceIte, fitF, hw]
      exact ih n hn0 (by omega)
    · simp only [impl_FitCount.l0, c, e, ↓reduceIte, fitF, hw]
      refine Ev.bind (impl_FitsOn_ev a0 a1 a2 a3 l4 l5 a6 a7 t i h4 h5) ?_
      show Ev (fun k => if fitsM a0 a1 a2 a3 l4 l5 a6 a7 t i = true then _ else _) _
      cases fitsM a0 a1 a2 a3 l4 l5 a6 a7 t i
      · simp only [Bool.false_eq_true, ↓reduceIte]
        exact ih n hn0 (by omega)
      · simp only [↓reduceIte]
        rw [w64 (by omega) (by omega)]
        exact ev_eq (ih (n + 1) (by omega) (by omega)) (by omega)

/-! laws_eqIntS -/
theorem laws_eqIntS_ev (l : List Int) (hl : l.length ≤ 1099511627776) : Ev (fun k => laws_eqIntS.f k l l) true := by
  simp only [laws_eqIntS.f, ↓reduceIte]
  refine loop_int l hl (P := fun i _ => Ev (fun k => laws_eqIntS.l0 k l l i) true) ?_ ?_
  · refine ev_succ (ev_of_eq fun k => ?_)
    simp only [laws_eqIntS.l0, Int.lt_irrefl, ↓reduceIte]
  · intro i x rest h0 h1 hx _ hw ih
    refine ev_succ ?_
    simp only [laws_eqIntS.l0, h1, h0, ↓reduceIte, hw]
    exact ih

/-! laws_eqRules -/
theorem laws_eqRules_ev (a0 a1 : Int) (a2 a3 : Bool) (l4 l5 : List Int) (a6 a7 : Int) (h4 : l4.length ≤ 1048576) (h5 : l5.length ≤ 1048576) :
    Ev (fun k => laws_eqRules.f k a0 a1 a2 a3 l4 l5 a6 a7 a0 a1 a2 a3 l4 l5 a6 a7) true := by
  simp only [laws_eqRules.f, bne_self_eq_false, Bool.false_eq_true, ↓reduceIte]
  refine Ev.bind (laws_eqIntS_ev l4 (by omega)) ?_
  simp only [↓reduceIte]
  refine Ev.bind (laws_eqIntS_ev l5 (by omega)) ?_
  exact ev_of_eq fun k => by simp only [↓reduceIte]

/-- The pure statement. -/
def FnExactFitCount_Stmt : Prop := ∀ (a0_0 : Int) (a0_1 : Int) (a0_2 : Bool) (a0_3 : Bool) (a0_4 : (List Int)) (a0_5 : (List Int)) (a0_6 : Int) (a0_7 : Int) (a1 : Int), (Lit.int .i64 a0_0).wf = true → (Lit.int .i64 a0_1).wf = true → a0_4.length ≤ maxLen → (∀ y ∈ a0_4, (Lit.int .i64 y).wf = true) → a0_5.length ≤ maxLen → (∀ y ∈ a0_5, (Lit.int .i64 y).wf = true) → (Lit.int .i64 a0_6).wf = true → (Lit.int .i64 a0_7).wf = true → (Lit.int .i64 a1).wf = true → ∃ k, laws_FnExactFitCount.f k a0_0 a0_1 a0_2 a0_3 a0_4 a0_5 a0_6 a0_7 a1 = some true
-- uses: LibM
theorem FnExactFitCount : FnExactFitCount_Stmt := by
  intro a0_0 a0_1 a0_2 a0_3 a0_4 a0_5 a0_6 a0_7 a1 oa0_0 oa0_1 ma0_4 oa0_4 ma0_5 oa0_5 oa0_6 oa0_7 oa1
  refine Ev.rounds (g := fun k => laws_FnExactFitCount.f k a0_0 a0_1 a0_2 a0_3 a0_4 a0_5 a0_6 a0_7 a1) ?_
  simp only [laws_FnExactFitCount.f]
  obtain ⟨v0, e0, z0⟩ := laws_szRules_f a0_0 a0_1 a0_2 a0_3 a0_4 a0_5 a0_6 a0_7 1048576 ma0_4 ma0_5 (by omega) (by omega)
  simp only [e0, Option.bind_some]
  rcases z0 with z0 | ⟨y0, x0, sa0_4, sa0_5⟩
  · exact ev_of_eq fun k => by simp only [z0, ↓reduceIte]
  have n0 : ¬ v0 < 0 := by omega
  simp only [n0, ↓reduceIte]
  refine Ev.bind (laws_toRules_ev a0_0 a0_1 a0_2 a0_3 a0_4 a0_5 a0_6 a0_7 sa0_4 sa0_5) ?_
  refine Ev.bind (spec_FitCount_ev a0_0 a0_1 a0_2 a0_3 a0_4 a0_5 a0_6 a0_7 a1 sa0_4 sa0_5) ?_
  refine Ev.bind (laws_toRules_ev a0_0 a0_1 a0_2 a0_3 a0_4 a0_5 a0_6 a0_7 sa0_4 sa0_5) ?_
  refine Ev.bind (impl_FitCount_ev a0_0 a0_1 a0_2 a0_3 a0_4 a0_5 a0_6 a0_7 a1 sa0_4 sa0_5) ?_
  simp only [bne_self_eq_false, Bool.false_eq_true, ↓reduceIte]
  refine Ev.bind (laws_toRules_ev a0_0 a0_1 a0_2 a0_3 a0_4 a0_5 a0_6 a0_7 sa0_4 sa0_5) ?_
  refine Ev.bind (laws_eqRules_ev a0_0 a0_1 a0_2 a0_3 a0_4 a0_5 a0_6 a0_7 sa0_4 sa0_5) ?_
  exact ev_of_eq fun k => by simp only [↓reduceIte]

end Go.Proofs.Ytkhgeockdjjhmaa.Pure
