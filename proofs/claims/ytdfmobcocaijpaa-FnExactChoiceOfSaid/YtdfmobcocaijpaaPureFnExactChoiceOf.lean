/- The program's ChoiceOf answers what the reference's answers, for all arguments. No condition but those that the statement itself names. -/
import Derived.Test.YtdfmobcocaijpaaQFnExactChoiceOfx8
import Derived.Test.YtdfmobcocaijpaaVLib
import Derived.Test.YtdfmobcocaijpaaVLibM
namespace Go.Proofs.Ytdfmobcocaijpaa.Pure
open Go.RowKit Go.Proofs.Ytdfmobcocaijpaa.QFnExactChoiceOf Go.Proofs.YtdfmobcocaijpaaW.PrintWords Go.Proofs.YtdfmobcocaijpaaW.PrintLast Go.Proofs.YtdfmobcocaijpaaW.PrintMore Go.Proofs.Ytdfmobcocaijpaa.Lib
set_option linter.unusedVariables false
set_option linter.unusedSimpArgs false

/-! laws_szIntS -/
theorem laws_szIntS_f (l : List Int) (a : Int) (hl : l.length ≤ maxLen) (ha : 0 ≤ a) (ha2 : a ≤ 1048576) : ∃ v, laws_szIntS.f l a = some v ∧ (v < 0 ∨ (0 ≤ v ∧ v ≤ a ∧ l.length ≤ 1048576)) := by
  unfold maxLen at hl
  unfold laws_szIntS.f
  rw [w64 (by omega) (by omega)]
  by_cases h : (l.length : Int) ≤ a
  · exact ⟨_, if_neg (by omega), .inr (by omega)⟩
  · exact ⟨_, if_pos (by omega), .inl (by omega)⟩

/-! laws_szRules -/
theorem laws_szRules_f (a0 a1 : Int) (a2 a3 : Bool) (l4 l5 : List Int) (a6 a7 a : Int) (h4 : l4.length ≤ maxLen) (h5 : l5.length ≤ maxLen) (ha : 0 ≤ a) (ha2 : a ≤ 1048576) :
    ∃ v, laws_szRules.f a0 a1 a2 a3 l4 l5 a6 a7 a = some v ∧ (v < 0 ∨ (0 ≤ v ∧ v ≤ a ∧ l4.length ≤ 1048576 ∧ l5.length ≤ 1048576)) := by
  unfold laws_szRules.f
  obtain ⟨v, e, h⟩ := laws_szIntS_f l4 a h4 ha ha2
  simp only [e, Option.bind_some]
  rcases h with h | ⟨g0, g1, g2⟩
  · exact ⟨_, if_pos h, .inl (by omega)⟩
  · have n1 : ¬ v < 0 := by omega
    simp only [n1, ↓reduceIte]
    obtain ⟨v', e', h'⟩ := laws_szIntS_f l5 v h5 g0 (by omega)
    simp only [e', Option.bind_some]
    rcases h' with h' | ⟨g0', g1', g2'⟩
    · exact ⟨_, if_pos h', .inl (by omega)⟩
    · exact ⟨_, if_neg (by omega), .inr (by omega)⟩

/-! laws_szIntSS -/
theorem laws_szIntSS_ev (l : List (List Int)) (a : Int) (hl : l.length ≤ maxLen) (hm : ∀ y ∈ l, y.length ≤ maxLen) (ha : 0 ≤ a) (ha2 : a ≤ 1048576) : ∃ v, Ev (fun k => laws_szIntSS.f k l a) v ∧ (v < 0 ∨ (0 ≤ v ∧ v ≤ a ∧ l.length ≤ 1048576 ∧ ∀ y ∈ l, y.length ≤ 1048576)) := by
  unfold maxLen at hl
  simp only [laws_szIntSS.f]
  rw [w64 (by omega) (by omega)]
  by_cases c : a - (l.length : Int) < 0
  · exact ⟨-1, ev_of_eq fun k => by simp only [c, ↓reduceIte], Or.inl (by omega)⟩
  · simp only [c, ↓reduceIte]
    have H : ∀ b, 0 ≤ b → b ≤ 1048576 → ∃ v, Ev (fun k => laws_szIntSS.l0 k l b 0) v ∧ (v < 0 ∨ (0 ≤ v ∧ v ≤ b ∧ ∀ y ∈ l, y.length ≤ 1048576)) := by
      refine loop_of l [] (by omega) (P := fun i rest => ∀ b, 0 ≤ b → b ≤ 1048576 → ∃ v, Ev (fun k => laws_szIntSS.l0 k l b i) v ∧ (v < 0 ∨ (0 ≤ v ∧ v ≤ b ∧ ∀ y ∈ rest, y.length ≤ 1048576))) ?_ ?_
      · intro b h0 h1
        exact ⟨b, ev_succ (ev_of_eq fun k => by simp only [laws_szIntSS.l0, Int.lt_irrefl, ↓reduceIte]), Or.inr ⟨h0, by omega, by simp⟩⟩
      · intro i x rest h0 h1 hx hmem hw ih b hb0 hb1
        have hx' : rd_L1 l i = x := hx
        obtain ⟨v, e, hv⟩ := laws_szIntS_f x b (hm x hmem) hb0 hb1
        rcases hv with hv | ⟨v0, v1, vl⟩
        · exact ⟨-1, ev_succ (ev_of_eq fun k => by simp only [laws_szIntSS.l0, h1, h0, hx', e, Option.bind_some, hv, ↓reduceIte]), Or.inl (by omega)⟩
        · obtain ⟨u, eu, hu⟩ := ih v v0 (by omega)
          have nv : ¬ v < 0 := by omega
          refine ⟨u, ev_succ ?_, ?_⟩
          · simp only [laws_szIntSS.l0, h1, h0, hx', e, Option.bind_some, nv, hw, ↓reduceIte]
            exact eu
          · rcases hu with hu | ⟨u0, u1, ul⟩
            · exact Or.inl hu
            · refine Or.inr ⟨u0, by omega, fun y hy => ?_⟩
              rcases List.mem_cons.mp hy with hy | hy
              · rw [hy]; exact vl
              · exact ul y hy
    obtain ⟨v, e, hv⟩ := H (a - l.length) (by omega) (by omega)
    exact ⟨v, e, hv.imp id (fun h => ⟨h.1, by omega, by omega, h.2.2⟩)⟩

/-! laws_szGame -/
theorem laws_szGame_ev (a0 a1 : Int) (a2 a3 : Bool) (l4 l5 : List Int) (a6 a7 : Int) (l8 : List (List Int)) (l9 l10 : List Int) (a11 a12 a13 a : Int) (h4 : l4.length ≤ maxLen) (h5 : l5.length ≤ maxLen) (h8 : l8.length ≤ maxLen) (hm : ∀ y ∈ l8, y.length ≤ maxLen) (h9 : l9.length ≤ maxLen) (h10 : l10.length ≤ maxLen) (ha : 0 ≤ a) (ha2 : a ≤ 1048576) :
    ∃ v, Ev (fun k => laws_szGame.f k a0 a1 a2 a3 l4 l5 a6 a7 l8 l9 l10 a11 a12 a13 a) v ∧ (v < 0 ∨ (0 ≤ v ∧ v ≤ a ∧ l4.length ≤ 1048576 ∧ l5.length ≤ 1048576 ∧ l8.length ≤ 1048576 ∧ (∀ y ∈ l8, y.length ≤ 1048576) ∧ l9.length ≤ 1048576 ∧ l10.length ≤ 1048576)) := by
  simp only [laws_szGame.f]
  obtain ⟨v, e, hv⟩ := laws_szRules_f a0 a1 a2 a3 l4 l5 a6 a7 a h4 h5 ha ha2
  rcases hv with hv | ⟨v0, v1, b4, b5⟩
  · exact ⟨-1, ev_of_eq fun k => by simp only [e, Option.bind_some, hv, ↓reduceIte], Or.inl (by omega)⟩
  have n0 : ¬ v < 0 := by omega
  simp only [e, Option.bind_some, n0, ↓reduceIte]
  obtain ⟨u, eu, hu⟩ := laws_szIntSS_ev l8 v h8 hm v0 (by omega)
  rcases hu with hu | ⟨u0, u1, b8, bm⟩
  · exact ⟨-1, Ev.bind eu (ev_of_eq fun k => by simp only [hu, ↓reduceIte]), Or.inl (by omega)⟩
  have n1 : ¬ u < 0 := by omega
  obtain ⟨t, et, ht⟩ := laws_szIntS_f l9 u h9 u0 (by omega)
  rcases ht with ht | ⟨t0, t1, b9⟩
  · exact ⟨-1, Ev.bind eu (ev_of_eq fun k => by simp only [n1, et, Option.bind_some, ht, ↓reduceIte]), Or.inl (by omega)⟩
  have n2 : ¬ t < 0 := by omega
  obtain ⟨s, es, hs⟩ := laws_szIntS_f l10 t h10 t0 (by omega)
  rcases hs with hs | ⟨s0, s1, b10⟩
  · exact ⟨-1, Ev.bind eu (ev_of_eq fun k => by simp only [n1, n2, et, es, Option.bind_some, hs, ↓reduceIte]), Or.inl (by omega)⟩
  have n3 : ¬ s < 0 := by omega
  exact ⟨s, Ev.bind eu (ev_of_eq fun k => by simp only [n1, n2, n3, et, es, Option.bind_some, ↓reduceIte]), Or.inr ⟨s0, by omega, b4, b5, b8, bm, b9, b10⟩⟩

/-! spec_l1In -/
theorem spec_l1In_f (a b c : Int) : spec_l1In.f a b c = some (decide (b ≤ a ∧ a ≤ c)) := by
  unfold spec_l1In.f
  by_cases h : b ≤ a <;> simp [h]

/-! spec_l8Leaf -/
theorem spec_l8Leaf_f (s : Int) : spec_l8Leaf.f s = some (leafM s) := by
  simp only [spec_l8Leaf.f, spec_l1In_f, Option.bind_some, leafM]
  by_cases h1 : 100 ≤ s ∧ s ≤ 103
  · simp [h1]
  by_cases h2 : 200 ≤ s ∧ s ≤ 212
  · simp [h1, h2]
  by_cases h3 : 300 ≤ s ∧ s ≤ 312
  · simp [h1, h2, h3]
  simp [h1, h2, h3]

/-! spec_IsPattern -/
theorem spec_IsPattern_ev (l : List Int) (hl : l.length ≤ 1099511627776) : Ev (fun k => spec_IsPattern.f k l) (isPatM l) := by
  simp only [spec_IsPattern.f, isPatM]
  refine loop_int l hl (P := fun i rest => ∀ n, 0 ≤ n → n ≤ i → Ev (fun k => spec_IsPattern.l0 k l n i) (patEnd l.length (patF rest n))) ?_ ?_ 0 (by omega) (by omega)
  · intro n hn hi
    refine ev_succ (ev_of_eq fun k => ?_)
    simp only [spec_IsPattern.l0, Int.lt_irrefl, ↓reduceIte, patF, patEnd]
    by_cases h : n = 1
    · simp only [h, ↓reduceIte, decide_true, Bool.true_and]
      congr 1
      rw [Bool.eq_iff_iff]
      simp
      omega
    · simp [h]
  · intro i x rest h0 h1 hx _ hw ih n hn hi
    refine ev_succ ?_
    have w1 : wrap64 (n + 1) = n + 1 := w64 (by omega) (by omega)
    simp only [spec_IsPattern.l0, h1, h0, ↓reduceIte, hx, hw, spec_l8Leaf_f, Option.bind_some, patF, w1]
    by_cases g1 : leafM x = true
    · simp only [g1, ↓reduceIte]
      exact ih _ (by omega) (by omega)
    · simp only [g1, Bool.false_eq_true, ↓reduceIte]
      by_cases g2 : x = -1
      · have e2 : ¬ x = -2 := by omega
        have e3 : ¬ x = -3 := by omega
        by_cases g3 : 1 ≤ n
        · have g3' : decide (n ≥ 1) = true := by simp; omega
          simp only [g2, g3, g3', ↓reduceIte, and_self]
          refine ev_succ ?_
          simp only [spec_IsPattern.j1, ↓reduceIte, hw]
          exact ih _ (by omega) (by omega)
        · have g3' : decide (n ≥ 1) = false := by simp; omega
          refine ev_succ (ev_of_eq fun k => ?_)
          simp only [spec_IsPattern.j1, g2, g3', g3, h1, h0, hx, ↓reduceIte, Bool.false_eq_true]
          simp [patEnd, e2, e3, g2, g3]
      · simp only [g2, ↓reduceIte, false_and]
        refine ev_succ ?_
        simp only [spec_IsPattern.j1, h1, h0, hx, hw, ↓reduceIte, Bool.false_eq_true, ge_iff_le]
        have w2 : 2 ≤ n → wrap64 (n - 1) = n - 1 := fun _ => w64 (by omega) (by omega)
        by_cases g4 : x = -2
        · by_cases g5 : 2 ≤ n
          · simp only [g4, g5, w2 g5, ↓reduceIte, true_or, and_self]
            exact ih _ (by omega) (by omega)
          · refine ev_of_eq fun k => ?_
            simp [g4, g5, patEnd]
        · by_cases g6 : x = -3
          · by_cases g5 : 2 ≤ n
            · simp only [g4, g6, g5, w2 g5, ↓reduceIte, or_true, and_self]
              exact ih _ (by omega) (by omega)
            · refine ev_of_eq fun k => ?_
              simp [g6, g5, patEnd]
          · refine ev_of_eq fun k => ?_
            simp [g4, g6, patEnd]

/-! spec_l22Pattern -/
theorem spec_l22Pattern_ev (l : List Int) (hl : l.length ≤ 1099511627776) : Ev (fun k => spec_l22Pattern.f k l) (maybeM l) := by
  simp only [spec_l22Pattern.f, maybeM]
  by_cases h : l.length = 0
  · obtain rfl := List.eq_nil_of_length_eq_zero h
    exact ev_of_eq fun k => rfl
  · have h' : ¬ (l.length : Int) = 0 := by omega
    simp only [h', h, ↓reduceIte, decide_false, Bool.false_or]
    exact Ev.bind (spec_IsPattern_ev l hl) (Ev.now _)

/-! spec_IsRules -/
theorem spec_IsRules_ev (a0 a1 : Int) (a2 a3 : Bool) (l4 l5 : List Int) (a6 a7 : Int) (h4 : l4.length ≤ 1048576) (h5 : l5.length ≤ 1048576) :
    Ev (fun k => spec_IsRules.f k a0 a1 a2 a3 l4 l5 a6 a7) (isRulesM a0 a1 a2 a3 l4 l5 a6 a7) := by
  have tail : Ev (fun k => (spec_l22Pattern.f k l4).bind fun t => (if t = true then ((spec_l22Pattern.f k l5).bind fun t => (if t = true then ((spec_l1In.f a6 1 4).bind fun t => (if t = true then ((spec_l1In.f a7 1 400).bind fun t => (some t)) else (some false))) else (some false))) else (some false)))
      (maybeM l4 && (maybeM l5 && (decide (1 ≤ a6 ∧ a6 ≤ 4) && decide (1 ≤ a7 ∧ a7 ≤ 400)))) := by
    refine Ev.bind (spec_l22Pattern_ev l4 (by omega)) ?_
    cases maybeM l4
    · exact Ev.now _
    · refine Ev.bind (spec_l22Pattern_ev l5 (by omega)) ?_
      cases maybeM l5
      · exact Ev.now _
      · refine ev_of_eq fun k => ?_
        simp only [spec_l1In_f, Option.bind_some, ↓reduceIte]
        cases decide (1 ≤ a6 ∧ a6 ≤ 4) <;> simp
  simp only [spec_IsRules.f]
  simp only [spec_l1In_f, Option.bind_some] at tail ⊢
  unfold isRulesM
  cases decide (2 ≤ a0 ∧ a0 ≤ 6)
  · exact Ev.now _
  · cases decide (1 ≤ a1 ∧ a1 ≤ 8)
    · exact Ev.now _
    · cases a2
      · cases a3
        · exact Ev.now _
        · simpa using tail
      · simpa using tail

/-! spec_IsCard -/
theorem spec_IsCard_f (a : Int) : spec_IsCard.f a = some (isCardM a) := by
  unfold spec_IsCard.f
  rw [spec_l1In_f]
  rfl

/-! spec_HasCard -/
theorem spec_HasCard_ev (l : List Int) (c : Int) (hl : l.length ≤ 1099511627776) : Ev (fun k => spec_HasCard.f k l c) (l.contains c) := by
  simp only [spec_HasCard.f]
  refine loop_int l hl (P := fun i rest => Ev (fun k => spec_HasCard.l0 k l c i) (rest.contains c)) ?_ ?_
  · refine ev_succ (ev_of_eq fun k => ?_)
    simp only [spec_HasCard.l0, Int.lt_irrefl, ↓reduceIte, List.contains_nil]
  · intro i x rest h0 h1 hx _ hw ih
    refine ev_succ ?_
    simp only [spec_HasCard.l0, h1, h0, ↓reduceIte, hx, hw]
    by_cases h : x = c
    · refine ev_of_eq fun k => ?_
      simp [h]
    · have h' : ¬ c = x := fun e => h e.symm
      simp only [h, ↓reduceIte]
      refine ev_eq ih ?_
      simp [h']

/-! spec_IsHand -/
theorem spec_IsHand_ev (l : List Int) (hl : l.length ≤ 1099511627776) : Ev (fun k => spec_IsHand.f k l) (isHandM l) := by
  simp only [spec_IsHand.f, isHandM]
  refine loop_int_pre l hl (P := fun i pre rest => Ev (fun k => spec_IsHand.l0 k l i) (handP pre rest)) ?_ ?_
  · refine ev_succ (ev_of_eq fun k => ?_)
    simp only [spec_IsHand.l0, Int.lt_irrefl, ↓reduceIte, handP]
  · intro i pre x rest hl' hi h0 h1 hx hw ih
    refine ev_succ ?_
    have h2 : i ≤ (l.length : Int) := by omega
    have ht : l.take i.toNat = pre := by
      rw [hl', hi, Int.toNat_natCast]
      simp
    simp only [spec_IsHand.l0, h1, h0, h2, ↓reduceIte, hx, hw, ht, spec_IsCard_f, Option.bind_some, handP]
    cases hc : isCardM x
    · refine ev_of_eq fun k => ?_
      simp
    · simp only [↓reduceIte, Bool.true_and]
      refine Ev.bind (spec_HasCard_ev pre x (by rw [hl'] at hl; simp at hl; omega)) ?_
      cases hp : pre.contains x
      · simp only [Bool.false_eq_true, ↓reduceIte, Bool.not_false, Bool.true_and]
        exact ih
      · refine ev_of_eq fun k => ?_
        simp

/-! spec_IsGame -/
def spWhole (l : List Int) : Bool := isHandM l && ((l.length : Int) == 52)
def gameM (a0 a1 : Int) (a2 a3 : Bool) (l4 l5 : List Int) (a6 a7 : Int) (l8 : List (List Int)) (l9 l10 : List Int) (a11 a12 a13 : Int) : Bool :=
  isRulesM a0 a1 a2 a3 l4 l5 a6 a7 && (decide ((l8.length : Int) = a0) && (decide (0 < (l10.length : Int)) && (decide (0 ≤ a11 ∧ a11 ≤ a0 - 1) && (decide (0 ≤ a12 ∧ a12 ≤ a7) && (decide (0 ≤ a13 ∧ a13 ≤ a12) && spWhole (l9 ++ l10 ++ l8.flatten))))))
theorem rules_players {a0 a1 : Int} {a2 a3 : Bool} {l4 l5 : List Int} {a6 a7 : Int} (h : isRulesM a0 a1 a2 a3 l4 l5 a6 a7 = true) : 2 ≤ a0 ∧ a0 ≤ 6 := by
  unfold isRulesM at h
  rw [Bool.and_eq_true] at h
  exact of_decide_eq_true h.1
theorem spec_IsGame_l0 (a0 a1 : Int) (a2 a3 : Bool) (l4 l5 : List Int) (a6 a7 : Int) (l8 : List (List Int)) (l9 l10 : List Int) (a11 a12 a13 : Int) (hl : l8.length ≤ 6) (hm : ∀ y ∈ l8, y.length ≤ 1048576) (acc : List Int) (ha : acc.length ≤ 4194304) :
    Ev (fun k => spec_IsGame.l0 k acc 0 a0 a1 a2 a3 l4 l5 a6 a7 l8 l9 l10 a11 a12 a13) (spWhole (acc ++ l8.flatten)) := by
  suffices H : ∀ acc : List Int, (acc.length : Int) ≤ 4194304 + 0 * 1048576 → Ev (fun k => spec_IsGame.l0 k acc 0 a0 a1 a2 a3 l4 l5 a6 a7 l8 l9 l10 a11 a12 a13) (spWhole (acc ++ l8.flatten)) from H acc (by omega)
  refine loop_of l8 [] (by omega) (P := fun i rest => ∀ acc : List Int, (acc.length : Int) ≤ 4194304 + i * 1048576 → Ev (fun k => spec_IsGame.l0 k acc i a0 a1 a2 a3 l4 l5 a6 a7 l8 l9 l10 a11 a12 a13) (spWhole (acc ++ rest.flatten))) ?_ ?_
  · intro acc hacc
    refine ev_succ ?_
    simp only [spec_IsGame.l0, Int.lt_irrefl, ↓reduceIte, List.flatten_nil, List.append_nil, spWhole]
    by_cases c : (acc.length : Int) = 52
    · simp only [c, ↓reduceIte, beq_self_eq_true, Bool.and_true]
      exact Ev.bind (spec_IsHand_ev acc (by omega)) (Ev.now _)
    · have c' : ((acc.length : Int) == 52) = false := beq_eq_false_iff_ne.mpr c
      exact ev_of_eq fun k => by simp only [c, c', ↓reduceIte, Bool.and_false]
  · intro i x rest h0 h1 hx hmem hw ih acc hacc
    have hx' : rd_L1 l8 i = x := hx
    have hxl := hm x hmem
    have g : acc.length + x.length < 17592186044416 := by omega
    refine ev_succ ?_
    simp only [spec_IsGame.l0, h1, h0, hx', ↓reduceIte, hw, g, List.flatten_cons]
    have step := ih (acc ++ x) (by simp; omega)
    rw [List.append_assoc] at step
    exact step
theorem spec_IsGame_j0t (a0 a1 : Int) (a2 a3 : Bool) (l4 l5 : List Int) (a6 a7 : Int) (l8 : List (List Int)) (l9 l10 : List Int) (a11 a12 a13 : Int) : Ev (fun k => spec_IsGame.j0 k true a0 a1 a2 a3 l4 l5 a6 a7 l8 l9 l10 a11 a12 a13) false :=
  ev_succ (ev_of_eq fun k => by simp only [spec_IsGame.j0, ↓reduceIte])
theorem spec_IsGame_j0f (a0 a1 : Int) (a2 a3 : Bool) (l4 l5 : List Int) (a6 a7 : Int) (l8 : List (List Int)) (l9 l10 : List Int) (a11 a12 a13 : Int) (hl : l8.length ≤ 6) (hm : ∀ y ∈ l8, y.length ≤ 1048576) (h9 : l9.length ≤ 1048576) (h10 : l10.length ≤ 1048576) :
    Ev (fun k => spec_IsGame.j0 k false a0 a1 a2 a3 l4 l5 a6 a7 l8 l9 l10 a11 a12 a13) (spWhole (l9 ++ l10 ++ l8.flatten)) := by
  have g1 : l9.length < 17592186044416 := by omega
  have g2 : l9.length + l10.length < 17592186044416 := by omega
  refine ev_succ ?_
  simp only [spec_IsGame.j0, Bool.false_eq_true, ↓reduceIte, Option.bind_some, List.length_nil, Nat.zero_add, List.nil_append, g1, g2]
  exact spec_IsGame_l0 a0 a1 a2 a3 l4 l5 a6 a7 l8 l9 l10 a11 a12 a13 hl hm (l9 ++ l10) (by simp; omega)
theorem spec_IsGame_ev (a0 a1 : Int) (a2 a3 : Bool) (l4 l5 : List Int) (a6 a7 : Int) (l8 : List (List Int)) (l9 l10 : List Int) (a11 a12 a13 : Int) (h4 : l4.length ≤ 1048576) (h5 : l5.length ≤ 1048576) (h8 : l8.length ≤ 1048576) (hm : ∀ y ∈ l8, y.length ≤ 1048576) (h9 : l9.length ≤ 1048576) (h10 : l10.length ≤ 1048576) :
    Ev (fun k => spec_IsGame.f k a0 a1 a2 a3 l4 l5 a6 a7 l8 l9 l10 a11 a12 a13) (gameM a0 a1 a2 a3 l4 l5 a6 a7 l8 l9 l10 a11 a12 a13) := by
  simp only [spec_IsGame.f]
  refine Ev.bind (spec_IsRules_ev a0 a1 a2 a3 l4 l5 a6 a7 h4 h5) ?_
  unfold gameM
  cases hr : isRulesM a0 a1 a2 a3 l4 l5 a6 a7
  · simp only [Bool.false_eq_true, ↓reduceIte, Bool.false_and]
    exact spec_IsGame_j0t a0 a1 a2 a3 l4 l5 a6 a7 l8 l9 l10 a11 a12 a13
  · have hp := rules_players hr
    simp only [↓reduceIte, Bool.true_and]
    by_cases c : (l8.length : Int) = a0
    · have w1 : wrap64 (a0 - 1) = a0 - 1 := w64 (by omega) (by omega)
      simp only [c, ↓reduceIte, decide_true, Bool.true_and, spec_l1In_f, Option.bind_some, w1]
      by_cases c1 : (l10.length : Int) = 0
      · have c1' : ¬ (0 < (l10.length : Int)) := by omega
        simp only [c1, c1', ↓reduceIte, decide_false, Bool.false_and, Int.lt_irrefl]
        exact spec_IsGame_j0t a0 a1 a2 a3 l4 l5 a6 a7 l8 l9 l10 a11 a12 a13
      · have c1' : 0 < (l10.length : Int) := by omega
        simp only [c1, c1', ↓reduceIte, decide_true, Bool.true_and]
        by_cases c2 : 0 ≤ a11 ∧ a11 ≤ a0 - 1
        · simp only [c2, and_self, decide_true, ↓reduceIte, Bool.true_and]
          by_cases c3 : 0 ≤ a12 ∧ a12 ≤ a7
          · simp only [c3, and_self, decide_true, ↓reduceIte, Bool.true_and]
            by_cases c4 : 0 ≤ a13 ∧ a13 ≤ a12
            · simp only [c4, and_self, decide_true, Bool.not_true, Bool.true_and]
              exact spec_IsGame_j0f a0 a1 a2 a3 l4 l5 a6 a7 l8 l9 l10 a11 a12 a13 (by omega) hm h9 h10
            · simp only [c4, decide_false, Bool.not_false, Bool.false_and]
              exact spec_IsGame_j0t a0 a1 a2 a3 l4 l5 a6 a7 l8 l9 l10 a11 a12 a13
          · simp only [c3, decide_false, Bool.false_eq_true, ↓reduceIte, Bool.false_and]
            exact spec_IsGame_j0t a0 a1 a2 a3 l4 l5 a6 a7 l8 l9 l10 a11 a12 a13
        · simp only [c2, decide_false, Bool.false_eq_true, ↓reduceIte, Bool.false_and]
          exact spec_IsGame_j0t a0 a1 a2 a3 l4 l5 a6 a7 l8 l9 l10 a11 a12 a13
    · simp only [c, ↓reduceIte, decide_false, Bool.false_and]
      exact spec_IsGame_j0t a0 a1 a2 a3 l4 l5 a6 a7 l8 l9 l10 a11 a12 a13

/-! spec_l24First -/
def firstM : List (List Int) → Int → Int
  | [], _ => -1
  | x :: r, i => if x.length = 0 then i else firstM r (i + 1)
theorem spec_l24First_ev (a0 a1 : Int) (a2 a3 : Bool) (l4 l5 : List Int) (a6 a7 : Int) (l8 : List (List Int)) (l9 l10 : List Int) (a11 a12 a13 : Int) (h8 : l8.length ≤ 1048576) : Ev (fun k => spec_l24First.f k a0 a1 a2 a3 l4 l5 a6 a7 l8 l9 l10 a11 a12 a13) (firstM l8 0) := by
  simp only [spec_l24First.f]
  refine loop_of l8 [] (by omega) (P := fun i rest => Ev (fun k => spec_l24First.l0 k i a0 a1 a2 a3 l4 l5 a6 a7 l8 l9 l10 a11 a12 a13) (firstM rest i)) ?_ ?_
  · refine ev_succ (ev_of_eq fun k => ?_)
    simp only [spec_l24First.l0, Int.lt_irrefl, ↓reduceIte, firstM]
  · intro i x rest h0 h1 hx hmem hw ih
    have hx' : rd_L1 l8 i = x := hx
    refine ev_succ ?_
    simp only [spec_l24First.l0, h1, h0, hx', ↓reduceIte, hw, firstM]
    by_cases c : x.length = 0
    · have c' : (x.length : Int) = 0 := by omega
      exact ev_of_eq fun k => by simp only [c, c', ↓reduceIte, Int.natCast_zero, Int.cast_ofNat_Int]
    · have c' : ¬ (x.length : Int) = 0 := by omega
      simp only [c, c', ↓reduceIte]
      exact ih

/-! spec_l24Over -/
def overM (a0 a7 : Int) (l8 : List (List Int)) (a12 a13 : Int) : Bool := if firstM l8 0 ≥ 0 then true else if a12 = a7 then true else decide (a13 ≥ a0)
theorem spec_l24Over_ev (a0 a1 : Int) (a2 a3 : Bool) (l4 l5 : List Int) (a6 a7 : Int) (l8 : List (List Int)) (l9 l10 : List Int) (a11 a12 a13 : Int) (h8 : l8.length ≤ 1048576) : Ev (fun k => spec_l24Over.f k a0 a1 a2 a3 l4 l5 a6 a7 l8 l9 l10 a11 a12 a13) (overM a0 a7 l8 a12 a13) := by
  simp only [spec_l24Over.f]
  refine Ev.bind (spec_l24First_ev a0 a1 a2 a3 l4 l5 a6 a7 l8 l9 l10 a11 a12 a13 h8) ?_
  refine ev_of_eq fun k => ?_
  unfold overM
  split
  · rfl
  · split <;> rfl

/-! impl_Sorted -/
theorem impl_Sorted_f (l : List Int) (hl : l.length ≤ 1048576) : impl_Sorted.f l = some (sortF [] l) := by
  unfold impl_Sorted.f
  rw [if_pos (by omega)]

/-! spec_Sorted -/
theorem spec_Sorted_f (l : List Int) (hl : l.length ≤ 1048576) : spec_Sorted.f l = some (sortF [] l) := by
  unfold spec_Sorted.f
  rw [if_pos (by omega)]
theorem sortF_length : ∀ (l out : List Int), (sortF out l).length = out.length + l.length
  | [], out => by simp [sortF]
  | c :: r, out => by
    rw [sortF, sortF_length r, insF_length]
    simp
    omega

/-! spec_SuitOf -/
theorem spec_SuitOf_f (a : Int) : spec_SuitOf.f a = some (suitM a) := by
  unfold spec_SuitOf.f
  rw [spec_IsCard_f]
  unfold suitM isCardM
  by_cases h : 0 ≤ a ∧ a ≤ 51
  · simp [h, tdiv13 a h.1 h.2]
  · simp [h]

/-! spec_RankOf -/
theorem spec_RankOf_f (a : Int) : spec_RankOf.f a = some (rankM a) := by
  unfold spec_RankOf.f
  rw [spec_IsCard_f]
  unfold rankM isCardM
  by_cases h : 0 ≤ a ∧ a ≤ 51
  · simp [h, tmod13 a h.1]
  · simp [h]

/-! spec_IsRed -/
theorem spec_IsRed_f (c : Int) : spec_IsRed.f c = some (isRedM c) := by
  simp only [spec_IsRed.f, spec_SuitOf_f, spec_l1In_f, Option.bind_some, isRedM]

/-! spec_l8Value -/
theorem spec_ask_f (s c : Int) : spec_l8Value.f s c = some (askM s c) := by
  unfold spec_l8Value.f askM
  by_cases h1 : s = 400
  · simp only [h1, ↓reduceIte, spec_IsRed_f, Option.bind_some]
  · by_cases h2 : s ≥ 300
    · simp only [h1, h2, ↓reduceIte, spec_RankOf_f, Option.bind_some]
    · by_cases h3 : s ≥ 200
      · simp only [h1, h2, h3, ↓reduceIte, spec_RankOf_f, Option.bind_some]
      · simp only [h1, h2, h3, ↓reduceIte, spec_SuitOf_f, Option.bind_some]

/-! spec_Matches -/
theorem spec_Matches_l0 (p : List Int) (c : Int) (hl : p.length ≤ 20) (hp : patF p 0 = some 1) : Ev (fun k => spec_Matches.l0 k p c [] 0) (matchF c p []) := by
  suffices H : ∀ x : List Bool, (x.length : Int) ≤ 0 → patF p (x.length : Int) = some 1 → Ev (fun k => spec_Matches.l0 k p c x 0) (matchF c p x) from H [] (by simp) hp
  refine loop_int p (by omega) (P := fun i rest => ∀ x : List Bool, (x.length : Int) ≤ i → patF rest (x.length : Int) = some 1 → Ev (fun k => spec_Matches.l0 k p c x i) (matchF c rest x)) ?_ ?_
  · intro x hx he
    have h1 : 0 < (x.length : Int) := by simp only [patF, Option.some.injEq] at he; omega
    refine ev_succ (ev_of_eq fun k => ?_)
    simp only [spec_Matches.l0, Int.lt_irrefl, h1, ↓reduceIte, matchF]
  · intro i s rest h0 h1 hs hm hw ih x hx he
    refine ev_succ ?_
    have b : x.length < 140737488355328 := by omega
    have w1 : wrap64 ((x.length : Int) - 1) = (x.length : Int) - 1 := w64 (by omega) (by omega)
    have w2 : wrap64 ((x.length : Int) - 2) = (x.length : Int) - 2 := w64 (by omega) (by omega)
    rcases patF_step he with ⟨e1, e2, e3, e4⟩ | ⟨e1, e2, e4⟩ | ⟨e1, e2, e4⟩
    · simp only [spec_Matches.l0, h1, h0, hs, e1, e2, e3, b, hw, ↓reduceIte, spec_ask_f, Option.bind_some, matchF]
      exact ih (x ++ [askM s c]) (by simp; omega) (by simpa using e4)
    · have g1 : 0 ≤ (x.length : Int) - 1 := by omega
      have g2 : (x.length : Int) - 1 < (x.length : Int) := by omega
      simp only [spec_Matches.l0, h1, h0, hs, e1, w1, g1, g2, hw, ↓reduceIte, matchF]
      exact ih _ (by rw [List.length_set]; omega) (by rw [List.length_set]; exact e4)
    · have g1 : 0 ≤ (x.length : Int) - 2 := by omega
      have g2 : (x.length : Int) - 2 < (x.length : Int) := by omega
      have g3 : (x.length : Int) - 2 ≤ (x.length : Int) := by omega
      have g4 : 0 ≤ (x.length : Int) - 1 := by omega
      have g5 : (x.length : Int) - 1 < (x.length : Int) := by omega
      have tl : (x.take ((x.length : Int) - 2).toNat).length = ((x.length : Int) - 2).toNat := by rw [List.length_take]; omega
      have g6 : (x.take ((x.length : Int) - 2).toNat).length < 140737488355328 := by omega
      have nx : ∀ y : Bool, Ev (fun k => spec_Matches.l0 k p c (x.take ((x.length : Int) - 2).toNat ++ [y]) (i + 1)) (matchF c rest (x.take ((x.length : Int) - 2).toNat ++ [y])) := by
        intro y
        have ln : ((x.take ((x.length : Int) - 2).toNat ++ [y]).length : Int) = (x.length : Int) - 1 := by rw [List.length_append, tl]; simp; omega
        exact ih _ (by omega) (by rw [ln]; exact e4)
      rcases e1 with e1 | e1
      · have z : ¬ (-2 : Int) = -1 := by omega
        cases hv : rdOf false x ((x.length : Int) - 2)
        · simp only [spec_Matches.l0, h1, h0, hs, e1, z, w1, w2, g1, g2, g3, g4, g5, g6, hv, hw, Option.bind_some, Bool.false_eq_true, Bool.false_and, ↓reduceIte, matchF]
          exact nx false
        · simp only [spec_Matches.l0, h1, h0, hs, e1, z, w1, w2, g1, g2, g3, g4, g5, g6, hv, hw, Option.bind_some, Bool.true_and, ↓reduceIte, matchF]
          exact nx _
      · have z : ¬ (-3 : Int) = -1 := by omega
        have z2 : ¬ (-3 : Int) = -2 := by omega
        cases hv : rdOf false x ((x.length : Int) - 2)
        · simp only [spec_Matches.l0, h1, h0, hs, e1, z, z2, w1, w2, g1, g2, g3, g4, g5, g6, hv, hw, Option.bind_some, Bool.false_eq_true, Bool.false_or, ↓reduceIte, matchF]
          exact nx _
        · simp only [spec_Matches.l0, h1, h0, hs, e1, z, z2, w1, w2, g1, g2, g3, g4, g5, g6, hv, hw, Option.bind_some, Bool.true_or, ↓reduceIte, matchF]
          exact nx true
theorem spec_Matches_ev (p : List Int) (c : Int) (hl : p.length ≤ 1099511627776) : Ev (fun k => spec_Matches.f k p c) (matchM p c) := by
  simp only [spec_Matches.f, spec_IsCard_f, Option.bind_some, matchM]
  refine Ev.bind (spec_IsPattern_ev p hl) ?_
  cases hp : isPatM p
  · simp only [Bool.false_eq_true, ↓reduceIte, Bool.false_and]
    exact ev_succ (ev_of_eq fun k => by simp only [spec_Matches.j0, ↓reduceIte])
  · simp only [↓reduceIte, Bool.true_and]
    refine ev_succ ?_
    cases hc : isCardM c
    · exact ev_of_eq fun k => by simp only [spec_Matches.j0, Bool.not_false, ↓reduceIte, Bool.false_and]
    · simp only [spec_Matches.j0, Bool.not_true, Bool.false_eq_true, ↓reduceIte, Bool.true_and]
      obtain ⟨h1, h2⟩ := isPatM_run hp
      exact spec_Matches_l0 p c h2 h1

/-! spec_FitsOn -/
theorem spec_FitsOn_ev (a0 a1 : Int) (a2 a3 : Bool) (l4 l5 : List Int) (a6 a7 t c : Int) (h4 : l4.length ≤ 1048576) (h5 : l5.length ≤ 1048576) :
    Ev (fun k => spec_FitsOn.f k a0 a1 a2 a3 l4 l5 a6 a7 t c) (isRulesM a0 a1 a2 a3 l4 l5 a6 a7 && (isCardM t && (isCardM c && ((a2 && decide (suitM c = suitM t)) || ((a3 && decide (rankM c = rankM t)) || matchM l4 c))))) := by
  simp only [spec_FitsOn.f, spec_IsCard_f, Option.bind_some]
  refine Ev.bind (spec_IsRules_ev a0 a1 a2 a3 l4 l5 a6 a7 h4 h5) ?_
  have no : ∀ v : Bool, v = false → Ev (fun k => spec_FitsOn.j0 k t c true a0 a1 a2 a3 l4 l5 a6 a7) v := by
    intro v hv
    exact ev_succ (ev_of_eq fun k => by simp only [spec_FitsOn.j0, ↓reduceIte, hv])
  cases isRulesM a0 a1 a2 a3 l4 l5 a6 a7
  · simp only [Bool.false_eq_true, ↓reduceIte, Bool.false_and]
    exact no _ rfl
  · simp only [↓reduceIte, Bool.true_and]
    cases isCardM t
    · simp only [Bool.false_eq_true, ↓reduceIte, Bool.false_and]
      exact no _ rfl
    · simp only [↓reduceIte, Bool.true_and]
      cases isCardM c
      · simp only [Bool.not_false, Bool.false_and]
        exact no _ rfl
      · simp only [Bool.not_true, Bool.true_and]
        refine ev_succ ?_
        have mt : Ev (fun k => (spec_Matches.f k l4 c).bind fun x => some x) (matchM l4 c) := Ev.bind (spec_Matches_ev l4 c (by omega)) (Ev.now _)
        simp only [spec_FitsOn.j0, spec_SuitOf_f, spec_RankOf_f, Option.bind_some, Bool.false_eq_true, ↓reduceIte]
        by_cases h1 : suitM c = suitM t <;> by_cases h2 : rankM c = rankM t <;> cases a2 <;> cases a3 <;> simp only [h1, h2, decide_true, decide_false, Bool.and_self, Bool.and_true, Bool.and_false, Bool.true_and, Bool.false_and, Bool.true_or, Bool.false_or, Bool.or_true, Bool.or_false, Bool.false_eq_true, ↓reduceIte] <;> first | exact Ev.now _ | exact mt

/-! spec_Playable -/
/-- What may be played, in order. -/
def playM (a0 a1 : Int) (a2 a3 : Bool) (l4 l5 : List Int) (a6 a7 : Int) (l8 : List (List Int)) (l9 l10 : List Int) (a11 a12 a13 : Int) : List Int :=
  if gameM a0 a1 a2 a3 l4 l5 a6 a7 l8 l9 l10 a11 a12 a13 = true ∧ overM a0 a7 l8 a12 a13 = false then
    (sortF [] (rd_L1 l8 a11)).filter fun c => isRulesM a0 a1 a2 a3 l4 l5 a6 a7 && (isCardM (rd l10 ((l10.length : Int) - 1)) && (isCardM c && ((a2 && decide (suitM c = suitM (rd l10 ((l10.length : Int) - 1)))) || ((a3 && decide (rankM c = rankM (rd l10 ((l10.length : Int) - 1)))) || matchM l4 c))))
  else []
theorem playM_small (a0 a1 : Int) (a2 a3 : Bool) (l4 l5 : List Int) (a6 a7 : Int) (l8 : List (List Int)) (l9 l10 : List Int) (a11 a12 a13 : Int) (hm : ∀ y ∈ l8, y.length ≤ 1048576) : (playM a0 a1 a2 a3 l4 l5 a6 a7 l8 l9 l10 a11 a12 a13).length ≤ 1048576 := by
  unfold playM
  split
  · refine Nat.le_trans (List.length_filter_le _ _) ?_
    rw [sortF_length]
    have : (rd_L1 l8 a11).length ≤ 1048576 := by
      unfold rd_L1
      rw [List.getD_eq_getElem?_getD]
      cases h : l8[a11.toNat]? with
      | none => simp
      | some y => exact hm y (List.mem_of_getElem? h)
    simpa using this
  · simp
theorem game_turn {a0 a1 : Int} {a2 a3 : Bool} {l4 l5 : List Int} {a6 a7 : Int} {l8 : List (List Int)} {l9 l10 : List Int} {a11 a12 a13 : Int} (h : gameM a0 a1 a2 a3 l4 l5 a6 a7 l8 l9 l10 a11 a12 a13 = true) : 0 ≤ a11 ∧ a11 < (l8.length : Int) ∧ 0 < l10.length := by
  unfold gameM at h
  simp only [Bool.and_eq_true, decide_eq_true_eq] at h
  refine ⟨?_, ?_, ?_⟩ <;> omega
theorem spec_Playable_ev (a0 a1 : Int) (a2 a3 : Bool) (l4 l5 : List Int) (a6 a7 : Int) (l8 : List (List Int)) (l9 l10 : List Int) (a11 a12 a13 : Int) (h4 : l4.length ≤ 1048576) (h5 : l5.length ≤ 1048576) (h8 : l8.length ≤ 1048576) (hm : ∀ y ∈ l8, y.length ≤ 1048576) (h9 : l9.length ≤ 1048576) (h10 : l10.length ≤ 1048576) :
    Ev (fun k => spec_Playable.f k a0 a1 a2 a3 l4 l5 a6 a7 l8 l9 l10 a11 a12 a13) (playM a0 a1 a2 a3 l4 l5 a6 a7 l8 l9 l10 a11 a12 a13) := by
  have F : Ev (fun k => spec_Playable.j0 k [] true a0 a1 a2 a3 l4 l5 a6 a7 l8 l9 l10 a11 a12 a13) [] := ev_succ (ev_of_eq fun k => by simp only [spec_Playable.j0, ↓reduceIte])
  simp only [spec_Playable.f, Option.bind_some]
  refine Ev.bind (spec_IsGame_ev a0 a1 a2 a3 l4 l5 a6 a7 l8 l9 l10 a11 a12 a13 h4 h5 h8 hm h9 h10) ?_
  cases hg : gameM a0 a1 a2 a3 l4 l5 a6 a7 l8 l9 l10 a11 a12 a13
  · simp only [Bool.false_eq_true, ↓reduceIte]
    exact ev_eq F (by simp [playM, hg])
  · simp only [↓reduceIte]
    refine Ev.bind (spec_l24Over_ev a0 a1 a2 a3 l4 l5 a6 a7 l8 l9 l10 a11 a12 a13 h8) ?_
    cases ho : overM a0 a7 l8 a12 a13
    · refine ev_succ ?_
      obtain ⟨t0, t1, tp⟩ := game_turn hg
      have hrow : (rd_L1 l8 a11).length ≤ 1048576 := by
        unfold rd_L1
        rw [List.getD_eq_getElem?_getD]
        cases h : l8[a11.toNat]? with
        | none => simp
        | some y => exact hm y (List.mem_of_getElem? h)
      simp only [spec_Playable.j0, Bool.false_eq_true, t0, t1, ↓reduceIte, spec_Sorted_f _ hrow, Option.bind_some]
      rw [playM, if_pos ⟨hg, ho⟩]
      have hs : (sortF [] (rd_L1 l8 a11)).length ≤ 1048576 := by rw [sortF_length]; simpa using hrow
      generalize sortF [] (rd_L1 l8 a11) = s at hs
      have hw1 : wrap64 ((l10.length : Int) - 1) = (l10.length : Int) - 1 := w64 (by omega) (by omega)
      have q0 : 0 ≤ (l10.length : Int) - 1 := by omega
      have q1 : (l10.length : Int) - 1 < (l10.length : Int) := by omega
      refine loop_int_pre s (by omega) (P := fun i pre rest => Ev (fun k => spec_Playable.l0 k (pre.filter fun c => isRulesM a0 a1 a2 a3 l4 l5 a6 a7 && (isCardM (rd l10 ((l10.length : Int) - 1)) && (isCardM c && ((a2 && decide (suitM c = suitM (rd l10 ((l10.length : Int) - 1)))) || ((a3 && decide (rankM c = rankM (rd l10 ((l10.length : Int) - 1)))) || matchM l4 c))))) s i a0 a1 a2 a3 l4 l5 a6 a7 l8 l9 l10 a11 a12 a13) _) ?_ ?_
      · refine ev_succ (ev_of_eq fun k => ?_)
        simp only [spec_Playable.l0, Int.lt_irrefl, ↓reduceIte]
      · intro i pre x rest hl hi i0 i1 hx hw ih
        refine ev_succ ?_
        simp only [spec_Playable.l0, i1, i0, hw1, q0, q1, hx, hw, ↓reduceIte]
        refine Ev.bind (spec_FitsOn_ev a0 a1 a2 a3 l4 l5 a6 a7 (rd l10 ((l10.length : Int) - 1)) x h4 h5) ?_
        have hb : (pre.filter fun c => isRulesM a0 a1 a2 a3 l4 l5 a6 a7 && (isCardM (rd l10 ((l10.length : Int) - 1)) && (isCardM c && ((a2 && decide (suitM c = suitM (rd l10 ((l10.length : Int) - 1)))) || ((a3 && decide (rankM c = rankM (rd l10 ((l10.length : Int) - 1)))) || matchM l4 c))))).length < 17592186044416 := by
          have := List.length_filter_le (fun c => isRulesM a0 a1 a2 a3 l4 l5 a6 a7 && (isCardM (rd l10 ((l10.length : Int) - 1)) && (isCardM c && ((a2 && decide (suitM c = suitM (rd l10 ((l10.length : Int) - 1)))) || ((a3 && decide (rankM c = rankM (rd l10 ((l10.length : Int) - 1)))) || matchM l4 c))))) pre
          omega
        rw [List.filter_append] at ih
        cases hf : (isRulesM a0 a1 a2 a3 l4 l5 a6 a7 && (isCardM (rd l10 ((l10.length : Int) - 1)) && (isCardM x && ((a2 && decide (suitM x = suitM (rd l10 ((l10.length : Int) - 1)))) || ((a3 && decide (rankM x = rankM (rd l10 ((l10.length : Int) - 1)))) || matchM l4 x)))))
        · simp only [Bool.false_eq_true, ↓reduceIte]
          simpa [hf] using ih
        · simp only [↓reduceIte, hb]
          simpa [hf] using ih
    · exact ev_eq F (by simp [playM, hg, ho])

/-! spec_SuitCounts -/
theorem spec_SuitCounts_ev (l : List Int) (hl : l.length ≤ 1099511627776) : Ev (fun k => spec_SuitCounts.f k l) (countsM l) := by
  have e1 : (4 : Nat) ≤ 35184372088832 := by omega
  simp only [spec_SuitCounts.f, countsM, e1, ↓reduceIte]
  refine loop_int l hl (P := fun i rest => ∀ d : List Int, d.length = 4 → Ev (fun k => spec_SuitCounts.l0 k l d i) (rest.foldl countStep d)) ?_ ?_ [0, 0, 0, 0] rfl
  · intro d _
    refine ev_succ (ev_of_eq fun k => ?_)
    simp only [spec_SuitCounts.l0, Int.lt_irrefl, ↓reduceIte, List.foldl_nil]
  · intro i x rest h0 h1 hx _ hw ih d hd
    refine ev_succ ?_
    simp only [spec_SuitCounts.l0, h1, h0, ↓reduceIte, hx, hw, spec_SuitOf_f, Option.bind_some, ge_iff_le]
    have h2 : suitM x < (d.length : Int) := by have := suitM_range x; omega
    have ih' := ih (countStep d x) (by rw [countStep_length]; exact hd)
    rw [List.foldl_cons]
    unfold countStep at ih' ⊢
    by_cases h : 0 ≤ suitM x
    · simp only [h, h2, ↓reduceIte] at ih' ⊢
      exact ih'
    · simp only [h, ↓reduceIte] at ih' ⊢
      exact ih'

/-! spec_MostOf -/
theorem spec_MostOf_ev (l : List Int) (hl : l.length ≤ 1099511627776) : Ev (fun k => spec_MostOf.f k l) (mostF l (-1) 0 l) := by
  simp only [spec_MostOf.f]
  refine loop_int l hl (P := fun i rest => ∀ best, best < (l.length : Int) → Ev (fun k => spec_MostOf.l0 k l best i) (mostF l best i rest)) ?_ ?_ (-1) (by omega)
  · intro best _
    refine ev_succ (ev_of_eq fun k => ?_)
    simp only [spec_MostOf.l0, Int.lt_irrefl, ↓reduceIte, mostF]
  · intro i x rest h0 h1 hx _ hw ih best hb
    refine ev_succ ?_
    simp only [spec_MostOf.l0, h1, h0, ↓reduceIte, hx, hw, mostF]
    by_cases h : best < 0
    · simp only [h, ↓reduceIte]
      exact ih i h1
    · have h' : 0 ≤ best := by omega
      simp only [h, h', hb, ↓reduceIte]
      by_cases g : x > rd l best
      · simp only [g, ↓reduceIte]
        exact ih i h1
      · simp only [g, ↓reduceIte]
        exact ih best hb

/-! spec_ChoiceOf -/
/-- The card of a row that a measure likes best, the first of them. -/
def bestF (g : Int → Int) : Int → List Int → Int
  | b, [] => b
  | b, x :: r => bestF g (if g x > g b then x else b) r
/-- The card that a kind of player picks out of a row. -/
def pickM (n p : List Int) (kind : Int) : Int :=
  if p.length = 0 then -1 else if kind = 0 then rd p 0 else if kind = 1 then rd p ((p.length : Int) - 1) else if kind = 2 then bestF (fun c => rd n (suitM c)) (rd p 0) p else -1
theorem countsM_length (l : List Int) : (countsM l).length = 4 := by
  have : ∀ (r d : List Int), (r.foldl countStep d).length = d.length := by
    intro r
    induction r with
    | nil => intro d; rfl
    | cons x r ih => intro d; rw [List.foldl_cons, ih, countStep_length]
  unfold countsM
  rw [this]
  rfl
theorem rd_map (g : Int → Int) (p : List Int) (i : Int) (h0 : 0 ≤ i) (h : i < (p.length : Int)) : rd (p.map g) i = g (rd p i) := by
  unfold rd
  have h' : i.toNat < p.length := by omega
  simp [List.getD_eq_getElem?_getD, List.getElem?_eq_getElem h']
theorem most_best (g : Int → Int) (p : List Int) : ∀ (rest pre : List Int) (b : Int), p = pre ++ rest → 0 ≤ b → b < (pre.length : Int) →
    0 ≤ mostF (p.map g) b pre.length (rest.map g) ∧ mostF (p.map g) b pre.length (rest.map g) < (p.length : Int) ∧ rd p (mostF (p.map g) b pre.length (rest.map g)) = bestF g (rd p b) rest
  | [], pre, b, hp, h0, h1 => by
    have : p.length = pre.length := by rw [hp]; simp
    simp only [List.map_nil, mostF, bestF]
    exact ⟨h0, by omega, trivial⟩
  | x :: rest, pre, b, hp, h0, h1 => by
    have hl : p.length = pre.length + (rest.length + 1) := by rw [hp]; simp
    have hx : rd p (pre.length : Int) = x := by rw [hp]; exact rd_mid pre rest _ rfl x
    have nb : ¬ b < 0 := by omega
    have ep : (pre.length : Int) + 1 = ((pre ++ [x]).length : Int) := by simp
    simp only [List.map_cons, mostF, bestF, nb, ↓reduceIte]
    rw [rd_map g p b h0 (by omega), ep]
    by_cases h : g x > g (rd p b)
    · simp only [h, ↓reduceIte]
      have := most_best g p rest (pre ++ [x]) pre.length (by rw [hp]; simp) (by omega) (by simp; omega)
      rw [hx] at this
      exact this
    · simp only [h, ↓reduceIte]
      exact most_best g p rest (pre ++ [x]) b (by rw [hp]; simp) h0 (by simp; omega)
theorem most_first (g : Int → Int) (p : List Int) (hp : p ≠ []) : 0 ≤ mostF (p.map g) (-1) 0 (p.map g) ∧ mostF (p.map g) (-1) 0 (p.map g) < (p.length : Int) ∧ rd p (mostF (p.map g) (-1) 0 (p.map g)) = bestF g (rd p 0) p := by
  cases p with
  | nil => exact absurd rfl hp
  | cons x r =>
    have h := most_best g (x :: r) r [x] 0 rfl (by omega) (by simp)
    have e : mostF ((x :: r).map g) (-1) 0 ((x :: r).map g) = mostF ((x :: r).map g) 0 (([x] : List Int).length : Int) (r.map g) := by
      rw [List.map_cons]
      conv => lhs; rw [mostF]
      simp
    have e0 : rd (x :: r) 0 = x := rfl
    rw [e]
    refine ⟨h.1, h.2.1, h.2.2.trans ?_⟩
    rw [bestF, e0]
    simp
theorem play_mem {a0 a1 : Int} {a2 a3 : Bool} {l4 l5 : List Int} {a6 a7 : Int} {l8 : List (List Int)} {l9 l10 : List Int} {a11 a12 a13 : Int} {x : Int} (h : x ∈ playM a0 a1 a2 a3 l4 l5 a6 a7 l8 l9 l10 a11 a12 a13) :
    isCardM x = true ∧ gameM a0 a1 a2 a3 l4 l5 a6 a7 l8 l9 l10 a11 a12 a13 = true := by
  unfold playM at h
  split at h
  · rename_i hg
    rw [List.mem_filter] at h
    have := h.2
    simp only [Bool.and_eq_true] at this
    exact ⟨this.2.2.1, hg.1⟩
  · simp at h
theorem row_small {l8 : List (List Int)} (a11 : Int) (hm : ∀ y ∈ l8, y.length ≤ 1048576) : (rd_L1 l8 a11).length ≤ 1048576 := by
  unfold rd_L1
  rw [List.getD_eq_getElem?_getD]
  cases h : l8[a11.toNat]? with
  | none => simp
  | some y => exact hm y (List.mem_of_getElem? h)
theorem spec_ChoiceOf_ev (a0 a1 : Int) (a2 a3 : Bool) (l4 l5 : List Int) (a6 a7 : Int) (l8 : List (List Int)) (l9 l10 : List Int) (a11 a12 a13 kind : Int) (h4 : l4.length ≤ 1048576) (h5 : l5.length ≤ 1048576) (h8 : l8.length ≤ 1048576) (hm : ∀ y ∈ l8, y.length ≤ 1048576) (h9 : l9.length ≤ 1048576) (h10 : l10.length ≤ 1048576) :
    Ev (fun k => spec_ChoiceOf.f k a0 a1 a2 a3 l4 l5 a6 a7 l8 l9 l10 a11 a12 a13 kind) (pickM (countsM (rd_L1 l8 a11)) (playM a0 a1 a2 a3 l4 l5 a6 a7 l8 l9 l10 a11 a12 a13) kind) := by
  simp only [spec_ChoiceOf.f]
  refine Ev.bind (spec_Playable_ev a0 a1 a2 a3 l4 l5 a6 a7 l8 l9 l10 a11 a12 a13 h4 h5 h8 hm h9 h10) ?_
  have hs := playM_small a0 a1 a2 a3 l4 l5 a6 a7 l8 l9 l10 a11 a12 a13 hm
  have hc : ∀ x ∈ playM a0 a1 a2 a3 l4 l5 a6 a7 l8 l9 l10 a11 a12 a13, isCardM x = true ∧ gameM a0 a1 a2 a3 l4 l5 a6 a7 l8 l9 l10 a11 a12 a13 = true := fun x h => play_mem h
  have hn := countsM_length (rd_L1 l8 a11)
  generalize playM a0 a1 a2 a3 l4 l5 a6 a7 l8 l9 l10 a11 a12 a13 = p at hs hc
  by_cases z : p.length = 0
  · have z' : (p.length : Int) = 0 := by omega
    exact ev_of_eq fun k => by simp only [pickM, z, z', ↓reduceIte]; rfl
  · have z' : ¬ (p.length : Int) = 0 := by omega
    have z1 : 0 < (p.length : Int) := by omega
    have w1 : wrap64 ((p.length : Int) - 1) = (p.length : Int) - 1 := w64 (by omega) (by omega)
    have z2 : 0 ≤ (p.length : Int) - 1 := by omega
    have z3 : (p.length : Int) - 1 < (p.length : Int) := by omega
    simp only [pickM, z, z', w1, z1, z2, z3, ↓reduceIte]
    by_cases k0 : kind = 0
    · exact ev_of_eq fun k => by simp only [k0, ↓reduceIte]
    by_cases k1 : kind = 1
    · exact ev_of_eq fun k => by simp only [k0, k1, ↓reduceIte]; rfl
    by_cases k2 : kind = 2
    · simp only [k0, k1, k2, ↓reduceIte]
      obtain ⟨x0, r0, e0⟩ : ∃ x r, p = x :: r := by cases p with | nil => exact absurd rfl z | cons x r => exact ⟨x, r, rfl⟩
      have g0 := (hc x0 (by rw [e0]; simp)).2
      obtain ⟨t0, t1, _⟩ := game_turn g0
      simp only [t0, t1, ↓reduceIte]
      have e2 : ¬ (2 : Int) = 0 := by omega
      have e3 : ¬ (2 : Int) = 1 := by omega
      simp only [e2, e3, ↓reduceIte]
      have hr := row_small a11 hm
      refine Ev.bind (spec_SuitCounts_ev _ (by omega)) ?_
      generalize countsM (rd_L1 l8 a11) = n at hn
      have hne : p ≠ [] := by rw [e0]; simp
      obtain ⟨m0, m1, m2⟩ := most_first (fun c => rd n (suitM c)) p hne
      refine loop_int_pre p (by omega) (P := fun i pre rest => Ev (fun k => spec_ChoiceOf.l0 k p n (pre.map fun c => rd n (suitM c)) i) (bestF (fun c => rd n (suitM c)) (rd p 0) p)) ?_ ?_
      · refine ev_succ ?_
        simp only [spec_ChoiceOf.l0, Int.lt_irrefl, ↓reduceIte]
        refine Ev.bind (spec_MostOf_ev _ (by simp; omega)) ?_
        exact ev_of_eq fun k => by simp only [m0, m1, m2, ↓reduceIte]
      · intro i pre x rest hl hi i0 i1 hx hw ih
        refine ev_succ ?_
        have hx' := (isCardM_iff x).1 (hc x (by rw [hl]; simp)).1
        have s0 : 0 ≤ suitM x := (suitM_nonneg x).2 hx'
        have s1 : suitM x < (n.length : Int) := by have := suitM_range x; omega
        have hb : (pre.map fun c => rd n (suitM c)).length < 17592186044416 := by
          have : p.length = pre.length + (rest.length + 1) := by rw [hl]; simp
          simp
          omega
        simp only [spec_ChoiceOf.l0, i1, i0, hx, hw, spec_SuitOf_f, Option.bind_some, s0, s1, hb, ↓reduceIte]
        simpa using ih
    · exact ev_of_eq fun k => by simp only [k0, k1, k2, ↓reduceIte]

/-! laws_toIntS -/
theorem laws_toIntS_ev (l : List Int) (hl : l.length ≤ 1099511627776) : Ev (fun k => laws_toIntS.f k l) l := by
  have e1 : (0 : Int) ≤ (l.length : Int) := by omega
  have e2 : ((l.length : Int) : Int).toNat ≤ 35184372088832 := by omega
  simp only [laws_toIntS.f, e1, e2, ↓reduceIte]
  refine loop_int_pre l hl (P := fun i pre rest => Ev (fun k => laws_toIntS.l0 k l (pre ++ List.replicate rest.length 0) i) l) ?_ ?_
  · refine ev_succ (ev_of_eq fun k => ?_)
    simp only [laws_toIntS.l0, Int.lt_irrefl, ↓reduceIte, List.length_nil, List.replicate_zero, List.append_nil]
  · intro i pre x rest hl' hi h0 h1 hx hw ih
    refine ev_succ ?_
    have h2 : i < ((pre ++ List.replicate (x :: rest).length 0 : List Int).length : Int) := by simp; omega
    simp only [laws_toIntS.l0, h1, h0, h2, ↓reduceIte, hx, hw]
    rw [List.length_cons, List.replicate_succ, set_mid pre _ i hi]
    exact ih

/-! laws_toRules -/
theorem laws_toRules_ev (a0 a1 : Int) (a2 a3 : Bool) (l4 l5 : List Int) (a6 a7 : Int) (h4 : l4.length ≤ 1048576) (h5 : l5.length ≤ 1048576) :
    Ev (fun k => laws_toRules.f k a0 a1 a2 a3 l4 l5 a6 a7) (a0, a1, a2, a3, l4, l5, a6, a7) := by
  simp only [laws_toRules.f]
  exact Ev.bind (laws_toIntS_ev l4 (by omega)) (Ev.bind (laws_toIntS_ev l5 (by omega)) (Ev.now _))

/-! laws_toIntSS -/
theorem laws_toIntSS_ev (l : List (List Int)) (hl : l.length ≤ 1048576) (hm : ∀ y ∈ l, y.length ≤ 1048576) : Ev (fun k => laws_toIntSS.f k l) l := by
  have e1 : (0 : Int) ≤ (l.length : Int) := by omega
  have e2 : ((l.length : Int) : Int).toNat ≤ 11728124029610 := by omega
  simp only [laws_toIntSS.f, e1, e2, ↓reduceIte]
  refine loop_pre l [] (by omega) (P := fun i pre rest => Ev (fun k => laws_toIntSS.l0 k l (pre ++ List.replicate rest.length []) i) l) ?_ ?_
  · refine ev_succ (ev_of_eq fun k => ?_)
    simp only [laws_toIntSS.l0, Int.lt_irrefl, ↓reduceIte, List.length_nil, List.replicate_zero, List.append_nil]
  · intro i pre x rest hl' hi h0 h1 hx hw ih
    have hx' : rd_L1 l i = x := hx
    refine ev_succ ?_
    have h2 : i < ((pre ++ List.replicate (x :: rest).length ([] : List Int)).length : Int) := by simp; omega
    simp only [laws_toIntSS.l0, h1, h0, h2, ↓reduceIte, hx', hw]
    have hxl := hm x (by rw [hl']; simp)
    refine Ev.bind (laws_toIntS_ev x (by omega)) ?_
    rw [List.length_cons, List.replicate_succ, set_mid pre _ i (by omega)]
    exact ih

/-! laws_toGame -/
theorem laws_toGame_ev (a0 a1 : Int) (a2 a3 : Bool) (l4 l5 : List Int) (a6 a7 : Int) (l8 : List (List Int)) (l9 l10 : List Int) (a11 a12 a13 : Int) (h4 : l4.length ≤ 1048576) (h5 : l5.length ≤ 1048576) (h8 : l8.length ≤ 1048576) (hm : ∀ y ∈ l8, y.length ≤ 1048576) (h9 : l9.length ≤ 1048576) (h10 : l10.length ≤ 1048576) :
    Ev (fun k => laws_toGame.f k a0 a1 a2 a3 l4 l5 a6 a7 l8 l9 l10 a11 a12 a13) (a0, a1, a2, a3, l4, l5, a6, a7, l8, l9, l10, a11, a12, a13) := by
  simp only [laws_toGame.f]
  exact Ev.bind (laws_toRules_ev a0 a1 a2 a3 l4 l5 a6 a7 h4 h5) (Ev.bind (laws_toIntSS_ev l8 h8 hm) (Ev.bind (laws_toIntS_ev l9 (by omega)) (Ev.bind (laws_toIntS_ev l10 (by omega)) (Ev.now _))))

/-! impl_InRange -/
theorem impl_InRange_f (a b c : Int) : impl_InRange.f a b c = some (decide (b ≤ a ∧ a ≤ c)) := by
  unfold impl_InRange.f
  by_cases h : b ≤ a <;> simp [h]

/-! impl_isTest -/
theorem impl_isTest_f (s : Int) : impl_isTest.f s = some (leafM s) := by
  simp only [impl_isTest.f, impl_InRange_f, Option.bind_some, leafM]
  by_cases h1 : 100 ≤ s ∧ s ≤ 103
  · simp [h1]
  by_cases h2 : 200 ≤ s ∧ s ≤ 212
  · simp [h1, h2]
  by_cases h3 : 300 ≤ s ∧ s ≤ 312
  · simp [h1, h2, h3]
  simp [h1, h2, h3]

/-! impl_IsPattern -/
theorem impl_IsPattern_ev (l : List Int) (hl : l.length ≤ 1099511627776) : Ev (fun k => impl_IsPattern.f k l) (isPatM l) := by
  simp only [impl_IsPattern.f, isPatM]
  refine loop_int l hl (P := fun i rest => ∀ n, 0 ≤ n → n ≤ i → Ev (fun k => impl_IsPattern.l0 k l n l (l.length : Int) i) (patEnd l.length (patF rest n))) ?_ ?_ 0 (by omega) (by omega)
  · intro n hn hi
    refine ev_succ (ev_of_eq fun k => ?_)
    simp only [impl_IsPattern.l0, Int.lt_irrefl, ↓reduceIte, patF, patEnd, impl_InRange_f, Option.bind_some]
    by_cases h : n = 1
    · by_cases g : l.length ≤ 20
      · have g' : (1 : Int) ≤ (l.length : Int) ∧ (l.length : Int) ≤ 20 := by omega
        simp [h, g, g']
      · have g' : ¬ ((1 : Int) ≤ (l.length : Int) ∧ (l.length : Int) ≤ 20) := by omega
        simp [h, g, g']
    · by_cases g : (1 : Int) ≤ (l.length : Int) ∧ (l.length : Int) ≤ 20
      · simp [h, g]
      · simp [h, g]
  · intro i x rest h0 h1 hx _ hw ih n hn hi
    refine ev_succ ?_
    have w1 : wrap64 (n + 1) = n + 1 := w64 (by omega) (by omega)
    simp only [impl_IsPattern.l0, h1, h0, ↓reduceIte, hx, hw, impl_isTest_f, Option.bind_some, patF, w1]
    by_cases g1 : leafM x = true
    · simp only [g1, ↓reduceIte]
      exact ih _ (by omega) (by omega)
    · simp only [g1, Bool.false_eq_true, ↓reduceIte]
      by_cases g2 : x = -1
      · have e2 : ¬ x = -2 := by omega
        have e3 : ¬ x = -3 := by omega
        by_cases g3 : 1 ≤ n
        · have g3' : decide (n ≥ 1) = true := by simp; omega
          simp only [g2, g3, g3', ↓reduceIte, and_self]
          refine ev_succ ?_
          simp only [impl_IsPattern.j1, ↓reduceIte, hw]
          exact ih _ (by omega) (by omega)
        · have g3' : decide (n ≥ 1) = false := by simp; omega
          refine ev_succ (ev_of_eq fun k => ?_)
          simp only [impl_IsPattern.j1, g2, g3', g3, h1, h0, hx, ↓reduceIte, Bool.false_eq_true]
          simp [patEnd, e2, e3, g2, g3]
      · simp only [g2, ↓reduceIte, false_and]
        refine ev_succ ?_
        simp only [impl_IsPattern.j1, h1, h0, hx, hw, ↓reduceIte, Bool.false_eq_true, ge_iff_le]
        have w2 : 2 ≤ n → wrap64 (n - 1) = n - 1 := fun _ => w64 (by omega) (by omega)
        by_cases g4 : x = -2
        · by_cases g5 : 2 ≤ n
          · simp only [g4, g5, w2 g5, ↓reduceIte, true_or, and_self]
            exact ih _ (by omega) (by omega)
          · refine ev_of_eq fun k => ?_
            simp [g4, g5, patEnd]
        · by_cases g6 : x = -3
          · by_cases g5 : 2 ≤ n
            · simp only [g4, g6, g5, w2 g5, ↓reduceIte, or_true, and_self]
              exact ih _ (by omega) (by omega)
            · refine ev_of_eq fun k => ?_
              simp [g6, g5, patEnd]
          · refine ev_of_eq fun k => ?_
            simp [g4, g6, patEnd]

/-! impl_isMaybe -/
theorem impl_isMaybe_ev (l : List Int) (hl : l.length ≤ 1099511627776) : Ev (fun k => impl_isMaybe.f k l) (maybeM l) := by
  simp only [impl_isMaybe.f, maybeM]
  by_cases h : l.length = 0
  · obtain rfl := List.eq_nil_of_length_eq_zero h
    exact ev_of_eq fun k => rfl
  · have h' : ¬ (l.length : Int) = 0 := by omega
    simp only [h', h, ↓reduceIte, decide_false, Bool.false_or]
    exact Ev.bind (impl_IsPattern_ev l hl) (Ev.now _)

/-! impl_IsRules -/
theorem impl_IsRules_ev (a0 a1 : Int) (a2 a3 : Bool) (l4 l5 : List Int) (a6 a7 : Int) (h4 : l4.length ≤ 1048576) (h5 : l5.length ≤ 1048576) :
    Ev (fun k => impl_IsRules.f k a0 a1 a2 a3 l4 l5 a6 a7) (isRulesM a0 a1 a2 a3 l4 l5 a6 a7) := by
  have tail : Ev (fun k => (impl_isMaybe.f k l4).bind fun t => (if t = true then ((impl_isMaybe.f k l5).bind fun t => (if t = true then ((impl_InRange.f a6 1 4).bind fun t => (if t = true then ((impl_InRange.f a7 1 400).bind fun t => (some t)) else (some false))) else (some false))) else (some false)))
      (maybeM l4 && (maybeM l5 && (decide (1 ≤ a6 ∧ a6 ≤ 4) && decide (1 ≤ a7 ∧ a7 ≤ 400)))) := by
    refine Ev.bind (impl_isMaybe_ev l4 (by omega)) ?_
    cases maybeM l4
    · exact Ev.now _
    · refine Ev.bind (impl_isMaybe_ev l5 (by omega)) ?_
      cases maybeM l5
      · exact Ev.now _
      · refine ev_of_eq fun k => ?_
        simp only [impl_InRange_f, Option.bind_some, ↓reduceIte]
        cases decide (1 ≤ a6 ∧ a6 ≤ 4) <;> simp
  simp only [impl_IsRules.f]
  simp only [impl_InRange_f, Option.bind_some] at tail ⊢
  unfold isRulesM
  cases decide (2 ≤ a0 ∧ a0 ≤ 6)
  · exact Ev.now _
  · cases decide (1 ≤ a1 ∧ a1 ≤ 8)
    · exact Ev.now _
    · cases a2
      · cases a3
        · exact Ev.now _
        · simpa using tail
      · simpa using tail

/-! impl_IsCard -/
theorem impl_IsCard_f (a : Int) : impl_IsCard.f a = some (isCardM a) := by
  unfold impl_IsCard.f
  rw [impl_InRange_f]
  rfl

/-! impl_IsHand -/
theorem impl_IsHand_f (l : List Int) : impl_IsHand.f l = some (isHandM l) := by
  suffices H : ∀ (rest pre : List Int) (seen : List Bool), seen.length = 52 → (∀ c : Int, 0 ≤ c → c ≤ 51 → seen.getD c.toNat false = pre.contains c) → impl_IsHand.handF seen rest = handP pre rest by
    unfold impl_IsHand.f isHandM
    rw [H l [] _ List.length_replicate (fun c h0 h1 => by rw [getD_replicate_false]; rfl)]
  intro rest
  induction rest with
  | nil => intro pre seen _ _; cases seen <;> rfl
  | cons x rest ih =>
    intro pre seen hs hp
    unfold impl_IsHand.handF handP isCardM
    by_cases h : 0 ≤ x ∧ x ≤ 51
    · simp only [h, and_self, ↓reduceIte, decide_true, Bool.true_and, hp x h.1 h.2]
      cases hc : pre.contains x
      · simp only [Bool.false_eq_true, ↓reduceIte, Bool.not_false, Bool.true_and]
        refine ih _ _ (by simp [hs]) (fun c h0 h1 => ?_)
        by_cases e : c = x
        · subst e
          have : c.toNat < seen.length := by omega
          simp [List.getD_eq_getElem?_getD, List.getElem?_set, this]
        · have e' : ¬ x.toNat = c.toNat := by omega
          have := hp c h0 h1
          simp only [List.getD_eq_getElem?_getD] at this ⊢
          rw [List.getElem?_set_ne e', this]
          simp [e]
      · simp
    · simp [h]

/-! impl_AllApart -/
theorem impl_AllApart_ev (rows : List (List Int)) (hl : rows.length ≤ 16) (hm : ∀ r ∈ rows, r.length ≤ 1048576) : Ev (fun k => impl_AllApart.f k rows) (isHandM rows.flatten) := by
  simp only [impl_AllApart.f]
  suffices H : ∀ acc : List Int, (acc.length : Int) ≤ 0 * 1048576 → Ev (fun k => impl_AllApart.l0 k acc rows (rows.length : Int) 0) (isHandM (acc ++ rows.flatten)) from H [] (by simp)
  refine loop_of rows [] (by omega) (P := fun i rest => ∀ acc : List Int, (acc.length : Int) ≤ i * 1048576 → Ev (fun k => impl_AllApart.l0 k acc rows (rows.length : Int) i) (isHandM (acc ++ rest.flatten))) ?_ ?_
  · intro acc _
    refine ev_succ (ev_of_eq fun k => ?_)
    simp only [impl_AllApart.l0, Int.lt_irrefl, ↓reduceIte, List.flatten_nil, List.append_nil, impl_IsHand_f, Option.bind_some]
  · intro i x rest h0 h1 hx hmem hw ih acc hacc
    have hx' : rd_L1 rows i = x := hx
    have hxl := hm x hmem
    have g : acc.length + x.length < 17592186044416 := by omega
    refine ev_succ ?_
    simp only [impl_AllApart.l0, h1, h0, hx', g, hw, ↓reduceIte, List.flatten_cons]
    have step := ih (acc ++ x) (by simp; omega)
    rw [List.append_assoc] at step
    exact step

/-! impl_TotalCards -/
theorem impl_TotalCards_ev (rows : List (List Int)) (hl : rows.length ≤ 16) (hm : ∀ r ∈ rows, r.length ≤ 1048576) : Ev (fun k => impl_TotalCards.f k rows) (rows.flatten.length : Int) := by
  simp only [impl_TotalCards.f]
  suffices H : ∀ t : Int, 0 ≤ t → t ≤ 0 * 1048576 → Ev (fun k => impl_TotalCards.l0 k t rows (rows.length : Int) 0) (t + (rows.flatten.length : Int)) by simpa using H 0 (by omega) (by omega)
  refine loop_of rows [] (by omega) (P := fun i rest => ∀ t : Int, 0 ≤ t → t ≤ i * 1048576 → Ev (fun k => impl_TotalCards.l0 k t rows (rows.length : Int) i) (t + (rest.flatten.length : Int))) ?_ ?_
  · intro t _ _
    refine ev_succ (ev_of_eq fun k => ?_)
    simp only [impl_TotalCards.l0, Int.lt_irrefl, ↓reduceIte, List.flatten_nil, List.length_nil]
    simp
  · intro i x rest h0 h1 hx hmem hw ih t ht0 ht1
    have hx' : rd_L1 rows i = x := hx
    have hxl := hm x hmem
    refine ev_succ ?_
    simp only [impl_TotalCards.l0, h1, h0, hx', hw, ↓reduceIte, List.flatten_cons, List.length_append]
    rw [w64 (by omega) (by omega)]
    exact ev_eq (ih (t + x.length) (by omega) (by omega)) (by omega)

/-! impl_isWhole -/
theorem impl_isWhole_ev (rows : List (List Int)) (hl : rows.length ≤ 16) (hm : ∀ r ∈ rows, r.length ≤ 1048576) : Ev (fun k => impl_isWhole.f k rows) (isHandM rows.flatten && ((rows.flatten.length : Int) == 52)) := by
  simp only [impl_isWhole.f]
  refine Ev.bind (impl_AllApart_ev rows hl hm) ?_
  cases isHandM rows.flatten
  · exact ev_of_eq fun k => by simp only [Bool.false_eq_true, ↓reduceIte, Bool.false_and]
  · simp only [↓reduceIte, Bool.true_and]
    exact Ev.bind (impl_TotalCards_ev rows hl hm) (Ev.now _)

/-! impl_copyOf -/
theorem impl_copyOf_f (l : List Int) (hl : l.length ≤ 1099511627776) : impl_copyOf.f l = some l := by
  have h : ([] : List Int).length + l.length < 17592186044416 := by simp; omega
  simp only [impl_copyOf.f, Option.bind_some, h, ↓reduceIte, List.nil_append]

/-! impl_copyRows -/
theorem impl_copyRows_ev (l : List (List Int)) (hl : l.length ≤ 1048576) (hm : ∀ y ∈ l, y.length ≤ 1048576) : Ev (fun k => impl_copyRows.f k l) l := by
  simp only [impl_copyRows.f]
  refine loop_pre l [] (by omega) (P := fun i pre _ => Ev (fun k => impl_copyRows.l0 k pre l (l.length : Int) i) l) ?_ ?_
  · refine ev_succ (ev_of_eq fun k => ?_)
    simp only [impl_copyRows.l0, Int.lt_irrefl, ↓reduceIte]
  · intro i pre x rest hl' hi h0 h1 hx hw ih
    have hx' : rd_L1 l i = x := hx
    have hxl := hm x (by rw [hl']; simp)
    have g : pre.length < 5864062014805 := by
      have : pre.length ≤ l.length := by rw [hl']; simp
      omega
    refine ev_succ ?_
    simp only [impl_copyRows.l0, h1, h0, hx', impl_copyOf_f x (by omega), Option.bind_some, g, hw, ↓reduceIte]
    exact ih

/-! impl_IsGame -/
theorem handP_iff : ∀ (l pre : List Int), handP pre l = true ↔ (∀ x ∈ l, 0 ≤ x ∧ x ≤ 51) ∧ l.Nodup ∧ ∀ x ∈ l, x ∉ pre := by
  intro l
  induction l with
  | nil => intro pre; unfold handP; simp
  | cons x l ih =>
    intro pre
    unfold handP
    rw [Bool.and_eq_true, Bool.and_eq_true, ih (pre ++ [x]), List.nodup_cons]
    unfold isCardM
    simp only [decide_eq_true_eq, Bool.not_eq_true', List.contains_eq_mem, decide_eq_false_iff_not, List.mem_cons, List.mem_append, List.mem_singleton, forall_eq_or_imp, List.not_mem_nil, or_false, not_or]
    constructor
    · rintro ⟨h1, h2, h3, h4, h5⟩
      exact ⟨⟨h1, h3⟩, ⟨fun hx => (h5 x hx).2 rfl, h4⟩, h2, fun y hy => (h5 y hy).1⟩
    · rintro ⟨⟨h1, h3⟩, ⟨hx, h4⟩, h2, h5⟩
      exact ⟨h1, h2, h3, h4, fun y hy => ⟨h5 y hy, fun e => hx (e ▸ hy)⟩⟩
theorem isHandM_perm {l l' : List Int} (h : l.Perm l') : isHandM l = isHandM l' := by
  unfold isHandM
  rw [Bool.eq_iff_iff, handP_iff, handP_iff, h.nodup_iff]
  simp only [h.mem_iff]
theorem spWhole_perm {l l' : List Int} (h : l.Perm l') : spWhole l = spWhole l' := by
  unfold spWhole
  rw [isHandM_perm h, h.length_eq]
theorem impl_IsGame_ev (a0 a1 : Int) (a2 a3 : Bool) (l4 l5 : List Int) (a6 a7 : Int) (l8 : List (List Int)) (l9 l10 : List Int) (a11 a12 a13 : Int) (h4 : l4.length ≤ 1048576) (h5 : l5.length ≤ 1048576) (h8 : l8.length ≤ 1048576) (hm : ∀ y ∈ l8, y.length ≤ 1048576) (h9 : l9.length ≤ 1048576) (h10 : l10.length ≤ 1048576) :
    Ev (fun k => impl_IsGame.f k a0 a1 a2 a3 l4 l5 a6 a7 l8 l9 l10 a11 a12 a13) (gameM a0 a1 a2 a3 l4 l5 a6 a7 l8 l9 l10 a11 a12 a13) := by
  simp only [impl_IsGame.f]
  refine Ev.bind (impl_IsRules_ev a0 a1 a2 a3 l4 l5 a6 a7 h4 h5) ?_
  unfold gameM
  cases hr : isRulesM a0 a1 a2 a3 l4 l5 a6 a7
  · exact ev_of_eq fun k => by simp only [Bool.false_eq_true, ↓reduceIte, Bool.false_and]
  · have hp := rules_players hr
    simp only [↓reduceIte, Bool.true_and]
    by_cases c : (l8.length : Int) = a0
    · have w1 : wrap64 (a0 - 1) = a0 - 1 := w64 (by omega) (by omega)
      simp only [c, ↓reduceIte, decide_true, Bool.true_and, impl_InRange_f, Option.bind_some, w1]
      refine Ev.bind (impl_copyRows_ev l8 h8 hm) ?_
      have g : l8.length + [l9, l10].length < 5864062014805 := by
        have : [l9, l10].length = 2 := rfl
        omega
      simp only [g, ↓reduceIte]
      refine Ev.bind (impl_isWhole_ev (l8 ++ [l9, l10]) ?_ ?_) ?_
      · simp only [List.length_append, List.length_cons, List.length_nil]; omega
      · intro r hr2
        rcases List.mem_append.mp hr2 with hr2 | hr2
        · exact hm r hr2
        · simp only [List.mem_cons, List.not_mem_nil, or_false] at hr2
          rcases hr2 with hr2 | hr2 <;> rw [hr2] <;> omega
      have hW : (isHandM (l8 ++ [l9, l10]).flatten && (((l8 ++ [l9, l10]).flatten.length : Int) == 52)) = spWhole (l9 ++ l10 ++ l8.flatten) := by
        have e : (l8 ++ [l9, l10]).flatten = l8.flatten ++ (l9 ++ l10) := by simp
        rw [e]
        exact spWhole_perm List.perm_append_comm
      rw [hW]
      refine ev_of_eq fun k => ?_
      generalize spWhole (l9 ++ l10 ++ l8.flatten) = b
      cases b
      · simp only [Bool.false_eq_true, ↓reduceIte, Bool.and_false]
      · simp only [↓reduceIte, Bool.and_true]
        by_cases c1 : (l10.length : Int) > 0
        · have c1' : 0 < (l10.length : Int) := c1
          simp only [c1, c1', ↓reduceIte, decide_true, Bool.true_and]
          by_cases c2 : 0 ≤ a11 ∧ a11 ≤ a0 - 1
          · simp only [c2, and_self, decide_true, ↓reduceIte, Bool.true_and]
            by_cases c3 : 0 ≤ a12 ∧ a12 ≤ a7
            · simp only [c3, and_self, decide_true, ↓reduceIte, Bool.true_and]
            · simp only [c3, decide_false, Bool.false_eq_true, ↓reduceIte, Bool.false_and]
          · simp only [c2, decide_false, Bool.false_eq_true, ↓reduceIte, Bool.false_and]
        · have c1' : ¬ (0 < (l10.length : Int)) := c1
          simp only [c1, c1', ↓reduceIte, decide_false, Bool.false_and]
    · exact ev_of_eq fun k => by simp only [c, ↓reduceIte, decide_false, Bool.false_and]

/-! impl_Winner -/
theorem impl_Winner_l0 (l8 : List (List Int)) (h8 : l8.length ≤ 1048576) : Ev (fun k => impl_Winner.l0 k l8 (l8.length : Int) 0) (firstM l8 0) := by
  refine loop_of l8 [] (by omega) (P := fun i rest => Ev (fun k => impl_Winner.l0 k l8 (l8.length : Int) i) (firstM rest i)) ?_ ?_
  · refine ev_succ (ev_of_eq fun k => ?_)
    simp only [impl_Winner.l0, Int.lt_irrefl, ↓reduceIte, firstM]
  · intro i x rest h0 h1 hx hmem hw ih
    have hx' : rd_L1 l8 i = x := hx
    refine ev_succ ?_
    simp only [impl_Winner.l0, h1, h0, hx', ↓reduceIte, hw, firstM]
    by_cases c : x.length = 0
    · have c' : (x.length : Int) = 0 := by omega
      exact ev_of_eq fun k => by simp only [c, c', ↓reduceIte, Int.natCast_zero, Int.cast_ofNat_Int]
    · have c' : ¬ (x.length : Int) = 0 := by omega
      simp only [c, c', ↓reduceIte]
      exact ih
theorem impl_Winner_ev (a0 a1 : Int) (a2 a3 : Bool) (l4 l5 : List Int) (a6 a7 : Int) (l8 : List (List Int)) (l9 l10 : List Int) (a11 a12 a13 : Int) (h4 : l4.length ≤ 1048576) (h5 : l5.length ≤ 1048576) (h8 : l8.length ≤ 1048576) (hm : ∀ y ∈ l8, y.length ≤ 1048576) (h9 : l9.length ≤ 1048576) (h10 : l10.length ≤ 1048576) :
    Ev (fun k => impl_Winner.f k a0 a1 a2 a3 l4 l5 a6 a7 l8 l9 l10 a11 a12 a13) (if gameM a0 a1 a2 a3 l4 l5 a6 a7 l8 l9 l10 a11 a12 a13 = true then firstM l8 0 else -1) := by
  simp only [impl_Winner.f]
  refine Ev.bind (impl_IsGame_ev a0 a1 a2 a3 l4 l5 a6 a7 l8 l9 l10 a11 a12 a13 h4 h5 h8 hm h9 h10) ?_
  cases gameM a0 a1 a2 a3 l4 l5 a6 a7 l8 l9 l10 a11 a12 a13
  · exact ev_of_eq fun k => by simp only [Bool.false_eq_true, ↓reduceIte]
  · simp only [↓reduceIte]
    exact impl_Winner_l0 l8 h8

/-! impl_IsEnded -/
theorem impl_IsEnded_ev (a0 a1 : Int) (a2 a3 : Bool) (l4 l5 : List Int) (a6 a7 : Int) (l8 : List (List Int)) (l9 l10 : List Int) (a11 a12 a13 : Int) (h4 : l4.length ≤ 1048576) (h5 : l5.length ≤ 1048576) (h8 : l8.length ≤ 1048576) (hm : ∀ y ∈ l8, y.length ≤ 1048576) (h9 : l9.length ≤ 1048576) (h10 : l10.length ≤ 1048576) :
    Ev (fun k => impl_IsEnded.f k a0 a1 a2 a3 l4 l5 a6 a7 l8 l9 l10 a11 a12 a13) (gameM a0 a1 a2 a3 l4 l5 a6 a7 l8 l9 l10 a11 a12 a13 && overM a0 a7 l8 a12 a13) := by
  simp only [impl_IsEnded.f]
  refine Ev.bind (impl_IsGame_ev a0 a1 a2 a3 l4 l5 a6 a7 l8 l9 l10 a11 a12 a13 h4 h5 h8 hm h9 h10) ?_
  cases hg : gameM a0 a1 a2 a3 l4 l5 a6 a7 l8 l9 l10 a11 a12 a13
  · exact ev_of_eq fun k => by simp only [Bool.false_eq_true, ↓reduceIte, Bool.false_and]
  · simp only [↓reduceIte, Bool.true_and]
    refine Ev.bind (impl_Winner_ev a0 a1 a2 a3 l4 l5 a6 a7 l8 l9 l10 a11 a12 a13 h4 h5 h8 hm h9 h10) ?_
    refine ev_of_eq fun k => ?_
    simp only [hg, ↓reduceIte]
    unfold overM
    split
    · rfl
    · split <;> rfl

/-! impl_SuitOf -/
theorem impl_SuitOf_f (a : Int) : impl_SuitOf.f a = some (suitM a) := by
  unfold impl_SuitOf.f
  rw [impl_IsCard_f]
  unfold suitM isCardM
  by_cases h : 0 ≤ a ∧ a ≤ 51
  · simp [h, tdiv13 a h.1 h.2]
  · simp [h]

/-! impl_RankOf -/
theorem impl_RankOf_f (a : Int) : impl_RankOf.f a = some (rankM a) := by
  unfold impl_RankOf.f
  rw [impl_IsCard_f]
  unfold rankM isCardM
  by_cases h : 0 ≤ a ∧ a ≤ 51
  · simp [h, tmod13 a h.1]
  · simp [h]

/-! impl_IsRed -/
theorem impl_IsRed_f (c : Int) : impl_IsRed.f c = some (isRedM c) := by
  simp only [impl_IsRed.f, impl_SuitOf_f, Option.bind_some, isRedM]
  by_cases h : suitM c = 1
  · simp [h]
  · simp only [h, ↓reduceIte]
    congr 1
    rw [Bool.eq_iff_iff]
    simp
    omega

/-! impl_asks -/
theorem impl_ask_f (s c : Int) : impl_asks.f s c = some (askM s c) := by
  unfold impl_asks.f askM
  by_cases h1 : s = 400
  · simp only [h1, ↓reduceIte, impl_IsRed_f, Option.bind_some]
  · by_cases h2 : s ≥ 300
    · simp only [h1, h2, ↓reduceIte, impl_RankOf_f, Option.bind_some]
    · by_cases h3 : s ≥ 200
      · simp only [h1, h2, h3, ↓reduceIte, impl_RankOf_f, Option.bind_some]
      · simp only [h1, h2, h3, ↓reduceIte, impl_SuitOf_f, Option.bind_some]

/-! impl_Matches -/
theorem impl_Matches_l0 (p : List Int) (c : Int) (hl : p.length ≤ 20) (hp : patF p 0 = some 1) : Ev (fun k => impl_Matches.l0 k c [] p (p.length : Int) 0) (matchF c p []) := by
  suffices H : ∀ x : List Bool, (x.length : Int) ≤ 0 → patF p (x.length : Int) = some 1 → Ev (fun k => impl_Matches.l0 k c x p (p.length : Int) 0) (matchF c p x) from H [] (by simp) hp
  refine loop_int p (by omega) (P := fun i rest => ∀ x : List Bool, (x.length : Int) ≤ i → patF rest (x.length : Int) = some 1 → Ev (fun k => impl_Matches.l0 k c x p (p.length : Int) i) (matchF c rest x)) ?_ ?_
  · intro x hx he
    have h1 : 0 < (x.length : Int) := by simp only [patF, Option.some.injEq] at he; omega
    refine ev_succ (ev_of_eq fun k => ?_)
    simp only [impl_Matches.l0, Int.lt_irrefl, h1, ↓reduceIte, matchF]
  · intro i s rest h0 h1 hs hm hw ih x hx he
    refine ev_succ ?_
    have b : x.length < 140737488355328 := by omega
    have w1 : wrap64 ((x.length : Int) - 1) = (x.length : Int) - 1 := w64 (by omega) (by omega)
    have w2 : wrap64 ((x.length : Int) - 2) = (x.length : Int) - 2 := w64 (by omega) (by omega)
    rcases patF_step he with ⟨e1, e2, e3, e4⟩ | ⟨e1, e2, e4⟩ | ⟨e1, e2, e4⟩
    · simp only [impl_Matches.l0, h1, h0, hs, e1, e2, e3, b, hw, ↓reduceIte, impl_ask_f, Option.bind_some, matchF]
      exact ih (x ++ [askM s c]) (by simp; omega) (by simpa using e4)
    · have g1 : 0 ≤ (x.length : Int) - 1 := by omega
      have g2 : (x.length : Int) - 1 < (x.length : Int) := by omega
      simp only [impl_Matches.l0, h1, h0, hs, e1, w1, g1, g2, hw, ↓reduceIte, matchF]
      exact ih _ (by rw [List.length_set]; omega) (by rw [List.length_set]; exact e4)
    · have g1 : 0 ≤ (x.length : Int) - 2 := by omega
      have g2 : (x.length : Int) - 2 < (x.length : Int) := by omega
      have g3 : (x.length : Int) - 2 ≤ (x.length : Int) := by omega
      have g4 : 0 ≤ (x.length : Int) - 1 := by omega
      have g5 : (x.length : Int) - 1 < (x.length : Int) := by omega
      have tl : (x.take ((x.length : Int) - 2).toNat).length = ((x.length : Int) - 2).toNat := by rw [List.length_take]; omega
      have g6 : (x.take ((x.length : Int) - 2).toNat).length < 140737488355328 := by omega
      have nx : ∀ y : Bool, Ev (fun k => impl_Matches.l0 k c (x.take ((x.length : Int) - 2).toNat ++ [y]) p (p.length : Int) (i + 1)) (matchF c rest (x.take ((x.length : Int) - 2).toNat ++ [y])) := by
        intro y
        have ln : ((x.take ((x.length : Int) - 2).toNat ++ [y]).length : Int) = (x.length : Int) - 1 := by rw [List.length_append, tl]; simp; omega
        exact ih _ (by omega) (by rw [ln]; exact e4)
      rcases e1 with e1 | e1
      · have z : ¬ (-2 : Int) = -1 := by omega
        cases hv : rdOf false x ((x.length : Int) - 2)
        · simp only [impl_Matches.l0, h1, h0, hs, e1, z, w1, w2, g1, g2, g3, g4, g5, g6, hv, hw, Option.bind_some, Bool.false_eq_true, Bool.false_and, ↓reduceIte, matchF]
          exact nx false
        · simp only [impl_Matches.l0, h1, h0, hs, e1, z, w1, w2, g1, g2, g3, g4, g5, g6, hv, hw, Option.bind_some, Bool.true_and, ↓reduceIte, matchF]
          exact nx _
      · have z : ¬ (-3 : Int) = -1 := by omega
        have z2 : ¬ (-3 : Int) = -2 := by omega
        cases hv : rdOf false x ((x.length : Int) - 2)
        · simp only [impl_Matches.l0, h1, h0, hs, e1, z, z2, w1, w2, g1, g2, g3, g4, g5, g6, hv, hw, Option.bind_some, Bool.false_eq_true, Bool.false_or, ↓reduceIte, matchF]
          exact nx _
        · simp only [impl_Matches.l0, h1, h0, hs, e1, z, z2, w1, w2, g1, g2, g3, g4, g5, g6, hv, hw, Option.bind_some, Bool.true_or, ↓reduceIte, matchF]
          exact nx true
theorem impl_Matches_ev (p : List Int) (c : Int) (hl : p.length ≤ 1099511627776) : Ev (fun k => impl_Matches.f k p c) (matchM p c) := by
  simp only [impl_Matches.f, impl_IsCard_f, Option.bind_some, matchM]
  refine Ev.bind (impl_IsPattern_ev p hl) ?_
  cases hp : isPatM p
  · simp only [Bool.false_eq_true, ↓reduceIte, Bool.false_and]
    exact ev_succ (ev_of_eq fun k => by simp only [impl_Matches.j0, ↓reduceIte])
  · simp only [↓reduceIte, Bool.true_and]
    refine ev_succ ?_
    cases hc : isCardM c
    · exact ev_of_eq fun k => by simp only [impl_Matches.j0, Bool.not_false, ↓reduceIte, Bool.false_and]
    · simp only [impl_Matches.j0, Bool.not_true, Bool.false_eq_true, ↓reduceIte, Bool.true_and]
      obtain ⟨h1, h2⟩ := isPatM_run hp
      exact impl_Matches_l0 p c h2 h1

/-! impl_FitsOn -/
theorem impl_FitsOn_ev (a0 a1 : Int) (a2 a3 : Bool) (l4 l5 : List Int) (a6 a7 t c : Int) (h4 : l4.length ≤ 1048576) (h5 : l5.length ≤ 1048576) :
    Ev (fun k => impl_FitsOn.f k a0 a1 a2 a3 l4 l5 a6 a7 t c) (isRulesM a0 a1 a2 a3 l4 l5 a6 a7 && (isCardM t && (isCardM c && ((a2 && decide (suitM c = suitM t)) || ((a3 && decide (rankM c = rankM t)) || matchM l4 c))))) := by
  simp only [impl_FitsOn.f, impl_IsCard_f, Option.bind_some]
  refine Ev.bind (impl_IsRules_ev a0 a1 a2 a3 l4 l5 a6 a7 h4 h5) ?_
  have no : ∀ v : Bool, v = false → Ev (fun k => impl_FitsOn.j0 k t c true a0 a1 a2 a3 l4 l5 a6 a7) v := by
    intro v hv
    exact ev_succ (ev_of_eq fun k => by simp only [impl_FitsOn.j0, ↓reduceIte, hv])
  cases isRulesM a0 a1 a2 a3 l4 l5 a6 a7
  · simp only [Bool.false_eq_true, ↓reduceIte, Bool.false_and]
    exact no _ rfl
  · simp only [↓reduceIte, Bool.true_and]
    cases isCardM t
    · simp only [Bool.false_eq_true, ↓reduceIte, Bool.false_and]
      exact no _ rfl
    · simp only [↓reduceIte, Bool.true_and]
      cases isCardM c
      · simp only [Bool.not_false, Bool.false_and]
        exact no _ rfl
      · simp only [Bool.not_true, Bool.true_and]
        refine ev_succ ?_
        have mt : Ev (fun k => (impl_Matches.f k l4 c).bind fun x => some x) (matchM l4 c) := Ev.bind (impl_Matches_ev l4 c (by omega)) (Ev.now _)
        simp only [impl_FitsOn.j0, impl_SuitOf_f, impl_RankOf_f, Option.bind_some, Bool.false_eq_true, ↓reduceIte]
        by_cases h1 : suitM c = suitM t <;> by_cases h2 : rankM c = rankM t <;> cases a2 <;> cases a3 <;> simp only [h1, h2, decide_true, decide_false, Bool.and_self, Bool.and_true, Bool.and_false, Bool.true_and, Bool.false_and, Bool.true_or, Bool.false_or, Bool.or_true, Bool.or_false, Bool.false_eq_true, ↓reduceIte] <;> first | exact Ev.now _ | exact mt

/-! impl_Playable -/
theorem impl_Playable_ev (a0 a1 : Int) (a2 a3 : Bool) (l4 l5 : List Int) (a6 a7 : Int) (l8 : List (List Int)) (l9 l10 : List Int) (a11 a12 a13 : Int) (h4 : l4.length ≤ 1048576) (h5 : l5.length ≤ 1048576) (h8 : l8.length ≤ 1048576) (hm : ∀ y ∈ l8, y.length ≤ 1048576) (h9 : l9.length ≤ 1048576) (h10 : l10.length ≤ 1048576) :
    Ev (fun k => impl_Playable.f k a0 a1 a2 a3 l4 l5 a6 a7 l8 l9 l10 a11 a12 a13) (playM a0 a1 a2 a3 l4 l5 a6 a7 l8 l9 l10 a11 a12 a13) := by
  have F : Ev (fun k => impl_Playable.j0 k true a0 a1 a2 a3 l4 l5 a6 a7 l8 l9 l10 a11 a12 a13) [] := ev_succ (ev_of_eq fun k => by simp only [impl_Playable.j0, ↓reduceIte])
  simp only [impl_Playable.f]
  refine Ev.bind (impl_IsGame_ev a0 a1 a2 a3 l4 l5 a6 a7 l8 l9 l10 a11 a12 a13 h4 h5 h8 hm h9 h10) ?_
  cases hg : gameM a0 a1 a2 a3 l4 l5 a6 a7 l8 l9 l10 a11 a12 a13
  · simp only [Bool.false_eq_true, ↓reduceIte]
    exact ev_eq F (by simp [playM, hg])
  · simp only [↓reduceIte]
    refine Ev.bind (impl_IsEnded_ev a0 a1 a2 a3 l4 l5 a6 a7 l8 l9 l10 a11 a12 a13 h4 h5 h8 hm h9 h10) ?_
    rw [hg, Bool.true_and]
    cases ho : overM a0 a7 l8 a12 a13
    · refine ev_succ ?_
      obtain ⟨t0, t1, tp⟩ := game_turn hg
      have hrow : (rd_L1 l8 a11).length ≤ 1048576 := by
        unfold rd_L1
        rw [List.getD_eq_getElem?_getD]
        cases h : l8[a11.toNat]? with
        | none => simp
        | some y => exact hm y (List.mem_of_getElem? h)
      simp only [impl_Playable.j0, Bool.false_eq_true, t0, t1, ↓reduceIte, impl_Sorted_f _ hrow, Option.bind_some]
      rw [playM, if_pos ⟨hg, ho⟩]
      have hs : (sortF [] (rd_L1 l8 a11)).length ≤ 1048576 := by rw [sortF_length]; simpa using hrow
      generalize sortF [] (rd_L1 l8 a11) = s at hs
      have hw1 : wrap64 ((l10.length : Int) - 1) = (l10.length : Int) - 1 := w64 (by omega) (by omega)
      have q0 : 0 ≤ (l10.length : Int) - 1 := by omega
      have q1 : (l10.length : Int) - 1 < (l10.length : Int) := by omega
      refine loop_int_pre s (by omega) (P := fun i pre rest => Ev (fun k => impl_Playable.l0 k (pre.filter fun c => isRulesM a0 a1 a2 a3 l4 l5 a6 a7 && (isCardM (rd l10 ((l10.length : Int) - 1)) && (isCardM c && ((a2 && decide (suitM c = suitM (rd l10 ((l10.length : Int) - 1)))) || ((a3 && decide (rankM c = rankM (rd l10 ((l10.length : Int) - 1)))) || matchM l4 c))))) s (s.length : Int) i a0 a1 a2 a3 l4 l5 a6 a7 l8 l9 l10 a11 a12 a13) _) ?_ ?_
      · refine ev_succ (ev_of_eq fun k => ?_)
        simp only [impl_Playable.l0, Int.lt_irrefl, ↓reduceIte]
      · intro i pre x rest hl hi i0 i1 hx hw ih
        refine ev_succ ?_
        simp only [impl_Playable.l0, i1, i0, hw1, q0, q1, hx, hw, ↓reduceIte]
        refine Ev.bind (impl_FitsOn_ev a0 a1 a2 a3 l4 l5 a6 a7 (rd l10 ((l10.length : Int) - 1)) x h4 h5) ?_
        have hb : (pre.filter fun c => isRulesM a0 a1 a2 a3 l4 l5 a6 a7 && (isCardM (rd l10 ((l10.length : Int) - 1)) && (isCardM c && ((a2 && decide (suitM c = suitM (rd l10 ((l10.length : Int) - 1)))) || ((a3 && decide (rankM c = rankM (rd l10 ((l10.length : Int) - 1)))) || matchM l4 c))))).length < 17592186044416 := by
          have := List.length_filter_le (fun c => isRulesM a0 a1 a2 a3 l4 l5 a6 a7 && (isCardM (rd l10 ((l10.length : Int) - 1)) && (isCardM c && ((a2 && decide (suitM c = suitM (rd l10 ((l10.length : Int) - 1)))) || ((a3 && decide (rankM c = rankM (rd l10 ((l10.length : Int) - 1)))) || matchM l4 c))))) pre
          omega
        rw [List.filter_append] at ih
        cases hf : (isRulesM a0 a1 a2 a3 l4 l5 a6 a7 && (isCardM (rd l10 ((l10.length : Int) - 1)) && (isCardM x && ((a2 && decide (suitM x = suitM (rd l10 ((l10.length : Int) - 1)))) || ((a3 && decide (rankM x = rankM (rd l10 ((l10.length : Int) - 1)))) || matchM l4 x)))))
        · simp only [Bool.false_eq_true, ↓reduceIte]
          simpa [hf] using ih
        · simp only [↓reduceIte, hb]
          simpa [hf] using ih
    · exact ev_eq F (by simp [playM, hg, ho])

/-! impl_SuitCounts -/
theorem impl_SuitCounts_ev (l : List Int) (hl : l.length ≤ 1099511627776) : Ev (fun k => impl_SuitCounts.f k l) (countsM l) := by
  have e1 : (4 : Nat) ≤ 35184372088832 := by omega
  simp only [impl_SuitCounts.f, countsM, e1, ↓reduceIte]
  refine loop_int l hl (P := fun i rest => ∀ d : List Int, d.length = 4 → Ev (fun k => impl_SuitCounts.l0 k d l (l.length : Int) i) (rest.foldl countStep d)) ?_ ?_ [0, 0, 0, 0] rfl
  · intro d _
    refine ev_succ (ev_of_eq fun k => ?_)
    simp only [impl_SuitCounts.l0, Int.lt_irrefl, ↓reduceIte, List.foldl_nil]
  · intro i x rest h0 h1 hx _ hw ih d hd
    refine ev_succ ?_
    simp only [impl_SuitCounts.l0, h1, h0, ↓reduceIte, hx, hw, impl_SuitOf_f, impl_IsCard_f, Option.bind_some]
    have h2 : suitM x < (d.length : Int) := by have := suitM_range x; omega
    have h3 : isCardM x = decide (0 ≤ suitM x) := by rw [Bool.eq_iff_iff]; simp [isCardM, suitM_nonneg]
    have ih' := ih (countStep d x) (by rw [countStep_length]; exact hd)
    rw [List.foldl_cons, h3]
    unfold countStep at ih' ⊢
    by_cases h : 0 ≤ suitM x
    · simp only [h, h2, ↓reduceIte, decide_true] at ih' ⊢
      exact ih'
    · simp only [h, ↓reduceIte, decide_false, Bool.false_eq_true] at ih' ⊢
      exact ih'

/-! impl_ChoiceOf -/
theorem rd_first {p : List Int} (h : p ≠ []) : rd p 0 ∈ p := by
  cases p with
  | nil => exact absurd rfl h
  | cons x r => exact List.mem_cons_self
theorem impl_ChoiceOf_ev (a0 a1 : Int) (a2 a3 : Bool) (l4 l5 : List Int) (a6 a7 : Int) (l8 : List (List Int)) (l9 l10 : List Int) (a11 a12 a13 kind : Int) (h4 : l4.length ≤ 1048576) (h5 : l5.length ≤ 1048576) (h8 : l8.length ≤ 1048576) (hm : ∀ y ∈ l8, y.length ≤ 1048576) (h9 : l9.length ≤ 1048576) (h10 : l10.length ≤ 1048576) :
    Ev (fun k => impl_ChoiceOf.f k a0 a1 a2 a3 l4 l5 a6 a7 l8 l9 l10 a11 a12 a13 kind) (pickM (countsM (rd_L1 l8 a11)) (playM a0 a1 a2 a3 l4 l5 a6 a7 l8 l9 l10 a11 a12 a13) kind) := by
  simp only [impl_ChoiceOf.f]
  refine Ev.bind (impl_Playable_ev a0 a1 a2 a3 l4 l5 a6 a7 l8 l9 l10 a11 a12 a13 h4 h5 h8 hm h9 h10) ?_
  have hs := playM_small a0 a1 a2 a3 l4 l5 a6 a7 l8 l9 l10 a11 a12 a13 hm
  have hc : ∀ x ∈ playM a0 a1 a2 a3 l4 l5 a6 a7 l8 l9 l10 a11 a12 a13, isCardM x = true ∧ gameM a0 a1 a2 a3 l4 l5 a6 a7 l8 l9 l10 a11 a12 a13 = true := fun x h => play_mem h
  have hn := countsM_length (rd_L1 l8 a11)
  generalize playM a0 a1 a2 a3 l4 l5 a6 a7 l8 l9 l10 a11 a12 a13 = p at hs hc
  by_cases z : p.length = 0
  · have z' : (p.length : Int) = 0 := by omega
    exact ev_of_eq fun k => by simp only [pickM, z, z', ↓reduceIte]; rfl
  · have z' : ¬ (p.length : Int) = 0 := by omega
    have z1 : 0 < (p.length : Int) := by omega
    have w1 : wrap64 ((p.length : Int) - 1) = (p.length : Int) - 1 := w64 (by omega) (by omega)
    have z2 : 0 ≤ (p.length : Int) - 1 := by omega
    have z3 : (p.length : Int) - 1 < (p.length : Int) := by omega
    simp only [pickM, z, z', w1, z1, z2, z3, ↓reduceIte]
    by_cases k0 : kind = 0
    · exact ev_of_eq fun k => by simp only [k0, ↓reduceIte]
    by_cases k1 : kind = 1
    · exact ev_of_eq fun k => by simp only [k0, k1, ↓reduceIte]; rfl
    by_cases k2 : kind = 2
    · simp only [k0, k1, k2, ↓reduceIte]
      obtain ⟨x0, r0, e0⟩ : ∃ x r, p = x :: r := by cases p with | nil => exact absurd rfl z | cons x r => exact ⟨x, r, rfl⟩
      have g0 := (hc x0 (by rw [e0]; simp)).2
      obtain ⟨t0, t1, _⟩ := game_turn g0
      simp only [t0, t1, ↓reduceIte]
      have e2 : ¬ (2 : Int) = 0 := by omega
      have e3 : ¬ (2 : Int) = 1 := by omega
      simp only [e2, e3, ↓reduceIte]
      have hr := row_small a11 hm
      refine Ev.bind (impl_SuitCounts_ev _ (by omega)) ?_
      generalize countsM (rd_L1 l8 a11) = n at hn
      have hne : p ≠ [] := by rw [e0]; simp
      have card : ∀ x, x ∈ p → 0 ≤ suitM x ∧ suitM x < (n.length : Int) := fun x hx => by
        have hx' := (isCardM_iff x).1 (hc x hx).1
        have := suitM_range x
        exact ⟨(suitM_nonneg x).2 hx', by omega⟩
      refine loop_int p (by omega) (P := fun i rest => ∀ b, b ∈ p → Ev (fun k => impl_ChoiceOf.l0 k n b p (p.length : Int) i) (bestF (fun c => rd n (suitM c)) b rest)) ?_ ?_ (rd p 0) (rd_first hne)
      · intro b _
        refine ev_succ (ev_of_eq fun k => ?_)
        simp only [impl_ChoiceOf.l0, Int.lt_irrefl, ↓reduceIte, bestF]
      · intro i x rest i0 i1 hx hxm hw ih b hb
        refine ev_succ ?_
        obtain ⟨s0, s1⟩ := card x hxm
        obtain ⟨t0, t1⟩ := card b hb
        simp only [impl_ChoiceOf.l0, i1, i0, hx, hw, impl_SuitOf_f, Option.bind_some, s0, s1, t0, t1, ↓reduceIte, bestF]
        by_cases h : rd n (suitM x) > rd n (suitM b)
        · simp only [h, ↓reduceIte]
          exact ih x hxm
        · simp only [h, ↓reduceIte]
          exact ih b hb
    · exact ev_of_eq fun k => by simp only [k0, k1, k2, ↓reduceIte]

/-! laws_eqIntS -/
theorem laws_eqIntS_ev (l : List Int) (hl : l.length ≤ 1099511627776) : Ev (fun k => laws_eqIntS.f k l l) true := by
  simp only [laws_eqIntS.f, ↓reduceIte]
  refine loop_int l hl (P := fun i _ => Ev (fun k => laws_eqIntS.l0 k l l i) true) ?_ ?_
  · refine ev_succ (ev_of_eq fun k => ?_)
    simp only [laws_eqIntS.l0, Int.lt_irrefl, ↓reduceIte]
  · intro i x rest h0 h1 hx _ hw ih
    refine ev_succ ?_
    simp only [laws_eqIntS.l0, h1, h0, ↓reduceIte, hw]
    exact ih

/-! laws_eqRules -/
theorem laws_eqRules_ev (a0 a1 : Int) (a2 a3 : Bool) (l4 l5 : List Int) (a6 a7 : Int) (h4 : l4.length ≤ 1048576) (h5 : l5.length ≤ 1048576) :
    Ev (fun k => laws_eqRules.f k a0 a1 a2 a3 l4 l5 a6 a7 a0 a1 a2 a3 l4 l5 a6 a7) true := by
  simp only [laws_eqRules.f, bne_self_eq_false, Bool.false_eq_true, ↓reduceIte]
  refine Ev.bind (laws_eqIntS_ev l4 (by omega)) ?_
  simp only [↓reduceIte]
  refine Ev.bind (laws_eqIntS_ev l5 (by omega)) ?_
  exact ev_of_eq fun k => by simp only [↓reduceIte]

/-! laws_eqIntSS -/
theorem laws_eqIntSS_ev (l : List (List Int)) (hl : l.length ≤ 1048576) (hm : ∀ y ∈ l, y.length ≤ 1048576) : Ev (fun k => laws_eqIntSS.f k l l) true := by
  simp only [laws_eqIntSS.f, ↓reduceIte]
  refine loop_of l [] (by omega) (P := fun i _ => Ev (fun k => laws_eqIntSS.l0 k l l i) true) ?_ ?_
  · refine ev_succ (ev_of_eq fun k => ?_)
    simp only [laws_eqIntSS.l0, Int.lt_irrefl, ↓reduceIte]
  · intro i x rest h0 h1 hx hmem hw ih
    have hx' : rd_L1 l i = x := hx
    have hxl := hm x hmem
    refine ev_succ ?_
    simp only [laws_eqIntSS.l0, h1, h0, hx', ↓reduceIte, hw]
    refine Ev.bind (laws_eqIntS_ev x (by omega)) ?_
    simp only [↓reduceIte]
    exact ih

/-! laws_eqGame -/
theorem laws_eqGame_ev (a0 a1 : Int) (a2 a3 : Bool) (l4 l5 : List Int) (a6 a7 : Int) (l8 : List (List Int)) (l9 l10 : List Int) (a11 a12 a13 : Int) (h4 : l4.length ≤ 1048576) (h5 : l5.length ≤ 1048576) (h8 : l8.length ≤ 1048576) (hm : ∀ y ∈ l8, y.length ≤ 1048576) (h9 : l9.length ≤ 1048576) (h10 : l10.length ≤ 1048576) :
    Ev (fun k => laws_eqGame.f k a0 a1 a2 a3 l4 l5 a6 a7 l8 l9 l10 a11 a12 a13 a0 a1 a2 a3 l4 l5 a6 a7 l8 l9 l10 a11 a12 a13) true := by
  simp only [laws_eqGame.f]
  refine Ev.bind (laws_eqRules_ev a0 a1 a2 a3 l4 l5 a6 a7 h4 h5) ?_
  simp only [↓reduceIte]
  refine Ev.bind (laws_eqIntSS_ev l8 h8 hm) ?_
  simp only [↓reduceIte]
  refine Ev.bind (laws_eqIntS_ev l9 (by omega)) ?_
  simp only [↓reduceIte]
  refine Ev.bind (laws_eqIntS_ev l10 (by omega)) ?_
  exact ev_of_eq fun k => by simp only [↓reduceIte]

/-- The pure statement. -/
def FnExactChoiceOf_Stmt : Prop := ∀ (a0_0_0 : Int) (a0_0_1 : Int) (a0_0_2 : Bool) (a0_0_3 : Bool) (a0_0_4 : (List Int)) (a0_0_5 : (List Int)) (a0_0_6 : Int) (a0_0_7 : Int) (a0_1 : (List (List Int))) (a0_2 : (List Int)) (a0_3 : (List Int)) (a0_4 : Int) (a0_5 : Int) (a0_6 : Int) (a1 : Int), (Lit.int .i64 a0_0_0).wf = true → (Lit.int .i64 a0_0_1).wf = true → a0_0_4.length ≤ maxLen → (∀ y ∈ a0_0_4, (Lit.int .i64 y).wf = true) → a0_0_5.length ≤ maxLen → (∀ y ∈ a0_0_5, (Lit.int .i64 y).wf = true) → (Lit.int .i64 a0_0_6).wf = true → (Lit.int .i64 a0_0_7).wf = true → a0_1.length ≤ maxLen → (∀ y ∈ a0_1, y.length ≤ maxLen ∧ ∀ y22 ∈ y, (Lit.int .i64 y22).wf = true) → a0_2.length ≤ maxLen → (∀ y ∈ a0_2, (Lit.int .i64 y).wf = true) → a0_3.length ≤ maxLen → (∀ y ∈ a0_3, (Lit.int .i64 y).wf = true) → (Lit.int .i64 a0_4).wf = true → (Lit.int .i64 a0_5).wf = true → (Lit.int .i64 a0_6).wf = true → (Lit.int .i64 a1).wf = true → ∃ k, laws_FnExactChoiceOf.f k a0_0_0 a0_0_1 a0_0_2 a0_0_3 a0_0_4 a0_0_5 a0_0_6 a0_0_7 a0_1 a0_2 a0_3 a0_4 a0_5 a0_6 a1 = some true
-- uses: LibM
theorem FnExactChoiceOf : FnExactChoiceOf_Stmt := by
  intro a0 a1 a2 a3 l4 l5 a6 a7 l8 l9 l10 a11 a12 a13 kind _ _ m4 _ m5 _ _ _ m8 mm m9 _ m10 _ _ _ _ _
  refine Ev.rounds (g := fun k => laws_FnExactChoiceOf.f k a0 a1 a2 a3 l4 l5 a6 a7 l8 l9 l10 a11 a12 a13 kind) ?_
  simp only [laws_FnExactChoiceOf.f]
  obtain ⟨v, e, z⟩ := laws_szGame_ev a0 a1 a2 a3 l4 l5 a6 a7 l8 l9 l10 a11 a12 a13 1048576 m4 m5 m8 (fun y hy => (mm y hy).1) m9 m10 (by omega) (by omega)
  refine Ev.bind e ?_
  rcases z with z | ⟨z0, z1, s4, s5, s8, sm, s9, s10⟩
  · exact ev_of_eq fun k => by simp only [z, ↓reduceIte]
  have n : ¬ v < 0 := by omega
  simp only [n, ↓reduceIte]
  refine Ev.bind (laws_toGame_ev a0 a1 a2 a3 l4 l5 a6 a7 l8 l9 l10 a11 a12 a13 s4 s5 s8 sm s9 s10) ?_
  refine Ev.bind (spec_ChoiceOf_ev a0 a1 a2 a3 l4 l5 a6 a7 l8 l9 l10 a11 a12 a13 kind s4 s5 s8 sm s9 s10) ?_
  refine Ev.bind (impl_ChoiceOf_ev a0 a1 a2 a3 l4 l5 a6 a7 l8 l9 l10 a11 a12 a13 kind s4 s5 s8 sm s9 s10) ?_
  refine Ev.bind (laws_eqGame_ev a0 a1 a2 a3 l4 l5 a6 a7 l8 l9 l10 a11 a12 a13 s4 s5 s8 sm s9 s10) ?_
  exact ev_of_eq fun k => by simp only [↓reduceIte, and_self]

end Go.Proofs.Ytdfmobcocaijpaa.Pure
