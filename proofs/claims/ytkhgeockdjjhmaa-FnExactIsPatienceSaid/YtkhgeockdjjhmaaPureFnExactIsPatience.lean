/- The program's IsPatience answers what the reference's answers, for all arguments. No condition but those that the statement itself names. -/
import Derived.Test.YtkhgeockdjjhmaaQFnExactIsPatiencex4
import Derived.Test.YtkhgeockdjjhmaaLib
namespace Go.Proofs.Ytkhgeockdjjhmaa.Pure
open Go.RowKit Go.Proofs.Ytkhgeockdjjhmaa.QFnExactIsPatience Go.Proofs.YtkhgeockdjjhmaaW.PrintWords Go.Proofs.YtkhgeockdjjhmaaW.PrintLast Go.Proofs.YtkhgeockdjjhmaaW.PrintMore Go.Proofs.Ytkhgeockdjjhmaa.Lib
set_option linter.unusedVariables false
set_option linter.unusedSimpArgs false

/-! laws_szIntS -/
theorem laws_szIntS_f (l : List Int) (a : Int) (hl : l.length ≤ maxLen) (ha : 0 ≤ a) (ha2 : a ≤ 1048576) : ∃ v, laws_szIntS.f l a = some v ∧ (v < 0 ∨ (0 ≤ v ∧ v ≤ a ∧ l.length ≤ 1048576)) := by
  unfold maxLen at hl
  unfold laws_szIntS.f
  rw [w64 (by omega) (by omega)]
  by_cases h : (l.length : Int) ≤ a
  · exact ⟨_, if_neg (by omega), .inr (by omega)⟩
  · exact ⟨_, if_pos (by omega), .inl (by omega)⟩

/-! laws_szPile -/
theorem laws_szPile_f (l : List Int) (h a : Int) (hl : l.length ≤ maxLen) (ha : 0 ≤ a) (ha2 : a ≤ 1048576) : ∃ v, laws_szPile.f l h a = some v ∧ (v < 0 ∨ (0 ≤ v ∧ v ≤ a ∧ l.length ≤ 1048576)) := by
  unfold laws_szPile.f
  obtain ⟨v, e, h⟩ := laws_szIntS_f l a hl ha ha2
  simp only [e, Option.bind_some]
  rcases h with h | h
  · exact ⟨_, if_pos h, .inl (by omega)⟩
  · exact ⟨_, if_neg (by omega), .inr h⟩

/-! laws_szPileS -/
theorem laws_szPileS_ev (l : List S131) (a : Int) (hl : l.length ≤ maxLen) (hm : ∀ y ∈ l, y.f0.length ≤ maxLen) (ha : 0 ≤ a) (ha2 : a ≤ 1048576) : ∃ v, Ev (fun k => laws_szPileS.f k l a) v ∧ (v < 0 ∨ (0 ≤ v ∧ v ≤ a ∧ l.length ≤ 1048576 ∧ ∀ y ∈ l, y.f0.length ≤ 1048576)) := by
  unfold maxLen at hl
  simp only [laws_szPileS.f]
  rw [w64 (by omega) (by omega)]
  by_cases c : a - (l.length : Int) < 0
  · exact ⟨-1, ev_of_eq fun k => by simp only [c, ↓reduceIte], Or.inl (by omega)⟩
  · simp only [c, ↓reduceIte]
    have H : ∀ b, 0 ≤ b → b ≤ 1048576 → ∃ v, Ev (fun k => laws_szPileS.l0 k l b 0) v ∧ (v < 0 ∨ (0 ≤ v ∧ v ≤ b ∧ ∀ y ∈ l, y.f0.length ≤ 1048576)) := by
      refine loop_of l z131 (by omega) (P := fun i rest => ∀ b, 0 ≤ b → b ≤ 1048576 → ∃ v, Ev (fun k => laws_szPileS.l0 k l b i) v ∧ (v < 0 ∨ (0 ≤ v ∧ v ≤ b ∧ ∀ y ∈ rest, y.f0.length ≤ 1048576))) ?_ ?_
      · intro b h0 h1
        exact ⟨b, ev_succ (ev_of_eq fun k => by simp only [laws_szPileS.l0, Int.lt_irrefl, ↓reduceIte]), Or.inr ⟨h0, by omega, by simp⟩⟩
      · intro i x rest h0 h1 hx hmem hw ih b hb0 hb1
        have hx' : rd_T131 l i = x := hx
        obtain ⟨v, e, hv⟩ := laws_szPile_f x.f0 x.f1 b (hm x hmem) hb0 hb1
        rcases hv with hv | ⟨v0, v1, vl⟩
        · exact ⟨-1, ev_succ (ev_of_eq fun k => by simp only [laws_szPileS.l0, h1, h0, hx', e, Option.bind_some, hv, ↓reduceIte]), Or.inl (by omega)⟩
        · obtain ⟨u, eu, hu⟩ := ih v v0 (by omega)
          have nv : ¬ v < 0 := by omega
          refine ⟨u, ev_succ ?_, ?_⟩
          · simp only [laws_szPileS.l0, h1, h0, hx', e, Option.bind_some, nv, hw, ↓reduceIte]
            exact eu
          · rcases hu with hu | ⟨u0, u1, ul⟩
            · exact Or.inl hu
            · refine Or.inr ⟨u0, by omega, fun y hy => ?_⟩
              rcases List.mem_cons.mp hy with hy | hy
              · rw [hy]; exact vl
              · exact ul y hy
    obtain ⟨v, e, hv⟩ := H (a - l.length) (by omega) (by omega)
    exact ⟨v, e, hv.imp id (fun h => ⟨h.1, by omega, by omega, h.2.2⟩)⟩

/-! laws_szPatience -/
theorem laws_szPatience_ev (l0 : List S131) (l1 l2 l3 : List Int) (hl : l0.length ≤ maxLen) (hm : ∀ y ∈ l0, y.f0.length ≤ maxLen) (h1 : l1.length ≤ maxLen) (h2 : l2.length ≤ maxLen) (h3 : l3.length ≤ maxLen) :
    ∃ v, Ev (fun k => laws_szPatience.f k l0 l1 l2 l3 1048576) v ∧ (v < 0 ∨ (0 ≤ v ∧ l0.length ≤ 1048576 ∧ (∀ y ∈ l0, y.f0.length ≤ 1048576) ∧ l1.length ≤ 1048576 ∧ l2.length ≤ 1048576 ∧ l3.length ≤ 1048576)) := by
  simp only [laws_szPatience.f]
  obtain ⟨v, e, hv⟩ := laws_szPileS_ev l0 1048576 hl hm (by omega) (by omega)
  rcases hv with hv | ⟨v0, v1, b0, b1⟩
  · exact ⟨-1, Ev.bind e (ev_of_eq fun k => by simp only [hv, ↓reduceIte]), Or.inl (by omega)⟩
  have n0 : ¬ v < 0 := by omega
  obtain ⟨u, eu, hu⟩ := laws_szIntS_f l1 v h1 v0 (by omega)
  rcases hu with hu | ⟨u0, u1, c1⟩
  · exact ⟨-1, Ev.bind e (ev_of_eq fun k => by simp only [n0, eu, Option.bind_some, hu, ↓reduceIte]), Or.inl (by omega)⟩
  have n1 : ¬ u < 0 := by omega
  obtain ⟨t, et, ht⟩ := laws_szIntS_f l2 u h2 u0 (by omega)
  rcases ht with ht | ⟨t0, t1, c2⟩
  · exact ⟨-1, Ev.bind e (ev_of_eq fun k => by simp only [n0, n1, eu, et, Option.bind_some, ht, ↓reduceIte]), Or.inl (by omega)⟩
  have n2 : ¬ t < 0 := by omega
  obtain ⟨s, es, hs⟩ := laws_szIntS_f l3 t h3 t0 (by omega)
  rcases hs with hs | ⟨s0, s1, c3⟩
  · exact ⟨-1, Ev.bind e (ev_of_eq fun k => by simp only [n0, n1, n2, eu, et, es, Option.bind_some, hs, ↓reduceIte]), Or.inl (by omega)⟩
  have n3 : ¬ s < 0 := by omega
  exact ⟨s, Ev.bind e (ev_of_eq fun k => by simp only [n0, n1, n2, n3, eu, et, es, Option.bind_some, ↓reduceIte]), Or.inr ⟨s0, b0, b1, c1, c2, c3⟩⟩

/-! spec_l1In -/
theorem spec_l1In_f (a b c : Int) : spec_l1In.f a b c = some (decide (b ≤ a ∧ a ≤ c)) := by
  unfold spec_l1In.f
  by_cases h : b ≤ a <;> simp [h]

/-! spec_IsCard -/
theorem spec_IsCard_f (a : Int) : spec_IsCard.f a = some (isCardM a) := by
  unfold spec_IsCard.f
  rw [spec_l1In_f]
  rfl

/-! spec_HasCard -/
theorem spec_HasCard_ev (l : List Int) (c : Int) (hl : l.length ≤ 1099511627776) : Ev (fun k => spec_HasCard.f k l c) (l.contains c) := by
  simp only [spec_HasCard.f]
  refine loop_int l hl (P := fun i rest => Ev (fun k => spec_HasCard.l0 k l c i) (rest.contains c)) ?_ ?_
  · refine ev_succ (ev_of_eq fun k => ?_)
    simp only [spec_HasCard.l0, Int.lt_irrefl, ↓reduceIte, List.contains_nil]
  · intro i x rest h0 h1 hx _ hw ih
    refine ev_succ ?_
    simp only [spec_HasCard.l0, h1, h0, ↓reduceIte, hx, hw]
    by_cases h : x = c
    · refine ev_of_eq fun k => ?_
      simp [h]
    · have h' : ¬ c = x := fun e => h e.symm
      simp only [h, ↓reduceIte]
      refine ev_eq ih ?_
      simp [h']

/-! spec_IsHand -/
theorem spec_IsHand_ev (l : List Int) (hl : l.length ≤ 1099511627776) : Ev (fun k => spec_IsHand.f k l) (isHandM l) := by
  simp only [spec_IsHand.f, isHandM]
  refine loop_int_pre l hl (P := fun i pre rest => Ev (fun k => spec_IsHand.l0 k l i) (handP pre rest)) ?_ ?_
  · refine ev_succ (ev_of_eq fun k => ?_)
    simp only [spec_IsHand.l0, Int.lt_irrefl, ↓reduceIte, handP]
  · intro i pre x rest hl' hi h0 h1 hx hw ih
    refine ev_succ ?_
    have h2 : i ≤ (l.length : Int) := by omega
    have ht : l.take i.toNat = pre := by
      rw [hl', hi, Int.toNat_natCast]
      simp
    simp only [spec_IsHand.l0, h1, h0, h2, ↓reduceIte, hx, hw, ht, spec_IsCard_f, Option.bind_some, handP]
    cases hc : isCardM x
    · refine ev_of_eq fun k => ?_
      simp
    · simp only [↓reduceIte, Bool.true_and]
      refine Ev.bind (spec_HasCard_ev pre x (by rw [hl'] at hl; simp at hl; omega)) ?_
      cases hp : pre.contains x
      · simp only [Bool.false_eq_true, ↓reduceIte, Bool.not_false, Bool.true_and]
        exact ih
      · refine ev_of_eq fun k => ?_
        simp

/-! spec_IsBase -/
theorem spec_IsBase_ev (l : List Int) (hl : l.length ≤ 1099511627776) : Ev (fun k => spec_IsBase.f k l) (isBaseM l) := by
  simp only [spec_IsBase.f, isBaseM]
  have := loop_int l hl (P := fun i rest => Ev (fun k => spec_IsBase.l0 k l i) (decide (l.length = 4) && rest.all (fun x => decide (0 ≤ x ∧ x ≤ 13)))) ?_ ?_
  · exact this
  · refine ev_succ (ev_of_eq fun k => ?_)
    simp only [spec_IsBase.l0, Int.lt_irrefl, ↓reduceIte, List.all_nil, Bool.and_true]
    congr 1
    rw [Bool.eq_iff_iff]
    simp
    omega
  · intro i x rest h0 h1 hx _ hw ih
    refine ev_succ ?_
    simp only [spec_IsBase.l0, h1, h0, ↓reduceIte, hx, hw, spec_l1In_f, Option.bind_some]
    by_cases h : 0 ≤ x ∧ x ≤ 13
    · simp only [h, and_self, decide_true, ↓reduceIte, List.all_cons, Bool.true_and]
      exact ih
    · refine ev_of_eq fun k => ?_
      simp [h]

/-! spec_SuitOf -/
theorem spec_SuitOf_f (a : Int) : spec_SuitOf.f a = some (suitM a) := by
  unfold spec_SuitOf.f
  rw [spec_IsCard_f]
  unfold suitM isCardM
  by_cases h : 0 ≤ a ∧ a ≤ 51
  · simp [h, tdiv13 a h.1 h.2]
  · simp [h]

/-! spec_RankOf -/
theorem spec_RankOf_f (a : Int) : spec_RankOf.f a = some (rankM a) := by
  unfold spec_RankOf.f
  rw [spec_IsCard_f]
  unfold rankM isCardM
  by_cases h : 0 ≤ a ∧ a ≤ 51
  · simp [h, tmod13 a h.1]
  · simp [h]

/-! spec_StepOf -/
theorem spec_StepOf_f (a : Int) : spec_StepOf.f a = some (stepM a) := by
  unfold spec_StepOf.f
  simp only [spec_RankOf_f, spec_IsCard_f, Option.bind_some]
  unfold stepM rankM
  by_cases h : 0 ≤ a ∧ a ≤ 51
  · have e : Int.tmod (wrap64 (a % 13 + 1)) 13 = (a % 13 + 1) % 13 := by
      rw [w64 (by omega) (by omega), Int.tmod_eq_emod_of_nonneg (by omega)]
    simp only [isCardM, h, and_self, decide_true, ↓reduceIte, Option.bind_some, e]
    rw [w64 (by omega) (by omega)]
  · simp [h, isCardM]

/-! spec_BaseCards -/
theorem spec_BaseCards_ev (l : List Int) (hl : l.length ≤ 1099511627776) : Ev (fun k => spec_BaseCards.f k l) (baseCardsM l) := by
  simp only [spec_BaseCards.f, baseCardsM]
  by_cases hb : isBaseM l = true
  · have h3 := isBaseM_len hb
    simp only [hb, ↓reduceIte]
    suffices H : ∀ (n : Nat) (out : List Int) (c : Int), 0 ≤ c → c + n = 52 → out.length ≤ c → Ev (fun k => spec_BaseCards.l0 k l out c) (out ++ baseF l n c) by
      simpa using H 52 [] 0 (by omega) (by omega) (by simp)
    intro n
    induction n with
    | zero =>
      intro out c h0 h1 h2
      have e : ¬ c < 52 := by omega
      refine ev_succ (ev_succ (ev_of_eq fun k => ?_))
      simp only [spec_BaseCards.l0, e, ↓reduceIte, spec_BaseCards.j1, Bool.false_eq_true, baseF, List.append_nil]
    | succ n ih =>
      intro out c h0 h1 h2
      have e : c < 52 := by omega
      have e1 : 0 ≤ suitM c := (suitM_nonneg c).2 (by omega)
      have e2 : suitM c < (l.length : Int) := by have := suitM_range c; omega
      have e3 : out.length < 17592186044416 := by omega
      have e4 : wrap64 (c + 1) = c + 1 := w64 (by omega) (by omega)
      refine ev_succ ?_
      simp only [spec_BaseCards.l0, e, ↓reduceIte]
      refine Ev.bind (spec_IsBase_ev l hl) ?_
      rw [hb]
      refine ev_succ ?_
      simp only [spec_BaseCards.j1, spec_StepOf_f, spec_SuitOf_f, Option.bind_some, e1, e2, e3, e4, ↓reduceIte, baseF, inBaseM]
      by_cases g : stepM c ≤ rd l (suitM c)
      · simp only [g, ↓reduceIte, decide_true]
        have := ih (out ++ [c]) (c + 1) (by omega) (by omega) (by simp; omega)
        simpa using this
      · simp only [g, ↓reduceIte, decide_false, Bool.false_eq_true]
        exact ih out (c + 1) (by omega) (by omega) (by omega)
  · simp only [hb, Bool.false_eq_true, ↓reduceIte]
    refine ev_succ ?_
    have e : (0 : Int) < 52 := by omega
    simp only [spec_BaseCards.l0, e, ↓reduceIte]
    refine Ev.bind (spec_IsBase_ev l hl) ?_
    refine ev_succ (ev_of_eq fun k => ?_)
    simp only [spec_BaseCards.j1, hb, Bool.false_eq_true, ↓reduceIte]

/-! spec_IsRed -/
theorem spec_IsRed_f (c : Int) : spec_IsRed.f c = some (isRedM c) := by
  simp only [spec_IsRed.f, spec_SuitOf_f, spec_l1In_f, Option.bind_some, isRedM]

/-! spec_l16Step -/
theorem spec_l16Step_f (a b : Int) : spec_l16Step.f a b = some (goesM a b) := by
  have := rankM_range b
  simp only [spec_l16Step.f, spec_RankOf_f, spec_IsRed_f, Option.bind_some, goesM]
  rw [w64 (by omega) (by omega)]
  by_cases h : rankM a = rankM b + 1
  · simp [h]
  · simp [h]

/-! spec_IsPile -/
theorem spec_IsPile_ev (l : List Int) (h : Int) (hl : l.length ≤ 1048576) : Ev (fun k => spec_IsPile.f k l h) (isPileM l h) := by
  simp only [spec_IsPile.f, spec_l1In_f, Option.bind_some, isPileM]
  refine Ev.bind (spec_IsHand_ev l (by omega)) ?_
  cases hh : isHandM l
  · refine ev_succ (ev_of_eq fun k => ?_)
    simp [spec_IsPile.j0]
  · simp only [↓reduceIte, Bool.true_and]
    refine ev_succ ?_
    by_cases hr : 0 ≤ h ∧ h ≤ (l.length : Int)
    · simp only [spec_IsPile.j0, hr, and_self, decide_true, Bool.not_true, Bool.false_eq_true, ↓reduceIte, Bool.true_and]
      rw [w64 (n := h + 1) (by omega) (by omega)]
      suffices H : ∀ (n : Nat) (i : Int), 1 ≤ i → n = ((l.length : Int) - i).toNat → i ≤ (l.length : Int) + 1 → Ev (fun k => spec_IsPile.l0 k i l h) (pileF l n i) from H _ _ (by omega) rfl (by omega)
      intro n
      induction n with
      | zero =>
        intro i h1 hn h2
        have e : ¬ i < (l.length : Int) := by omega
        refine ev_succ (ev_of_eq fun k => ?_)
        simp only [spec_IsPile.l0, e, ↓reduceIte, pileF]
      | succ n ih =>
        intro i h1 hn h2
        have e1 : i < (l.length : Int) := by omega
        have e2 : wrap64 (i - 1) = i - 1 := w64 (by omega) (by omega)
        have e3 : wrap64 (i + 1) = i + 1 := w64 (by omega) (by omega)
        have e4 : 0 ≤ i - 1 := by omega
        have e5 : i - 1 < (l.length : Int) := by omega
        have e6 : 0 ≤ i := by omega
        refine ev_succ ?_
        simp only [spec_IsPile.l0, e1, e2, e3, e4, e5, e6, ↓reduceIte, spec_l16Step_f, Option.bind_some, pileF]
        cases goesM (rd l (i - 1)) (rd l i)
        · exact Ev.now _
        · simp only [↓reduceIte, Bool.true_and]
          exact ih _ (by omega) (by omega) (by omega)
    · refine ev_of_eq fun k => ?_
      simp [spec_IsPile.j0, hr]

/-! spec_IsPatience -/
theorem baseCardsM_len (l : List Int) : (baseCardsM l).length ≤ 52 := by
  unfold baseCardsM
  by_cases c : isBaseM l = true
  · rw [if_pos c]; exact baseF_len l 52 0
  · rw [if_neg c]; exact Nat.zero_le _
def pilesOk : List S116 → Bool
  | [] => true
  | p :: r => isPileM p.f0 p.f1 && (!(decide ((p.f0.length : Int) > 0) && decide (p.f1 = (p.f0.length : Int))) && pilesOk r)
def catF : List S116 → List Int
  | [] => []
  | p :: r => p.f0 ++ catF r
def spWhole (l : List Int) : Bool := isHandM l && ((l.length : Int) == 52)
def patienceM (ps : List S116) (b s w : List Int) : Bool := decide (1 ≤ ps.length ∧ ps.length ≤ 7) && (isBaseM b && (pilesOk ps && spWhole (baseCardsM b ++ s ++ w ++ catF ps)))
theorem spec_IsPatience_l0 (ps : List S116) (b s w : List Int) (hl : ps.length ≤ 7) (hm : ∀ y ∈ ps, y.f0.length ≤ 1048576) (acc : List Int) (ha : acc.length ≤ 8388608) :
    Ev (fun k => spec_IsPatience.l0 k acc 0 ps b s w) (pilesOk ps && spWhole (acc ++ catF ps)) := by
  suffices H : ∀ acc : List Int, (acc.length : Int) ≤ 8388608 + 0 * 1048576 → Ev (fun k => spec_IsPatience.l0 k acc 0 ps b s w) (pilesOk ps && spWhole (acc ++ catF ps)) from H acc (by omega)
  refine loop_of ps z116 (by omega) (P := fun i rest => ∀ acc : List Int, (acc.length : Int) ≤ 8388608 + i * 1048576 → Ev (fun k => spec_IsPatience.l0 k acc i ps b s w) (pilesOk rest && spWhole (acc ++ catF rest))) ?_ ?_
  · intro acc hacc
    refine ev_succ ?_
    simp only [spec_IsPatience.l0, Int.lt_irrefl, ↓reduceIte, pilesOk, catF, List.append_nil, Bool.true_and, spWhole]
    refine Ev.bind (spec_IsHand_ev acc (by omega)) ?_
    refine ev_of_eq fun k => ?_
    cases isHandM acc <;> rfl
  · intro i x rest h0 h1 hx hmem hw ih acc hacc
    have hx' : rd_T116 ps i = x := hx
    have hxl := hm x hmem
    refine ev_succ ?_
    simp only [spec_IsPatience.l0, h1, h0, hx', ↓reduceIte, hw, pilesOk, catF]
    refine Ev.bind (spec_IsPile_ev x.f0 x.f1 hxl) ?_
    cases hp : isPileM x.f0 x.f1
    · exact ev_of_eq fun k => by simp only [Bool.false_eq_true, ↓reduceIte, Bool.false_and]
    · have hal : acc.length + x.f0.length < 17592186044416 := by omega
      have step := ih (acc ++ x.f0) (by simp; omega)
      rw [List.append_assoc] at step
      by_cases c : (x.f0.length : Int) > 0
      · by_cases c2 : x.f1 = (x.f0.length : Int)
        · exact ev_of_eq fun k => by simp only [c, c2, ↓reduceIte, decide_true, Bool.and_self, Bool.not_true, Bool.false_and, Bool.and_false]
        · simp only [c, c2, hal, ↓reduceIte, decide_true, decide_false, Bool.and_false, Bool.not_false, Bool.true_and]
          exact step
      · simp only [c, hal, ↓reduceIte, decide_false, Bool.false_and, Bool.not_false, Bool.true_and]
        exact step
theorem spec_IsPatience_ev (ps : List S116) (b s w : List Int) (hm : ∀ y ∈ ps, y.f0.length ≤ 1048576) (h1 : b.length ≤ 1048576) (h2 : s.length ≤ 1048576) (h3 : w.length ≤ 1048576) :
    Ev (fun k => spec_IsPatience.f k ps b s w) (patienceM ps b s w) := by
  simp only [spec_IsPatience.f, spec_l1In_f, Option.bind_some, patienceM]
  by_cases c : 1 ≤ ps.length ∧ ps.length ≤ 7
  · have c' : (1 : Int) ≤ (ps.length : Int) ∧ (ps.length : Int) ≤ 7 := by omega
    simp only [c, c', and_self, decide_true, ↓reduceIte, Bool.true_and]
    refine Ev.bind (spec_IsBase_ev b (by omega)) ?_
    refine ev_succ ?_
    cases hb : isBaseM b
    · exact ev_of_eq fun k => by simp only [spec_IsPatience.j0, Bool.not_false, ↓reduceIte, Bool.false_and]
    · simp only [spec_IsPatience.j0, Bool.not_true, Bool.false_eq_true, ↓reduceIte, Bool.true_and]
      refine Ev.bind (spec_BaseCards_ev b (by omega)) ?_
      have hbl := baseCardsM_len b
      have g1 : (baseCardsM b).length + s.length < 17592186044416 := by omega
      have g2 : (baseCardsM b ++ s).length + w.length < 17592186044416 := by simp; omega
      simp only [g1, g2, Option.bind_some, ↓reduceIte]
      exact spec_IsPatience_l0 ps b s w c.2 hm _ (by simp; omega)
  · have c' : ¬ ((1 : Int) ≤ (ps.length : Int) ∧ (ps.length : Int) ≤ 7) := by omega
    simp only [c, c', decide_false, Bool.false_eq_true, ↓reduceIte, Bool.false_and]
    exact ev_succ (ev_of_eq fun k => by simp only [spec_IsPatience.j0, ↓reduceIte])

/-! laws_toIntS -/
theorem laws_toIntS_ev (l : List Int) (hl : l.length ≤ 1099511627776) : Ev (fun k => laws_toIntS.f k l) l := by
  have e1 : (0 : Int) ≤ (l.length : Int) := by omega
  have e2 : ((l.length : Int) : Int).toNat ≤ 35184372088832 := by omega
  simp only [laws_toIntS.f, e1, e2, ↓reduceIte]
  refine loop_int_pre l hl (P := fun i pre rest => Ev (fun k => laws_toIntS.l0 k l (pre ++ List.replicate rest.length 0) i) l) ?_ ?_
  · refine ev_succ (ev_of_eq fun k => ?_)
    simp only [laws_toIntS.l0, Int.lt_irrefl, ↓reduceIte, List.length_nil, List.replicate_zero, List.append_nil]
  · intro i pre x rest hl' hi h0 h1 hx hw ih
    refine ev_succ ?_
    have h2 : i < ((pre ++ List.replicate (x :: rest).length 0 : List Int).length : Int) := by simp; omega
    simp only [laws_toIntS.l0, h1, h0, h2, ↓reduceIte, hx, hw]
    rw [List.length_cons, List.replicate_succ, set_mid pre _ i hi]
    exact ih

/-! laws_toPile -/
theorem laws_toPile_ev (l : List Int) (h : Int) (hl : l.length ≤ 1048576) : Ev (fun k => laws_toPile.f k l h) (l, h) := by
  simp only [laws_toPile.f]
  exact Ev.bind (laws_toIntS_ev l (by omega)) (Ev.now _)

/-! laws_toPileS -/
def toPs (l : List S131) : List S116 := l.map (fun y => ⟨y.f0, y.f1⟩)
theorem laws_toPileS_ev (l : List S131) (hl : l.length ≤ 1048576) (hm : ∀ y ∈ l, y.f0.length ≤ 1048576) : Ev (fun k => laws_toPileS.f k l) (toPs l) := by
  have e1 : (0 : Int) ≤ (l.length : Int) := by omega
  have e2 : ((l.length : Int) : Int).toNat ≤ 8796093022208 := by omega
  simp only [laws_toPileS.f, e1, e2, ↓reduceIte]
  refine loop_pre l z131 (by omega) (P := fun i pre rest => Ev (fun k => laws_toPileS.l0 k l (toPs pre ++ List.replicate rest.length z116) i) (toPs l)) ?_ ?_
  · refine ev_succ (ev_of_eq fun k => ?_)
    simp only [laws_toPileS.l0, Int.lt_irrefl, ↓reduceIte, List.length_nil, List.replicate_zero, List.append_nil]
  · intro i pre x rest hl' hi h0 h1 hx hw ih
    have hx' : rd_T131 l i = x := hx
    have hp : (toPs pre).length = pre.length := by simp [toPs]
    refine ev_succ ?_
    have h2 : i < ((toPs pre ++ List.replicate (x :: rest).length z116).length : Int) := by simp [hp]; omega
    simp only [laws_toPileS.l0, h1, h0, h2, ↓reduceIte, hx', hw]
    refine Ev.bind (laws_toPile_ev x.f0 x.f1 (hm x (by rw [hl']; simp))) ?_
    rw [List.length_cons, List.replicate_succ, set_mid (toPs pre) _ i (by omega)]
    have : toPs pre ++ [(⟨x.f0, x.f1⟩ : S116)] = toPs (pre ++ [x]) := by simp [toPs]
    rw [this]
    exact ih
theorem toPs_len (l : List S131) : (toPs l).length = l.length := by simp [toPs]
theorem toPs_small (l : List S131) (hm : ∀ y ∈ l, y.f0.length ≤ 1048576) : ∀ y ∈ toPs l, y.f0.length ≤ 1048576 := by
  intro y hy
  obtain ⟨x, hx, rfl⟩ := List.mem_map.mp hy
  exact hm x hx

/-! laws_toPatience -/
theorem laws_toPatience_ev (l0 : List S131) (l1 l2 l3 : List Int) (hl : l0.length ≤ 1048576) (hm : ∀ y ∈ l0, y.f0.length ≤ 1048576) (h1 : l1.length ≤ 1048576) (h2 : l2.length ≤ 1048576) (h3 : l3.length ≤ 1048576) :
    Ev (fun k => laws_toPatience.f k l0 l1 l2 l3) (toPs l0, l1, l2, l3) := by
  simp only [laws_toPatience.f]
  exact Ev.bind (laws_toPileS_ev l0 hl hm) (Ev.bind (laws_toIntS_ev l1 (by omega)) (Ev.bind (laws_toIntS_ev l2 (by omega)) (Ev.bind (laws_toIntS_ev l3 (by omega)) (Ev.now _))))

/-! impl_InRange -/
theorem impl_InRange_f (a b c : Int) : impl_InRange.f a b c = some (decide (b ≤ a ∧ a ≤ c)) := by
  unfold impl_InRange.f
  by_cases h : b ≤ a <;> simp [h]

/-! impl_IsCard -/
theorem impl_IsCard_f (a : Int) : impl_IsCard.f a = some (isCardM a) := by
  unfold impl_IsCard.f
  rw [impl_InRange_f]
  rfl

/-! impl_IsHand -/
theorem impl_IsHand_f (l : List Int) : impl_IsHand.f l = some (isHandM l) := by
  suffices H : ∀ (rest pre : List Int) (seen : List Bool), seen.length = 52 → (∀ c : Int, 0 ≤ c → c ≤ 51 → seen.getD c.toNat false = pre.contains c) → impl_IsHand.handF seen rest = handP pre rest by
    unfold impl_IsHand.f isHandM
    rw [H l [] _ List.length_replicate (fun c h0 h1 => by rw [getD_replicate_false]; rfl)]
  intro rest
  induction rest with
  | nil => intro pre seen _ _; cases seen <;> rfl
  | cons x rest ih =>
    intro pre seen hs hp
    unfold impl_IsHand.handF handP isCardM
    by_cases h : 0 ≤ x ∧ x ≤ 51
    · simp only [h, and_self, ↓reduceIte, decide_true, Bool.true_and, hp x h.1 h.2]
      cases hc : pre.contains x
      · simp only [Bool.false_eq_true, ↓reduceIte, Bool.not_false, Bool.true_and]
        refine ih _ _ (by simp [hs]) (fun c h0 h1 => ?_)
        by_cases e : c = x
        · subst e
          have : c.toNat < seen.length := by omega
          simp [List.getD_eq_getElem?_getD, List.getElem?_set, this]
        · have e' : ¬ x.toNat = c.toNat := by omega
          have := hp c h0 h1
          simp only [List.getD_eq_getElem?_getD] at this ⊢
          rw [List.getElem?_set_ne e', this]
          simp [e]
      · simp
    · simp [h]

/-! impl_AllApart -/
theorem impl_AllApart_ev (rows : List (List Int)) (hl : rows.length ≤ 16) (hm : ∀ r ∈ rows, r.length ≤ 1048576) : Ev (fun k => impl_AllApart.f k rows) (isHandM rows.flatten) := by
  simp only [impl_AllApart.f]
  suffices H : ∀ acc : List Int, (acc.length : Int) ≤ 0 * 1048576 → Ev (fun k => impl_AllApart.l0 k acc rows (rows.length : Int) 0) (isHandM (acc ++ rows.flatten)) from H [] (by simp)
  refine loop_of rows [] (by omega) (P := fun i rest => ∀ acc : List Int, (acc.length : Int) ≤ i * 1048576 → Ev (fun k => impl_AllApart.l0 k acc rows (rows.length : Int) i) (isHandM (acc ++ rest.flatten))) ?_ ?_
  · intro acc _
    refine ev_succ (ev_of_eq fun k => ?_)
    simp only [impl_AllApart.l0, Int.lt_irrefl, ↓reduceIte, List.flatten_nil, List.append_nil, impl_IsHand_f, Option.bind_some]
  · intro i x rest h0 h1 hx hmem hw ih acc hacc
    have hx' : rd_L1 rows i = x := hx
    have hxl := hm x hmem
    have g : acc.length + x.length < 17592186044416 := by omega
    refine ev_succ ?_
    simp only [impl_AllApart.l0, h1, h0, hx', g, hw, ↓reduceIte, List.flatten_cons]
    have step := ih (acc ++ x) (by simp; omega)
    rw [List.append_assoc] at step
    exact step

/-! impl_TotalCards -/
theorem impl_TotalCards_ev (rows : List (List Int)) (hl : rows.length ≤ 16) (hm : ∀ r ∈ rows, r.length ≤ 1048576) : Ev (fun k => impl_TotalCards.f k rows) (rows.flatten.length : Int) := by
  simp only [impl_TotalCards.f]
  suffices H : ∀ t : Int, 0 ≤ t → t ≤ 0 * 1048576 → Ev (fun k => impl_TotalCards.l0 k t rows (rows.length : Int) 0) (t + (rows.flatten.length : Int)) by simpa using H 0 (by omega) (by omega)
  refine loop_of rows [] (by omega) (P := fun i rest => ∀ t : Int, 0 ≤ t → t ≤ i * 1048576 → Ev (fun k => impl_TotalCards.l0 k t rows (rows.length : Int) i) (t + (rest.flatten.length : Int))) ?_ ?_
  · intro t _ _
    refine ev_succ (ev_of_eq fun k => ?_)
    simp only [impl_TotalCards.l0, Int.lt_irrefl, ↓reduceIte, List.flatten_nil, List.length_nil]
    simp
  · intro i x rest h0 h1 hx hmem hw ih t ht0 ht1
    have hx' : rd_L1 rows i = x := hx
    have hxl := hm x hmem
    refine ev_succ ?_
    simp only [impl_TotalCards.l0, h1, h0, hx', hw, ↓reduceIte, List.flatten_cons, List.length_append]
    rw [w64 (by omega) (by omega)]
    exact ev_eq (ih (t + x.length) (by omega) (by omega)) (by omega)

/-! impl_isWhole -/
theorem impl_isWhole_ev (rows : List (List Int)) (hl : rows.length ≤ 16) (hm : ∀ r ∈ rows, r.length ≤ 1048576) : Ev (fun k => impl_isWhole.f k rows) (isHandM rows.flatten && ((rows.flatten.length : Int) == 52)) := by
  simp only [impl_isWhole.f]
  refine Ev.bind (impl_AllApart_ev rows hl hm) ?_
  cases isHandM rows.flatten
  · exact ev_of_eq fun k => by simp only [Bool.false_eq_true, ↓reduceIte, Bool.false_and]
  · simp only [↓reduceIte, Bool.true_and]
    exact Ev.bind (impl_TotalCards_ev rows hl hm) (Ev.now _)

/-! impl_allIn -/
theorem impl_allIn_ev (l : List Int) (hl : l.length ≤ 1099511627776) (a b : Int) : Ev (fun k => impl_allIn.f k l a b) (l.all (fun x => decide (a ≤ x ∧ x ≤ b))) := by
  simp only [impl_allIn.f]
  refine loop_int l hl (P := fun i rest => Ev (fun k => impl_allIn.l0 k a b l (l.length : Int) i) (rest.all (fun x => decide (a ≤ x ∧ x ≤ b)))) ?_ ?_
  · refine ev_succ (ev_of_eq fun k => ?_)
    simp only [impl_allIn.l0, Int.lt_irrefl, ↓reduceIte, List.all_nil]
  · intro i x rest h0 h1 hx _ hw ih
    refine ev_succ ?_
    simp only [impl_allIn.l0, h1, h0, ↓reduceIte, hx, hw, impl_InRange_f, Option.bind_some]
    by_cases h : a ≤ x ∧ x ≤ b
    · simp only [h, and_self, decide_true, ↓reduceIte, List.all_cons, Bool.true_and]
      exact ih
    · refine ev_of_eq fun k => ?_
      simp [h]

/-! impl_IsBase -/
theorem impl_IsBase_ev (l : List Int) (hl : l.length ≤ 1099511627776) : Ev (fun k => impl_IsBase.f k l) (isBaseM l) := by
  simp only [impl_IsBase.f, isBaseM]
  by_cases h : l.length = 4
  · have h' : (l.length : Int) = 4 := by omega
    simp only [h', h, ↓reduceIte, decide_true, Bool.true_and]
    exact Ev.bind (impl_allIn_ev l hl 0 13) (Ev.now _)
  · have h' : ¬ (l.length : Int) = 4 := by omega
    refine ev_of_eq fun k => ?_
    simp [h, h']

/-! impl_SuitOf -/
theorem impl_SuitOf_f (a : Int) : impl_SuitOf.f a = some (suitM a) := by
  unfold impl_SuitOf.f
  rw [impl_IsCard_f]
  unfold suitM isCardM
  by_cases h : 0 ≤ a ∧ a ≤ 51
  · simp [h, tdiv13 a h.1 h.2]
  · simp [h]

/-! impl_RankOf -/
theorem impl_RankOf_f (a : Int) : impl_RankOf.f a = some (rankM a) := by
  unfold impl_RankOf.f
  rw [impl_IsCard_f]
  unfold rankM isCardM
  by_cases h : 0 ≤ a ∧ a ≤ 51
  · simp [h, tmod13 a h.1]
  · simp [h]

/-! impl_StepOf -/
theorem impl_StepOf_f (a : Int) : impl_StepOf.f a = some (stepM a) := by
  unfold impl_StepOf.f
  simp only [impl_RankOf_f, Option.bind_some]
  unfold stepM rankM
  by_cases h : 0 ≤ a ∧ a ≤ 51
  · simp only [h, and_self, ↓reduceIte]
    by_cases e : a % 13 = 12
    · simp [e]
    · have e1 : ¬ a % 13 = -1 := by omega
      simp only [e, e1, ↓reduceIte]
      rw [w64 (by omega) (by omega)]
      congr 1
      omega
  · simp [h]

/-! impl_BaseCards -/
theorem impl_BaseCards_ev (l : List Int) (hl : l.length ≤ 1099511627776) : Ev (fun k => impl_BaseCards.f k l) (baseCardsM l) := by
  simp only [impl_BaseCards.f, baseCardsM]
  refine Ev.bind (impl_IsBase_ev l hl) ?_
  by_cases hb : isBaseM l = true
  · have h3 := isBaseM_len hb
    simp only [hb, ↓reduceIte]
    suffices H : ∀ (n : Nat) (out : List Int) (c : Int), 0 ≤ c → c + n = 52 → out.length ≤ c → Ev (fun k => impl_BaseCards.l0 k l out c) (out ++ baseF l n c) by
      simpa using H 52 [] 0 (by omega) (by omega) (by simp)
    intro n
    induction n with
    | zero =>
      intro out c h0 h1 h2
      have e : ¬ c < 52 := by omega
      refine ev_succ (ev_of_eq fun k => ?_)
      simp only [impl_BaseCards.l0, e, ↓reduceIte, baseF, List.append_nil]
    | succ n ih =>
      intro out c h0 h1 h2
      have e : c < 52 := by omega
      have e1 : 0 ≤ suitM c := (suitM_nonneg c).2 (by omega)
      have e2 : suitM c < (l.length : Int) := by have := suitM_range c; omega
      have e3 : out.length < 17592186044416 := by omega
      have e4 : wrap64 (c + 1) = c + 1 := w64 (by omega) (by omega)
      refine ev_succ ?_
      simp only [impl_BaseCards.l0, e, ↓reduceIte, impl_StepOf_f, impl_SuitOf_f, Option.bind_some, e1, e2, e3, e4, baseF, inBaseM]
      by_cases g : stepM c ≤ rd l (suitM c)
      · simp only [g, ↓reduceIte, decide_true]
        have := ih (out ++ [c]) (c + 1) (by omega) (by omega) (by simp; omega)
        simpa using this
      · simp only [g, ↓reduceIte, decide_false, Bool.false_eq_true]
        exact ih out (c + 1) (by omega) (by omega) (by omega)
  · simp only [hb, Bool.false_eq_true, ↓reduceIte]
    exact Ev.now _

/-! impl_IsRed -/
theorem impl_IsRed_f (c : Int) : impl_IsRed.f c = some (isRedM c) := by
  simp only [impl_IsRed.f, impl_SuitOf_f, Option.bind_some, isRedM]
  by_cases h : suitM c = 1
  · simp [h]
  · simp only [h, ↓reduceIte]
    congr 1
    rw [Bool.eq_iff_iff]
    simp
    omega

/-! impl_goesOn -/
theorem impl_goesOn_f (a b : Int) : impl_goesOn.f a b = some (goesM a b) := by
  have := rankM_range a
  simp only [impl_goesOn.f, impl_RankOf_f, impl_IsRed_f, Option.bind_some, goesM]
  rw [w64 (by omega) (by omega)]
  by_cases h : rankM a = rankM b + 1
  · have h' : rankM b = rankM a - 1 := by omega
    rw [if_pos h', decide_eq_true h]
    cases isRedM a <;> cases isRedM b <;> rfl
  · have h' : ¬ rankM b = rankM a - 1 := by omega
    simp [h, h']

/-! impl_IsPile -/
theorem impl_IsPile_ev (l : List Int) (h : Int) (hl : l.length ≤ 1048576) : Ev (fun k => impl_IsPile.f k l h) (isPileM l h) := by
  simp only [impl_IsPile.f, impl_InRange_f, Option.bind_some, isPileM]
  simp only [impl_IsHand_f, Option.bind_some]
  cases hh : isHandM l
  · refine ev_succ (ev_of_eq fun k => ?_)
    simp [impl_IsPile.j0]
  · simp only [↓reduceIte, Bool.true_and]
    refine ev_succ ?_
    by_cases hr : 0 ≤ h ∧ h ≤ (l.length : Int)
    · simp only [impl_IsPile.j0, hr, and_self, decide_true, Bool.not_true, Bool.false_eq_true, ↓reduceIte, Bool.true_and]
      rw [w64 (n := h + 1) (by omega) (by omega)]
      suffices H : ∀ (n : Nat) (i : Int), 1 ≤ i → n = ((l.length : Int) - i).toNat → i ≤ (l.length : Int) + 1 → Ev (fun k => impl_IsPile.l0 k i l h) (pileF l n i) from H _ _ (by omega) rfl (by omega)
      intro n
      induction n with
      | zero =>
        intro i h1 hn h2
        have e : ¬ i < (l.length : Int) := by omega
        refine ev_succ (ev_of_eq fun k => ?_)
        simp only [impl_IsPile.l0, e, ↓reduceIte, pileF]
      | succ n ih =>
        intro i h1 hn h2
        have e1 : i < (l.length : Int) := by omega
        have e2 : wrap64 (i - 1) = i - 1 := w64 (by omega) (by omega)
        have e3 : wrap64 (i + 1) = i + 1 := w64 (by omega) (by omega)
        have e4 : 0 ≤ i - 1 := by omega
        have e5 : i - 1 < (l.length : Int) := by omega
        have e6 : 0 ≤ i := by omega
        refine ev_succ ?_
        simp only [impl_IsPile.l0, e1, e2, e3, e4, e5, e6, ↓reduceIte, impl_goesOn_f, Option.bind_some, pileF]
        cases goesM (rd l (i - 1)) (rd l i)
        · exact Ev.now _
        · simp only [↓reduceIte, Bool.true_and]
          exact ih _ (by omega) (by omega) (by omega)
    · refine ev_of_eq fun k => ?_
      simp [impl_IsPile.j0, hr]

/-! impl_OpenCards -/
theorem impl_OpenCards_ev (l : List Int) (h : Int) (hl : l.length ≤ 1048576) : Ev (fun k => impl_OpenCards.f k l h) (openM l h) := by
  simp only [impl_OpenCards.f, openM]
  refine Ev.bind (impl_IsPile_ev l h hl) ?_
  cases hp : isPileM l h
  · exact Ev.now _
  · have hr : 0 ≤ h ∧ h ≤ (l.length : Int) := by
      unfold isPileM at hp
      simp only [Bool.and_eq_true, decide_eq_true_eq] at hp
      exact hp.2.1
    simp only [↓reduceIte]
    rw [w64 (by omega) (by omega)]
    exact Ev.now _

/-! impl_IsPatience -/
theorem handP_iff : ∀ (l pre : List Int), handP pre l = true ↔ (∀ x ∈ l, 0 ≤ x ∧ x ≤ 51) ∧ l.Nodup ∧ ∀ x ∈ l, x ∉ pre := by
  intro l
  induction l with
  | nil => intro pre; unfold handP; simp
  | cons x l ih =>
    intro pre
    unfold handP
    rw [Bool.and_eq_true, Bool.and_eq_true, ih (pre ++ [x]), List.nodup_cons]
    unfold isCardM
    simp only [decide_eq_true_eq, Bool.not_eq_true', List.contains_eq_mem, decide_eq_false_iff_not, List.mem_cons, List.mem_append, List.mem_singleton, forall_eq_or_imp, List.not_mem_nil, or_false, not_or]
    constructor
    · rintro ⟨h1, h2, h3, h4, h5⟩
      exact ⟨⟨h1, h3⟩, ⟨fun hx => (h5 x hx).2 rfl, h4⟩, h2, fun y hy => (h5 y hy).1⟩
    · rintro ⟨⟨h1, h3⟩, ⟨hx, h4⟩, h2, h5⟩
      exact ⟨h1, h2, h3, h4, fun y hy => ⟨h5 y hy, fun e => hx (e ▸ hy)⟩⟩
theorem isHandM_perm {l l' : List Int} (h : l.Perm l') : isHandM l = isHandM l' := by
  unfold isHandM
  rw [Bool.eq_iff_iff, handP_iff, handP_iff, h.nodup_iff]
  simp only [h.mem_iff]
theorem spWhole_perm {l l' : List Int} (h : l.Perm l') : spWhole l = spWhole l' := by
  unfold spWhole
  rw [isHandM_perm h, h.length_eq]
theorem impl_IsPatience_l0 (ps : List S116) (hl : ps.length ≤ 7) (hm : ∀ y ∈ ps, y.f0.length ≤ 1048576) (rows : List (List Int)) (h3 : rows.length = 3) (hr : ∀ r ∈ rows, r.length ≤ 1048576) :
    Ev (fun k => impl_IsPatience.l0 k rows ps (ps.length : Int) 0) (pilesOk ps && spWhole (rows.flatten ++ catF ps)) := by
  suffices H : ∀ rows : List (List Int), (rows.length : Int) = 3 + 0 → (∀ r ∈ rows, r.length ≤ 1048576) → Ev (fun k => impl_IsPatience.l0 k rows ps (ps.length : Int) 0) (pilesOk ps && spWhole (rows.flatten ++ catF ps)) from H rows (by omega) hr
  refine loop_of ps z116 (by omega) (P := fun i rest => ∀ rows : List (List Int), (rows.length : Int) = 3 + i → (∀ r ∈ rows, r.length ≤ 1048576) → Ev (fun k => impl_IsPatience.l0 k rows ps (ps.length : Int) i) (pilesOk rest && spWhole (rows.flatten ++ catF rest))) ?_ ?_
  · intro rows h3 hr
    refine ev_succ ?_
    simp only [impl_IsPatience.l0, Int.lt_irrefl, ↓reduceIte, pilesOk, catF, List.append_nil, Bool.true_and, spWhole]
    exact Ev.bind (impl_isWhole_ev rows (by omega) hr) (Ev.now _)
  · intro i x rest h0 h1 hx hmem hw ih rows h3 hr
    have hx' : rd_T116 ps i = x := hx
    have hxl := hm x hmem
    refine ev_succ ?_
    simp only [impl_IsPatience.l0, h1, h0, hx', ↓reduceIte, hw, pilesOk, catF]
    refine Ev.bind (impl_IsPile_ev x.f0 x.f1 hxl) ?_
    cases hp : isPileM x.f0 x.f1
    · exact ev_of_eq fun k => by simp only [Bool.false_eq_true, ↓reduceIte, Bool.false_and]
    · have g : rows.length < 5864062014805 := by omega
      have step := ih (rows ++ [x.f0]) (by simp; omega) (by
        intro r hr2
        rcases List.mem_append.mp hr2 with hr2 | hr2
        · exact hr r hr2
        · rw [List.mem_singleton] at hr2; rw [hr2]; exact hxl)
      rw [List.flatten_append, List.flatten_singleton, List.append_assoc] at step
      by_cases c : (x.f0.length : Int) > 0
      · simp only [c, ↓reduceIte, decide_true, Bool.true_and]
        refine Ev.bind (impl_OpenCards_ev x.f0 x.f1 hxl) ?_
        have ho : openM x.f0 x.f1 = (x.f0.length : Int) - x.f1 := by unfold openM; rw [if_pos hp]
        rw [ho]
        by_cases c2 : x.f1 = (x.f0.length : Int)
        · have c3 : (x.f0.length : Int) - x.f1 = 0 := by omega
          exact ev_of_eq fun k => by simp only [c2, Int.sub_self, ↓reduceIte, decide_true, Bool.not_true, Bool.false_and, Bool.and_false]
        · have c3 : ¬ (x.f0.length : Int) - x.f1 = 0 := by omega
          simp only [c2, c3, g, ↓reduceIte, decide_false, Bool.not_false, Bool.true_and]
          exact step
      · simp only [c, g, ↓reduceIte, decide_false, Bool.false_and, Bool.not_false, Bool.true_and]
        exact step
theorem impl_IsPatience_ev (ps : List S116) (b s w : List Int) (hm : ∀ y ∈ ps, y.f0.length ≤ 1048576) (h1 : b.length ≤ 1048576) (h2 : s.length ≤ 1048576) (h3 : w.length ≤ 1048576) :
    Ev (fun k => impl_IsPatience.f k ps b s w) (patienceM ps b s w) := by
  simp only [impl_IsPatience.f, impl_InRange_f, Option.bind_some, patienceM]
  by_cases c : 1 ≤ ps.length ∧ ps.length ≤ 7
  · have c' : (1 : Int) ≤ (ps.length : Int) ∧ (ps.length : Int) ≤ 7 := by omega
    simp only [c, c', and_self, decide_true, ↓reduceIte, Bool.true_and]
    refine Ev.bind (impl_IsBase_ev b (by omega)) ?_
    refine ev_succ ?_
    cases hb : isBaseM b
    · exact ev_of_eq fun k => by simp only [impl_IsPatience.j0, Bool.not_false, ↓reduceIte, Bool.false_and]
    · simp only [impl_IsPatience.j0, Bool.not_true, Bool.false_eq_true, ↓reduceIte, Bool.true_and]
      refine Ev.bind (impl_BaseCards_ev b (by omega)) ?_
      have hbl := baseCardsM_len b
      refine ev_eq (impl_IsPatience_l0 ps c.2 hm [s, w, baseCardsM b] rfl ?_) ?_
      · intro r hr
        simp only [List.mem_cons, List.not_mem_nil, or_false] at hr
        rcases hr with hr | hr | hr <;> rw [hr] <;> omega
      · congr 1
        refine spWhole_perm (List.Perm.append_right _ ?_)
        simp only [List.flatten_cons, List.flatten_nil, List.append_nil]
        rw [← List.append_assoc s w, List.append_assoc (baseCardsM b) s w]
        exact List.perm_append_comm
  · have c' : ¬ ((1 : Int) ≤ (ps.length : Int) ∧ (ps.length : Int) ≤ 7) := by omega
    simp only [c, c', decide_false, Bool.false_eq_true, ↓reduceIte, Bool.false_and]
    exact ev_succ (ev_of_eq fun k => by simp only [impl_IsPatience.j0, ↓reduceIte])

/-! laws_eqIntS -/
theorem laws_eqIntS_ev (l : List Int) (hl : l.length ≤ 1099511627776) : Ev (fun k => laws_eqIntS.f k l l) true := by
  simp only [laws_eqIntS.f, ↓reduceIte]
  refine loop_int l hl (P := fun i _ => Ev (fun k => laws_eqIntS.l0 k l l i) true) ?_ ?_
  · refine ev_succ (ev_of_eq fun k => ?_)
    simp only [laws_eqIntS.l0, Int.lt_irrefl, ↓reduceIte]
  · intro i x rest h0 h1 hx _ hw ih
    refine ev_succ ?_
    simp only [laws_eqIntS.l0, h1, h0, ↓reduceIte, hw]
    exact ih

/-! laws_eqPile -/
theorem laws_eqPile_ev (l : List Int) (h : Int) (hl : l.length ≤ 1048576) : Ev (fun k => laws_eqPile.f k l h l h) true := by
  simp only [laws_eqPile.f, ↓reduceIte]
  refine Ev.bind (laws_eqIntS_ev l (by omega)) ?_
  exact ev_of_eq fun k => by simp only [↓reduceIte]

/-! laws_eqPileS -/
theorem laws_eqPileS_ev (l : List S116) (hl : l.length ≤ 1048576) (hm : ∀ y ∈ l, y.f0.length ≤ 1048576) : Ev (fun k => laws_eqPileS.f k l l) true := by
  simp only [laws_eqPileS.f, ↓reduceIte]
  refine loop_of l z116 (by omega) (P := fun i _ => Ev (fun k => laws_eqPileS.l0 k l l i) true) ?_ ?_
  · refine ev_succ (ev_of_eq fun k => ?_)
    simp only [laws_eqPileS.l0, Int.lt_irrefl, ↓reduceIte]
  · intro i x rest h0 h1 hx hmem hw ih
    have hx' : rd_T116 l i = x := hx
    refine ev_succ ?_
    simp only [laws_eqPileS.l0, h1, h0, hx', ↓reduceIte, hw]
    refine Ev.bind (laws_eqPile_ev x.f0 x.f1 (hm x hmem)) ?_
    simp only [↓reduceIte]
    exact ih

/-! laws_eqPatience -/
theorem laws_eqPatience_ev (l0 : List S116) (l1 l2 l3 : List Int) (hl : l0.length ≤ 1048576) (hm : ∀ y ∈ l0, y.f0.length ≤ 1048576) (h1 : l1.length ≤ 1048576) (h2 : l2.length ≤ 1048576) (h3 : l3.length ≤ 1048576) :
    Ev (fun k => laws_eqPatience.f k l0 l1 l2 l3 l0 l1 l2 l3) true := by
  simp only [laws_eqPatience.f]
  refine Ev.bind (laws_eqPileS_ev l0 hl hm) ?_
  simp only [↓reduceIte]
  refine Ev.bind (laws_eqIntS_ev l1 (by omega)) ?_
  simp only [↓reduceIte]
  refine Ev.bind (laws_eqIntS_ev l2 (by omega)) ?_
  simp only [↓reduceIte]
  refine Ev.bind (laws_eqIntS_ev l3 (by omega)) ?_
  exact ev_of_eq fun k => by simp only [↓reduceIte]

/-- The pure statement. -/
def FnExactIsPatience_Stmt : Prop := ∀ (a0_0 : (List S131)) (a0_1 : (List Int)) (a0_2 : (List Int)) (a0_3 : (List Int)), a0_0.length ≤ maxLen → (∀ y ∈ a0_0, (y.f0.length ≤ maxLen ∧ ∀ y24 ∈ y.f0, (Lit.int .i64 y24).wf = true) ∧ ((Lit.int .i64 y.f1).wf = true)) → a0_1.length ≤ maxLen → (∀ y ∈ a0_1, (Lit.int .i64 y).wf = true) → a0_2.length ≤ maxLen → (∀ y ∈ a0_2, (Lit.int .i64 y).wf = true) → a0_3.length ≤ maxLen → (∀ y ∈ a0_3, (Lit.int .i64 y).wf = true) → ∃ k, laws_FnExactIsPatience.f k a0_0 a0_1 a0_2 a0_3 = some true
theorem FnExactIsPatience : FnExactIsPatience_Stmt := by
  intro l0 l1 l2 l3 m0 q0 m1 _ m2 _ m3 _
  refine Ev.rounds (g := fun k => laws_FnExactIsPatience.f k l0 l1 l2 l3) ?_
  simp only [laws_FnExactIsPatience.f]
  obtain ⟨v, e, z⟩ := laws_szPatience_ev l0 l1 l2 l3 m0 (fun y hy => (q0 y hy).1.1) m1 m2 m3
  refine Ev.bind e ?_
  rcases z with z | ⟨z0, s0, s00, s1, s2, s3⟩
  · exact ev_of_eq fun k => by simp only [z, ↓reduceIte]
  have n : ¬ v < 0 := by omega
  simp only [n, ↓reduceIte]
  have hs := toPs_small l0 s00
  have hl : (toPs l0).length ≤ 1048576 := by rw [toPs_len]; exact s0
  refine Ev.bind (laws_toPatience_ev l0 l1 l2 l3 s0 s00 s1 s2 s3) ?_
  refine Ev.bind (spec_IsPatience_ev (toPs l0) l1 l2 l3 hs s1 s2 s3) ?_
  refine Ev.bind (laws_toPatience_ev l0 l1 l2 l3 s0 s00 s1 s2 s3) ?_
  refine Ev.bind (impl_IsPatience_ev (toPs l0) l1 l2 l3 hs s1 s2 s3) ?_
  simp only [bne_self_eq_false, Bool.false_eq_true, ↓reduceIte]
  refine Ev.bind (laws_toPatience_ev l0 l1 l2 l3 s0 s00 s1 s2 s3) ?_
  refine Ev.bind (laws_eqPatience_ev (toPs l0) l1 l2 l3 hl hs s1 s2 s3) ?_
  exact ev_of_eq fun k => by simp only [↓reduceIte]

end Go.Proofs.Ytkhgeockdjjhmaa.Pure
