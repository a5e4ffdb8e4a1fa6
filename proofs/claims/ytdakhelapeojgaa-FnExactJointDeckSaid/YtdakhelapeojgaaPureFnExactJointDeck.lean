/- The program's JointDeck answers what the reference's answers, for all arguments. No condition but those that the statement itself names. -/
import Derived.Test.YtdakhelapeojgaaQFnExactJointDeckx2
import Derived.Test.YtdakhelapeojgaaLib
namespace Go.Proofs.Ytdakhelapeojgaa.Pure
open Go.RowKit Go.Proofs.Ytdakhelapeojgaa.QFnExactJointDeck Go.Proofs.YtdakhelapeojgaaW.PrintWords Go.Proofs.YtdakhelapeojgaaW.PrintLast Go.Proofs.YtdakhelapeojgaaW.PrintMore Go.Proofs.Ytdakhelapeojgaa.Lib
set_option linter.unusedVariables false
set_option linter.unusedSimpArgs false

/-! laws_toIntS -/
theorem laws_toIntS_ev (l : List Int) (hl : l.length ≤ 1099511627776) : Ev (fun k => laws_toIntS.f k l) l := by
  have e1 : (0 : Int) ≤ (l.length : Int) := by omega
  have e2 : ((l.length : Int) : Int).toNat ≤ 35184372088832 := by omega
  simp only [laws_toIntS.f, e1, e2, ↓reduceIte]
  refine loop_int_pre l hl (P := fun i pre rest => Ev (fun k => laws_toIntS.l0 k l (pre ++ List.replicate rest.length 0) i) l) ?_ ?_
  · refine ev_succ (ev_of_eq fun k => ?_)
    simp only [laws_toIntS.l0, Int.lt_irrefl, ↓reduceIte, List.length_nil, List.replicate_zero, List.append_nil]
  · intro i pre x rest hl' hi h0 h1 hx hw ih
    refine ev_succ ?_
    have h2 : i < ((pre ++ List.replicate (x :: rest).length 0 : List Int).length : Int) := by simp; omega
    simp only [laws_toIntS.l0, h1, h0, h2, ↓reduceIte, hx, hw]
    rw [List.length_cons, List.replicate_succ, set_mid pre _ i hi]
    exact ih

/-! laws_eqIntS -/
theorem laws_eqIntS_ev (l : List Int) (hl : l.length ≤ 1099511627776) : Ev (fun k => laws_eqIntS.f k l l) true := by
  simp only [laws_eqIntS.f, ↓reduceIte]
  refine loop_int l hl (P := fun i _ => Ev (fun k => laws_eqIntS.l0 k l l i) true) ?_ ?_
  · refine ev_succ (ev_of_eq fun k => ?_)
    simp only [laws_eqIntS.l0, Int.lt_irrefl, ↓reduceIte]
  · intro i x rest h0 h1 hx _ hw ih
    refine ev_succ ?_
    simp only [laws_eqIntS.l0, h1, h0, ↓reduceIte, hw]
    exact ih

/-! laws_markIntS -/
theorem laws_markIntS_ev (l : List Int) (hl : l.length ≤ 1099511627776) (a : Int) (ha : 0 ≤ a) (ha2 : a ≤ 4611686018427387904) : Ev (fun k => laws_markIntS.f k l a) (a + l.length, (List.range l.length).map fun j : Nat => a + (j : Int)) := by
  simp only [laws_markIntS.f]
  suffices H : ∀ (n : Nat) (pre rest : List Int) (i : Int), i = pre.length → rest.length = n → (pre ++ rest).length = l.length → Ev (fun k => laws_markIntS.l0 k (pre ++ rest) (a + i) i) (a + l.length, pre ++ (List.range n).map fun j : Nat => a + i + (j : Int)) by
    have := H l.length [] l 0 rfl rfl rfl
    simpa using this
  intro n
  induction n with
  | zero =>
    intro pre rest i hi hr ht
    obtain rfl : rest = [] := List.eq_nil_of_length_eq_zero hr
    refine ev_succ (ev_of_eq fun k => ?_)
    have e : i = (l.length : Int) := by simp at ht; omega
    have e2 : ¬ i < ((pre ++ [] : List Int).length : Int) := by simp; omega
    simp only [laws_markIntS.l0, e2, ↓reduceIte]
    simp [e]
  | succ n ih =>
    intro pre rest i hi hr ht
    obtain ⟨x, rest, rfl⟩ : ∃ x r, rest = x :: r := by cases rest with | nil => simp at hr | cons x r => exact ⟨x, r, rfl⟩
    have h1 : i < ((pre ++ x :: rest : List Int).length : Int) := by simp; omega
    have h0 : 0 ≤ i := by omega
    have hb : i + 1 ≤ (l.length : Int) := by rw [← ht]; omega
    refine ev_succ ?_
    simp only [laws_markIntS.l0, h1, h0, ↓reduceIte]
    rw [set_mid pre rest i hi, w64 (n := a + i + 1) (by omega) (by omega), w64 (n := i + 1) (by omega) (by omega)]
    have := ih (pre ++ [a + i]) rest (i + 1) (by simp; omega) (by simpa using hr) (by simpa using ht)
    rw [show a + (i + 1) = a + i + 1 by omega] at this
    refine ev_eq this ?_
    rw [List.range_succ_eq_map]
    simp [Function.comp_def]
    intro j _
    omega

/-! laws_heldIntS -/
theorem laws_heldIntS_ev (n : Nat) (hl : n ≤ 1099511627776) (a : Int) (ha : 0 ≤ a) (ha2 : a ≤ 4611686018427387904) : Ev (fun k => laws_heldIntS.f k ((List.range n).map fun j : Nat => a + (j : Int)) a) (a + n) := by
  simp only [laws_heldIntS.f]
  have hlen : ((List.range n).map fun j : Nat => a + (j : Int)).length = n := by simp
  have hget : ∀ i : Int, 0 ≤ i → i < (n : Int) → rd ((List.range n).map fun j : Nat => a + (j : Int)) i = a + i := by
    intro i h0 h1
    have : i.toNat < n := by omega
    unfold rd
    simp [List.getD_eq_getElem?_getD, this]
    omega
  generalize (List.range n).map (fun j : Nat => a + (j : Int)) = l at *
  subst hlen
  have := loop_up l.length hl (P := fun i m => Ev (fun k => laws_heldIntS.l0 k l (a + i) i) (a + l.length)) ?_ ?_
  · simpa using this
  · refine ev_succ (ev_of_eq fun k => ?_)
    simp only [laws_heldIntS.l0, Int.lt_irrefl, ↓reduceIte]
  · intro i m h0 h1 _ hw ih
    refine ev_succ ?_
    simp only [laws_heldIntS.l0, h1, h0, ↓reduceIte, hget i h0 h1, hw]
    rw [w64 (n := a + i + 1) (by omega) (by omega), show a + i + 1 = a + (i + 1) by omega]
    exact ih

/-! spec_l1In -/
theorem spec_l1In_f (a b c : Int) : spec_l1In.f a b c = some (decide (b ≤ a ∧ a ≤ c)) := by
  unfold spec_l1In.f
  by_cases h : b ≤ a <;> simp [h]

/-! spec_Mod -/
theorem spec_Mod_f (a b : Int) : spec_Mod.f a b = some (modM a b) := by
  unfold spec_Mod.f
  rw [spec_l1In_f]
  unfold modM
  by_cases h : 1 ≤ b ∧ b ≤ 1000000000000
  · have : ¬ b = 0 := by omega
    simp [h, this]
  · simp [h]

/-! spec_Hash -/
theorem spec_Hash_ev (l : List Int) (hl : l.length ≤ 1099511627776) : Ev (fun k => spec_Hash.f k l) (hashM l) := by
  simp only [spec_Hash.f, hashM]
  refine loop_int l hl (P := fun i rest => ∀ d, Ev (fun k => spec_Hash.l0 k l d i) (rest.foldl hashStep d)) ?_ ?_ 11
  · intro d
    refine ev_succ (ev_of_eq fun k => ?_)
    simp only [spec_Hash.l0, Int.lt_irrefl, ↓reduceIte, List.foldl_nil]
  · intro i x rest h0 h1 hx _ hw ih d
    refine ev_succ ?_
    simp only [spec_Hash.l0, h1, h0, ↓reduceIte, hx, hw, spec_Mod_f, Option.bind_some]
    exact ih _

/-! spec_SeedSeal -/
theorem spec_SeedSeal_ev (a b c : Int) : Ev (fun k => spec_SeedSeal.f k a b c) (hashM [a, b, c]) := by
  simp only [spec_SeedSeal.f]
  exact Ev.bind (spec_Hash_ev [a, b, c] (by simp)) (Ev.now _)

/-! spec_IsOpened -/
theorem spec_IsOpened_ev (a b c d : Int) : Ev (fun k => spec_IsOpened.f k a b c d) (decide (0 ≤ b ∧ b ≤ 1000000) && decide (0 ≤ c ∧ c ≤ 1000000) && (hashM [a, b, c] == d)) := by
  simp only [spec_IsOpened.f, spec_l1In_f, Option.bind_some]
  by_cases h1 : 0 ≤ b ∧ b ≤ 1000000
  · by_cases h2 : 0 ≤ c ∧ c ≤ 1000000
    · simp only [h1, h2, and_self, decide_true, ↓reduceIte, Bool.true_and]
      exact Ev.bind (spec_SeedSeal_ev a b c) (Ev.now _)
    · refine ev_of_eq fun k => ?_
      simp [h1, h2]
  · refine ev_of_eq fun k => ?_
    simp [h1]

/-! spec_AreOpened -/
theorem spec_AreOpened_ev (a b c : List Int) : Ev (fun k => spec_AreOpened.f k a b c) (areOpenedM a b c) := by
  simp only [spec_AreOpened.f, spec_l1In_f, Option.bind_some, areOpenedM]
  by_cases h1 : 1 ≤ a.length ∧ a.length ≤ 6
  · have h1' : (1 : Int) ≤ (a.length : Int) ∧ (a.length : Int) ≤ 6 := by omega
    by_cases h2 : b.length = a.length
    · have h2' : (b.length : Int) = (a.length : Int) := by omega
      refine ev_eq (r := decide (c.length = a.length) && openF b c 0 a) ?_ (by simp [h1, h2])
      simp only [h1', h2', and_self, decide_true, ↓reduceIte]
      refine ev_succ ?_
      by_cases h3 : c.length = a.length
      · have h3' : ((c.length : Int) != (a.length : Int)) = false := by simp [h3]
        refine ev_eq (r := openF b c 0 a) ?_ (by simp [h3])
        simp only [spec_AreOpened.j0, h3', Bool.false_eq_true, ↓reduceIte]
        refine loop_int a (by omega) (P := fun i rest => Ev (fun k => (spec_AreOpened.l0 k a b c i)) (openF b c i rest)) ?_ ?_
        · refine ev_succ (ev_of_eq fun k => ?_)
          simp only [spec_AreOpened.l0, Int.lt_irrefl, ↓reduceIte, openF]
        · intro i x rest h0 h4 hx _ hw ih
          refine ev_succ ?_
          have h5 : i < (b.length : Int) := by omega
          have h6 : i < (c.length : Int) := by omega
          simp only [spec_AreOpened.l0, h4, h0, h5, h6, ↓reduceIte, hx, hw, openF]
          refine Ev.bind (spec_IsOpened_ev _ _ _ _) ?_
          cases decide (0 ≤ rd b i ∧ rd b i ≤ 1000000) && decide (0 ≤ rd c i ∧ rd c i ≤ 1000000) && (hashM [i, rd b i, rd c i] == x)
          · simp only [Bool.false_eq_true, ↓reduceIte, Bool.false_and]
            exact Ev.now _
          · simp only [↓reduceIte, Bool.true_and]
            exact ih
      · have h3' : ((c.length : Int) != (a.length : Int)) = true := by simp; omega
        refine ev_of_eq fun k => ?_
        simp only [spec_AreOpened.j0, h3', ↓reduceIte, h3, decide_false, Bool.false_and]
    · have h2' : ¬ (b.length : Int) = (a.length : Int) := by omega
      refine ev_succ (ev_of_eq fun k => ?_)
      simp only [h1', h2', and_self, decide_true, ↓reduceIte, spec_AreOpened.j0]
      simp [h2]
  · have h1' : ¬ ((1 : Int) ≤ (a.length : Int) ∧ (a.length : Int) ≤ 6) := by omega
    refine ev_succ (ev_of_eq fun k => ?_)
    simp only [h1', decide_false, Bool.false_eq_true, ↓reduceIte, spec_AreOpened.j0, h1, Bool.false_and]

/-! spec_Shuffled -/
theorem spec_Shuffled_ev (l : List Int) (seed : Int) (hl : l.length ≤ 1048576) : Ev (fun k => spec_Shuffled.f k l seed) (shuffledM l seed) := by
  have h : ([] : List Int).length + l.length < 17592186044416 := by simp; omega
  simp only [spec_Shuffled.f, Option.bind_some, h, ↓reduceIte, List.nil_append, shuffledM]
  have stop : ∀ (i : Int) (x : List Int), i ≤ 0 → Ev (fun k => spec_Shuffled.l0 k seed x i) x := by
    intro i x hi
    have e0 : ¬ i > 0 := by omega
    refine ev_succ (ev_of_eq fun k => ?_)
    simp only [spec_Shuffled.l0, e0, ↓reduceIte]
  by_cases hz : l.length = 0
  · rw [w64 (by omega) (by omega)]
    have : shufF seed (l.length - 1) l = l := by rw [hz]; rfl
    rw [this]
    exact stop _ _ (by omega)
  · rw [show wrap64 ((l.length : Int) - 1) = ((l.length - 1 : Nat) : Int) by rw [w64 (by omega) (by omega)]; omega]
    suffices H : ∀ (n : Nat) (x : List Int), x.length = l.length → n < l.length → Ev (fun k => spec_Shuffled.l0 k seed x (n : Int)) (shufF seed n x) from H _ l rfl (by omega)
    intro n
    induction n with
    | zero => intro x hx hn; exact stop _ _ (by omega)
    | succ n ih =>
      intro x hx hn
      have e1 : (n : Int) + 1 > 0 := by omega
      have e2 : wrap64 ((n : Int) + 1 + 1) = (n : Int) + 1 + 1 := w64 (by omega) (by omega)
      have e3 : wrap64 ((n : Int) + 1 - 1) = (n : Int) := by rw [w64 (by omega) (by omega)]; omega
      have hm := modM_range (hashM [seed, (n : Int) + 1]) ((n : Int) + 1 + 1) (by omega) (by omega)
      have e4 : (0 : Int) ≤ (n : Int) + 1 := by omega
      have e5 : (n : Int) + 1 < (x.length : Int) := by omega
      have e6 : modM (hashM [seed, (n : Int) + 1]) ((n : Int) + 1 + 1) < (x.length : Int) := by omega
      have e7 := hm.1
      refine ev_succ ?_
      rw [show ((n + 1 : Nat) : Int) = (n : Int) + 1 by omega]
      simp only [spec_Shuffled.l0, e1, ↓reduceIte]
      refine Ev.bind (spec_Hash_ev [seed, (n : Int) + 1] (by simp)) ?_
      simp only [spec_Mod_f, Option.bind_some, e2, e3, e4, e5, e6, e7, ↓reduceIte]
      exact ih (shufStep seed x ((n : Int) + 1)) (by rw [shufStep_length]; exact hx) (by omega)

/-! spec_HasCard -/
theorem spec_HasCard_ev (l : List Int) (c : Int) (hl : l.length ≤ 1099511627776) : Ev (fun k => spec_HasCard.f k l c) (l.contains c) := by
  simp only [spec_HasCard.f]
  refine loop_int l hl (P := fun i rest => Ev (fun k => spec_HasCard.l0 k l c i) (rest.contains c)) ?_ ?_
  · refine ev_succ (ev_of_eq fun k => ?_)
    simp only [spec_HasCard.l0, Int.lt_irrefl, ↓reduceIte, List.contains_nil]
  · intro i x rest h0 h1 hx _ hw ih
    refine ev_succ ?_
    simp only [spec_HasCard.l0, h1, h0, ↓reduceIte, hx, hw]
    by_cases h : x = c
    · refine ev_of_eq fun k => ?_
      simp [h]
    · have h' : ¬ c = x := fun e => h e.symm
      simp only [h, ↓reduceIte]
      refine ev_eq ih ?_
      simp [h']

/-! spec_Missing -/
theorem spec_Missing_ev (l : List Int) (hl : l.length ≤ 1099511627776) : Ev (fun k => spec_Missing.f k l) (missingM l) := by
  simp only [spec_Missing.f, missingM]
  suffices H : ∀ (n : Nat) (out : List Int) (c : Int), 0 ≤ c → c + n = 52 → out.length ≤ c → Ev (fun k => spec_Missing.l0 k l out c) (out ++ missF l n c) by
    simpa using H 52 [] 0 (by omega) (by omega) (by simp)
  intro n
  induction n with
  | zero =>
    intro out c h0 h1 h2
    have e : ¬ c < 52 := by omega
    refine ev_succ (ev_of_eq fun k => ?_)
    simp only [spec_Missing.l0, e, ↓reduceIte, missF, List.append_nil]
  | succ n ih =>
    intro out c h0 h1 h2
    have e : c < 52 := by omega
    have e3 : out.length < 17592186044416 := by omega
    have e4 : wrap64 (c + 1) = c + 1 := w64 (by omega) (by omega)
    refine ev_succ ?_
    simp only [spec_Missing.l0, e, ↓reduceIte, missF]
    refine Ev.bind (spec_HasCard_ev l c hl) ?_
    cases hc : l.contains c
    · simp only [Bool.false_eq_true, ↓reduceIte, e3, e4]
      have := ih (out ++ [c]) (c + 1) (by omega) (by omega) (by simp; omega)
      simpa using this
    · simp only [↓reduceIte, e4]
      exact ih out (c + 1) (by omega) (by omega) (by omega)

/-! spec_FullDeck -/
theorem spec_FullDeck_ev : Ev (fun k => spec_FullDeck.f k) (missingM []) := by
  simp only [spec_FullDeck.f]
  exact Ev.bind (spec_Missing_ev [] (by simp)) (Ev.now _)

/-! spec_JointSeed -/
theorem spec_JointSeed_ev (l : List Int) (hl : l.length ≤ 1099511627776) : Ev (fun k => spec_JointSeed.f k l) (jointM l) := by
  simp only [spec_JointSeed.f, jointM]
  refine loop_int l hl (P := fun i rest => ∀ d, Ev (fun k => spec_JointSeed.l0 k l d i) (rest.foldl jointStep d)) ?_ ?_ 0
  · intro d
    refine ev_succ (ev_of_eq fun k => ?_)
    simp only [spec_JointSeed.l0, Int.lt_irrefl, ↓reduceIte, List.foldl_nil]
  · intro i x rest h0 h1 hx _ hw ih d
    refine ev_succ ?_
    simp only [spec_JointSeed.l0, h1, h0, ↓reduceIte, hx, hw, spec_Mod_f, Option.bind_some]
    exact ih _

/-! spec_JointDeck -/
theorem spec_JointDeck_ev (a b c : List Int) (hb : b.length ≤ 1048576) : Ev (fun k => spec_JointDeck.f k a b c) (jointDeckM a b c) := by
  simp only [spec_JointDeck.f, jointDeckM]
  refine Ev.bind (spec_AreOpened_ev a b c) ?_
  cases areOpenedM a b c
  · exact Ev.now _
  · simp only [↓reduceIte]
    refine Ev.bind spec_FullDeck_ev ?_
    refine Ev.bind (spec_JointSeed_ev b (by omega)) ?_
    exact Ev.bind (spec_Shuffled_ev _ _ (by have := missingM_len []; omega)) (Ev.now _)

/-! impl_InRange -/
theorem impl_InRange_f (a b c : Int) : impl_InRange.f a b c = some (decide (b ≤ a ∧ a ≤ c)) := by
  unfold impl_InRange.f
  by_cases h : b ≤ a <;> simp [h]

/-! impl_Mod -/
theorem impl_Mod_f (a b : Int) : impl_Mod.f a b = some (modM a b) := by
  unfold impl_Mod.f
  rw [impl_InRange_f]
  unfold modM
  by_cases h : 1 ≤ b ∧ b ≤ 1000000000000
  · have : ¬ b = 0 := by omega
    simp [h, this]
  · simp [h]

/-! impl_Hash -/
theorem impl_Hash_ev (l : List Int) (hl : l.length ≤ 1099511627776) : Ev (fun k => impl_Hash.f k l) (hashM l) := by
  simp only [impl_Hash.f, hashM]
  refine loop_int l hl (P := fun i rest => ∀ d, Ev (fun k => impl_Hash.l0 k d l (l.length : Int) i) (rest.foldl hashStep d)) ?_ ?_ 11
  · intro d
    refine ev_succ (ev_of_eq fun k => ?_)
    simp only [impl_Hash.l0, Int.lt_irrefl, ↓reduceIte, List.foldl_nil]
  · intro i x rest h0 h1 hx _ hw ih d
    refine ev_succ ?_
    simp only [impl_Hash.l0, h1, h0, ↓reduceIte, hx, hw, impl_Mod_f, Option.bind_some]
    exact ih _

/-! impl_SeedSeal -/
theorem impl_SeedSeal_ev (a b c : Int) : Ev (fun k => impl_SeedSeal.f k a b c) (hashM [a, b, c]) := by
  simp only [impl_SeedSeal.f]
  exact Ev.bind (impl_Hash_ev [a, b, c] (by simp)) (Ev.now _)

/-! impl_IsOpened -/
theorem impl_IsOpened_ev (a b c d : Int) : Ev (fun k => impl_IsOpened.f k a b c d) (decide (0 ≤ b ∧ b ≤ 1000000) && decide (0 ≤ c ∧ c ≤ 1000000) && (hashM [a, b, c] == d)) := by
  simp only [impl_IsOpened.f, impl_InRange_f, Option.bind_some]
  by_cases h1 : 0 ≤ b ∧ b ≤ 1000000
  · by_cases h2 : 0 ≤ c ∧ c ≤ 1000000
    · simp only [h1, h2, and_self, decide_true, ↓reduceIte, Bool.true_and]
      exact Ev.bind (impl_SeedSeal_ev a b c) (Ev.now _)
    · refine ev_of_eq fun k => ?_
      simp [h1, h2]
  · refine ev_of_eq fun k => ?_
    simp [h1]

/-! impl_AreOpened -/
theorem impl_AreOpened_ev (a b c : List Int) : Ev (fun k => impl_AreOpened.f k a b c) (areOpenedM a b c) := by
  simp only [impl_AreOpened.f, impl_InRange_f, Option.bind_some, areOpenedM]
  by_cases h1 : 1 ≤ a.length ∧ a.length ≤ 6
  · have h1' : (1 : Int) ≤ (a.length : Int) ∧ (a.length : Int) ≤ 6 := by omega
    by_cases h2 : b.length = a.length
    · have h2' : (b.length : Int) = (a.length : Int) := by omega
      refine ev_eq (r := decide (c.length = a.length) && openF b c 0 a) ?_ (by simp [h1, h2])
      simp only [h1', h2', and_self, decide_true, ↓reduceIte]
      refine ev_succ ?_
      by_cases h3 : c.length = a.length
      · have h3' : ((c.length : Int) != (a.length : Int)) = false := by simp [h3]
        refine ev_eq (r := openF b c 0 a) ?_ (by simp [h3])
        simp only [impl_AreOpened.j0, h3', Bool.false_eq_true, ↓reduceIte]
        refine loop_int a (by omega) (P := fun i rest => Ev (fun k => (impl_AreOpened.l0 k a b c (a.length : Int) i)) (openF b c i rest)) ?_ ?_
        · refine ev_succ (ev_of_eq fun k => ?_)
          simp only [impl_AreOpened.l0, Int.lt_irrefl, ↓reduceIte, openF]
        · intro i x rest h0 h4 hx _ hw ih
          refine ev_succ ?_
          have h5 : i < (b.length : Int) := by omega
          have h6 : i < (c.length : Int) := by omega
          simp only [impl_AreOpened.l0, h4, h0, h5, h6, ↓reduceIte, hx, hw, openF]
          refine Ev.bind (impl_IsOpened_ev _ _ _ _) ?_
          cases decide (0 ≤ rd b i ∧ rd b i ≤ 1000000) && decide (0 ≤ rd c i ∧ rd c i ≤ 1000000) && (hashM [i, rd b i, rd c i] == x)
          · simp only [Bool.false_eq_true, ↓reduceIte, Bool.false_and]
            exact Ev.now _
          · simp only [↓reduceIte, Bool.true_and]
            exact ih
      · have h3' : ((c.length : Int) != (a.length : Int)) = true := by simp; omega
        refine ev_of_eq fun k => ?_
        simp only [impl_AreOpened.j0, h3', ↓reduceIte, h3, decide_false, Bool.false_and]
    · have h2' : ¬ (b.length : Int) = (a.length : Int) := by omega
      refine ev_succ (ev_of_eq fun k => ?_)
      simp only [h1', h2', and_self, decide_true, ↓reduceIte, impl_AreOpened.j0]
      simp [h2]
  · have h1' : ¬ ((1 : Int) ≤ (a.length : Int) ∧ (a.length : Int) ≤ 6) := by omega
    refine ev_succ (ev_of_eq fun k => ?_)
    simp only [h1', decide_false, Bool.false_eq_true, ↓reduceIte, impl_AreOpened.j0, h1, Bool.false_and]

/-! impl_copyOf -/
theorem impl_copyOf_f (l : List Int) (hl : l.length ≤ 1099511627776) : impl_copyOf.f l = some l := by
  have h : ([] : List Int).length + l.length < 17592186044416 := by simp; omega
  simp only [impl_copyOf.f, Option.bind_some, h, ↓reduceIte, List.nil_append]

/-! impl_Shuffled -/
theorem impl_Shuffled_ev (l : List Int) (seed : Int) (hl : l.length ≤ 1048576) : Ev (fun k => impl_Shuffled.f k l seed) (shuffledM l seed) := by
  have h : ([] : List Int).length + l.length < 17592186044416 := by simp; omega
  simp only [impl_Shuffled.f, impl_copyOf_f l (by omega), Option.bind_some, shuffledM]
  have stop : ∀ (i : Int) (x : List Int), i ≤ 0 → Ev (fun k => impl_Shuffled.l0 k seed x i) x := by
    intro i x hi
    have e0 : ¬ i ≥ 1 := by omega
    refine ev_succ (ev_of_eq fun k => ?_)
    simp only [impl_Shuffled.l0, e0, ↓reduceIte]
  by_cases hz : l.length = 0
  · rw [w64 (by omega) (by omega)]
    have : shufF seed (l.length - 1) l = l := by rw [hz]; rfl
    rw [this]
    exact stop _ _ (by omega)
  · rw [show wrap64 ((l.length : Int) - 1) = ((l.length - 1 : Nat) : Int) by rw [w64 (by omega) (by omega)]; omega]
    suffices H : ∀ (n : Nat) (x : List Int), x.length = l.length → n < l.length → Ev (fun k => impl_Shuffled.l0 k seed x (n : Int)) (shufF seed n x) from H _ l rfl (by omega)
    intro n
    induction n with
    | zero => intro x hx hn; exact stop _ _ (by omega)
    | succ n ih =>
      intro x hx hn
      have e1 : (n : Int) + 1 ≥ 1 := by omega
      have e2 : wrap64 ((n : Int) + 1 + 1) = (n : Int) + 1 + 1 := w64 (by omega) (by omega)
      have e3 : wrap64 ((n : Int) + 1 - 1) = (n : Int) := by rw [w64 (by omega) (by omega)]; omega
      have hm := modM_range (hashM [seed, (n : Int) + 1]) ((n : Int) + 1 + 1) (by omega) (by omega)
      have e4 : (0 : Int) ≤ (n : Int) + 1 := by omega
      have e5 : (n : Int) + 1 < (x.length : Int) := by omega
      have e6 : modM (hashM [seed, (n : Int) + 1]) ((n : Int) + 1 + 1) < (x.length : Int) := by omega
      have e7 := hm.1
      refine ev_succ ?_
      rw [show ((n + 1 : Nat) : Int) = (n : Int) + 1 by omega]
      simp only [impl_Shuffled.l0, e1, ↓reduceIte]
      refine Ev.bind (impl_Hash_ev [seed, (n : Int) + 1] (by simp)) ?_
      simp only [impl_Mod_f, Option.bind_some, e2, e3, e4, e5, e6, e7, ↓reduceIte]
      exact ih (shufStep seed x ((n : Int) + 1)) (by rw [shufStep_length]; exact hx) (by omega)

/-! impl_PlaceOf -/
/-- Where a number stands first, from place i on. -/
def placeF (c : Int) : Int → List Int → Int
  | _, [] => -1
  | i, x :: r => if x = c then i else placeF c (i + 1) r
theorem placeF_iff (c : Int) : ∀ (r : List Int) (i : Int), 0 ≤ i → (decide (placeF c i r ≥ 0) = r.contains c) := by
  intro r
  induction r with
  | nil => intro i h; simp [placeF]
  | cons x r ih =>
    intro i h
    unfold placeF
    by_cases e : x = c
    · simp [e, h]
    · have e' : ¬ c = x := fun g => e g.symm
      rw [if_neg e, ih (i + 1) (by omega)]
      simp [e']
theorem impl_PlaceOf_ev (l : List Int) (c : Int) (hl : l.length ≤ 1099511627776) : Ev (fun k => impl_PlaceOf.f k l c) (placeF c 0 l) := by
  simp only [impl_PlaceOf.f]
  refine loop_int l hl (P := fun i rest => Ev (fun k => impl_PlaceOf.l0 k c l (l.length : Int) i) (placeF c i rest)) ?_ ?_
  · refine ev_succ (ev_of_eq fun k => ?_)
    simp only [impl_PlaceOf.l0, Int.lt_irrefl, ↓reduceIte, placeF]
  · intro i x rest h0 h1 hx _ hw ih
    refine ev_succ ?_
    simp only [impl_PlaceOf.l0, h1, h0, ↓reduceIte, hx, hw, placeF]
    by_cases h : x = c
    · simp only [h, ↓reduceIte]
      exact Ev.now _
    · simp only [h, ↓reduceIte]
      exact ih

/-! impl_HasCard -/
theorem impl_HasCard_ev (l : List Int) (c : Int) (hl : l.length ≤ 1099511627776) : Ev (fun k => impl_HasCard.f k l c) (l.contains c) := by
  simp only [impl_HasCard.f]
  refine Ev.bind (impl_PlaceOf_ev l c hl) ?_
  rw [placeF_iff c l 0 (by omega)]
  exact Ev.now _

/-! impl_Missing -/
theorem impl_Missing_ev (l : List Int) (hl : l.length ≤ 1099511627776) : Ev (fun k => impl_Missing.f k l) (missingM l) := by
  simp only [impl_Missing.f, missingM]
  suffices H : ∀ (n : Nat) (out : List Int) (c : Int), 0 ≤ c → c + n = 52 → out.length ≤ c → Ev (fun k => impl_Missing.l0 k l out c) (out ++ missF l n c) by
    simpa using H 52 [] 0 (by omega) (by omega) (by simp)
  intro n
  induction n with
  | zero =>
    intro out c h0 h1 h2
    have e : ¬ c < 52 := by omega
    refine ev_succ (ev_of_eq fun k => ?_)
    simp only [impl_Missing.l0, e, ↓reduceIte, missF, List.append_nil]
  | succ n ih =>
    intro out c h0 h1 h2
    have e : c < 52 := by omega
    have e3 : out.length < 17592186044416 := by omega
    have e4 : wrap64 (c + 1) = c + 1 := w64 (by omega) (by omega)
    refine ev_succ ?_
    simp only [impl_Missing.l0, e, ↓reduceIte, missF]
    refine Ev.bind (impl_HasCard_ev l c hl) ?_
    cases hc : l.contains c
    · simp only [Bool.false_eq_true, ↓reduceIte, e3, e4]
      have := ih (out ++ [c]) (c + 1) (by omega) (by omega) (by simp; omega)
      simpa using this
    · simp only [↓reduceIte, e4]
      exact ih out (c + 1) (by omega) (by omega) (by omega)

/-! impl_FullDeck -/
theorem impl_FullDeck_ev : Ev (fun k => impl_FullDeck.f k) (missingM []) := by
  simp only [impl_FullDeck.f]
  exact Ev.bind (impl_Missing_ev [] (by simp)) (Ev.now _)

/-! impl_JointSeed -/
theorem impl_JointSeed_ev (l : List Int) (hl : l.length ≤ 1099511627776) : Ev (fun k => impl_JointSeed.f k l) (jointM l) := by
  simp only [impl_JointSeed.f, jointM]
  refine loop_int l hl (P := fun i rest => ∀ d, Ev (fun k => impl_JointSeed.l0 k d l (l.length : Int) i) (rest.foldl jointStep d)) ?_ ?_ 0
  · intro d
    refine ev_succ (ev_of_eq fun k => ?_)
    simp only [impl_JointSeed.l0, Int.lt_irrefl, ↓reduceIte, List.foldl_nil]
  · intro i x rest h0 h1 hx _ hw ih d
    refine ev_succ ?_
    simp only [impl_JointSeed.l0, h1, h0, ↓reduceIte, hx, hw, impl_Mod_f, Option.bind_some]
    exact ih _

/-! impl_JointDeck -/
theorem impl_JointDeck_ev (a b c : List Int) (hb : b.length ≤ 1048576) : Ev (fun k => impl_JointDeck.f k a b c) (jointDeckM a b c) := by
  simp only [impl_JointDeck.f, jointDeckM]
  refine Ev.bind (impl_AreOpened_ev a b c) ?_
  cases areOpenedM a b c
  · exact Ev.now _
  · simp only [↓reduceIte]
    refine Ev.bind impl_FullDeck_ev ?_
    refine Ev.bind (impl_JointSeed_ev b (by omega)) ?_
    exact Ev.bind (impl_Shuffled_ev _ _ (by have := missingM_len []; omega)) (Ev.now _)

theorem FnExactJointDeck : laws_FnExactJointDeck.Pure := by
  intro a b c _ _ _ _ _ _ _ _ _
  refine Ev.rounds (g := fun k => laws_FnExactJointDeck.f k a b c) ?_
  by_cases h1 : (a.length : Int) > 1048576
  · exact ev_of_eq fun k => by simp only [laws_FnExactJointDeck.f, h1, ↓reduceIte]
  by_cases h2 : (b.length : Int) > 1048576
  · exact ev_of_eq fun k => by simp only [laws_FnExactJointDeck.f, h1, h2, ↓reduceIte]
  by_cases h3 : (c.length : Int) > 1048576
  · exact ev_of_eq fun k => by simp only [laws_FnExactJointDeck.f, h1, h2, h3, ↓reduceIte]
  have ha : a.length ≤ 1099511627776 := by omega
  have hb : b.length ≤ 1099511627776 := by omega
  have hb2 : b.length ≤ 1048576 := by omega
  have hc : c.length ≤ 1099511627776 := by omega
  have hj := jointDeckM_len a b c
  have hd : (jointDeckM a b c).1.length ≤ 1099511627776 := by omega
  simp only [laws_FnExactJointDeck.f, h1, h2, h3, ↓reduceIte]
  refine Ev.bind (laws_toIntS_ev a ha) ?_
  refine Ev.bind (laws_toIntS_ev b hb) ?_
  refine Ev.bind (laws_toIntS_ev c hc) ?_
  refine Ev.bind (spec_JointDeck_ev a b c hb2) ?_
  refine Ev.bind (laws_toIntS_ev a ha) ?_
  refine Ev.bind (laws_toIntS_ev b hb) ?_
  refine Ev.bind (laws_toIntS_ev c hc) ?_
  refine Ev.bind (impl_JointDeck_ev a b c hb2) ?_
  refine Ev.bind (laws_eqIntS_ev _ hd) ?_
  simp only [↓reduceIte]
  refine ev_succ ?_
  simp only [laws_FnExactJointDeck.j0, bne_self_eq_false, Bool.false_eq_true, ↓reduceIte]
  refine Ev.bind (laws_toIntS_ev a ha) ?_
  refine Ev.bind (laws_eqIntS_ev a ha) ?_
  simp only [↓reduceIte]
  refine Ev.bind (laws_toIntS_ev b hb) ?_
  refine Ev.bind (laws_eqIntS_ev b hb) ?_
  simp only [↓reduceIte]
  refine Ev.bind (laws_toIntS_ev c hc) ?_
  refine Ev.bind (laws_eqIntS_ev c hc) ?_
  simp only [↓reduceIte]
  refine Ev.bind (laws_markIntS_ev a ha 1 (by omega) (by omega)) ?_
  refine Ev.bind (laws_markIntS_ev b hb _ (by omega) (by omega)) ?_
  refine Ev.bind (laws_markIntS_ev c hc _ (by omega) (by omega)) ?_
  have n1 : ¬ (1 : Int) + (a.length : Int) + (b.length : Int) + (c.length : Int) < 0 := by omega
  simp only [n1, ↓reduceIte]
  refine Ev.bind (laws_eqIntS_ev _ hd) ?_
  simp only [↓reduceIte]
  refine ev_succ ?_
  simp only [laws_FnExactJointDeck.j1, bne_self_eq_false, Bool.false_eq_true, ↓reduceIte]
  refine Ev.bind (laws_markIntS_ev _ hd 1 (by omega) (by omega)) ?_
  refine Ev.bind (laws_heldIntS_ev _ hd 1 (by omega) (by omega)) ?_
  have n2 : ¬ (1 : Int) + ((jointDeckM a b c).1.length : Int) < 0 := by omega
  simp only [n2, ↓reduceIte]
  refine Ev.bind (laws_toIntS_ev a ha) ?_
  refine Ev.bind (laws_toIntS_ev b hb) ?_
  refine Ev.bind (laws_toIntS_ev c hc) ?_
  refine Ev.bind (impl_JointDeck_ev a b c hb2) ?_
  refine Ev.bind (laws_eqIntS_ev _ hd) ?_
  simp only [↓reduceIte]
  refine ev_succ ?_
  simp only [laws_FnExactJointDeck.j2, bne_self_eq_false, Bool.false_eq_true, ↓reduceIte]
  refine Ev.bind (laws_heldIntS_ev _ hd 1 (by omega) (by omega)) ?_
  exact ev_of_eq fun k => by simp only [n2, ↓reduceIte]

end Go.Proofs.Ytdakhelapeojgaa.Pure
