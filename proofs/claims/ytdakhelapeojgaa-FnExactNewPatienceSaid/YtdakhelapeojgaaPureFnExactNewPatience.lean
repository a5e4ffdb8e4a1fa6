/- The program's NewPatience answers what the reference's answers, for all arguments. No condition but those that the statement itself names. -/
import Derived.Test.YtdakhelapeojgaaQFnExactNewPatiencex3
import Derived.Test.YtdakhelapeojgaaLib
namespace Go.Proofs.Ytdakhelapeojgaa.Pure
open Go.RowKit Go.Proofs.Ytdakhelapeojgaa.QFnExactNewPatience Go.Proofs.YtdakhelapeojgaaW.PrintWords Go.Proofs.YtdakhelapeojgaaW.PrintLast Go.Proofs.YtdakhelapeojgaaW.PrintMore Go.Proofs.Ytdakhelapeojgaa.Lib
set_option linter.unusedVariables false
set_option linter.unusedSimpArgs false

/-! laws_toIntS -/
theorem laws_toIntS_ev (l : List Int) (hl : l.length ≤ 1099511627776) : Ev (fun k => laws_toIntS.f k l) l := by
  have e1 : (0 : Int) ≤ (l.length : Int) := by omega
  have e2 : ((l.length : Int) : Int).toNat ≤ 35184372088832 := by omega
  simp only [laws_toIntS.f, e1, e2, ↓reduceIte]
  refine loop_int_pre l hl (P := fun i pre rest => Ev (fun k => laws_toIntS.l0 k l (pre ++ List.replicate rest.length 0) i) l) ?_ ?_
  · refine ev_succ (ev_of_eq fun k => ?_)
    simp only [laws_toIntS.l0, Int.lt_irrefl, ↓reduceIte, List.length_nil, List.replicate_zero, List.append_nil]
  · intro i pre x rest hl' hi h0 h1 hx hw ih
    refine ev_succ ?_
    have h2 : i < ((pre ++ List.replicate (x :: rest).length 0 : List Int).length : Int) := by simp; omega
    simp only [laws_toIntS.l0, h1, h0, h2, ↓reduceIte, hx, hw]
    rw [List.length_cons, List.replicate_succ, set_mid pre _ i hi]
    exact ih

/-! laws_eqIntS -/
theorem laws_eqIntS_ev (l : List Int) (hl : l.length ≤ 1099511627776) : Ev (fun k => laws_eqIntS.f k l l) true := by
  simp only [laws_eqIntS.f, ↓reduceIte]
  refine loop_int l hl (P := fun i _ => Ev (fun k => laws_eqIntS.l0 k l l i) true) ?_ ?_
  · refine ev_succ (ev_of_eq fun k => ?_)
    simp only [laws_eqIntS.l0, Int.lt_irrefl, ↓reduceIte]
  · intro i x rest h0 h1 hx _ hw ih
    refine ev_succ ?_
    simp only [laws_eqIntS.l0, h1, h0, ↓reduceIte, hw]
    exact ih

/-! laws_markIntS -/
theorem laws_markIntS_ev (l : List Int) (hl : l.length ≤ 1099511627776) (a : Int) (ha : 0 ≤ a) (ha2 : a ≤ 4611686018427387904) : Ev (fun k => laws_markIntS.f k l a) (a + l.length, (List.range l.length).map fun j : Nat => a + (j : Int)) := by
  simp only [laws_markIntS.f]
  suffices H : ∀ (n : Nat) (pre rest : List Int) (i : Int), i = pre.length → rest.length = n → (pre ++ rest).length = l.length → Ev (fun k => laws_markIntS.l0 k (pre ++ rest) (a + i) i) (a + l.length, pre ++ (List.range n).map fun j : Nat => a + i + (j : Int)) by
    have := H l.length [] l 0 rfl rfl rfl
    simpa using this
  intro n
  induction n with
  | zero =>
    intro pre rest i hi hr ht
    obtain rfl : rest = [] := List.eq_nil_of_length_eq_zero hr
    refine ev_succ (ev_of_eq fun k => ?_)
    have e : i = (l.length : Int) := by simp at ht; omega
    have e2 : ¬ i < ((pre ++ [] : List Int).length : Int) := by simp; omega
    simp only [laws_markIntS.l0, e2, ↓reduceIte]
    simp [e]
  | succ n ih =>
    intro pre rest i hi hr ht
    obtain ⟨x, rest, rfl⟩ : ∃ x r, rest = x :: r := by cases rest with | nil => simp at hr | cons x r => exact ⟨x, r, rfl⟩
    have h1 : i < ((pre ++ x :: rest : List Int).length : Int) := by simp; omega
    have h0 : 0 ≤ i := by omega
    have hb : i + 1 ≤ (l.length : Int) := by rw [← ht]; omega
    refine ev_succ ?_
    simp only [laws_markIntS.l0, h1, h0, ↓reduceIte]
    rw [set_mid pre rest i hi, w64 (n := a + i + 1) (by omega) (by omega), w64 (n := i + 1) (by omega) (by omega)]
    have := ih (pre ++ [a + i]) rest (i + 1) (by simp; omega) (by simpa using hr) (by simpa using ht)
    rw [show a + (i + 1) = a + i + 1 by omega] at this
    refine ev_eq this ?_
    rw [List.range_succ_eq_map]
    simp [Function.comp_def]
    intro j _
    omega

/-! spec_l1In -/
theorem spec_l1In_f (a b c : Int) : spec_l1In.f a b c = some (decide (b ≤ a ∧ a ≤ c)) := by
  unfold spec_l1In.f
  by_cases h : b ≤ a <;> simp [h]

/-! spec_IsCard -/
theorem spec_IsCard_f (a : Int) : spec_IsCard.f a = some (isCardM a) := by
  unfold spec_IsCard.f
  rw [spec_l1In_f]
  rfl

/-! spec_HasCard -/
theorem spec_HasCard_ev (l : List Int) (c : Int) (hl : l.length ≤ 1099511627776) : Ev (fun k => spec_HasCard.f k l c) (l.contains c) := by
  simp only [spec_HasCard.f]
  refine loop_int l hl (P := fun i rest => Ev (fun k => spec_HasCard.l0 k l c i) (rest.contains c)) ?_ ?_
  · refine ev_succ (ev_of_eq fun k => ?_)
    simp only [spec_HasCard.l0, Int.lt_irrefl, ↓reduceIte, List.contains_nil]
  · intro i x rest h0 h1 hx _ hw ih
    refine ev_succ ?_
    simp only [spec_HasCard.l0, h1, h0, ↓reduceIte, hx, hw]
    by_cases h : x = c
    · refine ev_of_eq fun k => ?_
      simp [h]
    · have h' : ¬ c = x := fun e => h e.symm
      simp only [h, ↓reduceIte]
      refine ev_eq ih ?_
      simp [h']

/-! spec_IsHand -/
theorem spec_IsHand_ev (l : List Int) (hl : l.length ≤ 1099511627776) : Ev (fun k => spec_IsHand.f k l) (isHandM l) := by
  simp only [spec_IsHand.f, isHandM]
  refine loop_int_pre l hl (P := fun i pre rest => Ev (fun k => spec_IsHand.l0 k l i) (handP pre rest)) ?_ ?_
  · refine ev_succ (ev_of_eq fun k => ?_)
    simp only [spec_IsHand.l0, Int.lt_irrefl, ↓reduceIte, handP]
  · intro i pre x rest hl' hi h0 h1 hx hw ih
    refine ev_succ ?_
    have h2 : i ≤ (l.length : Int) := by omega
    have ht : l.take i.toNat = pre := by
      rw [hl', hi, Int.toNat_natCast]
      simp
    simp only [spec_IsHand.l0, h1, h0, h2, ↓reduceIte, hx, hw, ht, spec_IsCard_f, Option.bind_some, handP]
    cases hc : isCardM x
    · refine ev_of_eq fun k => ?_
      simp
    · simp only [↓reduceIte, Bool.true_and]
      refine Ev.bind (spec_HasCard_ev pre x (by rw [hl'] at hl; simp at hl; omega)) ?_
      cases hp : pre.contains x
      · simp only [Bool.false_eq_true, ↓reduceIte, Bool.not_false, Bool.true_and]
        exact ih
      · refine ev_of_eq fun k => ?_
        simp

/-! spec_NewPatience -/
/-- Piles of 1, 2, .. cards; what is left. -/
def dealP (l : List Int) : Nat → Int → Int → List S27 → List S27 × List Int
  | 0, at_, _, acc => (acc, l.drop at_.toNat)
  | m + 1, at_, i, acc => dealP l m (at_ + i + 1) (i + 1) (acc ++ [⟨(l.take (at_ + i + 1).toNat).drop at_.toNat, i⟩])
def newPatM (l : List Int) (n : Int) : List S27 × List Int × List Int × List Int × Bool :=
  if isHandM l = true ∧ (l.length : Int) = 52 ∧ 1 ≤ n ∧ n ≤ 7 then ((dealP l n.toNat 0 0 []).1, List.replicate 4 0, (dealP l n.toNat 0 0 []).2, [], true) else ([], [], [], [], false)
theorem dealP_len (l : List Int) (hl : l.length ≤ 1048576) : ∀ (m : Nat) (a i : Int) (acc : List S27), acc.length + m ≤ 1048576 → (∀ y ∈ acc, y.f0.length ≤ 1048576) → (dealP l m a i acc).1.length ≤ 1048576 ∧ (∀ y ∈ (dealP l m a i acc).1, y.f0.length ≤ 1048576) ∧ (dealP l m a i acc).2.length ≤ 1048576
  | 0, a, i, acc, h, hm => ⟨by simpa [dealP] using h, by simpa [dealP] using hm, by simp [dealP]; omega⟩
  | m + 1, a, i, acc, h, hm => by
    simp only [dealP]
    refine dealP_len l hl m _ _ _ (by simp; omega) (fun y hy => ?_)
    rcases List.mem_append.mp hy with hy | hy
    · exact hm y hy
    · rw [List.mem_singleton.mp hy]
      simp only [List.length_drop, List.length_take]
      omega
theorem spec_NewPatience_l0 (l : List Int) (hl : l.length = 52) (n : Int) (hn : n ≤ 7) (base : List Int) : ∀ (m : Nat) (a i : Int) (acc : List S27), 0 ≤ a → a ≤ i * 7 → 0 ≤ i → i + m = n → (acc.length : Int) = i → Ev (fun k => spec_NewPatience.l0 k l n a (i + 1) acc base) ((dealP l m a i acc).1, base, (dealP l m a i acc).2, [], true)
  | 0, a, i, acc, h0, h1, h2, h3, h4 => by
    refine ev_succ (ev_of_eq fun k => ?_)
    have c : ¬ i + 1 ≤ n := by omega
    have c1 : a ≤ (l.length : Int) := by omega
    have c2 : ([] : List Int).length + (l.drop a.toNat).length < 17592186044416 := by simp; omega
    simp only [spec_NewPatience.l0, c, h0, c1, c2, Option.bind_some, ↓reduceIte, dealP, List.nil_append]
  | m + 1, a, i, acc, h0, h1, h2, h3, h4 => by
    have c : i + 1 ≤ n := by omega
    have w1 : wrap64 (a + (i + 1)) = a + i + 1 := by rw [w64 (by omega) (by omega)]; omega
    have w2 : wrap64 (i + 1 + 1) = i + 1 + 1 := w64 (by omega) (by omega)
    have w3 : wrap64 (i + 1 - 1) = i := by rw [w64 (by omega) (by omega)]; omega
    have c1 : a ≤ a + i + 1 := by omega
    have c2 : a + i + 1 ≤ (l.length : Int) := by omega
    have c3 : ([] : List Int).length + ((l.take (a + i + 1).toNat).drop a.toNat).length < 17592186044416 := by simp; omega
    have c4 : acc.length < 4398046511104 := by omega
    refine ev_succ ?_
    simp only [spec_NewPatience.l0, c, h0, w1, w2, w3, c1, c2, c3, c4, Option.bind_some, ↓reduceIte, dealP, List.nil_append]
    exact spec_NewPatience_l0 l hl n hn base m _ (i + 1) _ (by omega) (by omega) (by omega) (by omega) (by simp; omega)
theorem spec_NewPatience_ev (l : List Int) (n : Int) (hl : l.length ≤ 1048576) : Ev (fun k => spec_NewPatience.f k l n) (newPatM l n) := by
  have F : Ev (fun k => spec_NewPatience.j0 k l n true) ([], [], [], [], false) := ev_succ (ev_of_eq fun k => by simp only [spec_NewPatience.j0, ↓reduceIte])
  simp only [spec_NewPatience.f]
  refine Ev.bind (spec_IsHand_ev l (by omega)) ?_
  cases h : isHandM l
  · simp only [Bool.false_eq_true, ↓reduceIte]
    exact ev_eq F (by simp [newPatM, h])
  · simp only [↓reduceIte]
    by_cases h2 : (l.length : Int) = 52
    · simp only [h2, ↓reduceIte, spec_l1In_f, Option.bind_some]
      by_cases h3 : 1 ≤ n ∧ n ≤ 7
      · simp only [h3, and_self, decide_true, Bool.not_true]
        refine ev_succ ?_
        simp only [spec_NewPatience.j0, Bool.false_eq_true, ↓reduceIte]
        have := spec_NewPatience_l0 l (by omega) n h3.2 (List.replicate 4 0) n.toNat 0 0 [] (by omega) (by omega) (by omega) (by omega) rfl
        simp only [Nat.reduceLeDiff, ↓reduceIte]
        refine ev_eq this ?_
        rw [newPatM, if_pos ⟨h, h2, h3⟩]
      · simp only [h3, decide_false, Bool.not_false]
        exact ev_eq F (by rw [newPatM, if_neg (fun h4 => h3 h4.2.2)])
    · simp only [h2, ↓reduceIte]
      exact ev_eq F (by rw [newPatM, if_neg (fun h4 => h2 h4.2.1)])

/-! impl_copyOf -/
theorem impl_copyOf_f (l : List Int) (hl : l.length ≤ 1099511627776) : impl_copyOf.f l = some l := by
  have h : ([] : List Int).length + l.length < 17592186044416 := by simp; omega
  simp only [impl_copyOf.f, Option.bind_some, h, ↓reduceIte, List.nil_append]

/-! impl_InRange -/
theorem impl_InRange_f (a b c : Int) : impl_InRange.f a b c = some (decide (b ≤ a ∧ a ≤ c)) := by
  unfold impl_InRange.f
  by_cases h : b ≤ a <;> simp [h]

/-! impl_IsCard -/
theorem impl_IsCard_f (a : Int) : impl_IsCard.f a = some (isCardM a) := by
  unfold impl_IsCard.f
  rw [impl_InRange_f]
  rfl

/-! impl_IsHand -/
theorem impl_IsHand_f (l : List Int) : impl_IsHand.f l = some (isHandM l) := by
  suffices H : ∀ (rest pre : List Int) (seen : List Bool), seen.length = 52 → (∀ c : Int, 0 ≤ c → c ≤ 51 → seen.getD c.toNat false = pre.contains c) → impl_IsHand.handF seen rest = handP pre rest by
    unfold impl_IsHand.f isHandM
    rw [H l [] _ List.length_replicate (fun c h0 h1 => by rw [getD_replicate_false]; rfl)]
  intro rest
  induction rest with
  | nil => intro pre seen _ _; cases seen <;> rfl
  | cons x rest ih =>
    intro pre seen hs hp
    unfold impl_IsHand.handF handP isCardM
    by_cases h : 0 ≤ x ∧ x ≤ 51
    · simp only [h, and_self, ↓reduceIte, decide_true, Bool.true_and, hp x h.1 h.2]
      cases hc : pre.contains x
      · simp only [Bool.false_eq_true, ↓reduceIte, Bool.not_false, Bool.true_and]
        refine ih _ _ (by simp [hs]) (fun c h0 h1 => ?_)
        by_cases e : c = x
        · subst e
          have : c.toNat < seen.length := by omega
          simp [List.getD_eq_getElem?_getD, List.getElem?_set, this]
        · have e' : ¬ x.toNat = c.toNat := by omega
          have := hp c h0 h1
          simp only [List.getD_eq_getElem?_getD] at this ⊢
          rw [List.getElem?_set_ne e', this]
          simp [e]
      · simp
    · simp [h]

/-! impl_NewPatience -/
theorem impl_NewPatience_l0 (l : List Int) (hl : l.length = 52) (n : Int) (hn : n ≤ 7) (base : List Int) : ∀ (m : Nat) (a i : Int) (acc : List S27), 0 ≤ a → a ≤ i * 7 → 0 ≤ i → i + m = n → (acc.length : Int) = i → Ev (fun k => impl_NewPatience.l0 k l a n i acc base) ((dealP l m a i acc).1, base, (dealP l m a i acc).2, [], true)
  | 0, a, i, acc, h0, h1, h2, h3, h4 => by
    refine ev_succ (ev_of_eq fun k => ?_)
    have c : ¬ i < n := by omega
    have c1 : a ≤ (l.length : Int) := by omega
    have c2 := impl_copyOf_f (l.drop a.toNat) (by simp; omega)
    simp only [impl_NewPatience.l0, c, h0, c1, c2, Option.bind_some, ↓reduceIte, dealP]
  | m + 1, a, i, acc, h0, h1, h2, h3, h4 => by
    have c : i < n := by omega
    have w0 : wrap64 (a + i) = a + i := w64 (by omega) (by omega)
    have w1 : wrap64 (a + i + 1) = a + i + 1 := w64 (by omega) (by omega)
    have w2 : wrap64 (i + 1) = i + 1 := w64 (by omega) (by omega)
    have w3 : wrap64 (a + (i + 1)) = a + i + 1 := by rw [w64 (by omega) (by omega)]; omega
    have c1 : a ≤ a + i + 1 := by omega
    have c2 : a + i + 1 ≤ (l.length : Int) := by omega
    have c3 := impl_copyOf_f ((l.take (a + i + 1).toNat).drop a.toNat) (by simp; omega)
    have c4 : acc.length < 4398046511104 := by omega
    refine ev_succ ?_
    simp only [impl_NewPatience.l0, c, h0, w0, w1, w2, w3, c1, c2, c3, c4, Option.bind_some, ↓reduceIte, dealP]
    exact impl_NewPatience_l0 l hl n hn base m _ (i + 1) _ (by omega) (by omega) (by omega) (by omega) (by simp; omega)
theorem impl_NewPatience_ev (l : List Int) (n : Int) (hl : l.length ≤ 1048576) : Ev (fun k => impl_NewPatience.f k l n) (newPatM l n) := by
  have F : Ev (fun k => impl_NewPatience.j0 k l n true) ([], [], [], [], false) := ev_succ (ev_of_eq fun k => by simp only [impl_NewPatience.j0, ↓reduceIte])
  simp only [impl_NewPatience.f, impl_IsHand_f, Option.bind_some]
  cases h : isHandM l
  · simp only [Bool.false_eq_true, ↓reduceIte]
    exact ev_eq F (by simp [newPatM, h])
  · simp only [↓reduceIte]
    by_cases h2 : (l.length : Int) = 52
    · simp only [h2, ↓reduceIte, impl_InRange_f, Option.bind_some]
      by_cases h3 : 1 ≤ n ∧ n ≤ 7
      · simp only [h3, and_self, decide_true, Bool.not_true]
        refine ev_succ ?_
        simp only [impl_NewPatience.j0, Bool.false_eq_true, ↓reduceIte]
        have := impl_NewPatience_l0 l (by omega) n h3.2 (List.replicate 4 0) n.toNat 0 0 [] (by omega) (by omega) (by omega) (by omega) rfl
        simp only [Nat.reduceLeDiff, ↓reduceIte]
        refine ev_eq this ?_
        rw [newPatM, if_pos ⟨h, h2, h3⟩]
      · simp only [h3, decide_false, Bool.not_false]
        exact ev_eq F (by rw [newPatM, if_neg (fun h4 => h3 h4.2.2)])
    · simp only [h2, ↓reduceIte]
      exact ev_eq F (by rw [newPatM, if_neg (fun h4 => h2 h4.2.1)])

/-! laws_eqPile -/
theorem laws_eqPile_ev (l : List Int) (h : Int) (hl : l.length ≤ 1048576) : Ev (fun k => laws_eqPile.f k l h l h) true := by
  simp only [laws_eqPile.f, ↓reduceIte]
  refine Ev.bind (laws_eqIntS_ev l (by omega)) ?_
  exact ev_of_eq fun k => by simp only [↓reduceIte]

/-! laws_eqPileS -/
theorem laws_eqPileS_ev (l : List S27) (hl : l.length ≤ 1048576) (hm : ∀ y ∈ l, y.f0.length ≤ 1048576) : Ev (fun k => laws_eqPileS.f k l l) true := by
  simp only [laws_eqPileS.f, ↓reduceIte]
  refine loop_of l z27 (by omega) (P := fun i _ => Ev (fun k => laws_eqPileS.l0 k l l i) true) ?_ ?_
  · refine ev_succ (ev_of_eq fun k => ?_)
    simp only [laws_eqPileS.l0, Int.lt_irrefl, ↓reduceIte]
  · intro i x rest h0 h1 hx hmem hw ih
    have hx' : rd_T27 l i = x := hx
    refine ev_succ ?_
    simp only [laws_eqPileS.l0, h1, h0, hx', ↓reduceIte, hw]
    refine Ev.bind (laws_eqPile_ev x.f0 x.f1 (hm x hmem)) ?_
    simp only [↓reduceIte]
    exact ih

/-! laws_eqPatience -/
theorem laws_eqPatience_ev (l0 : List S27) (l1 l2 l3 : List Int) (hl : l0.length ≤ 1048576) (hm : ∀ y ∈ l0, y.f0.length ≤ 1048576) (h1 : l1.length ≤ 1048576) (h2 : l2.length ≤ 1048576) (h3 : l3.length ≤ 1048576) :
    Ev (fun k => laws_eqPatience.f k l0 l1 l2 l3 l0 l1 l2 l3) true := by
  simp only [laws_eqPatience.f]
  refine Ev.bind (laws_eqPileS_ev l0 hl hm) ?_
  simp only [↓reduceIte]
  refine Ev.bind (laws_eqIntS_ev l1 (by omega)) ?_
  simp only [↓reduceIte]
  refine Ev.bind (laws_eqIntS_ev l2 (by omega)) ?_
  simp only [↓reduceIte]
  refine Ev.bind (laws_eqIntS_ev l3 (by omega)) ?_
  exact ev_of_eq fun k => by simp only [↓reduceIte]

/-! laws_heldIntS -/
theorem laws_heldIntS_ev (n : Nat) (hl : n ≤ 1099511627776) (a : Int) (ha : 0 ≤ a) (ha2 : a ≤ 4611686018427387904) : Ev (fun k => laws_heldIntS.f k ((List.range n).map fun j : Nat => a + (j : Int)) a) (a + n) := by
  simp only [laws_heldIntS.f]
  have hlen : ((List.range n).map fun j : Nat => a + (j : Int)).length = n := by simp
  have hget : ∀ i : Int, 0 ≤ i → i < (n : Int) → rd ((List.range n).map fun j : Nat => a + (j : Int)) i = a + i := by
    intro i h0 h1
    have : i.toNat < n := by omega
    unfold rd
    simp [List.getD_eq_getElem?_getD, this]
    omega
  generalize (List.range n).map (fun j : Nat => a + (j : Int)) = l at *
  subst hlen
  have := loop_up l.length hl (P := fun i m => Ev (fun k => laws_heldIntS.l0 k l (a + i) i) (a + l.length)) ?_ ?_
  · simpa using this
  · refine ev_succ (ev_of_eq fun k => ?_)
    simp only [laws_heldIntS.l0, Int.lt_irrefl, ↓reduceIte]
  · intro i m h0 h1 _ hw ih
    refine ev_succ ?_
    simp only [laws_heldIntS.l0, h1, h0, ↓reduceIte, hget i h0 h1, hw]
    rw [w64 (n := a + i + 1) (by omega) (by omega), show a + i + 1 = a + (i + 1) by omega]
    exact ih

/-! laws_heldPileS -/
def endP : List S27 → Int → Int
  | [], a => a
  | x :: r, a => endP r (a + x.f0.length + 1)
def markP : List S27 → Int → List S27
  | [], _ => []
  | x :: r, a => ⟨(List.range x.f0.length).map fun j : Nat => a + (j : Int), a + x.f0.length⟩ :: markP r (a + x.f0.length + 1)
theorem markP_len : ∀ (l : List S27) (a : Int), (markP l a).length = l.length
  | [], _ => rfl
  | x :: r, a => by simp [markP, markP_len r]
theorem endP_le : ∀ (l : List S27) (a : Int), (∀ y ∈ l, y.f0.length ≤ 1048576) → a ≤ endP l a ∧ endP l a ≤ a + (l.length : Int) * 1048577
  | [], a, _ => by simp [endP]
  | x :: r, a, h => by
    have h1 := endP_le r (a + x.f0.length + 1) (fun y hy => h y (by simp [hy]))
    have h2 := h x (by simp)
    simp only [endP, List.length_cons]
    omega
theorem laws_heldPileS_ev (l : List S27) (hl : l.length ≤ 1048576) (hm : ∀ y ∈ l, y.f0.length ≤ 1048576) :
    Ev (fun k => laws_heldPileS.f k (markP l 1) 1) (endP l 1) := by
  simp only [laws_heldPileS.f]
  suffices H : ∀ (rest : List S27) (pre : List S27) (b : Int), (pre.length + rest.length) ≤ 1048576 → (∀ y ∈ rest, y.f0.length ≤ 1048576) → 0 ≤ b → b ≤ 1 + (pre.length : Int) * 1048577 → Ev (fun k => laws_heldPileS.l0 k (pre ++ markP rest b) b (pre.length : Int)) (endP rest b) by
    simpa using H l [] 1 (by simpa using hl) hm (by omega) (by simp)
  intro rest
  induction rest with
  | nil =>
    intro pre b _ _ h0 h1
    refine ev_succ (ev_of_eq fun k => ?_)
    have c1 : ¬ (pre.length : Int) < ((pre ++ markP [] b).length : Int) := by simp [markP]
    simp only [laws_heldPileS.l0, c1, ↓reduceIte, endP]
  | cons x rest ih =>
    intro pre b hl hm h0 h1
    have hx := hm x (by simp)
    have hl' : pre.length + (rest.length + 1) ≤ 1048576 := by simpa using hl
    have e := ih (pre ++ [⟨(List.range x.f0.length).map fun j : Nat => b + (j : Int), b + x.f0.length⟩]) (b + x.f0.length + 1) (by simp; omega) (fun y hy => hm y (by simp [hy])) (by omega) (by simp; omega)
    refine ev_succ ?_
    have hr : rd_T27 (pre ++ markP (x :: rest) b) (pre.length : Int) = ⟨(List.range x.f0.length).map fun j : Nat => b + (j : Int), b + x.f0.length⟩ := getD_mid pre _ _ rfl _ z27
    simp only [laws_heldPileS.l0, hr]
    have c1 : (pre.length : Int) < ((pre ++ markP (x :: rest) b).length : Int) := by simp [markP]; omega
    have c2 : (0 : Int) ≤ (pre.length : Int) := by omega
    have c3 : ¬ b + (x.f0.length : Int) < 0 := by omega
    simp only [c1, c2, ↓reduceIte]
    refine Ev.bind (laws_heldIntS_ev x.f0.length (by omega) b (by omega) (by omega)) ?_
    simp only [c3, ↓reduceIte]
    rw [w64 (n := (pre.length : Int) + 1) (by omega) (by omega), w64 (n := b + x.f0.length + 1) (by omega) (by omega)]
    simpa [endP, markP] using e

/-! laws_heldPatience -/
theorem laws_heldPatience_ev (l0 : List S27) (l1 l2 l3 : List Int) (hl : l0.length ≤ 1048576) (hm : ∀ y ∈ l0, y.f0.length ≤ 1048576) (h1 : l1.length ≤ 1048576) (h2 : l2.length ≤ 1048576) (h3 : l3.length ≤ 1048576) :
    Ev (fun k => laws_heldPatience.f k (markP l0 1) ((List.range l1.length).map fun j : Nat => endP l0 1 + (j : Int)) ((List.range l2.length).map fun j : Nat => endP l0 1 + l1.length + (j : Int)) ((List.range l3.length).map fun j : Nat => endP l0 1 + l1.length + l2.length + (j : Int)) 1) (endP l0 1 + l1.length + l2.length + l3.length) := by
  have hb := endP_le l0 1 hm
  simp only [laws_heldPatience.f]
  have n0 : ¬ endP l0 1 < 0 := by omega
  have n1 : ¬ endP l0 1 + l1.length < 0 := by omega
  have n2 : ¬ endP l0 1 + l1.length + l2.length < 0 := by omega
  have n3 : ¬ endP l0 1 + l1.length + l2.length + l3.length < 0 := by omega
  refine Ev.bind (laws_heldPileS_ev l0 hl hm) ?_
  simp only [n0, ↓reduceIte]
  refine Ev.bind (laws_heldIntS_ev l1.length (by omega) _ (by omega) (by omega)) ?_
  simp only [n1, ↓reduceIte]
  refine Ev.bind (laws_heldIntS_ev l2.length (by omega) _ (by omega) (by omega)) ?_
  simp only [n2, ↓reduceIte]
  refine Ev.bind (laws_heldIntS_ev l3.length (by omega) _ (by omega) (by omega)) ?_
  exact ev_of_eq fun k => by simp only [n3, ↓reduceIte]

/-! laws_markPileS -/
theorem laws_markPileS_ev (l : List S27) (hl : l.length ≤ 1048576) (hm : ∀ y ∈ l, y.f0.length ≤ 1048576) (a : Int) (ha : 0 ≤ a) (ha2 : a ≤ 1099511627776) :
    Ev (fun k => laws_markPileS.f k l a) (endP l a, markP l a) := by
  simp only [laws_markPileS.f]
  suffices H : ∀ (rest pre : List S27) (b : Int), (pre ++ rest).length ≤ 1048576 → (∀ y ∈ rest, y.f0.length ≤ 1048576) → 0 ≤ b → b ≤ 1099511627776 + (pre.length : Int) * 1048577 → Ev (fun k => laws_markPileS.l0 k (pre ++ rest) b (pre.length : Int)) (endP rest b, pre ++ markP rest b) by
    simpa using H l [] a hl hm ha (by simpa using ha2)
  intro rest
  induction rest with
  | nil =>
    intro pre b _ _ h0 h1
    refine ev_succ (ev_of_eq fun k => ?_)
    simp only [laws_markPileS.l0]
    rw [if_neg (by simp)]
    simp [endP, markP]
  | cons x rest ih =>
    intro pre b hl hm h0 h1
    have hx := hm x (by simp)
    have hl' : pre.length + (rest.length + 1) ≤ 1048576 := by simpa using hl
    have e := ih (pre ++ [⟨(List.range x.f0.length).map fun j : Nat => b + (j : Int), b + x.f0.length⟩]) (b + x.f0.length + 1) (by simp; omega) (fun y hy => hm y (by simp [hy])) (by omega) (by simp; omega)
    refine ev_succ ?_
    have hr : rd_T27 (pre ++ x :: rest) (pre.length : Int) = x := getD_mid pre rest _ rfl x z27
    simp only [laws_markPileS.l0, hr]
    have c1 : (pre.length : Int) < ((pre ++ x :: rest).length : Int) := by simp; omega
    have c2 : (0 : Int) ≤ (pre.length : Int) := by omega
    simp only [c1, c2, ↓reduceIte]
    refine Ev.bind (laws_markIntS_ev x.f0 (by omega) b (by omega) (by omega)) ?_
    rw [set_mid pre rest _ rfl, w64 (n := (pre.length : Int) + 1) (by omega) (by omega), w64 (n := b + x.f0.length + 1) (by omega) (by omega)]
    simpa [endP, markP] using e

/-! laws_markPatience -/
theorem laws_markPatience_ev (l0 : List S27) (l1 l2 l3 : List Int) (hl : l0.length ≤ 1048576) (hm : ∀ y ∈ l0, y.f0.length ≤ 1048576) (h1 : l1.length ≤ 1048576) (h2 : l2.length ≤ 1048576) (h3 : l3.length ≤ 1048576) :
    Ev (fun k => laws_markPatience.f k l0 l1 l2 l3 1) (endP l0 1 + l1.length + l2.length + l3.length, markP l0 1, (List.range l1.length).map fun j : Nat => endP l0 1 + (j : Int), (List.range l2.length).map fun j : Nat => endP l0 1 + l1.length + (j : Int), (List.range l3.length).map fun j : Nat => endP l0 1 + l1.length + l2.length + (j : Int)) := by
  have hb := endP_le l0 1 hm
  simp only [laws_markPatience.f]
  exact Ev.bind (laws_markPileS_ev l0 hl hm 1 (by omega) (by omega)) (Ev.bind (laws_markIntS_ev l1 (by omega) _ (by omega) (by omega)) (Ev.bind (laws_markIntS_ev l2 (by omega) _ (by omega) (by omega)) (Ev.bind (laws_markIntS_ev l3 (by omega) _ (by omega) (by omega)) (Ev.now _))))

/-- The pure statement. -/
def FnExactNewPatience_Stmt : Prop := ∀ (a0 : (List Int)) (a1 : Int), a0.length ≤ maxLen → (∀ y ∈ a0, (Lit.int .i64 y).wf = true) → (Lit.int .i64 a1).wf = true → ∃ k, laws_FnExactNewPatience.f k a0 a1 = some true
theorem newPatM_small (l : List Int) (n : Int) (hl : l.length ≤ 1048576) : (newPatM l n).1.length ≤ 1048576 ∧ (∀ y ∈ (newPatM l n).1, y.f0.length ≤ 1048576) ∧ (newPatM l n).2.1.length ≤ 1048576 ∧ (newPatM l n).2.2.1.length ≤ 1048576 ∧ (newPatM l n).2.2.2.1.length ≤ 1048576 := by
  unfold newPatM
  split
  · rename_i h
    obtain ⟨h1, h2, h3⟩ := dealP_len l hl n.toNat 0 0 [] (by simp; omega) (by simp)
    exact ⟨h1, h2, by simp, h3, by simp⟩
  · simp
theorem FnExactNewPatience : FnExactNewPatience_Stmt := by
  intro l n _ _ _
  refine Ev.rounds (g := fun k => laws_FnExactNewPatience.f k l n) ?_
  by_cases hb : (l.length : Int) > 1048576
  · exact ev_of_eq fun k => by simp only [laws_FnExactNewPatience.f, hb, ↓reduceIte]
  have sl : l.length ≤ 1048576 := by omega
  obtain ⟨s0, sm, s1, s2, s3⟩ := newPatM_small l n sl
  simp only [laws_FnExactNewPatience.f, hb, ↓reduceIte]
  refine Ev.bind (laws_toIntS_ev l (by omega)) ?_
  refine Ev.bind (spec_NewPatience_ev l n sl) ?_
  refine Ev.bind (impl_NewPatience_ev l n sl) ?_
  generalize newPatM l n = p at s0 sm s1 s2 s3
  obtain ⟨p0, p1, p2, p3, b⟩ := p
  refine Ev.bind (laws_eqPatience_ev p0 p1 p2 p3 s0 sm s1 s2 s3) ?_
  refine Ev.bind (laws_eqIntS_ev l (by omega)) ?_
  refine Ev.bind (laws_markIntS_ev l (by omega) 1 (by omega) (by omega)) ?_
  refine Ev.bind (laws_markPatience_ev p0 p1 p2 p3 s0 sm s1 s2 s3) ?_
  refine Ev.bind (laws_heldPatience_ev p0 p1 p2 p3 s0 sm s1 s2 s3) ?_
  have hb := endP_le p0 1 sm
  refine ev_of_eq fun k => ?_
  rw [if_pos ⟨rfl, rfl, rfl, by omega, by omega, rfl⟩]

end Go.Proofs.Ytdakhelapeojgaa.Pure
