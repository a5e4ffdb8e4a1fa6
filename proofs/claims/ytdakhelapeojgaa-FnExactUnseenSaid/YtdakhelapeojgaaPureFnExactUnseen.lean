/- The program's Unseen answers what the reference's answers, for all arguments. No condition but those that the statement itself names. -/
import Derived.Test.YtdakhelapeojgaaQFnExactUnseenx2
import Derived.Test.YtdakhelapeojgaaLib
namespace Go.Proofs.Ytdakhelapeojgaa.Pure
open Go.RowKit Go.Proofs.Ytdakhelapeojgaa.QFnExactUnseen Go.Proofs.YtdakhelapeojgaaW.PrintWords Go.Proofs.YtdakhelapeojgaaW.PrintLast Go.Proofs.YtdakhelapeojgaaW.PrintMore Go.Proofs.Ytdakhelapeojgaa.Lib
set_option linter.unusedVariables false
set_option linter.unusedSimpArgs false

/-! laws_szIntS -/
theorem laws_szIntS_f (l : List Int) (a : Int) (hl : l.length ≤ maxLen) (ha : 0 ≤ a) (ha2 : a ≤ 1048576) : ∃ v, laws_szIntS.f l a = some v ∧ (v < 0 ∨ (0 ≤ v ∧ v ≤ a ∧ l.length ≤ 1048576)) := by
  unfold maxLen at hl
  unfold laws_szIntS.f
  rw [w64 (by omega) (by omega)]
  by_cases h : (l.length : Int) ≤ a
  · exact ⟨_, if_neg (by omega), .inr (by omega)⟩
  · exact ⟨_, if_pos (by omega), .inl (by omega)⟩

/-! laws_szSight -/
theorem laws_szSight_f (a0 : Int) (l1 l2 : List Int) (a3 a4 : Int) (l5 l6 : List Int) (a : Int) (h1 : l1.length ≤ maxLen) (h2 : l2.length ≤ maxLen) (h5 : l5.length ≤ maxLen) (h6 : l6.length ≤ maxLen) (ha : 0 ≤ a) (ha2 : a ≤ 1048576) :
    ∃ v, laws_szSight.f a0 l1 l2 a3 a4 l5 l6 a = some v ∧ (v < 0 ∨ (0 ≤ v ∧ v ≤ a ∧ l1.length ≤ 1048576 ∧ l2.length ≤ 1048576 ∧ l5.length ≤ 1048576 ∧ l6.length ≤ 1048576)) := by
  unfold laws_szSight.f
  obtain ⟨v, e, h⟩ := laws_szIntS_f l1 a h1 ha ha2
  simp only [e, Option.bind_some]
  rcases h with h | ⟨g0, g1, g2⟩
  · exact ⟨_, if_pos h, .inl (by omega)⟩
  · have n1 : ¬ v < 0 := by omega
    simp only [n1, ↓reduceIte]
    obtain ⟨v', e', h'⟩ := laws_szIntS_f l2 v h2 g0 (by omega)
    simp only [e', Option.bind_some]
    rcases h' with h' | ⟨g0', g1', g2'⟩
    · exact ⟨_, if_pos h', .inl (by omega)⟩
    · have n2 : ¬ v' < 0 := by omega
      simp only [n2, ↓reduceIte]
      obtain ⟨u, e, h⟩ := laws_szIntS_f l5 v' h5 g0' (by omega)
      simp only [e, Option.bind_some]
      rcases h with h | ⟨k0, k1, k2⟩
      · exact ⟨_, if_pos h, .inl (by omega)⟩
      · have n3 : ¬ u < 0 := by omega
        simp only [n3, ↓reduceIte]
        obtain ⟨u', e', h'⟩ := laws_szIntS_f l6 u h6 k0 (by omega)
        simp only [e', Option.bind_some]
        rcases h' with h' | ⟨k0', k1', k2'⟩
        · exact ⟨_, if_pos h', .inl (by omega)⟩
        · exact ⟨_, if_neg (by omega), .inr (by omega)⟩

/-! spec_HasCard -/
theorem spec_HasCard_ev (l : List Int) (c : Int) (hl : l.length ≤ 1099511627776) : Ev (fun k => spec_HasCard.f k l c) (l.contains c) := by
  simp only [spec_HasCard.f]
  refine loop_int l hl (P := fun i rest => Ev (fun k => spec_HasCard.l0 k l c i) (rest.contains c)) ?_ ?_
  · refine ev_succ (ev_of_eq fun k => ?_)
    simp only [spec_HasCard.l0, Int.lt_irrefl, ↓reduceIte, List.contains_nil]
  · intro i x rest h0 h1 hx _ hw ih
    refine ev_succ ?_
    simp only [spec_HasCard.l0, h1, h0, ↓reduceIte, hx, hw]
    by_cases h : x = c
    · refine ev_of_eq fun k => ?_
      simp [h]
    · have h' : ¬ c = x := fun e => h e.symm
      simp only [h, ↓reduceIte]
      refine ev_eq ih ?_
      simp [h']

/-! spec_Missing -/
theorem spec_Missing_ev (l : List Int) (hl : l.length ≤ 1099511627776) : Ev (fun k => spec_Missing.f k l) (missingM l) := by
  simp only [spec_Missing.f, missingM]
  suffices H : ∀ (n : Nat) (out : List Int) (c : Int), 0 ≤ c → c + n = 52 → out.length ≤ c → Ev (fun k => spec_Missing.l0 k l out c) (out ++ missF l n c) by
    simpa using H 52 [] 0 (by omega) (by omega) (by simp)
  intro n
  induction n with
  | zero =>
    intro out c h0 h1 h2
    have e : ¬ c < 52 := by omega
    refine ev_succ (ev_of_eq fun k => ?_)
    simp only [spec_Missing.l0, e, ↓reduceIte, missF, List.append_nil]
  | succ n ih =>
    intro out c h0 h1 h2
    have e : c < 52 := by omega
    have e3 : out.length < 17592186044416 := by omega
    have e4 : wrap64 (c + 1) = c + 1 := w64 (by omega) (by omega)
    refine ev_succ ?_
    simp only [spec_Missing.l0, e, ↓reduceIte, missF]
    refine Ev.bind (spec_HasCard_ev l c hl) ?_
    cases hc : l.contains c
    · simp only [Bool.false_eq_true, ↓reduceIte, e3, e4]
      have := ih (out ++ [c]) (c + 1) (by omega) (by omega) (by simp; omega)
      simpa using this
    · simp only [↓reduceIte, e4]
      exact ih out (c + 1) (by omega) (by omega) (by omega)

/-! spec_Unseen -/
theorem spec_Unseen_ev (a0 : Int) (l1 l2 : List Int) (a3 a4 : Int) (l5 l6 g : List Int) (h1 : l1.length ≤ 1048576) (h2 : l2.length ≤ 1048576) (hg : g.length ≤ 1048576) : Ev (fun k => spec_Unseen.f k a0 l1 l2 a3 a4 l5 l6 g) (missingM (l1 ++ l2 ++ g)) := by
  have e1 : ([] : List Int).length + l1.length < 17592186044416 := by simp; omega
  have e2 : l1.length + l2.length < 17592186044416 := by omega
  have e3 : (l1 ++ l2).length + g.length < 17592186044416 := by simp; omega
  simp only [spec_Unseen.f, Option.bind_some, e1, e2, e3, ↓reduceIte, List.nil_append]
  exact Ev.bind (spec_Missing_ev _ (by simp; omega)) (Ev.now _)

/-! laws_toIntS -/
theorem laws_toIntS_ev (l : List Int) (hl : l.length ≤ 1099511627776) : Ev (fun k => laws_toIntS.f k l) l := by
  have e1 : (0 : Int) ≤ (l.length : Int) := by omega
  have e2 : ((l.length : Int) : Int).toNat ≤ 35184372088832 := by omega
  simp only [laws_toIntS.f, e1, e2, ↓reduceIte]
  refine loop_int_pre l hl (P := fun i pre rest => Ev (fun k => laws_toIntS.l0 k l (pre ++ List.replicate rest.length 0) i) l) ?_ ?_
  · refine ev_succ (ev_of_eq fun k => ?_)
    simp only [laws_toIntS.l0, Int.lt_irrefl, ↓reduceIte, List.length_nil, List.replicate_zero, List.append_nil]
  · intro i pre x rest hl' hi h0 h1 hx hw ih
    refine ev_succ ?_
    have h2 : i < ((pre ++ List.replicate (x :: rest).length 0 : List Int).length : Int) := by simp; omega
    simp only [laws_toIntS.l0, h1, h0, h2, ↓reduceIte, hx, hw]
    rw [List.length_cons, List.replicate_succ, set_mid pre _ i hi]
    exact ih

/-! laws_toSight -/
theorem laws_toSight_ev (a0 : Int) (l1 l2 : List Int) (a3 a4 : Int) (l5 l6 : List Int) (h1 : l1.length ≤ 1048576) (h2 : l2.length ≤ 1048576) (h5 : l5.length ≤ 1048576) (h6 : l6.length ≤ 1048576) :
    Ev (fun k => laws_toSight.f k a0 l1 l2 a3 a4 l5 l6) (a0, l1, l2, a3, a4, l5, l6) := by
  simp only [laws_toSight.f]
  exact Ev.bind (laws_toIntS_ev l1 (by omega)) (Ev.bind (laws_toIntS_ev l2 (by omega)) (Ev.bind (laws_toIntS_ev l5 (by omega)) (Ev.bind (laws_toIntS_ev l6 (by omega)) (Ev.now _))))

/-! impl_PlaceOf -/
/-- Where a number stands first, from place i on. -/
def placeF (c : Int) : Int → List Int → Int
  | _, [] => -1
  | i, x :: r => if x = c then i else placeF c (i + 1) r
theorem placeF_iff (c : Int) : ∀ (r : List Int) (i : Int), 0 ≤ i → (decide (placeF c i r ≥ 0) = r.contains c) := by
  intro r
  induction r with
  | nil => intro i h; simp [placeF]
  | cons x r ih =>
    intro i h
    unfold placeF
    by_cases e : x = c
    · simp [e, h]
    · have e' : ¬ c = x := fun g => e g.symm
      rw [if_neg e, ih (i + 1) (by omega)]
      simp [e']
theorem impl_PlaceOf_ev (l : List Int) (c : Int) (hl : l.length ≤ 1099511627776) : Ev (fun k => impl_PlaceOf.f k l c) (placeF c 0 l) := by
  simp only [impl_PlaceOf.f]
  refine loop_int l hl (P := fun i rest => Ev (fun k => impl_PlaceOf.l0 k c l (l.length : Int) i) (placeF c i rest)) ?_ ?_
  · refine ev_succ (ev_of_eq fun k => ?_)
    simp only [impl_PlaceOf.l0, Int.lt_irrefl, ↓reduceIte, placeF]
  · intro i x rest h0 h1 hx _ hw ih
    refine ev_succ ?_
    simp only [impl_PlaceOf.l0, h1, h0, ↓reduceIte, hx, hw, placeF]
    by_cases h : x = c
    · simp only [h, ↓reduceIte]
      exact Ev.now _
    · simp only [h, ↓reduceIte]
      exact ih

/-! impl_HasCard -/
theorem impl_HasCard_ev (l : List Int) (c : Int) (hl : l.length ≤ 1099511627776) : Ev (fun k => impl_HasCard.f k l c) (l.contains c) := by
  simp only [impl_HasCard.f]
  refine Ev.bind (impl_PlaceOf_ev l c hl) ?_
  rw [placeF_iff c l 0 (by omega)]
  exact Ev.now _

/-! impl_Missing -/
theorem impl_Missing_ev (l : List Int) (hl : l.length ≤ 1099511627776) : Ev (fun k => impl_Missing.f k l) (missingM l) := by
  simp only [impl_Missing.f, missingM]
  suffices H : ∀ (n : Nat) (out : List Int) (c : Int), 0 ≤ c → c + n = 52 → out.length ≤ c → Ev (fun k => impl_Missing.l0 k l out c) (out ++ missF l n c) by
    simpa using H 52 [] 0 (by omega) (by omega) (by simp)
  intro n
  induction n with
  | zero =>
    intro out c h0 h1 h2
    have e : ¬ c < 52 := by omega
    refine ev_succ (ev_of_eq fun k => ?_)
    simp only [impl_Missing.l0, e, ↓reduceIte, missF, List.append_nil]
  | succ n ih =>
    intro out c h0 h1 h2
    have e : c < 52 := by omega
    have e3 : out.length < 17592186044416 := by omega
    have e4 : wrap64 (c + 1) = c + 1 := w64 (by omega) (by omega)
    refine ev_succ ?_
    simp only [impl_Missing.l0, e, ↓reduceIte, missF]
    refine Ev.bind (impl_HasCard_ev l c hl) ?_
    cases hc : l.contains c
    · simp only [Bool.false_eq_true, ↓reduceIte, e3, e4]
      have := ih (out ++ [c]) (c + 1) (by omega) (by omega) (by simp; omega)
      simpa using this
    · simp only [↓reduceIte, e4]
      exact ih out (c + 1) (by omega) (by omega) (by omega)

/-! impl_copyOf -/
theorem impl_copyOf_f (l : List Int) (hl : l.length ≤ 1099511627776) : impl_copyOf.f l = some l := by
  have h : ([] : List Int).length + l.length < 17592186044416 := by simp; omega
  simp only [impl_copyOf.f, Option.bind_some, h, ↓reduceIte, List.nil_append]

/-! impl_Unseen -/
theorem impl_Unseen_ev (a0 : Int) (l1 l2 : List Int) (a3 a4 : Int) (l5 l6 g : List Int) (h1 : l1.length ≤ 1048576) (h2 : l2.length ≤ 1048576) (hg : g.length ≤ 1048576) : Ev (fun k => impl_Unseen.f k a0 l1 l2 a3 a4 l5 l6 g) (missingM (l1 ++ l2 ++ g)) := by
  have e2 : l1.length + l2.length < 17592186044416 := by omega
  have e3 : (l1 ++ l2).length + g.length < 17592186044416 := by simp; omega
  simp only [impl_Unseen.f, impl_copyOf_f l1 (by omega), Option.bind_some, e2, e3, ↓reduceIte]
  exact Ev.bind (impl_Missing_ev _ (by simp; omega)) (Ev.now _)

/-! laws_eqIntS -/
theorem laws_eqIntS_ev (l : List Int) (hl : l.length ≤ 1099511627776) : Ev (fun k => laws_eqIntS.f k l l) true := by
  simp only [laws_eqIntS.f, ↓reduceIte]
  refine loop_int l hl (P := fun i _ => Ev (fun k => laws_eqIntS.l0 k l l i) true) ?_ ?_
  · refine ev_succ (ev_of_eq fun k => ?_)
    simp only [laws_eqIntS.l0, Int.lt_irrefl, ↓reduceIte]
  · intro i x rest h0 h1 hx _ hw ih
    refine ev_succ ?_
    simp only [laws_eqIntS.l0, h1, h0, ↓reduceIte, hw]
    exact ih

/-! laws_eqSight -/
theorem laws_eqSight_ev (a0 : Int) (l1 l2 : List Int) (a3 a4 : Int) (l5 l6 : List Int) (h1 : l1.length ≤ 1048576) (h2 : l2.length ≤ 1048576) (h5 : l5.length ≤ 1048576) (h6 : l6.length ≤ 1048576) :
    Ev (fun k => laws_eqSight.f k a0 l1 l2 a3 a4 l5 l6 a0 l1 l2 a3 a4 l5 l6) true := by
  simp only [laws_eqSight.f, ↓reduceIte]
  refine Ev.bind (laws_eqIntS_ev l1 (by omega)) ?_
  simp only [↓reduceIte]
  refine Ev.bind (laws_eqIntS_ev l2 (by omega)) ?_
  simp only [↓reduceIte]
  refine Ev.bind (laws_eqIntS_ev l5 (by omega)) ?_
  simp only [↓reduceIte]
  refine Ev.bind (laws_eqIntS_ev l6 (by omega)) ?_
  exact ev_of_eq fun k => by simp only [↓reduceIte]

/-! laws_markIntS -/
theorem laws_markIntS_ev (l : List Int) (hl : l.length ≤ 1099511627776) (a : Int) (ha : 0 ≤ a) (ha2 : a ≤ 4611686018427387904) : Ev (fun k => laws_markIntS.f k l a) (a + l.length, (List.range l.length).map fun j : Nat => a + (j : Int)) := by
  simp only [laws_markIntS.f]
  suffices H : ∀ (n : Nat) (pre rest : List Int) (i : Int), i = pre.length → rest.length = n → (pre ++ rest).length = l.length → Ev (fun k => laws_markIntS.l0 k (pre ++ rest) (a + i) i) (a + l.length, pre ++ (List.range n).map fun j : Nat => a + i + (j : Int)) by
    have := H l.length [] l 0 rfl rfl rfl
    simpa using this
  intro n
  induction n with
  | zero =>
    intro pre rest i hi hr ht
    obtain rfl : rest = [] := List.eq_nil_of_length_eq_zero hr
    refine ev_succ (ev_of_eq fun k => ?_)
    have e : i = (l.length : Int) := by simp at ht; omega
    have e2 : ¬ i < ((pre ++ [] : List Int).length : Int) := by simp; omega
    simp only [laws_markIntS.l0, e2, ↓reduceIte]
    simp [e]
  | succ n ih =>
    intro pre rest i hi hr ht
    obtain ⟨x, rest, rfl⟩ : ∃ x r, rest = x :: r := by cases rest with | nil => simp at hr | cons x r => exact ⟨x, r, rfl⟩
    have h1 : i < ((pre ++ x :: rest : List Int).length : Int) := by simp; omega
    have h0 : 0 ≤ i := by omega
    have hb : i + 1 ≤ (l.length : Int) := by rw [← ht]; omega
    refine ev_succ ?_
    simp only [laws_markIntS.l0, h1, h0, ↓reduceIte]
    rw [set_mid pre rest i hi, w64 (n := a + i + 1) (by omega) (by omega), w64 (n := i + 1) (by omega) (by omega)]
    have := ih (pre ++ [a + i]) rest (i + 1) (by simp; omega) (by simpa using hr) (by simpa using ht)
    rw [show a + (i + 1) = a + i + 1 by omega] at this
    refine ev_eq this ?_
    rw [List.range_succ_eq_map]
    simp [Function.comp_def]
    intro j _
    omega

/-! laws_markSight -/
theorem laws_markSight_ev (a0 : Int) (l1 l2 : List Int) (a3 a4 : Int) (l5 l6 : List Int) (h1 : l1.length ≤ 1048576) (h2 : l2.length ≤ 1048576) (h5 : l5.length ≤ 1048576) (h6 : l6.length ≤ 1048576) (a : Int) (ha : 0 ≤ a) (ha2 : a ≤ 1048576) :
    ∃ m1 m2 m5 m6, Ev (fun k => laws_markSight.f k a0 l1 l2 a3 a4 l5 l6 a) (a + l1.length + l2.length + l5.length + l6.length, m1, m2, m5, m6) := by
  simp only [laws_markSight.f]
  exact ⟨_, _, _, _, Ev.bind (laws_markIntS_ev l1 (by omega) a (by omega) (by omega)) (Ev.bind (laws_markIntS_ev l2 (by omega) _ (by omega) (by omega)) (Ev.bind (laws_markIntS_ev l5 (by omega) _ (by omega) (by omega)) (Ev.bind (laws_markIntS_ev l6 (by omega) _ (by omega) (by omega)) (Ev.now _))))⟩

/-! laws_heldIntS -/
theorem laws_heldIntS_ev (n : Nat) (hl : n ≤ 1099511627776) (a : Int) (ha : 0 ≤ a) (ha2 : a ≤ 4611686018427387904) : Ev (fun k => laws_heldIntS.f k ((List.range n).map fun j : Nat => a + (j : Int)) a) (a + n) := by
  simp only [laws_heldIntS.f]
  have hlen : ((List.range n).map fun j : Nat => a + (j : Int)).length = n := by simp
  have hget : ∀ i : Int, 0 ≤ i → i < (n : Int) → rd ((List.range n).map fun j : Nat => a + (j : Int)) i = a + i := by
    intro i h0 h1
    have : i.toNat < n := by omega
    unfold rd
    simp [List.getD_eq_getElem?_getD, this]
    omega
  generalize (List.range n).map (fun j : Nat => a + (j : Int)) = l at *
  subst hlen
  have := loop_up l.length hl (P := fun i m => Ev (fun k => laws_heldIntS.l0 k l (a + i) i) (a + l.length)) ?_ ?_
  · simpa using this
  · refine ev_succ (ev_of_eq fun k => ?_)
    simp only [laws_heldIntS.l0, Int.lt_irrefl, ↓reduceIte]
  · intro i m h0 h1 _ hw ih
    refine ev_succ ?_
    simp only [laws_heldIntS.l0, h1, h0, ↓reduceIte, hget i h0 h1, hw]
    rw [w64 (n := a + i + 1) (by omega) (by omega), show a + i + 1 = a + (i + 1) by omega]
    exact ih

/-- The pure statement. -/
def FnExactUnseen_Stmt : Prop := ∀ (a0_0 : Int) (a0_1 : (List Int)) (a0_2 : (List Int)) (a0_3 : Int) (a0_4 : Int) (a0_5 : (List Int)) (a0_6 : (List Int)) (a1 : (List Int)), (Lit.int .i64 a0_0).wf = true → a0_1.length ≤ maxLen → (∀ y ∈ a0_1, (Lit.int .i64 y).wf = true) → a0_2.length ≤ maxLen → (∀ y ∈ a0_2, (Lit.int .i64 y).wf = true) → (Lit.int .i64 a0_3).wf = true → (Lit.int .i64 a0_4).wf = true → a0_5.length ≤ maxLen → (∀ y ∈ a0_5, (Lit.int .i64 y).wf = true) → a0_6.length ≤ maxLen → (∀ y ∈ a0_6, (Lit.int .i64 y).wf = true) → a1.length ≤ maxLen → (∀ y ∈ a1, (Lit.int .i64 y).wf = true) → ∃ k, laws_FnExactUnseen.f k a0_0 a0_1 a0_2 a0_3 a0_4 a0_5 a0_6 a1 = some true
theorem FnExactUnseen : FnExactUnseen_Stmt := by
  intro a0 l1 l2 a3 a4 l5 l6 g _ m1 _ m2 _ _ _ m5 _ m6 _ mg _
  refine Ev.rounds (g := fun k => laws_FnExactUnseen.f k a0 l1 l2 a3 a4 l5 l6 g) ?_
  by_cases hb : (g.length : Int) > 1048576
  · exact ev_of_eq fun k => by simp only [laws_FnExactUnseen.f, hb, ↓reduceIte]
  have sg : g.length ≤ 1048576 := by omega
  have hg : g.length ≤ 1099511627776 := by omega
  simp only [laws_FnExactUnseen.f, hb, ↓reduceIte]
  obtain ⟨v, e, z⟩ := laws_szSight_f a0 l1 l2 a3 a4 l5 l6 1048576 m1 m2 m5 m6 (by omega) (by omega)
  simp only [e, Option.bind_some]
  rcases z with z | ⟨y, x, s1, s2, s5, s6⟩
  · exact ev_of_eq fun k => by simp only [z, ↓reduceIte]
  have n : ¬ v < 0 := by omega
  have hm : (missingM (l1 ++ l2 ++ g)).length ≤ 1099511627776 := by have := missingM_len (l1 ++ l2 ++ g); omega
  simp only [n, ↓reduceIte]
  refine Ev.bind (laws_toSight_ev a0 l1 l2 a3 a4 l5 l6 s1 s2 s5 s6) ?_
  refine Ev.bind (laws_toIntS_ev g hg) ?_
  refine Ev.bind (spec_Unseen_ev a0 l1 l2 a3 a4 l5 l6 g s1 s2 sg) ?_
  refine Ev.bind (laws_toSight_ev a0 l1 l2 a3 a4 l5 l6 s1 s2 s5 s6) ?_
  refine Ev.bind (laws_toIntS_ev g hg) ?_
  refine Ev.bind (impl_Unseen_ev a0 l1 l2 a3 a4 l5 l6 g s1 s2 sg) ?_
  refine Ev.bind (laws_eqIntS_ev _ hm) ?_
  simp only [↓reduceIte]
  refine Ev.bind (laws_toSight_ev a0 l1 l2 a3 a4 l5 l6 s1 s2 s5 s6) ?_
  refine Ev.bind (laws_eqSight_ev a0 l1 l2 a3 a4 l5 l6 s1 s2 s5 s6) ?_
  simp only [↓reduceIte]
  refine Ev.bind (laws_toIntS_ev g hg) ?_
  refine Ev.bind (laws_eqIntS_ev g hg) ?_
  simp only [↓reduceIte]
  obtain ⟨q1, q2, q5, q6, hq⟩ := laws_markSight_ev a0 l1 l2 a3 a4 l5 l6 s1 s2 s5 s6 1 (by omega) (by omega)
  refine Ev.bind hq ?_
  refine Ev.bind (laws_markIntS_ev g hg _ (by omega) (by omega)) ?_
  have n1 : ¬ (1 : Int) + (l1.length : Int) + (l2.length : Int) + (l5.length : Int) + (l6.length : Int) + (g.length : Int) < 0 := by omega
  simp only [n1, ↓reduceIte]
  refine Ev.bind (laws_eqIntS_ev _ hm) ?_
  refine ev_succ ?_
  simp only [laws_FnExactUnseen.j0, Bool.not_true, Bool.false_eq_true, ↓reduceIte]
  refine Ev.bind (laws_markIntS_ev _ hm 1 (by omega) (by omega)) ?_
  refine Ev.bind (laws_heldIntS_ev _ hm 1 (by omega) (by omega)) ?_
  have n2 : ¬ (1 : Int) + ((missingM (l1 ++ l2 ++ g)).length : Int) < 0 := by omega
  simp only [n2, ↓reduceIte]
  refine Ev.bind (laws_toSight_ev a0 l1 l2 a3 a4 l5 l6 s1 s2 s5 s6) ?_
  refine Ev.bind (laws_toIntS_ev g hg) ?_
  refine Ev.bind (impl_Unseen_ev a0 l1 l2 a3 a4 l5 l6 g s1 s2 sg) ?_
  refine Ev.bind (laws_eqIntS_ev _ hm) ?_
  simp only [↓reduceIte]
  refine Ev.bind (laws_heldIntS_ev _ hm 1 (by omega) (by omega)) ?_
  exact ev_of_eq fun k => by simp only [n2, ↓reduceIte]

end Go.Proofs.Ytdakhelapeojgaa.Pure
