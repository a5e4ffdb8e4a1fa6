/- The program's CardsHeld answers what the reference's answers, for all arguments. No condition but those that the statement itself names. -/
import Derived.Test.YtdakhelapeojgaaQFnExactCardsHeldx3
import Derived.Test.YtdakhelapeojgaaLib
namespace Go.Proofs.Ytdakhelapeojgaa.Pure
open Go.RowKit Go.Proofs.Ytdakhelapeojgaa.QFnExactCardsHeld Go.Proofs.YtdakhelapeojgaaW.PrintWords Go.Proofs.YtdakhelapeojgaaW.PrintLast Go.Proofs.YtdakhelapeojgaaW.PrintMore Go.Proofs.Ytdakhelapeojgaa.Lib
set_option linter.unusedVariables false
set_option linter.unusedSimpArgs false

/-! laws_eqIntS -/
theorem laws_eqIntS_ev (l : List Int) (hl : l.length ≤ 1099511627776) : Ev (fun k => laws_eqIntS.f k l l) true := by
  simp only [laws_eqIntS.f, ↓reduceIte]
  refine loop_int l hl (P := fun i _ => Ev (fun k => laws_eqIntS.l0 k l l i) true) ?_ ?_
  · refine ev_succ (ev_of_eq fun k => ?_)
    simp only [laws_eqIntS.l0, Int.lt_irrefl, ↓reduceIte]
  · intro i x rest h0 h1 hx _ hw ih
    refine ev_succ ?_
    simp only [laws_eqIntS.l0, h1, h0, ↓reduceIte, hw]
    exact ih

/-! laws_markIntS -/
theorem laws_markIntS_ev (l : List Int) (hl : l.length ≤ 1099511627776) (a : Int) (ha : 0 ≤ a) (ha2 : a ≤ 4611686018427387904) : Ev (fun k => laws_markIntS.f k l a) (a + l.length, (List.range l.length).map fun j : Nat => a + (j : Int)) := by
  simp only [laws_markIntS.f]
  suffices H : ∀ (n : Nat) (pre rest : List Int) (i : Int), i = pre.length → rest.length = n → (pre ++ rest).length = l.length → Ev (fun k => laws_markIntS.l0 k (pre ++ rest) (a + i) i) (a + l.length, pre ++ (List.range n).map fun j : Nat => a + i + (j : Int)) by
    have := H l.length [] l 0 rfl rfl rfl
    simpa using this
  intro n
  induction n with
  | zero =>
    intro pre rest i hi hr ht
    obtain rfl : rest = [] := List.eq_nil_of_length_eq_zero hr
    refine ev_succ (ev_of_eq fun k => ?_)
    have e : i = (l.length : Int) := by simp at ht; omega
    have e2 : ¬ i < ((pre ++ [] : List Int).length : Int) := by simp; omega
    simp only [laws_markIntS.l0, e2, ↓reduceIte]
    simp [e]
  | succ n ih =>
    intro pre rest i hi hr ht
    obtain ⟨x, rest, rfl⟩ : ∃ x r, rest = x :: r := by cases rest with | nil => simp at hr | cons x r => exact ⟨x, r, rfl⟩
    have h1 : i < ((pre ++ x :: rest : List Int).length : Int) := by simp; omega
    have h0 : 0 ≤ i := by omega
    have hb : i + 1 ≤ (l.length : Int) := by rw [← ht]; omega
    refine ev_succ ?_
    simp only [laws_markIntS.l0, h1, h0, ↓reduceIte]
    rw [set_mid pre rest i hi, w64 (n := a + i + 1) (by omega) (by omega), w64 (n := i + 1) (by omega) (by omega)]
    have := ih (pre ++ [a + i]) rest (i + 1) (by simp; omega) (by simpa using hr) (by simpa using ht)
    rw [show a + (i + 1) = a + i + 1 by omega] at this
    refine ev_eq this ?_
    rw [List.range_succ_eq_map]
    simp [Function.comp_def]
    intro j _
    omega

/-! laws_heldIntS -/
theorem laws_heldIntS_ev (n : Nat) (hl : n ≤ 1099511627776) (a : Int) (ha : 0 ≤ a) (ha2 : a ≤ 4611686018427387904) : Ev (fun k => laws_heldIntS.f k ((List.range n).map fun j : Nat => a + (j : Int)) a) (a + n) := by
  simp only [laws_heldIntS.f]
  have hlen : ((List.range n).map fun j : Nat => a + (j : Int)).length = n := by simp
  have hget : ∀ i : Int, 0 ≤ i → i < (n : Int) → rd ((List.range n).map fun j : Nat => a + (j : Int)) i = a + i := by
    intro i h0 h1
    have : i.toNat < n := by omega
    unfold rd
    simp [List.getD_eq_getElem?_getD, this]
    omega
  generalize (List.range n).map (fun j : Nat => a + (j : Int)) = l at *
  subst hlen
  have := loop_up l.length hl (P := fun i m => Ev (fun k => laws_heldIntS.l0 k l (a + i) i) (a + l.length)) ?_ ?_
  · simpa using this
  · refine ev_succ (ev_of_eq fun k => ?_)
    simp only [laws_heldIntS.l0, Int.lt_irrefl, ↓reduceIte]
  · intro i m h0 h1 _ hw ih
    refine ev_succ ?_
    simp only [laws_heldIntS.l0, h1, h0, ↓reduceIte, hget i h0 h1, hw]
    rw [w64 (n := a + i + 1) (by omega) (by omega), show a + i + 1 = a + (i + 1) by omega]
    exact ih

/-! laws_szIntS -/
theorem laws_szIntS_f (l : List Int) (a : Int) (hl : l.length ≤ maxLen) (ha : 0 ≤ a) (ha2 : a ≤ 1048576) : ∃ v, laws_szIntS.f l a = some v ∧ (v < 0 ∨ (0 ≤ v ∧ v ≤ a ∧ l.length ≤ 1048576)) := by
  unfold maxLen at hl
  unfold laws_szIntS.f
  rw [w64 (by omega) (by omega)]
  by_cases h : (l.length : Int) ≤ a
  · exact ⟨_, if_neg (by omega), .inr (by omega)⟩
  · exact ⟨_, if_pos (by omega), .inl (by omega)⟩

/-! laws_szRules -/
theorem laws_szRules_f (a0 a1 : Int) (a2 a3 : Bool) (l4 l5 : List Int) (a6 a7 a : Int) (h4 : l4.length ≤ maxLen) (h5 : l5.length ≤ maxLen) (ha : 0 ≤ a) (ha2 : a ≤ 1048576) :
    ∃ v, laws_szRules.f a0 a1 a2 a3 l4 l5 a6 a7 a = some v ∧ (v < 0 ∨ (0 ≤ v ∧ v ≤ a ∧ l4.length ≤ 1048576 ∧ l5.length ≤ 1048576)) := by
  unfold laws_szRules.f
  obtain ⟨v, e, h⟩ := laws_szIntS_f l4 a h4 ha ha2
  simp only [e, Option.bind_some]
  rcases h with h | ⟨g0, g1, g2⟩
  · exact ⟨_, if_pos h, .inl (by omega)⟩
  · have n1 : ¬ v < 0 := by omega
    simp only [n1, ↓reduceIte]
    obtain ⟨v', e', h'⟩ := laws_szIntS_f l5 v h5 g0 (by omega)
    simp only [e', Option.bind_some]
    rcases h' with h' | ⟨g0', g1', g2'⟩
    · exact ⟨_, if_pos h', .inl (by omega)⟩
    · exact ⟨_, if_neg (by omega), .inr (by omega)⟩

/-! laws_szIntSS -/
theorem laws_szIntSS_ev (l : List (List Int)) (a : Int) (hl : l.length ≤ maxLen) (hm : ∀ y ∈ l, y.length ≤ maxLen) (ha : 0 ≤ a) (ha2 : a ≤ 1048576) : ∃ v, Ev (fun k => laws_szIntSS.f k l a) v ∧ (v < 0 ∨ (0 ≤ v ∧ v ≤ a ∧ l.length ≤ 1048576 ∧ ∀ y ∈ l, y.length ≤ 1048576)) := by
  unfold maxLen at hl
  simp only [laws_szIntSS.f]
  rw [w64 (by omega) (by omega)]
  by_cases c : a - (l.length : Int) < 0
  · exact ⟨-1, ev_of_eq fun k => by simp only [c, ↓reduceIte], Or.inl (by omega)⟩
  · simp only [c, ↓reduceIte]
    have H : ∀ b, 0 ≤ b → b ≤ 1048576 → ∃ v, Ev (fun k => laws_szIntSS.l0 k l b 0) v ∧ (v < 0 ∨ (0 ≤ v ∧ v ≤ b ∧ ∀ y ∈ l, y.length ≤ 1048576)) := by
      refine loop_of l [] (by omega) (P := fun i rest => ∀ b, 0 ≤ b → b ≤ 1048576 → ∃ v, Ev (fun k => laws_szIntSS.l0 k l b i) v ∧ (v < 0 ∨ (0 ≤ v ∧ v ≤ b ∧ ∀ y ∈ rest, y.length ≤ 1048576))) ?_ ?_
      · intro b h0 h1
        exact ⟨b, ev_succ (ev_of_eq fun k => by simp only [laws_szIntSS.l0, Int.lt_irrefl, ↓reduceIte]), Or.inr ⟨h0, by omega, by simp⟩⟩
      · intro i x rest h0 h1 hx hmem hw ih b hb0 hb1
        have hx' : rd_L1 l i = x := hx
        obtain ⟨v, e, hv⟩ := laws_szIntS_f x b (hm x hmem) hb0 hb1
        rcases hv with hv | ⟨v0, v1, vl⟩
        · exact ⟨-1, ev_succ (ev_of_eq fun k => by simp only [laws_szIntSS.l0, h1, h0, hx', e, Option.bind_some, hv, ↓reduceIte]), Or.inl (by omega)⟩
        · obtain ⟨u, eu, hu⟩ := ih v v0 (by omega)
          have nv : ¬ v < 0 := by omega
          refine ⟨u, ev_succ ?_, ?_⟩
          · simp only [laws_szIntSS.l0, h1, h0, hx', e, Option.bind_some, nv, hw, ↓reduceIte]
            exact eu
          · rcases hu with hu | ⟨u0, u1, ul⟩
            · exact Or.inl hu
            · refine Or.inr ⟨u0, by omega, fun y hy => ?_⟩
              rcases List.mem_cons.mp hy with hy | hy
              · rw [hy]; exact vl
              · exact ul y hy
    obtain ⟨v, e, hv⟩ := H (a - l.length) (by omega) (by omega)
    exact ⟨v, e, hv.imp id (fun h => ⟨h.1, by omega, by omega, h.2.2⟩)⟩

/-! laws_szGame -/
theorem laws_szGame_ev (a0 a1 : Int) (a2 a3 : Bool) (l4 l5 : List Int) (a6 a7 : Int) (l8 : List (List Int)) (l9 l10 : List Int) (a11 a12 a13 a : Int) (h4 : l4.length ≤ maxLen) (h5 : l5.length ≤ maxLen) (h8 : l8.length ≤ maxLen) (hm : ∀ y ∈ l8, y.length ≤ maxLen) (h9 : l9.length ≤ maxLen) (h10 : l10.length ≤ maxLen) (ha : 0 ≤ a) (ha2 : a ≤ 1048576) :
    ∃ v, Ev (fun k => laws_szGame.f k a0 a1 a2 a3 l4 l5 a6 a7 l8 l9 l10 a11 a12 a13 a) v ∧ (v < 0 ∨ (0 ≤ v ∧ v ≤ a ∧ l4.length ≤ 1048576 ∧ l5.length ≤ 1048576 ∧ l8.length ≤ 1048576 ∧ (∀ y ∈ l8, y.length ≤ 1048576) ∧ l9.length ≤ 1048576 ∧ l10.length ≤ 1048576)) := by
  simp only [laws_szGame.f]
  obtain ⟨v, e, hv⟩ := laws_szRules_f a0 a1 a2 a3 l4 l5 a6 a7 a h4 h5 ha ha2
  rcases hv with hv | ⟨v0, v1, b4, b5⟩
  · exact ⟨-1, ev_of_eq fun k => by simp only [e, Option.bind_some, hv, ↓reduceIte], Or.inl (by omega)⟩
  have n0 : ¬ v < 0 := by omega
  simp only [e, Option.bind_some, n0, ↓reduceIte]
  obtain ⟨u, eu, hu⟩ := laws_szIntSS_ev l8 v h8 hm v0 (by omega)
  rcases hu with hu | ⟨u0, u1, b8, bm⟩
  · exact ⟨-1, Ev.bind eu (ev_of_eq fun k => by simp only [hu, ↓reduceIte]), Or.inl (by omega)⟩
  have n1 : ¬ u < 0 := by omega
  obtain ⟨t, et, ht⟩ := laws_szIntS_f l9 u h9 u0 (by omega)
  rcases ht with ht | ⟨t0, t1, b9⟩
  · exact ⟨-1, Ev.bind eu (ev_of_eq fun k => by simp only [n1, et, Option.bind_some, ht, ↓reduceIte]), Or.inl (by omega)⟩
  have n2 : ¬ t < 0 := by omega
  obtain ⟨s, es, hs⟩ := laws_szIntS_f l10 t h10 t0 (by omega)
  rcases hs with hs | ⟨s0, s1, b10⟩
  · exact ⟨-1, Ev.bind eu (ev_of_eq fun k => by simp only [n1, n2, et, es, Option.bind_some, hs, ↓reduceIte]), Or.inl (by omega)⟩
  have n3 : ¬ s < 0 := by omega
  exact ⟨s, Ev.bind eu (ev_of_eq fun k => by simp only [n1, n2, n3, et, es, Option.bind_some, ↓reduceIte]), Or.inr ⟨s0, by omega, b4, b5, b8, bm, b9, b10⟩⟩

/-! spec_CardsHeld -/
theorem spec_CardsHeld_ev (a0 a1 : Int) (a2 a3 : Bool) (l4 l5 : List Int) (a6 a7 : Int) (l8 : List (List Int)) (l9 l10 : List Int) (a11 a12 a13 : Int) (h8 : l8.length ≤ 1048576) :
    Ev (fun k => spec_CardsHeld.f k a0 a1 a2 a3 l4 l5 a6 a7 l8 l9 l10 a11 a12 a13) (l8.map fun r => (r.length : Int)) := by
  simp only [spec_CardsHeld.f]
  refine loop_pre l8 [] (by omega) (P := fun i pre rest => Ev (fun k => spec_CardsHeld.l0 k (pre.map fun r => (r.length : Int)) i a0 a1 a2 a3 l4 l5 a6 a7 l8 l9 l10 a11 a12 a13) (l8.map fun r => (r.length : Int))) ?_ ?_
  · refine ev_succ (ev_of_eq fun k => ?_)
    simp only [spec_CardsHeld.l0, Int.lt_irrefl, ↓reduceIte]
  · intro i pre x rest hl' hi h0 h1 hx hw ih
    have hx' : rd_L1 l8 i = x := hx
    have h2 : (pre.map fun r => (r.length : Int)).length < 17592186044416 := by rw [List.length_map]; omega
    refine ev_succ ?_
    simp only [spec_CardsHeld.l0, h1, h0, h2, ↓reduceIte, hx', hw]
    simpa using ih

/-! laws_toIntS -/
theorem laws_toIntS_ev (l : List Int) (hl : l.length ≤ 1099511627776) : Ev (fun k => laws_toIntS.f k l) l := by
  have e1 : (0 : Int) ≤ (l.length : Int) := by omega
  have e2 : ((l.length : Int) : Int).toNat ≤ 35184372088832 := by omega
  simp only [laws_toIntS.f, e1, e2, ↓reduceIte]
  refine loop_int_pre l hl (P := fun i pre rest => Ev (fun k => laws_toIntS.l0 k l (pre ++ List.replicate rest.length 0) i) l) ?_ ?_
  · refine ev_succ (ev_of_eq fun k => ?_)
    simp only [laws_toIntS.l0, Int.lt_irrefl, ↓reduceIte, List.length_nil, List.replicate_zero, List.append_nil]
  · intro i pre x rest hl' hi h0 h1 hx hw ih
    refine ev_succ ?_
    have h2 : i < ((pre ++ List.replicate (x :: rest).length 0 : List Int).length : Int) := by simp; omega
    simp only [laws_toIntS.l0, h1, h0, h2, ↓reduceIte, hx, hw]
    rw [List.length_cons, List.replicate_succ, set_mid pre _ i hi]
    exact ih

/-! laws_toRules -/
theorem laws_toRules_ev (a0 a1 : Int) (a2 a3 : Bool) (l4 l5 : List Int) (a6 a7 : Int) (h4 : l4.length ≤ 1048576) (h5 : l5.length ≤ 1048576) :
    Ev (fun k => laws_toRules.f k a0 a1 a2 a3 l4 l5 a6 a7) (a0, a1, a2, a3, l4, l5, a6, a7) := by
  simp only [laws_toRules.f]
  exact Ev.bind (laws_toIntS_ev l4 (by omega)) (Ev.bind (laws_toIntS_ev l5 (by omega)) (Ev.now _))

/-! laws_toIntSS -/
theorem laws_toIntSS_ev (l : List (List Int)) (hl : l.length ≤ 1048576) (hm : ∀ y ∈ l, y.length ≤ 1048576) : Ev (fun k => laws_toIntSS.f k l) l := by
  have e1 : (0 : Int) ≤ (l.length : Int) := by omega
  have e2 : ((l.length : Int) : Int).toNat ≤ 11728124029610 := by omega
  simp only [laws_toIntSS.f, e1, e2, ↓reduceIte]
  refine loop_pre l [] (by omega) (P := fun i pre rest => Ev (fun k => laws_toIntSS.l0 k l (pre ++ List.replicate rest.length []) i) l) ?_ ?_
  · refine ev_succ (ev_of_eq fun k => ?_)
    simp only [laws_toIntSS.l0, Int.lt_irrefl, ↓reduceIte, List.length_nil, List.replicate_zero, List.append_nil]
  · intro i pre x rest hl' hi h0 h1 hx hw ih
    have hx' : rd_L1 l i = x := hx
    refine ev_succ ?_
    have h2 : i < ((pre ++ List.replicate (x :: rest).length ([] : List Int)).length : Int) := by simp; omega
    simp only [laws_toIntSS.l0, h1, h0, h2, ↓reduceIte, hx', hw]
    have hxl := hm x (by rw [hl']; simp)
    refine Ev.bind (laws_toIntS_ev x (by omega)) ?_
    rw [List.length_cons, List.replicate_succ, set_mid pre _ i (by omega)]
    exact ih

/-! laws_toGame -/
theorem laws_toGame_ev (a0 a1 : Int) (a2 a3 : Bool) (l4 l5 : List Int) (a6 a7 : Int) (l8 : List (List Int)) (l9 l10 : List Int) (a11 a12 a13 : Int) (h4 : l4.length ≤ 1048576) (h5 : l5.length ≤ 1048576) (h8 : l8.length ≤ 1048576) (hm : ∀ y ∈ l8, y.length ≤ 1048576) (h9 : l9.length ≤ 1048576) (h10 : l10.length ≤ 1048576) :
    Ev (fun k => laws_toGame.f k a0 a1 a2 a3 l4 l5 a6 a7 l8 l9 l10 a11 a12 a13) (a0, a1, a2, a3, l4, l5, a6, a7, l8, l9, l10, a11, a12, a13) := by
  simp only [laws_toGame.f]
  exact Ev.bind (laws_toRules_ev a0 a1 a2 a3 l4 l5 a6 a7 h4 h5) (Ev.bind (laws_toIntSS_ev l8 h8 hm) (Ev.bind (laws_toIntS_ev l9 (by omega)) (Ev.bind (laws_toIntS_ev l10 (by omega)) (Ev.now _))))

/-! impl_sizes -/
theorem impl_sizes_ev (l : List (List Int)) (hl : l.length ≤ 1048576) : Ev (fun k => impl_sizes.f k l) (l.map fun r => (r.length : Int)) := by
  simp only [impl_sizes.f]
  refine loop_pre l [] (by omega) (P := fun i pre rest => Ev (fun k => impl_sizes.l0 k (pre.map fun r => (r.length : Int)) l (l.length : Int) i) (l.map fun r => (r.length : Int))) ?_ ?_
  · refine ev_succ (ev_of_eq fun k => ?_)
    simp only [impl_sizes.l0, Int.lt_irrefl, ↓reduceIte]
  · intro i pre x rest hl' hi h0 h1 hx hw ih
    have hx' : rd_L1 l i = x := hx
    have h2 : (pre.map fun r => (r.length : Int)).length < 17592186044416 := by rw [List.length_map]; omega
    refine ev_succ ?_
    simp only [impl_sizes.l0, h1, h0, h2, ↓reduceIte, hx', hw]
    simpa using ih

/-! impl_CardsHeld -/
theorem impl_CardsHeld_ev (a0 a1 : Int) (a2 a3 : Bool) (l4 l5 : List Int) (a6 a7 : Int) (l8 : List (List Int)) (l9 l10 : List Int) (a11 a12 a13 : Int) (h8 : l8.length ≤ 1048576) :
    Ev (fun k => impl_CardsHeld.f k a0 a1 a2 a3 l4 l5 a6 a7 l8 l9 l10 a11 a12 a13) (l8.map fun r => (r.length : Int)) := by
  simp only [impl_CardsHeld.f]
  exact Ev.bind (impl_sizes_ev l8 h8) (Ev.now _)

/-! laws_eqRules -/
theorem laws_eqRules_ev (a0 a1 : Int) (a2 a3 : Bool) (l4 l5 : List Int) (a6 a7 : Int) (h4 : l4.length ≤ 1048576) (h5 : l5.length ≤ 1048576) :
    Ev (fun k => laws_eqRules.f k a0 a1 a2 a3 l4 l5 a6 a7 a0 a1 a2 a3 l4 l5 a6 a7) true := by
  simp only [laws_eqRules.f, bne_self_eq_false, Bool.false_eq_true, ↓reduceIte]
  refine Ev.bind (laws_eqIntS_ev l4 (by omega)) ?_
  simp only [↓reduceIte]
  refine Ev.bind (laws_eqIntS_ev l5 (by omega)) ?_
  exact ev_of_eq fun k => by simp only [↓reduceIte]

/-! laws_eqIntSS -/
theorem laws_eqIntSS_ev (l : List (List Int)) (hl : l.length ≤ 1048576) (hm : ∀ y ∈ l, y.length ≤ 1048576) : Ev (fun k => laws_eqIntSS.f k l l) true := by
  simp only [laws_eqIntSS.f, ↓reduceIte]
  refine loop_of l [] (by omega) (P := fun i _ => Ev (fun k => laws_eqIntSS.l0 k l l i) true) ?_ ?_
  · refine ev_succ (ev_of_eq fun k => ?_)
    simp only [laws_eqIntSS.l0, Int.lt_irrefl, ↓reduceIte]
  · intro i x rest h0 h1 hx hmem hw ih
    have hx' : rd_L1 l i = x := hx
    have hxl := hm x hmem
    refine ev_succ ?_
    simp only [laws_eqIntSS.l0, h1, h0, hx', ↓reduceIte, hw]
    refine Ev.bind (laws_eqIntS_ev x (by omega)) ?_
    simp only [↓reduceIte]
    exact ih

/-! laws_eqGame -/
theorem laws_eqGame_ev (a0 a1 : Int) (a2 a3 : Bool) (l4 l5 : List Int) (a6 a7 : Int) (l8 : List (List Int)) (l9 l10 : List Int) (a11 a12 a13 : Int) (h4 : l4.length ≤ 1048576) (h5 : l5.length ≤ 1048576) (h8 : l8.length ≤ 1048576) (hm : ∀ y ∈ l8, y.length ≤ 1048576) (h9 : l9.length ≤ 1048576) (h10 : l10.length ≤ 1048576) :
    Ev (fun k => laws_eqGame.f k a0 a1 a2 a3 l4 l5 a6 a7 l8 l9 l10 a11 a12 a13 a0 a1 a2 a3 l4 l5 a6 a7 l8 l9 l10 a11 a12 a13) true := by
  simp only [laws_eqGame.f]
  refine Ev.bind (laws_eqRules_ev a0 a1 a2 a3 l4 l5 a6 a7 h4 h5) ?_
  simp only [↓reduceIte]
  refine Ev.bind (laws_eqIntSS_ev l8 h8 hm) ?_
  simp only [↓reduceIte]
  refine Ev.bind (laws_eqIntS_ev l9 (by omega)) ?_
  simp only [↓reduceIte]
  refine Ev.bind (laws_eqIntS_ev l10 (by omega)) ?_
  exact ev_of_eq fun k => by simp only [↓reduceIte]

/-! laws_markRules -/
theorem laws_markRules_ev (a0 a1 : Int) (a2 a3 : Bool) (l4 l5 : List Int) (a6 a7 : Int) (h4 : l4.length ≤ 1048576) (h5 : l5.length ≤ 1048576) (a : Int) (ha : 0 ≤ a) (ha2 : a ≤ 1048576) :
    ∃ m4 m5, Ev (fun k => laws_markRules.f k a0 a1 a2 a3 l4 l5 a6 a7 a) (a + l4.length + l5.length, m4, m5) := by
  simp only [laws_markRules.f]
  exact ⟨_, _, Ev.bind (laws_markIntS_ev l4 (by omega) a (by omega) (by omega)) (Ev.bind (laws_markIntS_ev l5 (by omega) _ (by omega) (by omega)) (Ev.now _))⟩

/-! laws_markIntSS -/
theorem laws_markIntSS_ev (l : List (List Int)) (hl : l.length ≤ 1048576) (hm : ∀ y ∈ l, y.length ≤ 1048576) (a : Int) (ha : 0 ≤ a) (ha2 : a ≤ 1099511627776) :
    ∃ v m, Ev (fun k => laws_markIntSS.f k l a) (v, m) ∧ 0 ≤ v ∧ v ≤ a + (l.length : Int) * 1048576 := by
  simp only [laws_markIntSS.f]
  suffices H : ∀ (rest pre : List (List Int)) (b : Int), (pre ++ rest).length ≤ 1048576 → (∀ y ∈ rest, y.length ≤ 1048576) → 0 ≤ b → b ≤ a + (pre.length : Int) * 1048576 → ∃ v m, Ev (fun k => laws_markIntSS.l0 k (pre ++ rest) b (pre.length : Int)) (v, m) ∧ 0 ≤ v ∧ v ≤ a + ((pre ++ rest).length : Int) * 1048576 by
    simpa using H l [] a hl hm ha (by simp)
  intro rest
  induction rest with
  | nil =>
    intro pre b _ _ h0 h1
    refine ⟨b, pre ++ [], ev_succ (ev_of_eq fun k => ?_), h0, by simpa using h1⟩
    simp only [laws_markIntSS.l0]
    rw [if_neg (by simp)]
  | cons x rest ih =>
    intro pre b hl hm h0 h1
    have hx := hm x (by simp)
    have hl' : pre.length + (rest.length + 1) ≤ 1048576 := by simpa using hl
    obtain ⟨v, m, e, h⟩ := ih (pre ++ [(List.range x.length).map fun j : Nat => b + (j : Int)]) (b + x.length) (by simp; omega) (fun y hy => hm y (by simp [hy])) (by omega) (by simp; omega)
    refine ⟨v, m, ev_succ ?_, by simpa using h⟩
    have hr : rd_L1 (pre ++ x :: rest) (pre.length : Int) = x := getD_mid pre rest _ rfl x []
    simp only [laws_markIntSS.l0, hr]
    have c1 : (pre.length : Int) < ((pre ++ x :: rest).length : Int) := by simp; omega
    have c2 : (0 : Int) ≤ (pre.length : Int) := by omega
    simp only [c1, c2, ↓reduceIte]
    refine Ev.bind (laws_markIntS_ev x (by omega) b (by omega) (by omega)) ?_
    rw [set_mid pre rest _ rfl, w64 (n := (pre.length : Int) + 1) (by omega) (by omega)]
    simpa using e

/-! laws_markGame -/
theorem laws_markGame_ev (a0 a1 : Int) (a2 a3 : Bool) (l4 l5 : List Int) (a6 a7 : Int) (l8 : List (List Int)) (l9 l10 : List Int) (h4 : l4.length ≤ 1048576) (h5 : l5.length ≤ 1048576) (h8 : l8.length ≤ 1048576) (hm : ∀ y ∈ l8, y.length ≤ 1048576) (h9 : l9.length ≤ 1048576) (h10 : l10.length ≤ 1048576) (a : Int) (ha : 0 ≤ a) (ha2 : a ≤ 1048576) :
    ∃ v, Ev (fun k => laws_markGame.f k a0 a1 a2 a3 l4 l5 a6 a7 l8 l9 l10 a) v ∧ 0 ≤ v := by
  simp only [laws_markGame.f]
  obtain ⟨m4, m5, e⟩ := laws_markRules_ev a0 a1 a2 a3 l4 l5 a6 a7 h4 h5 a ha ha2
  obtain ⟨v, m, f, v0, v1⟩ := laws_markIntSS_ev l8 h8 hm (a + l4.length + l5.length) (by omega) (by omega)
  exact ⟨v + l9.length + l10.length, Ev.bind e (Ev.bind f (Ev.bind (laws_markIntS_ev l9 (by omega) _ v0 (by omega)) (Ev.bind (laws_markIntS_ev l10 (by omega) _ (by omega) (by omega)) (Ev.now _)))), by omega⟩

/-- The pure statement. -/
def FnExactCardsHeld_Stmt : Prop := ∀ (a0_0_0 : Int) (a0_0_1 : Int) (a0_0_2 : Bool) (a0_0_3 : Bool) (a0_0_4 : (List Int)) (a0_0_5 : (List Int)) (a0_0_6 : Int) (a0_0_7 : Int) (a0_1 : (List (List Int))) (a0_2 : (List Int)) (a0_3 : (List Int)) (a0_4 : Int) (a0_5 : Int) (a0_6 : Int), (Lit.int .i64 a0_0_0).wf = true → (Lit.int .i64 a0_0_1).wf = true → a0_0_4.length ≤ maxLen → (∀ y ∈ a0_0_4, (Lit.int .i64 y).wf = true) → a0_0_5.length ≤ maxLen → (∀ y ∈ a0_0_5, (Lit.int .i64 y).wf = true) → (Lit.int .i64 a0_0_6).wf = true → (Lit.int .i64 a0_0_7).wf = true → a0_1.length ≤ maxLen → (∀ y ∈ a0_1, y.length ≤ maxLen ∧ ∀ y22 ∈ y, (Lit.int .i64 y22).wf = true) → a0_2.length ≤ maxLen → (∀ y ∈ a0_2, (Lit.int .i64 y).wf = true) → a0_3.length ≤ maxLen → (∀ y ∈ a0_3, (Lit.int .i64 y).wf = true) → (Lit.int .i64 a0_4).wf = true → (Lit.int .i64 a0_5).wf = true → (Lit.int .i64 a0_6).wf = true → ∃ k, laws_FnExactCardsHeld.f k a0_0_0 a0_0_1 a0_0_2 a0_0_3 a0_0_4 a0_0_5 a0_0_6 a0_0_7 a0_1 a0_2 a0_3 a0_4 a0_5 a0_6 = some true
theorem FnExactCardsHeld : FnExactCardsHeld_Stmt := by
  intro a0 a1 a2 a3 l4 l5 a6 a7 l8 l9 l10 a11 a12 a13 _ _ m4 _ m5 _ _ _ m8 mm m9 _ m10 _ _ _ _
  refine Ev.rounds (g := fun k => laws_FnExactCardsHeld.f k a0 a1 a2 a3 l4 l5 a6 a7 l8 l9 l10 a11 a12 a13) ?_
  simp only [laws_FnExactCardsHeld.f]
  obtain ⟨v, e, z⟩ := laws_szGame_ev a0 a1 a2 a3 l4 l5 a6 a7 l8 l9 l10 a11 a12 a13 1048576 m4 m5 m8 (fun y hy => (mm y hy).1) m9 m10 (by omega) (by omega)
  refine Ev.bind e ?_
  rcases z with z | ⟨z0, z1, s4, s5, s8, sm, s9, s10⟩
  · exact ev_of_eq fun k => by simp only [z, ↓reduceIte]
  have n : ¬ v < 0 := by omega
  simp only [n, ↓reduceIte]
  have hl : (l8.map fun r => (r.length : Int)).length ≤ 1099511627776 := by rw [List.length_map]; omega
  obtain ⟨m, em, m0⟩ := laws_markGame_ev a0 a1 a2 a3 l4 l5 a6 a7 l8 l9 l10 s4 s5 s8 sm s9 s10 1 (by omega) (by omega)
  refine Ev.bind (laws_toGame_ev a0 a1 a2 a3 l4 l5 a6 a7 l8 l9 l10 a11 a12 a13 s4 s5 s8 sm s9 s10) ?_
  refine Ev.bind (spec_CardsHeld_ev a0 a1 a2 a3 l4 l5 a6 a7 l8 l9 l10 a11 a12 a13 s8) ?_
  refine Ev.bind (impl_CardsHeld_ev a0 a1 a2 a3 l4 l5 a6 a7 l8 l9 l10 a11 a12 a13 s8) ?_
  refine Ev.bind (laws_eqIntS_ev _ hl) ?_
  refine Ev.bind (laws_eqGame_ev a0 a1 a2 a3 l4 l5 a6 a7 l8 l9 l10 a11 a12 a13 s4 s5 s8 sm s9 s10) ?_
  refine Ev.bind em ?_
  refine Ev.bind (laws_markIntS_ev _ hl 1 (by omega) (by omega)) ?_
  refine Ev.bind (laws_heldIntS_ev _ hl 1 (by omega) (by omega)) ?_
  refine ev_of_eq fun k => ?_
  rw [if_pos ⟨rfl, rfl, m0, by omega, rfl⟩]

end Go.Proofs.Ytdakhelapeojgaa.Pure
