/- The program's EqualRules answers what the reference's answers, for all arguments. No condition but those that the statement itself names. -/
import Derived.Test.YtjkjjpbapggpnaaQFnExactEqualRulesx3
import Derived.Test.YtjkjjpbapggpnaaLib
namespace Go.Proofs.Ytjkjjpbapggpnaa.Pure
open Go.RowKit Go.Proofs.Ytjkjjpbapggpnaa.QFnExactEqualRules Go.Proofs.YtjkjjpbapggpnaaW.PrintWords Go.Proofs.YtjkjjpbapggpnaaW.PrintLast Go.Proofs.YtjkjjpbapggpnaaW.PrintMore Go.Proofs.Ytjkjjpbapggpnaa.Lib
set_option linter.unusedVariables false
set_option linter.unusedSimpArgs false

/-! laws_eqIntS -/
theorem laws_eqIntS_ev (l : List Int) (hl : l.length ≤ 1099511627776) : Ev (fun k => laws_eqIntS.f k l l) true := by
  simp only [laws_eqIntS.f, ↓reduceIte]
  refine loop_int l hl (P := fun i _ => Ev (fun k => laws_eqIntS.l0 k l l i) true) ?_ ?_
  · refine ev_succ (ev_of_eq fun k => ?_)
    simp only [laws_eqIntS.l0, Int.lt_irrefl, ↓reduceIte]
  · intro i x rest h0 h1 hx _ hw ih
    refine ev_succ ?_
    simp only [laws_eqIntS.l0, h1, h0, ↓reduceIte, hw]
    exact ih

/-! laws_eqRules -/
theorem laws_eqRules_ev (a0 a1 : Int) (a2 a3 : Bool) (l4 l5 : List Int) (a6 a7 : Int) (h4 : l4.length ≤ 1048576) (h5 : l5.length ≤ 1048576) :
    Ev (fun k => laws_eqRules.f k a0 a1 a2 a3 l4 l5 a6 a7 a0 a1 a2 a3 l4 l5 a6 a7) true := by
  simp only [laws_eqRules.f, bne_self_eq_false, Bool.false_eq_true, ↓reduceIte]
  refine Ev.bind (laws_eqIntS_ev l4 (by omega)) ?_
  simp only [↓reduceIte]
  refine Ev.bind (laws_eqIntS_ev l5 (by omega)) ?_
  exact ev_of_eq fun k => by simp only [↓reduceIte]

/-! laws_szIntS -/
theorem laws_szIntS_f (l : List Int) (a : Int) (hl : l.length ≤ maxLen) (ha : 0 ≤ a) (ha2 : a ≤ 1048576) : ∃ v, laws_szIntS.f l a = some v ∧ (v < 0 ∨ (0 ≤ v ∧ v ≤ a ∧ l.length ≤ 1048576)) := by
  unfold maxLen at hl
  unfold laws_szIntS.f
  rw [w64 (by omega) (by omega)]
  by_cases h : (l.length : Int) ≤ a
  · exact ⟨_, if_neg (by omega), .inr (by omega)⟩
  · exact ⟨_, if_pos (by omega), .inl (by omega)⟩

/-! laws_szRules -/
theorem laws_szRules_f (a0 a1 : Int) (a2 a3 : Bool) (l4 l5 : List Int) (a6 a7 a : Int) (h4 : l4.length ≤ maxLen) (h5 : l5.length ≤ maxLen) (ha : 0 ≤ a) (ha2 : a ≤ 1048576) :
    ∃ v, laws_szRules.f a0 a1 a2 a3 l4 l5 a6 a7 a = some v ∧ (v < 0 ∨ (0 ≤ v ∧ v ≤ a ∧ l4.length ≤ 1048576 ∧ l5.length ≤ 1048576)) := by
  unfold laws_szRules.f
  obtain ⟨v, e, h⟩ := laws_szIntS_f l4 a h4 ha ha2
  simp only [e, Option.bind_some]
  rcases h with h | ⟨g0, g1, g2⟩
  · exact ⟨_, if_pos h, .inl (by omega)⟩
  · have n1 : ¬ v < 0 := by omega
    simp only [n1, ↓reduceIte]
    obtain ⟨v', e', h'⟩ := laws_szIntS_f l5 v h5 g0 (by omega)
    simp only [e', Option.bind_some]
    rcases h' with h' | ⟨g0', g1', g2'⟩
    · exact ⟨_, if_pos h', .inl (by omega)⟩
    · exact ⟨_, if_neg (by omega), .inr (by omega)⟩

/-! laws_toIntS -/
theorem laws_toIntS_ev (l : List Int) (hl : l.length ≤ 1099511627776) : Ev (fun k => laws_toIntS.f k l) l := by
  have e1 : (0 : Int) ≤ (l.length : Int) := by omega
  have e2 : ((l.length : Int) : Int).toNat ≤ 35184372088832 := by omega
  simp only [laws_toIntS.f, e1, e2, ↓reduceIte]
  refine loop_int_pre l hl (P := fun i pre rest => Ev (fun k => laws_toIntS.l0 k l (pre ++ List.replicate rest.length 0) i) l) ?_ ?_
  · refine ev_succ (ev_of_eq fun k => ?_)
    simp only [laws_toIntS.l0, Int.lt_irrefl, ↓reduceIte, List.length_nil, List.replicate_zero, List.append_nil]
  · intro i pre x rest hl' hi h0 h1 hx hw ih
    refine ev_succ ?_
    have h2 : i < ((pre ++ List.replicate (x :: rest).length 0 : List Int).length : Int) := by simp; omega
    simp only [laws_toIntS.l0, h1, h0, h2, ↓reduceIte, hx, hw]
    rw [List.length_cons, List.replicate_succ, set_mid pre _ i hi]
    exact ih

/-! laws_toRules -/
theorem laws_toRules_ev (a0 a1 : Int) (a2 a3 : Bool) (l4 l5 : List Int) (a6 a7 : Int) (h4 : l4.length ≤ 1048576) (h5 : l5.length ≤ 1048576) :
    Ev (fun k => laws_toRules.f k a0 a1 a2 a3 l4 l5 a6 a7) (a0, a1, a2, a3, l4, l5, a6, a7) := by
  simp only [laws_toRules.f]
  exact Ev.bind (laws_toIntS_ev l4 (by omega)) (Ev.bind (laws_toIntS_ev l5 (by omega)) (Ev.now _))

/-! spec_EqualInts -/
theorem spec_EqualInts_ev (a b : List Int) (ha : a.length ≤ 1099511627776) : Ev (fun k => spec_EqualInts.f k a b) (decide (a = b)) := by
  simp only [spec_EqualInts.f]
  by_cases h : a.length = b.length
  · have h' : (a.length : Int) = (b.length : Int) := by omega
    simp only [h', ↓reduceIte]
    suffices H : ∀ b', b = b' → b'.length = a.length → Ev (fun k => spec_EqualInts.l0 k a b 0) (decide (a = b')) from H b rfl h.symm
    refine loop_int_pre a ha (P := fun i pre rest => ∀ b', b = b' → b'.length = a.length → Ev (fun k => spec_EqualInts.l0 k a b i) (decide (rest = b'.drop pre.length))) ?_ ?_
    · intro b' _ hb
      refine ev_succ (ev_of_eq fun k => ?_)
      simp only [spec_EqualInts.l0, Int.lt_irrefl, ↓reduceIte]
      rw [List.drop_of_length_le (by omega)]
      simp
    · intro i pre x rest hl hi h0 h1 hx hw ih b' hbb hb
      have h2 : i < (b.length : Int) := by omega
      have hp : pre.length < b'.length := by omega
      have hd : b'.drop pre.length = rd b i :: b'.drop (pre.length + 1) := by
        subst hbb
        rw [List.drop_eq_getElem_cons hp]
        unfold rd
        rw [hi, Int.toNat_natCast]
        simp [List.getD_eq_getElem?_getD, List.getElem?_eq_getElem hp]
      refine ev_succ ?_
      simp only [spec_EqualInts.l0, h1, h0, h2, ↓reduceIte, hx, hw, hd]
      by_cases g : x = rd b i
      · have := ih b' hbb hb
        rw [List.length_append, List.length_singleton] at this
        simp only [g, ↓reduceIte, List.cons.injEq, true_and]
        exact this
      · refine ev_of_eq fun k => ?_
        simp [g]
  · have h' : ¬ (a.length : Int) = (b.length : Int) := by omega
    simp only [h', ↓reduceIte]
    refine ev_of_eq fun k => ?_
    have : ¬ a = b := fun e => h (by rw [e])
    simp [this]

/-! spec_EqualRules -/
theorem spec_EqualRules_ev (a0 a1 : Int) (a2 a3 : Bool) (l4 l5 : List Int) (a6 a7 : Int) (b0 b1 : Int) (b2 b3 : Bool) (m4 m5 : List Int) (b6 b7 : Int) (h4 : l4.length ≤ 1048576) (h5 : l5.length ≤ 1048576) :
    Ev (fun k => spec_EqualRules.f k a0 a1 a2 a3 l4 l5 a6 a7 b0 b1 b2 b3 m4 m5 b6 b7) (decide (a0 = b0 ∧ a1 = b1 ∧ a2 = b2 ∧ a3 = b3 ∧ l4 = m4 ∧ l5 = m5 ∧ a6 = b6 ∧ a7 = b7)) := by
  simp only [spec_EqualRules.f, beq_iff_eq]
  by_cases c0 : a0 = b0
  · by_cases c1 : a1 = b1
    · by_cases c2 : a2 = b2
      · by_cases c3 : a3 = b3
        · simp only [c0, c1, c2, c3, ↓reduceIte]
          refine Ev.bind (spec_EqualInts_ev l4 m4 (by omega)) ?_
          by_cases c4 : l4 = m4
          · simp only [c4, decide_true, ↓reduceIte]
            refine Ev.bind (spec_EqualInts_ev l5 m5 (by omega)) ?_
            refine ev_of_eq fun k => ?_
            by_cases c5 : l5 = m5 <;> by_cases c6 : a6 = b6 <;> simp [c5, c6]
            by_cases c7 : a7 = b7 <;> simp [c7]
          · refine ev_of_eq fun k => ?_
            simp [c4]
        · refine ev_of_eq fun k => ?_
          simp [c3]
      · refine ev_of_eq fun k => ?_
        simp [c2]
    · refine ev_of_eq fun k => ?_
      simp [c1]
  · refine ev_of_eq fun k => ?_
    simp [c0]

/-! impl_EqualInts -/
theorem impl_EqualInts_ev (a b : List Int) (ha : a.length ≤ 1099511627776) : Ev (fun k => impl_EqualInts.f k a b) (decide (a = b)) := by
  simp only [impl_EqualInts.f]
  by_cases h : a.length = b.length
  · have h' : (a.length : Int) = (b.length : Int) := by omega
    simp only [if_pos h']
    suffices H : ∀ b', b = b' → b'.length = a.length → Ev (fun k => impl_EqualInts.l0 k a b (a.length : Int) 0) (decide (a = b')) from H b rfl h.symm
    refine loop_int_pre a ha (P := fun i pre rest => ∀ b', b = b' → b'.length = a.length → Ev (fun k => impl_EqualInts.l0 k a b (a.length : Int) i) (decide (rest = b'.drop pre.length))) ?_ ?_
    · intro b' _ hb
      refine ev_succ (ev_of_eq fun k => ?_)
      simp only [impl_EqualInts.l0, Int.lt_irrefl, ↓reduceIte]
      rw [List.drop_of_length_le (by omega)]
      simp
    · intro i pre x rest hl hi h0 h1 hx hw ih b' hbb hb
      have h2 : i < (b.length : Int) := by omega
      have hp : pre.length < b'.length := by omega
      have hd : b'.drop pre.length = rd b i :: b'.drop (pre.length + 1) := by
        subst hbb
        rw [List.drop_eq_getElem_cons hp]
        unfold rd
        rw [hi, Int.toNat_natCast]
        simp [List.getD_eq_getElem?_getD, List.getElem?_eq_getElem hp]
      refine ev_succ ?_
      simp only [impl_EqualInts.l0, h1, h0, h2, ↓reduceIte, hx, hw, hd]
      by_cases g : x = rd b i
      · have := ih b' hbb hb
        rw [List.length_append, List.length_singleton] at this
        simp only [g, ↓reduceIte, List.cons.injEq, true_and]
        exact this
      · refine ev_of_eq fun k => ?_
        simp [g]
  · have h' : ¬ (a.length : Int) = (b.length : Int) := by omega
    simp only [h', ↓reduceIte]
    refine ev_of_eq fun k => ?_
    have : ¬ a = b := fun e => h (by rw [e])
    simp [this]

/-! impl_EqualRules -/
theorem impl_EqualRules_ev (a0 a1 : Int) (a2 a3 : Bool) (l4 l5 : List Int) (a6 a7 : Int) (b0 b1 : Int) (b2 b3 : Bool) (m4 m5 : List Int) (b6 b7 : Int) (h4 : l4.length ≤ 1048576) (h5 : l5.length ≤ 1048576) :
    Ev (fun k => impl_EqualRules.f k a0 a1 a2 a3 l4 l5 a6 a7 b0 b1 b2 b3 m4 m5 b6 b7) (decide (a0 = b0 ∧ a1 = b1 ∧ a2 = b2 ∧ a3 = b3 ∧ l4 = m4 ∧ l5 = m5 ∧ a6 = b6 ∧ a7 = b7)) := by
  simp only [impl_EqualRules.f, beq_iff_eq]
  by_cases c0 : a0 = b0
  · by_cases c1 : a1 = b1
    · by_cases c2 : a2 = b2
      · by_cases c3 : a3 = b3
        · by_cases c6 : a6 = b6
          · by_cases c7 : a7 = b7
            · simp only [c0, c1, c2, c3, c6, c7, ↓reduceIte]
              refine Ev.bind (impl_EqualInts_ev l4 m4 (by omega)) ?_
              by_cases c4 : l4 = m4
              · simp only [c4, decide_true, ↓reduceIte]
                refine Ev.bind (impl_EqualInts_ev l5 m5 (by omega)) ?_
                refine ev_of_eq fun k => ?_
                by_cases c5 : l5 = m5 <;> simp [c5]
              · refine ev_of_eq fun k => ?_
                simp [c4]
            · refine ev_of_eq fun k => ?_
              simp [c7]
          · refine ev_of_eq fun k => ?_
            simp [c6]
        · refine ev_of_eq fun k => ?_
          simp [c3]
      · refine ev_of_eq fun k => ?_
        simp [c2]
    · refine ev_of_eq fun k => ?_
      simp [c1]
  · refine ev_of_eq fun k => ?_
    simp [c0]

/-- The pure statement. -/
def FnExactEqualRules_Stmt : Prop := ∀ (a0_0 : Int) (a0_1 : Int) (a0_2 : Bool) (a0_3 : Bool) (a0_4 : (List Int)) (a0_5 : (List Int)) (a0_6 : Int) (a0_7 : Int) (a1_0 : Int) (a1_1 : Int) (a1_2 : Bool) (a1_3 : Bool) (a1_4 : (List Int)) (a1_5 : (List Int)) (a1_6 : Int) (a1_7 : Int), (Lit.int .i64 a0_0).wf = true → (Lit.int .i64 a0_1).wf = true → a0_4.length ≤ maxLen → (∀ y ∈ a0_4, (Lit.int .i64 y).wf = true) → a0_5.length ≤ maxLen → (∀ y ∈ a0_5, (Lit.int .i64 y).wf = true) → (Lit.int .i64 a0_6).wf = true → (Lit.int .i64 a0_7).wf = true → (Lit.int .i64 a1_0).wf = true → (Lit.int .i64 a1_1).wf = true → a1_4.length ≤ maxLen → (∀ y ∈ a1_4, (Lit.int .i64 y).wf = true) → a1_5.length ≤ maxLen → (∀ y ∈ a1_5, (Lit.int .i64 y).wf = true) → (Lit.int .i64 a1_6).wf = true → (Lit.int .i64 a1_7).wf = true → ∃ k, laws_FnExactEqualRules.f k a0_0 a0_1 a0_2 a0_3 a0_4 a0_5 a0_6 a0_7 a1_0 a1_1 a1_2 a1_3 a1_4 a1_5 a1_6 a1_7 = some true
theorem FnExactEqualRules : FnExactEqualRules_Stmt := by
  intro a0_0 a0_1 a0_2 a0_3 a0_4 a0_5 a0_6 a0_7 a1_0 a1_1 a1_2 a1_3 a1_4 a1_5 a1_6 a1_7 oa0_0 oa0_1 ma0_4 oa0_4 ma0_5 oa0_5 oa0_6 oa0_7 oa1_0 oa1_1 ma1_4 oa1_4 ma1_5 oa1_5 oa1_6 oa1_7
  refine Ev.rounds (g := fun k => laws_FnExactEqualRules.f k a0_0 a0_1 a0_2 a0_3 a0_4 a0_5 a0_6 a0_7 a1_0 a1_1 a1_2 a1_3 a1_4 a1_5 a1_6 a1_7) ?_
  simp only [laws_FnExactEqualRules.f]
  obtain ⟨v0, e0, z0⟩ := laws_szRules_f a0_0 a0_1 a0_2 a0_3 a0_4 a0_5 a0_6 a0_7 1048576 ma0_4 ma0_5 (by omega) (by omega)
  simp only [e0, Option.bind_some]
  rcases z0 with z0 | ⟨y0, x0, sa0_4, sa0_5⟩
  · exact ev_of_eq fun k => by simp only [z0, ↓reduceIte]
  have n0 : ¬ v0 < 0 := by omega
  simp only [n0, ↓reduceIte]
  obtain ⟨v1, e1, z1⟩ := laws_szRules_f a1_0 a1_1 a1_2 a1_3 a1_4 a1_5 a1_6 a1_7 v0 ma1_4 ma1_5 (by omega) (by omega)
  simp only [e1, Option.bind_some]
  rcases z1 with z1 | ⟨y1, x1, sa1_4, sa1_5⟩
  · exact ev_of_eq fun k => by simp only [z1, ↓reduceIte]
  have n1 : ¬ v1 < 0 := by omega
  simp only [n1, ↓reduceIte]
  refine Ev.bind (laws_toRules_ev a0_0 a0_1 a0_2 a0_3 a0_4 a0_5 a0_6 a0_7 sa0_4 sa0_5) ?_
  refine Ev.bind (laws_toRules_ev a1_0 a1_1 a1_2 a1_3 a1_4 a1_5 a1_6 a1_7 sa1_4 sa1_5) ?_
  refine Ev.bind (spec_EqualRules_ev a0_0 a0_1 a0_2 a0_3 a0_4 a0_5 a0_6 a0_7 a1_0 a1_1 a1_2 a1_3 a1_4 a1_5 a1_6 a1_7 sa0_4 sa0_5) ?_
  refine Ev.bind (laws_toRules_ev a0_0 a0_1 a0_2 a0_3 a0_4 a0_5 a0_6 a0_7 sa0_4 sa0_5) ?_
  refine Ev.bind (laws_toRules_ev a1_0 a1_1 a1_2 a1_3 a1_4 a1_5 a1_6 a1_7 sa1_4 sa1_5) ?_
  refine Ev.bind (impl_EqualRules_ev a0_0 a0_1 a0_2 a0_3 a0_4 a0_5 a0_6 a0_7 a1_0 a1_1 a1_2 a1_3 a1_4 a1_5 a1_6 a1_7 sa0_4 sa0_5) ?_
  simp only [bne_self_eq_false, Bool.false_eq_true, ↓reduceIte]
  refine Ev.bind (laws_toRules_ev a0_0 a0_1 a0_2 a0_3 a0_4 a0_5 a0_6 a0_7 sa0_4 sa0_5) ?_
  refine Ev.bind (laws_eqRules_ev a0_0 a0_1 a0_2 a0_3 a0_4 a0_5 a0_6 a0_7 sa0_4 sa0_5) ?_
  simp only [↓reduceIte]
  refine Ev.bind (laws_toRules_ev a1_0 a1_1 a1_2 a1_3 a1_4 a1_5 a1_6 a1_7 sa1_4 sa1_5) ?_
  refine Ev.bind (laws_eqRules_ev a1_0 a1_1 a1_2 a1_3 a1_4 a1_5 a1_6 a1_7 sa1_4 sa1_5) ?_
  exact ev_of_eq fun k => by simp only [↓reduceIte]

end Go.Proofs.Ytjkjjpbapggpnaa.Pure
