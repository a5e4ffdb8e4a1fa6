/- The program's EqualGames answers what the reference's answers, for all arguments. No condition but those that the statement itself names. -/
import Derived.Test.YtdakhelapeojgaaQFnExactEqualGamesx3
import Derived.Test.YtdakhelapeojgaaLib
namespace Go.Proofs.Ytdakhelapeojgaa.Pure
open Go.RowKit Go.Proofs.Ytdakhelapeojgaa.QFnExactEqualGames Go.Proofs.YtdakhelapeojgaaW.PrintWords Go.Proofs.YtdakhelapeojgaaW.PrintLast Go.Proofs.YtdakhelapeojgaaW.PrintMore Go.Proofs.Ytdakhelapeojgaa.Lib
set_option linter.unusedVariables false
set_option linter.unusedSimpArgs false

/-! laws_szIntS -/
theorem laws_szIntS_f (l : List Int) (a : Int) (hl : l.length ≤ maxLen) (ha : 0 ≤ a) (ha2 : a ≤ 1048576) : ∃ v, laws_szIntS.f l a = some v ∧ (v < 0 ∨ (0 ≤ v ∧ v ≤ a ∧ l.length ≤ 1048576)) := by
  unfold maxLen at hl
  unfold laws_szIntS.f
  rw [w64 (by omega) (by omega)]
  by_cases h : (l.length : Int) ≤ a
  · exact ⟨_, if_neg (by omega), .inr (by omega)⟩
  · exact ⟨_, if_pos (by omega), .inl (by omega)⟩

/-! laws_szRules -/
theorem laws_szRules_f (a0 a1 : Int) (a2 a3 : Bool) (l4 l5 : List Int) (a6 a7 a : Int) (h4 : l4.length ≤ maxLen) (h5 : l5.length ≤ maxLen) (ha : 0 ≤ a) (ha2 : a ≤ 1048576) :
    ∃ v, laws_szRules.f a0 a1 a2 a3 l4 l5 a6 a7 a = some v ∧ (v < 0 ∨ (0 ≤ v ∧ v ≤ a ∧ l4.length ≤ 1048576 ∧ l5.length ≤ 1048576)) := by
  unfold laws_szRules.f
  obtain ⟨v, e, h⟩ := laws_szIntS_f l4 a h4 ha ha2
  simp only [e, Option.bind_some]
  rcases h with h | ⟨g0, g1, g2⟩
  · exact ⟨_, if_pos h, .inl (by omega)⟩
  · have n1 : ¬ v < 0 := by omega
    simp only [n1, ↓reduceIte]
    obtain ⟨v', e', h'⟩ := laws_szIntS_f l5 v h5 g0 (by omega)
    simp only [e', Option.bind_some]
    rcases h' with h' | ⟨g0', g1', g2'⟩
    · exact ⟨_, if_pos h', .inl (by omega)⟩
    · exact ⟨_, if_neg (by omega), .inr (by omega)⟩

/-! laws_szIntSS -/
theorem laws_szIntSS_ev (l : List (List Int)) (a : Int) (hl : l.length ≤ maxLen) (hm : ∀ y ∈ l, y.length ≤ maxLen) (ha : 0 ≤ a) (ha2 : a ≤ 1048576) : ∃ v, Ev (fun k => laws_szIntSS.f k l a) v ∧ (v < 0 ∨ (0 ≤ v ∧ v ≤ a ∧ l.length ≤ 1048576 ∧ ∀ y ∈ l, y.length ≤ 1048576)) := by
  unfold maxLen at hl
  simp only [laws_szIntSS.f]
  rw [w64 (by omega) (by omega)]
  by_cases c : a - (l.length : Int) < 0
  · exact ⟨-1, ev_of_eq fun k => by simp only [c, ↓reduceIte], Or.inl (by omega)⟩
  · simp only [c, ↓reduceIte]
    have H : ∀ b, 0 ≤ b → b ≤ 1048576 → ∃ v, Ev (fun k => laws_szIntSS.l0 k l b 0) v ∧ (v < 0 ∨ (0 ≤ v ∧ v ≤ b ∧ ∀ y ∈ l, y.length ≤ 1048576)) := by
      refine loop_of l [] (by omega) (P := fun i rest => ∀ b, 0 ≤ b → b ≤ 1048576 → ∃ v, Ev (fun k => laws_szIntSS.l0 k l b i) v ∧ (v < 0 ∨ (0 ≤ v ∧ v ≤ b ∧ ∀ y ∈ rest, y.length ≤ 1048576))) ?_ ?_
      · intro b h0 h1
        exact ⟨b, ev_succ (ev_of_eq fun k => by simp only [laws_szIntSS.l0, Int.lt_irrefl, ↓reduceIte]), Or.inr ⟨h0, by omega, by simp⟩⟩
      · intro i x rest h0 h1 hx hmem hw ih b hb0 hb1
        have hx' : rd_L1 l i = x := hx
        obtain ⟨v, e, hv⟩ := laws_szIntS_f x b (hm x hmem) hb0 hb1
        rcases hv with hv | ⟨v0, v1, vl⟩
        · exact ⟨-1, ev_succ (ev_of_eq fun k => by simp only [laws_szIntSS.l0, h1, h0, hx', e, Option.bind_some, hv, ↓reduceIte]), Or.inl (by omega)⟩
        · obtain ⟨u, eu, hu⟩ := ih v v0 (by omega)
          have nv : ¬ v < 0 := by omega
          refine ⟨u, ev_succ ?_, ?_⟩
          · simp only [laws_szIntSS.l0, h1, h0, hx', e, Option.bind_some, nv, hw, ↓reduceIte]
            exact eu
          · rcases hu with hu | ⟨u0, u1, ul⟩
            · exact Or.inl hu
            · refine Or.inr ⟨u0, by omega, fun y hy => ?_⟩
              rcases List.mem_cons.mp hy with hy | hy
              · rw [hy]; exact vl
              · exact ul y hy
    obtain ⟨v, e, hv⟩ := H (a - l.length) (by omega) (by omega)
    exact ⟨v, e, hv.imp id (fun h => ⟨h.1, by omega, by omega, h.2.2⟩)⟩

/-! laws_szGame -/
theorem laws_szGame_ev (a0 a1 : Int) (a2 a3 : Bool) (l4 l5 : List Int) (a6 a7 : Int) (l8 : List (List Int)) (l9 l10 : List Int) (a11 a12 a13 a : Int) (h4 : l4.length ≤ maxLen) (h5 : l5.length ≤ maxLen) (h8 : l8.length ≤ maxLen) (hm : ∀ y ∈ l8, y.length ≤ maxLen) (h9 : l9.length ≤ maxLen) (h10 : l10.length ≤ maxLen) (ha : 0 ≤ a) (ha2 : a ≤ 1048576) :
    ∃ v, Ev (fun k => laws_szGame.f k a0 a1 a2 a3 l4 l5 a6 a7 l8 l9 l10 a11 a12 a13 a) v ∧ (v < 0 ∨ (0 ≤ v ∧ v ≤ a ∧ l4.length ≤ 1048576 ∧ l5.length ≤ 1048576 ∧ l8.length ≤ 1048576 ∧ (∀ y ∈ l8, y.length ≤ 1048576) ∧ l9.length ≤ 1048576 ∧ l10.length ≤ 1048576)) := by
  simp only [laws_szGame.f]
  obtain ⟨v, e, hv⟩ := laws_szRules_f a0 a1 a2 a3 l4 l5 a6 a7 a h4 h5 ha ha2
  rcases hv with hv | ⟨v0, v1, b4, b5⟩
  · exact ⟨-1, ev_of_eq fun k => by simp only [e, Option.bind_some, hv, ↓reduceIte], Or.inl (by omega)⟩
  have n0 : ¬ v < 0 := by omega
  simp only [e, Option.bind_some, n0, ↓reduceIte]
  obtain ⟨u, eu, hu⟩ := laws_szIntSS_ev l8 v h8 hm v0 (by omega)
  rcases hu with hu | ⟨u0, u1, b8, bm⟩
  · exact ⟨-1, Ev.bind eu (ev_of_eq fun k => by simp only [hu, ↓reduceIte]), Or.inl (by omega)⟩
  have n1 : ¬ u < 0 := by omega
  obtain ⟨t, et, ht⟩ := laws_szIntS_f l9 u h9 u0 (by omega)
  rcases ht with ht | ⟨t0, t1, b9⟩
  · exact ⟨-1, Ev.bind eu (ev_of_eq fun k => by simp only [n1, et, Option.bind_some, ht, ↓reduceIte]), Or.inl (by omega)⟩
  have n2 : ¬ t < 0 := by omega
  obtain ⟨s, es, hs⟩ := laws_szIntS_f l10 t h10 t0 (by omega)
  rcases hs with hs | ⟨s0, s1, b10⟩
  · exact ⟨-1, Ev.bind eu (ev_of_eq fun k => by simp only [n1, n2, et, es, Option.bind_some, hs, ↓reduceIte]), Or.inl (by omega)⟩
  have n3 : ¬ s < 0 := by omega
  exact ⟨s, Ev.bind eu (ev_of_eq fun k => by simp only [n1, n2, n3, et, es, Option.bind_some, ↓reduceIte]), Or.inr ⟨s0, by omega, b4, b5, b8, bm, b9, b10⟩⟩

/-! laws_toIntS -/
theorem laws_toIntS_ev (l : List Int) (hl : l.length ≤ 1099511627776) : Ev (fun k => laws_toIntS.f k l) l := by
  have e1 : (0 : Int) ≤ (l.length : Int) := by omega
  have e2 : ((l.length : Int) : Int).toNat ≤ 35184372088832 := by omega
  simp only [laws_toIntS.f, e1, e2, ↓reduceIte]
  refine loop_int_pre l hl (P := fun i pre rest => Ev (fun k => laws_toIntS.l0 k l (pre ++ List.replicate rest.length 0) i) l) ?_ ?_
  · refine ev_succ (ev_of_eq fun k => ?_)
    simp only [laws_toIntS.l0, Int.lt_irrefl, ↓reduceIte, List.length_nil, List.replicate_zero, List.append_nil]
  · intro i pre x rest hl' hi h0 h1 hx hw ih
    refine ev_succ ?_
    have h2 : i < ((pre ++ List.replicate (x :: rest).length 0 : List Int).length : Int) := by simp; omega
    simp only [laws_toIntS.l0, h1, h0, h2, ↓reduceIte, hx, hw]
    rw [List.length_cons, List.replicate_succ, set_mid pre _ i hi]
    exact ih

/-! laws_toRules -/
theorem laws_toRules_ev (a0 a1 : Int) (a2 a3 : Bool) (l4 l5 : List Int) (a6 a7 : Int) (h4 : l4.length ≤ 1048576) (h5 : l5.length ≤ 1048576) :
    Ev (fun k => laws_toRules.f k a0 a1 a2 a3 l4 l5 a6 a7) (a0, a1, a2, a3, l4, l5, a6, a7) := by
  simp only [laws_toRules.f]
  exact Ev.bind (laws_toIntS_ev l4 (by omega)) (Ev.bind (laws_toIntS_ev l5 (by omega)) (Ev.now _))

/-! laws_toIntSS -/
theorem laws_toIntSS_ev (l : List (List Int)) (hl : l.length ≤ 1048576) (hm : ∀ y ∈ l, y.length ≤ 1048576) : Ev (fun k => laws_toIntSS.f k l) l := by
  have e1 : (0 : Int) ≤ (l.length : Int) := by omega
  have e2 : ((l.length : Int) : Int).toNat ≤ 11728124029610 := by omega
  simp only [laws_toIntSS.f, e1, e2, ↓reduceIte]
  refine loop_pre l [] (by omega) (P := fun i pre rest => Ev (fun k => laws_toIntSS.l0 k l (pre ++ List.replicate rest.length []) i) l) ?_ ?_
  · refine ev_succ (ev_of_eq fun k => ?_)
    simp only [laws_toIntSS.l0, Int.lt_irrefl, ↓reduceIte, List.length_nil, List.replicate_zero, List.append_nil]
  · intro i pre x rest hl' hi h0 h1 hx hw ih
    have hx' : rd_L1 l i = x := hx
    refine ev_succ ?_
    have h2 : i < ((pre ++ List.replicate (x :: rest).length ([] : List Int)).length : Int) := by simp; omega
    simp only [laws_toIntSS.l0, h1, h0, h2, ↓reduceIte, hx', hw]
    have hxl := hm x (by rw [hl']; simp)
    refine Ev.bind (laws_toIntS_ev x (by omega)) ?_
    rw [List.length_cons, List.replicate_succ, set_mid pre _ i (by omega)]
    exact ih

/-! laws_toGame -/
theorem laws_toGame_ev (a0 a1 : Int) (a2 a3 : Bool) (l4 l5 : List Int) (a6 a7 : Int) (l8 : List (List Int)) (l9 l10 : List Int) (a11 a12 a13 : Int) (h4 : l4.length ≤ 1048576) (h5 : l5.length ≤ 1048576) (h8 : l8.length ≤ 1048576) (hm : ∀ y ∈ l8, y.length ≤ 1048576) (h9 : l9.length ≤ 1048576) (h10 : l10.length ≤ 1048576) :
    Ev (fun k => laws_toGame.f k a0 a1 a2 a3 l4 l5 a6 a7 l8 l9 l10 a11 a12 a13) (a0, a1, a2, a3, l4, l5, a6, a7, l8, l9, l10, a11, a12, a13) := by
  simp only [laws_toGame.f]
  exact Ev.bind (laws_toRules_ev a0 a1 a2 a3 l4 l5 a6 a7 h4 h5) (Ev.bind (laws_toIntSS_ev l8 h8 hm) (Ev.bind (laws_toIntS_ev l9 (by omega)) (Ev.bind (laws_toIntS_ev l10 (by omega)) (Ev.now _))))

/-! laws_eqIntS -/
theorem laws_eqIntS_ev (l : List Int) (hl : l.length ≤ 1099511627776) : Ev (fun k => laws_eqIntS.f k l l) true := by
  simp only [laws_eqIntS.f, ↓reduceIte]
  refine loop_int l hl (P := fun i _ => Ev (fun k => laws_eqIntS.l0 k l l i) true) ?_ ?_
  · refine ev_succ (ev_of_eq fun k => ?_)
    simp only [laws_eqIntS.l0, Int.lt_irrefl, ↓reduceIte]
  · intro i x rest h0 h1 hx _ hw ih
    refine ev_succ ?_
    simp only [laws_eqIntS.l0, h1, h0, ↓reduceIte, hw]
    exact ih

/-! laws_eqRules -/
theorem laws_eqRules_ev (a0 a1 : Int) (a2 a3 : Bool) (l4 l5 : List Int) (a6 a7 : Int) (h4 : l4.length ≤ 1048576) (h5 : l5.length ≤ 1048576) :
    Ev (fun k => laws_eqRules.f k a0 a1 a2 a3 l4 l5 a6 a7 a0 a1 a2 a3 l4 l5 a6 a7) true := by
  simp only [laws_eqRules.f, bne_self_eq_false, Bool.false_eq_true, ↓reduceIte]
  refine Ev.bind (laws_eqIntS_ev l4 (by omega)) ?_
  simp only [↓reduceIte]
  refine Ev.bind (laws_eqIntS_ev l5 (by omega)) ?_
  exact ev_of_eq fun k => by simp only [↓reduceIte]

/-! laws_eqIntSS -/
theorem laws_eqIntSS_ev (l : List (List Int)) (hl : l.length ≤ 1048576) (hm : ∀ y ∈ l, y.length ≤ 1048576) : Ev (fun k => laws_eqIntSS.f k l l) true := by
  simp only [laws_eqIntSS.f, ↓reduceIte]
  refine loop_of l [] (by omega) (P := fun i _ => Ev (fun k => laws_eqIntSS.l0 k l l i) true) ?_ ?_
  · refine ev_succ (ev_of_eq fun k => ?_)
    simp only [laws_eqIntSS.l0, Int.lt_irrefl, ↓reduceIte]
  · intro i x rest h0 h1 hx hmem hw ih
    have hx' : rd_L1 l i = x := hx
    have hxl := hm x hmem
    refine ev_succ ?_
    simp only [laws_eqIntSS.l0, h1, h0, hx', ↓reduceIte, hw]
    refine Ev.bind (laws_eqIntS_ev x (by omega)) ?_
    simp only [↓reduceIte]
    exact ih

/-! laws_eqGame -/
theorem laws_eqGame_ev (a0 a1 : Int) (a2 a3 : Bool) (l4 l5 : List Int) (a6 a7 : Int) (l8 : List (List Int)) (l9 l10 : List Int) (a11 a12 a13 : Int) (h4 : l4.length ≤ 1048576) (h5 : l5.length ≤ 1048576) (h8 : l8.length ≤ 1048576) (hm : ∀ y ∈ l8, y.length ≤ 1048576) (h9 : l9.length ≤ 1048576) (h10 : l10.length ≤ 1048576) :
    Ev (fun k => laws_eqGame.f k a0 a1 a2 a3 l4 l5 a6 a7 l8 l9 l10 a11 a12 a13 a0 a1 a2 a3 l4 l5 a6 a7 l8 l9 l10 a11 a12 a13) true := by
  simp only [laws_eqGame.f]
  refine Ev.bind (laws_eqRules_ev a0 a1 a2 a3 l4 l5 a6 a7 h4 h5) ?_
  simp only [↓reduceIte]
  refine Ev.bind (laws_eqIntSS_ev l8 h8 hm) ?_
  simp only [↓reduceIte]
  refine Ev.bind (laws_eqIntS_ev l9 (by omega)) ?_
  simp only [↓reduceIte]
  refine Ev.bind (laws_eqIntS_ev l10 (by omega)) ?_
  exact ev_of_eq fun k => by simp only [↓reduceIte]

/-! spec_EqualInts -/
theorem spec_EqualInts_ev (a b : List Int) (ha : a.length ≤ 1099511627776) : Ev (fun k => spec_EqualInts.f k a b) (decide (a = b)) := by
  simp only [spec_EqualInts.f]
  by_cases h : a.length = b.length
  · have h' : (a.length : Int) = (b.length : Int) := by omega
    simp only [h', ↓reduceIte]
    suffices H : ∀ b', b = b' → b'.length = a.length → Ev (fun k => spec_EqualInts.l0 k a b 0) (decide (a = b')) from H b rfl h.symm
    refine loop_int_pre a ha (P := fun i pre rest => ∀ b', b = b' → b'.length = a.length → Ev (fun k => spec_EqualInts.l0 k a b i) (decide (rest = b'.drop pre.length))) ?_ ?_
    · intro b' _ hb
      refine ev_succ (ev_of_eq fun k => ?_)
      simp only [spec_EqualInts.l0, Int.lt_irrefl, ↓reduceIte]
      rw [List.drop_of_length_le (by omega)]
      simp
    · intro i pre x rest hl hi h0 h1 hx hw ih b' hbb hb
      have h2 : i < (b.length : Int) := by omega
      have hp : pre.length < b'.length := by omega
      have hd : b'.drop pre.length = rd b i :: b'.drop (pre.length + 1) := by
        subst hbb
        rw [List.drop_eq_getElem_cons hp]
        unfold rd
        rw [hi, Int.toNat_natCast]
        simp [List.getD_eq_getElem?_getD, List.getElem?_eq_getElem hp]
      refine ev_succ ?_
      simp only [spec_EqualInts.l0, h1, h0, h2, ↓reduceIte, hx, hw, hd]
      by_cases g : x = rd b i
      · have := ih b' hbb hb
        rw [List.length_append, List.length_singleton] at this
        simp only [g, ↓reduceIte, List.cons.injEq, true_and]
        exact this
      · refine ev_of_eq fun k => ?_
        simp [g]
  · have h' : ¬ (a.length : Int) = (b.length : Int) := by omega
    simp only [h', ↓reduceIte]
    refine ev_of_eq fun k => ?_
    have : ¬ a = b := fun e => h (by rw [e])
    simp [this]

/-! spec_EqualRules -/
theorem spec_EqualRules_ev (a0 a1 : Int) (a2 a3 : Bool) (l4 l5 : List Int) (a6 a7 : Int) (b0 b1 : Int) (b2 b3 : Bool) (m4 m5 : List Int) (b6 b7 : Int) (h4 : l4.length ≤ 1048576) (h5 : l5.length ≤ 1048576) :
    Ev (fun k => spec_EqualRules.f k a0 a1 a2 a3 l4 l5 a6 a7 b0 b1 b2 b3 m4 m5 b6 b7) (decide (a0 = b0 ∧ a1 = b1 ∧ a2 = b2 ∧ a3 = b3 ∧ l4 = m4 ∧ l5 = m5 ∧ a6 = b6 ∧ a7 = b7)) := by
  simp only [spec_EqualRules.f, beq_iff_eq]
  by_cases c0 : a0 = b0
  · by_cases c1 : a1 = b1
    · by_cases c2 : a2 = b2
      · by_cases c3 : a3 = b3
        · simp only [c0, c1, c2, c3, ↓reduceIte]
          refine Ev.bind (spec_EqualInts_ev l4 m4 (by omega)) ?_
          by_cases c4 : l4 = m4
          · simp only [c4, decide_true, ↓reduceIte]
            refine Ev.bind (spec_EqualInts_ev l5 m5 (by omega)) ?_
            refine ev_of_eq fun k => ?_
            by_cases c5 : l5 = m5 <;> by_cases c6 : a6 = b6 <;> simp [c5, c6]
            by_cases c7 : a7 = b7 <;> simp [c7]
          · refine ev_of_eq fun k => ?_
            simp [c4]
        · refine ev_of_eq fun k => ?_
          simp [c3]
      · refine ev_of_eq fun k => ?_
        simp [c2]
    · refine ev_of_eq fun k => ?_
      simp [c1]
  · refine ev_of_eq fun k => ?_
    simp [c0]

/-! spec_EqualGames -/
def rowsEq : List (List Int) → List (List Int) → Bool
  | [], _ => true
  | _ :: _, [] => false
  | x :: r, y :: s => decide (x = y) && rowsEq r s
theorem drop_rd (l : List (List Int)) (i : Int) (h0 : 0 ≤ i) (h : i < (l.length : Int)) : l.drop i.toNat = rd_L1 l i :: l.drop (i + 1).toNat := by
  have hn : i.toNat < l.length := by omega
  have e : (i + 1).toNat = i.toNat + 1 := by omega
  rw [List.drop_eq_getElem_cons hn, e]
  unfold rd_L1
  simp [List.getD_eq_getElem?_getD, List.getElem?_eq_getElem hn]
def gamesEqM (a0 a1 : Int) (a2 a3 : Bool) (l4 l5 : List Int) (a6 a7 : Int) (l8 : List (List Int)) (l9 l10 : List Int) (a11 a12 a13 : Int) (b0 b1 : Int) (b2 b3 : Bool) (m4 m5 : List Int) (b6 b7 : Int) (m8 : List (List Int)) (m9 m10 : List Int) (b11 b12 b13 : Int) : Bool :=
  decide (l8.length = m8.length) && (rowsEq l8 m8 && ((decide (a0 = b0 ∧ a1 = b1 ∧ a2 = b2 ∧ a3 = b3 ∧ l4 = m4 ∧ l5 = m5 ∧ a6 = b6 ∧ a7 = b7)) && (decide (l9 = m9) && (decide (l10 = m10) && (decide (a11 = b11) && (decide (a12 = b12) && (a13 == b13)))))))
theorem spec_EqualGames_ev (a0 a1 : Int) (a2 a3 : Bool) (l4 l5 : List Int) (a6 a7 : Int) (l8 : List (List Int)) (l9 l10 : List Int) (a11 a12 a13 : Int) (b0 b1 : Int) (b2 b3 : Bool) (m4 m5 : List Int) (b6 b7 : Int) (m8 : List (List Int)) (m9 m10 : List Int) (b11 b12 b13 : Int) (h4 : l4.length ≤ 1048576) (h5 : l5.length ≤ 1048576) (h8 : l8.length ≤ 1048576) (hm : ∀ y ∈ l8, y.length ≤ 1048576) (h9 : l9.length ≤ 1048576) (h10 : l10.length ≤ 1048576) :
    Ev (fun k => spec_EqualGames.f k a0 a1 a2 a3 l4 l5 a6 a7 l8 l9 l10 a11 a12 a13 b0 b1 b2 b3 m4 m5 b6 b7 m8 m9 m10 b11 b12 b13) (gamesEqM a0 a1 a2 a3 l4 l5 a6 a7 l8 l9 l10 a11 a12 a13 b0 b1 b2 b3 m4 m5 b6 b7 m8 m9 m10 b11 b12 b13) := by
  simp only [spec_EqualGames.f]
  unfold gamesEqM
  by_cases c : (l8.length : Int) = (m8.length : Int)
  · have c' : l8.length = m8.length := by omega
    simp only [if_pos c, decide_eq_true c', Bool.true_and]
    refine loop_of l8 [] (by omega) (P := fun i rest => Ev (fun k => spec_EqualGames.l0 k i a0 a1 a2 a3 l4 l5 a6 a7 l8 l9 l10 a11 a12 a13 b0 b1 b2 b3 m4 m5 b6 b7 m8 m9 m10 b11 b12 b13) (rowsEq rest (m8.drop i.toNat) && ((decide (a0 = b0 ∧ a1 = b1 ∧ a2 = b2 ∧ a3 = b3 ∧ l4 = m4 ∧ l5 = m5 ∧ a6 = b6 ∧ a7 = b7)) && (decide (l9 = m9) && (decide (l10 = m10) && (decide (a11 = b11) && (decide (a12 = b12) && (a13 == b13)))))))) ?_ ?_
    · refine ev_succ ?_
      simp only [spec_EqualGames.l0, Int.lt_irrefl, ↓reduceIte, rowsEq, Bool.true_and]
      refine Ev.bind (spec_EqualRules_ev a0 a1 a2 a3 l4 l5 a6 a7 b0 b1 b2 b3 m4 m5 b6 b7 h4 h5) ?_
      cases (decide (a0 = b0 ∧ a1 = b1 ∧ a2 = b2 ∧ a3 = b3 ∧ l4 = m4 ∧ l5 = m5 ∧ a6 = b6 ∧ a7 = b7))
      · exact ev_of_eq fun k => by simp only [Bool.false_eq_true, ↓reduceIte, Bool.false_and]
      · simp only [↓reduceIte, Bool.true_and]
        refine Ev.bind (spec_EqualInts_ev l9 m9 (by omega)) ?_
        by_cases c9 : l9 = m9
        · simp only [c9, decide_true, ↓reduceIte, Bool.true_and]
          refine Ev.bind (spec_EqualInts_ev l10 m10 (by omega)) ?_
          refine ev_of_eq fun k => ?_
          by_cases c10 : l10 = m10
          · by_cases c11 : a11 = b11
            · by_cases c12 : a12 = b12
              · simp only [c10, c11, c12, decide_true, ↓reduceIte, Bool.true_and]
              · simp only [c10, c11, c12, decide_true, decide_false, ↓reduceIte, Bool.true_and, Bool.false_and]
            · simp only [c10, c11, decide_true, decide_false, ↓reduceIte, Bool.true_and, Bool.false_and]
          · simp only [c10, decide_false, Bool.false_eq_true, ↓reduceIte, Bool.false_and]
        · exact ev_of_eq fun k => by simp only [c9, decide_false, Bool.false_eq_true, ↓reduceIte, Bool.false_and]
    · intro i x rest h0 h1 hx hmem hw ih
      have hx' : rd_L1 l8 i = x := hx
      have hxl := hm x hmem
      have g : i < (m8.length : Int) := by omega
      refine ev_succ ?_
      rw [drop_rd m8 i h0 g]
      simp only [spec_EqualGames.l0, h1, h0, g, hx', ↓reduceIte, hw, rowsEq]
      refine Ev.bind (spec_EqualInts_ev x _ (by omega)) ?_
      cases decide (x = rd_L1 m8 i)
      · exact ev_of_eq fun k => by simp only [Bool.false_eq_true, ↓reduceIte, Bool.false_and]
      · simp only [↓reduceIte, Bool.true_and]
        exact ih
  · have c' : ¬ l8.length = m8.length := by omega
    exact ev_of_eq fun k => by simp only [if_neg c, decide_eq_false c', Bool.false_and]

/-! impl_EqualInts -/
theorem impl_EqualInts_ev (a b : List Int) (ha : a.length ≤ 1099511627776) : Ev (fun k => impl_EqualInts.f k a b) (decide (a = b)) := by
  simp only [impl_EqualInts.f]
  by_cases h : a.length = b.length
  · have h' : (a.length : Int) = (b.length : Int) := by omega
    simp only [if_pos h']
    suffices H : ∀ b', b = b' → b'.length = a.length → Ev (fun k => impl_EqualInts.l0 k a b (a.length : Int) 0) (decide (a = b')) from H b rfl h.symm
    refine loop_int_pre a ha (P := fun i pre rest => ∀ b', b = b' → b'.length = a.length → Ev (fun k => impl_EqualInts.l0 k a b (a.length : Int) i) (decide (rest = b'.drop pre.length))) ?_ ?_
    · intro b' _ hb
      refine ev_succ (ev_of_eq fun k => ?_)
      simp only [impl_EqualInts.l0, Int.lt_irrefl, ↓reduceIte]
      rw [List.drop_of_length_le (by omega)]
      simp
    · intro i pre x rest hl hi h0 h1 hx hw ih b' hbb hb
      have h2 : i < (b.length : Int) := by omega
      have hp : pre.length < b'.length := by omega
      have hd : b'.drop pre.length = rd b i :: b'.drop (pre.length + 1) := by
        subst hbb
        rw [List.drop_eq_getElem_cons hp]
        unfold rd
        rw [hi, Int.toNat_natCast]
        simp [List.getD_eq_getElem?_getD, List.getElem?_eq_getElem hp]
      refine ev_succ ?_
      simp only [impl_EqualInts.l0, h1, h0, h2, ↓reduceIte, hx, hw, hd]
      by_cases g : x = rd b i
      · have := ih b' hbb hb
        rw [List.length_append, List.length_singleton] at this
        simp only [g, ↓reduceIte, List.cons.injEq, true_and]
        exact this
      · refine ev_of_eq fun k => ?_
        simp [g]
  · have h' : ¬ (a.length : Int) = (b.length : Int) := by omega
    simp only [h', ↓reduceIte]
    refine ev_of_eq fun k => ?_
    have : ¬ a = b := fun e => h (by rw [e])
    simp [this]

/-! impl_EqualRules -/
theorem impl_EqualRules_ev (a0 a1 : Int) (a2 a3 : Bool) (l4 l5 : List Int) (a6 a7 : Int) (b0 b1 : Int) (b2 b3 : Bool) (m4 m5 : List Int) (b6 b7 : Int) (h4 : l4.length ≤ 1048576) (h5 : l5.length ≤ 1048576) :
    Ev (fun k => impl_EqualRules.f k a0 a1 a2 a3 l4 l5 a6 a7 b0 b1 b2 b3 m4 m5 b6 b7) (decide (a0 = b0 ∧ a1 = b1 ∧ a2 = b2 ∧ a3 = b3 ∧ l4 = m4 ∧ l5 = m5 ∧ a6 = b6 ∧ a7 = b7)) := by
  simp only [impl_EqualRules.f, beq_iff_eq]
  by_cases c0 : a0 = b0
  · by_cases c1 : a1 = b1
    · by_cases c2 : a2 = b2
      · by_cases c3 : a3 = b3
        · by_cases c6 : a6 = b6
          · by_cases c7 : a7 = b7
            · simp only [c0, c1, c2, c3, c6, c7, ↓reduceIte]
              refine Ev.bind (impl_EqualInts_ev l4 m4 (by omega)) ?_
              by_cases c4 : l4 = m4
              · simp only [c4, decide_true, ↓reduceIte]
                refine Ev.bind (impl_EqualInts_ev l5 m5 (by omega)) ?_
                refine ev_of_eq fun k => ?_
                by_cases c5 : l5 = m5 <;> simp [c5]
              · refine ev_of_eq fun k => ?_
                simp [c4]
            · refine ev_of_eq fun k => ?_
              simp [c7]
          · refine ev_of_eq fun k => ?_
            simp [c6]
        · refine ev_of_eq fun k => ?_
          simp [c3]
      · refine ev_of_eq fun k => ?_
        simp [c2]
    · refine ev_of_eq fun k => ?_
      simp [c1]
  · refine ev_of_eq fun k => ?_
    simp [c0]

/-! impl_sameRows -/
theorem impl_sameRows_ev (l m : List (List Int)) (hl : l.length ≤ 1048576) (hm : ∀ y ∈ l, y.length ≤ 1048576) : Ev (fun k => impl_sameRows.f k l m) (decide (l.length = m.length) && rowsEq l m) := by
  simp only [impl_sameRows.f]
  by_cases c : (l.length : Int) = (m.length : Int)
  · have c' : l.length = m.length := by omega
    simp only [if_pos c, decide_eq_true c', Bool.true_and]
    refine loop_of l [] (by omega) (P := fun i rest => Ev (fun k => impl_sameRows.l0 k l m (l.length : Int) i) (rowsEq rest (m.drop i.toNat))) ?_ ?_
    · exact ev_succ (ev_of_eq fun k => by simp only [impl_sameRows.l0, Int.lt_irrefl, ↓reduceIte, rowsEq])
    · intro i x rest h0 h1 hx hmem hw ih
      have hx' : rd_L1 l i = x := hx
      have hxl := hm x hmem
      have g : i < (m.length : Int) := by omega
      refine ev_succ ?_
      rw [drop_rd m i h0 g]
      simp only [impl_sameRows.l0, h1, h0, g, hx', ↓reduceIte, hw, rowsEq]
      refine Ev.bind (impl_EqualInts_ev x _ (by omega)) ?_
      cases decide (x = rd_L1 m i)
      · exact ev_of_eq fun k => by simp only [Bool.false_eq_true, ↓reduceIte, Bool.false_and]
      · simp only [↓reduceIte, Bool.true_and]
        exact ih
  · have c' : ¬ l.length = m.length := by omega
    exact ev_of_eq fun k => by simp only [if_neg c, decide_eq_false c', Bool.false_and]

/-! impl_EqualGames -/
theorem impl_EqualGames_ev (a0 a1 : Int) (a2 a3 : Bool) (l4 l5 : List Int) (a6 a7 : Int) (l8 : List (List Int)) (l9 l10 : List Int) (a11 a12 a13 : Int) (b0 b1 : Int) (b2 b3 : Bool) (m4 m5 : List Int) (b6 b7 : Int) (m8 : List (List Int)) (m9 m10 : List Int) (b11 b12 b13 : Int) (h4 : l4.length ≤ 1048576) (h5 : l5.length ≤ 1048576) (h8 : l8.length ≤ 1048576) (hm : ∀ y ∈ l8, y.length ≤ 1048576) (h9 : l9.length ≤ 1048576) (h10 : l10.length ≤ 1048576) :
    Ev (fun k => impl_EqualGames.f k a0 a1 a2 a3 l4 l5 a6 a7 l8 l9 l10 a11 a12 a13 b0 b1 b2 b3 m4 m5 b6 b7 m8 m9 m10 b11 b12 b13) (gamesEqM a0 a1 a2 a3 l4 l5 a6 a7 l8 l9 l10 a11 a12 a13 b0 b1 b2 b3 m4 m5 b6 b7 m8 m9 m10 b11 b12 b13) := by
  simp only [impl_EqualGames.f]
  unfold gamesEqM
  refine Ev.bind (impl_EqualRules_ev a0 a1 a2 a3 l4 l5 a6 a7 b0 b1 b2 b3 m4 m5 b6 b7 h4 h5) ?_
  cases (decide (a0 = b0 ∧ a1 = b1 ∧ a2 = b2 ∧ a3 = b3 ∧ l4 = m4 ∧ l5 = m5 ∧ a6 = b6 ∧ a7 = b7))
  · exact ev_of_eq fun k => by simp only [Bool.false_eq_true, ↓reduceIte, Bool.false_and, Bool.and_false]
  · simp only [↓reduceIte, Bool.true_and]
    refine Ev.bind (impl_sameRows_ev l8 m8 h8 hm) ?_
    cases decide (l8.length = m8.length) <;> cases rowsEq l8 m8
    · exact ev_of_eq fun k => by simp only [Bool.false_eq_true, ↓reduceIte, Bool.false_and]
    · exact ev_of_eq fun k => by simp only [Bool.false_eq_true, ↓reduceIte, Bool.false_and]
    · exact ev_of_eq fun k => by simp only [Bool.false_eq_true, ↓reduceIte, Bool.false_and, Bool.and_false]
    · simp only [↓reduceIte, Bool.true_and]
      refine Ev.bind (impl_EqualInts_ev l9 m9 (by omega)) ?_
      by_cases c9 : l9 = m9
      · simp only [c9, decide_true, ↓reduceIte, Bool.true_and]
        refine Ev.bind (impl_EqualInts_ev l10 m10 (by omega)) ?_
        refine ev_of_eq fun k => ?_
        by_cases c10 : l10 = m10
        · by_cases c11 : a11 = b11
          · by_cases c12 : a12 = b12
            · simp only [c10, c11, c12, decide_true, ↓reduceIte, Bool.true_and]
            · simp only [c10, c11, c12, decide_true, decide_false, ↓reduceIte, Bool.true_and, Bool.false_and]
          · simp only [c10, c11, decide_true, decide_false, ↓reduceIte, Bool.true_and, Bool.false_and]
        · simp only [c10, decide_false, Bool.false_eq_true, ↓reduceIte, Bool.false_and]
      · exact ev_of_eq fun k => by simp only [c9, decide_false, Bool.false_eq_true, ↓reduceIte, Bool.false_and]

/-- The pure statement. -/
def FnExactEqualGames_Stmt : Prop := ∀ (a0_0_0 : Int) (a0_0_1 : Int) (a0_0_2 : Bool) (a0_0_3 : Bool) (a0_0_4 : (List Int)) (a0_0_5 : (List Int)) (a0_0_6 : Int) (a0_0_7 : Int) (a0_1 : (List (List Int))) (a0_2 : (List Int)) (a0_3 : (List Int)) (a0_4 : Int) (a0_5 : Int) (a0_6 : Int) (a1_0_0 : Int) (a1_0_1 : Int) (a1_0_2 : Bool) (a1_0_3 : Bool) (a1_0_4 : (List Int)) (a1_0_5 : (List Int)) (a1_0_6 : Int) (a1_0_7 : Int) (a1_1 : (List (List Int))) (a1_2 : (List Int)) (a1_3 : (List Int)) (a1_4 : Int) (a1_5 : Int) (a1_6 : Int), (Lit.int .i64 a0_0_0).wf = true → (Lit.int .i64 a0_0_1).wf = true → a0_0_4.length ≤ maxLen → (∀ y ∈ a0_0_4, (Lit.int .i64 y).wf = true) → a0_0_5.length ≤ maxLen → (∀ y ∈ a0_0_5, (Lit.int .i64 y).wf = true) → (Lit.int .i64 a0_0_6).wf = true → (Lit.int .i64 a0_0_7).wf = true → a0_1.length ≤ maxLen → (∀ y ∈ a0_1, y.length ≤ maxLen ∧ ∀ y22 ∈ y, (Lit.int .i64 y22).wf = true) → a0_2.length ≤ maxLen → (∀ y ∈ a0_2, (Lit.int .i64 y).wf = true) → a0_3.length ≤ maxLen → (∀ y ∈ a0_3, (Lit.int .i64 y).wf = true) → (Lit.int .i64 a0_4).wf = true → (Lit.int .i64 a0_5).wf = true → (Lit.int .i64 a0_6).wf = true → (Lit.int .i64 a1_0_0).wf = true → (Lit.int .i64 a1_0_1).wf = true → a1_0_4.length ≤ maxLen → (∀ y ∈ a1_0_4, (Lit.int .i64 y).wf = true) → a1_0_5.length ≤ maxLen → (∀ y ∈ a1_0_5, (Lit.int .i64 y).wf = true) → (Lit.int .i64 a1_0_6).wf = true → (Lit.int .i64 a1_0_7).wf = true → a1_1.length ≤ maxLen → (∀ y ∈ a1_1, y.length ≤ maxLen ∧ ∀ y22 ∈ y, (Lit.int .i64 y22).wf = true) → a1_2.length ≤ maxLen → (∀ y ∈ a1_2, (Lit.int .i64 y).wf = true) → a1_3.length ≤ maxLen → (∀ y ∈ a1_3, (Lit.int .i64 y).wf = true) → (Lit.int .i64 a1_4).wf = true → (Lit.int .i64 a1_5).wf = true → (Lit.int .i64 a1_6).wf = true → ∃ k, laws_FnExactEqualGames.f k a0_0_0 a0_0_1 a0_0_2 a0_0_3 a0_0_4 a0_0_5 a0_0_6 a0_0_7 a0_1 a0_2 a0_3 a0_4 a0_5 a0_6 a1_0_0 a1_0_1 a1_0_2 a1_0_3 a1_0_4 a1_0_5 a1_0_6 a1_0_7 a1_1 a1_2 a1_3 a1_4 a1_5 a1_6 = some true
theorem FnExactEqualGames : FnExactEqualGames_Stmt := by
  intro a0 a1 a2 a3 l4 l5 a6 a7 l8 l9 l10 a11 a12 a13 b0 b1 b2 b3 m4 m5 b6 b7 m8 m9 m10 b11 b12 b13 _ _ m4' _ m5' _ _ _ m8' mm m9' _ m10' _ _ _ _ _ _ n4 _ n5 _ _ _ n8 nm n9 _ n10 _ _ _ _
  refine Ev.rounds (g := fun k => laws_FnExactEqualGames.f k a0 a1 a2 a3 l4 l5 a6 a7 l8 l9 l10 a11 a12 a13 b0 b1 b2 b3 m4 m5 b6 b7 m8 m9 m10 b11 b12 b13) ?_
  simp only [laws_FnExactEqualGames.f]
  obtain ⟨v, e, z⟩ := laws_szGame_ev a0 a1 a2 a3 l4 l5 a6 a7 l8 l9 l10 a11 a12 a13 1048576 m4' m5' m8' (fun y hy => (mm y hy).1) m9' m10' (by omega) (by omega)
  refine Ev.bind e ?_
  rcases z with z | ⟨z0, z1, s4, s5, s8, sm, s9, s10⟩
  · exact ev_of_eq fun k => by simp only [z, ↓reduceIte]
  have n : ¬ v < 0 := by omega
  simp only [n, ↓reduceIte]
  obtain ⟨u, f, y⟩ := laws_szGame_ev b0 b1 b2 b3 m4 m5 b6 b7 m8 m9 m10 b11 b12 b13 v n4 n5 n8 (fun y hy => (nm y hy).1) n9 n10 z0 z1
  refine Ev.bind f ?_
  rcases y with y | ⟨y0, y1, t4, t5, t8, tm, t9, t10⟩
  · exact ev_of_eq fun k => by simp only [y, ↓reduceIte]
  have n' : ¬ u < 0 := by omega
  simp only [n', ↓reduceIte]
  refine Ev.bind (laws_toGame_ev a0 a1 a2 a3 l4 l5 a6 a7 l8 l9 l10 a11 a12 a13 s4 s5 s8 sm s9 s10) ?_
  refine Ev.bind (laws_toGame_ev b0 b1 b2 b3 m4 m5 b6 b7 m8 m9 m10 b11 b12 b13 t4 t5 t8 tm t9 t10) ?_
  refine Ev.bind (spec_EqualGames_ev a0 a1 a2 a3 l4 l5 a6 a7 l8 l9 l10 a11 a12 a13 b0 b1 b2 b3 m4 m5 b6 b7 m8 m9 m10 b11 b12 b13 s4 s5 s8 sm s9 s10) ?_
  refine Ev.bind (laws_toGame_ev a0 a1 a2 a3 l4 l5 a6 a7 l8 l9 l10 a11 a12 a13 s4 s5 s8 sm s9 s10) ?_
  refine Ev.bind (laws_toGame_ev b0 b1 b2 b3 m4 m5 b6 b7 m8 m9 m10 b11 b12 b13 t4 t5 t8 tm t9 t10) ?_
  refine Ev.bind (impl_EqualGames_ev a0 a1 a2 a3 l4 l5 a6 a7 l8 l9 l10 a11 a12 a13 b0 b1 b2 b3 m4 m5 b6 b7 m8 m9 m10 b11 b12 b13 s4 s5 s8 sm s9 s10) ?_
  simp only [bne_self_eq_false, Bool.false_eq_true, ↓reduceIte]
  refine Ev.bind (laws_toGame_ev a0 a1 a2 a3 l4 l5 a6 a7 l8 l9 l10 a11 a12 a13 s4 s5 s8 sm s9 s10) ?_
  refine Ev.bind (laws_eqGame_ev a0 a1 a2 a3 l4 l5 a6 a7 l8 l9 l10 a11 a12 a13 s4 s5 s8 sm s9 s10) ?_
  simp only [↓reduceIte]
  refine Ev.bind (laws_toGame_ev b0 b1 b2 b3 m4 m5 b6 b7 m8 m9 m10 b11 b12 b13 t4 t5 t8 tm t9 t10) ?_
  refine Ev.bind (laws_eqGame_ev b0 b1 b2 b3 m4 m5 b6 b7 m8 m9 m10 b11 b12 b13 t4 t5 t8 tm t9 t10) ?_
  exact ev_of_eq fun k => by simp only [↓reduceIte]

end Go.Proofs.Ytdakhelapeojgaa.Pure
