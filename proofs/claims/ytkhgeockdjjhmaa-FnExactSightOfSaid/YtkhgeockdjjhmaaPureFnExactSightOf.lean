/- The program's SightOf answers what the reference's answers, for all arguments. No condition but those that the statement itself names. -/
import Derived.Test.YtkhgeockdjjhmaaQFnExactSightOfx6
import Derived.Test.YtkhgeockdjjhmaaVLib
namespace Go.Proofs.Ytkhgeockdjjhmaa.Pure
open Go.RowKit Go.Proofs.Ytkhgeockdjjhmaa.QFnExactSightOf Go.Proofs.YtkhgeockdjjhmaaW.PrintWords Go.Proofs.YtkhgeockdjjhmaaW.PrintLast Go.Proofs.YtkhgeockdjjhmaaW.PrintMore Go.Proofs.Ytkhgeockdjjhmaa.Lib
set_option linter.unusedVariables false
set_option linter.unusedSimpArgs false

/-! laws_szIntS -/
theorem laws_szIntS_f (l : List Int) (a : Int) (hl : l.length ≤ maxLen) (ha : 0 ≤ a) (ha2 : a ≤ 1048576) : ∃ v, laws_szIntS.f l a = some v ∧ (v < 0 ∨ (0 ≤ v ∧ v ≤ a ∧ l.length ≤ 1048576)) := by
  unfold maxLen at hl
  unfold laws_szIntS.f
  rw [w64 (by omega) (by omega)]
  by_cases h : (l.length : Int) ≤ a
  · exact ⟨_, if_neg (by omega), .inr (by omega)⟩
  · exact ⟨_, if_pos (by omega), .inl (by omega)⟩

/-! laws_szIntSS -/
theorem laws_szIntSS_ev (l : List (List Int)) (a : Int) (hl : l.length ≤ maxLen) (hm : ∀ y ∈ l, y.length ≤ maxLen) (ha : 0 ≤ a) (ha2 : a ≤ 1048576) : ∃ v, Ev (fun k => laws_szIntSS.f k l a) v ∧ (v < 0 ∨ (0 ≤ v ∧ v ≤ a ∧ l.length ≤ 1048576 ∧ ∀ y ∈ l, y.length ≤ 1048576)) := by
  unfold maxLen at hl
  simp only [laws_szIntSS.f]
  rw [w64 (by omega) (by omega)]
  by_cases c : a - (l.length : Int) < 0
  · exact ⟨-1, ev_of_eq fun k => by simp only [c, ↓reduceIte], Or.inl (by omega)⟩
  · simp only [c, ↓reduceIte]
    have H : ∀ b, 0 ≤ b → b ≤ 1048576 → ∃ v, Ev (fun k => laws_szIntSS.l0 k l b 0) v ∧ (v < 0 ∨ (0 ≤ v ∧ v ≤ b ∧ ∀ y ∈ l, y.length ≤ 1048576)) := by
      refine loop_of l [] (by omega) (P := fun i rest => ∀ b, 0 ≤ b → b ≤ 1048576 → ∃ v, Ev (fun k => laws_szIntSS.l0 k l b i) v ∧ (v < 0 ∨ (0 ≤ v ∧ v ≤ b ∧ ∀ y ∈ rest, y.length ≤ 1048576))) ?_ ?_
      · intro b h0 h1
        exact ⟨b, ev_succ (ev_of_eq fun k => by simp only [laws_szIntSS.l0, Int.lt_irrefl, ↓reduceIte]), Or.inr ⟨h0, by omega, by simp⟩⟩
      · intro i x rest h0 h1 hx hmem hw ih b hb0 hb1
        have hx' : rd_L1 l i = x := hx
        obtain ⟨v, e, hv⟩ := laws_szIntS_f x b (hm x hmem) hb0 hb1
        rcases hv with hv | ⟨v0, v1, vl⟩
        · exact ⟨-1, ev_succ (ev_of_eq fun k => by simp only [laws_szIntSS.l0, h1, h0, hx', e, Option.bind_some, hv, ↓reduceIte]), Or.inl (by omega)⟩
        · obtain ⟨u, eu, hu⟩ := ih v v0 (by omega)
          have nv : ¬ v < 0 := by omega
          refine ⟨u, ev_succ ?_, ?_⟩
          · simp only [laws_szIntSS.l0, h1, h0, hx', e, Option.bind_some, nv, hw, ↓reduceIte]
            exact eu
          · rcases hu with hu | ⟨u0, u1, ul⟩
            · exact Or.inl hu
            · refine Or.inr ⟨u0, by omega, fun y hy => ?_⟩
              rcases List.mem_cons.mp hy with hy | hy
              · rw [hy]; exact vl
              · exact ul y hy
    obtain ⟨v, e, hv⟩ := H (a - l.length) (by omega) (by omega)
    exact ⟨v, e, hv.imp id (fun h => ⟨h.1, by omega, by omega, h.2.2⟩)⟩

/-! laws_szDeal -/
theorem laws_szDeal_ev (l0 : List (List Int)) (a1 a2 : Int) (l3 l4 l5 : List Int) (a6 : Int) (a : Int) (h0 : l0.length ≤ maxLen) (hm : ∀ y ∈ l0, y.length ≤ maxLen) (h3 : l3.length ≤ maxLen) (h4 : l4.length ≤ maxLen) (h5 : l5.length ≤ maxLen) (ha : 0 ≤ a) (ha2 : a ≤ 1048576) :
    ∃ v, Ev (fun k => laws_szDeal.f k l0 a1 a2 l3 l4 l5 a6 a) v ∧ (v < 0 ∨ (0 ≤ v ∧ v ≤ a ∧ l0.length ≤ 1048576 ∧ (∀ y ∈ l0, y.length ≤ 1048576) ∧ l3.length ≤ 1048576 ∧ l4.length ≤ 1048576 ∧ l5.length ≤ 1048576)) := by
  simp only [laws_szDeal.f]
  obtain ⟨u, eu, hu⟩ := laws_szIntSS_ev l0 a h0 hm ha ha2
  rcases hu with hu | ⟨u0, u1, b0, bm⟩
  · exact ⟨-1, Ev.bind eu (ev_of_eq fun k => by simp only [hu, ↓reduceIte]), Or.inl (by omega)⟩
  have n1 : ¬ u < 0 := by omega
  obtain ⟨t, et, ht⟩ := laws_szIntS_f l3 u h3 u0 (by omega)
  rcases ht with ht | ⟨t0, t1, b3⟩
  · exact ⟨-1, Ev.bind eu (ev_of_eq fun k => by simp only [n1, et, Option.bind_some, ht, ↓reduceIte]), Or.inl (by omega)⟩
  have n2 : ¬ t < 0 := by omega
  obtain ⟨s, es, hs⟩ := laws_szIntS_f l4 t h4 t0 (by omega)
  rcases hs with hs | ⟨s0, s1, b4⟩
  · exact ⟨-1, Ev.bind eu (ev_of_eq fun k => by simp only [n1, n2, et, es, Option.bind_some, hs, ↓reduceIte]), Or.inl (by omega)⟩
  have n3 : ¬ s < 0 := by omega
  obtain ⟨q, eq, hq⟩ := laws_szIntS_f l5 s h5 s0 (by omega)
  rcases hq with hq | ⟨q0, q1, b5⟩
  · exact ⟨-1, Ev.bind eu (ev_of_eq fun k => by simp only [n1, n2, n3, et, es, eq, Option.bind_some, hq, ↓reduceIte]), Or.inl (by omega)⟩
  have n4 : ¬ q < 0 := by omega
  exact ⟨q, Ev.bind eu (ev_of_eq fun k => by simp only [n1, n2, n3, n4, et, es, eq, Option.bind_some, ↓reduceIte]), Or.inr ⟨q0, by omega, b0, bm, b3, b4, b5⟩⟩

/-! laws_toIntS -/
theorem laws_toIntS_ev (l : List Int) (hl : l.length ≤ 1099511627776) : Ev (fun k => laws_toIntS.f k l) l := by
  have e1 : (0 : Int) ≤ (l.length : Int) := by omega
  have e2 : ((l.length : Int) : Int).toNat ≤ 35184372088832 := by omega
  simp only [laws_toIntS.f, e1, e2, ↓reduceIte]
  refine loop_int_pre l hl (P := fun i pre rest => Ev (fun k => laws_toIntS.l0 k l (pre ++ List.replicate rest.length 0) i) l) ?_ ?_
  · refine ev_succ (ev_of_eq fun k => ?_)
    simp only [laws_toIntS.l0, Int.lt_irrefl, ↓reduceIte, List.length_nil, List.replicate_zero, List.append_nil]
  · intro i pre x rest hl' hi h0 h1 hx hw ih
    refine ev_succ ?_
    have h2 : i < ((pre ++ List.replicate (x :: rest).length 0 : List Int).length : Int) := by simp; omega
    simp only [laws_toIntS.l0, h1, h0, h2, ↓reduceIte, hx, hw]
    rw [List.length_cons, List.replicate_succ, set_mid pre _ i hi]
    exact ih

/-! laws_toIntSS -/
theorem laws_toIntSS_ev (l : List (List Int)) (hl : l.length ≤ 1048576) (hm : ∀ y ∈ l, y.length ≤ 1048576) : Ev (fun k => laws_toIntSS.f k l) l := by
  have e1 : (0 : Int) ≤ (l.length : Int) := by omega
  have e2 : ((l.length : Int) : Int).toNat ≤ 11728124029610 := by omega
  simp only [laws_toIntSS.f, e1, e2, ↓reduceIte]
  refine loop_pre l [] (by omega) (P := fun i pre rest => Ev (fun k => laws_toIntSS.l0 k l (pre ++ List.replicate rest.length []) i) l) ?_ ?_
  · refine ev_succ (ev_of_eq fun k => ?_)
    simp only [laws_toIntSS.l0, Int.lt_irrefl, ↓reduceIte, List.length_nil, List.replicate_zero, List.append_nil]
  · intro i pre x rest hl' hi h0 h1 hx hw ih
    have hx' : rd_L1 l i = x := hx
    refine ev_succ ?_
    have h2 : i < ((pre ++ List.replicate (x :: rest).length ([] : List Int)).length : Int) := by simp; omega
    simp only [laws_toIntSS.l0, h1, h0, h2, ↓reduceIte, hx', hw]
    have hxl := hm x (by rw [hl']; simp)
    refine Ev.bind (laws_toIntS_ev x (by omega)) ?_
    rw [List.length_cons, List.replicate_succ, set_mid pre _ i (by omega)]
    exact ih

/-! laws_toDeal -/
theorem laws_toDeal_ev (l0 : List (List Int)) (a1 a2 : Int) (l3 l4 l5 : List Int) (a6 : Int) (h0 : l0.length ≤ 1048576) (hm : ∀ y ∈ l0, y.length ≤ 1048576) (h3 : l3.length ≤ 1048576) (h4 : l4.length ≤ 1048576) (h5 : l5.length ≤ 1048576) :
    Ev (fun k => laws_toDeal.f k l0 a1 a2 l3 l4 l5 a6) (l0, a1, a2, l3, l4, l5, a6) := by
  simp only [laws_toDeal.f]
  exact Ev.bind (laws_toIntSS_ev l0 h0 hm) (Ev.bind (laws_toIntS_ev l3 (by omega)) (Ev.bind (laws_toIntS_ev l4 (by omega)) (Ev.bind (laws_toIntS_ev l5 (by omega)) (Ev.now _))))

/-! laws_eqIntS -/
theorem laws_eqIntS_ev (l : List Int) (hl : l.length ≤ 1099511627776) : Ev (fun k => laws_eqIntS.f k l l) true := by
  simp only [laws_eqIntS.f, ↓reduceIte]
  refine loop_int l hl (P := fun i _ => Ev (fun k => laws_eqIntS.l0 k l l i) true) ?_ ?_
  · refine ev_succ (ev_of_eq fun k => ?_)
    simp only [laws_eqIntS.l0, Int.lt_irrefl, ↓reduceIte]
  · intro i x rest h0 h1 hx _ hw ih
    refine ev_succ ?_
    simp only [laws_eqIntS.l0, h1, h0, ↓reduceIte, hw]
    exact ih

/-! laws_eqIntSS -/
theorem laws_eqIntSS_ev (l : List (List Int)) (hl : l.length ≤ 1048576) (hm : ∀ y ∈ l, y.length ≤ 1048576) : Ev (fun k => laws_eqIntSS.f k l l) true := by
  simp only [laws_eqIntSS.f, ↓reduceIte]
  refine loop_of l [] (by omega) (P := fun i _ => Ev (fun k => laws_eqIntSS.l0 k l l i) true) ?_ ?_
  · refine ev_succ (ev_of_eq fun k => ?_)
    simp only [laws_eqIntSS.l0, Int.lt_irrefl, ↓reduceIte]
  · intro i x rest h0 h1 hx hmem hw ih
    have hx' : rd_L1 l i = x := hx
    have hxl := hm x hmem
    refine ev_succ ?_
    simp only [laws_eqIntSS.l0, h1, h0, hx', ↓reduceIte, hw]
    refine Ev.bind (laws_eqIntS_ev x (by omega)) ?_
    simp only [↓reduceIte]
    exact ih

/-! laws_eqDeal -/
theorem laws_eqDeal_ev (l0 : List (List Int)) (a1 a2 : Int) (l3 l4 l5 : List Int) (a6 : Int) (h0 : l0.length ≤ 1048576) (hm : ∀ y ∈ l0, y.length ≤ 1048576) (h3 : l3.length ≤ 1048576) (h4 : l4.length ≤ 1048576) (h5 : l5.length ≤ 1048576) :
    Ev (fun k => laws_eqDeal.f k l0 a1 a2 l3 l4 l5 a6 l0 a1 a2 l3 l4 l5 a6) true := by
  simp only [laws_eqDeal.f]
  refine Ev.bind (laws_eqIntSS_ev l0 h0 hm) ?_
  simp only [↓reduceIte]
  refine Ev.bind (laws_eqIntS_ev l3 (by omega)) ?_
  simp only [↓reduceIte]
  refine Ev.bind (laws_eqIntS_ev l4 (by omega)) ?_
  simp only [↓reduceIte]
  refine Ev.bind (laws_eqIntS_ev l5 (by omega)) ?_
  exact ev_of_eq fun k => by simp only [↓reduceIte]

/-! spec_l1In -/
theorem spec_l1In_f (a b c : Int) : spec_l1In.f a b c = some (decide (b ≤ a ∧ a ≤ c)) := by
  unfold spec_l1In.f
  by_cases h : b ≤ a <;> simp [h]

/-! spec_IsCard -/
theorem spec_IsCard_f (a : Int) : spec_IsCard.f a = some (isCardM a) := by
  unfold spec_IsCard.f
  rw [spec_l1In_f]
  rfl

/-! spec_HasCard -/
theorem spec_HasCard_ev (l : List Int) (c : Int) (hl : l.length ≤ 1099511627776) : Ev (fun k => spec_HasCard.f k l c) (l.contains c) := by
  simp only [spec_HasCard.f]
  refine loop_int l hl (P := fun i rest => Ev (fun k => spec_HasCard.l0 k l c i) (rest.contains c)) ?_ ?_
  · refine ev_succ (ev_of_eq fun k => ?_)
    simp only [spec_HasCard.l0, Int.lt_irrefl, ↓reduceIte, List.contains_nil]
  · intro i x rest h0 h1 hx _ hw ih
    refine ev_succ ?_
    simp only [spec_HasCard.l0, h1, h0, ↓reduceIte, hx, hw]
    by_cases h : x = c
    · refine ev_of_eq fun k => ?_
      simp [h]
    · have h' : ¬ c = x := fun e => h e.symm
      simp only [h, ↓reduceIte]
      refine ev_eq ih ?_
      simp [h']

/-! spec_IsHand -/
theorem spec_IsHand_ev (l : List Int) (hl : l.length ≤ 1099511627776) : Ev (fun k => spec_IsHand.f k l) (isHandM l) := by
  simp only [spec_IsHand.f, isHandM]
  refine loop_int_pre l hl (P := fun i pre rest => Ev (fun k => spec_IsHand.l0 k l i) (handP pre rest)) ?_ ?_
  · refine ev_succ (ev_of_eq fun k => ?_)
    simp only [spec_IsHand.l0, Int.lt_irrefl, ↓reduceIte, handP]
  · intro i pre x rest hl' hi h0 h1 hx hw ih
    refine ev_succ ?_
    have h2 : i ≤ (l.length : Int) := by omega
    have ht : l.take i.toNat = pre := by
      rw [hl', hi, Int.toNat_natCast]
      simp
    simp only [spec_IsHand.l0, h1, h0, h2, ↓reduceIte, hx, hw, ht, spec_IsCard_f, Option.bind_some, handP]
    cases hc : isCardM x
    · refine ev_of_eq fun k => ?_
      simp
    · simp only [↓reduceIte, Bool.true_and]
      refine Ev.bind (spec_HasCard_ev pre x (by rw [hl'] at hl; simp at hl; omega)) ?_
      cases hp : pre.contains x
      · simp only [Bool.false_eq_true, ↓reduceIte, Bool.not_false, Bool.true_and]
        exact ih
      · refine ev_of_eq fun k => ?_
        simp

/-! spec_AllApart -/
theorem spec_AllApart_ev (rows : List (List Int)) (hl : rows.length ≤ 16) (hm : ∀ r ∈ rows, r.length ≤ 1048576) : Ev (fun k => spec_AllApart.f k rows) (isHandM rows.flatten) := by
  simp only [spec_AllApart.f]
  suffices H : ∀ acc : List Int, (acc.length : Int) ≤ 0 * 1048576 → Ev (fun k => spec_AllApart.l0 k rows acc 0) (isHandM (acc ++ rows.flatten)) from H [] (by simp)
  refine loop_of rows [] (by omega) (P := fun i rest => ∀ acc : List Int, (acc.length : Int) ≤ i * 1048576 → Ev (fun k => spec_AllApart.l0 k rows acc i) (isHandM (acc ++ rest.flatten))) ?_ ?_
  · intro acc hacc
    refine ev_succ ?_
    simp only [spec_AllApart.l0, Int.lt_irrefl, ↓reduceIte, List.flatten_nil, List.append_nil]
    exact Ev.bind (spec_IsHand_ev acc (by omega)) (Ev.now _)
  · intro i x rest h0 h1 hx hmem hw ih acc hacc
    have hx' : rd_L1 rows i = x := hx
    have hxl := hm x hmem
    have g : acc.length + x.length < 17592186044416 := by omega
    refine ev_succ ?_
    simp only [spec_AllApart.l0, h1, h0, hx', g, hw, ↓reduceIte, List.flatten_cons]
    have step := ih (acc ++ x) (by simp; omega)
    rw [List.append_assoc] at step
    exact step

/-! spec_Min -/
theorem spec_Min_f (a b : Int) : spec_Min.f a b = some (mn a b) := by
  unfold spec_Min.f mn
  split <;> rfl

/-! spec_Max -/
theorem spec_Max_f (a b : Int) : spec_Max.f a b = some (if b > a then b else a) := by
  unfold spec_Max.f
  split <;> rfl

/-! spec_l12Sum -/
def clM (x : Int) : Int := if 0 < x then (if x ≤ 1000 then x else 1000) else 0
theorem clM_range (x : Int) : 0 ≤ clM x ∧ clM x ≤ 1000 := by unfold clM; split <;> (try split) <;> omega
theorem clM_eq (x : Int) : (if mn 1000 x > 0 then mn 1000 x else 0) = clM x := by
  unfold clM mn
  (repeat' split) <;> omega
theorem spec_l12Sum_ev (l : List Int) (hl : l.length ≤ 1048576) : Ev (fun k => spec_l12Sum.f k l) ((l.map clM).sum) := by
  simp only [spec_l12Sum.f]
  suffices H : ∀ a : Int, 0 ≤ a → a ≤ 0 * 1000 → Ev (fun k => spec_l12Sum.l0 k l a 0) (a + (l.map clM).sum) by simpa using H 0 (by omega) (by omega)
  refine loop_int l (by omega) (P := fun i rest => ∀ a : Int, 0 ≤ a → a ≤ i * 1000 → Ev (fun k => spec_l12Sum.l0 k l a i) (a + (rest.map clM).sum)) ?_ ?_
  · intro a _ _
    refine ev_succ (ev_of_eq fun k => ?_)
    simp only [spec_l12Sum.l0, Int.lt_irrefl, ↓reduceIte, List.map_nil, List.sum_nil, Int.add_zero]
  · intro i x rest h0 h1 hx hmem hw ih a ha0 ha1
    have hc := clM_range x
    refine ev_succ ?_
    simp only [spec_l12Sum.l0, h1, h0, hx, ↓reduceIte, hw, spec_Min_f, spec_Max_f, Option.bind_some, clM_eq, List.map_cons, List.sum_cons]
    rw [w64 (by omega) (by omega)]
    exact ev_eq (ih (a + clM x) (by omega) (by omega)) (by omega)

/-! spec_IsDeal -/
def allUp (q : Int → Bool) : Nat → Int → Bool
  | 0, _ => true
  | m + 1, i => q i && allUp q m (i + 1)
theorem allUp_iff (q : Int → Bool) : ∀ (m : Nat) (i : Int), allUp q m i = true ↔ ∀ j, i ≤ j → j < i + m → q j = true := by
  intro m
  induction m with
  | zero => intro i; simp only [allUp, true_iff]; intro j h0 h1; omega
  | succ m ih =>
    intro i
    rw [allUp, Bool.and_eq_true, ih]
    constructor
    · rintro ⟨h, h'⟩ j h0 h1
      by_cases e : j = i
      · rw [e]; exact h
      · exact h' j (by omega) (by omega)
    · intro h
      exact ⟨h i (by omega) (by omega), fun j h0 h1 => h j (by omega) (by omega)⟩
theorem all_rd (l : List Int) (p : Int → Bool) : l.all p = true ↔ ∀ j : Int, 0 ≤ j → j < (l.length : Int) → p (rd l j) = true := by
  rw [List.all_eq_true]
  constructor
  · intro h j h0 h1
    exact h _ (rd_mem l j h0 h1)
  · intro h x hx
    obtain ⟨n, hn, e⟩ := List.getElem_of_mem hx
    have := h (n : Int) (by omega) (by omega)
    unfold rd at this
    simpa [List.getD_eq_getElem?_getD, List.getElem?_eq_getElem hn, e] using this
def handOk (l0 : List (List Int)) (a1 : Int) (l3 : List Int) (a6 s i : Int) : Bool :=
  if (Int.tmod (wrap64 ((wrap64 (i - a1)) + (l0.length : Int))) (l0.length : Int)) < (l3.length : Int) then decide (((rd_L1 l0 i).length : Int) = wrap64 ((wrap64 (a6 - s)) - 1)) else decide (((rd_L1 l0 i).length : Int) = wrap64 (a6 - s))
def dealM (l0 : List (List Int)) (a1 a2 : Int) (l3 l4 l5 : List Int) (a6 : Int) : Bool :=
  decide (2 ≤ (l0.length : Int) ∧ (l0.length : Int) ≤ 4) && (decide ((l4.length : Int) = (l0.length : Int)) && (decide ((l5.length : Int) = (l0.length : Int)) && (l4.all (fun x => decide (0 ≤ x ∧ x ≤ 26)) && (l5.all (fun x => decide (0 ≤ x)) && (isHandM (l0.flatten ++ l3) && (decide (0 ≤ a1 ∧ a1 ≤ (l0.length : Int) - 1) && (decide (-1 ≤ a2 ∧ a2 ≤ 3) && (decide (0 ≤ a6 ∧ a6 ≤ 26) && (decide ((l3.length : Int) < (l0.length : Int)) && allUp (handOk l0 a1 l3 a6 l4.sum) l0.length 0)))))))))
theorem clM_sum_range (l : List Int) : 0 ≤ (l.map clM).sum ∧ (l.map clM).sum ≤ 1000 * l.length := by
  induction l with
  | nil => simp
  | cons x l ih => have := clM_range x; simp only [List.map_cons, List.sum_cons, List.length_cons]; omega
theorem clM_le_sum (l : List Int) (x : Int) (h : x ∈ l) : clM x ≤ (l.map clM).sum := by
  induction l with
  | nil => cases h
  | cons y l ih =>
    have h1 := clM_range y
    have h2 := clM_sum_range l
    simp only [List.map_cons, List.sum_cons]
    rcases List.mem_cons.mp h with h | h
    · subst h; omega
    · have := ih h; omega
theorem clM_small (l : List Int) (h : ∀ x ∈ l, 0 ≤ x ∧ x ≤ 26) : (l.map clM).sum = l.sum := by
  induction l with
  | nil => rfl
  | cons x l ih =>
    simp only [List.map_cons, List.sum_cons]
    rw [ih (fun y hy => h y (List.mem_cons_of_mem _ hy))]
    have h1 := h x List.mem_cons_self
    have h2 : clM x = x := by unfold clM; (repeat' split) <;> omega
    rw [h2]
theorem all26 (l : List Int) (ha : ∀ j : Int, 0 ≤ j → j < (l.length : Int) → 0 ≤ rd l j ∧ rd l j ≤ 26) : ∀ x ∈ l, 0 ≤ x ∧ x ≤ 26 := by
  have h := (all_rd l (fun x => decide (0 ≤ x ∧ x ≤ 26))).mpr (fun j j0 j1 => decide_eq_true (ha j j0 j1))
  intro x hx
  exact of_decide_eq_true (List.all_eq_true.mp h x hx)
theorem deal_same (l0 : List (List Int)) (a1 a2 : Int) (l3 l4 l5 : List Int) (a6 : Int) (hn : 2 ≤ l0.length ∧ l0.length ≤ 4) (e4 : l4.length = l0.length) (e5 : l5.length = l0.length) (h6 : 0 ≤ a6 ∧ a6 ≤ 26) :
    allUp (fun i => decide (0 ≤ rd l4 i) && (decide (0 ≤ rd l5 i) && handOk l0 a1 l3 a6 (l4.map clM).sum i)) l0.length 0 = (l4.all (fun x => decide (0 ≤ x ∧ x ≤ 26)) && (l5.all (fun x => decide (0 ≤ x)) && allUp (handOk l0 a1 l3 a6 l4.sum) l0.length 0)) := by
  rw [Bool.eq_iff_iff, Bool.and_eq_true, Bool.and_eq_true, allUp_iff, allUp_iff, all_rd, all_rd]
  simp only [Bool.and_eq_true, decide_eq_true_eq]
  have hr := clM_sum_range l4
  constructor
  · intro h
    have hs : (l4.map clM).sum ≤ 26 := by
      have h00 := (h 0 (by omega) (by omega)).2.2
      unfold handOk at h00
      have w1 : wrap64 (a6 - (l4.map clM).sum) = a6 - (l4.map clM).sum := w64 (by omega) (by omega)
      have w2 : wrap64 (a6 - (l4.map clM).sum - 1) = a6 - (l4.map clM).sum - 1 := w64 (by omega) (by omega)
      rw [w1, w2] at h00
      split at h00
      · have := of_decide_eq_true h00; omega
      · have := of_decide_eq_true h00; omega
    have ha : ∀ j : Int, 0 ≤ j → j < (l4.length : Int) → 0 ≤ rd l4 j ∧ rd l4 j ≤ 26 := by
      intro j j0 j1
      have p := (h j j0 (by omega)).1
      have q := clM_le_sum l4 _ (rd_mem l4 j j0 j1)
      have q2 : clM (rd l4 j) ≤ 26 := by omega
      refine ⟨p, ?_⟩
      unfold clM at q2
      split at q2
      · split at q2 <;> omega
      · omega
    rw [clM_small l4 (all26 l4 ha)] at h
    exact ⟨ha, fun j j0 j1 => (h j j0 (by omega)).2.1, fun j j0 j1 => (h j j0 j1).2.2⟩
  · rintro ⟨ha, hb, hc⟩ j j0 j1
    rw [clM_small l4 (all26 l4 ha)]
    exact ⟨(ha j j0 (by omega)).1, hb j j0 (by omega), hc j j0 j1⟩
theorem spec_IsDeal_l0 (l0 : List (List Int)) (a1 a2 : Int) (l3 l4 l5 : List Int) (a6 : Int) (hn : 2 ≤ l0.length ∧ l0.length ≤ 4) (e4 : l4.length = l0.length) (e5 : l5.length = l0.length) :
    Ev (fun k => spec_IsDeal.l0 k (l0.length : Int) 0 l0 a1 a2 l3 l4 l5 a6) (allUp (fun i => decide (0 ≤ rd l4 i) && (decide (0 ≤ rd l5 i) && handOk l0 a1 l3 a6 (l4.map clM).sum i)) l0.length 0) := by
  refine loop_up l0.length (by omega) (P := fun i m => Ev (fun k => spec_IsDeal.l0 k (l0.length : Int) i l0 a1 a2 l3 l4 l5 a6) (allUp (fun i => decide (0 ≤ rd l4 i) && (decide (0 ≤ rd l5 i) && handOk l0 a1 l3 a6 (l4.map clM).sum i)) m i)) ?_ ?_
  · refine ev_succ (ev_of_eq fun k => ?_)
    simp only [spec_IsDeal.l0, Int.lt_irrefl, ↓reduceIte, allUp]
  · intro i m h0 h1 hm hw ih
    have g4 : i < (l4.length : Int) := by omega
    have g5 : i < (l5.length : Int) := by omega
    refine ev_succ ?_
    simp only [spec_IsDeal.l0, h0, h1, g4, ↓reduceIte, allUp]
    by_cases c4 : rd l4 i < 0
    · have c4' : ¬ 0 ≤ rd l4 i := by omega
      simp only [c4, c4', ↓reduceIte, decide_false, Bool.false_and]
      exact ev_succ (ev_of_eq fun k => by simp only [spec_IsDeal.j2, ↓reduceIte])
    · have c4' : 0 ≤ rd l4 i := by omega
      simp only [c4, c4', g5, ↓reduceIte, decide_true, Bool.true_and]
      by_cases c5 : rd l5 i < 0
      · have c5' : ¬ 0 ≤ rd l5 i := by omega
        simp only [c5, c5', decide_true, decide_false, Bool.false_and]
        exact ev_succ (ev_of_eq fun k => by simp only [spec_IsDeal.j2, ↓reduceIte])
      · have c5' : 0 ≤ rd l5 i := by omega
        have z : ¬ (l0.length : Int) = 0 := by omega
        simp only [c5, c5', decide_true, decide_false, Bool.true_and]
        refine ev_succ ?_
        simp only [spec_IsDeal.j2, Bool.false_eq_true, ↓reduceIte]
        refine Ev.bind (spec_l12Sum_ev l4 (by omega)) ?_
        simp only [z, h0, h1, hw, ↓reduceIte]
        unfold handOk
        split
        · by_cases c : ((rd_L1 l0 i).length : Int) = wrap64 (wrap64 (a6 - (l4.map clM).sum) - 1)
          · simp only [c, ↓reduceIte, decide_true, Bool.true_and]
            exact ih
          · exact ev_of_eq fun k => by simp only [c, ↓reduceIte, decide_false, Bool.false_and]
        · by_cases c : ((rd_L1 l0 i).length : Int) = wrap64 (a6 - (l4.map clM).sum)
          · simp only [c, ↓reduceIte, decide_true, Bool.true_and]
            exact ih
          · exact ev_of_eq fun k => by simp only [c, ↓reduceIte, decide_false, Bool.false_and]
theorem spec_IsDeal_j0t (n : Int) (l0 : List (List Int)) (a1 a2 : Int) (l3 l4 l5 : List Int) (a6 : Int) : Ev (fun k => spec_IsDeal.j0 k n true l0 a1 a2 l3 l4 l5 a6) false :=
  ev_succ (ev_of_eq fun k => by simp only [spec_IsDeal.j0, ↓reduceIte])
theorem rows_small (l0 : List (List Int)) (l3 : List Int) (hm : ∀ y ∈ l0, y.length ≤ 1048576) (h3 : l3.length ≤ 1048576) : ∀ y ∈ l0 ++ [l3], y.length ≤ 1048576 := by
  intro r hr
  rcases List.mem_append.mp hr with hr | hr
  · exact hm r hr
  · rw [List.mem_singleton] at hr; rw [hr]; exact h3
theorem flat_one (l0 : List (List Int)) (l3 : List Int) : (l0 ++ [l3]).flatten = l0.flatten ++ l3 := by simp
theorem spec_IsDeal_j0f (l0 : List (List Int)) (a1 a2 : Int) (l3 l4 l5 : List Int) (a6 : Int) (hm : ∀ y ∈ l0, y.length ≤ 1048576) (h3 : l3.length ≤ 1048576) (hn : 2 ≤ l0.length ∧ l0.length ≤ 4) (e4 : l4.length = l0.length) (e5 : l5.length = l0.length) (h6 : 0 ≤ a6 ∧ a6 ≤ 26) :
    Ev (fun k => spec_IsDeal.j0 k (l0.length : Int) false l0 a1 a2 l3 l4 l5 a6) (isHandM (l0.flatten ++ l3) && (l4.all (fun x => decide (0 ≤ x ∧ x ≤ 26)) && (l5.all (fun x => decide (0 ≤ x)) && allUp (handOk l0 a1 l3 a6 l4.sum) l0.length 0))) := by
  have g1 : l0.length < 5864062014805 := by omega
  have g2 : l0.length + 1 < 5864062014805 := by omega
  refine ev_succ ?_
  simp only [spec_IsDeal.j0, Bool.false_eq_true, ↓reduceIte, Option.bind_some, List.length_nil, Nat.zero_add, List.nil_append, List.length_cons, g1, g2]
  refine Ev.bind (spec_AllApart_ev (l0 ++ [l3]) (by simp; omega) (rows_small l0 l3 hm h3)) ?_
  rw [flat_one]
  cases isHandM (l0.flatten ++ l3)
  · exact ev_of_eq fun k => by simp only [Bool.false_eq_true, ↓reduceIte, Bool.false_and]
  · simp only [↓reduceIte, Bool.true_and]
    exact ev_eq (spec_IsDeal_l0 l0 a1 a2 l3 l4 l5 a6 hn e4 e5) (deal_same l0 a1 a2 l3 l4 l5 a6 hn e4 e5 h6)
theorem spec_IsDeal_ev (l0 : List (List Int)) (a1 a2 : Int) (l3 l4 l5 : List Int) (a6 : Int) (h0 : l0.length ≤ 1048576) (hm : ∀ y ∈ l0, y.length ≤ 1048576) (h3 : l3.length ≤ 1048576) (h4 : l4.length ≤ 1048576) (h5 : l5.length ≤ 1048576) :
    Ev (fun k => spec_IsDeal.f k l0 a1 a2 l3 l4 l5 a6) (dealM l0 a1 a2 l3 l4 l5 a6) := by
  simp only [spec_IsDeal.f, spec_l1In_f, Option.bind_some]
  unfold dealM
  by_cases c1 : 2 ≤ (l0.length : Int) ∧ (l0.length : Int) ≤ 4
  · have hn : 2 ≤ l0.length ∧ l0.length ≤ 4 := by omega
    have w1 : wrap64 ((l0.length : Int) - 1) = (l0.length : Int) - 1 := w64 (by omega) (by omega)
    simp only [c1, and_self, decide_true, ↓reduceIte, Bool.true_and, w1]
    by_cases c2 : (l4.length : Int) = (l0.length : Int)
    · simp only [c2, ↓reduceIte, decide_true, Bool.true_and]
      by_cases c3 : (l5.length : Int) = (l0.length : Int)
      · simp only [c3, ↓reduceIte, decide_true, Bool.true_and]
        by_cases c4 : 0 ≤ a1 ∧ a1 ≤ (l0.length : Int) - 1
        · simp only [c4, and_self, decide_true, ↓reduceIte, Bool.true_and]
          by_cases c5 : -1 ≤ a2 ∧ a2 ≤ 3
          · simp only [c5, and_self, decide_true, ↓reduceIte, Bool.true_and]
            by_cases c6 : 0 ≤ a6 ∧ a6 ≤ 26
            · simp only [c6, and_self, decide_true, ↓reduceIte, Bool.true_and]
              by_cases c7 : (l3.length : Int) ≥ (l0.length : Int)
              · have c7' : ¬ (l3.length : Int) < (l0.length : Int) := by omega
                simp only [c7, c7', decide_true, decide_false, Bool.false_and, Bool.and_false]
                exact spec_IsDeal_j0t _ l0 a1 a2 l3 l4 l5 a6
              · have c7' : (l3.length : Int) < (l0.length : Int) := by omega
                simp only [c7, c7', decide_true, decide_false, Bool.true_and]
                refine ev_eq (spec_IsDeal_j0f l0 a1 a2 l3 l4 l5 a6 hm h3 hn (by omega) (by omega) c6) ?_
                cases isHandM (l0.flatten ++ l3) <;> cases l4.all (fun x => decide (0 ≤ x ∧ x ≤ 26)) <;> cases l5.all (fun x => decide (0 ≤ x)) <;> rfl
            · simp only [c6, decide_false, Bool.false_eq_true, ↓reduceIte, Bool.false_and, Bool.and_false]
              exact spec_IsDeal_j0t _ l0 a1 a2 l3 l4 l5 a6
          · simp only [c5, decide_false, Bool.false_eq_true, ↓reduceIte, Bool.false_and, Bool.and_false]
            exact spec_IsDeal_j0t _ l0 a1 a2 l3 l4 l5 a6
        · simp only [c4, decide_false, Bool.false_eq_true, ↓reduceIte, Bool.false_and, Bool.and_false]
          exact spec_IsDeal_j0t _ l0 a1 a2 l3 l4 l5 a6
      · simp only [c3, ↓reduceIte, decide_false, Bool.false_and]
        exact spec_IsDeal_j0t _ l0 a1 a2 l3 l4 l5 a6
    · simp only [c2, ↓reduceIte, decide_false, Bool.false_and]
      exact spec_IsDeal_j0t _ l0 a1 a2 l3 l4 l5 a6
  · simp only [c1, decide_false, Bool.false_eq_true, ↓reduceIte, Bool.false_and]
    exact spec_IsDeal_j0t _ l0 a1 a2 l3 l4 l5 a6

/-! impl_Sorted -/
theorem impl_Sorted_f (l : List Int) (hl : l.length ≤ 1048576) : impl_Sorted.f l = some (sortF [] l) := by
  unfold impl_Sorted.f
  rw [if_pos (by omega)]

/-! spec_Sorted -/
theorem spec_Sorted_f (l : List Int) (hl : l.length ≤ 1048576) : spec_Sorted.f l = some (sortF [] l) := by
  unfold spec_Sorted.f
  rw [if_pos (by omega)]
theorem sortF_length : ∀ (l out : List Int), (sortF out l).length = out.length + l.length
  | [], out => by simp [sortF]
  | c :: r, out => by
    rw [sortF, sortF_length r, insF_length]
    simp
    omega

/-! spec_SightOf -/
/-- What a player sees of a deal. -/
def sightM (l0 : List (List Int)) (a1 a2 : Int) (l3 l4 l5 : List Int) (a6 me : Int) : Int × List Int × List Int × Int × Int × List Int × List Int × Bool :=
  if dealM l0 a1 a2 l3 l4 l5 a6 = true ∧ (0 ≤ me ∧ me ≤ (l0.length : Int) - 1) then (me, sortF [] (rd_L1 l0 me), l3, a1, a2, l0.map (fun r => (r.length : Int)), l4, true) else (0, [], [], 0, 0, [], [], false)
theorem row_le {l8 : List (List Int)} (a11 : Int) (hm : ∀ y ∈ l8, y.length ≤ 1048576) : (rd_L1 l8 a11).length ≤ 1048576 := by
  unfold rd_L1
  rw [List.getD_eq_getElem?_getD]
  cases h : l8[a11.toNat]? with
  | none => simp
  | some y => exact hm y (List.mem_of_getElem? h)
theorem sightM_small (l0 : List (List Int)) (a1 a2 : Int) (l3 l4 l5 : List Int) (a6 me : Int) (h0 : l0.length ≤ 1048576) (hm : ∀ y ∈ l0, y.length ≤ 1048576) (h3 : l3.length ≤ 1048576) (h4 : l4.length ≤ 1048576) :
    (sightM l0 a1 a2 l3 l4 l5 a6 me).2.1.length ≤ 1048576 ∧ (sightM l0 a1 a2 l3 l4 l5 a6 me).2.2.1.length ≤ 1048576 ∧ (sightM l0 a1 a2 l3 l4 l5 a6 me).2.2.2.2.2.1.length ≤ 1048576 ∧ (sightM l0 a1 a2 l3 l4 l5 a6 me).2.2.2.2.2.2.1.length ≤ 1048576 := by
  unfold sightM
  split
  · refine ⟨?_, h3, by simpa using h0, h4⟩
    show (sortF [] (rd_L1 l0 me)).length ≤ 1048576
    rw [sortF_length]
    have := row_le me hm
    simpa using this
  · simp
theorem spec_SightOf_ev (l0 : List (List Int)) (a1 a2 : Int) (l3 l4 l5 : List Int) (a6 me : Int) (h0 : l0.length ≤ 1048576) (hm : ∀ y ∈ l0, y.length ≤ 1048576) (h3 : l3.length ≤ 1048576) (h4 : l4.length ≤ 1048576) (h5 : l5.length ≤ 1048576) :
    Ev (fun k => spec_SightOf.f k l0 a1 a2 l3 l4 l5 a6 me) (sightM l0 a1 a2 l3 l4 l5 a6 me) := by
  have F : Ev (fun k => spec_SightOf.j0 k me true l0 a1 a2 l3 l4 l5 a6) (0, [], [], 0, 0, [], [], false) := ev_succ (ev_of_eq fun k => by simp only [spec_SightOf.j0, ↓reduceIte])
  simp only [spec_SightOf.f, spec_l1In_f, Option.bind_some]
  refine Ev.bind (spec_IsDeal_ev l0 a1 a2 l3 l4 l5 a6 h0 hm h3 h4 h5) ?_
  have hw : wrap64 ((l0.length : Int) - 1) = (l0.length : Int) - 1 := w64 (by omega) (by omega)
  cases hd : dealM l0 a1 a2 l3 l4 l5 a6
  · simp only [Bool.false_eq_true, ↓reduceIte]
    exact ev_eq F (by simp [sightM, hd])
  · simp only [↓reduceIte, hw]
    by_cases hme : 0 ≤ me ∧ me ≤ (l0.length : Int) - 1
    · have e : decide (0 ≤ me ∧ me ≤ (l0.length : Int) - 1) = true := decide_eq_true hme
      rw [sightM, if_pos ⟨hd, hme⟩]
      simp only [e, Bool.not_true]
      refine ev_succ ?_
      obtain ⟨m0, m1⟩ := hme
      have m2 : me < (l0.length : Int) := by omega
      have hrow := row_le me hm
      have b3 : l3.length < 17592186044416 := by omega
      have b4 : l4.length < 17592186044416 := by omega
      simp only [spec_SightOf.j0, Bool.false_eq_true, m0, m2, ↓reduceIte, spec_Sorted_f _ hrow, Option.bind_some, List.length_nil, Nat.zero_add, b3, b4, List.nil_append]
      generalize sortF [] (rd_L1 l0 me) = S
      refine loop_pre l0 [] (by omega) (P := fun i pre rest => Ev (fun k => spec_SightOf.l0 k i l0 a1 a2 l3 l4 l5 a6 me S l3 a1 a2 (pre.map fun r => (r.length : Int)) l4) (me, S, l3, a1, a2, l0.map (fun r => (r.length : Int)), l4, true)) ?_ ?_
      · refine ev_succ (ev_of_eq fun k => ?_)
        simp only [spec_SightOf.l0, Int.lt_irrefl, ↓reduceIte]
      · intro i pre x rest hl hi i0 i1 hx hw2 ih
        refine ev_succ ?_
        have hr : rd_L1 l0 i = x := hx
        have hb : (pre.map fun r => (r.length : Int)).length < 17592186044416 := by
          have : l0.length = pre.length + (rest.length + 1) := by rw [hl]; simp
          simp
          omega
        simp only [spec_SightOf.l0, i1, i0, hr, hw2, hb, ↓reduceIte]
        simpa using ih
    · have e : decide (0 ≤ me ∧ me ≤ (l0.length : Int) - 1) = false := decide_eq_false hme
      simp only [e, Bool.not_false]
      exact ev_eq F (by simp only [sightM, hd, hme, and_false, ↓reduceIte])

/-! impl_InRange -/
theorem impl_InRange_f (a b c : Int) : impl_InRange.f a b c = some (decide (b ≤ a ∧ a ≤ c)) := by
  unfold impl_InRange.f
  by_cases h : b ≤ a <;> simp [h]

/-! impl_copyOf -/
theorem impl_copyOf_f (l : List Int) (hl : l.length ≤ 1099511627776) : impl_copyOf.f l = some l := by
  have h : ([] : List Int).length + l.length < 17592186044416 := by simp; omega
  simp only [impl_copyOf.f, Option.bind_some, h, ↓reduceIte, List.nil_append]

/-! impl_copyRows -/
theorem impl_copyRows_ev (l : List (List Int)) (hl : l.length ≤ 1048576) (hm : ∀ y ∈ l, y.length ≤ 1048576) : Ev (fun k => impl_copyRows.f k l) l := by
  simp only [impl_copyRows.f]
  refine loop_pre l [] (by omega) (P := fun i pre _ => Ev (fun k => impl_copyRows.l0 k pre l (l.length : Int) i) l) ?_ ?_
  · refine ev_succ (ev_of_eq fun k => ?_)
    simp only [impl_copyRows.l0, Int.lt_irrefl, ↓reduceIte]
  · intro i pre x rest hl' hi h0 h1 hx hw ih
    have hx' : rd_L1 l i = x := hx
    have hxl := hm x (by rw [hl']; simp)
    have g : pre.length < 5864062014805 := by
      have : pre.length ≤ l.length := by rw [hl']; simp
      omega
    refine ev_succ ?_
    simp only [impl_copyRows.l0, h1, h0, hx', impl_copyOf_f x (by omega), Option.bind_some, g, hw, ↓reduceIte]
    exact ih

/-! impl_IsCard -/
theorem impl_IsCard_f (a : Int) : impl_IsCard.f a = some (isCardM a) := by
  unfold impl_IsCard.f
  rw [impl_InRange_f]
  rfl

/-! impl_IsHand -/
theorem impl_IsHand_f (l : List Int) : impl_IsHand.f l = some (isHandM l) := by
  suffices H : ∀ (rest pre : List Int) (seen : List Bool), seen.length = 52 → (∀ c : Int, 0 ≤ c → c ≤ 51 → seen.getD c.toNat false = pre.contains c) → impl_IsHand.handF seen rest = handP pre rest by
    unfold impl_IsHand.f isHandM
    rw [H l [] _ List.length_replicate (fun c h0 h1 => by rw [getD_replicate_false]; rfl)]
  intro rest
  induction rest with
  | nil => intro pre seen _ _; cases seen <;> rfl
  | cons x rest ih =>
    intro pre seen hs hp
    unfold impl_IsHand.handF handP isCardM
    by_cases h : 0 ≤ x ∧ x ≤ 51
    · simp only [h, and_self, ↓reduceIte, decide_true, Bool.true_and, hp x h.1 h.2]
      cases hc : pre.contains x
      · simp only [Bool.false_eq_true, ↓reduceIte, Bool.not_false, Bool.true_and]
        refine ih _ _ (by simp [hs]) (fun c h0 h1 => ?_)
        by_cases e : c = x
        · subst e
          have : c.toNat < seen.length := by omega
          simp [List.getD_eq_getElem?_getD, List.getElem?_set, this]
        · have e' : ¬ x.toNat = c.toNat := by omega
          have := hp c h0 h1
          simp only [List.getD_eq_getElem?_getD] at this ⊢
          rw [List.getElem?_set_ne e', this]
          simp [e]
      · simp
    · simp [h]

/-! impl_AllApart -/
theorem impl_AllApart_ev (rows : List (List Int)) (hl : rows.length ≤ 16) (hm : ∀ r ∈ rows, r.length ≤ 1048576) : Ev (fun k => impl_AllApart.f k rows) (isHandM rows.flatten) := by
  simp only [impl_AllApart.f]
  suffices H : ∀ acc : List Int, (acc.length : Int) ≤ 0 * 1048576 → Ev (fun k => impl_AllApart.l0 k acc rows (rows.length : Int) 0) (isHandM (acc ++ rows.flatten)) from H [] (by simp)
  refine loop_of rows [] (by omega) (P := fun i rest => ∀ acc : List Int, (acc.length : Int) ≤ i * 1048576 → Ev (fun k => impl_AllApart.l0 k acc rows (rows.length : Int) i) (isHandM (acc ++ rest.flatten))) ?_ ?_
  · intro acc _
    refine ev_succ (ev_of_eq fun k => ?_)
    simp only [impl_AllApart.l0, Int.lt_irrefl, ↓reduceIte, List.flatten_nil, List.append_nil, impl_IsHand_f, Option.bind_some]
  · intro i x rest h0 h1 hx hmem hw ih acc hacc
    have hx' : rd_L1 rows i = x := hx
    have hxl := hm x hmem
    have g : acc.length + x.length < 17592186044416 := by omega
    refine ev_succ ?_
    simp only [impl_AllApart.l0, h1, h0, hx', g, hw, ↓reduceIte, List.flatten_cons]
    have step := ih (acc ++ x) (by simp; omega)
    rw [List.append_assoc] at step
    exact step

/-! impl_allIn -/
theorem impl_allIn_ev (l : List Int) (hl : l.length ≤ 1099511627776) (a b : Int) : Ev (fun k => impl_allIn.f k l a b) (l.all (fun x => decide (a ≤ x ∧ x ≤ b))) := by
  simp only [impl_allIn.f]
  refine loop_int l hl (P := fun i rest => Ev (fun k => impl_allIn.l0 k a b l (l.length : Int) i) (rest.all (fun x => decide (a ≤ x ∧ x ≤ b)))) ?_ ?_
  · refine ev_succ (ev_of_eq fun k => ?_)
    simp only [impl_allIn.l0, Int.lt_irrefl, ↓reduceIte, List.all_nil]
  · intro i x rest h0 h1 hx _ hw ih
    refine ev_succ ?_
    simp only [impl_allIn.l0, h1, h0, ↓reduceIte, hx, hw, impl_InRange_f, Option.bind_some]
    by_cases h : a ≤ x ∧ x ≤ b
    · simp only [h, and_self, decide_true, ↓reduceIte, List.all_cons, Bool.true_and]
      exact ih
    · refine ev_of_eq fun k => ?_
      simp [h]

/-! impl_sum -/
theorem impl_sum_ev (l : List Int) (hl : l.length ≤ 1048576) (hm : ∀ x ∈ l, 0 ≤ x ∧ x ≤ 26) : Ev (fun k => impl_sum.f k l) l.sum := by
  simp only [impl_sum.f]
  suffices H : ∀ a : Int, 0 ≤ a → a ≤ 0 * 26 → Ev (fun k => impl_sum.l0 k a l (l.length : Int) 0) (a + l.sum) by simpa using H 0 (by omega) (by omega)
  refine loop_int l (by omega) (P := fun i rest => ∀ a : Int, 0 ≤ a → a ≤ i * 26 → Ev (fun k => impl_sum.l0 k a l (l.length : Int) i) (a + rest.sum)) ?_ ?_
  · intro a _ _
    refine ev_succ (ev_of_eq fun k => ?_)
    simp only [impl_sum.l0, Int.lt_irrefl, ↓reduceIte, List.sum_nil, Int.add_zero]
  · intro i x rest h0 h1 hx hmem hw ih a ha0 ha1
    have hc := hm x hmem
    refine ev_succ ?_
    simp only [impl_sum.l0, h1, h0, hx, ↓reduceIte, hw, List.sum_cons]
    rw [w64 (by omega) (by omega)]
    exact ev_eq (ih (a + x) (by omega) (by omega)) (by omega)

/-! impl_IsDeal -/
theorem impl_IsDeal_l1 (l0 : List (List Int)) (a1 a2 : Int) (l3 l4 l5 : List Int) (a6 : Int) (hn : 2 ≤ l0.length ∧ l0.length ≤ 4) (h4 : l4.length ≤ 1048576) (h26 : ∀ x ∈ l4, 0 ≤ x ∧ x ≤ 26) :
    Ev (fun k => impl_IsDeal.l1 k (l0.length : Int) (l0.length : Int) 0 l0 a1 a2 l3 l4 l5 a6) (allUp (handOk l0 a1 l3 a6 l4.sum) l0.length 0) := by
  refine loop_up l0.length (by omega) (P := fun i m => Ev (fun k => impl_IsDeal.l1 k (l0.length : Int) (l0.length : Int) i l0 a1 a2 l3 l4 l5 a6) (allUp (handOk l0 a1 l3 a6 l4.sum) m i)) ?_ ?_
  · refine ev_succ (ev_of_eq fun k => ?_)
    simp only [impl_IsDeal.l1, Int.lt_irrefl, ↓reduceIte, allUp]
  · intro i m h0 h1 hm hw ih
    have z : ¬ (l0.length : Int) = 0 := by omega
    refine ev_succ ?_
    simp only [impl_IsDeal.l1, h1, ↓reduceIte, allUp]
    refine Ev.bind (impl_sum_ev l4 h4 h26) ?_
    simp only [z, h0, h1, hw, ↓reduceIte]
    unfold handOk
    split
    · by_cases c : ((rd_L1 l0 i).length : Int) = wrap64 (wrap64 (a6 - l4.sum) - 1)
      · simp only [c, ↓reduceIte, decide_true, Bool.true_and]
        exact ih
      · exact ev_of_eq fun k => by simp only [c, ↓reduceIte, decide_false, Bool.false_and]
    · by_cases c : ((rd_L1 l0 i).length : Int) = wrap64 (a6 - l4.sum)
      · simp only [c, ↓reduceIte, decide_true, Bool.true_and]
        exact ih
      · exact ev_of_eq fun k => by simp only [c, ↓reduceIte, decide_false, Bool.false_and]
theorem impl_IsDeal_j2t (n : Int) (l0 : List (List Int)) (a1 a2 : Int) (l3 l4 l5 : List Int) (a6 : Int) : Ev (fun k => impl_IsDeal.j2 k n true l0 a1 a2 l3 l4 l5 a6) false :=
  ev_succ (ev_of_eq fun k => by simp only [impl_IsDeal.j2, ↓reduceIte])
theorem impl_IsDeal_j0t (n : Int) (l0 : List (List Int)) (a1 a2 : Int) (l3 l4 l5 : List Int) (a6 : Int) : Ev (fun k => impl_IsDeal.j0 k n true l0 a1 a2 l3 l4 l5 a6) false :=
  ev_succ (ev_of_eq fun k => by simp only [impl_IsDeal.j0, ↓reduceIte])
def dealR (l0 : List (List Int)) (a1 a2 : Int) (l3 l4 l5 : List Int) (a6 : Int) : Bool := isHandM (l0.flatten ++ l3) && (decide (0 ≤ a1 ∧ a1 ≤ (l0.length : Int) - 1) && (decide (-1 ≤ a2 ∧ a2 ≤ 3) && (decide (0 ≤ a6 ∧ a6 ≤ 26) && (decide ((l3.length : Int) < (l0.length : Int)) && allUp (handOk l0 a1 l3 a6 l4.sum) l0.length 0))))
theorem impl_IsDeal_l0 (l0 : List (List Int)) (a1 a2 : Int) (l3 l4 l5 : List Int) (a6 : Int) (hm : ∀ y ∈ l0, y.length ≤ 1048576) (h3 : l3.length ≤ 1048576) (h4 : l4.length ≤ 1048576) (h5 : l5.length ≤ 1048576) (hn : 2 ≤ l0.length ∧ l0.length ≤ 4) (h26 : ∀ x ∈ l4, 0 ≤ x ∧ x ≤ 26) :
    Ev (fun k => impl_IsDeal.l0 k (l0.length : Int) l5 (l5.length : Int) 0 l0 a1 a2 l3 l4 l5 a6) (l5.all (fun x => decide (0 ≤ x)) && dealR l0 a1 a2 l3 l4 l5 a6) := by
  refine loop_int l5 (by omega) (P := fun i rest => Ev (fun k => impl_IsDeal.l0 k (l0.length : Int) l5 (l5.length : Int) i l0 a1 a2 l3 l4 l5 a6) (rest.all (fun x => decide (0 ≤ x)) && dealR l0 a1 a2 l3 l4 l5 a6)) ?_ ?_
  · have w1 : wrap64 ((l0.length : Int) - 1) = (l0.length : Int) - 1 := w64 (by omega) (by omega)
    have g : l0.length + 1 < 5864062014805 := by omega
    refine ev_succ ?_
    simp only [impl_IsDeal.l0, Int.lt_irrefl, ↓reduceIte, List.all_nil, Bool.true_and, impl_InRange_f, Option.bind_some, w1, List.length_cons, List.length_nil, Nat.zero_add]
    refine Ev.bind (impl_copyRows_ev l0 (by omega) hm) ?_
    simp only [g, ↓reduceIte]
    refine Ev.bind (impl_AllApart_ev (l0 ++ [l3]) (by simp; omega) (rows_small l0 l3 hm h3)) ?_
    unfold dealR
    rw [flat_one]
    cases isHandM (l0.flatten ++ l3)
    · simp only [Bool.false_eq_true, ↓reduceIte, Bool.false_and]
      exact impl_IsDeal_j2t _ l0 a1 a2 l3 l4 l5 a6
    · simp only [↓reduceIte, Bool.true_and]
      by_cases c4 : 0 ≤ a1 ∧ a1 ≤ (l0.length : Int) - 1
      · simp only [c4, and_self, decide_true, ↓reduceIte, Bool.true_and]
        by_cases c5 : -1 ≤ a2 ∧ a2 ≤ 3
        · simp only [c5, and_self, decide_true, ↓reduceIte, Bool.true_and]
          by_cases c6 : 0 ≤ a6 ∧ a6 ≤ 26
          · simp only [c6, and_self, decide_true, ↓reduceIte, Bool.true_and]
            by_cases c7 : (l3.length : Int) ≥ (l0.length : Int)
            · have c7' : ¬ (l3.length : Int) < (l0.length : Int) := by omega
              simp only [c7, c7', decide_true, decide_false, Bool.false_and]
              exact impl_IsDeal_j2t _ l0 a1 a2 l3 l4 l5 a6
            · have c7' : (l3.length : Int) < (l0.length : Int) := by omega
              simp only [c7, c7', decide_true, decide_false, Bool.true_and]
              refine ev_succ ?_
              simp only [impl_IsDeal.j2, Bool.false_eq_true, ↓reduceIte]
              exact impl_IsDeal_l1 l0 a1 a2 l3 l4 l5 a6 hn h4 h26
          · simp only [c6, decide_false, Bool.false_eq_true, ↓reduceIte, Bool.false_and]
            exact impl_IsDeal_j2t _ l0 a1 a2 l3 l4 l5 a6
        · simp only [c5, decide_false, Bool.false_eq_true, ↓reduceIte, Bool.false_and]
          exact impl_IsDeal_j2t _ l0 a1 a2 l3 l4 l5 a6
      · simp only [c4, decide_false, Bool.false_eq_true, ↓reduceIte, Bool.false_and]
        exact impl_IsDeal_j2t _ l0 a1 a2 l3 l4 l5 a6
  · intro i x rest h0 h1 hx hmem hw ih
    refine ev_succ ?_
    simp only [impl_IsDeal.l0, h1, h0, hx, ↓reduceIte, hw, List.all_cons]
    by_cases c : x < 0
    · have c' : ¬ 0 ≤ x := by omega
      exact ev_of_eq fun k => by simp only [c, c', ↓reduceIte, decide_false, Bool.false_and]
    · have c' : 0 ≤ x := by omega
      simp only [c, c', ↓reduceIte, decide_true, Bool.true_and]
      exact ih
theorem impl_IsDeal_ev (l0 : List (List Int)) (a1 a2 : Int) (l3 l4 l5 : List Int) (a6 : Int) (h0 : l0.length ≤ 1048576) (hm : ∀ y ∈ l0, y.length ≤ 1048576) (h3 : l3.length ≤ 1048576) (h4 : l4.length ≤ 1048576) (h5 : l5.length ≤ 1048576) :
    Ev (fun k => impl_IsDeal.f k l0 a1 a2 l3 l4 l5 a6) (dealM l0 a1 a2 l3 l4 l5 a6) := by
  simp only [impl_IsDeal.f, impl_InRange_f, Option.bind_some]
  unfold dealM
  by_cases c1 : 2 ≤ (l0.length : Int) ∧ (l0.length : Int) ≤ 4
  · have hn : 2 ≤ l0.length ∧ l0.length ≤ 4 := by omega
    simp only [c1, and_self, decide_true, ↓reduceIte, Bool.true_and]
    by_cases c2 : (l4.length : Int) = (l0.length : Int)
    · simp only [c2, ↓reduceIte, decide_true, Bool.true_and]
      by_cases c3 : (l5.length : Int) = (l0.length : Int)
      · simp only [c3, ↓reduceIte, decide_true, Bool.true_and]
        refine Ev.bind (impl_allIn_ev l4 (by omega) 0 26) ?_
        cases h26 : l4.all (fun x => decide (0 ≤ x ∧ x ≤ 26))
        · simp only [Bool.not_false, Bool.false_and]
          exact impl_IsDeal_j0t _ l0 a1 a2 l3 l4 l5 a6
        · simp only [Bool.not_true, Bool.true_and]
          refine ev_succ ?_
          simp only [impl_IsDeal.j0, Bool.false_eq_true, ↓reduceIte]
          exact impl_IsDeal_l0 l0 a1 a2 l3 l4 l5 a6 hm h3 h4 h5 hn (fun x hx => of_decide_eq_true (List.all_eq_true.mp h26 x hx))
      · simp only [c3, ↓reduceIte, decide_false, Bool.false_and]
        exact impl_IsDeal_j0t _ l0 a1 a2 l3 l4 l5 a6
    · simp only [c2, ↓reduceIte, decide_false, Bool.false_and]
      exact impl_IsDeal_j0t _ l0 a1 a2 l3 l4 l5 a6
  · simp only [c1, decide_false, Bool.false_eq_true, ↓reduceIte, Bool.false_and]
    exact impl_IsDeal_j0t _ l0 a1 a2 l3 l4 l5 a6

/-! impl_sizes -/
theorem impl_sizes_ev (l : List (List Int)) (hl : l.length ≤ 1048576) : Ev (fun k => impl_sizes.f k l) (l.map fun r => (r.length : Int)) := by
  simp only [impl_sizes.f]
  refine loop_pre l [] (by omega) (P := fun i pre rest => Ev (fun k => impl_sizes.l0 k (pre.map fun r => (r.length : Int)) l (l.length : Int) i) (l.map fun r => (r.length : Int))) ?_ ?_
  · refine ev_succ (ev_of_eq fun k => ?_)
    simp only [impl_sizes.l0, Int.lt_irrefl, ↓reduceIte]
  · intro i pre x rest hl' hi h0 h1 hx hw ih
    have hx' : rd_L1 l i = x := hx
    have h2 : (pre.map fun r => (r.length : Int)).length < 17592186044416 := by rw [List.length_map]; omega
    refine ev_succ ?_
    simp only [impl_sizes.l0, h1, h0, h2, ↓reduceIte, hx', hw]
    simpa using ih

/-! impl_SightOf -/
theorem impl_SightOf_ev (l0 : List (List Int)) (a1 a2 : Int) (l3 l4 l5 : List Int) (a6 me : Int) (h0 : l0.length ≤ 1048576) (hm : ∀ y ∈ l0, y.length ≤ 1048576) (h3 : l3.length ≤ 1048576) (h4 : l4.length ≤ 1048576) (h5 : l5.length ≤ 1048576) :
    Ev (fun k => impl_SightOf.f k l0 a1 a2 l3 l4 l5 a6 me) (sightM l0 a1 a2 l3 l4 l5 a6 me) := by
  have F : Ev (fun k => impl_SightOf.j0 k me true l0 a1 a2 l3 l4 l5 a6) (0, [], [], 0, 0, [], [], false) := ev_succ (ev_of_eq fun k => by simp only [impl_SightOf.j0, ↓reduceIte])
  simp only [impl_SightOf.f, impl_InRange_f, Option.bind_some]
  refine Ev.bind (impl_IsDeal_ev l0 a1 a2 l3 l4 l5 a6 h0 hm h3 h4 h5) ?_
  have hw : wrap64 ((l0.length : Int) - 1) = (l0.length : Int) - 1 := w64 (by omega) (by omega)
  cases hd : dealM l0 a1 a2 l3 l4 l5 a6
  · simp only [Bool.false_eq_true, ↓reduceIte]
    exact ev_eq F (by simp [sightM, hd])
  · simp only [↓reduceIte, hw]
    by_cases hme : 0 ≤ me ∧ me ≤ (l0.length : Int) - 1
    · have e : decide (0 ≤ me ∧ me ≤ (l0.length : Int) - 1) = true := decide_eq_true hme
      rw [sightM, if_pos ⟨hd, hme⟩]
      simp only [e, Bool.not_true]
      refine ev_succ ?_
      obtain ⟨m0, m1⟩ := hme
      have m2 : me < (l0.length : Int) := by omega
      have hrow := row_le me hm
      simp only [impl_SightOf.j0, Bool.false_eq_true, m0, m2, ↓reduceIte, impl_Sorted_f _ hrow, impl_copyOf_f l3 (by omega), impl_copyOf_f l4 (by omega), Option.bind_some]
      refine Ev.bind (impl_sizes_ev l0 h0) ?_
      exact Ev.now _
    · have e : decide (0 ≤ me ∧ me ≤ (l0.length : Int) - 1) = false := decide_eq_false hme
      simp only [e, Bool.not_false]
      exact ev_eq F (by simp only [sightM, hd, hme, and_false, ↓reduceIte])

/-! laws_eqSight -/
theorem laws_eqSight_ev (a0 : Int) (l1 l2 : List Int) (a3 a4 : Int) (l5 l6 : List Int) (h1 : l1.length ≤ 1048576) (h2 : l2.length ≤ 1048576) (h5 : l5.length ≤ 1048576) (h6 : l6.length ≤ 1048576) :
    Ev (fun k => laws_eqSight.f k a0 l1 l2 a3 a4 l5 l6 a0 l1 l2 a3 a4 l5 l6) true := by
  simp only [laws_eqSight.f, ↓reduceIte]
  refine Ev.bind (laws_eqIntS_ev l1 (by omega)) ?_
  simp only [↓reduceIte]
  refine Ev.bind (laws_eqIntS_ev l2 (by omega)) ?_
  simp only [↓reduceIte]
  refine Ev.bind (laws_eqIntS_ev l5 (by omega)) ?_
  simp only [↓reduceIte]
  refine Ev.bind (laws_eqIntS_ev l6 (by omega)) ?_
  exact ev_of_eq fun k => by simp only [↓reduceIte]

/-! laws_markIntS -/
theorem laws_markIntS_ev (l : List Int) (hl : l.length ≤ 1099511627776) (a : Int) (ha : 0 ≤ a) (ha2 : a ≤ 4611686018427387904) : Ev (fun k => laws_markIntS.f k l a) (a + l.length, (List.range l.length).map fun j : Nat => a + (j : Int)) := by
  simp only [laws_markIntS.f]
  suffices H : ∀ (n : Nat) (pre rest : List Int) (i : Int), i = pre.length → rest.length = n → (pre ++ rest).length = l.length → Ev (fun k => laws_markIntS.l0 k (pre ++ rest) (a + i) i) (a + l.length, pre ++ (List.range n).map fun j : Nat => a + i + (j : Int)) by
    have := H l.length [] l 0 rfl rfl rfl
    simpa using this
  intro n
  induction n with
  | zero =>
    intro pre rest i hi hr ht
    obtain rfl : rest = [] := List.eq_nil_of_length_eq_zero hr
    refine ev_succ (ev_of_eq fun k => ?_)
    have e : i = (l.length : Int) := by simp at ht; omega
    have e2 : ¬ i < ((pre ++ [] : List Int).length : Int) := by simp; omega
    simp only [laws_markIntS.l0, e2, ↓reduceIte]
    simp [e]
  | succ n ih =>
    intro pre rest i hi hr ht
    obtain ⟨x, rest, rfl⟩ : ∃ x r, rest = x :: r := by cases rest with | nil => simp at hr | cons x r => exact ⟨x, r, rfl⟩
    have h1 : i < ((pre ++ x :: rest : List Int).length : Int) := by simp; omega
    have h0 : 0 ≤ i := by omega
    have hb : i + 1 ≤ (l.length : Int) := by rw [← ht]; omega
    refine ev_succ ?_
    simp only [laws_markIntS.l0, h1, h0, ↓reduceIte]
    rw [set_mid pre rest i hi, w64 (n := a + i + 1) (by omega) (by omega), w64 (n := i + 1) (by omega) (by omega)]
    have := ih (pre ++ [a + i]) rest (i + 1) (by simp; omega) (by simpa using hr) (by simpa using ht)
    rw [show a + (i + 1) = a + i + 1 by omega] at this
    refine ev_eq this ?_
    rw [List.range_succ_eq_map]
    simp [Function.comp_def]
    intro j _
    omega

/-! laws_markSight -/
theorem laws_markSight_ev (a0 : Int) (l1 l2 : List Int) (a3 a4 : Int) (l5 l6 : List Int) (h1 : l1.length ≤ 1048576) (h2 : l2.length ≤ 1048576) (h5 : l5.length ≤ 1048576) (h6 : l6.length ≤ 1048576) (a : Int) (ha : 0 ≤ a) (ha2 : a ≤ 1048576) :
    ∃ m1 m2 m5 m6, Ev (fun k => laws_markSight.f k a0 l1 l2 a3 a4 l5 l6 a) (a + l1.length + l2.length + l5.length + l6.length, m1, m2, m5, m6) := by
  simp only [laws_markSight.f]
  exact ⟨_, _, _, _, Ev.bind (laws_markIntS_ev l1 (by omega) a (by omega) (by omega)) (Ev.bind (laws_markIntS_ev l2 (by omega) _ (by omega) (by omega)) (Ev.bind (laws_markIntS_ev l5 (by omega) _ (by omega) (by omega)) (Ev.bind (laws_markIntS_ev l6 (by omega) _ (by omega) (by omega)) (Ev.now _))))⟩

/-! laws_heldIntS -/
theorem laws_heldIntS_ev (n : Nat) (hl : n ≤ 1099511627776) (a : Int) (ha : 0 ≤ a) (ha2 : a ≤ 4611686018427387904) : Ev (fun k => laws_heldIntS.f k ((List.range n).map fun j : Nat => a + (j : Int)) a) (a + n) := by
  simp only [laws_heldIntS.f]
  have hlen : ((List.range n).map fun j : Nat => a + (j : Int)).length = n := by simp
  have hget : ∀ i : Int, 0 ≤ i → i < (n : Int) → rd ((List.range n).map fun j : Nat => a + (j : Int)) i = a + i := by
    intro i h0 h1
    have : i.toNat < n := by omega
    unfold rd
    simp [List.getD_eq_getElem?_getD, this]
    omega
  generalize (List.range n).map (fun j : Nat => a + (j : Int)) = l at *
  subst hlen
  have := loop_up l.length hl (P := fun i m => Ev (fun k => laws_heldIntS.l0 k l (a + i) i) (a + l.length)) ?_ ?_
  · simpa using this
  · refine ev_succ (ev_of_eq fun k => ?_)
    simp only [laws_heldIntS.l0, Int.lt_irrefl, ↓reduceIte]
  · intro i m h0 h1 _ hw ih
    refine ev_succ ?_
    simp only [laws_heldIntS.l0, h1, h0, ↓reduceIte, hget i h0 h1, hw]
    rw [w64 (n := a + i + 1) (by omega) (by omega), show a + i + 1 = a + (i + 1) by omega]
    exact ih

/-! laws_heldSight -/
theorem laws_markSight_full (a0 : Int) (l1 l2 : List Int) (a3 a4 : Int) (l5 l6 : List Int) (h1 : l1.length ≤ 1048576) (h2 : l2.length ≤ 1048576) (h5 : l5.length ≤ 1048576) (h6 : l6.length ≤ 1048576) (a : Int) (ha : 0 ≤ a) (ha2 : a ≤ 1048576) :
    Ev (fun k => laws_markSight.f k a0 l1 l2 a3 a4 l5 l6 a) (a + l1.length + l2.length + l5.length + l6.length, (List.range l1.length).map (fun j : Nat => a + (j : Int)), (List.range l2.length).map (fun j : Nat => a + l1.length + (j : Int)), (List.range l5.length).map (fun j : Nat => a + l1.length + l2.length + (j : Int)), (List.range l6.length).map (fun j : Nat => a + l1.length + l2.length + l5.length + (j : Int))) := by
  simp only [laws_markSight.f]
  exact Ev.bind (laws_markIntS_ev l1 (by omega) a (by omega) (by omega)) (Ev.bind (laws_markIntS_ev l2 (by omega) _ (by omega) (by omega)) (Ev.bind (laws_markIntS_ev l5 (by omega) _ (by omega) (by omega)) (Ev.bind (laws_markIntS_ev l6 (by omega) _ (by omega) (by omega)) (Ev.now _))))
theorem laws_heldSight_ev (a0 : Int) (n1 n2 : Nat) (a3 a4 : Int) (n5 n6 : Nat) (h1 : n1 ≤ 1048576) (h2 : n2 ≤ 1048576) (h5 : n5 ≤ 1048576) (h6 : n6 ≤ 1048576) (a : Int) (ha : 0 ≤ a) (ha2 : a ≤ 1048576) :
    Ev (fun k => laws_heldSight.f k a0 ((List.range n1).map fun j : Nat => a + (j : Int)) ((List.range n2).map fun j : Nat => a + n1 + (j : Int)) a3 a4 ((List.range n5).map fun j : Nat => a + n1 + n2 + (j : Int)) ((List.range n6).map fun j : Nat => a + n1 + n2 + n5 + (j : Int)) a) (a + n1 + n2 + n5 + n6) := by
  simp only [laws_heldSight.f]
  have p1 : ¬ a + (n1 : Int) < 0 := by omega
  have p2 : ¬ a + (n1 : Int) + (n2 : Int) < 0 := by omega
  have p3 : ¬ a + (n1 : Int) + (n2 : Int) + (n5 : Int) < 0 := by omega
  have p4 : ¬ a + (n1 : Int) + (n2 : Int) + (n5 : Int) + (n6 : Int) < 0 := by omega
  refine Ev.bind (laws_heldIntS_ev n1 (by omega) a (by omega) (by omega)) ?_
  simp only [p1, ↓reduceIte]
  refine Ev.bind (laws_heldIntS_ev n2 (by omega) _ (by omega) (by omega)) ?_
  simp only [p2, ↓reduceIte]
  refine Ev.bind (laws_heldIntS_ev n5 (by omega) _ (by omega) (by omega)) ?_
  simp only [p3, ↓reduceIte]
  refine Ev.bind (laws_heldIntS_ev n6 (by omega) _ (by omega) (by omega)) ?_
  exact ev_of_eq fun k => by simp only [p4, ↓reduceIte]

/-! laws_markIntSS -/
theorem laws_markIntSS_ev (l : List (List Int)) (hl : l.length ≤ 1048576) (hm : ∀ y ∈ l, y.length ≤ 1048576) (a : Int) (ha : 0 ≤ a) (ha2 : a ≤ 1099511627776) :
    ∃ v m, Ev (fun k => laws_markIntSS.f k l a) (v, m) ∧ 0 ≤ v ∧ v ≤ a + (l.length : Int) * 1048576 := by
  simp only [laws_markIntSS.f]
  suffices H : ∀ (rest pre : List (List Int)) (b : Int), (pre ++ rest).length ≤ 1048576 → (∀ y ∈ rest, y.length ≤ 1048576) → 0 ≤ b → b ≤ a + (pre.length : Int) * 1048576 → ∃ v m, Ev (fun k => laws_markIntSS.l0 k (pre ++ rest) b (pre.length : Int)) (v, m) ∧ 0 ≤ v ∧ v ≤ a + ((pre ++ rest).length : Int) * 1048576 by
    simpa using H l [] a hl hm ha (by simp)
  intro rest
  induction rest with
  | nil =>
    intro pre b _ _ h0 h1
    refine ⟨b, pre ++ [], ev_succ (ev_of_eq fun k => ?_), h0, by simpa using h1⟩
    simp only [laws_markIntSS.l0]
    rw [if_neg (by simp)]
  | cons x rest ih =>
    intro pre b hl hm h0 h1
    have hx := hm x (by simp)
    have hl' : pre.length + (rest.length + 1) ≤ 1048576 := by simpa using hl
    obtain ⟨v, m, e, h⟩ := ih (pre ++ [(List.range x.length).map fun j : Nat => b + (j : Int)]) (b + x.length) (by simp; omega) (fun y hy => hm y (by simp [hy])) (by omega) (by simp; omega)
    refine ⟨v, m, ev_succ ?_, by simpa using h⟩
    have hr : rd_L1 (pre ++ x :: rest) (pre.length : Int) = x := getD_mid pre rest _ rfl x []
    simp only [laws_markIntSS.l0, hr]
    have c1 : (pre.length : Int) < ((pre ++ x :: rest).length : Int) := by simp; omega
    have c2 : (0 : Int) ≤ (pre.length : Int) := by omega
    simp only [c1, c2, ↓reduceIte]
    refine Ev.bind (laws_markIntS_ev x (by omega) b (by omega) (by omega)) ?_
    rw [set_mid pre rest _ rfl, w64 (n := (pre.length : Int) + 1) (by omega) (by omega)]
    simpa using e

/-! laws_markDeal -/
theorem laws_markDeal_ev (l0 : List (List Int)) (l3 l4 l5 : List Int) (h0 : l0.length ≤ 1048576) (hm : ∀ y ∈ l0, y.length ≤ 1048576) (h3 : l3.length ≤ 1048576) (h4 : l4.length ≤ 1048576) (h5 : l5.length ≤ 1048576) (a : Int) (ha : 0 ≤ a) (ha2 : a ≤ 1048576) :
    ∃ v, Ev (fun k => laws_markDeal.f k l0 l3 l4 l5 a) v ∧ 0 ≤ v := by
  simp only [laws_markDeal.f]
  obtain ⟨v, m, f, v0, v1⟩ := laws_markIntSS_ev l0 h0 hm a (by omega) (by omega)
  exact ⟨v + l3.length + l4.length + l5.length, Ev.bind f (Ev.bind (laws_markIntS_ev l3 (by omega) _ v0 (by omega)) (Ev.bind (laws_markIntS_ev l4 (by omega) _ (by omega) (by omega)) (Ev.bind (laws_markIntS_ev l5 (by omega) _ (by omega) (by omega)) (Ev.now _)))), by omega⟩

/-- The pure statement. -/
def FnExactSightOf_Stmt : Prop := ∀ (a0_0 : (List (List Int))) (a0_1 : Int) (a0_2 : Int) (a0_3 : (List Int)) (a0_4 : (List Int)) (a0_5 : (List Int)) (a0_6 : Int) (a1 : Int), a0_0.length ≤ maxLen → (∀ y ∈ a0_0, y.length ≤ maxLen ∧ ∀ y24 ∈ y, (Lit.int .i64 y24).wf = true) → (Lit.int .i64 a0_1).wf = true → (Lit.int .i64 a0_2).wf = true → a0_3.length ≤ maxLen → (∀ y ∈ a0_3, (Lit.int .i64 y).wf = true) → a0_4.length ≤ maxLen → (∀ y ∈ a0_4, (Lit.int .i64 y).wf = true) → a0_5.length ≤ maxLen → (∀ y ∈ a0_5, (Lit.int .i64 y).wf = true) → (Lit.int .i64 a0_6).wf = true → (Lit.int .i64 a1).wf = true → ∃ k, laws_FnExactSightOf.f k a0_0 a0_1 a0_2 a0_3 a0_4 a0_5 a0_6 a1 = some true
theorem FnExactSightOf : FnExactSightOf_Stmt := by
  intro l0 a1 a2 l3 l4 l5 a6 me m0 mm _ _ m3 _ m4 _ m5 _ _ _
  refine Ev.rounds (g := fun k => laws_FnExactSightOf.f k l0 a1 a2 l3 l4 l5 a6 me) ?_
  simp only [laws_FnExactSightOf.f]
  obtain ⟨v, e, z⟩ := laws_szDeal_ev l0 a1 a2 l3 l4 l5 a6 1048576 m0 (fun y hy => (mm y hy).1) m3 m4 m5 (by omega) (by omega)
  refine Ev.bind e ?_
  rcases z with z | ⟨z0, _, s0, sm, s3, s4, s5⟩
  · exact ev_of_eq fun k => by simp only [z, ↓reduceIte]
  have n : ¬ v < 0 := by omega
  simp only [n, ↓reduceIte]
  refine Ev.bind (laws_toDeal_ev l0 a1 a2 l3 l4 l5 a6 s0 sm s3 s4 s5) ?_
  refine Ev.bind (spec_SightOf_ev l0 a1 a2 l3 l4 l5 a6 me s0 sm s3 s4 s5) ?_
  refine Ev.bind (impl_SightOf_ev l0 a1 a2 l3 l4 l5 a6 me s0 sm s3 s4 s5) ?_
  obtain ⟨q1, q2, q5, q6⟩ := sightM_small l0 a1 a2 l3 l4 l5 a6 me s0 sm s3 s4
  generalize sightM l0 a1 a2 l3 l4 l5 a6 me = s at q1 q2 q5 q6
  refine Ev.bind (laws_eqSight_ev _ _ _ _ _ _ _ q1 q2 q5 q6) ?_
  refine Ev.bind (laws_eqDeal_ev l0 a1 a2 l3 l4 l5 a6 s0 sm s3 s4 s5) ?_
  obtain ⟨m, em, m0'⟩ := laws_markDeal_ev l0 l3 l4 l5 s0 sm s3 s4 s5 1 (by omega) (by omega)
  refine Ev.bind em ?_
  refine Ev.bind (laws_markSight_full _ _ _ _ _ _ _ q1 q2 q5 q6 1 (by omega) (by omega)) ?_
  refine Ev.bind (laws_heldSight_ev _ _ _ _ _ _ _ q1 q2 q5 q6 1 (by omega) (by omega)) ?_
  refine ev_of_eq fun k => ?_
  rw [if_pos ⟨rfl, rfl, rfl, m0', by simp only []; omega, rfl⟩]

end Go.Proofs.Ytkhgeockdjjhmaa.Pure
