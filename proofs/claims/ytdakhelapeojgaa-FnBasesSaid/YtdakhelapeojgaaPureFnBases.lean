/- The program's FnBases answers what the reference's answers, for all arguments. No condition but those that the statement itself names. -/
import Derived.Test.YtdakhelapeojgaaQFnBasesx2
import Derived.Test.YtdakhelapeojgaaLib
namespace Go.Proofs.Ytdakhelapeojgaa.Pure
open Go.RowKit Go.Proofs.Ytdakhelapeojgaa.QFnBases Go.Proofs.YtdakhelapeojgaaW.PrintWords Go.Proofs.YtdakhelapeojgaaW.PrintLast Go.Proofs.YtdakhelapeojgaaW.PrintMore Go.Proofs.Ytdakhelapeojgaa.Lib
set_option linter.unusedVariables false
set_option linter.unusedSimpArgs false

/-! spec_l1In -/
theorem spec_l1In_f (a b c : Int) : spec_l1In.f a b c = some (decide (b ≤ a ∧ a ≤ c)) := by
  unfold spec_l1In.f
  by_cases h : b ≤ a <;> simp [h]

/-! spec_l1New -/
theorem spec_l1New_ex (d : List Int) (hd : d.length ≤ 1048576) : ∃ g, Ev (fun k => spec_l1New.f k d) (d, 0, g) := by
  simp only [spec_l1New.f]
  generalize wrap64 (193017 + (d.length : Int)) = h
  revert h
  refine loop_int d (by omega) (P := fun i rest => ∀ h, ∃ g, Ev (fun k => spec_l1New.l0 k d h i) (d, 0, g)) ?_ ?_
  · intro h
    exact ⟨h, ev_succ (ev_of_eq fun k => by simp only [spec_l1New.l0, Int.lt_irrefl, ↓reduceIte])⟩
  · intro i x rest h0 h1 hx _ hw ih h
    by_cases c : i < 4000
    · obtain ⟨g, e⟩ := ih (Go.bits .and .i64 (wrap64 ((wrap64 ((wrap64 (h * 137)) + (wrap64 (rd d i)))) + 11)) 1073741823)
      refine ⟨g, ev_succ ?_⟩
      simp only [spec_l1New.l0, h1, h0, c, hw, ↓reduceIte]
      exact e
    · exact ⟨h, ev_succ (ev_of_eq fun k => by simp only [spec_l1New.l0, h1, c, ↓reduceIte])⟩

/-! spec_l1Byte -/
set_option maxRecDepth 20000 in
theorem bits_and255 (x : Int) : 0 ≤ Go.bits .and .i64 x 255 := by
  have h : ((BitVec.ofInt 64 x) &&& (BitVec.ofInt 64 255)).toNat ≤ 255 := by
    rw [BitVec.toNat_and]; exact Nat.and_le_right
  show 0 ≤ Go.IntKind.i64.wrap (((BitVec.ofInt 64 x &&& BitVec.ofInt 64 255).toNat : Nat) : Int)
  generalize ((BitVec.ofInt 64 x) &&& (BitVec.ofInt 64 255)).toNat = n at h
  have k : ∀ m : Fin 256, 0 ≤ Go.IntKind.i64.wrap ((m.val : Nat) : Int) := by decide
  exact k ⟨n, by omega⟩
theorem spec_l1Byte_ex (d : List Int) (p h : Int) (hp : 0 ≤ p) (hd : d.length ≤ 1048576) : ∃ b q g, spec_l1Byte.f d p h = some (b, q, g) ∧ 0 ≤ b ∧ 0 ≤ q := by
  by_cases c : p < (d.length : Int)
  · refine ⟨_, _, _, by simp only [spec_l1Byte.f, c, hp, ↓reduceIte]; rfl, bits_and255 _, ?_⟩
    rw [w64 (by omega) (by omega)]; omega
  · exact ⟨_, _, _, by simp only [spec_l1Byte.f, c, ↓reduceIte]; rfl, bits_and255 _, hp⟩

/-! spec_l1Below -/
theorem spec_l1Below_ex (d : List Int) (p h n : Int) (hp : 0 ≤ p) (hd : d.length ≤ 1048576) : ∃ b q g, spec_l1Below.f d p h n = some (b, q, g) ∧ 0 ≤ q ∧ (1 ≤ n → n ≤ 256 → 0 ≤ b ∧ b < n) := by
  by_cases c : n ≤ 0
  · exact ⟨_, _, _, by simp only [spec_l1Below.f, c, ↓reduceIte]; rfl, hp, fun _ _ => by omega⟩
  · have z : ¬ n = 0 := by omega
    obtain ⟨b1, q1, g1, e1, hb1, hq1⟩ := spec_l1Byte_ex d p h hp hd
    by_cases c2 : n ≤ 256
    · refine ⟨Int.tmod b1 n, q1, g1, by simp only [spec_l1Below.f, c, c2, z, e1, Option.bind_some, ↓reduceIte], hq1, fun h1 _ => ?_⟩
      rw [Int.tmod_eq_emod_of_nonneg hb1]
      exact ⟨Int.emod_nonneg _ (by omega), Int.emod_lt_of_pos _ (by omega)⟩
    · obtain ⟨b2, q2, g2, e2, hb2, hq2⟩ := spec_l1Byte_ex d q1 g1 hq1 hd
      obtain ⟨b3, q3, g3, e3, hb3, hq3⟩ := spec_l1Byte_ex d q2 g2 hq2 hd
      exact ⟨_, _, _, by simp only [spec_l1Below.f, c, c2, z, e1, e2, e3, Option.bind_some, ↓reduceIte]; rfl, hq3, fun _ h2 => absurd h2 c2⟩

/-! spec_l1Int -/
theorem spec_l1Int_ex (d : List Int) (p h : Int) (l : List Int) (hp : 0 ≤ p) (hd : d.length ≤ 1048576) (h1 : 1 ≤ l.length) (h2 : l.length ≤ 256) : ∃ b q g, spec_l1Int.f d p h l = some (b, q, g) ∧ 0 ≤ q := by
  obtain ⟨b, q, g, e, hq, hb⟩ := spec_l1Below_ex d p h (l.length : Int) hp hd
  obtain ⟨hb0, hb1⟩ := hb (by omega) (by omega)
  exact ⟨_, _, _, by simp only [spec_l1Int.f, e, Option.bind_some, hb0, hb1, ↓reduceIte]; rfl, hq⟩

/-! spec_l4Card -/
theorem spec_l4Card_ex (d : List Int) (p h : Int) (hp : 0 ≤ p) (hd : d.length ≤ 1048576) : ∃ b q g, spec_l4Card.f d p h = some (b, q, g) ∧ 0 ≤ q := by
  obtain ⟨b1, q1, g1, e1, hq1, _⟩ := spec_l1Below_ex d p h 52 hp hd
  obtain ⟨b2, q2, g2, e2, hq2, _⟩ := spec_l1Below_ex d q1 g1 52 hq1 hd
  obtain ⟨b3, q3, g3, e3, hq3, _⟩ := spec_l1Below_ex d q2 g2 52 hq2 hd
  obtain ⟨b4, q4, g4, e4, hq4⟩ := spec_l1Int_ex d q3 g3 [b1, b2, b3, 0, 51, 52, (-1), 9223372036854775807] hq3 hd (by simp) (by simp)
  exact ⟨b4, q4, g4, by simp only [spec_l4Card.f, e1, e2, e3, e4, Option.bind_some], hq4⟩

/-! spec_l1Once -/
theorem spec_l1Once_ex (d : List Int) (p h n : Int) (hp : 0 ≤ p) (hd : d.length ≤ 1048576) : ∃ b q g, spec_l1Once.f d p h n = some (b, q, g) ∧ 0 ≤ q := by
  obtain ⟨b, q, g, e, hq, _⟩ := spec_l1Below_ex d p h n hp hd
  exact ⟨_, _, _, by simp only [spec_l1Once.f, e, Option.bind_some]; rfl, hq⟩

/-! spec_l17Any -/
theorem spec_l17Any_ex (d : List Int) (hd : d.length ≤ 1048576) (p h : Int) (hp : 0 ≤ p) : ∃ l q g, Ev (fun k => spec_l17Any.f k d p h) (l, q, g) ∧ l.length ≤ 4 ∧ 0 ≤ q := by
  have H : ∀ (m : Nat) (acc : List Int) (i p h : Int), 0 ≤ p → i + m = 4 → (acc.length : Int) = i → ∃ l q g, Ev (fun k => spec_l17Any.l0 k acc i d p h) (l, q, g) ∧ l.length ≤ 4 ∧ 0 ≤ q := by
    intro m
    induction m with
    | zero =>
      intro acc i p h hp hi ha
      have c : ¬ i < 4 := by omega
      obtain ⟨b, q, g, e, hq, _⟩ := spec_l1Below_ex d p h 10 hp hd
      by_cases c0 : b = 0
      · obtain ⟨b2, q2, g2, e2, hq2⟩ := spec_l1Int_ex d q g [(-1), 13, 14] hq hd (by simp) (by simp)
        have c1 : 0 < (acc.length : Int) := by omega
        exact ⟨_, q2, g2, ev_succ (ev_of_eq fun k => by simp only [spec_l17Any.l0, c, e, e2, c0, c1, Option.bind_some, ↓reduceIte]; rfl), by rw [List.length_set]; omega, hq2⟩
      · by_cases c1 : b = 1
        · have z : ¬ (1 : Int) = 0 := by omega
          have c2 : 1 ≤ (acc.length : Int) := by omega
          exact ⟨_, q, g, ev_succ (ev_of_eq fun k => by simp only [spec_l17Any.l0, c, e, c1, z, c2, Option.bind_some, ↓reduceIte]; rfl), by rw [List.length_drop]; omega, hq⟩
        · by_cases c2 : b = 2
          · have z : ¬ (2 : Int) = 0 := by omega
            have z1 : ¬ (2 : Int) = 1 := by omega
            exact ⟨[0, 0, 0, 0], q, g, ev_succ (ev_of_eq fun k => by simp only [spec_l17Any.l0, c, e, c2, z, z1, Option.bind_some, ↓reduceIte]), by simp, hq⟩
          · exact ⟨acc, q, g, ev_succ (ev_of_eq fun k => by simp only [spec_l17Any.l0, c, e, c0, c1, c2, Option.bind_some, ↓reduceIte]), by omega, hq⟩
    | succ m ih =>
      intro acc i p h hp hi ha
      have c : i < 4 := by omega
      obtain ⟨b, q, g, e, hq, _⟩ := spec_l1Below_ex d p h 14 hp hd
      have g1 : acc.length < 17592186044416 := by omega
      obtain ⟨l, q2, g2, er, hh⟩ := ih (acc ++ [b]) (i + 1) q g hq (by omega) (by simp; omega)
      refine ⟨l, q2, g2, ev_succ ?_, hh⟩
      simp only [spec_l17Any.l0, c, e, g1, Option.bind_some, ↓reduceIte]
      rw [w64 (by omega) (by omega)]
      exact er
  exact H 4 [] 0 p h hp (by omega) rfl

/-! spec_DrawMayBuild -/
theorem spec_DrawMayBuild_ex (d : List Int) (hd : d.length ≤ 1048576) : ∃ l c, Ev (fun k => spec_DrawMayBuild.f k d) (l, c) ∧ l.length ≤ 4 := by
  obtain ⟨g, e⟩ := spec_l1New_ex d hd
  obtain ⟨l, q, h, e1, hl, hq⟩ := spec_l17Any_ex d hd 0 g (by omega)
  obtain ⟨s, q2, g2, e2, hq2, hs⟩ := spec_l1Below_ex d q h 4 hq hd
  obtain ⟨s0, s1⟩ := hs (by omega) (by omega)
  obtain ⟨c4, q5, g5, e5, _⟩ := spec_l4Card_ex d q2 g2 hq2 hd
  simp only [spec_DrawMayBuild.f]
  by_cases cl : (l.length : Int) = 4
  · have s1' : s < (l.length : Int) := by omega
    by_cases cr : 0 ≤ rd l s ∧ rd l s ≤ 12
    · obtain ⟨o, q3, g3, e3, hq3⟩ := spec_l1Once_ex d q2 g2 3 hq2 hd
      cases o
      · exact ⟨l, _, Ev.bind e (Ev.bind e1 (ev_of_eq fun k => by simp only [e2, e3, cl, s0, s1, spec_l1In_f, cr, and_self, decide_true, Bool.false_eq_true, Option.bind_some, ↓reduceIte]; rfl)), hl⟩
      · obtain ⟨c, q4, g4, e4, _⟩ := spec_l4Card_ex d q3 g3 hq3 hd
        exact ⟨l, c, Ev.bind e (Ev.bind e1 (ev_of_eq fun k => by simp only [e2, e3, e4, cl, s0, s1, spec_l1In_f, cr, and_self, decide_true, Option.bind_some, ↓reduceIte])), hl⟩
    · exact ⟨l, c4, Ev.bind e (Ev.bind e1 (ev_of_eq fun k => by simp only [e2, e5, cl, s0, s1, spec_l1In_f, cr, decide_false, Bool.false_eq_true, Option.bind_some, ↓reduceIte])), hl⟩
  · exact ⟨l, c4, Ev.bind e (Ev.bind e1 (ev_of_eq fun k => by simp only [e2, e5, cl, Option.bind_some, ↓reduceIte])), hl⟩

/-! spec_DrawBuilt -/
theorem spec_DrawBuilt_ex (d : List Int) (hd : d.length ≤ 1048576) : ∃ l c, Ev (fun k => spec_DrawBuilt.f k d) (l, c) ∧ l.length ≤ 4 := by
  obtain ⟨l, c, e, h⟩ := spec_DrawMayBuild_ex d hd
  exact ⟨l, c, Ev.bind e (Ev.now _), h⟩

/-! impl_InRange -/
theorem impl_InRange_f (a b c : Int) : impl_InRange.f a b c = some (decide (b ≤ a ∧ a ≤ c)) := by
  unfold impl_InRange.f
  by_cases h : b ≤ a <;> simp [h]

/-! impl_allIn -/
theorem impl_allIn_ev (l : List Int) (hl : l.length ≤ 1099511627776) (a b : Int) : Ev (fun k => impl_allIn.f k l a b) (l.all (fun x => decide (a ≤ x ∧ x ≤ b))) := by
  simp only [impl_allIn.f]
  refine loop_int l hl (P := fun i rest => Ev (fun k => impl_allIn.l0 k a b l (l.length : Int) i) (rest.all (fun x => decide (a ≤ x ∧ x ≤ b)))) ?_ ?_
  · refine ev_succ (ev_of_eq fun k => ?_)
    simp only [impl_allIn.l0, Int.lt_irrefl, ↓reduceIte, List.all_nil]
  · intro i x rest h0 h1 hx _ hw ih
    refine ev_succ ?_
    simp only [impl_allIn.l0, h1, h0, ↓reduceIte, hx, hw, impl_InRange_f, Option.bind_some]
    by_cases h : a ≤ x ∧ x ≤ b
    · simp only [h, and_self, decide_true, ↓reduceIte, List.all_cons, Bool.true_and]
      exact ih
    · refine ev_of_eq fun k => ?_
      simp [h]

/-! impl_IsBase -/
theorem impl_IsBase_ev (l : List Int) (hl : l.length ≤ 1099511627776) : Ev (fun k => impl_IsBase.f k l) (isBaseM l) := by
  simp only [impl_IsBase.f, isBaseM]
  by_cases h : l.length = 4
  · have h' : (l.length : Int) = 4 := by omega
    simp only [h', h, ↓reduceIte, decide_true, Bool.true_and]
    exact Ev.bind (impl_allIn_ev l hl 0 13) (Ev.now _)
  · have h' : ¬ (l.length : Int) = 4 := by omega
    refine ev_of_eq fun k => ?_
    simp [h, h']

/-! impl_IsCard -/
theorem impl_IsCard_f (a : Int) : impl_IsCard.f a = some (isCardM a) := by
  unfold impl_IsCard.f
  rw [impl_InRange_f]
  rfl

/-! impl_RankOf -/
theorem impl_RankOf_f (a : Int) : impl_RankOf.f a = some (rankM a) := by
  unfold impl_RankOf.f
  rw [impl_IsCard_f]
  unfold rankM isCardM
  by_cases h : 0 ≤ a ∧ a ≤ 51
  · simp [h, tmod13 a h.1]
  · simp [h]

/-! impl_StepOf -/
theorem impl_StepOf_f (a : Int) : impl_StepOf.f a = some (stepM a) := by
  unfold impl_StepOf.f
  simp only [impl_RankOf_f, Option.bind_some]
  unfold stepM rankM
  by_cases h : 0 ≤ a ∧ a ≤ 51
  · simp only [h, and_self, ↓reduceIte]
    by_cases e : a % 13 = 12
    · simp [e]
    · have e1 : ¬ a % 13 = -1 := by omega
      simp only [e, e1, ↓reduceIte]
      rw [w64 (by omega) (by omega)]
      congr 1
      omega
  · simp [h]

/-! impl_SuitOf -/
theorem impl_SuitOf_f (a : Int) : impl_SuitOf.f a = some (suitM a) := by
  unfold impl_SuitOf.f
  rw [impl_IsCard_f]
  unfold suitM isCardM
  by_cases h : 0 ≤ a ∧ a ≤ 51
  · simp [h, tdiv13 a h.1 h.2]
  · simp [h]

/-! impl_MayBuild -/
theorem impl_MayBuild_ev (l : List Int) (c : Int) (hl : l.length ≤ 1099511627776) : Ev (fun k => impl_MayBuild.f k l c) (mayBuildM l c) := by
  simp only [impl_MayBuild.f, impl_IsCard_f, impl_StepOf_f, impl_SuitOf_f, Option.bind_some, mayBuildM]
  refine Ev.bind (impl_IsBase_ev l hl) ?_
  by_cases h1 : isBaseM l = true
  · by_cases h2 : isCardM c = true
    · have h3 := isBaseM_len h1
      have h4 := (isCardM_iff c).1 h2
      have h5 : 0 ≤ suitM c := (suitM_nonneg c).2 h4
      have h6 : suitM c < (l.length : Int) := by have := suitM_range c; omega
      simp only [h1, h2, h5, h6, ↓reduceIte, Bool.true_and]
      exact Ev.now _
    · refine ev_of_eq fun k => ?_
      simp [h1, h2]
  · refine ev_of_eq fun k => ?_
    simp [h1]

/-! impl_copyOf -/
theorem impl_copyOf_f (l : List Int) (hl : l.length ≤ 1099511627776) : impl_copyOf.f l = some l := by
  have h : ([] : List Int).length + l.length < 17592186044416 := by simp; omega
  simp only [impl_copyOf.f, Option.bind_some, h, ↓reduceIte, List.nil_append]

/-! impl_Built -/
theorem impl_Built_ev (l : List Int) (c : Int) (hl : l.length ≤ 1099511627776) : Ev (fun k => impl_Built.f k l c) (builtM l c) := by
  simp only [impl_Built.f, impl_SuitOf_f, impl_copyOf_f l hl, Option.bind_some, builtM]
  refine Ev.bind (impl_MayBuild_ev l c hl) ?_
  by_cases h1 : mayBuildM l c = true
  · have h2 := h1
    unfold mayBuildM at h2
    simp only [Bool.and_eq_true] at h2
    have h3 := isBaseM_len h2.1.1
    have h4 := (isCardM_iff c).1 h2.1.2
    have h5 : 0 ≤ suitM c := (suitM_nonneg c).2 h4
    have h6 : suitM c < (l.length : Int) := by have := suitM_range c; omega
    simp only [h1, h5, h6, ↓reduceIte]
    exact Ev.now _
  · simp only [h1, Bool.false_eq_true, ↓reduceIte]
    exact Ev.now _

/-! laws_sum -/
theorem laws_sum_ev (l : List Int) (hl : l.length ≤ 4) (hb : ∀ x ∈ l, 0 ≤ x ∧ x ≤ 14) : Ev (fun k => laws_sum.f k l) l.sum := by
  simp only [laws_sum.f]
  suffices H : ∀ t : Int, 0 ≤ t → t ≤ 0 * 14 → Ev (fun k => laws_sum.l0 k l t 0) (t + l.sum) by simpa using H 0 (by omega) (by omega)
  refine loop_int l (by omega) (P := fun i rest => ∀ t : Int, 0 ≤ t → t ≤ i * 14 → Ev (fun k => laws_sum.l0 k l t i) (t + rest.sum)) ?_ ?_
  · intro t _ _
    refine ev_succ (ev_of_eq fun k => ?_)
    simp only [laws_sum.l0, Int.lt_irrefl, ↓reduceIte, List.sum_nil, Int.add_zero]
  · intro i x rest h0 h1 hx hm hw ih t ht0 ht1
    have := hb x hm
    refine ev_succ ?_
    simp only [laws_sum.l0, h1, h0, hx, hw, ↓reduceIte, List.sum_cons]
    rw [w64 (by omega) (by omega)]
    exact ev_eq (ih (t + x) (by omega) (by omega)) (by omega)

/-! laws_contains -/
theorem laws_contains_ev (l : List Int) (c : Int) (hl : l.length ≤ 1048576) : Ev (fun k => laws_contains.f k l c) (decide (c ∈ l)) := by
  simp only [laws_contains.f]
  refine loop_int l (by omega) (P := fun i rest => Ev (fun k => laws_contains.l0 k l c i) (decide (c ∈ rest))) ?_ ?_
  · refine ev_succ (ev_of_eq fun k => ?_)
    simp [laws_contains.l0]
  · intro i x rest h0 h1 hx hm hw ih
    refine ev_succ ?_
    by_cases e : x = c
    · exact ev_of_eq fun k => by simp [laws_contains.l0, h1, h0, hx, e]
    · simp only [laws_contains.l0, h1, h0, hx, hw, e, ↓reduceIte]
      refine ev_eq ih ?_
      have : ¬ c = x := fun h => e h.symm
      simp [this]

/-! impl_BaseCards -/
theorem impl_BaseCards_ev (l : List Int) (hl : l.length ≤ 1099511627776) : Ev (fun k => impl_BaseCards.f k l) (baseCardsM l) := by
  simp only [impl_BaseCards.f, baseCardsM]
  refine Ev.bind (impl_IsBase_ev l hl) ?_
  by_cases hb : isBaseM l = true
  · have h3 := isBaseM_len hb
    simp only [hb, ↓reduceIte]
    suffices H : ∀ (n : Nat) (out : List Int) (c : Int), 0 ≤ c → c + n = 52 → out.length ≤ c → Ev (fun k => impl_BaseCards.l0 k l out c) (out ++ baseF l n c) by
      simpa using H 52 [] 0 (by omega) (by omega) (by simp)
    intro n
    induction n with
    | zero =>
      intro out c h0 h1 h2
      have e : ¬ c < 52 := by omega
      refine ev_succ (ev_of_eq fun k => ?_)
      simp only [impl_BaseCards.l0, e, ↓reduceIte, baseF, List.append_nil]
    | succ n ih =>
      intro out c h0 h1 h2
      have e : c < 52 := by omega
      have e1 : 0 ≤ suitM c := (suitM_nonneg c).2 (by omega)
      have e2 : suitM c < (l.length : Int) := by have := suitM_range c; omega
      have e3 : out.length < 17592186044416 := by omega
      have e4 : wrap64 (c + 1) = c + 1 := w64 (by omega) (by omega)
      refine ev_succ ?_
      simp only [impl_BaseCards.l0, e, ↓reduceIte, impl_StepOf_f, impl_SuitOf_f, Option.bind_some, e1, e2, e3, e4, baseF, inBaseM]
      by_cases g : stepM c ≤ rd l (suitM c)
      · simp only [g, ↓reduceIte, decide_true]
        have := ih (out ++ [c]) (c + 1) (by omega) (by omega) (by simp; omega)
        simpa using this
      · simp only [g, ↓reduceIte, decide_false, Bool.false_eq_true]
        exact ih out (c + 1) (by omega) (by omega) (by omega)
  · simp only [hb, Bool.false_eq_true, ↓reduceIte]
    exact Ev.now _

/-! laws_sameInts -/
theorem laws_sameInts_ev (l : List Int) (hl : l.length ≤ 1048576) : Ev (fun k => laws_sameInts.f k l l) true := by
  simp only [laws_sameInts.f, ↓reduceIte]
  refine loop_int l (by omega) (P := fun i _ => Ev (fun k => laws_sameInts.l0 k l l i) true) ?_ ?_
  · exact ev_succ (ev_of_eq fun k => by simp only [laws_sameInts.l0, Int.lt_irrefl, ↓reduceIte])
  · intro i x rest h0 h1 hx _ hw ih
    refine ev_succ ?_
    simp only [laws_sameInts.l0, h1, h0, ↓reduceIte, hw]
    exact ih

/-! spec_DrawIsBase -/
theorem spec_DrawIsBase_ex (d : List Int) (hd : d.length ≤ 1048576) : ∃ l, Ev (fun k => spec_DrawIsBase.f k d) l ∧ l.length ≤ 4 := by
  obtain ⟨g, e⟩ := spec_l1New_ex d hd
  obtain ⟨l, q, h, e1, hl, hq⟩ := spec_l17Any_ex d hd 0 g (by omega)
  exact ⟨l, Ev.bind e (Ev.bind e1 (Ev.now _)), hl⟩

/-! spec_DrawBaseCards -/
theorem spec_DrawBaseCards_ex (d : List Int) (hd : d.length ≤ 1048576) : ∃ l, Ev (fun k => spec_DrawBaseCards.f k d) l ∧ l.length ≤ 4 := by
  obtain ⟨l, e, h⟩ := spec_DrawIsBase_ex d hd
  exact ⟨l, Ev.bind e (Ev.now _), h⟩

/-! laws_ascends -/
theorem laws_ascends_ev (l : List Int) (hl : l.length ≤ 1048576) (hp : l.Pairwise (· < ·)) : Ev (fun k => laws_ascends.f k l) true := by
  simp only [laws_ascends.f]
  have H : ∀ (m : Nat) (i : Int), 1 ≤ i → i ≤ 1048577 → (l.length : Int) - i ≤ m → Ev (fun k => laws_ascends.l0 k l i) true := by
    intro m
    induction m with
    | zero =>
      intro i h1 h3 h2
      have c : ¬ i < (l.length : Int) := by omega
      exact ev_succ (ev_of_eq fun k => by simp only [laws_ascends.l0, c, ↓reduceIte])
    | succ m ih =>
      intro i h1 h3 h2
      by_cases c : i < (l.length : Int)
      · have w1 : wrap64 (i - 1) = i - 1 := w64 (by omega) (by omega)
        have w2 : wrap64 (i + 1) = i + 1 := w64 (by omega) (by omega)
        have c1 : 0 ≤ i - 1 := by omega
        have c2 : i - 1 < (l.length : Int) := by omega
        have c3 : 0 ≤ i := by omega
        have hlt : rd l (i - 1) < rd l i := by
          show l.getD (i - 1).toNat 0 < l.getD i.toNat 0
          have a1 : (i - 1).toNat < l.length := by omega
          have a2 : i.toNat < l.length := by omega
          have := (List.pairwise_iff_getElem.mp hp) (i - 1).toNat i.toNat a1 a2 (by omega)
          rw [List.getD_eq_getElem?_getD, List.getD_eq_getElem?_getD, List.getElem?_eq_getElem a1, List.getElem?_eq_getElem a2]
          exact this
        have c4 : ¬ rd l (i - 1) ≥ rd l i := by omega
        refine ev_succ ?_
        simp only [laws_ascends.l0, c, w1, w2, c1, c2, c3, c4, ↓reduceIte]
        exact ih (i + 1) (by omega) (by omega) (by omega)
      · exact ev_succ (ev_of_eq fun k => by simp only [laws_ascends.l0, c, ↓reduceIte])
  exact H l.length 1 (by omega) (by omega) (by omega)

/-! spec_DrawIsSafe -/
theorem spec_DrawIsSafe_ex (d : List Int) (hd : d.length ≤ 1048576) : ∃ l c, Ev (fun k => spec_DrawIsSafe.f k d) (l, c) ∧ l.length ≤ 4 := by
  obtain ⟨l, c, e, h⟩ := spec_DrawMayBuild_ex d hd
  exact ⟨l, c, Ev.bind e (Ev.now _), h⟩

/-! impl_IsRed -/
theorem impl_IsRed_f (c : Int) : impl_IsRed.f c = some (isRedM c) := by
  simp only [impl_IsRed.f, impl_SuitOf_f, Option.bind_some, isRedM]
  by_cases h : suitM c = 1
  · simp [h]
  · simp only [h, ↓reduceIte]
    congr 1
    rw [Bool.eq_iff_iff]
    simp
    omega

/-! impl_IsSafe -/
theorem impl_IsSafe_ev (l : List Int) (c : Int) (hl : l.length ≤ 1099511627776) : Ev (fun k => impl_IsSafe.f k l c) (isSafeM l c) := by
  simp only [impl_IsSafe.f, isSafeM]
  refine Ev.bind (impl_MayBuild_ev l c hl) ?_
  by_cases h1 : mayBuildM l c = true
  · have h2 := h1
    unfold mayBuildM at h2
    simp only [Bool.and_eq_true] at h2
    have h3 := isBaseM_len h2.1.1
    have hs := stepM_range c
    have w5 : wrap64 (stepM c - 1) = stepM c - 1 := w64 (by omega) (by omega)
    have b1 : (0 : Int) < (l.length : Int) := by omega
    have b2 : (1 : Int) < (l.length : Int) := by omega
    have b3 : (2 : Int) < (l.length : Int) := by omega
    have b4 : (3 : Int) < (l.length : Int) := by omega
    refine ev_of_eq fun k => ?_
    simp only [h1, ↓reduceIte, Bool.true_and, impl_IsRed_f, impl_StepOf_f, Option.bind_some, w5, b1, b2, b3, b4, ge_iff_le]
    cases hr : isRedM c <;> by_cases g0 : stepM c ≤ 2 <;> by_cases g1 : stepM c - 1 ≤ rd l 0 <;> by_cases g2 : stepM c - 1 ≤ rd l 1 <;> simp [g0, g1, g2]
  · simp only [h1, Bool.false_eq_true, ↓reduceIte, Bool.false_and]
    exact Ev.now _

theorem baseCardsM_len52 (l : List Int) : (baseCardsM l).length ≤ 52 := by
  unfold baseCardsM
  by_cases c : isBaseM l = true
  · rw [if_pos c]; exact baseF_len l 52 0
  · rw [if_neg c]; exact Nat.zero_le _
theorem baseF_mem (l : List Int) : ∀ (n : Nat) (c x : Int), x ∈ baseF l n c ↔ (c ≤ x ∧ x < c + n ∧ inBaseM l x = true) := by
  intro n
  induction n with
  | zero => intro c x; unfold baseF; simp; omega
  | succ n ih =>
    intro c x
    unfold baseF
    by_cases h : inBaseM l c = true
    · rw [if_pos h, List.mem_cons, ih]
      constructor
      · rintro (e | ⟨h1, h2, h3⟩)
        · subst e; exact ⟨by omega, by omega, h⟩
        · exact ⟨by omega, by omega, h3⟩
      · rintro ⟨h1, h2, h3⟩
        by_cases e : x = c
        · exact Or.inl e
        · exact Or.inr ⟨by omega, by omega, h3⟩
    · rw [if_neg h, ih]
      constructor
      · rintro ⟨h1, h2, h3⟩; exact ⟨by omega, by omega, h3⟩
      · rintro ⟨h1, h2, h3⟩
        have : x ≠ c := fun e => h (e ▸ h3)
        exact ⟨by omega, by omega, h3⟩
theorem baseF_sorted (l : List Int) : ∀ (n : Nat) (c : Int), (baseF l n c).Pairwise (· < ·) := by
  intro n
  induction n with
  | zero => intro c; unfold baseF; exact List.Pairwise.nil
  | succ n ih =>
    intro c
    unfold baseF
    by_cases h : inBaseM l c = true
    · rw [if_pos h, List.pairwise_cons]
      exact ⟨fun x hx => by have := (baseF_mem l n (c + 1) x).mp hx; omega, ih _⟩
    · rw [if_neg h]; exact ih _
theorem baseF_add (l : List Int) : ∀ (m n : Nat) (c : Int), (baseF l (m + n) c).length = (baseF l m c).length + (baseF l n (c + m)).length := by
  intro m
  induction m with
  | zero => intro n c; simp [baseF]
  | succ m ih =>
    intro n c
    rw [show m + 1 + n = (m + n) + 1 by omega]
    simp only [baseF]
    by_cases h : inBaseM l c = true
    · rw [if_pos h, if_pos h, List.length_cons, List.length_cons, ih]
      rw [show c + 1 + (m : Int) = c + ((m + 1 : Nat) : Int) by omega]; omega
    · rw [if_neg h, if_neg h, ih]
      rw [show c + 1 + (m : Int) = c + ((m + 1 : Nat) : Int) by omega]
def cntF (v : Int) : Nat → Int → Nat
  | 0, _ => 0
  | n + 1, c => (if stepM c ≤ v then 1 else 0) + cntF v n (c + 1)
theorem baseF_cnt (l : List Int) (s : Int) : ∀ (n : Nat) (c : Int), 0 ≤ c → c + n ≤ 52 → 13 * s ≤ c → c + n ≤ 13 * s + 13 → (baseF l n c).length = cntF (rd l s) n c := by
  intro n
  induction n with
  | zero => intro c _ _ _ _; simp [baseF, cntF]
  | succ n ih =>
    intro c h0 h1 h2 h3
    have hs : suitM c = s := by unfold suitM; rw [if_pos (by omega)]; omega
    have hi : inBaseM l c = decide (stepM c ≤ rd l s) := by unfold inBaseM; rw [hs]
    simp only [baseF, cntF, hi, decide_eq_true_eq]
    by_cases h : stepM c ≤ rd l s
    · rw [if_pos h, if_pos h, List.length_cons, ih (c + 1) (by omega) (by omega) (by omega) (by omega)]; omega
    · rw [if_neg h, if_neg h, ih (c + 1) (by omega) (by omega) (by omega) (by omega)]; omega
set_option maxRecDepth 20000 in
theorem cntF_all : ∀ (s : Fin 4) (v : Fin 14), cntF ((v.val : Nat) : Int) 13 (13 * ((s.val : Nat) : Int)) = v.val := by decide
theorem cntF_eq (s v : Int) (hs : 0 ≤ s) (hs2 : s ≤ 3) (hv : 0 ≤ v) (hv2 : v ≤ 13) : (cntF v 13 (13 * s) : Int) = v := by
  have h := cntF_all ⟨s.toNat, by omega⟩ ⟨v.toNat, by omega⟩
  simp only [show ((s.toNat : Nat) : Int) = s by omega, show ((v.toNat : Nat) : Int) = v by omega] at h
  omega
theorem isBaseM_four (l : List Int) (h : isBaseM l = true) : ∃ a b c d, l = [a, b, c, d] ∧ (0 ≤ a ∧ a ≤ 13) ∧ (0 ≤ b ∧ b ≤ 13) ∧ (0 ≤ c ∧ c ≤ 13) ∧ (0 ≤ d ∧ d ≤ 13) := by
  unfold isBaseM at h
  rw [Bool.and_eq_true, decide_eq_true_eq] at h
  obtain ⟨h1, h2⟩ := h
  match l, h1 with
  | [a, b, c, d], _ =>
    simp at h2
    exact ⟨a, b, c, d, rfl, h2.1, h2.2.1, h2.2.2.1, h2.2.2.2⟩
theorem isBaseM_mem (l : List Int) (h : isBaseM l = true) : l.length = 4 ∧ ∀ x ∈ l, 0 ≤ x ∧ x ≤ 14 := by
  obtain ⟨a, b, c, d, rfl, h1, h2, h3, h4⟩ := isBaseM_four l h
  refine ⟨rfl, fun x hx => ?_⟩
  simp only [List.mem_cons, List.not_mem_nil, or_false] at hx
  omega
theorem baseCards_sum (l : List Int) (h : isBaseM l = true) : ((baseCardsM l).length : Int) = l.sum := by
  unfold baseCardsM
  rw [if_pos h]
  obtain ⟨a, b, c, d, rfl, h1, h2, h3, h4⟩ := isBaseM_four l h
  have e0 := baseF_cnt [a, b, c, d] 0 13 0 (by omega) (by omega) (by omega) (by omega)
  have e1 := baseF_cnt [a, b, c, d] 1 13 13 (by omega) (by omega) (by omega) (by omega)
  have e2 := baseF_cnt [a, b, c, d] 2 13 26 (by omega) (by omega) (by omega) (by omega)
  have e3 := baseF_cnt [a, b, c, d] 3 13 39 (by omega) (by omega) (by omega) (by omega)
  have f0 := cntF_eq 0 a (by omega) (by omega) h1.1 h1.2
  have f1 := cntF_eq 1 b (by omega) (by omega) h2.1 h2.2
  have f2 := cntF_eq 2 c (by omega) (by omega) h3.1 h3.2
  have f3 := cntF_eq 3 d (by omega) (by omega) h4.1 h4.2
  have s1 := baseF_add [a, b, c, d] 13 39 0
  have s2 := baseF_add [a, b, c, d] 13 26 13
  have s3 := baseF_add [a, b, c, d] 13 13 26
  have r0 : rd [a, b, c, d] 0 = a := rfl
  have r1 : rd [a, b, c, d] 1 = b := rfl
  have r2 : rd [a, b, c, d] 2 = c := rfl
  have r3 : rd [a, b, c, d] 3 = d := rfl
  rw [r0] at e0
  rw [r1] at e1
  rw [r2] at e2
  rw [r3] at e3
  rw [show (13 : Int) * 0 = 0 by omega] at f0
  rw [show (13 : Int) * 1 = 13 by omega] at f1
  rw [show (13 : Int) * 2 = 26 by omega] at f2
  rw [show (13 : Int) * 3 = 39 by omega] at f3
  rw [show (0 : Int) + ((13 : Nat) : Int) = 13 by omega] at s1
  rw [show (13 : Int) + ((13 : Nat) : Int) = 26 by omega] at s2
  rw [show (26 : Int) + ((13 : Nat) : Int) = 39 by omega] at s3
  rw [show (13 : Nat) + 39 = 52 by omega] at s1
  rw [show (13 : Nat) + 26 = 39 by omega] at s2
  rw [show (13 : Nat) + 13 = 26 by omega] at s3
  have hs : [a, b, c, d].sum = a + b + c + d := by simp; omega
  rw [hs]
  omega
theorem step_range (c : Int) : 0 ≤ stepM c ∧ stepM c ≤ 13 ∧ (isCardM c = true ↔ 0 < stepM c) := by
  unfold stepM isCardM
  by_cases h : 0 ≤ c ∧ c ≤ 51
  · rw [if_pos h]; simp [h]; omega
  · rw [if_neg h]; simp [h]
theorem built_facts (l : List Int) (c : Int) (h : mayBuildM l c = true) : isBaseM l = true ∧ isBaseM (builtM l c).1 = true ∧ (builtM l c).2 = true ∧ (builtM l c).1.sum = l.sum + 1 ∧ c ∈ baseCardsM (builtM l c).1 ∧ c ∉ baseCardsM l := by
  have hb : builtM l c = (l.set (suitM c).toNat (wrap64 (rd l (suitM c) + 1)), true) := by unfold builtM; rw [if_pos h]
  rw [hb]
  unfold mayBuildM at h
  rw [Bool.and_eq_true, Bool.and_eq_true, beq_iff_eq] at h
  obtain ⟨⟨h1, h2⟩, h3⟩ := h
  have hc : 0 ≤ c ∧ c ≤ 51 := by unfold isCardM at h2; exact of_decide_eq_true h2
  have hs : suitM c = c / 13 := by unfold suitM; rw [if_pos hc]
  have hr := step_range c
  obtain ⟨a, b, e, d, rfl, g1, g2, g3, g4⟩ := isBaseM_four l h1
  have hs4 : c / 13 = 0 ∨ c / 13 = 1 ∨ c / 13 = 2 ∨ c / 13 = 3 := by omega
  have base : ∀ x : Int, x = stepM c → ∀ m : List Int, isBaseM m = true → rd m (suitM c) = x → c ∈ baseCardsM m := by
    intro x hx m hm hrd
    unfold baseCardsM
    rw [if_pos hm, baseF_mem]
    refine ⟨by omega, by omega, ?_⟩
    unfold inBaseM
    rw [hrd, hx]
    simp
  have nbase : c ∉ baseCardsM [a, b, e, d] := by
    unfold baseCardsM
    rw [if_pos h1, baseF_mem]
    rintro ⟨_, _, h5⟩
    unfold inBaseM at h5
    have h5 := of_decide_eq_true h5
    rw [h3] at h5
    have hrd : 0 ≤ rd [a, b, e, d] (suitM c) ∧ rd [a, b, e, d] (suitM c) ≤ 13 := by
      rw [hs]
      rcases hs4 with q | q | q | q <;> rw [q]
      · exact g1
      · exact g2
      · exact g3
      · exact g4
    rw [w64 (by omega) (by omega)] at h5
    omega
  refine ⟨h1, ?_, rfl, ?_, ?_, nbase⟩
  · show isBaseM ([a, b, e, d].set (suitM c).toNat (wrap64 (rd [a, b, e, d] (suitM c) + 1))) = true
    rw [← h3, hs]
    rcases hs4 with q | q | q | q <;> rw [q] <;> simp [isBaseM, g1, g2, g3, g4, hr.1, hr.2.1]
  · show ([a, b, e, d].set (suitM c).toNat (wrap64 (rd [a, b, e, d] (suitM c) + 1))).sum = _
    rw [hs]
    rcases hs4 with q | q | q | q <;> rw [q]
    · have r : rd [a, b, e, d] 0 = a := rfl
      rw [r, w64 (by omega) (by omega)]; simp; omega
    · have r : rd [a, b, e, d] 1 = b := rfl
      rw [r, w64 (by omega) (by omega)]; simp; omega
    · have r : rd [a, b, e, d] 2 = e := rfl
      rw [r, w64 (by omega) (by omega)]; simp; omega
    · have r : rd [a, b, e, d] 3 = d := rfl
      rw [r, w64 (by omega) (by omega)]; simp; omega
  · show c ∈ baseCardsM ([a, b, e, d].set (suitM c).toNat (wrap64 (rd [a, b, e, d] (suitM c) + 1)))
    rw [← h3]
    refine base (stepM c) rfl _ ?_ ?_
    · rw [hs]
      rcases hs4 with q | q | q | q <;> rw [q] <;> simp [isBaseM, g1, g2, g3, g4, hr.1, hr.2.1]
    · rw [hs]
      rcases hs4 with q | q | q | q <;> rw [q] <;> rfl
theorem FnBases_j1 (d : List Int) (hd : d.length ≤ 1048576) : Ev (fun k => laws_FnBases.j1 k d false) true := by
  obtain ⟨l, c, e, hl⟩ := spec_DrawIsSafe_ex d hd
  have hr := step_range c
  refine ev_succ ?_
  simp only [laws_FnBases.j1, Bool.false_eq_true, ↓reduceIte]
  refine Ev.bind e ?_
  simp only [impl_StepOf_f, Option.bind_some, impl_IsCard_f]
  have hb : (decide (stepM c > 0) == isCardM c) = true := by
    rw [beq_iff_eq, Bool.eq_iff_iff, decide_eq_true_eq, hr.2.2]
  have hd13 : decide (stepM c ≤ 13) = true := decide_eq_true hr.2.1
  refine Ev.bind (impl_IsSafe_ev l c (by omega)) ?_
  cases hs : isSafeM l c
  · exact ev_of_eq fun k => by simp only [Bool.false_eq_true, ↓reduceIte, hb, hd13]
  · simp only [↓reduceIte]
    refine Ev.bind (impl_MayBuild_ev l c (by omega)) ?_
    have hm : mayBuildM l c = true := by
      unfold isSafeM at hs
      rw [Bool.and_eq_true] at hs
      exact hs.1
    exact ev_of_eq fun k => by simp only [hm, ↓reduceIte, hb, hd13]
theorem FnBases_j0 (d : List Int) (hd : d.length ≤ 1048576) : Ev (fun k => laws_FnBases.j0 k d false) true := by
  obtain ⟨l, e, hl⟩ := spec_DrawBaseCards_ex d hd
  refine ev_succ ?_
  simp only [laws_FnBases.j0, Bool.false_eq_true, ↓reduceIte]
  refine Ev.bind e ?_
  refine Ev.bind (impl_BaseCards_ev l (by omega)) ?_
  refine Ev.bind (impl_IsBase_ev l (by omega)) ?_
  have h52 := baseCardsM_len52 l
  have hp : (baseCardsM l).Pairwise (· < ·) := by
    unfold baseCardsM
    by_cases c : isBaseM l = true
    · rw [if_pos c]; exact baseF_sorted l 52 0
    · rw [if_neg c]; exact List.Pairwise.nil
  cases hb : isBaseM l
  · simp only [Bool.false_eq_true, ↓reduceIte]
    refine Ev.bind (laws_ascends_ev _ (by omega) hp) ?_
    exact FnBases_j1 d hd
  · simp only [↓reduceIte]
    refine Ev.bind (laws_sum_ev l hl (isBaseM_mem l hb).2) ?_
    simp only [baseCards_sum l hb, ↓reduceIte]
    refine Ev.bind (laws_ascends_ev _ (by omega) hp) ?_
    exact FnBases_j1 d hd
theorem FnBases : laws_FnBases.Pure := by
  intro d _ _ _
  refine Ev.rounds (g := fun k => laws_FnBases.f k d) ?_
  by_cases hb : (d.length : Int) > 1048576
  · exact ev_of_eq fun k => by simp only [laws_FnBases.f, laws_big.f, Option.bind_some, hb, decide_true, ↓reduceIte]
  have hd : d.length ≤ 1048576 := by omega
  simp only [laws_FnBases.f, laws_big.f, Option.bind_some, hb, decide_false, Bool.false_eq_true, ↓reduceIte]
  obtain ⟨l, c, e, hl⟩ := spec_DrawBuilt_ex d hd
  refine Ev.bind e ?_
  refine Ev.bind (impl_Built_ev l c (by omega)) ?_
  refine Ev.bind (impl_MayBuild_ev l c (by omega)) ?_
  cases hm : mayBuildM l c
  · have hj : builtM l c = (l, false) := by unfold builtM; rw [if_neg (by rw [hm]; decide)]
    simp only [hj, bne_self_eq_false, Bool.false_eq_true, ↓reduceIte]
    refine Ev.bind (laws_sameInts_ev l (by omega)) ?_
    exact FnBases_j0 d hd
  · obtain ⟨g1, g2, g3, g4, g5, g6⟩ := built_facts l c hm
    obtain ⟨m1, m2⟩ := isBaseM_mem _ g2
    have w := baseCardsM_len52 (builtM l c).1
    have w2 := baseCardsM_len52 l
    simp only [g3, bne_self_eq_false, Bool.false_eq_true, ↓reduceIte]
    refine Ev.bind (impl_IsBase_ev _ (by omega)) ?_
    simp only [g2, ↓reduceIte]
    refine Ev.bind (laws_sum_ev _ (by omega) m2) ?_
    refine Ev.bind (laws_sum_ev l hl (isBaseM_mem l g1).2) ?_
    have hs : (builtM l c).1.sum = wrap64 (l.sum + 1) := by
      have := baseCards_sum l g1
      rw [w64 (by omega) (by omega)]; exact g4
    simp only [hs, ↓reduceIte]
    refine Ev.bind (impl_BaseCards_ev _ (by omega)) ?_
    refine Ev.bind (laws_contains_ev _ c (by omega)) ?_
    simp only [g5, decide_true, ↓reduceIte]
    refine Ev.bind (impl_BaseCards_ev l (by omega)) ?_
    refine Ev.bind (laws_contains_ev _ c (by omega)) ?_
    simp only [g6, decide_false, Bool.false_eq_true, ↓reduceIte]
    exact FnBases_j0 d hd

end Go.Proofs.Ytdakhelapeojgaa.Pure
