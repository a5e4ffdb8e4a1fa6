/- The program's FnSeals answers what the reference's answers, for all arguments. No condition but those that the statement itself names. -/
import Derived.Test.YtkhgeockdjjhmaaQFnSealsx3
import Derived.Test.YtkhgeockdjjhmaaLib
namespace Go.Proofs.Ytkhgeockdjjhmaa.Pure
open Go.RowKit Go.Proofs.Ytkhgeockdjjhmaa.QFnSeals Go.Proofs.YtkhgeockdjjhmaaW.PrintWords Go.Proofs.YtkhgeockdjjhmaaW.PrintLast Go.Proofs.YtkhgeockdjjhmaaW.PrintMore Go.Proofs.Ytkhgeockdjjhmaa.Lib
set_option linter.unusedVariables false
set_option linter.unusedSimpArgs false

/-! spec_l1New -/
theorem spec_l1New_ex (d : List Int) (hd : d.length ≤ 1048576) : ∃ g, Ev (fun k => spec_l1New.f k d) (d, 0, g) := by
  simp only [spec_l1New.f]
  generalize wrap64 (193017 + (d.length : Int)) = h
  revert h
  refine loop_int d (by omega) (P := fun i rest => ∀ h, ∃ g, Ev (fun k => spec_l1New.l0 k d h i) (d, 0, g)) ?_ ?_
  · intro h
    exact ⟨h, ev_succ (ev_of_eq fun k => by simp only [spec_l1New.l0, Int.lt_irrefl, ↓reduceIte])⟩
  · intro i x rest h0 h1 hx _ hw ih h
    by_cases c : i < 4000
    · obtain ⟨g, e⟩ := ih (Go.bits .and .i64 (wrap64 ((wrap64 ((wrap64 (h * 137)) + (wrap64 (rd d i)))) + 11)) 1073741823)
      refine ⟨g, ev_succ ?_⟩
      simp only [spec_l1New.l0, h1, h0, c, hw, ↓reduceIte]
      exact e
    · exact ⟨h, ev_succ (ev_of_eq fun k => by simp only [spec_l1New.l0, h1, c, ↓reduceIte])⟩

/-! spec_l1In -/
theorem spec_l1In_f (a b c : Int) : spec_l1In.f a b c = some (decide (b ≤ a ∧ a ≤ c)) := by
  unfold spec_l1In.f
  by_cases h : b ≤ a <;> simp [h]

/-! spec_Mod -/
theorem spec_Mod_f (a b : Int) : spec_Mod.f a b = some (modM a b) := by
  unfold spec_Mod.f
  rw [spec_l1In_f]
  unfold modM
  by_cases h : 1 ≤ b ∧ b ≤ 1000000000000
  · have : ¬ b = 0 := by omega
    simp [h, this]
  · simp [h]

/-! spec_Hash -/
theorem spec_Hash_ev (l : List Int) (hl : l.length ≤ 1099511627776) : Ev (fun k => spec_Hash.f k l) (hashM l) := by
  simp only [spec_Hash.f, hashM]
  refine loop_int l hl (P := fun i rest => ∀ d, Ev (fun k => spec_Hash.l0 k l d i) (rest.foldl hashStep d)) ?_ ?_ 11
  · intro d
    refine ev_succ (ev_of_eq fun k => ?_)
    simp only [spec_Hash.l0, Int.lt_irrefl, ↓reduceIte, List.foldl_nil]
  · intro i x rest h0 h1 hx _ hw ih d
    refine ev_succ ?_
    simp only [spec_Hash.l0, h1, h0, ↓reduceIte, hx, hw, spec_Mod_f, Option.bind_some]
    exact ih _

/-! spec_SeedSeal -/
theorem spec_SeedSeal_ev (a b c : Int) : Ev (fun k => spec_SeedSeal.f k a b c) (hashM [a, b, c]) := by
  simp only [spec_SeedSeal.f]
  exact Ev.bind (spec_Hash_ev [a, b, c] (by simp)) (Ev.now _)

/-! spec_l1Byte -/
set_option maxRecDepth 20000 in
theorem bits_and255 (x : Int) : 0 ≤ Go.bits .and .i64 x 255 := by
  have h : ((BitVec.ofInt 64 x) &&& (BitVec.ofInt 64 255)).toNat ≤ 255 := by
    rw [BitVec.toNat_and]; exact Nat.and_le_right
  show 0 ≤ Go.IntKind.i64.wrap (((BitVec.ofInt 64 x &&& BitVec.ofInt 64 255).toNat : Nat) : Int)
  generalize ((BitVec.ofInt 64 x) &&& (BitVec.ofInt 64 255)).toNat = n at h
  have k : ∀ m : Fin 256, 0 ≤ Go.IntKind.i64.wrap ((m.val : Nat) : Int) := by decide
  exact k ⟨n, by omega⟩
theorem spec_l1Byte_ex (d : List Int) (p h : Int) (hp : 0 ≤ p) (hd : d.length ≤ 1048576) : ∃ b q g, spec_l1Byte.f d p h = some (b, q, g) ∧ 0 ≤ b ∧ 0 ≤ q := by
  by_cases c : p < (d.length : Int)
  · refine ⟨_, _, _, by simp only [spec_l1Byte.f, c, hp, ↓reduceIte]; rfl, bits_and255 _, ?_⟩
    rw [w64 (by omega) (by omega)]; omega
  · exact ⟨_, _, _, by simp only [spec_l1Byte.f, c, ↓reduceIte]; rfl, bits_and255 _, hp⟩

/-! spec_l1Below -/
theorem spec_l1Below_ex (d : List Int) (p h n : Int) (hp : 0 ≤ p) (hd : d.length ≤ 1048576) : ∃ b q g, spec_l1Below.f d p h n = some (b, q, g) ∧ 0 ≤ q ∧ (1 ≤ n → n ≤ 256 → 0 ≤ b ∧ b < n) := by
  by_cases c : n ≤ 0
  · exact ⟨_, _, _, by simp only [spec_l1Below.f, c, ↓reduceIte]; rfl, hp, fun _ _ => by omega⟩
  · have z : ¬ n = 0 := by omega
    obtain ⟨b1, q1, g1, e1, hb1, hq1⟩ := spec_l1Byte_ex d p h hp hd
    by_cases c2 : n ≤ 256
    · refine ⟨Int.tmod b1 n, q1, g1, by simp only [spec_l1Below.f, c, c2, z, e1, Option.bind_some, ↓reduceIte], hq1, fun h1 _ => ?_⟩
      rw [Int.tmod_eq_emod_of_nonneg hb1]
      exact ⟨Int.emod_nonneg _ (by omega), Int.emod_lt_of_pos _ (by omega)⟩
    · obtain ⟨b2, q2, g2, e2, hb2, hq2⟩ := spec_l1Byte_ex d q1 g1 hq1 hd
      obtain ⟨b3, q3, g3, e3, hb3, hq3⟩ := spec_l1Byte_ex d q2 g2 hq2 hd
      exact ⟨_, _, _, by simp only [spec_l1Below.f, c, c2, z, e1, e2, e3, Option.bind_some, ↓reduceIte]; rfl, hq3, fun _ h2 => absurd h2 c2⟩

/-! spec_DrawAreOpened -/
theorem spec_DrawAreOpened_l0 (d : List Int) (hd : d.length ≤ 1048576) : ∀ (m : Nat) (x6 x7 x8 : List Int) (i p h : Int), 0 ≤ p → 0 ≤ i → i + m = 8 → (x6.length : Int) = i → (x7.length : Int) = i → (x8.length : Int) = i →
    ∃ a b c, Ev (fun k => spec_DrawAreOpened.l0 k x6 x7 x8 i d p h) (a, b, c) ∧ a.length ≤ 8 ∧ b.length ≤ 8 ∧ c.length ≤ 8 := by
  intro m
  induction m with
  | zero =>
    intro x6 x7 x8 i p h hp hi hm l6 l7 l8
    obtain ⟨b, q, g, e, hq, hb⟩ := spec_l1Below_ex d p h 8 hp hd
    obtain ⟨hb0, hb1⟩ := hb (by omega) (by omega)
    have c : ¬ i < b := by omega
    have c6 : (x6.length : Int) > 0 := by omega
    obtain ⟨b2, q2, g2, e2, hq2, _⟩ := spec_l1Below_ex d q g 6 hq hd
    by_cases c2 : b2 = 0
    · have c3 : (0 : Int) < (x6.length : Int) := by omega
      exact ⟨_, x7, x8, ev_succ (ev_of_eq fun k => by simp only [spec_DrawAreOpened.l0, e, e2, c, c6, c2, c3, Option.bind_some, ↓reduceIte]; rfl), by rw [List.length_set]; omega, by omega, by omega⟩
    · by_cases c3 : b2 = 1
      · have c4 : (1 : Int) ≤ (x8.length : Int) := by omega
        have z : ¬ (1 : Int) = 0 := by omega
        exact ⟨x6, x7, _, ev_succ (ev_of_eq fun k => by simp only [spec_DrawAreOpened.l0, e, e2, c, c6, c3, c4, z, Option.bind_some, ↓reduceIte]; rfl), by omega, by omega, by rw [List.length_drop]; omega⟩
      · exact ⟨x6, x7, x8, ev_succ (ev_of_eq fun k => by simp only [spec_DrawAreOpened.l0, e, e2, c, c6, c2, c3, Option.bind_some, ↓reduceIte]), by omega, by omega, by omega⟩
  | succ m ih =>
    intro x6 x7 x8 i p h hp hi hm l6 l7 l8
    obtain ⟨b, q, g, e, hq, hb⟩ := spec_l1Below_ex d p h 8 hp hd
    obtain ⟨hb0, hb1⟩ := hb (by omega) (by omega)
    by_cases c : i < b
    · obtain ⟨b2, q2, g2, e2, hq2, _⟩ := spec_l1Below_ex d q g 1000000 hq hd
      obtain ⟨b3, q3, g3, e3, hq3, _⟩ := spec_l1Below_ex d q2 g2 1000 hq2 hd
      have c7 : x7.length < 17592186044416 := by omega
      have c8 : x8.length < 17592186044416 := by omega
      have c6 : x6.length < 17592186044416 := by omega
      have d7 : i < ((x7 ++ [b2]).length : Int) := by simp; omega
      have d8 : i < ((x8 ++ [b3]).length : Int) := by simp; omega
      obtain ⟨r1, r2, r3, er, h1, h2, h3⟩ := ih (x6 ++ [hashM [i, rd (x7 ++ [b2]) i, rd (x8 ++ [b3]) i]]) (x7 ++ [b2]) (x8 ++ [b3]) (i + 1) q3 g3 hq3 (by omega) (by omega) (by simp; omega) (by simp; omega) (by simp; omega)
      refine ⟨r1, r2, r3, ev_succ ?_, h1, h2, h3⟩
      simp only [spec_DrawAreOpened.l0, e, e2, e3, c, c6, c7, c8, d7, d8, hi, Option.bind_some, ↓reduceIte]
      refine Ev.bind (spec_SeedSeal_ev _ _ _) ?_
      simp only [w64 (show -9223372036854775808 ≤ i + 1 by omega) (by omega)]
      exact er
    · by_cases c6 : (x6.length : Int) > 0
      · obtain ⟨b2, q2, g2, e2, hq2, _⟩ := spec_l1Below_ex d q g 6 hq hd
        by_cases c2 : b2 = 0
        · have c3 : (0 : Int) < (x6.length : Int) := by omega
          exact ⟨_, x7, x8, ev_succ (ev_of_eq fun k => by simp only [spec_DrawAreOpened.l0, e, e2, c, c6, c2, c3, Option.bind_some, ↓reduceIte]; rfl), by rw [List.length_set]; omega, by omega, by omega⟩
        · by_cases c3 : b2 = 1
          · have c4 : (1 : Int) ≤ (x8.length : Int) := by omega
            have z : ¬ (1 : Int) = 0 := by omega
            exact ⟨x6, x7, _, ev_succ (ev_of_eq fun k => by simp only [spec_DrawAreOpened.l0, e, e2, c, c6, c3, c4, z, Option.bind_some, ↓reduceIte]; rfl), by omega, by omega, by rw [List.length_drop]; omega⟩
          · exact ⟨x6, x7, x8, ev_succ (ev_of_eq fun k => by simp only [spec_DrawAreOpened.l0, e, e2, c, c6, c2, c3, Option.bind_some, ↓reduceIte]), by omega, by omega, by omega⟩
      · exact ⟨x6, x7, x8, ev_succ (ev_of_eq fun k => by simp only [spec_DrawAreOpened.l0, e, c, c6, Option.bind_some, ↓reduceIte]), by omega, by omega, by omega⟩
theorem spec_DrawAreOpened_ex (d : List Int) (hd : d.length ≤ 1048576) : ∃ a b c, Ev (fun k => spec_DrawAreOpened.f k d) (a, b, c) ∧ a.length ≤ 8 ∧ b.length ≤ 8 ∧ c.length ≤ 8 := by
  obtain ⟨g, e⟩ := spec_l1New_ex d hd
  obtain ⟨a, b, c, er, h⟩ := spec_DrawAreOpened_l0 d hd 8 [] [] [] 0 0 g (by omega) (by omega) (by omega) rfl rfl rfl
  exact ⟨a, b, c, Ev.bind e er, h⟩

/-! spec_DrawJointDeck -/
theorem spec_DrawJointDeck_ex (d : List Int) (hd : d.length ≤ 1048576) : ∃ a b c, Ev (fun k => spec_DrawJointDeck.f k d) (a, b, c) ∧ a.length ≤ 8 ∧ b.length ≤ 8 ∧ c.length ≤ 8 := by
  obtain ⟨a, b, c, e, h⟩ := spec_DrawAreOpened_ex d hd
  exact ⟨a, b, c, Ev.bind e (Ev.now _), h⟩

/-! impl_InRange -/
theorem impl_InRange_f (a b c : Int) : impl_InRange.f a b c = some (decide (b ≤ a ∧ a ≤ c)) := by
  unfold impl_InRange.f
  by_cases h : b ≤ a <;> simp [h]

/-! impl_Mod -/
theorem impl_Mod_f (a b : Int) : impl_Mod.f a b = some (modM a b) := by
  unfold impl_Mod.f
  rw [impl_InRange_f]
  unfold modM
  by_cases h : 1 ≤ b ∧ b ≤ 1000000000000
  · have : ¬ b = 0 := by omega
    simp [h, this]
  · simp [h]

/-! impl_Hash -/
theorem impl_Hash_ev (l : List Int) (hl : l.length ≤ 1099511627776) : Ev (fun k => impl_Hash.f k l) (hashM l) := by
  simp only [impl_Hash.f, hashM]
  refine loop_int l hl (P := fun i rest => ∀ d, Ev (fun k => impl_Hash.l0 k d l (l.length : Int) i) (rest.foldl hashStep d)) ?_ ?_ 11
  · intro d
    refine ev_succ (ev_of_eq fun k => ?_)
    simp only [impl_Hash.l0, Int.lt_irrefl, ↓reduceIte, List.foldl_nil]
  · intro i x rest h0 h1 hx _ hw ih d
    refine ev_succ ?_
    simp only [impl_Hash.l0, h1, h0, ↓reduceIte, hx, hw, impl_Mod_f, Option.bind_some]
    exact ih _

/-! impl_SeedSeal -/
theorem impl_SeedSeal_ev (a b c : Int) : Ev (fun k => impl_SeedSeal.f k a b c) (hashM [a, b, c]) := by
  simp only [impl_SeedSeal.f]
  exact Ev.bind (impl_Hash_ev [a, b, c] (by simp)) (Ev.now _)

/-! impl_IsOpened -/
theorem impl_IsOpened_ev (a b c d : Int) : Ev (fun k => impl_IsOpened.f k a b c d) (decide (0 ≤ b ∧ b ≤ 1000000) && decide (0 ≤ c ∧ c ≤ 1000000) && (hashM [a, b, c] == d)) := by
  simp only [impl_IsOpened.f, impl_InRange_f, Option.bind_some]
  by_cases h1 : 0 ≤ b ∧ b ≤ 1000000
  · by_cases h2 : 0 ≤ c ∧ c ≤ 1000000
    · simp only [h1, h2, and_self, decide_true, ↓reduceIte, Bool.true_and]
      exact Ev.bind (impl_SeedSeal_ev a b c) (Ev.now _)
    · refine ev_of_eq fun k => ?_
      simp [h1, h2]
  · refine ev_of_eq fun k => ?_
    simp [h1]

/-! impl_AreOpened -/
theorem impl_AreOpened_ev (a b c : List Int) : Ev (fun k => impl_AreOpened.f k a b c) (areOpenedM a b c) := by
  simp only [impl_AreOpened.f, impl_InRange_f, Option.bind_some, areOpenedM]
  by_cases h1 : 1 ≤ a.length ∧ a.length ≤ 6
  · have h1' : (1 : Int) ≤ (a.length : Int) ∧ (a.length : Int) ≤ 6 := by omega
    by_cases h2 : b.length = a.length
    · have h2' : (b.length : Int) = (a.length : Int) := by omega
      refine ev_eq (r := decide (c.length = a.length) && openF b c 0 a) ?_ (by simp [h1, h2])
      simp only [h1', h2', and_self, decide_true, ↓reduceIte]
      refine ev_succ ?_
      by_cases h3 : c.length = a.length
      · have h3' : ((c.length : Int) != (a.length : Int)) = false := by simp [h3]
        refine ev_eq (r := openF b c 0 a) ?_ (by simp [h3])
        simp only [impl_AreOpened.j0, h3', Bool.false_eq_true, ↓reduceIte]
        refine loop_int a (by omega) (P := fun i rest => Ev (fun k => (impl_AreOpened.l0 k a b c (a.length : Int) i)) (openF b c i rest)) ?_ ?_
        · refine ev_succ (ev_of_eq fun k => ?_)
          simp only [impl_AreOpened.l0, Int.lt_irrefl, ↓reduceIte, openF]
        · intro i x rest h0 h4 hx _ hw ih
          refine ev_succ ?_
          have h5 : i < (b.length : Int) := by omega
          have h6 : i < (c.length : Int) := by omega
          simp only [impl_AreOpened.l0, h4, h0, h5, h6, ↓reduceIte, hx, hw, openF]
          refine Ev.bind (impl_IsOpened_ev _ _ _ _) ?_
          cases decide (0 ≤ rd b i ∧ rd b i ≤ 1000000) && decide (0 ≤ rd c i ∧ rd c i ≤ 1000000) && (hashM [i, rd b i, rd c i] == x)
          · simp only [Bool.false_eq_true, ↓reduceIte, Bool.false_and]
            exact Ev.now _
          · simp only [↓reduceIte, Bool.true_and]
            exact ih
      · have h3' : ((c.length : Int) != (a.length : Int)) = true := by simp; omega
        refine ev_of_eq fun k => ?_
        simp only [impl_AreOpened.j0, h3', ↓reduceIte, h3, decide_false, Bool.false_and]
    · have h2' : ¬ (b.length : Int) = (a.length : Int) := by omega
      refine ev_succ (ev_of_eq fun k => ?_)
      simp only [h1', h2', and_self, decide_true, ↓reduceIte, impl_AreOpened.j0]
      simp [h2]
  · have h1' : ¬ ((1 : Int) ≤ (a.length : Int) ∧ (a.length : Int) ≤ 6) := by omega
    refine ev_succ (ev_of_eq fun k => ?_)
    simp only [h1', decide_false, Bool.false_eq_true, ↓reduceIte, impl_AreOpened.j0, h1, Bool.false_and]

/-! impl_JointSeed -/
theorem impl_JointSeed_ev (l : List Int) (hl : l.length ≤ 1099511627776) : Ev (fun k => impl_JointSeed.f k l) (jointM l) := by
  simp only [impl_JointSeed.f, jointM]
  refine loop_int l hl (P := fun i rest => ∀ d, Ev (fun k => impl_JointSeed.l0 k d l (l.length : Int) i) (rest.foldl jointStep d)) ?_ ?_ 0
  · intro d
    refine ev_succ (ev_of_eq fun k => ?_)
    simp only [impl_JointSeed.l0, Int.lt_irrefl, ↓reduceIte, List.foldl_nil]
  · intro i x rest h0 h1 hx _ hw ih d
    refine ev_succ ?_
    simp only [impl_JointSeed.l0, h1, h0, ↓reduceIte, hx, hw, impl_Mod_f, Option.bind_some]
    exact ih _

/-! impl_copyOf -/
theorem impl_copyOf_f (l : List Int) (hl : l.length ≤ 1099511627776) : impl_copyOf.f l = some l := by
  have h : ([] : List Int).length + l.length < 17592186044416 := by simp; omega
  simp only [impl_copyOf.f, Option.bind_some, h, ↓reduceIte, List.nil_append]

/-! impl_Shuffled -/
theorem impl_Shuffled_ev (l : List Int) (seed : Int) (hl : l.length ≤ 1048576) : Ev (fun k => impl_Shuffled.f k l seed) (shuffledM l seed) := by
  have h : ([] : List Int).length + l.length < 17592186044416 := by simp; omega
  simp only [impl_Shuffled.f, impl_copyOf_f l (by omega), Option.bind_some, shuffledM]
  have stop : ∀ (i : Int) (x : List Int), i ≤ 0 → Ev (fun k => impl_Shuffled.l0 k seed x i) x := by
    intro i x hi
    have e0 : ¬ i ≥ 1 := by omega
    refine ev_succ (ev_of_eq fun k => ?_)
    simp only [impl_Shuffled.l0, e0, ↓reduceIte]
  by_cases hz : l.length = 0
  · rw [w64 (by omega) (by omega)]
    have : shufF seed (l.length - 1) l = l := by rw [hz]; rfl
    rw [this]
    exact stop _ _ (by omega)
  · rw [show wrap64 ((l.length : Int) - 1) = ((l.length - 1 : Nat) : Int) by rw [w64 (by omega) (by omega)]; omega]
    suffices H : ∀ (n : Nat) (x : List Int), x.length = l.length → n < l.length → Ev (fun k => impl_Shuffled.l0 k seed x (n : Int)) (shufF seed n x) from H _ l rfl (by omega)
    intro n
    induction n with
    | zero => intro x hx hn; exact stop _ _ (by omega)
    | succ n ih =>
      intro x hx hn
      have e1 : (n : Int) + 1 ≥ 1 := by omega
      have e2 : wrap64 ((n : Int) + 1 + 1) = (n : Int) + 1 + 1 := w64 (by omega) (by omega)
      have e3 : wrap64 ((n : Int) + 1 - 1) = (n : Int) := by rw [w64 (by omega) (by omega)]; omega
      have hm := modM_range (hashM [seed, (n : Int) + 1]) ((n : Int) + 1 + 1) (by omega) (by omega)
      have e4 : (0 : Int) ≤ (n : Int) + 1 := by omega
      have e5 : (n : Int) + 1 < (x.length : Int) := by omega
      have e6 : modM (hashM [seed, (n : Int) + 1]) ((n : Int) + 1 + 1) < (x.length : Int) := by omega
      have e7 := hm.1
      refine ev_succ ?_
      rw [show ((n + 1 : Nat) : Int) = (n : Int) + 1 by omega]
      simp only [impl_Shuffled.l0, e1, ↓reduceIte]
      refine Ev.bind (impl_Hash_ev [seed, (n : Int) + 1] (by simp)) ?_
      simp only [impl_Mod_f, Option.bind_some, e2, e3, e4, e5, e6, e7, ↓reduceIte]
      exact ih (shufStep seed x ((n : Int) + 1)) (by rw [shufStep_length]; exact hx) (by omega)

/-! impl_PlaceOf -/
/-- Where a number stands first, from place i on. -/
def placeF (c : Int) : Int → List Int → Int
  | _, [] => -1
  | i, x :: r => if x = c then i else placeF c (i + 1) r
theorem placeF_iff (c : Int) : ∀ (r : List Int) (i : Int), 0 ≤ i → (decide (placeF c i r ≥ 0) = r.contains c) := by
  intro r
  induction r with
  | nil => intro i h; simp [placeF]
  | cons x r ih =>
    intro i h
    unfold placeF
    by_cases e : x = c
    · simp [e, h]
    · have e' : ¬ c = x := fun g => e g.symm
      rw [if_neg e, ih (i + 1) (by omega)]
      simp [e']
theorem impl_PlaceOf_ev (l : List Int) (c : Int) (hl : l.length ≤ 1099511627776) : Ev (fun k => impl_PlaceOf.f k l c) (placeF c 0 l) := by
  simp only [impl_PlaceOf.f]
  refine loop_int l hl (P := fun i rest => Ev (fun k => impl_PlaceOf.l0 k c l (l.length : Int) i) (placeF c i rest)) ?_ ?_
  · refine ev_succ (ev_of_eq fun k => ?_)
    simp only [impl_PlaceOf.l0, Int.lt_irrefl, ↓reduceIte, placeF]
  · intro i x rest h0 h1 hx _ hw ih
    refine ev_succ ?_
    simp only [impl_PlaceOf.l0, h1, h0, ↓reduceIte, hx, hw, placeF]
    by_cases h : x = c
    · simp only [h, ↓reduceIte]
      exact Ev.now _
    · simp only [h, ↓reduceIte]
      exact ih

/-! impl_HasCard -/
theorem impl_HasCard_ev (l : List Int) (c : Int) (hl : l.length ≤ 1099511627776) : Ev (fun k => impl_HasCard.f k l c) (l.contains c) := by
  simp only [impl_HasCard.f]
  refine Ev.bind (impl_PlaceOf_ev l c hl) ?_
  rw [placeF_iff c l 0 (by omega)]
  exact Ev.now _

/-! impl_Missing -/
theorem impl_Missing_ev (l : List Int) (hl : l.length ≤ 1099511627776) : Ev (fun k => impl_Missing.f k l) (missingM l) := by
  simp only [impl_Missing.f, missingM]
  suffices H : ∀ (n : Nat) (out : List Int) (c : Int), 0 ≤ c → c + n = 52 → out.length ≤ c → Ev (fun k => impl_Missing.l0 k l out c) (out ++ missF l n c) by
    simpa using H 52 [] 0 (by omega) (by omega) (by simp)
  intro n
  induction n with
  | zero =>
    intro out c h0 h1 h2
    have e : ¬ c < 52 := by omega
    refine ev_succ (ev_of_eq fun k => ?_)
    simp only [impl_Missing.l0, e, ↓reduceIte, missF, List.append_nil]
  | succ n ih =>
    intro out c h0 h1 h2
    have e : c < 52 := by omega
    have e3 : out.length < 17592186044416 := by omega
    have e4 : wrap64 (c + 1) = c + 1 := w64 (by omega) (by omega)
    refine ev_succ ?_
    simp only [impl_Missing.l0, e, ↓reduceIte, missF]
    refine Ev.bind (impl_HasCard_ev l c hl) ?_
    cases hc : l.contains c
    · simp only [Bool.false_eq_true, ↓reduceIte, e3, e4]
      have := ih (out ++ [c]) (c + 1) (by omega) (by omega) (by simp; omega)
      simpa using this
    · simp only [↓reduceIte, e4]
      exact ih out (c + 1) (by omega) (by omega) (by omega)

/-! impl_FullDeck -/
theorem impl_FullDeck_ev : Ev (fun k => impl_FullDeck.f k) (missingM []) := by
  simp only [impl_FullDeck.f]
  exact Ev.bind (impl_Missing_ev [] (by simp)) (Ev.now _)

/-! impl_JointDeck -/
theorem impl_JointDeck_ev (a b c : List Int) (hb : b.length ≤ 1048576) : Ev (fun k => impl_JointDeck.f k a b c) (jointDeckM a b c) := by
  simp only [impl_JointDeck.f, jointDeckM]
  refine Ev.bind (impl_AreOpened_ev a b c) ?_
  cases areOpenedM a b c
  · exact Ev.now _
  · simp only [↓reduceIte]
    refine Ev.bind impl_FullDeck_ev ?_
    refine Ev.bind (impl_JointSeed_ev b (by omega)) ?_
    exact Ev.bind (impl_Shuffled_ev _ _ (by have := missingM_len []; omega)) (Ev.now _)

/-! spec_IsOpened -/
theorem spec_IsOpened_ev (a b c d : Int) : Ev (fun k => spec_IsOpened.f k a b c d) (decide (0 ≤ b ∧ b ≤ 1000000) && decide (0 ≤ c ∧ c ≤ 1000000) && (hashM [a, b, c] == d)) := by
  simp only [spec_IsOpened.f, spec_l1In_f, Option.bind_some]
  by_cases h1 : 0 ≤ b ∧ b ≤ 1000000
  · by_cases h2 : 0 ≤ c ∧ c ≤ 1000000
    · simp only [h1, h2, and_self, decide_true, ↓reduceIte, Bool.true_and]
      exact Ev.bind (spec_SeedSeal_ev a b c) (Ev.now _)
    · refine ev_of_eq fun k => ?_
      simp [h1, h2]
  · refine ev_of_eq fun k => ?_
    simp [h1]

/-! spec_AreOpened -/
theorem spec_AreOpened_ev (a b c : List Int) : Ev (fun k => spec_AreOpened.f k a b c) (areOpenedM a b c) := by
  simp only [spec_AreOpened.f, spec_l1In_f, Option.bind_some, areOpenedM]
  by_cases h1 : 1 ≤ a.length ∧ a.length ≤ 6
  · have h1' : (1 : Int) ≤ (a.length : Int) ∧ (a.length : Int) ≤ 6 := by omega
    by_cases h2 : b.length = a.length
    · have h2' : (b.length : Int) = (a.length : Int) := by omega
      refine ev_eq (r := decide (c.length = a.length) && openF b c 0 a) ?_ (by simp [h1, h2])
      simp only [h1', h2', and_self, decide_true, ↓reduceIte]
      refine ev_succ ?_
      by_cases h3 : c.length = a.length
      · have h3' : ((c.length : Int) != (a.length : Int)) = false := by simp [h3]
        refine ev_eq (r := openF b c 0 a) ?_ (by simp [h3])
        simp only [spec_AreOpened.j0, h3', Bool.false_eq_true, ↓reduceIte]
        refine loop_int a (by omega) (P := fun i rest => Ev (fun k => (spec_AreOpened.l0 k a b c i)) (openF b c i rest)) ?_ ?_
        · refine ev_succ (ev_of_eq fun k => ?_)
          simp only [spec_AreOpened.l0, Int.lt_irrefl, ↓reduceIte, openF]
        · intro i x rest h0 h4 hx _ hw ih
          refine ev_succ ?_
          have h5 : i < (b.length : Int) := by omega
          have h6 : i < (c.length : Int) := by omega
          simp only [spec_AreOpened.l0, h4, h0, h5, h6, ↓reduceIte, hx, hw, openF]
          refine Ev.bind (spec_IsOpened_ev _ _ _ _) ?_
          cases decide (0 ≤ rd b i ∧ rd b i ≤ 1000000) && decide (0 ≤ rd c i ∧ rd c i ≤ 1000000) && (hashM [i, rd b i, rd c i] == x)
          · simp only [Bool.false_eq_true, ↓reduceIte, Bool.false_and]
            exact Ev.now _
          · simp only [↓reduceIte, Bool.true_and]
            exact ih
      · have h3' : ((c.length : Int) != (a.length : Int)) = true := by simp; omega
        refine ev_of_eq fun k => ?_
        simp only [spec_AreOpened.j0, h3', ↓reduceIte, h3, decide_false, Bool.false_and]
    · have h2' : ¬ (b.length : Int) = (a.length : Int) := by omega
      refine ev_succ (ev_of_eq fun k => ?_)
      simp only [h1', h2', and_self, decide_true, ↓reduceIte, spec_AreOpened.j0]
      simp [h2]
  · have h1' : ¬ ((1 : Int) ≤ (a.length : Int) ∧ (a.length : Int) ≤ 6) := by omega
    refine ev_succ (ev_of_eq fun k => ?_)
    simp only [h1', decide_false, Bool.false_eq_true, ↓reduceIte, spec_AreOpened.j0, h1, Bool.false_and]

/-! spec_Shuffled -/
theorem spec_Shuffled_ev (l : List Int) (seed : Int) (hl : l.length ≤ 1048576) : Ev (fun k => spec_Shuffled.f k l seed) (shuffledM l seed) := by
  have h : ([] : List Int).length + l.length < 17592186044416 := by simp; omega
  simp only [spec_Shuffled.f, Option.bind_some, h, ↓reduceIte, List.nil_append, shuffledM]
  have stop : ∀ (i : Int) (x : List Int), i ≤ 0 → Ev (fun k => spec_Shuffled.l0 k seed x i) x := by
    intro i x hi
    have e0 : ¬ i > 0 := by omega
    refine ev_succ (ev_of_eq fun k => ?_)
    simp only [spec_Shuffled.l0, e0, ↓reduceIte]
  by_cases hz : l.length = 0
  · rw [w64 (by omega) (by omega)]
    have : shufF seed (l.length - 1) l = l := by rw [hz]; rfl
    rw [this]
    exact stop _ _ (by omega)
  · rw [show wrap64 ((l.length : Int) - 1) = ((l.length - 1 : Nat) : Int) by rw [w64 (by omega) (by omega)]; omega]
    suffices H : ∀ (n : Nat) (x : List Int), x.length = l.length → n < l.length → Ev (fun k => spec_Shuffled.l0 k seed x (n : Int)) (shufF seed n x) from H _ l rfl (by omega)
    intro n
    induction n with
    | zero => intro x hx hn; exact stop _ _ (by omega)
    | succ n ih =>
      intro x hx hn
      have e1 : (n : Int) + 1 > 0 := by omega
      have e2 : wrap64 ((n : Int) + 1 + 1) = (n : Int) + 1 + 1 := w64 (by omega) (by omega)
      have e3 : wrap64 ((n : Int) + 1 - 1) = (n : Int) := by rw [w64 (by omega) (by omega)]; omega
      have hm := modM_range (hashM [seed, (n : Int) + 1]) ((n : Int) + 1 + 1) (by omega) (by omega)
      have e4 : (0 : Int) ≤ (n : Int) + 1 := by omega
      have e5 : (n : Int) + 1 < (x.length : Int) := by omega
      have e6 : modM (hashM [seed, (n : Int) + 1]) ((n : Int) + 1 + 1) < (x.length : Int) := by omega
      have e7 := hm.1
      refine ev_succ ?_
      rw [show ((n + 1 : Nat) : Int) = (n : Int) + 1 by omega]
      simp only [spec_Shuffled.l0, e1, ↓reduceIte]
      refine Ev.bind (spec_Hash_ev [seed, (n : Int) + 1] (by simp)) ?_
      simp only [spec_Mod_f, Option.bind_some, e2, e3, e4, e5, e6, e7, ↓reduceIte]
      exact ih (shufStep seed x ((n : Int) + 1)) (by rw [shufStep_length]; exact hx) (by omega)

/-! spec_HasCard -/
theorem spec_HasCard_ev (l : List Int) (c : Int) (hl : l.length ≤ 1099511627776) : Ev (fun k => spec_HasCard.f k l c) (l.contains c) := by
  simp only [spec_HasCard.f]
  refine loop_int l hl (P := fun i rest => Ev (fun k => spec_HasCard.l0 k l c i) (rest.contains c)) ?_ ?_
  · refine ev_succ (ev_of_eq fun k => ?_)
    simp only [spec_HasCard.l0, Int.lt_irrefl, ↓reduceIte, List.contains_nil]
  · intro i x rest h0 h1 hx _ hw ih
    refine ev_succ ?_
    simp only [spec_HasCard.l0, h1, h0, ↓reduceIte, hx, hw]
    by_cases h : x = c
    · refine ev_of_eq fun k => ?_
      simp [h]
    · have h' : ¬ c = x := fun e => h e.symm
      simp only [h, ↓reduceIte]
      refine ev_eq ih ?_
      simp [h']

/-! spec_Missing -/
theorem spec_Missing_ev (l : List Int) (hl : l.length ≤ 1099511627776) : Ev (fun k => spec_Missing.f k l) (missingM l) := by
  simp only [spec_Missing.f, missingM]
  suffices H : ∀ (n : Nat) (out : List Int) (c : Int), 0 ≤ c → c + n = 52 → out.length ≤ c → Ev (fun k => spec_Missing.l0 k l out c) (out ++ missF l n c) by
    simpa using H 52 [] 0 (by omega) (by omega) (by simp)
  intro n
  induction n with
  | zero =>
    intro out c h0 h1 h2
    have e : ¬ c < 52 := by omega
    refine ev_succ (ev_of_eq fun k => ?_)
    simp only [spec_Missing.l0, e, ↓reduceIte, missF, List.append_nil]
  | succ n ih =>
    intro out c h0 h1 h2
    have e : c < 52 := by omega
    have e3 : out.length < 17592186044416 := by omega
    have e4 : wrap64 (c + 1) = c + 1 := w64 (by omega) (by omega)
    refine ev_succ ?_
    simp only [spec_Missing.l0, e, ↓reduceIte, missF]
    refine Ev.bind (spec_HasCard_ev l c hl) ?_
    cases hc : l.contains c
    · simp only [Bool.false_eq_true, ↓reduceIte, e3, e4]
      have := ih (out ++ [c]) (c + 1) (by omega) (by omega) (by simp; omega)
      simpa using this
    · simp only [↓reduceIte, e4]
      exact ih out (c + 1) (by omega) (by omega) (by omega)

/-! spec_FullDeck -/
theorem spec_FullDeck_ev : Ev (fun k => spec_FullDeck.f k) (missingM []) := by
  simp only [spec_FullDeck.f]
  exact Ev.bind (spec_Missing_ev [] (by simp)) (Ev.now _)

/-! spec_JointSeed -/
theorem spec_JointSeed_ev (l : List Int) (hl : l.length ≤ 1099511627776) : Ev (fun k => spec_JointSeed.f k l) (jointM l) := by
  simp only [spec_JointSeed.f, jointM]
  refine loop_int l hl (P := fun i rest => ∀ d, Ev (fun k => spec_JointSeed.l0 k l d i) (rest.foldl jointStep d)) ?_ ?_ 0
  · intro d
    refine ev_succ (ev_of_eq fun k => ?_)
    simp only [spec_JointSeed.l0, Int.lt_irrefl, ↓reduceIte, List.foldl_nil]
  · intro i x rest h0 h1 hx _ hw ih d
    refine ev_succ ?_
    simp only [spec_JointSeed.l0, h1, h0, ↓reduceIte, hx, hw, spec_Mod_f, Option.bind_some]
    exact ih _

/-! spec_JointDeck -/
theorem spec_JointDeck_ev (a b c : List Int) (hb : b.length ≤ 1048576) : Ev (fun k => spec_JointDeck.f k a b c) (jointDeckM a b c) := by
  simp only [spec_JointDeck.f, jointDeckM]
  refine Ev.bind (spec_AreOpened_ev a b c) ?_
  cases areOpenedM a b c
  · exact Ev.now _
  · simp only [↓reduceIte]
    refine Ev.bind spec_FullDeck_ev ?_
    refine Ev.bind (spec_JointSeed_ev b (by omega)) ?_
    exact Ev.bind (spec_Shuffled_ev _ _ (by have := missingM_len []; omega)) (Ev.now _)

/-! impl_IsCard -/
theorem impl_IsCard_f (a : Int) : impl_IsCard.f a = some (isCardM a) := by
  unfold impl_IsCard.f
  rw [impl_InRange_f]
  rfl

/-! impl_IsHand -/
theorem impl_IsHand_f (l : List Int) : impl_IsHand.f l = some (isHandM l) := by
  suffices H : ∀ (rest pre : List Int) (seen : List Bool), seen.length = 52 → (∀ c : Int, 0 ≤ c → c ≤ 51 → seen.getD c.toNat false = pre.contains c) → impl_IsHand.handF seen rest = handP pre rest by
    unfold impl_IsHand.f isHandM
    rw [H l [] _ List.length_replicate (fun c h0 h1 => by rw [getD_replicate_false]; rfl)]
  intro rest
  induction rest with
  | nil => intro pre seen _ _; cases seen <;> rfl
  | cons x rest ih =>
    intro pre seen hs hp
    unfold impl_IsHand.handF handP isCardM
    by_cases h : 0 ≤ x ∧ x ≤ 51
    · simp only [h, and_self, ↓reduceIte, decide_true, Bool.true_and, hp x h.1 h.2]
      cases hc : pre.contains x
      · simp only [Bool.false_eq_true, ↓reduceIte, Bool.not_false, Bool.true_and]
        refine ih _ _ (by simp [hs]) (fun c h0 h1 => ?_)
        by_cases e : c = x
        · subst e
          have : c.toNat < seen.length := by omega
          simp [List.getD_eq_getElem?_getD, List.getElem?_set, this]
        · have e' : ¬ x.toNat = c.toNat := by omega
          have := hp c h0 h1
          simp only [List.getD_eq_getElem?_getD] at this ⊢
          rw [List.getElem?_set_ne e', this]
          simp [e]
      · simp
    · simp [h]

/-! spec_l1Once -/
theorem spec_l1Once_ex (d : List Int) (p h n : Int) (hp : 0 ≤ p) (hd : d.length ≤ 1048576) : ∃ b q g, spec_l1Once.f d p h n = some (b, q, g) ∧ 0 ≤ q := by
  obtain ⟨b, q, g, e, hq, _⟩ := spec_l1Below_ex d p h n hp hd
  exact ⟨_, _, _, by simp only [spec_l1Once.f, e, Option.bind_some]; rfl, hq⟩

/-! spec_l1Int -/
theorem spec_l1Int_ex (d : List Int) (p h : Int) (l : List Int) (hp : 0 ≤ p) (hd : d.length ≤ 1048576) (h1 : 1 ≤ l.length) (h2 : l.length ≤ 256) : ∃ b q g, spec_l1Int.f d p h l = some (b, q, g) ∧ 0 ≤ q := by
  obtain ⟨b, q, g, e, hq, hb⟩ := spec_l1Below_ex d p h (l.length : Int) hp hd
  obtain ⟨hb0, hb1⟩ := hb (by omega) (by omega)
  exact ⟨_, _, _, by simp only [spec_l1Int.f, e, Option.bind_some, hb0, hb1, ↓reduceIte]; rfl, hq⟩

/-! spec_l4Card -/
theorem spec_l4Card_ex (d : List Int) (p h : Int) (hp : 0 ≤ p) (hd : d.length ≤ 1048576) : ∃ b q g, spec_l4Card.f d p h = some (b, q, g) ∧ 0 ≤ q := by
  obtain ⟨b1, q1, g1, e1, hq1, _⟩ := spec_l1Below_ex d p h 52 hp hd
  obtain ⟨b2, q2, g2, e2, hq2, _⟩ := spec_l1Below_ex d q1 g1 52 hq1 hd
  obtain ⟨b3, q3, g3, e3, hq3, _⟩ := spec_l1Below_ex d q2 g2 52 hq2 hd
  obtain ⟨b4, q4, g4, e4, hq4⟩ := spec_l1Int_ex d q3 g3 [b1, b2, b3, 0, 51, 52, (-1), 9223372036854775807] hq3 hd (by simp) (by simp)
  exact ⟨b4, q4, g4, by simp only [spec_l4Card.f, e1, e2, e3, e4, Option.bind_some], hq4⟩

/-! spec_DrawJointSeed -/
theorem spec_DrawJointSeed_ex (d : List Int) (hd : d.length ≤ 1048576) : ∃ a, Ev (fun k => spec_DrawJointSeed.f k d) a ∧ a.length ≤ 16 := by
  obtain ⟨a, b, c, e, _, h, _⟩ := spec_DrawAreOpened_ex d hd
  obtain ⟨g, e1⟩ := spec_l1New_ex d hd
  obtain ⟨o, q, h1, e2, hq⟩ := spec_l1Once_ex d 0 g 4 (by omega) hd
  cases o
  · refine ⟨b, Ev.bind e (Ev.bind e1 (ev_of_eq fun k => ?_)), by omega⟩
    simp only [e2, Option.bind_some, Bool.false_eq_true, ↓reduceIte]
  · obtain ⟨r, q3, g3, e3, _⟩ := spec_l4Card_ex d q h1 hq hd
    have hl : b.length < 17592186044416 := by omega
    refine ⟨b ++ [r], Ev.bind e (Ev.bind e1 (ev_of_eq fun k => ?_)), by simp; omega⟩
    simp only [e2, e3, hl, Option.bind_some, ↓reduceIte]

/-! spec_DrawSeedSeal -/
theorem spec_DrawSeedSeal_ex (d : List Int) (hd : d.length ≤ 1048576) : ∃ a b c, Ev (fun k => spec_DrawSeedSeal.f k d) (a, b, c) := by
  obtain ⟨g, e⟩ := spec_l1New_ex d hd
  obtain ⟨b1, q1, g1, e1, hq1, _⟩ := spec_l1Below_ex d 0 g 6 (by omega) hd
  obtain ⟨b2, q2, g2, e2, hq2⟩ := spec_l1Int_ex d q1 g1 [0, 77, 1000000, 1000001, (-1)] hq1 hd (by simp) (by simp)
  obtain ⟨b3, q3, g3, e3, hq3⟩ := spec_l1Int_ex d q2 g2 [0, 5, 1000000, 1000001] hq2 hd (by simp) (by simp)
  refine ⟨b1, b2, b3, ?_⟩
  simp only [spec_DrawSeedSeal.f]
  refine Ev.bind e ?_
  exact ev_of_eq fun k => by simp only [e1, e2, e3, Option.bind_some]

/-! spec_DrawIsOpened -/
theorem spec_DrawIsOpened_ex (d : List Int) (hd : d.length ≤ 1048576) : ∃ a b c e, Ev (fun k => spec_DrawIsOpened.f k d) (a, b, c, e) := by
  obtain ⟨a, b, c, e⟩ := spec_DrawSeedSeal_ex d hd
  obtain ⟨g, e1⟩ := spec_l1New_ex d hd
  obtain ⟨o, q, h, e2, _⟩ := spec_l1Once_ex d 0 g 3 (by omega) hd
  refine ⟨a, b, c, if o = true then wrap64 (hashM [a, b, c] + 1) else hashM [a, b, c], ?_⟩
  simp only [spec_DrawIsOpened.f]
  refine Ev.bind e ?_
  refine Ev.bind e1 ?_
  refine Ev.bind (spec_SeedSeal_ev a b c) ?_
  refine ev_of_eq fun k => ?_
  simp only [e2, Option.bind_some]
  cases o <;> rfl

theorem handP_of : ∀ (l pre : List Int), (∀ x ∈ l, 0 ≤ x ∧ x ≤ 51) → l.Nodup → (∀ x ∈ l, x ∉ pre) → handP pre l = true := by
  intro l
  induction l with
  | nil => intro pre _ _ _; unfold handP; rfl
  | cons x l ih =>
    intro pre h1 h2 h3
    have hx := h1 x (by simp)
    have hn := h3 x (by simp)
    rw [List.nodup_cons] at h2
    unfold handP
    have e1 : isCardM x = true := by unfold isCardM; simp [hx]
    have e2 : pre.contains x = false := by simp [hn]
    rw [e1, e2, ih (pre ++ [x]) (fun y hy => h1 y (by simp [hy])) h2.2 ?_]
    · rfl
    · intro y hy hy2
      rw [List.mem_append] at hy2
      rcases hy2 with hy2 | hy2
      · exact h3 y (by simp [hy]) hy2
      · rw [List.mem_singleton] at hy2; subst hy2; exact h2.1 hy
theorem swap_perm (l : List Int) (i j : Nat) (hi : i < l.length) (hj : j < l.length) : ((l.set i (l.getD j 0)).set j (l.getD i 0)).Perm l := by
  have a : l.getD j 0 = l[j] := by simp [List.getD_eq_getElem?_getD, List.getElem?_eq_getElem hj]
  have b : l.getD i 0 = l[i] := by simp [List.getD_eq_getElem?_getD, List.getElem?_eq_getElem hi]
  rw [a, b]
  exact List.set_set_perm hi hj
theorem shufStep_perm (seed : Int) (l : List Int) (i : Int) (h0 : 0 ≤ i) (h1 : i < (l.length : Int)) (hl : l.length ≤ 1048576) : (shufStep seed l i).Perm l := by
  have hm := modM_range (hashM [seed, i]) (i + 1) (by omega) (by omega)
  unfold shufStep
  exact swap_perm l i.toNat (modM (hashM [seed, i]) (i + 1)).toNat (by omega) (by omega)
theorem shufF_perm (seed : Int) : ∀ (n : Nat) (l : List Int), n < l.length → l.length ≤ 1048576 → (shufF seed n l).Perm l := by
  intro n
  induction n with
  | zero => intro l _ _; exact List.Perm.refl _
  | succ n ih =>
    intro l hn hl
    unfold shufF
    refine (ih _ (by rw [shufStep_length]; omega) (by rw [shufStep_length]; omega)).trans (shufStep_perm seed l ((n : Int) + 1) (by omega) (by omega) hl)
theorem full_eq : missingM [] = [0,1,2,3,4,5,6,7,8,9,10,11,12,13,14,15,16,17,18,19,20,21,22,23,24,25,26,27,28,29,30,31,32,33,34,35,36,37,38,39,40,41,42,43,44,45,46,47,48,49,50,51] := by decide
theorem deck_hand (s : Int) : (shuffledM (missingM []) s).length = 52 ∧ isHandM (shuffledM (missingM []) s) = true := by
  have hl : (missingM []).length = 52 := by rw [full_eq]; rfl
  have hp : (shuffledM (missingM []) s).Perm (missingM []) := by
    rw [shuffledM]
    exact shufF_perm s _ _ (by omega) (by omega)
  refine ⟨hp.length_eq.trans hl, handP_of _ _ ?_ ?_ (by simp)⟩
  · intro x hx
    have := hp.mem_iff.mp hx
    rw [full_eq] at this
    simp only [List.mem_cons, List.not_mem_nil, or_false] at this
    omega
  · rw [hp.nodup_iff, full_eq]
    decide
theorem jointStep_eq (n s : Int) (h0 : 0 ≤ n) (h1 : n < 1000001) : jointStep n s = (n + modM s 1000001) % 1000001 := by
  have := modM_range s 1000001 (by omega) (by omega)
  unfold jointStep
  rw [w64 (by omega) (by omega), Int.tmod_eq_emod_of_nonneg (by omega)]
theorem jointF_eq : ∀ (l : List Int) (n : Int), 0 ≤ n → n < 1000001 → l.foldl jointStep n = (n + (l.map (fun s => modM s 1000001)).sum) % 1000001 := by
  intro l
  induction l with
  | nil => intro n h0 h1; simp; omega
  | cons x l ih =>
    intro n h0 h1
    rw [List.foldl_cons, jointStep_eq n x h0 h1, ih _ (by omega) (by omega), List.map_cons, List.sum_cons]
    omega
theorem jointM_rev (l : List Int) : jointM l.reverse = jointM l := by
  unfold jointM
  rw [jointF_eq _ 0 (by omega) (by omega), jointF_eq _ 0 (by omega) (by omega), List.map_reverse, List.sum_reverse]
theorem jointM_range (l : List Int) : 0 ≤ jointM l ∧ jointM l ≤ 1000000 := by
  unfold jointM
  rw [jointF_eq _ 0 (by omega) (by omega)]
  omega
theorem FnSeals_l0 (d : List Int) (hd : d.length ≤ 1048576) (l : List Int) (hl : l.length ≤ 16) : ∀ (pre : List Int) (acc : List Int) (i : Int), pre <+: l → i = (pre.length : Int) - 1 → acc ++ pre.reverse = l.reverse → Ev (fun k => laws_FnSeals.l0 k d l acc i) true := by
  intro pre
  have key : ∀ (n : Nat) (pre acc : List Int) (i : Int), pre.length = n → pre <+: l → i = (pre.length : Int) - 1 → acc ++ pre.reverse = l.reverse → Ev (fun k => laws_FnSeals.l0 k d l acc i) true := by
    intro n
    induction n with
    | zero =>
      intro pre acc i hn hpre hi hacc
      have : pre = [] := List.length_eq_zero_iff.mp hn
      subst this
      simp only [List.reverse_nil, List.append_nil] at hacc
      subst hacc
      have c : ¬ i ≥ 0 := by simp at hi; omega
      obtain ⟨a, b, s, e, he⟩ := spec_DrawIsOpened_ex d hd
      refine ev_succ ?_
      simp only [laws_FnSeals.l0, c, ↓reduceIte]
      refine Ev.bind (impl_JointSeed_ev l (by omega)) ?_
      refine Ev.bind he ?_
      refine Ev.bind (impl_JointSeed_ev l.reverse (by simp; omega)) ?_
      have hr := jointM_range l
      have h0 : jointM l ≥ 0 := hr.1
      simp only [jointM_rev, h0, hr.2, ↓reduceIte]
      refine Ev.bind (impl_IsOpened_ev a b s e) ?_
      by_cases o : (decide (0 ≤ b ∧ b ≤ 1000000) && decide (0 ≤ s ∧ s ≤ 1000000) && (hashM [a, b, s] == e)) = true
      · simp only [o, ↓reduceIte]
        rw [Bool.and_eq_true] at o
        exact Ev.bind (impl_SeedSeal_ev a b s) (ev_of_eq fun k => congrArg some o.2)
      · exact ev_of_eq fun k => by simp only [o, Bool.false_eq_true, ↓reduceIte]
    | succ n ih =>
      intro pre acc i hn hpre hi hacc
      obtain ⟨x, q, rfl⟩ : ∃ x q, pre = q ++ [x] := by
        have hne : pre ≠ [] := by intro h; rw [h] at hn; simp at hn
        exact ⟨pre.getLast hne, pre.dropLast, (List.dropLast_concat_getLast hne).symm⟩
      obtain ⟨suf, hsuf⟩ := hpre
      have hlen : l.length = q.length + 1 + suf.length := by rw [← hsuf]; simp; omega
      have hi' : i = (q.length : Int) := by rw [hi]; simp
      have c : i ≥ 0 := by omega
      have c0 : 0 ≤ i := by omega
      have c1 : i < (l.length : Int) := by omega
      have hacclen : acc.length ≤ l.length := by have := congrArg List.length hacc; simp at this; omega
      have c2 : acc.length < 17592186044416 := by omega
      have hx : rd l i = x := by
        show l.getD i.toNat 0 = x
        rw [← hsuf, List.append_assoc]
        exact getD_mid q _ i hi' x 0
      refine ev_succ ?_
      simp only [laws_FnSeals.l0, c, c0, c1, c2, hx, ↓reduceIte]
      rw [w64 (by omega) (by omega)]
      refine ih q (acc ++ [x]) (i - 1) (by simpa using hn) ⟨[x] ++ suf, by rw [← hsuf]; simp⟩ (by omega) ?_
      rw [← hacc]; simp
  exact fun acc i h1 h2 h3 => key pre.length pre acc i rfl h1 h2 h3
theorem FnSeals_j0 (d : List Int) (hd : d.length ≤ 1048576) : Ev (fun k => laws_FnSeals.j0 k d false) true := by
  obtain ⟨l, e, hl⟩ := spec_DrawJointSeed_ex d hd
  refine ev_succ ?_
  simp only [laws_FnSeals.j0, Bool.false_eq_true, ↓reduceIte]
  refine Ev.bind e ?_
  rw [w64 (by omega) (by omega)]
  exact FnSeals_l0 d hd l hl l [] _ (List.prefix_refl _) rfl (by simp)
theorem FnSeals : laws_FnSeals.Pure := by
  intro d _ _ _
  refine Ev.rounds (g := fun k => laws_FnSeals.f k d) ?_
  by_cases hb : (d.length : Int) > 1048576
  · exact ev_of_eq fun k => by simp only [laws_FnSeals.f, laws_big.f, Option.bind_some, hb, decide_true, ↓reduceIte]
  have hd : d.length ≤ 1048576 := by omega
  simp only [laws_FnSeals.f, laws_big.f, Option.bind_some, hb, decide_false, Bool.false_eq_true, ↓reduceIte]
  obtain ⟨a, b, c, e, ha, hb', hc⟩ := spec_DrawJointDeck_ex d hd
  refine Ev.bind e ?_
  refine Ev.bind (impl_JointDeck_ev a b c (by omega)) ?_
  refine Ev.bind (spec_JointDeck_ev a b c (by omega)) ?_
  simp only [bne_self_eq_false, Bool.false_eq_true, ↓reduceIte]
  refine Ev.bind (impl_AreOpened_ev a b c) ?_
  cases o : areOpenedM a b c
  · have hj : jointDeckM a b c = ([], false) := by rw [jointDeckM, if_neg (by rw [o]; decide)]
    simp only [hj, bne_self_eq_false, Bool.false_eq_true, ↓reduceIte, List.length_nil]
    exact FnSeals_j0 d hd
  · have hj : jointDeckM a b c = (shuffledM (missingM []) (jointM b), true) := by rw [jointDeckM, if_pos o]
    obtain ⟨h1, h2⟩ := deck_hand (jointM b)
    have h1' : ((shuffledM (missingM []) (jointM b)).length : Int) = 52 := by omega
    simp only [hj, bne_self_eq_false, Bool.false_eq_true, ↓reduceIte, h1', impl_IsHand_f, h2, Option.bind_some]
    exact FnSeals_j0 d hd

end Go.Proofs.Ytkhgeockdjjhmaa.Pure
