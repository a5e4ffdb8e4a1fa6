/- The program's PerThousand answers what the reference's answers, for all arguments. No condition but those that the statement itself names. -/
import Derived.Test.YtjkjjpbapggpnaaPFnExactPerThousandx2
import Derived.Test.YtjkjjpbapggpnaaLib
import Derived.Test.YtjkjjpbapggpnaaLibC
namespace Go.Proofs.Ytjkjjpbapggpnaa.Pure
open Go.RowKit Go.Proofs.Ytjkjjpbapggpnaa.PFnExactPerThousand Go.Proofs.YtjkjjpbapggpnaaW.PrintWords Go.Proofs.YtjkjjpbapggpnaaW.PrintLast Go.Proofs.YtjkjjpbapggpnaaW.PrintMore Go.Proofs.Ytjkjjpbapggpnaa.Lib
set_option linter.unusedVariables false
set_option linter.unusedSimpArgs false

/-! spec_l1In -/
theorem spec_l1In_f (a b c : Int) : spec_l1In.f a b c = some (decide (b ≤ a ∧ a ≤ c)) := by
  unfold spec_l1In.f
  by_cases h : b ≤ a <;> simp [h]

/-! spec_l19Ok -/
theorem spec_l19Ok_f (u g d w : Int) : spec_l19Ok.f u g d w = some (okM u g d w) := by
  unfold spec_l19Ok.f okM
  simp only [spec_l1In_f, Option.bind_some]
  by_cases h1 : 0 ≤ u ∧ u ≤ 52 <;> by_cases h2 : 0 ≤ g ∧ g ≤ u <;> by_cases h3 : 0 ≤ d ∧ d ≤ 10 <;> simp [h1, h2, h3]

/-! spec_Min -/
theorem spec_Min_f (a b : Int) : spec_Min.f a b = some (mn a b) := by
  unfold spec_Min.f mn
  split <;> rfl

/-! spec_Choose -/
theorem spec_Choose_inner (n k i : Nat) (hn : n ≤ 52) (hk : k ≤ n) (hi : i < n) (r : Int) (H : Ev (fun x => spec_Choose.l0 x n k (rowF k i 0) ((i : Int) + 1 + 1)) r) :
    ∀ j : Nat, j ≤ k → Ev (fun x => spec_Choose.l1 x n k (rowF k i j) ((i : Int) + 1) j) r := by
  intro j
  induction j with
  | zero =>
    intro _
    refine ev_succ ?_
    have e : ¬ ((0 : Nat) : Int) ≥ 1 := by omega
    simp only [spec_Choose.l1, e, ↓reduceIte]
    rw [w64 (n := (i : Int) + 1 + 1) (by omega) (by omega)]
    exact H
  | succ j ih =>
    intro hj
    refine ev_succ ?_
    have e1 : ((j + 1 : Nat) : Int) ≥ 1 := by omega
    have e2 : (0 : Int) ≤ ((j + 1 : Nat) : Int) := by omega
    have e3 : ((j + 1 : Nat) : Int) < ((rowF k i (j + 1)).length : Int) := by rw [rowF_length]; omega
    have e4 : wrap64 (((j + 1 : Nat) : Int) - 1) = (j : Int) := by rw [w64 (by omega) (by omega)]; omega
    have e5 : (0 : Int) ≤ (j : Int) := by omega
    have e6 : (j : Int) < ((rowF k i (j + 1)).length : Int) := by rw [rowF_length]; omega
    have b1 := binom_le52 (i + 1) (j + 1) (by omega)
    have b2 := binom_succ i j
    have v : wrap64 (rd (rowF k i (j + 1)) ((j + 1 : Nat) : Int) + rd (rowF k i (j + 1)) (j : Int)) = ((binom (i + 1) (j + 1) : Nat) : Int) := by
      rw [rowF_rd k i (j + 1) _ (by omega) (by omega) (by omega), rowF_rd k i (j + 1) _ (by omega) (by omega) (by omega)]
      simp only [Int.toNat_natCast]
      rw [w64 (by omega) (by omega)]
      omega
    simp only [spec_Choose.l1, e1, e2, e3, e4, e5, e6, ↓reduceIte, v, Int.toNat_natCast]
    rw [rowF_set k i j hj _ rfl]
    exact ih (by omega)
theorem spec_Choose_outer (n k : Nat) (hn : n ≤ 52) (hk : k ≤ n) : ∀ (m i : Nat), i + m = n → Ev (fun x => spec_Choose.l0 x n k (rowF k i k) ((i : Int) + 1)) ((binom n k : Nat) : Int) := by
  intro m
  induction m with
  | zero =>
    intro i hi
    obtain rfl : i = n := by omega
    refine ev_succ (ev_of_eq fun x => ?_)
    have e : ¬ (i : Int) + 1 ≤ (i : Int) := by omega
    have e1 : (0 : Int) ≤ (k : Int) := by omega
    have e2 : (k : Int) < ((rowF k i k).length : Int) := by rw [rowF_length]; omega
    simp only [spec_Choose.l0, e, e1, e2, ↓reduceIte]
    rw [rowF_rd k i k _ (by omega) (by omega) (by omega), Int.toNat_natCast]
  | succ m ih =>
    intro i hi
    refine ev_succ ?_
    have e : (i : Int) + 1 ≤ (n : Int) := by omega
    simp only [spec_Choose.l0, e, ↓reduceIte, spec_Min_f, Option.bind_some]
    rw [show (i : Int) + 1 = ((i + 1 : Nat) : Int) by omega, mn_toNat, rowF_min]
    have := ih (i + 1) (by omega)
    rw [← rowF_next] at this
    exact spec_Choose_inner n k i hn hk (by omega) _ this _ (by omega)
theorem spec_Choose_ev (n k : Int) : Ev (fun x => spec_Choose.f x n k) (chooseM n k) := by
  simp only [spec_Choose.f, spec_l1In_f, Option.bind_some]
  by_cases h1 : 0 ≤ n ∧ n ≤ 52
  · simp only [h1, and_self, decide_true, ↓reduceIte]
    refine ev_succ ?_
    by_cases h2 : 0 ≤ k ∧ k ≤ n
    · obtain ⟨N, rfl⟩ := Int.eq_ofNat_of_zero_le h1.1
      obtain ⟨K, rfl⟩ := Int.eq_ofNat_of_zero_le h2.1
      have e0 : wrap64 ((K : Int) + 1) = ((K + 1 : Nat) : Int) := by rw [w64 (by omega) (by omega)]; rfl
      have e1 : (0 : Int) ≤ ((K + 1 : Nat) : Int) := by omega
      have e2 : K + 1 ≤ 35184372088832 := by omega
      have e3 : (0 : Int) < ((List.replicate (K + 1) (0 : Int)).length : Int) := by rw [List.length_replicate]; omega
      have e5 : chooseM (N : Int) (K : Int) = ((binom N K : Nat) : Int) := by
        unfold chooseM
        rw [if_pos (by omega)]
        simp
      simp only [spec_Choose.j0, h2, and_self, decide_true, Bool.not_true, Bool.false_eq_true, ↓reduceIte, e0, e1, Int.toNat_natCast, e2, Option.bind_some, e3, Int.toNat_zero, e5]
      rw [rowF_first]
      exact spec_Choose_outer N K (by omega) (by omega) N 0 (by omega)
    · have e : chooseM n k = 0 := by unfold chooseM; rw [if_neg (by omega)]
      refine ev_of_eq fun x => ?_
      simp only [spec_Choose.j0, h2, decide_false, Bool.not_false, ↓reduceIte, e]
  · have e : chooseM n k = 0 := by unfold chooseM; rw [if_neg (by omega)]
    refine ev_succ (ev_of_eq fun x => ?_)
    simp only [h1, decide_false, Bool.false_eq_true, ↓reduceIte, spec_Choose.j0, e]

/-! spec_WaysWith -/
theorem spec_WaysWith_ev (u g d w : Int) : Ev (fun k => spec_WaysWith.f k u g d w) (waysM u g d w) := by
  simp only [spec_WaysWith.f, spec_l19Ok_f, Option.bind_some, waysM]
  by_cases h : okM u g d w = true
  · simp only [h, ↓reduceIte]
    exact Ev.bind (spec_Choose_ev _ _) (Ev.bind (spec_Choose_ev _ _) (Ev.now _))
  · simp only [h, ↓reduceIte, Bool.false_eq_true]
    exact Ev.now _

/-! spec_WaysAtLeast -/
theorem spec_WaysAtLeast_ev (u g d w : Int) (h1 : (Lit.int .i64 d).wf = true) (h2 : (Lit.int .i64 w).wf = true) : Ev (fun k => spec_WaysAtLeast.f k u g d w) (atLeastM u g d w) := by
  simp only [spec_WaysAtLeast.f, atLeastM]
  by_cases h : okM u g d w = true
  · rw [if_pos h]
    have hw : 0 ≤ w ∧ w ≤ d ∧ d ≤ 10 := by unfold okM at h; simp at h; omega
    suffices H : ∀ (n : Nat) (acc v : Int), w ≤ v → v + n = d + 1 → Ev (fun k => spec_WaysAtLeast.l0 k u g d w acc v) (atLeastF u g d n acc v) from H _ 0 w (by omega) (by omega)
    intro n
    induction n with
    | zero =>
      intro acc v _ hv
      have e : ¬ v ≤ d := by omega
      refine ev_succ (ev_of_eq fun k => ?_)
      simp only [spec_WaysAtLeast.l0, e, ↓reduceIte, atLeastF]
    | succ n ih =>
      intro acc v hv0 hv
      have e : v ≤ d := by omega
      refine ev_succ ?_
      simp only [spec_WaysAtLeast.l0, e, ↓reduceIte, spec_l19Ok_f, Option.bind_some, h, atLeastF]
      refine Ev.bind (spec_WaysWith_ev _ _ _ _) ?_
      have e2 : wrap64 (v + 1) = v + 1 := w64 (by omega) (by omega)
      simp only [e2]
      exact ih _ _ (by omega) (by omega)
  · simp only [h, ↓reduceIte, Bool.false_eq_true]
    refine ev_succ (ev_of_eq fun k => ?_)
    simp only [spec_WaysAtLeast.l0, spec_l19Ok_f, Option.bind_some, h, ↓reduceIte, Bool.false_eq_true]
    split <;> rfl

/-! spec_PerThousand -/
theorem spec_PerThousand_ev (u g d w : Int) (h1 : (Lit.int .i64 d).wf = true) (h2 : (Lit.int .i64 w).wf = true) : Ev (fun k => spec_PerThousand.f k u g d w) (perM u g d w) := by
  simp only [spec_PerThousand.f, spec_l19Ok_f, Option.bind_some, perM]
  by_cases h : okM u g d w = true
  · simp only [h, ↓reduceIte]
    refine Ev.bind (spec_Choose_ev u d) ?_
    refine ev_succ ?_
    by_cases hc : chooseM u d = 0
    · refine ev_of_eq fun k => ?_
      simp [spec_PerThousand.j0, hc]
    · have hc' : (chooseM u d == 0) = false := by simp [hc]
      simp only [spec_PerThousand.j0, hc', hc, Bool.false_eq_true, ↓reduceIte]
      refine Ev.bind (spec_WaysAtLeast_ev u g d w h1 h2) ?_
      refine Ev.bind (spec_Choose_ev u d) ?_
      simp only [hc, ↓reduceIte]
      exact Ev.now _
  · simp only [h, Bool.false_eq_true, ↓reduceIte]
    refine ev_succ (ev_of_eq fun k => ?_)
    simp [spec_PerThousand.j0]

/-! impl_InRange -/
theorem impl_InRange_f (a b c : Int) : impl_InRange.f a b c = some (decide (b ≤ a ∧ a ≤ c)) := by
  unfold impl_InRange.f
  by_cases h : b ≤ a <;> simp [h]

/-! impl_Choose -/
theorem impl_Choose_loop (n k m : Nat) (hn : n ≤ 52) (hk : m ≤ n) : ∀ (d i : Nat), i + d = m → Ev (fun x => impl_Choose.l0 x n ((binom n i : Nat) : Int) m i) ((binom n m : Nat) : Int) := by
  intro d
  induction d with
  | zero =>
    intro i hi
    obtain rfl : i = m := by omega
    refine ev_succ (ev_of_eq fun x => ?_)
    simp only [impl_Choose.l0, Int.lt_irrefl, ↓reduceIte]
  | succ d ih =>
    intro i hi
    refine ev_succ ?_
    have e1 : (i : Int) < (m : Int) := by omega
    have e2 : wrap64 ((i : Int) + 1) = ((i + 1 : Nat) : Int) := by rw [w64 (by omega) (by omega)]; omega
    have e3 : ¬ ((i + 1 : Nat) : Int) = 0 := by omega
    have e4 : wrap64 ((n : Int) - (i : Int)) = ((n - i : Nat) : Int) := by rw [w64 (by omega) (by omega)]; omega
    have b := binom_le52 n i hn
    have b1 := binom_le52 n (i + 1) hn
    have s := binom_step n i
    have s1 : binom n i * (n - i) = binom n (i + 1) * (i + 1) := by
      rw [Nat.mul_sub, Nat.mul_comm _ n, Nat.mul_comm _ i, Nat.mul_comm _ (i + 1)]
      omega
    have s2 : binom n i * (n - i) ≤ 4503599627370496 * 52 := Nat.mul_le_mul b (by omega)
    have e5 : wrap64 (((binom n i : Nat) : Int) * ((n - i : Nat) : Int)) = ((binom n (i + 1) * (i + 1) : Nat) : Int) := by
      rw [← Int.natCast_mul, s1] at *
      exact w64 (by omega) (by omega)
    have e6 : wrap64 (Int.tdiv ((binom n (i + 1) * (i + 1) : Nat) : Int) ((i + 1 : Nat) : Int)) = ((binom n (i + 1) : Nat) : Int) := by
      rw [← Int.ofNat_tdiv, Nat.mul_div_cancel _ (by omega)]
      exact w64 (by omega) (by omega)
    simp only [impl_Choose.l0, e1, e2, e3, e4, e5, e6, ↓reduceIte]
    exact ih (i + 1) (by omega)
theorem impl_Choose_ev (n k : Int) : Ev (fun x => impl_Choose.f x n k) (chooseM n k) := by
  simp only [impl_Choose.f, impl_InRange_f, Option.bind_some]
  by_cases h1 : 0 ≤ n ∧ n ≤ 52
  · simp only [h1, and_self, decide_true, ↓reduceIte]
    refine ev_succ ?_
    by_cases h2 : 0 ≤ k ∧ k ≤ n
    · obtain ⟨N, rfl⟩ := Int.eq_ofNat_of_zero_le h1.1
      obtain ⟨K, rfl⟩ := Int.eq_ofNat_of_zero_le h2.1
      have e0 : mn (K : Int) (wrap64 ((N : Int) - (K : Int))) = ((min K (N - K) : Nat) : Int) := by
        rw [w64 (by omega) (by omega), show (N : Int) - (K : Int) = ((N - K : Nat) : Int) by omega, mn_toNat]
      have e5 : chooseM (N : Int) (K : Int) = ((binom N (min K (N - K)) : Nat) : Int) := by
        unfold chooseM
        rw [if_pos (by omega)]
        simp only [Int.toNat_natCast]
        by_cases h : K ≤ N - K
        · rw [Nat.min_eq_left h]
        · rw [Nat.min_eq_right (by omega)]
          have := binom_symm K (N - K)
          rw [show K + (N - K) = N by omega] at this
          rw [this]
      simp only [impl_Choose.j0, h2, and_self, decide_true, Bool.not_true, Bool.false_eq_true, ↓reduceIte, e0, e5]
      have := impl_Choose_loop N K (min K (N - K)) (by omega) (by omega) (min K (N - K)) 0 (by omega)
      rw [binom_zero] at this
      exact this
    · have e : chooseM n k = 0 := by unfold chooseM; rw [if_neg (by omega)]
      refine ev_of_eq fun x => ?_
      simp only [impl_Choose.j0, h2, decide_false, Bool.not_false, ↓reduceIte, e]
  · have e : chooseM n k = 0 := by unfold chooseM; rw [if_neg (by omega)]
    refine ev_succ (ev_of_eq fun x => ?_)
    simp only [h1, decide_false, Bool.false_eq_true, ↓reduceIte, impl_Choose.j0, e]

/-! impl_areChances -/
theorem impl_areChances_f (u g d w : Int) : impl_areChances.f u g d w = some (okM u g d w) := by
  unfold impl_areChances.f okM
  simp only [impl_InRange_f, Option.bind_some]
  by_cases h1 : 0 ≤ u ∧ u ≤ 52 <;> by_cases h2 : 0 ≤ g ∧ g ≤ u <;> by_cases h3 : 0 ≤ d ∧ d ≤ 10 <;> simp [h1, h2, h3]

/-! impl_WaysWith -/
theorem impl_WaysWith_ev (u g d w : Int) : Ev (fun k => impl_WaysWith.f k u g d w) (waysM u g d w) := by
  simp only [impl_WaysWith.f, impl_areChances_f, Option.bind_some, waysM]
  by_cases h : okM u g d w = true
  · simp only [h, ↓reduceIte]
    exact Ev.bind (impl_Choose_ev _ _) (Ev.bind (impl_Choose_ev _ _) (Ev.now _))
  · simp only [h, ↓reduceIte, Bool.false_eq_true]
    exact Ev.now _

/-! impl_WaysAtLeast -/
theorem impl_WaysAtLeast_ev (u g d w : Int) : Ev (fun k => impl_WaysAtLeast.f k u g d w) (atLeastM u g d w) := by
  simp only [impl_WaysAtLeast.f, impl_areChances_f, Option.bind_some, atLeastM]
  by_cases h : okM u g d w = true
  · simp only [h, ↓reduceIte]
    have hw : 0 ≤ w ∧ w ≤ d ∧ d ≤ 10 := by unfold okM at h; simp at h; omega
    suffices H : ∀ (n : Nat) (acc v : Int), w ≤ v → v + n = d + 1 → Ev (fun k => impl_WaysAtLeast.l0 k u g d acc v) (atLeastF u g d n acc v) from H _ 0 w (by omega) (by omega)
    intro n
    induction n with
    | zero =>
      intro acc v _ hv
      have e : ¬ v ≤ d := by omega
      refine ev_succ (ev_of_eq fun k => ?_)
      simp only [impl_WaysAtLeast.l0, e, ↓reduceIte, atLeastF]
    | succ n ih =>
      intro acc v hv0 hv
      have e : v ≤ d := by omega
      refine ev_succ ?_
      simp only [impl_WaysAtLeast.l0, e, ↓reduceIte, atLeastF]
      refine Ev.bind (impl_WaysWith_ev _ _ _ _) ?_
      have e2 : wrap64 (v + 1) = v + 1 := w64 (by omega) (by omega)
      simp only [e2]
      exact ih _ _ (by omega) (by omega)
  · simp only [h, ↓reduceIte, Bool.false_eq_true]
    exact Ev.now _

/-! impl_PerThousand -/
theorem impl_PerThousand_ev (u g d w : Int) : Ev (fun k => impl_PerThousand.f k u g d w) (perM u g d w) := by
  simp only [impl_PerThousand.f, perM]
  refine Ev.bind (impl_Choose_ev u d) ?_
  by_cases hc : chooseM u d = 0
  · refine ev_of_eq fun k => ?_
    simp [hc]
  · simp only [hc, ↓reduceIte]
    refine Ev.bind (impl_WaysAtLeast_ev u g d w) ?_
    refine ev_of_eq fun k => ?_
    by_cases h : okM u g d w = true
    · simp [h]
    · simp only [atLeastM, h, Bool.false_eq_true, ↓reduceIte]
      simp [wrap64]

-- uses: LibC
theorem FnExactPerThousand : laws_FnExactPerThousand.Pure := by
  intro a b c d _ _ hc hd
  refine Ev.rounds (g := fun k => laws_FnExactPerThousand.f k a b c d) ?_
  simp only [laws_FnExactPerThousand.f]
  exact Ev.bind (spec_PerThousand_ev a b c d hc hd) (Ev.bind (impl_PerThousand_ev a b c d) (ev_of_eq fun k => by simp))

end Go.Proofs.Ytjkjjpbapggpnaa.Pure
