/- The program's FnChances answers what the reference's answers, for all arguments. No condition but those that the statement itself names. -/
import Derived.Test.YtkhgeockdjjhmaaQFnChancesx4
import Derived.Test.YtkhgeockdjjhmaaLib
import Derived.Test.YtkhgeockdjjhmaaLibC
import Derived.Test.YtkhgeockdjjhmaaLibM
namespace Go.Proofs.Ytkhgeockdjjhmaa.Pure
open Go.RowKit Go.Proofs.Ytkhgeockdjjhmaa.QFnChances Go.Proofs.YtkhgeockdjjhmaaW.PrintWords Go.Proofs.YtkhgeockdjjhmaaW.PrintLast Go.Proofs.YtkhgeockdjjhmaaW.PrintMore Go.Proofs.Ytkhgeockdjjhmaa.Lib
set_option linter.unusedVariables false
set_option linter.unusedSimpArgs false

/-! spec_l1New -/
theorem spec_l1New_ex (d : List Int) (hd : d.length ≤ 1048576) : ∃ g, Ev (fun k => spec_l1New.f k d) (d, 0, g) := by
  simp only [spec_l1New.f]
  generalize wrap64 (193017 + (d.length : Int)) = h
  revert h
  refine loop_int d (by omega) (P := fun i rest => ∀ h, ∃ g, Ev (fun k => spec_l1New.l0 k d h i) (d, 0, g)) ?_ ?_
  · intro h
    exact ⟨h, ev_succ (ev_of_eq fun k => by simp only [spec_l1New.l0, Int.lt_irrefl, ↓reduceIte])⟩
  · intro i x rest h0 h1 hx _ hw ih h
    by_cases c : i < 4000
    · obtain ⟨g, e⟩ := ih (Go.bits .and .i64 (wrap64 ((wrap64 ((wrap64 (h * 137)) + (wrap64 (rd d i)))) + 11)) 1073741823)
      refine ⟨g, ev_succ ?_⟩
      simp only [spec_l1New.l0, h1, h0, c, hw, ↓reduceIte]
      exact e
    · exact ⟨h, ev_succ (ev_of_eq fun k => by simp only [spec_l1New.l0, h1, c, ↓reduceIte])⟩

/-! spec_l1Byte -/
set_option maxRecDepth 20000 in
theorem bits_and255 (x : Int) : 0 ≤ Go.bits .and .i64 x 255 := by
  have h : ((BitVec.ofInt 64 x) &&& (BitVec.ofInt 64 255)).toNat ≤ 255 := by
    rw [BitVec.toNat_and]; exact Nat.and_le_right
  show 0 ≤ Go.IntKind.i64.wrap (((BitVec.ofInt 64 x &&& BitVec.ofInt 64 255).toNat : Nat) : Int)
  generalize ((BitVec.ofInt 64 x) &&& (BitVec.ofInt 64 255)).toNat = n at h
  have k : ∀ m : Fin 256, 0 ≤ Go.IntKind.i64.wrap ((m.val : Nat) : Int) := by decide
  exact k ⟨n, by omega⟩
theorem spec_l1Byte_ex (d : List Int) (p h : Int) (hp : 0 ≤ p) (hd : d.length ≤ 1048576) : ∃ b q g, spec_l1Byte.f d p h = some (b, q, g) ∧ 0 ≤ b ∧ 0 ≤ q := by
  by_cases c : p < (d.length : Int)
  · refine ⟨_, _, _, by simp only [spec_l1Byte.f, c, hp, ↓reduceIte]; rfl, bits_and255 _, ?_⟩
    rw [w64 (by omega) (by omega)]; omega
  · exact ⟨_, _, _, by simp only [spec_l1Byte.f, c, ↓reduceIte]; rfl, bits_and255 _, hp⟩

/-! spec_l1Below -/
theorem spec_l1Below_ex (d : List Int) (p h n : Int) (hp : 0 ≤ p) (hd : d.length ≤ 1048576) : ∃ b q g, spec_l1Below.f d p h n = some (b, q, g) ∧ 0 ≤ q ∧ (1 ≤ n → n ≤ 256 → 0 ≤ b ∧ b < n) := by
  by_cases c : n ≤ 0
  · exact ⟨_, _, _, by simp only [spec_l1Below.f, c, ↓reduceIte]; rfl, hp, fun _ _ => by omega⟩
  · have z : ¬ n = 0 := by omega
    obtain ⟨b1, q1, g1, e1, hb1, hq1⟩ := spec_l1Byte_ex d p h hp hd
    by_cases c2 : n ≤ 256
    · refine ⟨Int.tmod b1 n, q1, g1, by simp only [spec_l1Below.f, c, c2, z, e1, Option.bind_some, ↓reduceIte], hq1, fun h1 _ => ?_⟩
      rw [Int.tmod_eq_emod_of_nonneg hb1]
      exact ⟨Int.emod_nonneg _ (by omega), Int.emod_lt_of_pos _ (by omega)⟩
    · obtain ⟨b2, q2, g2, e2, hb2, hq2⟩ := spec_l1Byte_ex d q1 g1 hq1 hd
      obtain ⟨b3, q3, g3, e3, hb3, hq3⟩ := spec_l1Byte_ex d q2 g2 hq2 hd
      exact ⟨_, _, _, by simp only [spec_l1Below.f, c, c2, z, e1, e2, e3, Option.bind_some, ↓reduceIte]; rfl, hq3, fun _ h2 => absurd h2 c2⟩

/-! spec_l1Int -/
theorem spec_l1Int_ex (d : List Int) (p h : Int) (l : List Int) (hp : 0 ≤ p) (hd : d.length ≤ 1048576) (h1 : 1 ≤ l.length) (h2 : l.length ≤ 256) : ∃ b q g, spec_l1Int.f d p h l = some (b, q, g) ∧ 0 ≤ q := by
  obtain ⟨b, q, g, e, hq, hb⟩ := spec_l1Below_ex d p h (l.length : Int) hp hd
  obtain ⟨hb0, hb1⟩ := hb (by omega) (by omega)
  exact ⟨_, _, _, by simp only [spec_l1Int.f, e, Option.bind_some, hb0, hb1, ↓reduceIte]; rfl, hq⟩

/-! spec_DrawChoose -/
theorem spec_l1Int_mem (d : List Int) (p h : Int) (l : List Int) (hp : 0 ≤ p) (hd : d.length ≤ 1048576) (h1 : 1 ≤ l.length) (h2 : l.length ≤ 256) : ∃ b q g, spec_l1Int.f d p h l = some (b, q, g) ∧ 0 ≤ q ∧ b ∈ l := by
  obtain ⟨b, q, g, e, hq, hb⟩ := spec_l1Below_ex d p h (l.length : Int) hp hd
  obtain ⟨hb0, hb1⟩ := hb (by omega) (by omega)
  refine ⟨rd l b, q, g, by simp only [spec_l1Int.f, e, Option.bind_some, hb0, hb1, ↓reduceIte], hq, ?_⟩
  have hi : b.toNat < l.length := by omega
  show l.getD b.toNat 0 ∈ l
  rw [List.getD_eq_getElem?_getD, List.getElem?_eq_getElem hi]
  exact List.getElem_mem hi
theorem spec_DrawChoose_ex (d : List Int) (hd : d.length ≤ 1048576) : ∃ a b, Ev (fun k => spec_DrawChoose.f k d) (a, b) ∧ -1 ≤ a ∧ a ≤ 53 ∧ -1 ≤ b ∧ b ≤ 53 := by
  obtain ⟨g, e⟩ := spec_l1New_ex d hd
  obtain ⟨b1, q1, g1, e1, hq1, m1⟩ := spec_l1Int_mem d 0 g [0, 1, 5, 10, 52, 53, (-1)] (by omega) hd (by simp) (by simp)
  obtain ⟨b2, q2, g2, e2, hq2, m2⟩ := spec_l1Int_mem d q1 g1 [0, 1, 2, 5, 26, 52, b1, (-1)] hq1 hd (by simp) (by simp)
  simp only [List.mem_cons, List.not_mem_nil, or_false] at m1 m2
  exact ⟨b1, b2, Ev.bind e (ev_of_eq fun k => by simp only [e1, e2, Option.bind_some]), by omega, by omega, by omega, by omega⟩

/-! impl_InRange -/
theorem impl_InRange_f (a b c : Int) : impl_InRange.f a b c = some (decide (b ≤ a ∧ a ≤ c)) := by
  unfold impl_InRange.f
  by_cases h : b ≤ a <;> simp [h]

/-! impl_Choose -/
theorem impl_Choose_loop (n k m : Nat) (hn : n ≤ 52) (hk : m ≤ n) : ∀ (d i : Nat), i + d = m → Ev (fun x => impl_Choose.l0 x n ((binom n i : Nat) : Int) m i) ((binom n m : Nat) : Int) := by
  intro d
  induction d with
  | zero =>
    intro i hi
    obtain rfl : i = m := by omega
    refine ev_succ (ev_of_eq fun x => ?_)
    simp only [impl_Choose.l0, Int.lt_irrefl, ↓reduceIte]
  | succ d ih =>
    intro i hi
    refine ev_succ ?_
    have e1 : (i : Int) < (m : Int) := by omega
    have e2 : wrap64 ((i : Int) + 1) = ((i + 1 : Nat) : Int) := by rw [w64 (by omega) (by omega)]; omega
    have e3 : ¬ ((i + 1 : Nat) : Int) = 0 := by omega
    have e4 : wrap64 ((n : Int) - (i : Int)) = ((n - i : Nat) : Int) := by rw [w64 (by omega) (by omega)]; omega
    have b := binom_le52 n i hn
    have b1 := binom_le52 n (i + 1) hn
    have s := binom_step n i
    have s1 : binom n i * (n - i) = binom n (i + 1) * (i + 1) := by
      rw [Nat.mul_sub, Nat.mul_comm _ n, Nat.mul_comm _ i, Nat.mul_comm _ (i + 1)]
      omega
    have s2 : binom n i * (n - i) ≤ 4503599627370496 * 52 := Nat.mul_le_mul b (by omega)
    have e5 : wrap64 (((binom n i : Nat) : Int) * ((n - i : Nat) : Int)) = ((binom n (i + 1) * (i + 1) : Nat) : Int) := by
      rw [← Int.natCast_mul, s1] at *
      exact w64 (by omega) (by omega)
    have e6 : wrap64 (Int.tdiv ((binom n (i + 1) * (i + 1) : Nat) : Int) ((i + 1 : Nat) : Int)) = ((binom n (i + 1) : Nat) : Int) := by
      rw [← Int.ofNat_tdiv, Nat.mul_div_cancel _ (by omega)]
      exact w64 (by omega) (by omega)
    simp only [impl_Choose.l0, e1, e2, e3, e4, e5, e6, ↓reduceIte]
    exact ih (i + 1) (by omega)
theorem impl_Choose_ev (n k : Int) : Ev (fun x => impl_Choose.f x n k) (chooseM n k) := by
  simp only [impl_Choose.f, impl_InRange_f, Option.bind_some]
  by_cases h1 : 0 ≤ n ∧ n ≤ 52
  · simp only [h1, and_self, decide_true, ↓reduceIte]
    refine ev_succ ?_
    by_cases h2 : 0 ≤ k ∧ k ≤ n
    · obtain ⟨N, rfl⟩ := Int.eq_ofNat_of_zero_le h1.1
      obtain ⟨K, rfl⟩ := Int.eq_ofNat_of_zero_le h2.1
      have e0 : mn (K : Int) (wrap64 ((N : Int) - (K : Int))) = ((min K (N - K) : Nat) : Int) := by
        rw [w64 (by omega) (by omega), show (N : Int) - (K : Int) = ((N - K : Nat) : Int) by omega, mn_toNat]
      have e5 : chooseM (N : Int) (K : Int) = ((binom N (min K (N - K)) : Nat) : Int) := by
        unfold chooseM
        rw [if_pos (by omega)]
        simp only [Int.toNat_natCast]
        by_cases h : K ≤ N - K
        · rw [Nat.min_eq_left h]
        · rw [Nat.min_eq_right (by omega)]
          have := binom_symm K (N - K)
          rw [show K + (N - K) = N by omega] at this
          rw [this]
      simp only [impl_Choose.j0, h2, and_self, decide_true, Bool.not_true, Bool.false_eq_true, ↓reduceIte, e0, e5]
      have := impl_Choose_loop N K (min K (N - K)) (by omega) (by omega) (min K (N - K)) 0 (by omega)
      rw [binom_zero] at this
      exact this
    · have e : chooseM n k = 0 := by unfold chooseM; rw [if_neg (by omega)]
      refine ev_of_eq fun x => ?_
      simp only [impl_Choose.j0, h2, decide_false, Bool.not_false, ↓reduceIte, e]
  · have e : chooseM n k = 0 := by unfold chooseM; rw [if_neg (by omega)]
    refine ev_succ (ev_of_eq fun x => ?_)
    simp only [h1, decide_false, Bool.false_eq_true, ↓reduceIte, impl_Choose.j0, e]

/-! spec_l1In -/
theorem spec_l1In_f (a b c : Int) : spec_l1In.f a b c = some (decide (b ≤ a ∧ a ≤ c)) := by
  unfold spec_l1In.f
  by_cases h : b ≤ a <;> simp [h]

/-! spec_Min -/
theorem spec_Min_f (a b : Int) : spec_Min.f a b = some (mn a b) := by
  unfold spec_Min.f mn
  split <;> rfl

/-! spec_Choose -/
theorem spec_Choose_inner (n k i : Nat) (hn : n ≤ 52) (hk : k ≤ n) (hi : i < n) (r : Int) (H : Ev (fun x => spec_Choose.l0 x n k (rowF k i 0) ((i : Int) + 1 + 1)) r) :
    ∀ j : Nat, j ≤ k → Ev (fun x => spec_Choose.l1 x n k (rowF k i j) ((i : Int) + 1) j) r := by
  intro j
  induction j with
  | zero =>
    intro _
    refine ev_succ ?_
    have e : ¬ ((0 : Nat) : Int) ≥ 1 := by omega
    simp only [spec_Choose.l1, e, ↓reduceIte]
    rw [w64 (n := (i : Int) + 1 + 1) (by omega) (by omega)]
    exact H
  | succ j ih =>
    intro hj
    refine ev_succ ?_
    have e1 : ((j + 1 : Nat) : Int) ≥ 1 := by omega
    have e2 : (0 : Int) ≤ ((j + 1 : Nat) : Int) := by omega
    have e3 : ((j + 1 : Nat) : Int) < ((rowF k i (j + 1)).length : Int) := by rw [rowF_length]; omega
    have e4 : wrap64 (((j + 1 : Nat) : Int) - 1) = (j : Int) := by rw [w64 (by omega) (by omega)]; omega
    have e5 : (0 : Int) ≤ (j : Int) := by omega
    have e6 : (j : Int) < ((rowF k i (j + 1)).length : Int) := by rw [rowF_length]; omega
    have b1 := binom_le52 (i + 1) (j + 1) (by omega)
    have b2 := binom_succ i j
    have v : wrap64 (rd (rowF k i (j + 1)) ((j + 1 : Nat) : Int) + rd (rowF k i (j + 1)) (j : Int)) = ((binom (i + 1) (j + 1) : Nat) : Int) := by
      rw [rowF_rd k i (j + 1) _ (by omega) (by omega) (by omega), rowF_rd k i (j + 1) _ (by omega) (by omega) (by omega)]
      simp only [Int.toNat_natCast]
      rw [w64 (by omega) (by omega)]
      omega
    simp only [spec_Choose.l1, e1, e2, e3, e4, e5, e6, ↓reduceIte, v, Int.toNat_natCast]
    rw [rowF_set k i j hj _ rfl]
    exact ih (by omega)
theorem spec_Choose_outer (n k : Nat) (hn : n ≤ 52) (hk : k ≤ n) : ∀ (m i : Nat), i + m = n → Ev (fun x => spec_Choose.l0 x n k (rowF k i k) ((i : Int) + 1)) ((binom n k : Nat) : Int) := by
  intro m
  induction m with
  | zero =>
    intro i hi
    obtain rfl : i = n := by omega
    refine ev_succ (ev_of_eq fun x => ?_)
    have e : ¬ (i : Int) + 1 ≤ (i : Int) := by omega
    have e1 : (0 : Int) ≤ (k : Int) := by omega
    have e2 : (k : Int) < ((rowF k i k).length : Int) := by rw [rowF_length]; omega
    simp only [spec_Choose.l0, e, e1, e2, ↓reduceIte]
    rw [rowF_rd k i k _ (by omega) (by omega) (by omega), Int.toNat_natCast]
  | succ m ih =>
    intro i hi
    refine ev_succ ?_
    have e : (i : Int) + 1 ≤ (n : Int) := by omega
    simp only [spec_Choose.l0, e, ↓reduceIte, spec_Min_f, Option.bind_some]
    rw [show (i : Int) + 1 = ((i + 1 : Nat) : Int) by omega, mn_toNat, rowF_min]
    have := ih (i + 1) (by omega)
    rw [← rowF_next] at this
    exact spec_Choose_inner n k i hn hk (by omega) _ this _ (by omega)
theorem spec_Choose_ev (n k : Int) : Ev (fun x => spec_Choose.f x n k) (chooseM n k) := by
  simp only [spec_Choose.f, spec_l1In_f, Option.bind_some]
  by_cases h1 : 0 ≤ n ∧ n ≤ 52
  · simp only [h1, and_self, decide_true, ↓reduceIte]
    refine ev_succ ?_
    by_cases h2 : 0 ≤ k ∧ k ≤ n
    · obtain ⟨N, rfl⟩ := Int.eq_ofNat_of_zero_le h1.1
      obtain ⟨K, rfl⟩ := Int.eq_ofNat_of_zero_le h2.1
      have e0 : wrap64 ((K : Int) + 1) = ((K + 1 : Nat) : Int) := by rw [w64 (by omega) (by omega)]; rfl
      have e1 : (0 : Int) ≤ ((K + 1 : Nat) : Int) := by omega
      have e2 : K + 1 ≤ 35184372088832 := by omega
      have e3 : (0 : Int) < ((List.replicate (K + 1) (0 : Int)).length : Int) := by rw [List.length_replicate]; omega
      have e5 : chooseM (N : Int) (K : Int) = ((binom N K : Nat) : Int) := by
        unfold chooseM
        rw [if_pos (by omega)]
        simp
      simp only [spec_Choose.j0, h2, and_self, decide_true, Bool.not_true, Bool.false_eq_true, ↓reduceIte, e0, e1, Int.toNat_natCast, e2, Option.bind_some, e3, Int.toNat_zero, e5]
      rw [rowF_first]
      exact spec_Choose_outer N K (by omega) (by omega) N 0 (by omega)
    · have e : chooseM n k = 0 := by unfold chooseM; rw [if_neg (by omega)]
      refine ev_of_eq fun x => ?_
      simp only [spec_Choose.j0, h2, decide_false, Bool.not_false, ↓reduceIte, e]
  · have e : chooseM n k = 0 := by unfold chooseM; rw [if_neg (by omega)]
    refine ev_succ (ev_of_eq fun x => ?_)
    simp only [h1, decide_false, Bool.false_eq_true, ↓reduceIte, spec_Choose.j0, e]

/-! spec_DrawWaysWith -/
theorem spec_DrawWaysWith_ex (d : List Int) (hd : d.length ≤ 1048576) : ∃ a b c e, Ev (fun k => spec_DrawWaysWith.f k d) (a, b, c, e) := by
  obtain ⟨g, e⟩ := spec_l1New_ex d hd
  obtain ⟨b1, q1, g1, e1, hq1⟩ := spec_l1Int_ex d 0 g [0, 5, 20, 47, 52, 53] (by omega) hd (by simp) (by simp)
  obtain ⟨b2, q2, g2, e2, hq2⟩ := spec_l1Int_ex d q1 g1 [0, 1, 4, 13, b1, wrap64 (b1 + 1)] hq1 hd (by simp) (by simp)
  obtain ⟨b3, q3, g3, e3, hq3⟩ := spec_l1Int_ex d q2 g2 [0, 1, 2, 5, 10, 11] hq2 hd (by simp) (by simp)
  obtain ⟨b4, q4, g4, e4, hq4⟩ := spec_l1Int_ex d q3 g3 [0, 1, 2, b3, wrap64 (b3 + 1), (-1)] hq3 hd (by simp) (by simp)
  exact ⟨b1, b2, b3, b4, Ev.bind e (ev_of_eq fun k => by simp only [e1, e2, e3, e4, Option.bind_some])⟩

/-! spec_DrawWaysAtLeast -/
theorem spec_DrawWaysAtLeast_ex (d : List Int) (hd : d.length ≤ 1048576) : ∃ a b c e, Ev (fun k => spec_DrawWaysAtLeast.f k d) (a, b, c, e) := by
  obtain ⟨a, b, c, e, h⟩ := spec_DrawWaysWith_ex d hd
  exact ⟨a, b, c, e, Ev.bind h (Ev.now _)⟩

/-! impl_areChances -/
theorem impl_areChances_f (u g d w : Int) : impl_areChances.f u g d w = some (okM u g d w) := by
  unfold impl_areChances.f okM
  simp only [impl_InRange_f, Option.bind_some]
  by_cases h1 : 0 ≤ u ∧ u ≤ 52 <;> by_cases h2 : 0 ≤ g ∧ g ≤ u <;> by_cases h3 : 0 ≤ d ∧ d ≤ 10 <;> simp [h1, h2, h3]

/-! impl_WaysWith -/
theorem impl_WaysWith_ev (u g d w : Int) : Ev (fun k => impl_WaysWith.f k u g d w) (waysM u g d w) := by
  simp only [impl_WaysWith.f, impl_areChances_f, Option.bind_some, waysM]
  by_cases h : okM u g d w = true
  · simp only [h, ↓reduceIte]
    exact Ev.bind (impl_Choose_ev _ _) (Ev.bind (impl_Choose_ev _ _) (Ev.now _))
  · simp only [h, ↓reduceIte, Bool.false_eq_true]
    exact Ev.now _

/-! impl_WaysAtLeast -/
theorem impl_WaysAtLeast_ev (u g d w : Int) : Ev (fun k => impl_WaysAtLeast.f k u g d w) (atLeastM u g d w) := by
  simp only [impl_WaysAtLeast.f, impl_areChances_f, Option.bind_some, atLeastM]
  by_cases h : okM u g d w = true
  · simp only [h, ↓reduceIte]
    have hw : 0 ≤ w ∧ w ≤ d ∧ d ≤ 10 := by unfold okM at h; simp at h; omega
    suffices H : ∀ (n : Nat) (acc v : Int), w ≤ v → v + n = d + 1 → Ev (fun k => impl_WaysAtLeast.l0 k u g d acc v) (atLeastF u g d n acc v) from H _ 0 w (by omega) (by omega)
    intro n
    induction n with
    | zero =>
      intro acc v _ hv
      have e : ¬ v ≤ d := by omega
      refine ev_succ (ev_of_eq fun k => ?_)
      simp only [impl_WaysAtLeast.l0, e, ↓reduceIte, atLeastF]
    | succ n ih =>
      intro acc v hv0 hv
      have e : v ≤ d := by omega
      refine ev_succ ?_
      simp only [impl_WaysAtLeast.l0, e, ↓reduceIte, atLeastF]
      refine Ev.bind (impl_WaysWith_ev _ _ _ _) ?_
      have e2 : wrap64 (v + 1) = v + 1 := w64 (by omega) (by omega)
      simp only [e2]
      exact ih _ _ (by omega) (by omega)
  · simp only [h, ↓reduceIte, Bool.false_eq_true]
    exact Ev.now _

/-! impl_PerThousand -/
theorem impl_PerThousand_ev (u g d w : Int) : Ev (fun k => impl_PerThousand.f k u g d w) (perM u g d w) := by
  simp only [impl_PerThousand.f, perM]
  refine Ev.bind (impl_Choose_ev u d) ?_
  by_cases hc : chooseM u d = 0
  · refine ev_of_eq fun k => ?_
    simp [hc]
  · simp only [hc, ↓reduceIte]
    refine Ev.bind (impl_WaysAtLeast_ev u g d w) ?_
    refine ev_of_eq fun k => ?_
    by_cases h : okM u g d w = true
    · simp [h]
    · simp only [atLeastM, h, Bool.false_eq_true, ↓reduceIte]
      simp [wrap64]

/-! spec_l1Once -/
theorem spec_l1Once_ex (d : List Int) (p h n : Int) (hp : 0 ≤ p) (hd : d.length ≤ 1048576) : ∃ b q g, spec_l1Once.f d p h n = some (b, q, g) ∧ 0 ≤ q := by
  obtain ⟨b, q, g, e, hq, _⟩ := spec_l1Below_ex d p h n hp hd
  exact ⟨_, _, _, by simp only [spec_l1Once.f, e, Option.bind_some]; rfl, hq⟩

/-! spec_l8Leaves -/
theorem spec_l8Leaves_ex (d : List Int) (p h : Int) (hp : 0 ≤ p) (hd : d.length ≤ 1048576) : ∃ b q g, spec_l8Leaves.f d p h = some (b, q, g) ∧ 0 ≤ q := by
  obtain ⟨b1, q1, g1, e1, hq1, _⟩ := spec_l1Below_ex d p h 4 hp hd
  obtain ⟨b2, q2, g2, e2, hq2, _⟩ := spec_l1Below_ex d q1 g1 13 hq1 hd
  obtain ⟨b3, q3, g3, e3, hq3, _⟩ := spec_l1Below_ex d q2 g2 13 hq2 hd
  obtain ⟨b4, q4, g4, e4, hq4⟩ := spec_l1Int_ex d q3 g3 [wrap64 (100 + b1), wrap64 (200 + b2), wrap64 (300 + b3), 400] hq3 hd (by simp) (by simp)
  exact ⟨b4, q4, g4, by simp only [spec_l8Leaves.f, e1, e2, e3, e4, Option.bind_some], hq4⟩

/-! spec_l8Draw -/
theorem spec_l8Draw_j0 (d : List Int) (hd : d.length ≤ 1048576) (n : Nat) (hn : n ≤ 2) (p h : Int) (hp : 0 ≤ p) : ∃ l q g, Ev (fun k => spec_l8Draw.j0 k (n : Int) true d p h) (l, q, g) ∧ 0 ≤ q ∧ 1 ≤ l.length ∧ l.length ≤ 1 := by
  obtain ⟨b, q, g, e, hq⟩ := spec_l8Leaves_ex d p h hp hd
  exact ⟨[b], q, g, ev_succ (ev_of_eq fun k => by simp only [spec_l8Draw.j0, e, Option.bind_some, ↓reduceIte]), hq, by simp, by simp⟩
theorem spec_l8Draw_ex (d : List Int) (hd : d.length ≤ 1048576) : ∀ (n : Nat), n ≤ 2 → ∀ (p h : Int), 0 ≤ p → ∃ l q g, Ev (fun k => spec_l8Draw.f k d p h (n : Int)) (l, q, g) ∧ 0 ≤ q ∧ 1 ≤ l.length ∧ l.length + 1 ≤ 2 ^ (n + 1) := by
  intro n
  induction n with
  | zero =>
    intro hn p h hp
    obtain ⟨l, q, g, e, hq, h1, h2⟩ := spec_l8Draw_j0 d hd 0 (by omega) p h hp
    have z : ((0 : Nat) : Int) = 0 := rfl
    refine ⟨l, q, g, ev_succ ?_, hq, h1, by simp; omega⟩
    simp only [spec_l8Draw.f, z, ↓reduceIte]
    rw [z] at e
    exact e
  | succ n ih =>
    intro hn p h hp
    have z : ¬ ((n + 1 : Nat) : Int) = 0 := by omega
    have w : wrap64 (((n + 1 : Nat) : Int) - 1) = (n : Int) := by rw [w64 (by omega) (by omega)]; omega
    have pw : 2 ^ (n + 1 + 1) = 2 ^ (n + 1) + 2 ^ (n + 1) := by rw [Nat.pow_succ]; omega
    have p8 : 2 ^ (n + 1) ≤ 4 := by
      have : 2 ^ (n + 1) ≤ 2 ^ 2 := Nat.pow_le_pow_right (by omega) (by omega)
      simpa using this
    obtain ⟨b, q, g, e, hq⟩ := spec_l1Once_ex d p h 4 hp hd
    cases b
    · obtain ⟨b2, q2, g2, e2, hq2⟩ := spec_l1Once_ex d q g 4 hq hd
      cases b2
      · obtain ⟨l1, q3, g3, e3, hq3, a1, a2⟩ := ih (by omega) q2 g2 hq2
        obtain ⟨l2, q4, g4, e4, hq4, b1, b2⟩ := ih (by omega) q3 g3 hq3
        obtain ⟨o, q5, g5, e5, hq5, _⟩ := spec_l1Below_ex d q4 g4 2 hq4 hd
        have c1 : l1.length + l2.length < 17592186044416 := by omega
        have c2 : (l1 ++ l2).length < 17592186044416 := by simp; omega
        refine ⟨(l1 ++ l2) ++ [wrap64 ((-2) - o)], q5, g5, ev_succ ?_, hq5, by simp; omega, by rw [pw, List.length_append, List.length_append, List.length_singleton]; omega⟩
        simp only [spec_l8Draw.f, z, e, Option.bind_some, ↓reduceIte]
        refine ev_succ ?_
        simp only [spec_l8Draw.j0, e2, w, Option.bind_some, Bool.false_eq_true, ↓reduceIte]
        refine Ev.bind e3 (Ev.bind e4 (ev_of_eq fun k => ?_))
        simp only [c1, c2, e5, Option.bind_some, ↓reduceIte]
      · obtain ⟨l1, q3, g3, e3, hq3, a1, a2⟩ := ih (by omega) q2 g2 hq2
        have c1 : l1.length < 17592186044416 := by omega
        refine ⟨l1 ++ [-1], q3, g3, ev_succ ?_, hq3, by simp, by rw [pw, List.length_append, List.length_singleton]; omega⟩
        simp only [spec_l8Draw.f, z, e, Option.bind_some, ↓reduceIte]
        refine ev_succ ?_
        simp only [spec_l8Draw.j0, e2, w, Option.bind_some, Bool.false_eq_true, ↓reduceIte]
        exact Ev.bind e3 (ev_of_eq fun k => by simp only [c1, ↓reduceIte])
    · obtain ⟨l, q2, g2, e2, hq2, h1, h2⟩ := spec_l8Draw_j0 d hd (n + 1) hn q g hq
      refine ⟨l, q2, g2, ev_succ ?_, hq2, h1, by have : 1 ≤ 2 ^ (n + 1) := Nat.one_le_two_pow; omega⟩
      simp only [spec_l8Draw.f, z, e, Option.bind_some, ↓reduceIte]
      exact e2

/-! spec_l8Any -/
theorem spec_l8Any_ex (d : List Int) (hd : d.length ≤ 1048576) (p h : Int) (hp : 0 ≤ p) : ∃ l q g, Ev (fun k => spec_l8Any.f k d p h) (l, q, g) ∧ 0 ≤ q ∧ l.length ≤ 7 := by
  obtain ⟨l, q, g, e, hq, h1, h2⟩ := spec_l8Draw_ex d hd 2 (by omega) p h hp
  rw [show ((2 : Nat) : Int) = 2 from rfl] at e
  have h7 : l.length ≤ 7 := by simp at h2; omega
  obtain ⟨b, q2, g2, e2, hq2, _⟩ := spec_l1Below_ex d q g 10 hq hd
  simp only [spec_l8Any.f]
  by_cases c0 : b = 0
  · obtain ⟨i, q3, g3, e3, hq3, hi⟩ := spec_l1Below_ex d q2 g2 (l.length : Int) hq2 hd
    obtain ⟨i0, i1⟩ := hi (by omega) (by omega)
    obtain ⟨v, q4, g4, e4, hq4⟩ := spec_l1Int_ex d q3 g3 [104, 99, 213, 313, 401, (-4), (-2), 9223372036854775807] hq3 hd (by simp) (by simp)
    refine ⟨l.set i.toNat v, q4, g4, Ev.bind e (ev_of_eq fun k => ?_), hq4, by rw [List.length_set]; omega⟩
    simp only [e2, e3, e4, c0, i0, i1, Option.bind_some, ↓reduceIte]
  · by_cases c1 : b = 1
    · have z : ¬ (1 : Int) = 0 := by omega
      have c2 : 1 ≤ (l.length : Int) := by omega
      refine ⟨l.drop (1 : Int).toNat, q2, g2, Ev.bind e (ev_of_eq fun k => ?_), hq2, by rw [List.length_drop]; omega⟩
      simp only [e2, c1, z, c2, Option.bind_some, ↓reduceIte]
    · refine ⟨l, q2, g2, Ev.bind e (ev_of_eq fun k => ?_), hq2, h7⟩
      simp only [e2, c0, c1, Option.bind_some, ↓reduceIte]

/-! spec_HasCard -/
theorem spec_HasCard_ev (l : List Int) (c : Int) (hl : l.length ≤ 1099511627776) : Ev (fun k => spec_HasCard.f k l c) (l.contains c) := by
  simp only [spec_HasCard.f]
  refine loop_int l hl (P := fun i rest => Ev (fun k => spec_HasCard.l0 k l c i) (rest.contains c)) ?_ ?_
  · refine ev_succ (ev_of_eq fun k => ?_)
    simp only [spec_HasCard.l0, Int.lt_irrefl, ↓reduceIte, List.contains_nil]
  · intro i x rest h0 h1 hx _ hw ih
    refine ev_succ ?_
    simp only [spec_HasCard.l0, h1, h0, ↓reduceIte, hx, hw]
    by_cases h : x = c
    · refine ev_of_eq fun k => ?_
      simp [h]
    · have h' : ¬ c = x := fun e => h e.symm
      simp only [h, ↓reduceIte]
      refine ev_eq ih ?_
      simp [h']

/-! spec_l5Some -/
theorem nodup_le : ∀ (a b : List Int), a.Nodup → (∀ x ∈ a, x ∈ b) → a.length ≤ b.length := by
  intro a
  induction a with
  | nil => intro b _ _; exact Nat.zero_le _
  | cons x a ih =>
    intro b hn hs
    rw [List.nodup_cons] at hn
    have hx := hs x (by simp)
    have h := ih (b.erase x) hn.2 (fun y hy => (List.mem_erase_of_ne (fun e => hn.1 (by subst e; exact hy))).mpr (hs y (by simp [hy])))
    rw [List.length_erase_of_mem hx] at h
    have : 0 < b.length := List.length_pos_of_mem hx
    simp only [List.length_cons]
    omega
/-- The places a search steps through: n of them from x on. -/
def walkF : Nat → Int → List Int
  | 0, _ => []
  | n + 1, x => x :: walkF n ((x + 7) % 52)
theorem walkF_mem : ∀ (n : Nat) (x y : Int), 0 ≤ x → x < 52 → y ∈ walkF n x → ∃ j : Nat, j < n ∧ y = (x + 7 * j) % 52 := by
  intro n
  induction n with
  | zero => intro x y _ _ h; simp [walkF] at h
  | succ n ih =>
    intro x y h0 h1 h
    simp only [walkF, List.mem_cons] at h
    rcases h with h | h
    · exact ⟨0, by omega, by omega⟩
    · obtain ⟨j, hj, e⟩ := ih _ y (by omega) (by omega) h
      exact ⟨j + 1, by omega, by omega⟩
theorem walkF_nodup : ∀ (n : Nat) (x : Int), n ≤ 52 → 0 ≤ x → x < 52 → (walkF n x).Nodup := by
  intro n
  induction n with
  | zero => intro x _ _ _; exact List.nodup_nil
  | succ n ih =>
    intro x hn h0 h1
    simp only [walkF, List.nodup_cons]
    refine ⟨fun h => ?_, ih _ (by omega) (by omega) (by omega)⟩
    obtain ⟨j, hj, e⟩ := walkF_mem n _ x (by omega) (by omega) h
    omega
theorem walkF_len : ∀ (n : Nat) (x : Int), (walkF n x).length = n := by
  intro n
  induction n with
  | zero => intro x; rfl
  | succ n ih => intro x; simp [walkF, ih]
theorem spec_l5Some_l1 (d : List Int) (m : Int) (l : List Int) (hl : l.length ≤ 8) (i p h : Int) : ∀ (n : Nat) (x : Int), 0 ≤ x → x < 52 → (∃ y ∈ walkF n x, y ∉ l) →
    ∃ y : Int, ∀ r, Ev (fun k => spec_l5Some.l0 k m (l ++ [y]) (wrap64 (i + 1)) d p h) r → Ev (fun k => spec_l5Some.l1 k m l i x d p h) r := by
  intro n
  induction n with
  | zero => intro x _ _ h; obtain ⟨y, hy, _⟩ := h; simp [walkF] at hy
  | succ n ih =>
    intro x h0 h1 hex
    have b : l.length < 17592186044416 := by omega
    by_cases hx : x ∈ l
    · have hex2 : ∃ y ∈ walkF n ((x + 7) % 52), y ∉ l := by
        obtain ⟨y, hy, hn⟩ := hex
        simp only [walkF, List.mem_cons] at hy
        rcases hy with hy | hy
        · exact absurd (hy ▸ hx) hn
        · exact ⟨y, hy, hn⟩
      obtain ⟨y, hy⟩ := ih _ (by omega) (by omega) hex2
      refine ⟨y, fun r hr => ev_succ ?_⟩
      have hc : l.contains x = true := by simpa using hx
      have w : Int.tmod (wrap64 (x + 7)) 52 = (x + 7) % 52 := by rw [w64 (by omega) (by omega), Int.tmod_eq_emod_of_nonneg (by omega)]
      simp only [spec_l5Some.l1, w]
      refine Ev.bind (spec_HasCard_ev l x (by omega)) ?_
      simp only [hc, ↓reduceIte]
      exact hy r hr
    · refine ⟨x, fun r hr => ev_succ ?_⟩
      have hc : l.contains x = false := by simpa using hx
      simp only [spec_l5Some.l1]
      refine Ev.bind (spec_HasCard_ev l x (by omega)) ?_
      simp only [hc, b, Bool.false_eq_true, ↓reduceIte]
      exact hr
theorem spec_l5Some_ex (d : List Int) (hd : d.length ≤ 1048576) (p h m : Int) (hp : 0 ≤ p) (hm : m ≤ 8) : ∃ l q g, Ev (fun k => spec_l5Some.f k d p h m) (l, q, g) ∧ 0 ≤ q ∧ l.length ≤ 8 := by
  have H : ∀ (n : Nat) (l : List Int) (i p h : Int), 0 ≤ p → 0 ≤ i → i + n = 8 → (l.length : Int) = i → ∃ r q g, Ev (fun k => spec_l5Some.l0 k m l i d p h) (r, q, g) ∧ 0 ≤ q ∧ r.length ≤ 8 := by
    intro n
    induction n with
    | zero =>
      intro l i p h hp hi hn hl
      have c : ¬ i < m := by omega
      exact ⟨l, p, h, ev_succ (ev_of_eq fun k => by simp only [spec_l5Some.l0, c, ↓reduceIte]), hp, by omega⟩
    | succ n ih =>
      intro l i p h hp hi hn hl
      by_cases c : i < m
      · obtain ⟨b, q, g, e, hq, hb⟩ := spec_l1Below_ex d p h 52 hp hd
        obtain ⟨b0, b1⟩ := hb (by omega) (by omega)
        have hex : ∃ y ∈ walkF 9 b, y ∉ l := by
          apply Classical.byContradiction
          intro hno
          have hs : ∀ y ∈ walkF 9 b, y ∈ l := fun y hy => Classical.byContradiction fun hn => hno ⟨y, hy, hn⟩
          have := nodup_le (walkF 9 b) l (walkF_nodup 9 b (by omega) b0 b1) hs
          rw [walkF_len] at this
          omega
        obtain ⟨y, hy⟩ := spec_l5Some_l1 d m l (by omega) i q g 9 b b0 b1 hex
        obtain ⟨r, q2, g2, er, hq2, hr⟩ := ih (l ++ [y]) (i + 1) q g hq (by omega) (by omega) (by simp; omega)
        refine ⟨r, q2, g2, ev_succ ?_, hq2, hr⟩
        simp only [spec_l5Some.l0, c, e, Option.bind_some, ↓reduceIte]
        refine hy _ ?_
        rw [w64 (by omega) (by omega)]
        exact er
      · exact ⟨l, p, h, ev_succ (ev_of_eq fun k => by simp only [spec_l5Some.l0, c, ↓reduceIte]), hp, by omega⟩
  exact H 8 [] 0 p h hp (by omega) (by omega) rfl

/-! spec_l5Any -/
theorem spec_l5Any_ex (d : List Int) (hd : d.length ≤ 1048576) (p h : Int) (hp : 0 ≤ p) : ∃ l q g, Ev (fun k => spec_l5Any.f k d p h) (l, q, g) ∧ 0 ≤ q ∧ l.length ≤ 8 := by
  obtain ⟨m, q, g, e, hq, hm⟩ := spec_l1Below_ex d p h 9 hp hd
  obtain ⟨m0, m1⟩ := hm (by omega) (by omega)
  obtain ⟨l, q2, g2, e2, hq2, hl⟩ := spec_l5Some_ex d hd q g m hq (by omega)
  simp only [spec_l5Any.f, e, Option.bind_some]
  by_cases c : (l.length : Int) > 0
  · obtain ⟨o, q3, g3, e3, hq3⟩ := spec_l1Once_ex d q2 g2 10 hq2 hd
    cases o
    · refine ⟨l, q3, g3, Ev.bind e2 (ev_of_eq fun k => ?_), hq3, hl⟩
      simp only [c, e3, Option.bind_some, Bool.false_eq_true, ↓reduceIte]
    · obtain ⟨v, q4, g4, e4, hq4⟩ := spec_l1Int_ex d q3 g3 [rd l (wrap64 ((l.length : Int) - 1)), 52, (-1)] hq3 hd (by simp) (by simp)
      have w : wrap64 ((l.length : Int) - 1) = (l.length : Int) - 1 := w64 (by omega) (by omega)
      have c1 : 0 ≤ (l.length : Int) - 1 := by omega
      have c2 : (l.length : Int) - 1 < (l.length : Int) := by omega
      have c3 : 0 < (l.length : Int) := by omega
      rw [w] at e4
      refine ⟨l.set (0 : Int).toNat v, q4, g4, Ev.bind e2 (ev_of_eq fun k => ?_), hq4, by rw [List.length_set]; omega⟩
      simp only [c, e3, w, c1, c2, c3, e4, Option.bind_some, ↓reduceIte]
  · refine ⟨l, q2, g2, Ev.bind e2 (ev_of_eq fun k => ?_), hq2, hl⟩
    simp only [c, ↓reduceIte]

/-! spec_DrawCountMatches -/
theorem spec_DrawCountMatches_ex (d : List Int) (hd : d.length ≤ 1048576) : ∃ a b, Ev (fun k => spec_DrawCountMatches.f k d) (a, b) ∧ a.length ≤ 7 ∧ b.length ≤ 8 := by
  obtain ⟨g, e⟩ := spec_l1New_ex d hd
  obtain ⟨a, q, h, e1, hq, ha⟩ := spec_l8Any_ex d hd 0 g (by omega)
  obtain ⟨b, q2, h2, e2, hq2, hb⟩ := spec_l5Any_ex d hd q h hq
  exact ⟨a, b, Ev.bind e (Ev.bind e1 (Ev.bind e2 (Ev.now _))), ha, hb⟩

/-! spec_DrawOutsFor -/
theorem spec_DrawOutsFor_ex (d : List Int) (hd : d.length ≤ 1048576) : ∃ a b, Ev (fun k => spec_DrawOutsFor.f k d) (a, b) ∧ a.length ≤ 7 ∧ b.length ≤ 8 := by
  obtain ⟨a, b, e, h⟩ := spec_DrawCountMatches_ex d hd
  exact ⟨a, b, Ev.bind e (Ev.now _), h⟩

/-! impl_IsCard -/
theorem impl_IsCard_f (a : Int) : impl_IsCard.f a = some (isCardM a) := by
  unfold impl_IsCard.f
  rw [impl_InRange_f]
  rfl

/-! impl_isTest -/
theorem impl_isTest_f (s : Int) : impl_isTest.f s = some (leafM s) := by
  simp only [impl_isTest.f, impl_InRange_f, Option.bind_some, leafM]
  by_cases h1 : 100 ≤ s ∧ s ≤ 103
  · simp [h1]
  by_cases h2 : 200 ≤ s ∧ s ≤ 212
  · simp [h1, h2]
  by_cases h3 : 300 ≤ s ∧ s ≤ 312
  · simp [h1, h2, h3]
  simp [h1, h2, h3]

/-! impl_IsPattern -/
theorem impl_IsPattern_ev (l : List Int) (hl : l.length ≤ 1099511627776) : Ev (fun k => impl_IsPattern.f k l) (isPatM l) := by
  simp only [impl_IsPattern.f, isPatM]
  refine loop_int l hl (P := fun i rest => ∀ n, 0 ≤ n → n ≤ i → Ev (fun k => impl_IsPattern.l0 k l n l (l.length : Int) i) (patEnd l.length (patF rest n))) ?_ ?_ 0 (by omega) (by omega)
  · intro n hn hi
    refine ev_succ (ev_of_eq fun k => ?_)
    simp only [impl_IsPattern.l0, Int.lt_irrefl, ↓reduceIte, patF, patEnd, impl_InRange_f, Option.bind_some]
    by_cases h : n = 1
    · by_cases g : l.length ≤ 20
      · have g' : (1 : Int) ≤ (l.length : Int) ∧ (l.length : Int) ≤ 20 := by omega
        simp [h, g, g']
      · have g' : ¬ ((1 : Int) ≤ (l.length : Int) ∧ (l.length : Int) ≤ 20) := by omega
        simp [h, g, g']
    · by_cases g : (1 : Int) ≤ (l.length : Int) ∧ (l.length : Int) ≤ 20
      · simp [h, g]
      · simp [h, g]
  · intro i x rest h0 h1 hx _ hw ih n hn hi
    refine ev_succ ?_
    have w1 : wrap64 (n + 1) = n + 1 := w64 (by omega) (by omega)
    simp only [impl_IsPattern.l0, h1, h0, ↓reduceIte, hx, hw, impl_isTest_f, Option.bind_some, patF, w1]
    by_cases g1 : leafM x = true
    · simp only [g1, ↓reduceIte]
      exact ih _ (by omega) (by omega)
    · simp only [g1, Bool.false_eq_true, ↓reduceIte]
      by_cases g2 : x = -1
      · have e2 : ¬ x = -2 := by omega
        have e3 : ¬ x = -3 := by omega
        by_cases g3 : 1 ≤ n
        · have g3' : decide (n ≥ 1) = true := by simp; omega
          simp only [g2, g3, g3', ↓reduceIte, and_self]
          refine ev_succ ?_
          simp only [impl_IsPattern.j1, ↓reduceIte, hw]
          exact ih _ (by omega) (by omega)
        · have g3' : decide (n ≥ 1) = false := by simp; omega
          refine ev_succ (ev_of_eq fun k => ?_)
          simp only [impl_IsPattern.j1, g2, g3', g3, h1, h0, hx, ↓reduceIte, Bool.false_eq_true]
          simp [patEnd, e2, e3, g2, g3]
      · simp only [g2, ↓reduceIte, false_and]
        refine ev_succ ?_
        simp only [impl_IsPattern.j1, h1, h0, hx, hw, ↓reduceIte, Bool.false_eq_true, ge_iff_le]
        have w2 : 2 ≤ n → wrap64 (n - 1) = n - 1 := fun _ => w64 (by omega) (by omega)
        by_cases g4 : x = -2
        · by_cases g5 : 2 ≤ n
          · simp only [g4, g5, w2 g5, ↓reduceIte, true_or, and_self]
            exact ih _ (by omega) (by omega)
          · refine ev_of_eq fun k => ?_
            simp [g4, g5, patEnd]
        · by_cases g6 : x = -3
          · by_cases g5 : 2 ≤ n
            · simp only [g4, g6, g5, w2 g5, ↓reduceIte, or_true, and_self]
              exact ih _ (by omega) (by omega)
            · refine ev_of_eq fun k => ?_
              simp [g6, g5, patEnd]
          · refine ev_of_eq fun k => ?_
            simp [g4, g6, patEnd]

/-! impl_SuitOf -/
theorem impl_SuitOf_f (a : Int) : impl_SuitOf.f a = some (suitM a) := by
  unfold impl_SuitOf.f
  rw [impl_IsCard_f]
  unfold suitM isCardM
  by_cases h : 0 ≤ a ∧ a ≤ 51
  · simp [h, tdiv13 a h.1 h.2]
  · simp [h]

/-! impl_RankOf -/
theorem impl_RankOf_f (a : Int) : impl_RankOf.f a = some (rankM a) := by
  unfold impl_RankOf.f
  rw [impl_IsCard_f]
  unfold rankM isCardM
  by_cases h : 0 ≤ a ∧ a ≤ 51
  · simp [h, tmod13 a h.1]
  · simp [h]

/-! impl_IsRed -/
theorem impl_IsRed_f (c : Int) : impl_IsRed.f c = some (isRedM c) := by
  simp only [impl_IsRed.f, impl_SuitOf_f, Option.bind_some, isRedM]
  by_cases h : suitM c = 1
  · simp [h]
  · simp only [h, ↓reduceIte]
    congr 1
    rw [Bool.eq_iff_iff]
    simp
    omega

/-! impl_asks -/
theorem impl_ask_f (s c : Int) : impl_asks.f s c = some (askM s c) := by
  unfold impl_asks.f askM
  by_cases h1 : s = 400
  · simp only [h1, ↓reduceIte, impl_IsRed_f, Option.bind_some]
  · by_cases h2 : s ≥ 300
    · simp only [h1, h2, ↓reduceIte, impl_RankOf_f, Option.bind_some]
    · by_cases h3 : s ≥ 200
      · simp only [h1, h2, h3, ↓reduceIte, impl_RankOf_f, Option.bind_some]
      · simp only [h1, h2, h3, ↓reduceIte, impl_SuitOf_f, Option.bind_some]

/-! impl_Matches -/
theorem impl_Matches_l0 (p : List Int) (c : Int) (hl : p.length ≤ 20) (hp : patF p 0 = some 1) : Ev (fun k => impl_Matches.l0 k c [] p (p.length : Int) 0) (matchF c p []) := by
  suffices H : ∀ x : List Bool, (x.length : Int) ≤ 0 → patF p (x.length : Int) = some 1 → Ev (fun k => impl_Matches.l0 k c x p (p.length : Int) 0) (matchF c p x) from H [] (by simp) hp
  refine loop_int p (by omega) (P := fun i rest => ∀ x : List Bool, (x.length : Int) ≤ i → patF rest (x.length : Int) = some 1 → Ev (fun k => impl_Matches.l0 k c x p (p.length : Int) i) (matchF c rest x)) ?_ ?_
  · intro x hx he
    have h1 : 0 < (x.length : Int) := by simp only [patF, Option.some.injEq] at he; omega
    refine ev_succ (ev_of_eq fun k => ?_)
    simp only [impl_Matches.l0, Int.lt_irrefl, h1, ↓reduceIte, matchF]
  · intro i s rest h0 h1 hs hm hw ih x hx he
    refine ev_succ ?_
    have b : x.length < 140737488355328 := by omega
    have w1 : wrap64 ((x.length : Int) - 1) = (x.length : Int) - 1 := w64 (by omega) (by omega)
    have w2 : wrap64 ((x.length : Int) - 2) = (x.length : Int) - 2 := w64 (by omega) (by omega)
    rcases patF_step he with ⟨e1, e2, e3, e4⟩ | ⟨e1, e2, e4⟩ | ⟨e1, e2, e4⟩
    · simp only [impl_Matches.l0, h1, h0, hs, e1, e2, e3, b, hw, ↓reduceIte, impl_ask_f, Option.bind_some, matchF]
      exact ih (x ++ [askM s c]) (by simp; omega) (by simpa using e4)
    · have g1 : 0 ≤ (x.length : Int) - 1 := by omega
      have g2 : (x.length : Int) - 1 < (x.length : Int) := by omega
      simp only [impl_Matches.l0, h1, h0, hs, e1, w1, g1, g2, hw, ↓reduceIte, matchF]
      exact ih _ (by rw [List.length_set]; omega) (by rw [List.length_set]; exact e4)
    · have g1 : 0 ≤ (x.length : Int) - 2 := by omega
      have g2 : (x.length : Int) - 2 < (x.length : Int) := by omega
      have g3 : (x.length : Int) - 2 ≤ (x.length : Int) := by omega
      have g4 : 0 ≤ (x.length : Int) - 1 := by omega
      have g5 : (x.length : Int) - 1 < (x.length : Int) := by omega
      have tl : (x.take ((x.length : Int) - 2).toNat).length = ((x.length : Int) - 2).toNat := by rw [List.length_take]; omega
      have g6 : (x.take ((x.length : Int) - 2).toNat).length < 140737488355328 := by omega
      have nx : ∀ y : Bool, Ev (fun k => impl_Matches.l0 k c (x.take ((x.length : Int) - 2).toNat ++ [y]) p (p.length : Int) (i + 1)) (matchF c rest (x.take ((x.length : Int) - 2).toNat ++ [y])) := by
        intro y
        have ln : ((x.take ((x.length : Int) - 2).toNat ++ [y]).length : Int) = (x.length : Int) - 1 := by rw [List.length_append, tl]; simp; omega
        exact ih _ (by omega) (by rw [ln]; exact e4)
      rcases e1 with e1 | e1
      · have z : ¬ (-2 : Int) = -1 := by omega
        cases hv : rdOf false x ((x.length : Int) - 2)
        · simp only [impl_Matches.l0, h1, h0, hs, e1, z, w1, w2, g1, g2, g3, g4, g5, g6, hv, hw, Option.bind_some, Bool.false_eq_true, Bool.false_and, ↓reduceIte, matchF]
          exact nx false
        · simp only [impl_Matches.l0, h1, h0, hs, e1, z, w1, w2, g1, g2, g3, g4, g5, g6, hv, hw, Option.bind_some, Bool.true_and, ↓reduceIte, matchF]
          exact nx _
      · have z : ¬ (-3 : Int) = -1 := by omega
        have z2 : ¬ (-3 : Int) = -2 := by omega
        cases hv : rdOf false x ((x.length : Int) - 2)
        · simp only [impl_Matches.l0, h1, h0, hs, e1, z, z2, w1, w2, g1, g2, g3, g4, g5, g6, hv, hw, Option.bind_some, Bool.false_eq_true, Bool.false_or, ↓reduceIte, matchF]
          exact nx _
        · simp only [impl_Matches.l0, h1, h0, hs, e1, z, z2, w1, w2, g1, g2, g3, g4, g5, g6, hv, hw, Option.bind_some, Bool.true_or, ↓reduceIte, matchF]
          exact nx true
theorem impl_Matches_ev (p : List Int) (c : Int) (hl : p.length ≤ 1099511627776) : Ev (fun k => impl_Matches.f k p c) (matchM p c) := by
  simp only [impl_Matches.f, impl_IsCard_f, Option.bind_some, matchM]
  refine Ev.bind (impl_IsPattern_ev p hl) ?_
  cases hp : isPatM p
  · simp only [Bool.false_eq_true, ↓reduceIte, Bool.false_and]
    exact ev_succ (ev_of_eq fun k => by simp only [impl_Matches.j0, ↓reduceIte])
  · simp only [↓reduceIte, Bool.true_and]
    refine ev_succ ?_
    cases hc : isCardM c
    · exact ev_of_eq fun k => by simp only [impl_Matches.j0, Bool.not_false, ↓reduceIte, Bool.false_and]
    · simp only [impl_Matches.j0, Bool.not_true, Bool.false_eq_true, ↓reduceIte, Bool.true_and]
      obtain ⟨h1, h2⟩ := isPatM_run hp
      exact impl_Matches_l0 p c h2 h1

/-! impl_CountMatches -/
theorem impl_CountMatches_ev (p l : List Int) (hp : p.length ≤ 1099511627776) (hl : l.length ≤ 1048576) : Ev (fun k => impl_CountMatches.f k p l) ((l.countP (matchM p) : Nat) : Int) := by
  simp only [impl_CountMatches.f]
  suffices H : ∀ t : Int, 0 ≤ t → t ≤ 0 → Ev (fun k => impl_CountMatches.l0 k p t l (l.length : Int) 0) (t + ((l.countP (matchM p) : Nat) : Int)) by simpa using H 0 (by omega) (by omega)
  refine loop_int l (by omega) (P := fun i rest => ∀ t : Int, 0 ≤ t → t ≤ i → Ev (fun k => impl_CountMatches.l0 k p t l (l.length : Int) i) (t + ((rest.countP (matchM p) : Nat) : Int))) ?_ ?_
  · intro t _ _
    refine ev_succ (ev_of_eq fun k => ?_)
    simp [impl_CountMatches.l0]
  · intro i x rest h0 h1 hx hm hw ih t ht0 ht1
    refine ev_succ ?_
    simp only [impl_CountMatches.l0, h1, h0, hx, hw, ↓reduceIte]
    refine Ev.bind (impl_Matches_ev p x hp) ?_
    rw [List.countP_cons]
    cases matchM p x
    · simp only [Bool.false_eq_true, ↓reduceIte, Nat.add_zero]
      exact ih t ht0 (by omega)
    · simp only [↓reduceIte]
      rw [w64 (by omega) (by omega)]
      exact ev_eq (ih (t + 1) (by omega) (by omega)) (by omega)

/-! impl_PlaceOf -/
/-- Where a number stands first, from place i on. -/
def placeF (c : Int) : Int → List Int → Int
  | _, [] => -1
  | i, x :: r => if x = c then i else placeF c (i + 1) r
theorem placeF_iff (c : Int) : ∀ (r : List Int) (i : Int), 0 ≤ i → (decide (placeF c i r ≥ 0) = r.contains c) := by
  intro r
  induction r with
  | nil => intro i h; simp [placeF]
  | cons x r ih =>
    intro i h
    unfold placeF
    by_cases e : x = c
    · simp [e, h]
    · have e' : ¬ c = x := fun g => e g.symm
      rw [if_neg e, ih (i + 1) (by omega)]
      simp [e']
theorem impl_PlaceOf_ev (l : List Int) (c : Int) (hl : l.length ≤ 1099511627776) : Ev (fun k => impl_PlaceOf.f k l c) (placeF c 0 l) := by
  simp only [impl_PlaceOf.f]
  refine loop_int l hl (P := fun i rest => Ev (fun k => impl_PlaceOf.l0 k c l (l.length : Int) i) (placeF c i rest)) ?_ ?_
  · refine ev_succ (ev_of_eq fun k => ?_)
    simp only [impl_PlaceOf.l0, Int.lt_irrefl, ↓reduceIte, placeF]
  · intro i x rest h0 h1 hx _ hw ih
    refine ev_succ ?_
    simp only [impl_PlaceOf.l0, h1, h0, ↓reduceIte, hx, hw, placeF]
    by_cases h : x = c
    · simp only [h, ↓reduceIte]
      exact Ev.now _
    · simp only [h, ↓reduceIte]
      exact ih

/-! impl_HasCard -/
theorem impl_HasCard_ev (l : List Int) (c : Int) (hl : l.length ≤ 1099511627776) : Ev (fun k => impl_HasCard.f k l c) (l.contains c) := by
  simp only [impl_HasCard.f]
  refine Ev.bind (impl_PlaceOf_ev l c hl) ?_
  rw [placeF_iff c l 0 (by omega)]
  exact Ev.now _

/-! impl_Missing -/
theorem impl_Missing_ev (l : List Int) (hl : l.length ≤ 1099511627776) : Ev (fun k => impl_Missing.f k l) (missingM l) := by
  simp only [impl_Missing.f, missingM]
  suffices H : ∀ (n : Nat) (out : List Int) (c : Int), 0 ≤ c → c + n = 52 → out.length ≤ c → Ev (fun k => impl_Missing.l0 k l out c) (out ++ missF l n c) by
    simpa using H 52 [] 0 (by omega) (by omega) (by simp)
  intro n
  induction n with
  | zero =>
    intro out c h0 h1 h2
    have e : ¬ c < 52 := by omega
    refine ev_succ (ev_of_eq fun k => ?_)
    simp only [impl_Missing.l0, e, ↓reduceIte, missF, List.append_nil]
  | succ n ih =>
    intro out c h0 h1 h2
    have e : c < 52 := by omega
    have e3 : out.length < 17592186044416 := by omega
    have e4 : wrap64 (c + 1) = c + 1 := w64 (by omega) (by omega)
    refine ev_succ ?_
    simp only [impl_Missing.l0, e, ↓reduceIte, missF]
    refine Ev.bind (impl_HasCard_ev l c hl) ?_
    cases hc : l.contains c
    · simp only [Bool.false_eq_true, ↓reduceIte, e3, e4]
      have := ih (out ++ [c]) (c + 1) (by omega) (by omega) (by simp; omega)
      simpa using this
    · simp only [↓reduceIte, e4]
      exact ih out (c + 1) (by omega) (by omega) (by omega)

/-! impl_OutsFor -/
theorem impl_OutsFor_ev (p l : List Int) (hp : p.length ≤ 1048576) (hl : l.length ≤ 1048576) : Ev (fun k => impl_OutsFor.f k p l) (((missingM l).countP (matchM p) : Nat) : Int) := by
  simp only [impl_OutsFor.f]
  have := missingM_len l
  exact Ev.bind (impl_Missing_ev l (by omega)) (Ev.bind (impl_CountMatches_ev p (missingM l) (by omega) (by omega)) (Ev.now _))

/-! impl_MatchSet -/
def setF (p : List Int) : Nat → Int → List Int
  | 0, _ => []
  | n + 1, c => if matchM p c = true then c :: setF p n (c + 1) else setF p n (c + 1)
theorem setF_len (p : List Int) : ∀ (n : Nat) (c : Int), (setF p n c).length ≤ n := by
  intro n
  induction n with
  | zero => intro c; simp [setF]
  | succ n ih =>
    intro c
    unfold setF
    have := ih (c + 1)
    by_cases h : matchM p c = true
    · rw [if_pos h, List.length_cons]; omega
    · rw [if_neg h]; omega
theorem impl_MatchSet_ev (p : List Int) (hp : p.length ≤ 1099511627776) : Ev (fun k => impl_MatchSet.f k p) (setF p 52 0) := by
  simp only [impl_MatchSet.f]
  suffices H : ∀ x : List Int, (x.length : Int) ≤ 0 → Ev (fun k => impl_MatchSet.l0 k p x 0) (x ++ setF p 52 0) from H [] (by simp)
  refine loop_up 52 (by omega) (P := fun i m => ∀ x : List Int, (x.length : Int) ≤ i → Ev (fun k => impl_MatchSet.l0 k p x i) (x ++ setF p m i)) ?_ ?_
  · intro x _
    refine ev_succ (ev_of_eq fun k => ?_)
    have c : ¬ ((52 : Nat) : Int) < 52 := by omega
    simp only [impl_MatchSet.l0, c, ↓reduceIte, setF, List.append_nil]
  · intro i m h0 h1 hm hw ih x hx
    have c : i < 52 := by omega
    have b : x.length < 17592186044416 := by omega
    refine ev_succ ?_
    simp only [impl_MatchSet.l0, c, ↓reduceIte, setF, hw]
    refine Ev.bind (impl_Matches_ev p i hp) ?_
    cases matchM p i
    · simp only [Bool.false_eq_true, ↓reduceIte]
      exact ih x (by omega)
    · simp only [b, ↓reduceIte]
      have := ih (x ++ [i]) (by simp; omega)
      rw [List.append_assoc] at this
      exact this

-- uses: LibC LibM
/-! The sum of products, from w on: r terms behind the first. -/
def vanF (g h : Nat) : Nat → Nat → Nat
  | w, 0 => binom g w * binom h 0
  | w, r + 1 => binom g w * binom h (r + 1) + vanF g h (w + 1) r
theorem vanF_zero (h : Nat) : ∀ (r w : Nat), vanF 0 h (w + 1) r = 0 := by
  intro r
  induction r with
  | zero => intro w; simp [vanF, binom]
  | succ r ih => intro w; simp [vanF, binom, ih]
theorem vanF_succ (g h : Nat) : ∀ (r w : Nat), vanF (g + 1) h (w + 1) r = vanF g h w r + vanF g h (w + 1) r := by
  intro r
  induction r with
  | zero => intro w; simp only [vanF, binom_succ, Nat.add_mul]
  | succ r ih => intro w; simp only [vanF, binom_succ, Nat.add_mul, ih]; omega
theorem vanF_eq (h : Nat) : ∀ (g d : Nat), vanF g h 0 d = binom (g + h) d := by
  intro g
  induction g with
  | zero =>
    intro d
    cases d with
    | zero => simp [vanF, binom_zero]
    | succ d => simp only [vanF, vanF_zero, binom_zero, Nat.zero_add, Nat.one_mul, Nat.add_zero]
  | succ g ih =>
    intro d
    cases d with
    | zero => simp [vanF, binom_zero]
    | succ d =>
      have h1 := ih d
      have h2 := ih (d + 1)
      rw [show g + 1 + h = (g + h) + 1 by omega, binom_succ, ← h1, ← h2]
      simp only [vanF, vanF_succ, binom_zero, Nat.one_mul]
      omega
theorem vanF_le (g h : Nat) : ∀ (w r : Nat), vanF g h w r ≤ binom (g + h) (w + r) := by
  intro w
  induction w with
  | zero => intro r; rw [vanF_eq, Nat.zero_add]; exact Nat.le_refl _
  | succ w ih =>
    intro r
    have := ih (r + 1)
    simp only [vanF] at this
    rw [show w + 1 + r = w + (r + 1) by omega]
    omega
theorem vanF_first (g h w : Nat) : ∀ r, binom g w * binom h r ≤ vanF g h w r := by
  intro r
  cases r with
  | zero => exact Nat.le_refl _
  | succ r => simp only [vanF]; omega
theorem chooseM_nat (n k : Nat) (hn : n ≤ 52) : chooseM (n : Int) (k : Int) = ((binom n k : Nat) : Int) := by
  unfold chooseM
  by_cases h : k ≤ n
  · rw [if_pos (by omega)]; simp
  · rw [if_neg (by omega), binom_gt n k (by omega)]; rfl
theorem chooseM_sym (n k : Int) (h0 : 0 ≤ k) (h1 : k ≤ n) (h2 : n ≤ 53) : chooseM n k = chooseM n (wrap64 (n - k)) := by
  rw [w64 (by omega) (by omega)]
  unfold chooseM
  by_cases h : n ≤ 52
  · rw [if_pos (by omega), if_pos (by omega)]
    have e := binom_symm k.toNat (n - k).toNat
    rw [show k.toNat + (n - k).toNat = n.toNat by omega] at e
    rw [e]
  · rw [if_neg (by omega), if_neg (by omega)]
theorem chooseM_pascal (n k : Int) (h0 : 1 ≤ k) (h1 : k ≤ n) (h2 : n ≤ 52) : chooseM n k = wrap64 (chooseM (wrap64 (n - 1)) k + chooseM (wrap64 (n - 1)) (wrap64 (k - 1))) := by
  rw [w64 (n := n - 1) (by omega) (by omega), w64 (n := k - 1) (by omega) (by omega)]
  obtain ⟨m, rfl⟩ : ∃ m : Nat, n = ((m + 1 : Nat) : Int) := ⟨(n - 1).toNat, by omega⟩
  obtain ⟨j, rfl⟩ : ∃ j : Nat, k = ((j + 1 : Nat) : Int) := ⟨(k - 1).toNat, by omega⟩
  rw [show ((m + 1 : Nat) : Int) - 1 = (m : Int) by omega, show ((j + 1 : Nat) : Int) - 1 = (j : Int) by omega]
  rw [chooseM_nat (m + 1) (j + 1) (by omega), chooseM_nat m (j + 1) (by omega), chooseM_nat m j (by omega), binom_succ]
  have a := binom_le52 m j (by omega)
  have b := binom_le52 m (j + 1) (by omega)
  rw [w64 (by omega) (by omega)]
  omega
theorem waysM_nat (g h d w : Nat) (hu : g + h ≤ 52) (hd : d ≤ 10) (hw : w ≤ d) : waysM ((g + h : Nat) : Int) (g : Int) (d : Int) (w : Int) = ((binom g w * binom h (d - w) : Nat) : Int) := by
  unfold waysM
  have ok : okM ((g + h : Nat) : Int) (g : Int) (d : Int) (w : Int) = true := by
    unfold okM
    simp only [Bool.and_eq_true, decide_eq_true_eq]
    omega
  rw [if_pos ok, w64 (n := ((g + h : Nat) : Int) - (g : Int)) (by omega) (by omega), w64 (n := (d : Int) - (w : Int)) (by omega) (by omega)]
  rw [show ((g + h : Nat) : Int) - (g : Int) = (h : Int) by omega, show (d : Int) - (w : Int) = ((d - w : Nat) : Int) by omega]
  rw [chooseM_nat g w (by omega), chooseM_nat h (d - w) (by omega)]
  have a := vanF_first g h w (d - w)
  have b := vanF_le g h w (d - w)
  have c := binom_le52 (g + h) (w + (d - w)) hu
  rw [← Int.natCast_mul]
  exact w64 (by omega) (by omega)
theorem atLeastF_nat (g h d : Nat) (hu : g + h ≤ 52) (hd : d ≤ 10) : ∀ (r w : Nat) (acc : Int), w + r = d → 0 ≤ acc → acc + ((vanF g h w r : Nat) : Int) ≤ 9007199254740992 →
    atLeastF ((g + h : Nat) : Int) (g : Int) (d : Int) (r + 1) acc (w : Int) = acc + ((vanF g h w r : Nat) : Int) := by
  intro r
  induction r with
  | zero =>
    intro w acc hw h0 h1
    unfold atLeastF
    unfold atLeastF
    have := waysM_nat g h d w hu hd (by omega)
    rw [this, show d - w = 0 by omega]
    simp only [vanF] at h1 ⊢
    exact w64 (by omega) (by omega)
  | succ r ih =>
    intro w acc hw h0 h1
    rw [atLeastF, waysM_nat g h d w hu hd (by omega), show d - w = r + 1 by omega]
    simp only [vanF] at h1 ⊢
    rw [w64 (by omega) (by omega), show (w : Int) + 1 = ((w + 1 : Nat) : Int) by omega]
    rw [ih (w + 1) _ (by omega) (by omega) (by omega)]
    omega
theorem okM_nat {u g d w : Int} (h : okM u g d w = true) : ∃ (a b e f : Nat), u = ((a + b : Nat) : Int) ∧ g = (a : Int) ∧ d = (e : Int) ∧ w = (f : Int) ∧ a + b ≤ 52 ∧ e ≤ 10 ∧ f ≤ e := by
  unfold okM at h
  simp only [Bool.and_eq_true, decide_eq_true_eq] at h
  exact ⟨g.toNat, (u - g).toNat, d.toNat, w.toNat, by omega, by omega, by omega, by omega, by omega, by omega, by omega⟩
theorem atLeastM_nat (g h d w : Nat) (hu : g + h ≤ 52) (hd : d ≤ 10) (hw : w ≤ d) : atLeastM ((g + h : Nat) : Int) (g : Int) (d : Int) (w : Int) = ((vanF g h w (d - w) : Nat) : Int) := by
  have ok : okM ((g + h : Nat) : Int) (g : Int) (d : Int) (w : Int) = true := by
    unfold okM
    simp only [Bool.and_eq_true, decide_eq_true_eq]
    omega
  unfold atLeastM
  have b := vanF_le g h w (d - w)
  have c := binom_le52 (g + h) (w + (d - w)) hu
  rw [if_pos ok, show ((d : Int) - (w : Int) + 1).toNat = (d - w) + 1 by omega, atLeastF_nat g h d hu hd (d - w) w 0 (by omega) (by omega) (by omega)]
  omega
theorem atLeastM_all (u g d : Int) (h0 : 0 ≤ u) (h1 : u ≤ 52) (h2 : 0 ≤ g) (h3 : g ≤ u) (h4 : 0 ≤ d) (h5 : d ≤ 10) : atLeastM u g d 0 = chooseM u d := by
  obtain ⟨a, b, e, f, rfl, rfl, rfl, hf, x1, x2, x3⟩ := okM_nat (u := u) (g := g) (d := d) (w := 0) (by unfold okM; simp only [Bool.and_eq_true, decide_eq_true_eq]; omega)
  have := atLeastM_nat a b e 0 x1 x2 (by omega)
  rw [show ((0 : Nat) : Int) = 0 from rfl] at this
  rw [this, Nat.sub_zero, vanF_eq, chooseM_nat (a + b) e x1]
theorem ways_le (u g d w : Int) : waysM u g d w ≤ atLeastM u g d w := by
  by_cases ok : okM u g d w = true
  · obtain ⟨a, b, e, f, rfl, rfl, rfl, rfl, x1, x2, x3⟩ := okM_nat ok
    rw [waysM_nat a b e f x1 x2 x3, atLeastM_nat a b e f x1 x2 x3]
    have := vanF_first a b f (e - f)
    omega
  · unfold waysM atLeastM
    rw [if_neg ok, if_neg ok]
    exact Int.le_refl _
theorem perM_range (u g d w : Int) : 0 ≤ perM u g d w ∧ perM u g d w ≤ 1000 := by
  unfold perM
  by_cases ok : okM u g d w = true
  · rw [if_pos ok]
    obtain ⟨a, b, e, f, rfl, rfl, rfl, rfl, x1, x2, x3⟩ := okM_nat ok
    rw [atLeastM_nat a b e f x1 x2 x3, chooseM_nat (a + b) e x1]
    have v := vanF_le a b f (e - f)
    rw [show f + (e - f) = e by omega] at v
    have c := binom_le52 (a + b) e x1
    by_cases z : ((binom (a + b) e : Nat) : Int) = 0
    · rw [if_pos z]; omega
    · rw [if_neg z]
      generalize vanF a b f (e - f) = x at v
      generalize binom (a + b) e = y at v c z
      rw [w64 (n := 1000 * (x : Int)) (by omega) (by omega), Int.tdiv_eq_ediv_of_nonneg (by omega)]
      have q0 : 0 ≤ (1000 * (x : Int)) / (y : Int) := Int.ediv_nonneg (by omega) (by omega)
      have q1 : (1000 * (x : Int)) / (y : Int) ≤ 1000 := by
        apply Int.ediv_le_of_le_mul (by omega)
        omega
      rw [w64 (by omega) (by omega)]
      exact ⟨q0, q1⟩
  · rw [if_neg ok]; omega
/-! What is missing, and what is missing of that. -/
theorem missF_mem (l : List Int) : ∀ (n : Nat) (c x : Int), x ∈ missF l n c ↔ (c ≤ x ∧ x < c + n ∧ x ∉ l) := by
  intro n
  induction n with
  | zero => intro c x; simp [missF]; omega
  | succ n ih =>
    intro c x
    unfold missF
    by_cases h : l.contains c = true
    · rw [if_pos h, ih]
      have hc : c ∈ l := by simpa using h
      constructor
      · rintro ⟨h1, h2, h3⟩; exact ⟨by omega, by omega, h3⟩
      · rintro ⟨h1, h2, h3⟩
        have : x ≠ c := fun e => h3 (e ▸ hc)
        exact ⟨by omega, by omega, h3⟩
    · rw [if_neg h, List.mem_cons, ih]
      have hc : c ∉ l := by simpa using h
      constructor
      · rintro (e | ⟨h1, h2, h3⟩)
        · subst e; exact ⟨by omega, by omega, hc⟩
        · exact ⟨by omega, by omega, h3⟩
      · rintro ⟨h1, h2, h3⟩
        by_cases e : x = c
        · exact Or.inl e
        · exact Or.inr ⟨by omega, by omega, h3⟩
theorem miss_count (p l : List Int) : ∀ (n : Nat) (c : Int), 0 ≤ c → c + n ≤ 52 → (missF l n c).countP (matchM p) + (missF (missingM l) n c).countP (matchM p) = (setF p n c).length := by
  intro n
  induction n with
  | zero => intro c _ _; simp [missF, setF]
  | succ n ih =>
    intro c h0 h1
    have e := ih (c + 1) (by omega) (by omega)
    have hm : (missingM l).contains c = !l.contains c := by
      rw [Bool.eq_iff_iff]
      unfold missingM
      simp only [List.contains_eq_mem, decide_eq_true_eq, missF_mem, Bool.not_eq_true', decide_eq_false_iff_not]
      constructor
      · exact fun h => h.2.2
      · exact fun h => ⟨h0, by omega, h⟩
    simp only [missF, setF, hm]
    cases hc : l.contains c
    · simp only [Bool.not_false, ↓reduceIte, Bool.false_eq_true, List.countP_cons]
      cases matchM p c
      · simp only [Bool.false_eq_true, ↓reduceIte]; omega
      · simp only [↓reduceIte, List.length_cons]; omega
    · simp only [Bool.not_true, ↓reduceIte, Bool.false_eq_true, List.countP_cons]
      cases matchM p c
      · simp only [Bool.false_eq_true, ↓reduceIte]; omega
      · simp only [↓reduceIte, List.length_cons]; omega
theorem FnChances_j1 (d : List Int) (hd : d.length ≤ 1048576) (u g e w : Int) : Ev (fun k => laws_FnChances.j1 k d u g e w false) true := by
  obtain ⟨a, b, ed, ha, hb⟩ := spec_DrawOutsFor_ex d hd
  obtain ⟨r0, r1⟩ := perM_range u g e w
  have r0' : perM u g e w ≥ 0 := r0
  have hw := ways_le u g e w
  have m1 := missingM_len b
  have m2 := missingM_len (missingM b)
  have hc := miss_count a b 52 0 (by omega) (by omega)
  have c1 : (missingM b).countP (matchM a) ≤ (missingM b).length := List.countP_le_length
  have c2 : (missingM (missingM b)).countP (matchM a) ≤ (missingM (missingM b)).length := List.countP_le_length
  have o0 : (((missingM b).countP (matchM a) : Nat) : Int) ≥ 0 := by omega
  refine ev_succ ?_
  simp only [laws_FnChances.j1, Bool.false_eq_true, ↓reduceIte]
  refine Ev.bind (impl_PerThousand_ev u g e w) ?_
  refine Ev.bind ed ?_
  refine Ev.bind (impl_OutsFor_ev a b (by omega) (by omega)) ?_
  simp only [r0', r1, ↓reduceIte]
  refine Ev.bind (impl_WaysWith_ev u g e w) ?_
  refine Ev.bind (impl_WaysAtLeast_ev u g e w) ?_
  simp only [hw, o0, ↓reduceIte]
  refine Ev.bind (impl_Missing_ev b (by omega)) ?_
  refine Ev.bind (impl_Missing_ev (missingM b) (by omega)) ?_
  refine Ev.bind (impl_CountMatches_ev a (missingM (missingM b)) (by omega) (by omega)) ?_
  refine Ev.bind (impl_MatchSet_ev a (by omega)) ?_
  refine ev_of_eq fun k => ?_
  rw [w64 (by omega) (by omega)]
  have : (((missingM b).countP (matchM a) : Nat) : Int) + (((missingM (missingM b)).countP (matchM a) : Nat) : Int) = ((setF a 52 0).length : Int) := by
    rw [← hc]
    show _ = (((missingM b).countP (matchM a) + (missingM (missingM b)).countP (matchM a) : Nat) : Int)
    omega
  rw [this]
  simp
theorem FnChances_j0 (d : List Int) (hd : d.length ≤ 1048576) : Ev (fun k => laws_FnChances.j0 k d false) true := by
  obtain ⟨u, g, e, w, ed⟩ := spec_DrawWaysAtLeast_ex d hd
  have j := FnChances_j1 d hd u g e w
  refine ev_succ ?_
  simp only [laws_FnChances.j0, Bool.false_eq_true, ↓reduceIte]
  refine Ev.bind ed ?_
  refine Ev.bind (impl_WaysAtLeast_ev u g e 0) ?_
  by_cases h1 : u ≥ 0
  · by_cases h2 : u ≤ 52
    · by_cases h3 : g ≥ 0
      · by_cases h4 : g ≤ u
        · by_cases h5 : e ≥ 0
          · by_cases h6 : e ≤ 10
            · simp only [h1, h2, h3, h4, h5, h6, ↓reduceIte]
              refine Ev.bind (impl_Choose_ev u e) ?_
              rw [atLeastM_all u g e h1 h2 h3 h4 h5 h6]
              simp only [bne_self_eq_false]
              exact j
            · simp only [h1, h2, h3, h4, h5, h6, ↓reduceIte]; exact j
          · simp only [h1, h2, h3, h4, h5, ↓reduceIte]; exact j
        · simp only [h1, h2, h3, h4, ↓reduceIte]; exact j
      · simp only [h1, h2, h3, ↓reduceIte]; exact j
    · simp only [h1, h2, ↓reduceIte]; exact j
  · simp only [h1, ↓reduceIte]; exact j
theorem FnChances : laws_FnChances.Pure := by
  intro d _ _ _
  refine Ev.rounds (g := fun k => laws_FnChances.f k d) ?_
  by_cases hb : (d.length : Int) > 1048576
  · exact ev_of_eq fun k => by simp only [laws_FnChances.f, laws_big.f, Option.bind_some, hb, decide_true, ↓reduceIte]
  have hd : d.length ≤ 1048576 := by omega
  have j := FnChances_j0 d hd
  simp only [laws_FnChances.f, laws_big.f, Option.bind_some, hb, decide_false, Bool.false_eq_true, ↓reduceIte]
  obtain ⟨n, c, ed, n0, n1, c0, c1⟩ := spec_DrawChoose_ex d hd
  refine Ev.bind ed ?_
  refine Ev.bind (impl_Choose_ev n c) ?_
  refine Ev.bind (spec_Choose_ev n c) ?_
  simp only [↓reduceIte]
  have pas : 1 ≤ n → n ≤ 52 → 1 ≤ c → c ≤ n → Ev (fun k => (impl_Choose.f k n c).bind fun x => (impl_Choose.f k (wrap64 (n - 1)) c).bind fun y => (impl_Choose.f k (wrap64 (n - 1)) (wrap64 (c - 1))).bind fun z => laws_FnChances.j0 k d (x != wrap64 (y + z))) true := by
    intro a1 a2 a3 a4
    refine Ev.bind (impl_Choose_ev n c) ?_
    refine Ev.bind (impl_Choose_ev _ c) ?_
    refine Ev.bind (impl_Choose_ev _ _) ?_
    rw [← chooseM_pascal n c a3 a4 a2]
    simp only [bne_self_eq_false]
    exact j
  by_cases h1 : c ≥ 0
  · by_cases h2 : c ≤ n
    · simp only [h1, h2, ↓reduceIte]
      refine Ev.bind (impl_Choose_ev n c) ?_
      refine Ev.bind (impl_Choose_ev n _) ?_
      rw [← chooseM_sym n c h1 h2 n1]
      simp only [↓reduceIte]
      by_cases h3 : n ≥ 1
      · by_cases h4 : n ≤ 52
        · by_cases h5 : c ≥ 1
          · simp only [h3, h4, h5, ↓reduceIte]
            exact pas h3 h4 h5 h2
          · simp only [h3, h4, h5, ↓reduceIte]; exact j
        · simp only [h3, h4, ↓reduceIte]; exact j
      · simp only [h3, ↓reduceIte]; exact j
    · simp only [h1, h2, ↓reduceIte]
      by_cases h3 : n ≥ 1
      · by_cases h4 : n ≤ 52
        · by_cases h5 : c ≥ 1
          · simp only [h3, h4, h5, ↓reduceIte]; exact j
          · simp only [h3, h4, h5, ↓reduceIte]; exact j
        · simp only [h3, h4, ↓reduceIte]; exact j
      · simp only [h3, ↓reduceIte]; exact j
  · have h5 : ¬ c ≥ 1 := by omega
    simp only [h1, ↓reduceIte]
    by_cases h3 : n ≥ 1
    · by_cases h4 : n ≤ 52
      · simp only [h3, h4, h5, ↓reduceIte]; exact j
      · simp only [h3, h4, ↓reduceIte]; exact j
    · simp only [h3, ↓reduceIte]; exact j

end Go.Proofs.Ytkhgeockdjjhmaa.Pure
