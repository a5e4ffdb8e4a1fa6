/- Lemmas about binomial coefficients. No condition of its own. -/
import Derived.Test.YtkhgeockdjjhmaaLib
namespace Go.Proofs.Ytkhgeockdjjhmaa.Lib
open Go.RowKit Go.Proofs.YtkhgeockdjjhmaaW.PrintWords Go.Proofs.YtkhgeockdjjhmaaW.PrintLast Go.Proofs.YtkhgeockdjjhmaaW.PrintMore
set_option linter.unusedVariables false
set_option linter.unusedSimpArgs false

def binom : Nat → Nat → Nat
  | _, 0 => 1
  | 0, _ + 1 => 0
  | n + 1, k + 1 => binom n k + binom n (k + 1)
theorem binom_zero (n : Nat) : binom n 0 = 1 := by cases n <;> rfl
theorem binom_succ (n k : Nat) : binom (n + 1) (k + 1) = binom n k + binom n (k + 1) := rfl
theorem binom_gt (n : Nat) : ∀ k, n < k → binom n k = 0 := by
  induction n with
  | zero => intro k h; obtain ⟨k, rfl⟩ : ∃ m, k = m + 1 := ⟨k - 1, by omega⟩; rfl
  | succ n ih =>
    intro k h
    obtain ⟨k, rfl⟩ : ∃ m, k = m + 1 := ⟨k - 1, by omega⟩
    rw [binom_succ, ih k (by omega), ih (k + 1) (by omega)]
theorem binom_self (n : Nat) : binom n n = 1 := by
  induction n with
  | zero => rfl
  | succ n ih => rw [binom_succ, ih, binom_gt n (n + 1) (by omega)]
theorem binom_le (n : Nat) : ∀ k, binom n k ≤ 2 ^ n := by
  induction n with
  | zero => intro k; cases k <;> simp [binom]
  | succ n ih =>
    intro k
    cases k with
    | zero => rw [binom_zero]; exact Nat.one_le_two_pow
    | succ k => rw [binom_succ, Nat.pow_succ]; have := ih k; have := ih (k + 1); omega
theorem binom_le52 (n k : Nat) (h : n ≤ 52) : binom n k ≤ 4503599627370496 := by
  have h1 := binom_le n k
  have h2 : 2 ^ n ≤ 2 ^ 52 := Nat.pow_le_pow_right (by omega) h
  have h3 : (2 : Nat) ^ 52 = 4503599627370496 := by rfl
  omega
theorem binom_pos (n : Nat) : ∀ k, k ≤ n → 1 ≤ binom n k := by
  induction n with
  | zero => intro k h; obtain rfl : k = 0 := by omega
            simp [binom]
  | succ n ih =>
    intro k h
    cases k with
    | zero => rw [binom_zero]; omega
    | succ k => rw [binom_succ]; have := ih k (by omega); omega
theorem binom_step (n : Nat) : ∀ i, (i + 1) * binom n (i + 1) + i * binom n i = n * binom n i := by
  induction n with
  | zero => intro i; cases i <;> simp [binom]
  | succ n ih =>
    intro i
    cases i with
    | zero =>
      have := ih 0
      rw [binom_succ, binom_zero, binom_zero] at *
      omega
    | succ j =>
      have h1 := ih (j + 1)
      have h0 := ih j
      rw [binom_succ, binom_succ]
      simp only [Nat.add_mul, Nat.mul_add, Nat.one_mul] at *
      omega
theorem binom_symm (a : Nat) : ∀ b, binom (a + b) a = binom (a + b) b := by
  induction a with
  | zero => intro b; rw [binom_zero, Nat.zero_add, binom_self]
  | succ a iha =>
    intro b
    induction b with
    | zero => rw [binom_zero, Nat.add_zero, binom_self]
    | succ b ihb =>
      have h1 := iha (b + 1)
      rw [show a + 1 + (b + 1) = (a + (b + 1)) + 1 by omega, binom_succ, binom_succ, h1]
      rw [show a + 1 + b = a + (b + 1) by omega] at ihb
      omega
def chooseM (n k : Int) : Int := if 0 ≤ n ∧ n ≤ 52 ∧ 0 ≤ k ∧ k ≤ n then (binom n.toNat k.toNat : Int) else 0
def rowF (k i j : Nat) : List Int := (List.range (k + 1)).map fun m => ((if m ≤ j then binom i m else binom (i + 1) m : Nat) : Int)
theorem rowF_length (k i j : Nat) : (rowF k i j).length = k + 1 := by simp [rowF]
theorem rowF_rd (k i j : Nat) (m : Int) (h0 : 0 ≤ m) (h : m ≤ j) (hk : m ≤ k) : rd (rowF k i j) m = (binom i m.toNat : Nat) := by
  have h1 : m.toNat < k + 1 := by omega
  have h2 : m.toNat ≤ j := by omega
  unfold rd rowF
  simp [List.getD_eq_getElem?_getD, h1, h2]
theorem rowF_set (k i j : Nat) (hj : j + 1 ≤ k) (v : Int) (hv : v = (binom (i + 1) (j + 1) : Nat)) : (rowF k i (j + 1)).set (j + 1) v = rowF k i j := by
  subst hv
  apply List.ext_getElem
  · simp [rowF]
  · intro m h1 h2
    rw [List.getElem_set]
    simp only [rowF, List.getElem_map, List.getElem_range]
    by_cases e : j + 1 = m
    · subst e
      rw [if_pos rfl, if_neg (by omega)]
    · rw [if_neg e]
      by_cases h : m ≤ j
      · rw [if_pos h, if_pos (by omega)]
      · rw [if_neg h, if_neg (by omega)]
theorem rowF_next (k i : Nat) : rowF k i 0 = rowF k (i + 1) k := by
  apply List.ext_getElem
  · simp [rowF]
  · intro m h1 h2
    simp only [rowF, List.getElem_map, List.getElem_range]
    rw [rowF_length] at h2
    rw [if_pos (show m ≤ k by omega)]
    by_cases h : m ≤ 0
    · obtain rfl : m = 0 := by omega
      rw [if_pos h, binom_zero, binom_zero]
    · rw [if_neg h]
theorem rowF_min (k i : Nat) : rowF k i k = rowF k i (min (i + 1) k) := by
  apply List.ext_getElem
  · simp [rowF]
  · intro m h1 h2
    simp only [rowF, List.getElem_map, List.getElem_range]
    rw [rowF_length] at h2
    rw [if_pos (show m ≤ k by omega)]
    by_cases h : m ≤ min (i + 1) k
    · rw [if_pos h]
    · rw [if_neg h, binom_gt _ _ (by omega), binom_gt _ _ (by omega)]
theorem rowF_first (k : Nat) : (List.replicate (k + 1) (0 : Int)).set 0 1 = rowF k 0 k := by
  apply List.ext_getElem
  · simp [rowF]
  · intro m h1 h2
    rw [List.getElem_set]
    simp only [rowF, List.getElem_map, List.getElem_range, List.getElem_replicate]
    rw [rowF_length] at h2
    rw [if_pos (show m ≤ k by omega)]
    by_cases e : 0 = m
    · subst e; simp [binom]
    · rw [if_neg e, binom_gt _ _ (by omega)]; rfl
theorem mn_toNat (i k : Nat) : mn (i : Int) (k : Int) = ((min i k : Nat) : Int) := by unfold mn; split <;> omega

def okM (u g d w : Int) : Bool := decide (0 ≤ u ∧ u ≤ 52) && decide (0 ≤ g ∧ g ≤ u) && decide (0 ≤ d ∧ d ≤ 10) && decide (0 ≤ w ∧ w ≤ d)
def waysM (u g d w : Int) : Int := if okM u g d w = true then wrap64 (chooseM g w * chooseM (wrap64 (u - g)) (wrap64 (d - w))) else 0
def atLeastF (u g d : Int) : Nat → Int → Int → Int
  | 0, acc, _ => acc
  | n + 1, acc, w => atLeastF u g d n (wrap64 (acc + waysM u g d w)) (w + 1)
def atLeastM (u g d w : Int) : Int := if okM u g d w = true then atLeastF u g d (d - w + 1).toNat 0 w else 0
def perM (u g d w : Int) : Int := if okM u g d w = true then (if chooseM u d = 0 then 0 else wrap64 (Int.tdiv (wrap64 (1000 * atLeastM u g d w)) (chooseM u d))) else 0
end Go.Proofs.Ytkhgeockdjjhmaa.Lib
