/- What a card answers a pattern, as a function over the program's own list operations. No condition of its own. -/
import Derived.Test.YtdfmobcocaijpaaDoorVLib
namespace Go.Proofs.YtdfmobcocaijpaaDoor.Lib
open Go.RowKit Go.Proofs.YtdfmobcocaijpaaDoorW.PrintWords Go.Proofs.YtdfmobcocaijpaaDoorW.PrintLast Go.Proofs.YtdfmobcocaijpaaDoorW.PrintMore
set_option linter.unusedVariables false
set_option linter.unusedSimpArgs false

def askM (s c : Int) : Bool := if s = 400 then isRedM c else if s ≥ 300 then decide (rankM c ≥ wrap64 (s - 300)) else if s ≥ 200 then rankM c == wrap64 (s - 200) else suitM c == wrap64 (s - 100)
def matchF (c : Int) : List Int → List Bool → Bool
  | [], x => rdOf false x 0
  | s :: r, x =>
    if s = -1 then matchF c r (x.set ((x.length : Int) - 1).toNat (!(rdOf false x ((x.length : Int) - 1))))
    else if s = -2 then matchF c r (x.take ((x.length : Int) - 2).toNat ++ [rdOf false x ((x.length : Int) - 2) && rdOf false x ((x.length : Int) - 1)])
    else if s = -3 then matchF c r (x.take ((x.length : Int) - 2).toNat ++ [rdOf false x ((x.length : Int) - 2) || rdOf false x ((x.length : Int) - 1)])
    else matchF c r (x ++ [askM s c])
def matchM (p : List Int) (c : Int) : Bool := isPatM p && (isCardM c && matchF c p [])
theorem isPatM_run {p : List Int} (h : isPatM p = true) : patF p 0 = some 1 ∧ p.length ≤ 20 := by
  unfold isPatM at h
  cases e : patF p 0 with
  | none => rw [e] at h; simp [patEnd] at h
  | some n =>
    rw [e] at h
    simp only [patEnd, Bool.and_eq_true, decide_eq_true_eq] at h
    exact ⟨by rw [h.1], h.2⟩
/-- One step of a pattern that is well formed: which of the four, and what is left. -/
theorem patF_step {s : Int} {r : List Int} {n : Int} (h : patF (s :: r) n = some 1) :
    (s ≠ -1 ∧ s ≠ -2 ∧ s ≠ -3 ∧ patF r (n + 1) = some 1) ∨ (s = -1 ∧ 1 ≤ n ∧ patF r n = some 1) ∨ ((s = -2 ∨ s = -3) ∧ 2 ≤ n ∧ patF r (n - 1) = some 1) := by
  unfold patF at h
  by_cases hl : leafM s = true
  · rw [if_pos hl] at h
    unfold leafM at hl
    simp only [Bool.or_eq_true, decide_eq_true_eq, beq_iff_eq] at hl
    exact Or.inl ⟨by omega, by omega, by omega, h⟩
  · rw [if_neg hl] at h
    by_cases h1 : s = -1 ∧ 1 ≤ n
    · rw [if_pos h1] at h
      exact Or.inr (Or.inl ⟨h1.1, h1.2, h⟩)
    · rw [if_neg h1] at h
      by_cases h2 : (s = -2 ∨ s = -3) ∧ 2 ≤ n
      · rw [if_pos h2] at h
        exact Or.inr (Or.inr ⟨h2.1, h2.2, h⟩)
      · rw [if_neg h2] at h
        exact absurd h (by simp)

end Go.Proofs.YtdfmobcocaijpaaDoor.Lib
