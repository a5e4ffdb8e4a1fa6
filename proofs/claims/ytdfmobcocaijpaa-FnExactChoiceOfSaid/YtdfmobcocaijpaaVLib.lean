/- Lemmas of this place's own for the plain laws. No condition beyond what each names. -/
import Derived.Test.YtdfmobcocaijpaaVMore
import Derived.Test.YtdfmobcocaijpaaVSized
namespace Go.Proofs.Ytdfmobcocaijpaa.Lib
open Go.RowKit Go.Proofs.YtdfmobcocaijpaaW.PrintWords Go.Proofs.YtdfmobcocaijpaaW.PrintLast Go.Proofs.YtdfmobcocaijpaaW.PrintMore
set_option linter.unusedVariables false
set_option linter.unusedSimpArgs false
theorem w64 {n : Int} (h : -9223372036854775808 ≤ n) (h' : n ≤ 9223372036854775807) : wrap64 n = n := by unfold wrap64; omega
section ev
variable {α β : Type}
theorem ev_succ {g : Nat → Option α} {r : α} (h : Ev (fun k => g (k + 1)) r) : Ev g r := Ev.step (fun _ => rfl) h
theorem ev_of_eq {g : Nat → Option α} {r : α} (h : ∀ k, g k = some r) : Ev g r := ⟨0, fun k _ => h k⟩
theorem ev_eq {g : Nat → Option α} {r r' : α} (h : Ev g r) (e : r = r') : Ev g r' := e ▸ h
end ev
section loops
variable {α : Type}
theorem loop_pre (l : List α) (d : α) (hl : l.length ≤ 1099511627776) {P : Int → List α → List α → Prop}
    (hend : P (l.length : Int) l [])
    (hstep : ∀ (i : Int) (pre : List α) (x : α) (rest : List α), l = pre ++ x :: rest → i = pre.length → 0 ≤ i → i < (l.length : Int) → l.getD i.toNat d = x → wrap64 (i + 1) = i + 1 → P (i + 1) (pre ++ [x]) rest → P i pre (x :: rest)) : P 0 [] l := by
  suffices H : ∀ (rest pre : List α), l = pre ++ rest → P (pre.length : Int) pre rest by simpa using H l [] rfl
  intro rest
  induction rest with
  | nil => intro pre h; simp at h; subst h; exact hend
  | cons x rest ih =>
    intro pre h
    have hlen : l.length = pre.length + (rest.length + 1) := by rw [h]; simp
    refine hstep _ pre x rest h rfl (by omega) (by omega) ?_ (w64 (by omega) (by omega)) ?_
    · rw [h]; simp [List.getD_eq_getElem?_getD]
    · have := ih (pre ++ [x]) (by simp [h])
      simpa using this
theorem loop_of (l : List α) (d : α) (hl : l.length ≤ 1099511627776) {P : Int → List α → Prop}
    (hend : P (l.length : Int) [])
    (hstep : ∀ (i : Int) (x : α) (rest : List α), 0 ≤ i → i < (l.length : Int) → rdOf d l i = x → x ∈ l → wrap64 (i + 1) = i + 1 → P (i + 1) rest → P i (x :: rest)) : P 0 l :=
  loop_pre l d hl (P := fun i _ rest => P i rest) hend (fun i pre x rest h _ h0 h1 h2 h3 h4 => hstep i x rest h0 h1 h2 (by rw [h]; simp) h3 h4)
theorem loop_int (l : List Int) (hl : l.length ≤ 1099511627776) {P : Int → List Int → Prop}
    (hend : P (l.length : Int) [])
    (hstep : ∀ (i : Int) (x : Int) (rest : List Int), 0 ≤ i → i < (l.length : Int) → rd l i = x → x ∈ l → wrap64 (i + 1) = i + 1 → P (i + 1) rest → P i (x :: rest)) : P 0 l :=
  loop_of l 0 hl hend hstep
theorem loop_int_pre (l : List Int) (hl : l.length ≤ 1099511627776) {P : Int → List Int → List Int → Prop}
    (hend : P (l.length : Int) l [])
    (hstep : ∀ (i : Int) (pre : List Int) (x : Int) (rest : List Int), l = pre ++ x :: rest → i = pre.length → 0 ≤ i → i < (l.length : Int) → rd l i = x → wrap64 (i + 1) = i + 1 → P (i + 1) (pre ++ [x]) rest → P i pre (x :: rest)) : P 0 [] l :=
  loop_pre l 0 hl hend hstep
theorem set_mid (pre rest : List α) (i : Int) (hi : i = pre.length) (y x : α) : (pre ++ y :: rest).set i.toNat x = (pre ++ [x]) ++ rest := by
  subst hi
  simp [List.set_append]
theorem getD_mid (pre rest : List α) (i : Int) (hi : i = pre.length) (y d : α) : (pre ++ y :: rest).getD i.toNat d = y := by
  subst hi
  simp [List.getD_eq_getElem?_getD]
theorem rd_mid (pre rest : List Int) (i : Int) (hi : i = pre.length) (y : Int) : rd (pre ++ y :: rest) i = y := getD_mid pre rest i hi y 0
end loops
def isCardM (c : Int) : Bool := decide (0 ≤ c ∧ c ≤ 51)
def suitM (c : Int) : Int := if 0 ≤ c ∧ c ≤ 51 then c / 13 else -1
def rankM (c : Int) : Int := if 0 ≤ c ∧ c ≤ 51 then c % 13 else -1
theorem tdiv13 (c : Int) (h0 : 0 ≤ c) (h : c ≤ 51) : wrap64 (Int.tdiv c 13) = c / 13 := by
  rw [Int.tdiv_eq_ediv_of_nonneg h0]
  exact w64 (by omega) (by omega)
theorem tmod13 (c : Int) (h0 : 0 ≤ c) : Int.tmod c 13 = c % 13 := Int.tmod_eq_emod_of_nonneg h0
theorem suitM_range (c : Int) : -1 ≤ suitM c ∧ suitM c ≤ 3 := by unfold suitM; split <;> omega
theorem suitM_nonneg (c : Int) : 0 ≤ suitM c ↔ 0 ≤ c ∧ c ≤ 51 := by unfold suitM; split <;> omega
def isRedM (c : Int) : Bool := decide (1 ≤ suitM c ∧ suitM c ≤ 2)
theorem isCardM_iff (c : Int) : isCardM c = true ↔ 0 ≤ c ∧ c ≤ 51 := by simp [isCardM]
def mostF (l : List Int) : Int → Int → List Int → Int
  | best, _, [] => best
  | best, i, x :: rest => if best < 0 then mostF l i (i + 1) rest else if x > rd l best then mostF l i (i + 1) rest else mostF l best (i + 1) rest
def countStep (l : List Int) (c : Int) : List Int := if 0 ≤ suitM c then l.set (suitM c).toNat (wrap64 (rd l (suitM c) + 1)) else l
theorem countStep_length (l : List Int) (c : Int) : (countStep l c).length = l.length := by unfold countStep; split <;> simp
def countsM (l : List Int) : List Int := l.foldl countStep [0, 0, 0, 0]
theorem getD_replicate_false (n i : Nat) : (List.replicate n false).getD i false = false := by
  rw [List.getD_eq_getElem?_getD, List.getElem?_replicate]
  split <;> rfl
def handP : List Int → List Int → Bool
  | _, [] => true
  | pre, c :: r => isCardM c && (!pre.contains c && handP (pre ++ [c]) r)
def isHandM (l : List Int) : Bool := handP [] l
def leafM (s : Int) : Bool := decide (100 ≤ s ∧ s ≤ 103) || decide (200 ≤ s ∧ s ≤ 212) || decide (300 ≤ s ∧ s ≤ 312) || (s == 400)
def patF : List Int → Int → Option Int
  | [], n => some n
  | s :: r, n => if leafM s = true then patF r (n + 1) else if s = -1 ∧ 1 ≤ n then patF r n else if (s = -2 ∨ s = -3) ∧ 2 ≤ n then patF r (n - 1) else none
def patEnd (len : Nat) : Option Int → Bool
  | some n => decide (n = 1) && decide (len ≤ 20)
  | none => false
def isPatM (p : List Int) : Bool := patEnd p.length (patF p 0)
def maybeM (p : List Int) : Bool := decide (p.length = 0) || isPatM p
def isRulesM (a0 a1 : Int) (a2 a3 : Bool) (l4 l5 : List Int) (a6 a7 : Int) : Bool :=
  decide (2 ≤ a0 ∧ a0 ≤ 6) && (decide (1 ≤ a1 ∧ a1 ≤ 8) && ((a2 || a3) && (maybeM l4 && (maybeM l5 && (decide (1 ≤ a6 ∧ a6 ≤ 4) && decide (1 ≤ a7 ∧ a7 ≤ 400))))))
end Go.Proofs.Ytdfmobcocaijpaa.Lib
namespace Go.Proofs.Ytdfmobcocaijpaa.PrintWords
open Go.ChangeShapes Go.WideShapes
end Go.Proofs.Ytdfmobcocaijpaa.PrintWords
