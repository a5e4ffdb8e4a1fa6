/- The program's ParseRules answers what the reference's answers, for all arguments. No condition but those that the statement itself names. -/
import Derived.Test.YtdfmobcocaijpaaDoorQFnExactParseRulesx7
import Derived.Test.YtdfmobcocaijpaaDoorVLib
import Derived.Test.YtdfmobcocaijpaaDoorVLibM
namespace Go.Proofs.YtdfmobcocaijpaaDoor.Pure
open Go.RowKit Go.Proofs.YtdfmobcocaijpaaDoor.QFnExactParseRules Go.Proofs.YtdfmobcocaijpaaDoorW.PrintWords Go.Proofs.YtdfmobcocaijpaaDoorW.PrintLast Go.Proofs.YtdfmobcocaijpaaDoorW.PrintMore Go.Proofs.YtdfmobcocaijpaaDoor.Lib
set_option linter.unusedVariables false
set_option linter.unusedSimpArgs false

/-! impl_InRange -/
theorem impl_InRange_f (a b c : Int) : impl_InRange.f a b c = some (decide (b ≤ a ∧ a ≤ c)) := by
  unfold impl_InRange.f
  by_cases h : b ≤ a <;> simp [h]

/-! impl_isTest -/
theorem impl_isTest_f (s : Int) : impl_isTest.f s = some (leafM s) := by
  simp only [impl_isTest.f, impl_InRange_f, Option.bind_some, leafM]
  by_cases h1 : 100 ≤ s ∧ s ≤ 103
  · simp [h1]
  by_cases h2 : 200 ≤ s ∧ s ≤ 212
  · simp [h1, h2]
  by_cases h3 : 300 ≤ s ∧ s ≤ 312
  · simp [h1, h2, h3]
  simp [h1, h2, h3]

/-! impl_IsPattern -/
theorem impl_IsPattern_ev (l : List Int) (hl : l.length ≤ 1099511627776) : Ev (fun k => impl_IsPattern.f k l) (isPatM l) := by
  simp only [impl_IsPattern.f, isPatM]
  refine loop_int l hl (P := fun i rest => ∀ n, 0 ≤ n → n ≤ i → Ev (fun k => impl_IsPattern.l0 k l n l (l.length : Int) i) (patEnd l.length (patF rest n))) ?_ ?_ 0 (by omega) (by omega)
  · intro n hn hi
    refine ev_succ (ev_of_eq fun k => ?_)
    simp only [impl_IsPattern.l0, Int.lt_irrefl, ↓reduceIte, patF, patEnd, impl_InRange_f, Option.bind_some]
    by_cases h : n = 1
    · by_cases g : l.length ≤ 20
      · have g' : (1 : Int) ≤ (l.length : Int) ∧ (l.length : Int) ≤ 20 := by omega
        simp [h, g, g']
      · have g' : ¬ ((1 : Int) ≤ (l.length : Int) ∧ (l.length : Int) ≤ 20) := by omega
        simp [h, g, g']
    · by_cases g : (1 : Int) ≤ (l.length : Int) ∧ (l.length : Int) ≤ 20
      · simp [h, g]
      · simp [h, g]
  · intro i x rest h0 h1 hx _ hw ih n hn hi
    refine ev_succ ?_
    have w1 : wrap64 (n + 1) = n + 1 := w64 (by omega) (by omega)
    simp only [impl_IsPattern.l0, h1, h0, ↓reduceIte, hx, hw, impl_isTest_f, Option.bind_some, patF, w1]
    by_cases g1 : leafM x = true
    · simp only [g1, ↓reduceIte]
      exact ih _ (by omega) (by omega)
    · simp only [g1, Bool.false_eq_true, ↓reduceIte]
      by_cases g2 : x = -1
      · have e2 : ¬ x = -2 := by omega
        have e3 : ¬ x = -3 := by omega
        by_cases g3 : 1 ≤ n
        · have g3' : decide (n ≥ 1) = true := by simp; omega
          simp only [g2, g3, g3', ↓reduceIte, and_self]
          refine ev_succ ?_
          simp only [impl_IsPattern.j1, ↓reduceIte, hw]
          exact ih _ (by omega) (by omega)
        · have g3' : decide (n ≥ 1) = false := by simp; omega
          refine ev_succ (ev_of_eq fun k => ?_)
          simp only [impl_IsPattern.j1, g2, g3', g3, h1, h0, hx, ↓reduceIte, Bool.false_eq_true]
          simp [patEnd, e2, e3, g2, g3]
      · simp only [g2, ↓reduceIte, false_and]
        refine ev_succ ?_
        simp only [impl_IsPattern.j1, h1, h0, hx, hw, ↓reduceIte, Bool.false_eq_true, ge_iff_le]
        have w2 : 2 ≤ n → wrap64 (n - 1) = n - 1 := fun _ => w64 (by omega) (by omega)
        by_cases g4 : x = -2
        · by_cases g5 : 2 ≤ n
          · simp only [g4, g5, w2 g5, ↓reduceIte, true_or, and_self]
            exact ih _ (by omega) (by omega)
          · refine ev_of_eq fun k => ?_
            simp [g4, g5, patEnd]
        · by_cases g6 : x = -3
          · by_cases g5 : 2 ≤ n
            · simp only [g4, g6, g5, w2 g5, ↓reduceIte, or_true, and_self]
              exact ih _ (by omega) (by omega)
            · refine ev_of_eq fun k => ?_
              simp [g6, g5, patEnd]
          · refine ev_of_eq fun k => ?_
            simp [g4, g6, patEnd]

/-! impl_isMaybe -/
theorem impl_isMaybe_ev (l : List Int) (hl : l.length ≤ 1099511627776) : Ev (fun k => impl_isMaybe.f k l) (maybeM l) := by
  simp only [impl_isMaybe.f, maybeM]
  by_cases h : l.length = 0
  · obtain rfl := List.eq_nil_of_length_eq_zero h
    exact ev_of_eq fun k => rfl
  · have h' : ¬ (l.length : Int) = 0 := by omega
    simp only [h', h, ↓reduceIte, decide_false, Bool.false_or]
    exact Ev.bind (impl_IsPattern_ev l hl) (Ev.now _)

/-! impl_IsRules -/
theorem impl_IsRules_ev (a0 a1 : Int) (a2 a3 : Bool) (l4 l5 : List Int) (a6 a7 : Int) (h4 : l4.length ≤ 1048576) (h5 : l5.length ≤ 1048576) :
    Ev (fun k => impl_IsRules.f k a0 a1 a2 a3 l4 l5 a6 a7) (isRulesM a0 a1 a2 a3 l4 l5 a6 a7) := by
  have tail : Ev (fun k => (impl_isMaybe.f k l4).bind fun t => (if t = true then ((impl_isMaybe.f k l5).bind fun t => (if t = true then ((impl_InRange.f a6 1 4).bind fun t => (if t = true then ((impl_InRange.f a7 1 400).bind fun t => (some t)) else (some false))) else (some false))) else (some false)))
      (maybeM l4 && (maybeM l5 && (decide (1 ≤ a6 ∧ a6 ≤ 4) && decide (1 ≤ a7 ∧ a7 ≤ 400)))) := by
    refine Ev.bind (impl_isMaybe_ev l4 (by omega)) ?_
    cases maybeM l4
    · exact Ev.now _
    · refine Ev.bind (impl_isMaybe_ev l5 (by omega)) ?_
      cases maybeM l5
      · exact Ev.now _
      · refine ev_of_eq fun k => ?_
        simp only [impl_InRange_f, Option.bind_some, ↓reduceIte]
        cases decide (1 ≤ a6 ∧ a6 ≤ 4) <;> simp
  simp only [impl_IsRules.f]
  simp only [impl_InRange_f, Option.bind_some] at tail ⊢
  unfold isRulesM
  cases decide (2 ≤ a0 ∧ a0 ≤ 6)
  · exact Ev.now _
  · cases decide (1 ≤ a1 ∧ a1 ≤ 8)
    · exact Ev.now _
    · cases a2
      · cases a3
        · exact Ev.now _
        · simpa using tail
      · simpa using tail

/-! impl_RulesWord -/
theorem impl_RulesWord_ev (a0 a1 : Int) (a2 a3 : Bool) (l4 l5 : List Int) (a6 a7 : Int) (h4 : l4.length ≤ 1048576) (h5 : l5.length ≤ 1048576) : Ev (fun k => impl_RulesWord.f k a0 a1 a2 a3 l4 l5 a6 a7) (rulesWordM a2 a3) := by
  simp only [impl_RulesWord.f]
  cases a2 <;> cases a3 <;> exact ev_succ (ev_of_eq fun k => by simp [impl_RulesWord.j0, rulesWordM])

/-! impl_FormatInt -/
/-- Up to three digits. -/
def dig3 (n : Nat) : List UInt8 := if n < 10 then [UInt8.ofNat (48 + n)] else if n < 100 then [UInt8.ofNat (48 + n / 10), UInt8.ofNat (48 + n % 10)] else [UInt8.ofNat (48 + n / 10 / 10), UInt8.ofNat (48 + n / 10 % 10), UInt8.ofNat (48 + n % 10)]
theorem itoa_dig3 (n : Nat) (h : n < 1000) : Go.Lib.itoa (n : Int) = dig3 n := by
  unfold Go.Lib.itoa dig3
  rw [if_neg (by omega), Int.toNat_natCast]
  by_cases h1 : n < 10
  · rw [Go.Lib.decDigits, dif_pos h1, if_pos h1]
  rw [if_neg h1, Go.Lib.decDigits, dif_neg h1]
  by_cases h2 : n < 100
  · rw [if_pos h2, Go.Lib.decDigits, dif_pos (by omega)]
    rfl
  rw [if_neg h2, Go.Lib.decDigits, dif_neg (by omega), Go.Lib.decDigits, dif_pos (by omega)]
  rfl
def numT (n : Int) : ByteArray := ⟨(Go.Lib.itoa n).toArray⟩
theorem numT_size (n : Int) (h0 : 0 ≤ n) (h : n < 1000) : (numT n).size ≤ 3 := by
  obtain ⟨m, rfl⟩ := Int.eq_ofNat_of_zero_le h0
  unfold numT
  rw [itoa_dig3 m (by omega)]
  unfold dig3
  split
  · exact Nat.le_of_ble_eq_true rfl
  split
  · exact Nat.le_of_ble_eq_true rfl
  · exact Nat.le_of_ble_eq_true rfl
theorem impl_FormatInt_f (n : Int) (h0 : 0 ≤ n) (h : n < 1000) : impl_FormatInt.f n = some (numT n) := by
  unfold impl_FormatInt.f numT
  rw [if_pos ⟨by omega, by omega⟩]

/-! impl_signText -/
/-- The text of a leaf sign. -/
def rankL : ByteArray := ⟨#[50, 51, 52, 53, 54, 55, 56, 57, 84, 74, 81, 75, 65]⟩
def signM (s : Int) : ByteArray := if s = 400 then ⟨#[114]⟩ else if s ≥ 300 then rankL.extract (s - 300).toNat (s - 300 + 1).toNat ++ ⟨#[43]⟩ else if s ≥ 200 then rankL.extract (s - 200).toNat (s - 200 + 1).toNat else (⟨#[99, 100, 104, 115]⟩ : ByteArray).extract (s - 100).toNat (s - 100 + 1).toNat
theorem extract_one (b : ByteArray) (i : Int) (h : 0 ≤ i) : (b.extract i.toNat (i + 1).toNat).size ≤ 1 := by
  rw [ByteArray.size_extract]
  omega
theorem signM_size (s : Int) (h : leafM s = true) : (signM s).size ≤ 2 := by
  unfold leafM at h
  simp only [Bool.or_eq_true, decide_eq_true_eq, beq_iff_eq] at h
  unfold signM
  by_cases h1 : s = 400
  · rw [if_pos h1]; decide
  rw [if_neg h1]
  by_cases h2 : s ≥ 300
  · rw [if_pos h2, ByteArray.size_append]
    have := extract_one rankL (s - 300) (by omega)
    have e : (⟨#[43]⟩ : ByteArray).size = 1 := rfl
    omega
  rw [if_neg h2]
  by_cases h3 : s ≥ 200
  · rw [if_pos h3]
    have := extract_one rankL (s - 200) (by omega)
    omega
  · rw [if_neg h3]
    have := extract_one ⟨#[99, 100, 104, 115]⟩ (s - 100) (by omega)
    omega
theorem impl_signText_f (s : Int) (h : leafM s = true) : impl_signText.f s = some (signM s) := by
  unfold leafM at h
  simp only [Bool.or_eq_true, decide_eq_true_eq, beq_iff_eq] at h
  unfold impl_signText.f signM
  by_cases h1 : s = 400
  · rw [if_pos h1, if_pos h1]
  rw [if_neg h1, if_neg h1]
  by_cases h2 : s ≥ 300
  · have a0 : wrap64 (s - 300) = s - 300 := w64 (by omega) (by omega)
    have a1 : wrap64 (s - 300 + 1) = s - 300 + 1 := w64 (by omega) (by omega)
    have a2 : 0 ≤ s - 300 := by omega
    have a3 : s - 300 ≤ s - 300 + 1 := by omega
    have a4 : s - 300 + 1 ≤ 13 := by omega
    have a5 := extract_one rankL (s - 300) a2
    have a6 : (rankL.extract (s - 300).toNat (s - 300 + 1).toNat).size + 1 ≤ 9223372036854775807 := by omega
    unfold rankL at a6 ⊢
    simp only [h2, a0, a1, a2, a3, a4, a6, ↓reduceIte]
  rw [if_neg h2, if_neg h2]
  by_cases h3 : s ≥ 200
  · have a0 : wrap64 (s - 200) = s - 200 := w64 (by omega) (by omega)
    have a1 : wrap64 (s - 200 + 1) = s - 200 + 1 := w64 (by omega) (by omega)
    have a2 : 0 ≤ s - 200 := by omega
    have a3 : s - 200 ≤ s - 200 + 1 := by omega
    have a4 : s - 200 + 1 ≤ 13 := by omega
    unfold rankL
    simp only [h3, a0, a1, a2, a3, a4, ↓reduceIte]
  · have a0 : wrap64 (s - 100) = s - 100 := w64 (by omega) (by omega)
    have a1 : wrap64 (s - 100 + 1) = s - 100 + 1 := w64 (by omega) (by omega)
    have a2 : 0 ≤ s - 100 := by omega
    have a3 : s - 100 ≤ s - 100 + 1 := by omega
    have a4 : s - 100 + 1 ≤ 4 := by omega
    simp only [h3, a0, a1, a2, a3, a4, ↓reduceIte]

/-! impl_PatternText -/
/-- A pattern's text, sign by sign over a pile. -/
def textF : List Int → List ByteArray → ByteArray
  | [], x => rdOf ByteArray.empty x 0
  | s :: r, x =>
    if s = -1 then textF r (x.set ((x.length : Int) - 1).toNat ((⟨#[33]⟩ : ByteArray) ++ rdOf ByteArray.empty x ((x.length : Int) - 1)))
    else if s = -2 then textF r (x.take ((x.length : Int) - 2).toNat ++ [((((⟨#[40]⟩ : ByteArray) ++ rdOf ByteArray.empty x ((x.length : Int) - 2)) ++ (⟨#[38]⟩ : ByteArray)) ++ rdOf ByteArray.empty x ((x.length : Int) - 1)) ++ (⟨#[41]⟩ : ByteArray)])
    else if s = -3 then textF r (x.take ((x.length : Int) - 2).toNat ++ [((((⟨#[40]⟩ : ByteArray) ++ rdOf ByteArray.empty x ((x.length : Int) - 2)) ++ (⟨#[124]⟩ : ByteArray)) ++ rdOf ByteArray.empty x ((x.length : Int) - 1)) ++ (⟨#[41]⟩ : ByteArray)])
    else textF r (x ++ [signM s])
/-- How long a text on the pile can grow. -/
def growF : List Int → Nat → Nat
  | [], B => B
  | _ :: r, B => growF r (2 * B + 3)
theorem growF_le : ∀ (r : List Int) (B : Nat), B ≤ growF r B
  | [], B => Nat.le_refl _
  | _ :: r, B => Nat.le_trans (by omega) (growF_le r (2 * B + 3))
theorem growF_pow : ∀ (r : List Int) (B : Nat), growF r B + 3 = (B + 3) * 2 ^ r.length
  | [], B => by simp [growF]
  | _ :: r, B => by
    rw [growF, growF_pow r (2 * B + 3), List.length_cons, Nat.pow_succ, Nat.mul_comm (2 ^ r.length) 2, ← Nat.mul_assoc]
    congr 1
    omega
theorem textF_size : ∀ (r : List Int) (x : List ByteArray) (B : Nat), patF r (x.length : Int) = some 1 → (∀ y ∈ x, y.size ≤ B) → (textF r x).size ≤ growF r B
  | [], x, B, he, hx => by
    have h1 : 0 < (x.length : Int) := by simp only [patF, Option.some.injEq] at he; omega
    exact hx _ (rdOf_mem _ x 0 (by omega) h1)
  | s :: r, x, B, he, hx => by
    have e1 : ∀ b : UInt8, (⟨#[b]⟩ : ByteArray).size = 1 := fun _ => rfl
    have le : patF (s :: r) (x.length : Int) = some 1 := he
    rcases patF_step he with ⟨n1, n2, n3, e4⟩ | ⟨n1, n2, e4⟩ | ⟨n1, n2, e4⟩
    · simp only [textF, n1, n2, n3, ↓reduceIte]
      have hl : leafM s = true := by
        unfold patF at le
        by_cases h : leafM s = true
        · exact h
        · rw [if_neg h] at le
          simp only [n1, n2, n3, ↓reduceIte, or_self, beq_iff_eq] at le
          exact absurd le (by simp)
      refine textF_size r (x ++ [signM s]) (2 * B + 3) (by simpa using e4) fun y hy => ?_
      rcases List.mem_append.1 hy with h | h
      · have := hx y h; omega
      · have := signM_size s hl
        rw [List.mem_singleton.1 h]
        omega
    · simp only [textF, n1, ↓reduceIte]
      refine textF_size r _ (2 * B + 3) (by rw [List.length_set]; exact e4) fun y hy => ?_
      rcases List.mem_or_eq_of_mem_set hy with h | h
      · have := hx y h; omega
      · have := hx _ (rdOf_mem ByteArray.empty x ((x.length : Int) - 1) (by omega) (by omega))
        rw [h, ByteArray.size_append, e1]
        omega
    · have tl : (x.take ((x.length : Int) - 2).toNat).length = ((x.length : Int) - 2).toNat := by rw [List.length_take]; omega
      have m2 := hx _ (rdOf_mem ByteArray.empty x ((x.length : Int) - 2) (by omega) (by omega))
      have m1 := hx _ (rdOf_mem ByteArray.empty x ((x.length : Int) - 1) (by omega) (by omega))
      have go : ∀ b : UInt8, (textF r (x.take ((x.length : Int) - 2).toNat ++ [((((⟨#[40]⟩ : ByteArray) ++ rdOf ByteArray.empty x ((x.length : Int) - 2)) ++ (⟨#[b]⟩ : ByteArray)) ++ rdOf ByteArray.empty x ((x.length : Int) - 1)) ++ (⟨#[41]⟩ : ByteArray)])).size ≤ growF r (2 * B + 3) := fun b => by
        refine textF_size r _ (2 * B + 3) (by rw [List.length_append, tl]; simp only [List.length_singleton]; rw [show ((((x.length : Int) - 2).toNat + 1 : Nat) : Int) = (x.length : Int) - 1 by omega]; exact e4) fun y hy => ?_
        rcases List.mem_append.1 hy with h | h
        · have := hx y (List.mem_of_mem_take h); omega
        · rw [List.mem_singleton.1 h]
          simp only [ByteArray.size_append, e1]
          omega
      rcases n1 with n1 | n1
      · simp only [textF, n1, show ¬ (-2 : Int) = -1 by omega, ↓reduceIte]
        exact go 38
      · simp only [textF, n1, show ¬ (-3 : Int) = -1 by omega, show ¬ (-3 : Int) = -2 by omega, ↓reduceIte]
        exact go 124
def patText (p : List Int) : ByteArray := if isPatM p = true then textF p [] else ⟨#[]⟩
theorem patText_size (p : List Int) : (patText p).size ≤ 3145728 := by
  unfold patText
  by_cases hp : isPatM p = true
  · rw [if_pos hp]
    obtain ⟨h1, h2⟩ := isPatM_run hp
    have := textF_size p [] 0 h1 (fun y hy => by simp at hy)
    have g := growF_pow p 0
    have : 2 ^ p.length ≤ 2 ^ 20 := Nat.pow_le_pow_right (by omega) h2
    omega
  · rw [if_neg hp]
    exact Nat.zero_le _
theorem impl_PatternText_l0 (p : List Int) (hl : p.length ≤ 20) (hp : patF p 0 = some 1) : Ev (fun k => impl_PatternText.l0 k [] p (p.length : Int) 0) (textF p []) := by
  have e1 : ∀ b : UInt8, (⟨#[b]⟩ : ByteArray).size = 1 := fun _ => rfl
  suffices H : ∀ (x : List ByteArray) (B : Nat), (x.length : Int) ≤ 0 → patF p (x.length : Int) = some 1 → (∀ y ∈ x, y.size ≤ B) → growF p B ≤ 4611686018427387000 → Ev (fun k => impl_PatternText.l0 k x p (p.length : Int) 0) (textF p x) from H [] 0 (by simp) hp (fun y hy => by simp at hy) (by
    have g := growF_pow p 0
    have : 2 ^ p.length ≤ 2 ^ 20 := Nat.pow_le_pow_right (by omega) hl
    omega)
  refine loop_int p (by omega) (P := fun i rest => ∀ (x : List ByteArray) (B : Nat), (x.length : Int) ≤ i → patF rest (x.length : Int) = some 1 → (∀ y ∈ x, y.size ≤ B) → growF rest B ≤ 4611686018427387000 → Ev (fun k => impl_PatternText.l0 k x p (p.length : Int) i) (textF rest x)) ?_ ?_
  · intro x B hx he _ _
    have h1 : 0 < (x.length : Int) := by simp only [patF, Option.some.injEq] at he; omega
    refine ev_succ (ev_of_eq fun k => ?_)
    simp only [impl_PatternText.l0, Int.lt_irrefl, h1, Int.le_refl, ↓reduceIte, textF]
  · intro i s rest h0 h1 hs hm hw ih x B hx he hB hg
    refine ev_succ ?_
    have gB : 2 * B + 3 ≤ 4611686018427387000 := Nat.le_trans (growF_le rest (2 * B + 3)) hg
    have b : x.length < 8796093022208 := by omega
    have w1 : wrap64 ((x.length : Int) - 1) = (x.length : Int) - 1 := w64 (by omega) (by omega)
    have w2 : wrap64 ((x.length : Int) - 2) = (x.length : Int) - 2 := w64 (by omega) (by omega)
    have le := he
    rcases patF_step he with ⟨n1, n2, n3, e4⟩ | ⟨n1, n2, e4⟩ | ⟨n1, n2, e4⟩
    · have hlf : leafM s = true := by
        unfold patF at le
        by_cases h : leafM s = true
        · exact h
        · rw [if_neg h] at le
          simp only [n1, n2, n3, ↓reduceIte, or_self, beq_iff_eq] at le
          exact absurd le (by simp)
      simp only [impl_PatternText.l0, h1, h0, hs, n1, n2, n3, b, hw, ↓reduceIte, impl_signText_f s hlf, Option.bind_some, textF]
      refine ih (x ++ [signM s]) (2 * B + 3) (by simp; omega) (by simpa using e4) (fun y hy => ?_) hg
      rcases List.mem_append.1 hy with h | h
      · have := hB y h; omega
      · have := signM_size s hlf
        rw [List.mem_singleton.1 h]
        omega
    · have g1 : 0 ≤ (x.length : Int) - 1 := by omega
      have g2 : (x.length : Int) - 1 < (x.length : Int) := by omega
      have m1 := hB _ (rdOf_mem ByteArray.empty x ((x.length : Int) - 1) g1 g2)
      have q1 : 1 + (rdOf ByteArray.empty x ((x.length : Int) - 1)).size ≤ 9223372036854775807 := by omega
      simp only [impl_PatternText.l0, h1, h0, hs, n1, w1, g1, g2, q1, hw, ↓reduceIte, textF]
      refine ih _ (2 * B + 3) (by rw [List.length_set]; omega) (by rw [List.length_set]; exact e4) (fun y hy => ?_) hg
      rcases List.mem_or_eq_of_mem_set hy with h | h
      · have := hB y h; omega
      · rw [h, ByteArray.size_append, e1]
        omega
    · have g1 : 0 ≤ (x.length : Int) - 2 := by omega
      have g2 : (x.length : Int) - 2 < (x.length : Int) := by omega
      have g3 : (x.length : Int) - 2 ≤ (x.length : Int) := by omega
      have g4 : 0 ≤ (x.length : Int) - 1 := by omega
      have g5 : (x.length : Int) - 1 < (x.length : Int) := by omega
      have tl : (x.take ((x.length : Int) - 2).toNat).length = ((x.length : Int) - 2).toNat := by rw [List.length_take]; omega
      have g6 : (x.take ((x.length : Int) - 2).toNat).length < 8796093022208 := by omega
      have m2 := hB _ (rdOf_mem ByteArray.empty x ((x.length : Int) - 2) g1 g2)
      have m1 := hB _ (rdOf_mem ByteArray.empty x ((x.length : Int) - 1) g4 g5)
      have q1 : 1 + (rdOf ByteArray.empty x ((x.length : Int) - 2)).size ≤ 9223372036854775807 := by omega
      have q2 : ((⟨#[40]⟩ : ByteArray) ++ rdOf ByteArray.empty x ((x.length : Int) - 2)).size + 1 ≤ 9223372036854775807 := by simp only [ByteArray.size_append, e1]; omega
      have q3 : ∀ c : UInt8, (((⟨#[40]⟩ : ByteArray) ++ rdOf ByteArray.empty x ((x.length : Int) - 2)) ++ (⟨#[c]⟩ : ByteArray)).size + (rdOf ByteArray.empty x ((x.length : Int) - 1)).size ≤ 9223372036854775807 := fun c => by simp only [ByteArray.size_append, e1]; omega
      have q4 : ∀ c : UInt8, ((((⟨#[40]⟩ : ByteArray) ++ rdOf ByteArray.empty x ((x.length : Int) - 2)) ++ (⟨#[c]⟩ : ByteArray)) ++ rdOf ByteArray.empty x ((x.length : Int) - 1)).size + 1 ≤ 9223372036854775807 := fun c => by simp only [ByteArray.size_append, e1]; omega
      have nx : ∀ c : UInt8, Ev (fun k => impl_PatternText.l0 k (x.take ((x.length : Int) - 2).toNat ++ [((((⟨#[40]⟩ : ByteArray) ++ rdOf ByteArray.empty x ((x.length : Int) - 2)) ++ (⟨#[c]⟩ : ByteArray)) ++ rdOf ByteArray.empty x ((x.length : Int) - 1)) ++ (⟨#[41]⟩ : ByteArray)]) p (p.length : Int) (i + 1)) (textF rest (x.take ((x.length : Int) - 2).toNat ++ [((((⟨#[40]⟩ : ByteArray) ++ rdOf ByteArray.empty x ((x.length : Int) - 2)) ++ (⟨#[c]⟩ : ByteArray)) ++ rdOf ByteArray.empty x ((x.length : Int) - 1)) ++ (⟨#[41]⟩ : ByteArray)])) := by
        intro c
        have ln : ((x.take ((x.length : Int) - 2).toNat ++ [((((⟨#[40]⟩ : ByteArray) ++ rdOf ByteArray.empty x ((x.length : Int) - 2)) ++ (⟨#[c]⟩ : ByteArray)) ++ rdOf ByteArray.empty x ((x.length : Int) - 1)) ++ (⟨#[41]⟩ : ByteArray)]).length : Int) = (x.length : Int) - 1 := by rw [List.length_append, tl]; simp; omega
        refine ih _ (2 * B + 3) (by omega) (by rw [ln]; exact e4) (fun y hy => ?_) hg
        rcases List.mem_append.1 hy with h | h
        · have := hB y (List.mem_of_mem_take h); omega
        · rw [List.mem_singleton.1 h]
          simp only [ByteArray.size_append, e1]
          omega
      rcases n1 with n1 | n1
      · have z : ¬ (-2 : Int) = -1 := by omega
        simp only [impl_PatternText.l0, h1, h0, hs, n1, z, w1, w2, g1, g2, g3, g4, g5, g6, q1, q2, q3, q4, hw, Option.bind_some, ↓reduceIte, textF]
        exact nx 38
      · have z : ¬ (-3 : Int) = -1 := by omega
        have z2 : ¬ (-3 : Int) = -2 := by omega
        simp only [impl_PatternText.l0, h1, h0, hs, n1, z, z2, w1, w2, g1, g2, g3, g4, g5, g6, q1, q2, q3, q4, hw, Option.bind_some, ↓reduceIte, textF]
        exact nx 124
theorem impl_PatternText_ev (p : List Int) (hl : p.length ≤ 1099511627776) : Ev (fun k => impl_PatternText.f k p) (patText p) := by
  simp only [impl_PatternText.f]
  refine Ev.bind (impl_IsPattern_ev p hl) ?_
  unfold patText
  cases hp : isPatM p
  · exact ev_of_eq fun k => by simp only [Bool.false_eq_true, ↓reduceIte]
  · simp only [↓reduceIte]
    obtain ⟨h1, h2⟩ := isPatM_run hp
    exact impl_PatternText_l0 p h2 h1

/-! impl_maybeText -/
/-- A pattern that need not be there, as text. -/
def maybeT (p : List Int) : ByteArray := if p.length = 0 then ⟨#[45]⟩ else patText p
theorem maybeT_size (p : List Int) : (maybeT p).size ≤ 3145728 := by
  unfold maybeT
  by_cases h : p.length = 0
  · rw [if_pos h]; decide
  · rw [if_neg h]; exact patText_size p
theorem impl_maybeText_ev (p : List Int) (hl : p.length ≤ 1099511627776) : Ev (fun k => impl_maybeText.f k p) (maybeT p) := by
  simp only [impl_maybeText.f, maybeT]
  by_cases h : p.length = 0
  · have h' : (p.length : Int) = 0 := by omega
    exact ev_of_eq fun k => by rw [if_pos h', if_pos h]
  · have h' : ¬ (p.length : Int) = 0 := by omega
    simp only [h, h', ↓reduceIte]
    exact Ev.bind (impl_PatternText_ev p hl) (Ev.now _)

/-! impl_RulesText -/
/-- Rules as text. -/
def rulesT (a0 a1 : Int) (a2 a3 : Bool) (l4 l5 : List Int) (a6 a7 : Int) : ByteArray :=
  if isRulesM a0 a1 a2 a3 l4 l5 a6 a7 = true then
    ((((((((((((⟨#[112, 108, 97, 121, 101, 114, 115, 61]⟩ : ByteArray) ++ numT a0) ++ (⟨#[32, 101, 97, 99, 104, 61]⟩ : ByteArray)) ++ numT a1) ++ (⟨#[32, 109, 97, 116, 99, 104, 61]⟩ : ByteArray)) ++ rulesWordM a2 a3) ++ (⟨#[32, 119, 105, 108, 100, 61]⟩ : ByteArray)) ++ maybeT l4) ++ (⟨#[32, 115, 107, 105, 112, 61]⟩ : ByteArray)) ++ maybeT l5) ++ (⟨#[32, 116, 97, 107, 101, 61]⟩ : ByteArray)) ++ numT a6) ++ (⟨#[32, 108, 105, 109, 105, 116, 61]⟩ : ByteArray) ++ numT a7
  else ⟨#[]⟩
theorem isRulesM_nums {a0 a1 : Int} {a2 a3 : Bool} {l4 l5 : List Int} {a6 a7 : Int} (h : isRulesM a0 a1 a2 a3 l4 l5 a6 a7 = true) : (2 ≤ a0 ∧ a0 ≤ 6) ∧ (1 ≤ a1 ∧ a1 ≤ 8) ∧ (1 ≤ a6 ∧ a6 ≤ 4) ∧ (1 ≤ a7 ∧ a7 ≤ 400) := by
  unfold isRulesM at h
  simp only [Bool.and_eq_true, decide_eq_true_eq] at h
  exact ⟨h.1, h.2.1, h.2.2.2.2.2.1, h.2.2.2.2.2.2⟩
theorem rulesWordM_size (a b : Bool) : (rulesWordM a b).size ≤ 4 := by cases a <;> cases b <;> decide
theorem join7 (x0 x1 x2 x3 x4 x5 x6 : ByteArray) : (⟨(Go.Lib.join ([x0, x1, x2, x3, x4, x5, x6].map (·.data.toList)) (⟨#[32]⟩ : ByteArray).data.toList).toArray⟩ : ByteArray) =
    (((((((((((x0 ++ (⟨#[32]⟩ : ByteArray)) ++ x1) ++ (⟨#[32]⟩ : ByteArray)) ++ x2) ++ (⟨#[32]⟩ : ByteArray)) ++ x3) ++ (⟨#[32]⟩ : ByteArray)) ++ x4) ++ (⟨#[32]⟩ : ByteArray)) ++ x5) ++ (⟨#[32]⟩ : ByteArray)) ++ x6 := by
  refine data_inj ?_
  simp [Go.Lib.join, List.intercalate, List.intersperse]
theorem join_size (xs : List ByteArray) (s : ByteArray) : (Go.Lib.join (xs.map (·.data.toList)) s.data.toList).length = (⟨(Go.Lib.join (xs.map (·.data.toList)) s.data.toList).toArray⟩ : ByteArray).size := by
  show _ = (List.toArray _).size
  simp
theorem cat_assoc (a b c : ByteArray) : a ++ (b ++ c) = (a ++ b) ++ c := (ByteArray.append_assoc).symm
theorem impl_RulesText_ev (a0 a1 : Int) (a2 a3 : Bool) (l4 l5 : List Int) (a6 a7 : Int) (h4 : l4.length ≤ 1048576) (h5 : l5.length ≤ 1048576) :
    Ev (fun k => impl_RulesText.f k a0 a1 a2 a3 l4 l5 a6 a7) (rulesT a0 a1 a2 a3 l4 l5 a6 a7) := by
  simp only [impl_RulesText.f]
  refine Ev.bind (impl_IsRules_ev a0 a1 a2 a3 l4 l5 a6 a7 h4 h5) ?_
  unfold rulesT
  cases hr : isRulesM a0 a1 a2 a3 l4 l5 a6 a7
  · exact ev_of_eq fun k => by simp only [Bool.false_eq_true, ↓reduceIte]
  · obtain ⟨n0, n1, n6, n7⟩ := isRulesM_nums hr
    have z0 := numT_size a0 (by omega) (by omega)
    have z1 := numT_size a1 (by omega) (by omega)
    have z6 := numT_size a6 (by omega) (by omega)
    have z7 := numT_size a7 (by omega) (by omega)
    have zw := rulesWordM_size a2 a3
    have z4 := maybeT_size l4
    have z5 := maybeT_size l5
    have c0 : 8 + (numT a0).size ≤ 9223372036854775807 := by omega
    have c1 : 5 + (numT a1).size ≤ 9223372036854775807 := by omega
    have cw : 6 + (rulesWordM a2 a3).size ≤ 9223372036854775807 := by omega
    have c4 : 5 + (maybeT l4).size ≤ 9223372036854775807 := by omega
    have c5 : 5 + (maybeT l5).size ≤ 9223372036854775807 := by omega
    have c6 : 5 + (numT a6).size ≤ 9223372036854775807 := by omega
    have c7 : 6 + (numT a7).size ≤ 9223372036854775807 := by omega
    simp only [↓reduceIte, impl_FormatInt_f a0 (by omega) (by omega), impl_FormatInt_f a1 (by omega) (by omega), impl_FormatInt_f a6 (by omega) (by omega), impl_FormatInt_f a7 (by omega) (by omega), Option.bind_some, c0, c1, c6, c7]
    refine Ev.bind (impl_RulesWord_ev a0 a1 a2 a3 l4 l5 a6 a7 h4 h5) ?_
    simp only [cw, ↓reduceIte]
    refine Ev.bind (impl_maybeText_ev l4 (by omega)) ?_
    simp only [c4, ↓reduceIte]
    refine Ev.bind (impl_maybeText_ev l5 (by omega)) ?_
    simp only [c5, ↓reduceIte]
    generalize numT a0 = x0 at z0
    generalize numT a1 = x1 at z1
    generalize numT a6 = x6 at z6
    generalize numT a7 = x7 at z7
    generalize rulesWordM a2 a3 = xw at zw
    generalize maybeT l4 = x4 at z4
    generalize maybeT l5 = x5 at z5
    refine ev_of_eq fun k => ?_
    unfold strings_Join.f
    rw [if_pos]
    · rw [Option.bind_some, join7]
      congr 1
      simp only [cat_assoc]
      refine data_inj ?_
      simp
    · refine ⟨by simp only [List.length_cons, List.length_nil]; omega, ?_⟩
      rw [join_size, join7]
      have e8 : (⟨#[112, 108, 97, 121, 101, 114, 115, 61]⟩ : ByteArray).size = 8 := rfl
      have ee : (⟨#[101, 97, 99, 104, 61]⟩ : ByteArray).size = 5 := rfl
      have em : (⟨#[109, 97, 116, 99, 104, 61]⟩ : ByteArray).size = 6 := rfl
      have ew : (⟨#[119, 105, 108, 100, 61]⟩ : ByteArray).size = 5 := rfl
      have es : (⟨#[115, 107, 105, 112, 61]⟩ : ByteArray).size = 5 := rfl
      have et : (⟨#[116, 97, 107, 101, 61]⟩ : ByteArray).size = 5 := rfl
      have el : (⟨#[108, 105, 109, 105, 116, 61]⟩ : ByteArray).size = 6 := rfl
      have e1 : (⟨#[32]⟩ : ByteArray).size = 1 := rfl
      simp only [ByteArray.size_append, e8, ee, em, ew, es, et, el, e1]
      omega

/-! impl_SplitWords -/
theorem splitF_len (s : ByteArray) (c : Int) : ∀ (n : Nat) (out : List ByteArray) (fr i : Int), (splitF s c n out fr i).length ≤ out.length + n + 1 := by
  intro n
  induction n with
  | zero => intro out fr i; simp [splitF]
  | succ n ih =>
    intro out fr i
    unfold splitF
    split
    · have := ih (out ++ [s.extract fr.toNat i.toNat]) (i + 1) (i + 1)
      simp at this
      omega
    · have := ih out fr (i + 1)
      omega
theorem impl_SplitWords_ev (s : ByteArray) (c : Int) (hs : s.size ≤ 1048576) : Ev (fun k => impl_SplitWords.f k s c) (splitF s c s.size [] 0 0) := by
  simp only [impl_SplitWords.f]
  suffices H : ∀ (n : Nat) (out : List ByteArray) (fr i : Int), 0 ≤ fr → fr ≤ i → i + n = s.size → out.length ≤ i → Ev (fun k => impl_SplitWords.l0 k s c out fr (s.size : Int) i) (splitF s c n out fr i) from H s.size [] 0 0 (by omega) (by omega) (by omega) (by simp)
  intro n
  induction n with
  | zero =>
    intro out fr i h0 h1 h2 h3
    obtain rfl : i = s.size := by omega
    have e1 : out.length < 8796093022208 := by omega
    refine ev_succ (ev_of_eq fun k => ?_)
    simp only [impl_SplitWords.l0, Int.lt_irrefl, ↓reduceIte, h0, h1, e1, splitF]
  | succ n ih =>
    intro out fr i h0 h1 h2 h3
    have e1 : out.length < 8796093022208 := by omega
    have e2 : wrap64 (i + 1) = i + 1 := w64 (by omega) (by omega)
    have e3 : i ≤ (s.size : Int) := by omega
    have e5 : 0 ≤ i := by omega
    have e6 : i < (s.size : Int) := by omega
    refine ev_succ ?_
    simp only [impl_SplitWords.l0, e1, e2, e3, e5, e6, h0, h1, ↓reduceIte, splitF]
    by_cases g : bt s i = c
    · simp only [g, ↓reduceIte]
      exact ih _ _ _ (by omega) (by omega) (by omega) (by simp; omega)
    · simp only [g, ↓reduceIte]
      exact ih _ _ _ (by omega) (by omega) (by omega) (by omega)

/-! impl_ValueAfter -/
/-- What comes behind a name and '='. -/
def afterM (a b : ByteArray) : ByteArray × Bool := if a.extract 0 (b.size + 1) = b ++ (⟨#[61]⟩ : ByteArray) then (a.extract (b.size + 1) a.size, true) else (⟨#[]⟩, false)
theorem impl_ValueAfter_f (a b : ByteArray) (hb : b.size ≤ 1048576) : impl_ValueAfter.f a b = some (afterM a b) := by
  have e0 : b.size + 1 ≤ 9223372036854775807 := by omega
  have e2 : (b ++ (⟨#[61]⟩ : ByteArray)).size = b.size + 1 := by rw [ByteArray.size_append]; rfl
  simp only [impl_ValueAfter.f, e0, ↓reduceIte, strings_CutPrefix.f, stringslite_CutPrefix.f, stringslite_HasPrefix.f, e2, afterM, Int.toNat_natCast]
  by_cases h : (a.size : Int) ≥ ((b.size + 1 : Nat) : Int)
  · have e9 : (0 : Int) ≤ ((b.size + 1 : Nat) : Int) := by omega
    have h4 : ((b.size + 1 : Nat) : Int) ≤ (a.size : Int) := by omega
    simp only [h, h4, e9, ↓reduceIte, Option.bind_some, toList_iff, beq_iff_eq]
    by_cases g : a.extract 0 (b.size + 1) = b ++ (⟨#[61]⟩ : ByteArray)
    · simp [g]
    · simp [g]
  · have g : ¬ a.extract 0 (b.size + 1) = b ++ (⟨#[61]⟩ : ByteArray) := fun e => by
      have := congrArg ByteArray.size e
      rw [ByteArray.size_extract, e2] at this
      omega
    simp only [h, g, ↓reduceIte, Option.bind_some, Bool.false_eq_true]
theorem afterM_size (a b : ByteArray) : (afterM a b).1.size ≤ a.size := by
  unfold afterM
  split
  · rw [ByteArray.size_extract]; omega
  · exact Nat.zero_le _
/-- A name, '=' and a value. -/
theorem afterM_of (n v : ByteArray) : afterM ((n ++ (⟨#[61]⟩ : ByteArray)) ++ v) n = (v, true) := by
  have z : n.size + 1 = (n ++ (⟨#[61]⟩ : ByteArray)).size := by rw [ByteArray.size_append]; rfl
  unfold afterM
  rw [z]
  generalize n ++ (⟨#[61]⟩ : ByteArray) = m
  have e1 : (m ++ v).extract 0 m.size = m := data_inj (by rw [extract_data', ByteArray.toList_data_append, List.drop_zero, ← size_data, List.take_left])
  have e2 : (m ++ v).extract m.size (m ++ v).size = v := data_inj (by rw [extract_data', ← size_data (m ++ v), List.take_length, ByteArray.toList_data_append, ← size_data m, List.drop_left])
  rw [e1, if_pos rfl, e2]

/-! impl_ParseInt -/
theorem ev_uniq {α : Type} {g : Nat → Option α} {a b : α} (h1 : Ev g a) (h2 : Ev g b) : a = b := by
  obtain ⟨K1, h1⟩ := h1
  obtain ⟨K2, h2⟩ := h2
  exact Option.some.inj ((h1 (max K1 K2) (Nat.le_max_left _ _)).symm.trans (h2 (max K1 K2) (Nat.le_max_right _ _)))
theorem impl_ParseInt_some (s : ByteArray) : ∃ v b, impl_ParseInt.f s = some (v, b) := by
  unfold impl_ParseInt.f
  split
  · exact ⟨_, _, rfl⟩
  · split
    · split
      · exact ⟨_, _, rfl⟩
      · exact ⟨_, _, rfl⟩
    · exact ⟨_, _, rfl⟩
theorem atoi_small : ∀ n : Fin 400, (match Go.Lib.atoiAll (dig3 (n.val + 1)) with | .ok v => v == ((n.val + 1 : Nat) : Int) | _ => false) = true := by decide +kernel
theorem impl_ParseInt_num (n : Int) (h0 : 1 ≤ n) (h : n ≤ 400) : impl_ParseInt.f (numT n) = some (n, true) := by
  obtain ⟨m, rfl⟩ := Int.eq_ofNat_of_zero_le (show 0 ≤ n by omega)
  have z := numT_size (m : Int) (by omega) (by omega)
  have hs := atoi_small ⟨m - 1, by omega⟩
  have e : m - 1 + 1 = m := by omega
  simp only [e] at hs
  have hd : (numT (m : Int)).data.toList = dig3 m := by
    unfold numT
    rw [itoa_dig3 m (by omega)]
  unfold impl_ParseInt.f
  rw [if_neg (by omega), hd]
  cases ha : Go.Lib.atoiAll (dig3 m) with
  | ok v =>
    rw [ha] at hs
    simp only [beq_iff_eq] at hs
    subst hs
    simp only
    rw [if_pos ⟨by omega, by omega, rfl⟩]
  | _ => rw [ha] at hs; exact absurd hs (by simp)

/-! impl_ParsePattern -/
theorem noteB_lt {s : ByteArray} {x : Int} (h : noteB s x ≠ 0) : x < (s.size : Int) := by
  refine Int.not_le.1 fun g => h ?_
  unfold noteB
  rw [if_neg (by omega)]
/-- The reading ends, within the text. -/
theorem readM_ex (s : ByteArray) (hs : s.size ≤ 200) : ∀ (M m : Nat), m ≤ M → ∀ (x : Int) (o : List Int), 0 ≤ x → x + m = s.size → (o.length : Int) ≤ x →
    ∃ r : NoteR, Ev (fun k => readM k s x o) r ∧ x < r.2.1 ∧ r.2.1 ≤ s.size + 1 ∧ (r.1 = true → r.2.1 ≤ s.size) ∧ (r.2.2.length : Int) ≤ o.length + (r.2.1 - x) := by
  intro M
  induction M with
  | zero =>
    intro m hm x o h0 h1 h2
    have c : noteB s x = 0 := if_neg (by omega)
    have g : 0 ≤ x ∧ x ≤ 1000 ∧ o.length ≤ 1000000 := by omega
    exact ⟨(false, x + 1, o), ev_succ (ev_of_eq fun k => by simp only [readM, g, c, ↓reduceIte, and_self]), by simp only; omega, by simp only; omega, (fun e => by cases e), by simp only; omega⟩
  | succ M ih =>
    intro m hm x o h0 h1 h2
    have g : 0 ≤ x ∧ x ≤ 1000 ∧ o.length ≤ 1000000 := by omega
    by_cases c0 : noteB s x = 0
    · exact ⟨(false, x + 1, o), ev_succ (ev_of_eq fun k => by simp only [readM, g, c0, ↓reduceIte, and_self]), by simp only; omega, by simp only; omega, (fun e => by cases e), by simp only; omega⟩
    have hx := noteB_lt c0
    by_cases c33 : noteB s x = 33
    · obtain ⟨⟨b, x1, o1⟩, hr, p1, p2, p3, p4⟩ := ih (m - 1) (by omega) (x + 1) o (by omega) (by omega) (by omega)
      simp only at p1 p2 p3 p4
      cases b
      · refine ⟨(false, x1, o1), ev_succ ?_, by simp only; omega, by simp only; omega, (fun e => by cases e), by simp only; omega⟩
        simp only [readM, g, c33, show ¬ (33 : Int) = 0 by omega, ↓reduceIte, and_self]
        exact Ev.bind hr (Ev.now _)
      · have q := p3 rfl
        have q1 : o1.length ≤ 1000000 := by omega
        refine ⟨(true, x1, o1 ++ [-1]), ev_succ ?_, by simp only; omega, by simp only; omega, fun _ => q, by simp only [List.length_append, List.length_cons, List.length_nil]; omega⟩
        simp only [readM, g, c33, show ¬ (33 : Int) = 0 by omega, ↓reduceIte, and_self]
        exact Ev.bind hr (ev_of_eq fun k => by simp only [↓reduceIte, q1])
    by_cases c40 : noteB s x = 40
    · obtain ⟨⟨b, x1, o1⟩, hr, p1, p2, p3, p4⟩ := ih (m - 1) (by omega) (x + 1) o (by omega) (by omega) (by omega)
      simp only at p1 p2 p3 p4
      have N0 : ¬ (40 : Int) = 0 := by omega
      have N3 : ¬ (40 : Int) = 33 := by omega
      cases b
      · refine ⟨(false, x1, o1), ev_succ ?_, by simp only; omega, by simp only; omega, (fun e => by cases e), by simp only; omega⟩
        simp only [readM, g, c40, N0, N3, ↓reduceIte, and_self, pairM]
        exact Ev.bind hr (Ev.now _)
      have q := p3 rfl
      have q1 : 0 ≤ x1 ∧ x1 ≤ 1000000 := by omega
      by_cases d : noteB s x1 = 38 ∨ noteB s x1 = 124
      · have hx1 : x1 < (s.size : Int) := noteB_lt (fun e => by rcases d with d | d <;> rw [e] at d <;> exact absurd d (by decide))
        obtain ⟨⟨b2, x2, o2⟩, hr2, r1, r2, r3, r4⟩ := ih (s.size - (x1 + 1)).toNat (by omega) (x1 + 1) o1 (by omega) (by omega) (by omega)
        simp only at r1 r2 r3 r4
        cases b2
        · refine ⟨(false, x2, o2), ev_succ ?_, by simp only; omega, by simp only; omega, (fun e => by cases e), by simp only; omega⟩
          simp only [readM, g, c40, N0, N3, ↓reduceIte, and_self, pairM]
          refine Ev.bind hr ?_
          simp only [q1, d, and_self, ↓reduceIte]
          exact Ev.bind hr2 (Ev.now _)
        · have z := r3 rfl
          have z1 : 0 ≤ x2 ∧ x2 ≤ 1000000 ∧ o2.length ≤ 1000000 := by omega
          by_cases f : noteB s x2 = 41
          · have hx2 : x2 < (s.size : Int) := noteB_lt (fun e => by rw [e] at f; exact absurd f (by decide))
            refine ⟨(true, x2 + 1, o2 ++ [if noteB s x1 = 38 then -2 else -3]), ev_succ ?_, by simp only; omega, by simp only; omega, fun _ => by simp only; omega, by simp only [List.length_append, List.length_cons, List.length_nil]; omega⟩
            simp only [readM, g, c40, N0, N3, ↓reduceIte, and_self, pairM]
            refine Ev.bind hr ?_
            simp only [q1, d, and_self, ↓reduceIte]
            exact Ev.bind hr2 (ev_of_eq fun k => by simp only [z1, f, and_self, ↓reduceIte])
          · refine ⟨(false, x2, o2), ev_succ ?_, by simp only; omega, by simp only; omega, (fun e => by cases e), by simp only; omega⟩
            simp only [readM, g, c40, N0, N3, ↓reduceIte, and_self, pairM]
            refine Ev.bind hr ?_
            simp only [q1, d, and_self, ↓reduceIte]
            exact Ev.bind hr2 (ev_of_eq fun k => by simp only [z1, f, and_self, ↓reduceIte])
      · refine ⟨(false, x1, o1), ev_succ ?_, by simp only; omega, by simp only; omega, (fun e => by cases e), by simp only; omega⟩
        simp only [readM, g, c40, N0, N3, ↓reduceIte, and_self, pairM]
        exact Ev.bind hr (ev_of_eq fun k => by simp only [q1, d, and_self, ↓reduceIte])
    by_cases c114 : noteB s x = 114
    · refine ⟨(true, x + 1, o ++ [400]), ev_succ (ev_of_eq fun k => by simp only [readM, g, c114, show ¬ (114 : Int) = 0 by omega, show ¬ (114 : Int) = 33 by omega, show ¬ (114 : Int) = 40 by omega, ↓reduceIte, and_self]), by simp only; omega, by simp only; omega, fun _ => by simp only; omega, by simp only [List.length_append, List.length_cons, List.length_nil]; omega⟩
    by_cases cs : 0 ≤ suitI (noteB s x)
    · refine ⟨(true, x + 1, o ++ [wrap64 (100 + suitI (noteB s x))]), ev_succ (ev_of_eq fun k => by simp only [readM, g, c0, c33, c40, c114, cs, ↓reduceIte, and_self]), by simp only; omega, by simp only; omega, fun _ => by simp only; omega, by simp only [List.length_append, List.length_cons, List.length_nil]; omega⟩
    by_cases cr : rankI (noteB s x) < 0
    · refine ⟨(false, x + 1, o), ev_succ (ev_of_eq fun k => by simp only [readM, g, c0, c33, c40, c114, cs, cr, ↓reduceIte, and_self]), by simp only; omega, by simp only; omega, (fun e => by cases e), by simp only; omega⟩
    by_cases cp : noteB s (x + 1) = 43
    · have hx2 : x + 1 < (s.size : Int) := noteB_lt (fun e => by rw [e] at cp; exact absurd cp (by decide))
      refine ⟨(true, x + 1 + 1, o ++ [wrap64 (300 + rankI (noteB s x))]), ev_succ (ev_of_eq fun k => by simp only [readM, g, c0, c33, c40, c114, cs, cr, cp, ↓reduceIte, and_self]), by simp only; omega, by simp only; omega, fun _ => by simp only; omega, by simp only [List.length_append, List.length_cons, List.length_nil]; omega⟩
    · refine ⟨(true, x + 1, o ++ [wrap64 (200 + rankI (noteB s x))]), ev_succ (ev_of_eq fun k => by simp only [readM, g, c0, c33, c40, c114, cs, cr, cp, ↓reduceIte, and_self]), by simp only; omega, by simp only; omega, fun _ => by simp only; omega, by simp only [List.length_append, List.length_cons, List.length_nil]; omega⟩
/-! signs and texts that are told by each other -/
theorem at_drop {s : ByteArray} {x : Nat} {c : UInt8} {r : List UInt8} (h : s.data.toList.drop x = c :: r) : x < s.size ∧ bt s (x : Int) = (c.toNat : Int) ∧ s.data.toList.drop (x + 1) = r := by
  have hl : x < s.data.toList.length := by
    refine Nat.lt_of_not_le fun g => ?_
    rw [List.drop_eq_nil_of_le g] at h
    exact absurd h (by simp)
  rw [List.drop_eq_getElem_cons hl] at h
  injection h with h1 h2
  have hx : x < s.size := by rw [← size_data]; exact hl
  exact ⟨hx, (bt_eq s x hx c).2 h1, h2⟩
theorem noteB_at {s : ByteArray} {x : Nat} {c : UInt8} {r : List UInt8} (h : s.data.toList.drop x = c :: r) : noteB s (x : Int) = (c.toNat : Int) := by
  obtain ⟨h1, h2, _⟩ := at_drop h
  unfold noteB
  rw [if_pos (by omega), h2]
theorem drop_end {s : ByteArray} {x : Nat} (h : s.data.toList.drop x = []) : s.size ≤ x := by
  have := List.drop_eq_nil_iff.1 h
  rw [size_data] at this
  exact this
theorem noteB_not {s : ByteArray} {x : Nat} {post : List UInt8} (h : s.data.toList.drop x = post) (hp : post.head? ≠ some 43) : noteB s (x : Int) ≠ 43 := by
  cases post with
  | nil =>
    have := drop_end h
    unfold noteB
    rw [if_neg (by omega)]
    decide
  | cons c r =>
    rw [noteB_at h]
    intro e
    refine hp ?_
    rw [List.head?_cons, UInt8.toNat_inj.1 (show c.toNat = (43 : UInt8).toNat by simpa using Int.ofNat.inj e)]
def suitC (i : Nat) : UInt8 := [99, 100, 104, 115].getD i 0
def rankC (i : Nat) : UInt8 := [50, 51, 52, 53, 54, 55, 56, 57, 84, 74, 81, 75, 65].getD i 0
theorem suit_text : ∀ i : Fin 4, (signM (100 + (i.val : Int))).data.toList = [suitC i.val] := by decide +kernel
theorem rank_text : ∀ i : Fin 13, (signM (200 + (i.val : Int))).data.toList = [rankC i.val] := by decide +kernel
theorem from_text : ∀ i : Fin 13, (signM (300 + (i.val : Int))).data.toList = [rankC i.val, 43] := by decide +kernel
theorem suit_fact : ∀ i : Fin 4, ¬ ((suitC i.val).toNat : Int) = 0 ∧ ¬ ((suitC i.val).toNat : Int) = 33 ∧ ¬ ((suitC i.val).toNat : Int) = 40 ∧ ¬ ((suitC i.val).toNat : Int) = 114 ∧ suitI ((suitC i.val).toNat : Int) = i.val := by decide +kernel
theorem rank_fact : ∀ i : Fin 13, ¬ ((rankC i.val).toNat : Int) = 0 ∧ ¬ ((rankC i.val).toNat : Int) = 33 ∧ ¬ ((rankC i.val).toNat : Int) = 40 ∧ ¬ ((rankC i.val).toNat : Int) = 114 ∧ suitI ((rankC i.val).toNat : Int) = -1 ∧ rankI ((rankC i.val).toNat : Int) = i.val := by decide +kernel
/-- The four kinds of leaves. -/
theorem leaf_cases {s : Int} (h : leafM s = true) : (∃ i : Fin 4, s = 100 + (i.val : Int)) ∨ (∃ i : Fin 13, s = 200 + (i.val : Int)) ∨ (∃ i : Fin 13, s = 300 + (i.val : Int)) ∨ s = 400 := by
  unfold leafM at h
  simp only [Bool.or_eq_true, decide_eq_true_eq, beq_iff_eq] at h
  rcases h with ((h | h) | h) | h
  · exact Or.inl ⟨⟨(s - 100).toNat, by omega⟩, by simp only; omega⟩
  · exact Or.inr (Or.inl ⟨⟨(s - 200).toNat, by omega⟩, by simp only; omega⟩)
  · exact Or.inr (Or.inr (Or.inl ⟨⟨(s - 300).toNat, by omega⟩, by simp only; omega⟩))
  · exact Or.inr (Or.inr (Or.inr h))
/-- A pattern's text, out of the texts of its parts. -/
theorem good_text (G : List Int → List UInt8 → Prop) (hleaf : ∀ s, leafM s = true → G [s] (signM s).data.toList) (hneg : ∀ q t, G q t → G (q ++ [-1]) (33 :: t))
    (hbin : ∀ q1 t1 q2 t2 (op : Int) (c : UInt8), (op = -2 ∧ c = 38 ∨ op = -3 ∧ c = 124) → G q1 t1 → G q2 t2 → G (q1 ++ q2 ++ [op]) (40 :: (t1 ++ (c :: (t2 ++ [41]))))) :
    ∀ (p : List Int) (ps : List (List Int × ByteArray)), patF p (ps.length : Int) = some 1 → (∀ y ∈ ps, G y.1 y.2.data.toList) → G ((ps.map (·.1)).flatten ++ p) (textF p (ps.map (·.2))).data.toList := by
  intro p
  induction p with
  | nil =>
    intro ps he hg
    simp only [patF, Option.some.injEq] at he
    match ps, he with
    | [y], _ => simpa [textF, rdOf] using hg y (by simp)
  | cons s r ih =>
    intro ps he hg
    have le := he
    rcases patF_step he with ⟨n1, n2, n3, e4⟩ | ⟨n1, n2, e4⟩ | ⟨n1, n2, e4⟩
    · have hl : leafM s = true := by
        unfold patF at le
        by_cases h : leafM s = true
        · exact h
        · rw [if_neg h] at le
          simp only [n1, n2, n3, ↓reduceIte, or_self, beq_iff_eq] at le
          exact absurd le (by simp)
      have := ih (ps ++ [([s], signM s)]) (by simpa using e4) (fun y hy => by
        rcases List.mem_append.1 hy with h | h
        · exact hg y h
        · rw [List.mem_singleton.1 h]; exact hleaf s hl)
      simp only [textF, n1, n2, n3, ↓reduceIte]
      simpa using this
    · subst n1
      obtain ⟨qs, y, rfl⟩ : ∃ qs y, ps = qs ++ [y] := ⟨ps.dropLast, ps.getLast (by intro e; rw [e] at n2; simp at n2), (List.dropLast_concat_getLast _).symm⟩
      have := ih (qs ++ [(y.1 ++ [-1], (⟨#[33]⟩ : ByteArray) ++ y.2)]) (by simpa using e4) (fun z hz => by
        rcases List.mem_append.1 hz with h | h
        · exact hg z (List.mem_append_left _ h)
        · rw [List.mem_singleton.1 h]
          have g := hneg _ _ (hg y (by simp))
          simpa using g)
      have ex : ((qs ++ [y]).map (·.2)).length = qs.length + 1 := by simp
      have e1 : rdOf ByteArray.empty ((qs ++ [y]).map (·.2)) (((qs.length + 1 : Nat) : Int) - 1) = y.2 := by
        rw [List.map_append, List.map_cons, List.map_nil]
        exact rdOf_mid _ _ [] _ (by simp) _
      have e2 : ((qs ++ [y]).map (·.2)).set (((qs.length + 1 : Nat) : Int) - 1).toNat ((⟨#[33]⟩ : ByteArray) ++ y.2) = qs.map (·.2) ++ [(⟨#[33]⟩ : ByteArray) ++ y.2] := by
        rw [List.map_append, List.map_cons, List.map_nil]
        simp
      simp only [textF, ↓reduceIte, ex, e1, e2]
      simpa using this
    · obtain ⟨qs, y, z, rfl⟩ : ∃ qs y z, ps = qs ++ [y, z] := by
        have h1 : ps ≠ [] := by intro e; rw [e] at n2; simp at n2
        have h2 : ps.dropLast ≠ [] := by intro e; have := congrArg List.length e; simp at this; omega
        refine ⟨ps.dropLast.dropLast, ps.dropLast.getLast h2, ps.getLast h1, ?_⟩
        have a := List.dropLast_concat_getLast h1
        have b := List.dropLast_concat_getLast h2
        conv => lhs; rw [← a, ← b]
        simp
      have ex : ((qs ++ [y, z]).map (·.2)).length = qs.length + 2 := by simp
      have e1 : rdOf ByteArray.empty ((qs ++ [y, z]).map (·.2)) (((qs.length + 2 : Nat) : Int) - 2) = y.2 := by
        rw [List.map_append, List.map_cons, List.map_cons, List.map_nil]
        exact rdOf_mid _ _ _ _ (by simp) _
      have e2 : rdOf ByteArray.empty ((qs ++ [y, z]).map (·.2)) (((qs.length + 2 : Nat) : Int) - 1) = z.2 := by
        have : (qs ++ [y, z]).map (·.2) = (qs.map (·.2) ++ [y.2]) ++ z.2 :: [] := by simp
        rw [this]
        exact rdOf_mid _ _ _ _ (by simp; omega) _
      have e3 : ((qs ++ [y, z]).map (·.2)).take (((qs.length + 2 : Nat) : Int) - 2).toNat = qs.map (·.2) := by
        rw [show (((qs.length + 2 : Nat) : Int) - 2).toNat = (qs.map (·.2)).length by simp, List.map_append]
        exact List.take_left
      have hy := hg y (by simp)
      have hz := hg z (by simp)
      have go : ∀ c : UInt8, (s = -2 ∧ c = 38 ∨ s = -3 ∧ c = 124) → G (((qs ++ [y, z]).map (·.1)).flatten ++ s :: r) (textF r (qs.map (·.2) ++ [((((⟨#[40]⟩ : ByteArray) ++ y.2) ++ (⟨#[c]⟩ : ByteArray)) ++ z.2) ++ (⟨#[41]⟩ : ByteArray)])).data.toList := by
        intro c hc
        have := ih (qs ++ [(y.1 ++ z.1 ++ [s], ((((⟨#[40]⟩ : ByteArray) ++ y.2) ++ (⟨#[c]⟩ : ByteArray)) ++ z.2) ++ (⟨#[41]⟩ : ByteArray))]) (by
            rw [List.length_append] at e4 ⊢
            simp only [List.length_cons, List.length_nil] at e4 ⊢
            rw [← e4]
            congr 1
            omega) (fun u hu => by
          rcases List.mem_append.1 hu with h | h
          · exact hg u (List.mem_append_left _ h)
          · rw [List.mem_singleton.1 h]
            have g := hbin _ _ _ _ s c hc hy hz
            simpa using g)
        simpa using this
      rcases n1 with n1 | n1
      · subst n1
        simp only [textF, show ¬ (-2 : Int) = -1 by omega, ↓reduceIte, ex, e1, e2, e3]
        exact go 38 (Or.inl ⟨rfl, rfl⟩)
      · subst n1
        simp only [textF, show ¬ (-3 : Int) = -1 by omega, show ¬ (-3 : Int) = -2 by omega, ↓reduceIte, ex, e1, e2, e3]
        exact go 124 (Or.inr ⟨rfl, rfl⟩)
/-- Signs and a text that the reader turns into each other. -/
def GoodI (q : List Int) (t : List UInt8) : Prop := 1 ≤ q.length ∧ t.length ≤ 3 * q.length ∧ ∀ (s : ByteArray) (x : Nat) (post : List UInt8) (o : List Int), s.size ≤ 900 → s.data.toList.drop x = t ++ post → post.head? ≠ some 43 → o.length + q.length ≤ 900 →
  Ev (fun k => readM k s (x : Int) o) (true, ((x + t.length : Nat) : Int), o ++ q)
theorem goodI_leaf (s : Int) (h : leafM s = true) : GoodI [s] (signM s).data.toList := by
  rcases leaf_cases h with ⟨i, rfl⟩ | ⟨i, rfl⟩ | ⟨i, rfl⟩ | rfl
  · obtain ⟨f0, f33, f40, f114, fs⟩ := suit_fact i
    rw [suit_text i]
    refine ⟨by simp, by simp, fun b x post o hb hd hp ho => ?_⟩
    have e := noteB_at hd
    have g : 0 ≤ (x : Int) ∧ (x : Int) ≤ 1000 ∧ o.length ≤ 1000000 := by have := (at_drop hd).1; simp at ho; omega
    have fw : wrap64 (100 + (i.val : Int)) = 100 + i.val := w64 (by omega) (by omega)
    refine ev_succ (ev_of_eq fun k => ?_)
    simp only [readM, g, e, f0, f33, f40, f114, fs, fw, Int.natCast_nonneg, ↓reduceIte, and_self, List.length_cons, List.length_nil]
    rfl
  · obtain ⟨f0, f33, f40, f114, fs, fr⟩ := rank_fact i
    rw [rank_text i]
    refine ⟨by simp, by simp, fun b x post o hb hd hp ho => ?_⟩
    have e := noteB_at hd
    have n := noteB_not (at_drop hd).2.2 hp
    have g : 0 ≤ (x : Int) ∧ (x : Int) ≤ 1000 ∧ o.length ≤ 1000000 := by have := (at_drop hd).1; simp at ho; omega
    have fw : wrap64 (200 + (i.val : Int)) = 200 + i.val := w64 (by omega) (by omega)
    have z : ¬ (i.val : Int) < 0 := Int.not_lt.2 (Int.natCast_nonneg _)
    have n' : ¬ noteB b ((x : Int) + 1) = 43 := n
    refine ev_succ (ev_of_eq fun k => ?_)
    simp only [readM, g, e, f0, f33, f40, f114, fs, fr, z, n', fw, show ¬ (0 : Int) ≤ -1 by omega, ↓reduceIte, and_self, List.length_cons, List.length_nil]
    rfl
  · obtain ⟨f0, f33, f40, f114, fs, fr⟩ := rank_fact i
    rw [from_text i]
    refine ⟨by simp, by simp, fun b x post o hb hd hp ho => ?_⟩
    have e := noteB_at hd
    have n : noteB b ((x + 1 : Nat) : Int) = ((43 : UInt8).toNat : Int) := noteB_at (at_drop hd).2.2
    rw [show ((43 : UInt8).toNat : Int) = 43 by decide] at n
    have g : 0 ≤ (x : Int) ∧ (x : Int) ≤ 1000 ∧ o.length ≤ 1000000 := by have := (at_drop hd).1; simp at ho; omega
    have fw : wrap64 (300 + (i.val : Int)) = 300 + i.val := w64 (by omega) (by omega)
    have z : ¬ (i.val : Int) < 0 := Int.not_lt.2 (Int.natCast_nonneg _)
    have n' : noteB b ((x : Int) + 1) = 43 := n
    refine ev_succ (ev_of_eq fun k => ?_)
    simp only [readM, g, e, f0, f33, f40, f114, fs, fr, z, n', fw, show ¬ (0 : Int) ≤ -1 by omega, ↓reduceIte, and_self, List.length_cons, List.length_nil]
    rfl
  · have et : (signM 400).data.toList = [114] := by unfold signM; rw [if_pos rfl]
    rw [et]
    refine ⟨by simp, by simp, fun b x post o hb hd hp ho => ?_⟩
    have e : noteB b (x : Int) = ((114 : UInt8).toNat : Int) := noteB_at hd
    rw [show ((114 : UInt8).toNat : Int) = 114 by decide] at e
    have g : 0 ≤ (x : Int) ∧ (x : Int) ≤ 1000 ∧ o.length ≤ 1000000 := by have := (at_drop hd).1; simp at ho; omega
    refine ev_succ (ev_of_eq fun k => ?_)
    simp only [readM, g, e, show ¬ (114 : Int) = 0 by omega, show ¬ (114 : Int) = 33 by omega, show ¬ (114 : Int) = 40 by omega, ↓reduceIte, and_self, List.length_cons, List.length_nil]
    rfl
theorem goodI_neg (q : List Int) (t : List UInt8) (h : GoodI q t) : GoodI (q ++ [-1]) (33 :: t) := by
  obtain ⟨h1, h2, h3⟩ := h
  refine ⟨by simp, by simp; omega, fun b x post o hb hd hp ho => ?_⟩
  have e : noteB b (x : Int) = ((33 : UInt8).toNat : Int) := noteB_at hd
  rw [show ((33 : UInt8).toNat : Int) = 33 by decide] at e
  rw [List.length_append] at ho
  simp only [List.length_cons, List.length_nil] at ho
  have g : 0 ≤ (x : Int) ∧ (x : Int) ≤ 1000 ∧ o.length ≤ 1000000 := by have := (at_drop hd).1; omega
  have r := h3 b (x + 1) post o hb (at_drop hd).2.2 hp (by omega)
  have g2 : (o ++ q).length ≤ 1000000 := by rw [List.length_append]; omega
  refine ev_succ ?_
  simp only [readM, g, e, show ¬ (33 : Int) = 0 by omega, ↓reduceIte, and_self]
  refine Ev.bind r (ev_of_eq fun k => ?_)
  simp only [g2, ↓reduceIte, List.length_cons, List.append_assoc]
  congr 3
  omega
theorem goodI_bin (q1 : List Int) (t1 : List UInt8) (q2 : List Int) (t2 : List UInt8) (op : Int) (c : UInt8) (hc : op = -2 ∧ c = 38 ∨ op = -3 ∧ c = 124) (ha : GoodI q1 t1) (hb : GoodI q2 t2) : GoodI (q1 ++ q2 ++ [op]) (40 :: (t1 ++ (c :: (t2 ++ [41])))) := by
  obtain ⟨a1, a2, a3⟩ := ha
  obtain ⟨b1, b2, b3⟩ := hb
  refine ⟨by simp only [List.length_append, List.length_cons, List.length_nil]; omega, by simp only [List.length_append, List.length_cons, List.length_nil]; omega, fun b x post o hb hd hp ho => ?_⟩
  have e : noteB b (x : Int) = ((40 : UInt8).toNat : Int) := noteB_at hd
  rw [show ((40 : UInt8).toNat : Int) = 40 by decide] at e
  simp only [List.length_append, List.length_cons, List.length_nil] at ho
  have g : 0 ≤ (x : Int) ∧ (x : Int) ≤ 1000 ∧ o.length ≤ 1000000 := by have := (at_drop hd).1; omega
  have d1 : b.data.toList.drop (x + 1) = t1 ++ (c :: (t2 ++ (41 :: post))) := by
    have := (at_drop hd).2.2
    rw [this]
    simp
  have r1 := a3 b (x + 1) _ o hb d1 (by rcases hc with ⟨_, rfl⟩ | ⟨_, rfl⟩ <;> simp) (by omega)
  have d2 : b.data.toList.drop (x + 1 + t1.length) = c :: (t2 ++ (41 :: post)) := by
    rw [← List.drop_drop, d1, List.drop_left]
  have c1 := noteB_at d2
  have l2 := (at_drop d2).1
  have d3 := (at_drop d2).2.2
  have r2 := b3 b (x + 1 + t1.length + 1) _ (o ++ q1) hb d3 (by simp) (by rw [List.length_append]; omega)
  have d4 : b.data.toList.drop (x + 1 + t1.length + 1 + t2.length) = 41 :: post := by
    rw [← List.drop_drop, d3, List.drop_left]
  have c2 : noteB b ((x + 1 + t1.length + 1 + t2.length : Nat) : Int) = ((41 : UInt8).toNat : Int) := noteB_at d4
  rw [show ((41 : UInt8).toNat : Int) = 41 by decide] at c2
  have l4 := (at_drop d4).1
  have g1 : 0 ≤ ((x + 1 + t1.length : Nat) : Int) ∧ ((x + 1 + t1.length : Nat) : Int) ≤ 1000000 := by omega
  have g2 : 0 ≤ ((x + 1 + t1.length + 1 + t2.length : Nat) : Int) ∧ ((x + 1 + t1.length + 1 + t2.length : Nat) : Int) ≤ 1000000 ∧ (o ++ q1 ++ q2).length ≤ 1000000 := by
    rw [List.length_append, List.length_append]
    omega
  have hs : (if noteB b ((x + 1 + t1.length : Nat) : Int) = 38 then (-2 : Int) else -3) = op ∧ (noteB b ((x + 1 + t1.length : Nat) : Int) = 38 ∨ noteB b ((x + 1 + t1.length : Nat) : Int) = 124) := by
    rw [c1]
    rcases hc with ⟨rfl, rfl⟩ | ⟨rfl, rfl⟩
    · exact ⟨by decide, Or.inl rfl⟩
    · exact ⟨by decide, Or.inr rfl⟩
  refine ev_succ ?_
  simp only [readM, g, e, show ¬ (40 : Int) = 0 by omega, show ¬ (40 : Int) = 33 by omega, ↓reduceIte, and_self, pairM]
  refine Ev.bind r1 ?_
  simp only [g1, hs.2, and_self, ↓reduceIte]
  refine Ev.bind r2 (ev_of_eq fun k => ?_)
  simp only [g2, c2, hs.1, and_self, ↓reduceIte]
  refine congrArg some (Prod.ext rfl (Prod.ext ?_ ?_))
  · simp only [List.length_cons, List.length_append, List.length_nil]; omega
  · simp
theorem goodI_text (p : List Int) (h : isPatM p = true) : GoodI p (textF p []).data.toList := by
  have := good_text GoodI goodI_leaf goodI_neg goodI_bin p [] (by simpa using (isPatM_run h).1) (fun y hy => by simp at hy)
  simpa using this
theorem patText_of {p : List Int} (h : isPatM p = true) : patText p = textF p [] := if_pos h
theorem isPatM_ne {p : List Int} (h : isPatM p = true) : p.length ≠ 0 := by
  intro e
  rw [List.length_eq_zero_iff.1 e] at h
  exact absurd h (by decide)
/-- What ParsePattern answers: a list; of a pattern's text, or of the sign for none, its signs. -/
theorem impl_ParsePattern_ex (s : ByteArray) : ∃ (p : List Int) (b : Bool), Ev (fun k => impl_ParsePattern.f k s) (p, b) ∧ p.length ≤ 1048576 ∧ (∀ q, maybeM q = true → s = maybeT q → p = q) := by
  by_cases hl : 100 < (s.size : Int)
  · refine ⟨[], false, ev_of_eq fun k => by simp only [impl_ParsePattern.f, hl, ↓reduceIte], by simp, fun q hq e => ?_⟩
    unfold maybeM at hq
    unfold maybeT at e
    by_cases h0 : q.length = 0
    · exact (List.length_eq_zero_iff.1 h0).symm
    · rw [if_neg h0] at e
      have hp : isPatM q = true := by simpa [h0] using hq
      have := (goodI_text q hp).2.1
      rw [size_data, ← patText_of hp, ← e] at this
      have := (isPatM_run hp).2
      omega
  obtain ⟨⟨b, x, o⟩, hr, p1, p2, p3, p4⟩ := readM_ex s (by omega) s.size s.size (Nat.le_refl _) 0 [] (by omega) (by omega) (by simp)
  simp only at p1 p2 p3 p4
  have lo : o.length ≤ 1000 := by simp at p4; omega
  cases b
  · refine ⟨[], false, ?_, by simp, fun q hq e => ?_⟩
    · simp only [impl_ParsePattern.f, hl, ↓reduceIte]
      exact Ev.bind hr (ev_of_eq fun k => by simp)
    · unfold maybeM at hq
      unfold maybeT at e
      by_cases h0 : q.length = 0
      · exact (List.length_eq_zero_iff.1 h0).symm
      · rw [if_neg h0] at e
        have hp : isPatM q = true := by simpa [h0] using hq
        rw [patText_of hp] at e
        have := (goodI_text q hp).2.2 s 0 [] [] (by omega) (by rw [List.drop_zero, e, List.append_nil]) (by simp) (by have := (isPatM_run hp).2; simp; omega)
        have := ev_uniq hr this
        exact absurd (congrArg Prod.fst this) (by simp)
  · have hs0 : s.size ≠ 0 := by
      intro e
      have := p3 rfl
      omega
    have lt : o.length ≤ 1099511627776 := by omega
    have ht := impl_PatternText_ev o lt
    refine ⟨if (patText o).toList = s.toList then o else [], decide ((patText o).toList = s.toList), ?_, ?_, fun q hq e => ?_⟩
    · simp only [impl_ParsePattern.f, hl, ↓reduceIte]
      refine Ev.bind hr ?_
      simp only [↓reduceIte]
      refine Ev.bind ht (ev_of_eq fun k => ?_)
      by_cases g : (patText o).toList = s.toList
      · simp [g]
      · simp [g]
    · by_cases g : (patText o).toList = s.toList
      · rw [if_pos g]; omega
      · rw [if_neg g]; simp
    · unfold maybeM at hq
      unfold maybeT at e
      by_cases h0 : q.length = 0
      · rw [if_pos h0] at e
        subst e
        have z : readM 1 (⟨#[45]⟩ : ByteArray) 0 [] = some (false, 1, []) := by decide +kernel
        have : Ev (fun k => readM k (⟨#[45]⟩ : ByteArray) 0 []) (false, 1, []) := Ev.of (k := 1) (fun k => readM_mono k _ _ _) z
        exact absurd (congrArg Prod.fst (ev_uniq hr this)) (by simp)
      · rw [if_neg h0] at e
        have hp : isPatM q = true := by simpa [h0] using hq
        have e' := e
        rw [patText_of hp] at e
        have := (goodI_text q hp).2.2 s 0 [] [] (by omega) (by rw [List.drop_zero, e, List.append_nil]) (by simp) (by have := (isPatM_run hp).2; simp; omega)
        have := ev_uniq hr this
        have oq : o = q := by simpa using congrArg (fun z => z.2.2) this
        subst oq
        rw [if_pos (by rw [e'])]

/-! impl_ParseRules -/
/-! the words of rules -/
theorem no32_dig : ∀ n : Fin 400, (32 : UInt8) ∉ dig3 (n.val + 1) := by decide +kernel
theorem no32_num (n : Int) (h0 : 1 ≤ n) (h : n ≤ 400) : (32 : UInt8) ∉ (numT n).data.toList := by
  obtain ⟨m, rfl⟩ := Int.eq_ofNat_of_zero_le (show 0 ≤ n by omega)
  have hs := no32_dig ⟨m - 1, by omega⟩
  have e : m - 1 + 1 = m := by omega
  simp only [e] at hs
  have hd : (numT (m : Int)).data.toList = dig3 m := by
    unfold numT
    rw [itoa_dig3 m (by omega)]
  rw [hd]
  exact hs
theorem no32_suit : ∀ i : Fin 4, (32 : UInt8) ∉ [suitC i.val] := by decide +kernel
theorem no32_rank : ∀ i : Fin 13, (32 : UInt8) ∉ [rankC i.val, 43] := by decide +kernel
theorem no32_text (p : List Int) (h : isPatM p = true) : (32 : UInt8) ∉ (textF p []).data.toList := by
  have := good_text (fun _ t => (32 : UInt8) ∉ t) (fun s hs => by
      rcases leaf_cases hs with ⟨i, rfl⟩ | ⟨i, rfl⟩ | ⟨i, rfl⟩ | rfl
      · rw [suit_text i]; exact no32_suit i
      · rw [rank_text i]; exact fun m => no32_rank i (List.mem_cons.2 (Or.inl (List.mem_singleton.1 m)))
      · rw [from_text i]; exact no32_rank i
      · have et : (signM 400).data.toList = [114] := by unfold signM; rw [if_pos rfl]
        rw [et]; decide) (fun q t h m => by
      rcases List.mem_cons.1 m with m | m
      · exact absurd m (by decide)
      · exact h m) (fun q1 t1 q2 t2 op c hc h1 h2 m => by
      simp only [List.mem_cons, List.mem_append, List.not_mem_nil, or_false] at m
      rcases m with m | m | m | m | m
      · exact absurd m (by decide)
      · exact h1 m
      · rcases hc with ⟨_, rfl⟩ | ⟨_, rfl⟩ <;> exact absurd m (by decide)
      · exact h2 m
      · exact absurd m (by decide)) p [] (by simpa using (isPatM_run h).1) (fun y hy => by simp at hy)
  simpa using this
theorem no32_maybe (p : List Int) (h : maybeM p = true) : (32 : UInt8) ∉ (maybeT p).data.toList := by
  unfold maybeM at h
  unfold maybeT
  by_cases h0 : p.length = 0
  · rw [if_pos h0]; decide
  · rw [if_neg h0]
    have hp : isPatM p = true := by simpa [h0] using h
    rw [patText_of hp]
    exact no32_text p hp
theorem no32_word (a b : Bool) : (32 : UInt8) ∉ (rulesWordM a b).data.toList := by cases a <;> cases b <;> decide
/-- A text cut at its blanks. -/
theorem splitF_words (s : ByteArray) : ∀ (n : Nat) (ws : List ByteArray) (w : ByteArray) (out : List ByteArray) (fr i : Nat), fr ≤ i → i + n = s.size → s.data.toList.drop fr = w.data.toList ++ (ws.map (fun u => 32 :: u.data.toList)).flatten → i ≤ fr + w.size →
    (32 : UInt8) ∉ w.data.toList → (∀ u ∈ ws, (32 : UInt8) ∉ u.data.toList) → splitF s 32 n out (fr : Int) (i : Int) = out ++ w :: ws := by
  intro n
  induction n with
  | zero =>
    intro ws w out fr i h1 h2 h3 h4 h5 h6
    have hl := congrArg List.length h3
    rw [List.length_drop, size_data, List.length_append, size_data] at hl
    cases ws with
    | cons u us => simp at hl; omega
    | nil =>
      have e : s.extract fr s.size = w := data_inj (by
        rw [extract_data', ← size_data s, List.take_length, h3]
        simp)
      simp only [splitF, Int.toNat_natCast, e]
  | succ n ih =>
    intro ws w out fr i h1 h2 h3 h4 h5 h6
    by_cases hi : i < fr + w.size
    · have hw : i - fr < w.data.toList.length := by rw [size_data]; omega
      have hd : s.data.toList.drop i = w.data.toList[i - fr] :: (w.data.toList.drop (i - fr + 1) ++ (ws.map (fun u => 32 :: u.data.toList)).flatten) := by
        have e1 : s.data.toList.drop i = (s.data.toList.drop fr).drop (i - fr) := by rw [List.drop_drop]; congr 1; omega
        rw [e1, h3, List.drop_append_of_le_length (Nat.le_of_lt hw), List.drop_eq_getElem_cons hw, List.cons_append]
      have hb := (at_drop hd).2.1
      have hn : ¬ bt s (i : Int) = 32 := by
        rw [hb]
        intro e
        have : w.data.toList[i - fr] = 32 := UInt8.toNat_inj.1 (show (w.data.toList[i - fr]).toNat = (32 : UInt8).toNat by simpa using Int.ofNat.inj e)
        exact h5 (this ▸ List.getElem_mem hw)
      unfold splitF
      rw [if_neg hn]
      exact ih ws w out fr (i + 1) (by omega) (by omega) h3 (by omega) h5 h6
    · have hi' : i = fr + w.size := by omega
      have hl := congrArg List.length h3
      rw [List.length_drop, size_data, List.length_append, size_data] at hl
      cases ws with
      | nil => simp at hl; omega
      | cons u us =>
        have hd : s.data.toList.drop i = 32 :: (u.data.toList ++ (us.map (fun u => 32 :: u.data.toList)).flatten) := by
          have e1 : s.data.toList.drop i = (s.data.toList.drop fr).drop w.data.toList.length := by rw [List.drop_drop, size_data, hi']
          rw [e1, h3, List.drop_left]
          simp
        have hb : bt s (i : Int) = 32 := by rw [(at_drop hd).2.1]; decide
        have e : s.extract fr i = w := data_inj (by
          rw [extract_data', List.drop_take, h3, show i - fr = w.data.toList.length by rw [size_data]; omega, List.take_left])
        unfold splitF
        rw [if_pos hb, Int.toNat_natCast, Int.toNat_natCast, e]
        have := ih us u (out ++ [w]) (i + 1) (i + 1) (Nat.le_refl _) (by omega) (at_drop hd).2.2 (by omega) (h6 u (by simp)) (fun v hv => h6 v (by simp [hv]))
        simpa using this
/-- The names of the seven words. -/
def namesM : List ByteArray := [(⟨#[112, 108, 97, 121, 101, 114, 115]⟩ : ByteArray), (⟨#[101, 97, 99, 104]⟩ : ByteArray), (⟨#[109, 97, 116, 99, 104]⟩ : ByteArray), (⟨#[119, 105, 108, 100]⟩ : ByteArray), (⟨#[115, 107, 105, 112]⟩ : ByteArray), (⟨#[116, 97, 107, 101]⟩ : ByteArray), (⟨#[108, 105, 109, 105, 116]⟩ : ByteArray)]
/-- The seven values that rules are told by. -/
def valsM (a0 a1 : Int) (a2 a3 : Bool) (l4 l5 : List Int) (a6 a7 : Int) : List ByteArray := [numT a0, numT a1, rulesWordM a2 a3, maybeT l4, maybeT l5, numT a6, numT a7]
theorem words_of (s : ByteArray) (a0 a1 : Int) (a2 a3 : Bool) (l4 l5 : List Int) (a6 a7 : Int) (h : isRulesM a0 a1 a2 a3 l4 l5 a6 a7 = true) (hs : rulesT a0 a1 a2 a3 l4 l5 a6 a7 = s) :
    splitF s 32 s.size [] 0 0 = [(⟨#[112, 108, 97, 121, 101, 114, 115]⟩ ++ (⟨#[61]⟩ : ByteArray)) ++ numT a0, (⟨#[101, 97, 99, 104]⟩ ++ (⟨#[61]⟩ : ByteArray)) ++ numT a1, (⟨#[109, 97, 116, 99, 104]⟩ ++ (⟨#[61]⟩ : ByteArray)) ++ rulesWordM a2 a3, (⟨#[119, 105, 108, 100]⟩ ++ (⟨#[61]⟩ : ByteArray)) ++ maybeT l4, (⟨#[115, 107, 105, 112]⟩ ++ (⟨#[61]⟩ : ByteArray)) ++ maybeT l5, (⟨#[116, 97, 107, 101]⟩ ++ (⟨#[61]⟩ : ByteArray)) ++ numT a6, (⟨#[108, 105, 109, 105, 116]⟩ ++ (⟨#[61]⟩ : ByteArray)) ++ numT a7] := by
  obtain ⟨n0, n1, n6, n7⟩ := isRulesM_nums h
  have hm : maybeM l4 = true ∧ maybeM l5 = true := by
    unfold isRulesM at h
    simp only [Bool.and_eq_true] at h
    exact ⟨h.2.2.2.1, h.2.2.2.2.1⟩
  have z0 := no32_num a0 (by omega) (by omega)
  have z1 := no32_num a1 (by omega) (by omega)
  have z2 := no32_word a2 a3
  have z4 := no32_maybe l4 hm.1
  have z5 := no32_maybe l5 hm.2
  have z6 := no32_num a6 (by omega) (by omega)
  have z7 := no32_num a7 (by omega) (by omega)
  unfold rulesT at hs
  rw [if_pos h] at hs
  generalize numT a0 = x0 at *
  generalize numT a1 = x1 at *
  generalize rulesWordM a2 a3 = x2 at *
  generalize maybeT l4 = x4 at *
  generalize maybeT l5 = x5 at *
  generalize numT a6 = x6 at *
  generalize numT a7 = x7 at *
  refine splitF_words s s.size _ _ [] 0 0 (Nat.le_refl _) (by omega) ?_ (by omega) ?_ ?_
  · rw [List.drop_zero, ← hs]
    simp
  · simp only [ByteArray.toList_data_append, List.mem_append, not_or]
    exact ⟨⟨by decide, by decide⟩, z0⟩
  · intro u hu
    simp only [List.mem_cons, List.not_mem_nil, or_false] at hu
    rcases hu with rfl | rfl | rfl | rfl | rfl | rfl <;> simp only [ByteArray.toList_data_append, List.mem_append, not_or]
    · exact ⟨⟨by decide, by decide⟩, z1⟩
    · exact ⟨⟨by decide, by decide⟩, z2⟩
    · exact ⟨⟨by decide, by decide⟩, z4⟩
    · exact ⟨⟨by decide, by decide⟩, z5⟩
    · exact ⟨⟨by decide, by decide⟩, z6⟩
    · exact ⟨⟨by decide, by decide⟩, z7⟩
/-- The values of words from a place on; none where a name is another. -/
def valsF (W : List ByteArray) : Nat → Int → List ByteArray → Option (List ByteArray)
  | 0, _, out => some out
  | m + 1, i, out => if (afterM (rdOf ByteArray.empty W i) (rdOf ByteArray.empty namesM i)).2 = true then valsF W m (i + 1) (out ++ [(afterM (rdOf ByteArray.empty W i) (rdOf ByteArray.empty namesM i)).1]) else none
theorem names_size : ∀ y ∈ namesM, y.size ≤ 1048576 := by
  intro y hy
  simp only [namesM, List.mem_cons, List.not_mem_nil, or_false] at hy
  rcases hy with rfl | rfl | rfl | rfl | rfl | rfl | rfl <;> decide
abbrev RulesR := Int × Int × Bool × Bool × List Int × List Int × Int × Int × Bool
def noRules : RulesR := (0, 0, false, false, [], [], 0, 0, false)
theorem impl_rules_loop (s : ByteArray) (W : List ByteArray) (hW : W.length = 7) : ∀ (m : Nat) (i : Int) (out : List ByteArray), 0 ≤ i → i + m = 7 → (out.length : Int) = i →
    (valsF W m i out = none → Ev (fun k => impl_ParseRules.l0 k s namesM out W (W.length : Int) i) noRules) ∧
    (∀ vs, valsF W m i out = some vs → (vs.length : Int) = 7 ∧ ∀ r, Ev (fun k => impl_ParseRules.l0 k s namesM vs W (W.length : Int) 7) r → Ev (fun k => impl_ParseRules.l0 k s namesM out W (W.length : Int) i) r) := by
  intro m
  induction m with
  | zero =>
    intro i out h0 h1 h2
    obtain rfl : i = 7 := by omega
    refine ⟨fun h => absurd h (by simp [valsF]), fun vs h => ?_⟩
    obtain rfl : out = vs := by simpa [valsF] using h
    exact ⟨h2, fun r hr => hr⟩
  | succ m ih =>
    intro i out h0 h1 h2
    have w1 : wrap64 (i + 1) = i + 1 := w64 (by omega) (by omega)
    have i1 : i < (W.length : Int) := by omega
    have i2 : i < (namesM.length : Int) := by have : namesM.length = 7 := rfl; omega
    have o1 : out.length < 8796093022208 := by omega
    have v := impl_ValueAfter_f (rdOf ByteArray.empty W i) (rdOf ByteArray.empty namesM i) (names_size _ (rdOf_mem _ _ _ h0 i2))
    have nx := ih (i + 1) (out ++ [(afterM (rdOf ByteArray.empty W i) (rdOf ByteArray.empty namesM i)).1]) (by omega) (by omega) (by simp; omega)
    unfold valsF
    by_cases g : (afterM (rdOf ByteArray.empty W i) (rdOf ByteArray.empty namesM i)).2 = true
    · rw [if_pos g]
      have go : ∀ r, Ev (fun k => impl_ParseRules.l0 k s namesM (out ++ [(afterM (rdOf ByteArray.empty W i) (rdOf ByteArray.empty namesM i)).1]) W (W.length : Int) (i + 1)) r → Ev (fun k => impl_ParseRules.l0 k s namesM out W (W.length : Int) i) r := fun r hr => by
        refine ev_succ ?_
        simp only [impl_ParseRules.l0, i1, i2, h0, v, g, o1, w1, Option.bind_some, ↓reduceIte]
        exact hr
      exact ⟨fun h => go _ (nx.1 h), fun vs h => ⟨(nx.2 vs h).1, fun r hr => go _ ((nx.2 vs h).2 r hr)⟩⟩
    · rw [if_neg g]
      refine ⟨fun _ => ev_succ (ev_of_eq fun k => by simp only [impl_ParseRules.l0, i1, i2, h0, v, g, Option.bind_some, ↓reduceIte]; rfl), fun vs h => by cases h⟩
/-- What the rules of a text are: rules that have this text, or none; and those rules that have it. -/
def RulesOf (s : ByteArray) (r : RulesR) : Prop :=
  (r.2.2.2.2.1.length ≤ 1048576 ∧ r.2.2.2.2.2.1.length ≤ 1048576) ∧
  ((isRulesM r.1 r.2.1 r.2.2.1 r.2.2.2.1 r.2.2.2.2.1 r.2.2.2.2.2.1 r.2.2.2.2.2.2.1 r.2.2.2.2.2.2.2.1 = true ∧ rulesT r.1 r.2.1 r.2.2.1 r.2.2.2.1 r.2.2.2.2.1 r.2.2.2.2.2.1 r.2.2.2.2.2.2.1 r.2.2.2.2.2.2.2.1 = s ∧ r.2.2.2.2.2.2.2.2 = true) ∨ r = noRules) ∧
  (∀ a0 a1 a2 a3 l4 l5 a6 a7, isRulesM a0 a1 a2 a3 l4 l5 a6 a7 = true → rulesT a0 a1 a2 a3 l4 l5 a6 a7 = s → r = (a0, a1, a2, a3, l4, l5, a6, a7, true))
theorem rules_eq {s : ByteArray} {r q : RulesR} (hr : RulesOf s r) (hq : RulesOf s q) : r = q := by
  obtain ⟨_, r2, r3⟩ := hr
  obtain ⟨_, q2, q3⟩ := hq
  rcases r2 with ⟨a, b, c⟩ | r2
  · have := q3 _ _ _ _ _ _ _ _ a b
    rw [this, ← c]
  · rcases q2 with ⟨a, b, c⟩ | q2
    · have := r3 _ _ _ _ _ _ _ _ a b
      rw [this, ← c]
    · rw [r2, q2]
theorem noRulesOf {s : ByteArray} (h : ∀ a0 a1 a2 a3 l4 l5 a6 a7, isRulesM a0 a1 a2 a3 l4 l5 a6 a7 = true → rulesT a0 a1 a2 a3 l4 l5 a6 a7 = s → False) : RulesOf s noRules :=
  ⟨⟨Nat.zero_le _, Nat.zero_le _⟩, Or.inr rfl, fun a0 a1 a2 a3 l4 l5 a6 a7 h1 h2 => (h a0 a1 a2 a3 l4 l5 a6 a7 h1 h2).elim⟩
theorem word_ne (a b : ByteArray) : (a.toList != b.toList) = decide (a ≠ b) := by
  by_cases h : a = b
  · subst h; simp
  · have : ¬ a.toList = b.toList := fun e => h ((toList_iff a b).1 e)
    simp [h, this]
theorem word_eq (a b : ByteArray) : (a.toList == b.toList) = decide (a = b) := by
  by_cases h : a = b
  · subst h; simp
  · have : ¬ a.toList = b.toList := fun e => h ((toList_iff a b).1 e)
    simp [h, this]
theorem rank_l : ([114, 97, 110, 107] : List UInt8) = (⟨#[114, 97, 110, 107]⟩ : ByteArray).toList := by rw [ByteArray.toList_eq]
theorem suit_l : ([115, 117, 105, 116] : List UInt8) = (⟨#[115, 117, 105, 116]⟩ : ByteArray).toList := by rw [ByteArray.toList_eq]
theorem both_l : ([98, 111, 116, 104] : List UInt8) = (⟨#[98, 111, 116, 104]⟩ : ByteArray).toList := by rw [ByteArray.toList_eq]
theorem isRulesM_same {a0 a1 : Int} {a2 a3 : Bool} {l4 l5 : List Int} {a6 a7 : Int} (h : isRulesM a0 a1 a2 a3 l4 l5 a6 a7 = true) : (a2 || a3) = true ∧ maybeM l4 = true ∧ maybeM l5 = true := by
  unfold isRulesM at h
  simp only [Bool.and_eq_true] at h
  exact ⟨h.2.2.1, h.2.2.2.1, h.2.2.2.2.1⟩
theorem vals_of (s : ByteArray) (a0 a1 : Int) (a2 a3 : Bool) (l4 l5 : List Int) (a6 a7 : Int) (h : isRulesM a0 a1 a2 a3 l4 l5 a6 a7 = true) (hs : rulesT a0 a1 a2 a3 l4 l5 a6 a7 = s) :
    (splitF s 32 s.size [] 0 0).length = 7 ∧ valsF (splitF s 32 s.size [] 0 0) 7 0 [] = some (valsM a0 a1 a2 a3 l4 l5 a6 a7) := by
  rw [words_of s a0 a1 a2 a3 l4 l5 a6 a7 h hs]
  refine ⟨rfl, ?_⟩
  have r : ∀ (w0 w1 w2 w3 w4 w5 w6 : ByteArray), rdOf ByteArray.empty [w0, w1, w2, w3, w4, w5, w6] 0 = w0 ∧ rdOf ByteArray.empty [w0, w1, w2, w3, w4, w5, w6] 1 = w1 ∧ rdOf ByteArray.empty [w0, w1, w2, w3, w4, w5, w6] 2 = w2 ∧ rdOf ByteArray.empty [w0, w1, w2, w3, w4, w5, w6] 3 = w3 ∧ rdOf ByteArray.empty [w0, w1, w2, w3, w4, w5, w6] 4 = w4 ∧ rdOf ByteArray.empty [w0, w1, w2, w3, w4, w5, w6] 5 = w5 ∧ rdOf ByteArray.empty [w0, w1, w2, w3, w4, w5, w6] 6 = w6 := fun _ _ _ _ _ _ _ => ⟨rfl, rfl, rfl, rfl, rfl, rfl, rfl⟩
  simp only [valsF, namesM, show (0 : Int) + 1 = 1 from rfl, show (1 : Int) + 1 = 2 from rfl, show (2 : Int) + 1 = 3 from rfl, show (3 : Int) + 1 = 4 from rfl, show (4 : Int) + 1 = 5 from rfl, show (5 : Int) + 1 = 6 from rfl, r, afterM_of, ↓reduceIte, List.nil_append, List.cons_append, valsM]
theorem impl_ParseRules_f (k : Nat) (s : ByteArray) : impl_ParseRules.f k s = (impl_SplitWords.f k s 32).bind fun W => if (W.length : Int) = (namesM.length : Int) then impl_ParseRules.l0 k s namesM [] W (W.length : Int) 0 else some noRules := rfl
theorem impl_ParseRules_ex (s : ByteArray) (hs : s.size ≤ 1048576) : ∃ r : RulesR, Ev (fun k => impl_ParseRules.f k s) r ∧ RulesOf s r := by
  have sp := impl_SplitWords_ev s 32 hs
  have hv : ∀ a0 a1 a2 a3 l4 l5 a6 a7, isRulesM a0 a1 a2 a3 l4 l5 a6 a7 = true → rulesT a0 a1 a2 a3 l4 l5 a6 a7 = s → _ := vals_of s
  generalize splitF s 32 s.size [] 0 0 = W at sp hv
  by_cases hW : W.length = 7
  case neg =>
    refine ⟨noRules, ?_, noRulesOf fun a0 a1 a2 a3 l4 l5 a6 a7 h1 h2 => hW (hv _ _ _ _ _ _ _ _ h1 h2).1⟩
    simp only [impl_ParseRules_f]
    have : ¬ (W.length : Int) = (namesM.length : Int) := by have : namesM.length = 7 := rfl; omega
    exact Ev.bind sp (ev_of_eq fun k => if_neg this)
  have lead : ∀ r, Ev (fun k => impl_ParseRules.l0 k s namesM [] W (W.length : Int) 0) r → Ev (fun k => impl_ParseRules.f k s) r := by
    intro r hr
    simp only [impl_ParseRules_f]
    refine Ev.bind sp ?_
    have : (W.length : Int) = (namesM.length : Int) := by have : namesM.length = 7 := rfl; omega
    simp only [if_pos this]
    exact hr
  obtain ⟨lp1, lp2⟩ := impl_rules_loop s W hW 7 0 [] (by omega) (by omega) (by simp)
  cases hvs : valsF W 7 0 [] with
  | none => exact ⟨noRules, lead _ (lp1 hvs), noRulesOf fun a0 a1 a2 a3 l4 l5 a6 a7 h1 h2 => by have := (hv _ _ _ _ _ _ _ _ h1 h2).2; rw [hvs] at this; cases this⟩
  | some vs =>
    obtain ⟨hl, go⟩ := lp2 vs hvs
    obtain ⟨n0, b0, i0⟩ := impl_ParseInt_some (rdOf ByteArray.empty vs 0)
    obtain ⟨n1, b1, i1⟩ := impl_ParseInt_some (rdOf ByteArray.empty vs 1)
    obtain ⟨n5, b5, i5⟩ := impl_ParseInt_some (rdOf ByteArray.empty vs 5)
    obtain ⟨n6, b6, i6⟩ := impl_ParseInt_some (rdOf ByteArray.empty vs 6)
    obtain ⟨p3, b3, e3, q3, u3⟩ := impl_ParsePattern_ex (rdOf ByteArray.empty vs 3)
    obtain ⟨p4, b4, e4, q4, u4⟩ := impl_ParsePattern_ex (rdOf ByteArray.empty vs 4)
    have eI := impl_IsRules_ev n0 n1 ((rdOf ByteArray.empty vs 2).toList != ([114, 97, 110, 107] : List UInt8)) ((rdOf ByteArray.empty vs 2).toList != ([115, 117, 105, 116] : List UInt8)) p3 p4 n5 n6 q3 q4
    have eT := impl_RulesText_ev n0 n1 ((rdOf ByteArray.empty vs 2).toList != ([114, 97, 110, 107] : List UInt8)) ((rdOf ByteArray.empty vs 2).toList != ([115, 117, 105, 116] : List UInt8)) p3 p4 n5 n6 q3 q4
    -- rules that have this text are these
    have same : ∀ a0 a1 a2 a3 l4 l5 a6 a7, isRulesM a0 a1 a2 a3 l4 l5 a6 a7 = true → rulesT a0 a1 a2 a3 l4 l5 a6 a7 = s →
        n0 = a0 ∧ n1 = a1 ∧ ((rdOf ByteArray.empty vs 2).toList != ([114, 97, 110, 107] : List UInt8)) = a2 ∧ ((rdOf ByteArray.empty vs 2).toList != ([115, 117, 105, 116] : List UInt8)) = a3 ∧ p3 = l4 ∧ p4 = l5 ∧ n5 = a6 ∧ n6 = a7 := by
      intro a0 a1 a2 a3 l4 l5 a6 a7 h1 h2
      have hv' := (hv _ _ _ _ _ _ _ _ h1 h2).2
      rw [hvs] at hv'
      obtain rfl := Option.some.inj hv'
      obtain ⟨m0, m1, m6, m7⟩ := isRulesM_nums h1
      obtain ⟨k2, k4, k5⟩ := isRulesM_same h1
      have r0 : rdOf ByteArray.empty (valsM a0 a1 a2 a3 l4 l5 a6 a7) 0 = numT a0 := rfl
      have r1 : rdOf ByteArray.empty (valsM a0 a1 a2 a3 l4 l5 a6 a7) 1 = numT a1 := rfl
      have r2 : rdOf ByteArray.empty (valsM a0 a1 a2 a3 l4 l5 a6 a7) 2 = rulesWordM a2 a3 := rfl
      have r3 : rdOf ByteArray.empty (valsM a0 a1 a2 a3 l4 l5 a6 a7) 3 = maybeT l4 := rfl
      have r4 : rdOf ByteArray.empty (valsM a0 a1 a2 a3 l4 l5 a6 a7) 4 = maybeT l5 := rfl
      have r5 : rdOf ByteArray.empty (valsM a0 a1 a2 a3 l4 l5 a6 a7) 5 = numT a6 := rfl
      have r6 : rdOf ByteArray.empty (valsM a0 a1 a2 a3 l4 l5 a6 a7) 6 = numT a7 := rfl
      rw [r0, impl_ParseInt_num a0 (by omega) (by omega)] at i0
      rw [r1, impl_ParseInt_num a1 (by omega) (by omega)] at i1
      rw [r5, impl_ParseInt_num a6 (by omega) (by omega)] at i5
      rw [r6, impl_ParseInt_num a7 (by omega) (by omega)] at i6
      refine ⟨(congrArg Prod.fst (Option.some.inj i0)).symm, (congrArg Prod.fst (Option.some.inj i1)).symm, ?_, ?_, u3 _ k4 r3, u4 _ k5 r4, (congrArg Prod.fst (Option.some.inj i5)).symm, (congrArg Prod.fst (Option.some.inj i6)).symm⟩
      · rw [r2, rank_l, word_ne]
        cases a2 <;> cases a3 <;> first | rfl | exact absurd k2 (by decide)
      · rw [r2, suit_l, word_ne]
        cases a2 <;> cases a3 <;> first | rfl | exact absurd k2 (by decide)
    have c7 : ¬ (7 : Int) < (W.length : Int) := by omega
    have l0 : 0 < (vs.length : Int) := by omega
    have l1 : 1 < (vs.length : Int) := by omega
    have l2 : 2 < (vs.length : Int) := by omega
    have l3 : 3 < (vs.length : Int) := by omega
    have l4 : 4 < (vs.length : Int) := by omega
    have l5 : 5 < (vs.length : Int) := by omega
    have l6 : 6 < (vs.length : Int) := by omega
    have run : ∀ r : RulesR, Ev (fun k => (impl_IsRules.f k n0 n1 ((rdOf ByteArray.empty vs 2).toList != ([114, 97, 110, 107] : List UInt8)) ((rdOf ByteArray.empty vs 2).toList != ([115, 117, 105, 116] : List UInt8)) p3 p4 n5 n6).bind fun t270 => if t270 = true then (impl_RulesText.f k n0 n1 ((rdOf ByteArray.empty vs 2).toList != ([114, 97, 110, 107] : List UInt8)) ((rdOf ByteArray.empty vs 2).toList != ([115, 117, 105, 116] : List UInt8)) p3 p4 n5 n6).bind fun t271 => if t271.toList = s.toList then some (n0, n1, ((rdOf ByteArray.empty vs 2).toList != ([114, 97, 110, 107] : List UInt8)), ((rdOf ByteArray.empty vs 2).toList != ([115, 117, 105, 116] : List UInt8)), p3, p4, n5, n6, true) else some noRules else some noRules) r → Ev (fun k => impl_ParseRules.f k s) r := by
      intro r hr
      refine lead _ (go _ (ev_succ ?_))
      simp only [impl_ParseRules.l0, c7, l0, l1, l2, l3, l4, l5, l6, i0, i1, i5, i6, Option.bind_some, ↓reduceIte]
      refine Ev.bind e3 ?_
      refine Ev.bind e4 ?_
      exact hr
    generalize ((rdOf ByteArray.empty vs 2).toList != ([114, 97, 110, 107] : List UInt8)) = t2 at eI eT same run
    generalize ((rdOf ByteArray.empty vs 2).toList != ([115, 117, 105, 116] : List UInt8)) = t3 at eI eT same run
    by_cases hR : isRulesM n0 n1 t2 t3 p3 p4 n5 n6 = true
    · by_cases hT : rulesT n0 n1 t2 t3 p3 p4 n5 n6 = s
      · refine ⟨(n0, n1, t2, t3, p3, p4, n5, n6, true), run _ ?_, ⟨q3, q4⟩, Or.inl ⟨hR, hT, rfl⟩, fun a0 a1 a2 a3 l4 l5 a6 a7 h1 h2 => ?_⟩
        · refine Ev.bind eI ?_
          simp only [hR, ↓reduceIte]
          exact Ev.bind eT (ev_of_eq fun k => by rw [if_pos (by rw [hT])])
        · obtain ⟨rfl, rfl, rfl, rfl, rfl, rfl, rfl, rfl⟩ := same _ _ _ _ _ _ _ _ h1 h2
          rfl
      · refine ⟨noRules, run _ ?_, noRulesOf fun a0 a1 a2 a3 l4 l5 a6 a7 h1 h2 => ?_⟩
        · refine Ev.bind eI ?_
          simp only [hR, ↓reduceIte]
          exact Ev.bind eT (ev_of_eq fun k => by rw [if_neg (fun e => hT ((toList_iff _ _).1 e))])
        · obtain ⟨rfl, rfl, rfl, rfl, rfl, rfl, rfl, rfl⟩ := same _ _ _ _ _ _ _ _ h1 h2
          exact hT h2
    · refine ⟨noRules, run _ ?_, noRulesOf fun a0 a1 a2 a3 l4 l5 a6 a7 h1 h2 => ?_⟩
      · refine Ev.bind eI ?_
        simp only [hR, Bool.false_eq_true, ↓reduceIte]
        exact Ev.now _
      · obtain ⟨rfl, rfl, rfl, rfl, rfl, rfl, rfl, rfl⟩ := same _ _ _ _ _ _ _ _ h1 h2
        exact hR h1

/-! spec_l1In -/
theorem spec_l1In_f (a b c : Int) : spec_l1In.f a b c = some (decide (b ≤ a ∧ a ≤ c)) := by
  unfold spec_l1In.f
  by_cases h : b ≤ a <;> simp [h]

/-! spec_l8Leaf -/
theorem spec_l8Leaf_f (s : Int) : spec_l8Leaf.f s = some (leafM s) := by
  simp only [spec_l8Leaf.f, spec_l1In_f, Option.bind_some, leafM]
  by_cases h1 : 100 ≤ s ∧ s ≤ 103
  · simp [h1]
  by_cases h2 : 200 ≤ s ∧ s ≤ 212
  · simp [h1, h2]
  by_cases h3 : 300 ≤ s ∧ s ≤ 312
  · simp [h1, h2, h3]
  simp [h1, h2, h3]

/-! spec_IsPattern -/
theorem spec_IsPattern_ev (l : List Int) (hl : l.length ≤ 1099511627776) : Ev (fun k => spec_IsPattern.f k l) (isPatM l) := by
  simp only [spec_IsPattern.f, isPatM]
  refine loop_int l hl (P := fun i rest => ∀ n, 0 ≤ n → n ≤ i → Ev (fun k => spec_IsPattern.l0 k l n i) (patEnd l.length (patF rest n))) ?_ ?_ 0 (by omega) (by omega)
  · intro n hn hi
    refine ev_succ (ev_of_eq fun k => ?_)
    simp only [spec_IsPattern.l0, Int.lt_irrefl, ↓reduceIte, patF, patEnd]
    by_cases h : n = 1
    · simp only [h, ↓reduceIte, decide_true, Bool.true_and]
      congr 1
      rw [Bool.eq_iff_iff]
      simp
      omega
    · simp [h]
  · intro i x rest h0 h1 hx _ hw ih n hn hi
    refine ev_succ ?_
    have w1 : wrap64 (n + 1) = n + 1 := w64 (by omega) (by omega)
    simp only [spec_IsPattern.l0, h1, h0, ↓reduceIte, hx, hw, spec_l8Leaf_f, Option.bind_some, patF, w1]
    by_cases g1 : leafM x = true
    · simp only [g1, ↓reduceIte]
      exact ih _ (by omega) (by omega)
    · simp only [g1, Bool.false_eq_true, ↓reduceIte]
      by_cases g2 : x = -1
      · have e2 : ¬ x = -2 := by omega
        have e3 : ¬ x = -3 := by omega
        by_cases g3 : 1 ≤ n
        · have g3' : decide (n ≥ 1) = true := by simp; omega
          simp only [g2, g3, g3', ↓reduceIte, and_self]
          refine ev_succ ?_
          simp only [spec_IsPattern.j1, ↓reduceIte, hw]
          exact ih _ (by omega) (by omega)
        · have g3' : decide (n ≥ 1) = false := by simp; omega
          refine ev_succ (ev_of_eq fun k => ?_)
          simp only [spec_IsPattern.j1, g2, g3', g3, h1, h0, hx, ↓reduceIte, Bool.false_eq_true]
          simp [patEnd, e2, e3, g2, g3]
      · simp only [g2, ↓reduceIte, false_and]
        refine ev_succ ?_
        simp only [spec_IsPattern.j1, h1, h0, hx, hw, ↓reduceIte, Bool.false_eq_true, ge_iff_le]
        have w2 : 2 ≤ n → wrap64 (n - 1) = n - 1 := fun _ => w64 (by omega) (by omega)
        by_cases g4 : x = -2
        · by_cases g5 : 2 ≤ n
          · simp only [g4, g5, w2 g5, ↓reduceIte, true_or, and_self]
            exact ih _ (by omega) (by omega)
          · refine ev_of_eq fun k => ?_
            simp [g4, g5, patEnd]
        · by_cases g6 : x = -3
          · by_cases g5 : 2 ≤ n
            · simp only [g4, g6, g5, w2 g5, ↓reduceIte, or_true, and_self]
              exact ih _ (by omega) (by omega)
            · refine ev_of_eq fun k => ?_
              simp [g6, g5, patEnd]
          · refine ev_of_eq fun k => ?_
            simp [g4, g6, patEnd]

/-! spec_l22Pattern -/
theorem spec_l22Pattern_ev (l : List Int) (hl : l.length ≤ 1099511627776) : Ev (fun k => spec_l22Pattern.f k l) (maybeM l) := by
  simp only [spec_l22Pattern.f, maybeM]
  by_cases h : l.length = 0
  · obtain rfl := List.eq_nil_of_length_eq_zero h
    exact ev_of_eq fun k => rfl
  · have h' : ¬ (l.length : Int) = 0 := by omega
    simp only [h', h, ↓reduceIte, decide_false, Bool.false_or]
    exact Ev.bind (spec_IsPattern_ev l hl) (Ev.now _)

/-! spec_IsRules -/
theorem spec_IsRules_ev (a0 a1 : Int) (a2 a3 : Bool) (l4 l5 : List Int) (a6 a7 : Int) (h4 : l4.length ≤ 1048576) (h5 : l5.length ≤ 1048576) :
    Ev (fun k => spec_IsRules.f k a0 a1 a2 a3 l4 l5 a6 a7) (isRulesM a0 a1 a2 a3 l4 l5 a6 a7) := by
  have tail : Ev (fun k => (spec_l22Pattern.f k l4).bind fun t => (if t = true then ((spec_l22Pattern.f k l5).bind fun t => (if t = true then ((spec_l1In.f a6 1 4).bind fun t => (if t = true then ((spec_l1In.f a7 1 400).bind fun t => (some t)) else (some false))) else (some false))) else (some false)))
      (maybeM l4 && (maybeM l5 && (decide (1 ≤ a6 ∧ a6 ≤ 4) && decide (1 ≤ a7 ∧ a7 ≤ 400)))) := by
    refine Ev.bind (spec_l22Pattern_ev l4 (by omega)) ?_
    cases maybeM l4
    · exact Ev.now _
    · refine Ev.bind (spec_l22Pattern_ev l5 (by omega)) ?_
      cases maybeM l5
      · exact Ev.now _
      · refine ev_of_eq fun k => ?_
        simp only [spec_l1In_f, Option.bind_some, ↓reduceIte]
        cases decide (1 ≤ a6 ∧ a6 ≤ 4) <;> simp
  simp only [spec_IsRules.f]
  simp only [spec_l1In_f, Option.bind_some] at tail ⊢
  unfold isRulesM
  cases decide (2 ≤ a0 ∧ a0 ≤ 6)
  · exact Ev.now _
  · cases decide (1 ≤ a1 ∧ a1 ≤ 8)
    · exact Ev.now _
    · cases a2
      · cases a3
        · exact Ev.now _
        · simpa using tail
      · simpa using tail

/-! spec_FormatInt -/
theorem spec_FormatInt_small : ∀ n : Fin 400, spec_FormatInt.f 6 ((n.val + 1 : Nat) : Int) = some ⟨(dig3 (n.val + 1)).toArray⟩ := by decide +kernel
theorem spec_FormatInt_ev (n : Int) (h0 : 1 ≤ n) (h : n ≤ 400) : Ev (fun k => spec_FormatInt.f k n) (numT n) := by
  obtain ⟨m, rfl⟩ := Int.eq_ofNat_of_zero_le (show 0 ≤ n by omega)
  have := spec_FormatInt_small ⟨m - 1, by omega⟩
  have e : m - 1 + 1 = m := by omega
  simp only [e] at this
  refine Ev.of (k := 6) (fun k => spec_FormatInt.mono _ k) ?_
  unfold numT
  rw [itoa_dig3 m (by omega)]
  exact this

/-! spec_RulesWord -/
theorem spec_RulesWord_ev (a0 a1 : Int) (a2 a3 : Bool) (l4 l5 : List Int) (a6 a7 : Int) (h4 : l4.length ≤ 1048576) (h5 : l5.length ≤ 1048576) : Ev (fun k => spec_RulesWord.f k a0 a1 a2 a3 l4 l5 a6 a7) (rulesWordM a2 a3) := by
  simp only [spec_RulesWord.f]
  cases a2 <;> cases a3 <;> exact ev_succ (ev_of_eq fun k => by simp [spec_RulesWord.j0, rulesWordM])

/-! spec_l9Leaf -/
theorem spec_l9Rank_f (i : Int) (h0 : 0 ≤ i) (h1 : i ≤ 12) : spec_l9Rank.f i = some (rankL.extract i.toNat (i + 1).toNat) := by
  unfold spec_l9Rank.f
  have a1 : wrap64 (i + 1) = i + 1 := w64 (by omega) (by omega)
  have a3 : i ≤ i + 1 := by omega
  have a4 : i + 1 ≤ 13 := by omega
  unfold rankL
  simp only [h0, a1, a3, a4, ↓reduceIte]
theorem spec_l9Leaf_f (s : Int) (h : leafM s = true) : spec_l9Leaf.f s = some (signM s) := by
  unfold leafM at h
  simp only [Bool.or_eq_true, decide_eq_true_eq, beq_iff_eq] at h
  unfold spec_l9Leaf.f signM
  by_cases h1 : s = 400
  · rw [if_pos h1, if_pos h1]
  rw [if_neg h1, if_neg h1]
  by_cases h2 : s ≥ 300
  · have a0 : wrap64 (s - 300) = s - 300 := w64 (by omega) (by omega)
    have a5 := extract_one rankL (s - 300) (by omega)
    have a6 : (rankL.extract (s - 300).toNat (s - 300 + 1).toNat).size + 1 ≤ 9223372036854775807 := by omega
    simp only [h2, a0, spec_l9Rank_f (s - 300) (by omega) (by omega), Option.bind_some, a6, ↓reduceIte]
  rw [if_neg h2, if_neg h2]
  by_cases h3 : s ≥ 200
  · have a0 : wrap64 (s - 200) = s - 200 := w64 (by omega) (by omega)
    simp only [h3, a0, spec_l9Rank_f (s - 200) (by omega) (by omega), Option.bind_some, ↓reduceIte]
  · have a0 : wrap64 (s - 100) = s - 100 := w64 (by omega) (by omega)
    have a1 : wrap64 (s - 100 + 1) = s - 100 + 1 := w64 (by omega) (by omega)
    have a2 : 0 ≤ s - 100 := by omega
    have a3 : s - 100 ≤ s - 100 + 1 := by omega
    have a4 : s - 100 + 1 ≤ 4 := by omega
    simp only [h3, a0, a1, a2, a3, a4, ↓reduceIte]

/-! spec_PatternText -/
theorem spec_PatternText_l0 (p : List Int) (hl : p.length ≤ 20) (hp : patF p 0 = some 1) : Ev (fun k => spec_PatternText.l0 k p [] 0) (textF p []) := by
  have e1 : ∀ b : UInt8, (⟨#[b]⟩ : ByteArray).size = 1 := fun _ => rfl
  suffices H : ∀ (x : List ByteArray) (B : Nat), (x.length : Int) ≤ 0 → patF p (x.length : Int) = some 1 → (∀ y ∈ x, y.size ≤ B) → growF p B ≤ 4611686018427387000 → Ev (fun k => spec_PatternText.l0 k p x 0) (textF p x) from H [] 0 (by simp) hp (fun y hy => by simp at hy) (by
    have g := growF_pow p 0
    have : 2 ^ p.length ≤ 2 ^ 20 := Nat.pow_le_pow_right (by omega) hl
    omega)
  refine loop_int p (by omega) (P := fun i rest => ∀ (x : List ByteArray) (B : Nat), (x.length : Int) ≤ i → patF rest (x.length : Int) = some 1 → (∀ y ∈ x, y.size ≤ B) → growF rest B ≤ 4611686018427387000 → Ev (fun k => spec_PatternText.l0 k p x i) (textF rest x)) ?_ ?_
  · intro x B hx he _ _
    have h1 : 0 < (x.length : Int) := by simp only [patF, Option.some.injEq] at he; omega
    refine ev_succ (ev_of_eq fun k => ?_)
    simp only [spec_PatternText.l0, Int.lt_irrefl, h1, Int.le_refl, ↓reduceIte, textF]
  · intro i s rest h0 h1 hs hm hw ih x B hx he hB hg
    refine ev_succ ?_
    have gB : 2 * B + 3 ≤ 4611686018427387000 := Nat.le_trans (growF_le rest (2 * B + 3)) hg
    have b : x.length < 8796093022208 := by omega
    have w1 : wrap64 ((x.length : Int) - 1) = (x.length : Int) - 1 := w64 (by omega) (by omega)
    have w2 : wrap64 ((x.length : Int) - 2) = (x.length : Int) - 2 := w64 (by omega) (by omega)
    have le := he
    rcases patF_step he with ⟨n1, n2, n3, e4⟩ | ⟨n1, n2, e4⟩ | ⟨n1, n2, e4⟩
    · have hlf : leafM s = true := by
        unfold patF at le
        by_cases h : leafM s = true
        · exact h
        · rw [if_neg h] at le
          simp only [n1, n2, n3, ↓reduceIte, or_self, beq_iff_eq] at le
          exact absurd le (by simp)
      simp only [spec_PatternText.l0, h1, h0, hs, n1, n2, n3, b, hw, ↓reduceIte, spec_l9Leaf_f s hlf, Option.bind_some, textF]
      refine ih (x ++ [signM s]) (2 * B + 3) (by simp; omega) (by simpa using e4) (fun y hy => ?_) hg
      rcases List.mem_append.1 hy with h | h
      · have := hB y h; omega
      · have := signM_size s hlf
        rw [List.mem_singleton.1 h]
        omega
    · have g1 : 0 ≤ (x.length : Int) - 1 := by omega
      have g2 : (x.length : Int) - 1 < (x.length : Int) := by omega
      have m1 := hB _ (rdOf_mem ByteArray.empty x ((x.length : Int) - 1) g1 g2)
      have q1 : 1 + (rdOf ByteArray.empty x ((x.length : Int) - 1)).size ≤ 9223372036854775807 := by omega
      simp only [spec_PatternText.l0, h1, h0, hs, n1, w1, g1, g2, q1, hw, ↓reduceIte, textF]
      refine ih _ (2 * B + 3) (by rw [List.length_set]; omega) (by rw [List.length_set]; exact e4) (fun y hy => ?_) hg
      rcases List.mem_or_eq_of_mem_set hy with h | h
      · have := hB y h; omega
      · rw [h, ByteArray.size_append, e1]
        omega
    · have g1 : 0 ≤ (x.length : Int) - 2 := by omega
      have g2 : (x.length : Int) - 2 < (x.length : Int) := by omega
      have g3 : (x.length : Int) - 2 ≤ (x.length : Int) := by omega
      have g4 : 0 ≤ (x.length : Int) - 1 := by omega
      have g5 : (x.length : Int) - 1 < (x.length : Int) := by omega
      have tl : (x.take ((x.length : Int) - 2).toNat).length = ((x.length : Int) - 2).toNat := by rw [List.length_take]; omega
      have g6 : (x.take ((x.length : Int) - 2).toNat).length < 8796093022208 := by omega
      have m2 := hB _ (rdOf_mem ByteArray.empty x ((x.length : Int) - 2) g1 g2)
      have m1 := hB _ (rdOf_mem ByteArray.empty x ((x.length : Int) - 1) g4 g5)
      have q1 : 1 + (rdOf ByteArray.empty x ((x.length : Int) - 2)).size ≤ 9223372036854775807 := by omega
      have q2 : ((⟨#[40]⟩ : ByteArray) ++ rdOf ByteArray.empty x ((x.length : Int) - 2)).size + 1 ≤ 9223372036854775807 := by simp only [ByteArray.size_append, e1]; omega
      have q3 : ∀ c : UInt8, (((⟨#[40]⟩ : ByteArray) ++ rdOf ByteArray.empty x ((x.length : Int) - 2)) ++ (⟨#[c]⟩ : ByteArray)).size + (rdOf ByteArray.empty x ((x.length : Int) - 1)).size ≤ 9223372036854775807 := fun c => by simp only [ByteArray.size_append, e1]; omega
      have q4 : ∀ c : UInt8, ((((⟨#[40]⟩ : ByteArray) ++ rdOf ByteArray.empty x ((x.length : Int) - 2)) ++ (⟨#[c]⟩ : ByteArray)) ++ rdOf ByteArray.empty x ((x.length : Int) - 1)).size + 1 ≤ 9223372036854775807 := fun c => by simp only [ByteArray.size_append, e1]; omega
      have nx : ∀ c : UInt8, Ev (fun k => spec_PatternText.l0 k p (x.take ((x.length : Int) - 2).toNat ++ [((((⟨#[40]⟩ : ByteArray) ++ rdOf ByteArray.empty x ((x.length : Int) - 2)) ++ (⟨#[c]⟩ : ByteArray)) ++ rdOf ByteArray.empty x ((x.length : Int) - 1)) ++ (⟨#[41]⟩ : ByteArray)]) (i + 1)) (textF rest (x.take ((x.length : Int) - 2).toNat ++ [((((⟨#[40]⟩ : ByteArray) ++ rdOf ByteArray.empty x ((x.length : Int) - 2)) ++ (⟨#[c]⟩ : ByteArray)) ++ rdOf ByteArray.empty x ((x.length : Int) - 1)) ++ (⟨#[41]⟩ : ByteArray)])) := by
        intro c
        have ln : ((x.take ((x.length : Int) - 2).toNat ++ [((((⟨#[40]⟩ : ByteArray) ++ rdOf ByteArray.empty x ((x.length : Int) - 2)) ++ (⟨#[c]⟩ : ByteArray)) ++ rdOf ByteArray.empty x ((x.length : Int) - 1)) ++ (⟨#[41]⟩ : ByteArray)]).length : Int) = (x.length : Int) - 1 := by rw [List.length_append, tl]; simp; omega
        refine ih _ (2 * B + 3) (by omega) (by rw [ln]; exact e4) (fun y hy => ?_) hg
        rcases List.mem_append.1 hy with h | h
        · have := hB y (List.mem_of_mem_take h); omega
        · rw [List.mem_singleton.1 h]
          simp only [ByteArray.size_append, e1]
          omega
      rcases n1 with n1 | n1
      · have z : ¬ (-2 : Int) = -1 := by omega
        simp only [spec_PatternText.l0, h1, h0, hs, n1, z, w1, w2, g1, g2, g3, g4, g5, g6, q1, q2, q3, q4, hw, Option.bind_some, ↓reduceIte, textF]
        exact nx 38
      · have z : ¬ (-3 : Int) = -1 := by omega
        have z2 : ¬ (-3 : Int) = -2 := by omega
        simp only [spec_PatternText.l0, h1, h0, hs, n1, z, z2, w1, w2, g1, g2, g3, g4, g5, g6, q1, q2, q3, q4, hw, Option.bind_some, ↓reduceIte, textF]
        exact nx 124
theorem spec_PatternText_ev (p : List Int) (hl : p.length ≤ 1099511627776) : Ev (fun k => spec_PatternText.f k p) (patText p) := by
  simp only [spec_PatternText.f]
  refine Ev.bind (spec_IsPattern_ev p hl) ?_
  unfold patText
  cases hp : isPatM p
  · exact ev_of_eq fun k => by simp only [Bool.false_eq_true, ↓reduceIte]
  · simp only [↓reduceIte]
    obtain ⟨h1, h2⟩ := isPatM_run hp
    exact spec_PatternText_l0 p h2 h1

/-! spec_l23Pattern -/
theorem spec_l23Pattern_ev (p : List Int) (hl : p.length ≤ 1099511627776) : Ev (fun k => spec_l23Pattern.f k p) (maybeT p) := by
  simp only [spec_l23Pattern.f, maybeT]
  by_cases h : p.length = 0
  · have h' : (p.length : Int) = 0 := by omega
    exact ev_of_eq fun k => by rw [if_pos h', if_pos h]
  · have h' : ¬ (p.length : Int) = 0 := by omega
    simp only [h, h', ↓reduceIte]
    exact Ev.bind (spec_PatternText_ev p hl) (Ev.now _)

/-! spec_RulesText -/
theorem Ev.ifs {α : Type} {p : Prop} [Decidable p] {g : Nat → Option α} {r : α} (hp : p) (h : Ev g r) : Ev (fun k => if p then g k else none) r := by simpa only [if_pos hp] using h
theorem spec_RulesText_ev (a0 a1 : Int) (a2 a3 : Bool) (l4 l5 : List Int) (a6 a7 : Int) (h4 : l4.length ≤ 1048576) (h5 : l5.length ≤ 1048576) :
    Ev (fun k => spec_RulesText.f k a0 a1 a2 a3 l4 l5 a6 a7) (rulesT a0 a1 a2 a3 l4 l5 a6 a7) := by
  simp only [spec_RulesText.f]
  refine Ev.bind (spec_IsRules_ev a0 a1 a2 a3 l4 l5 a6 a7 h4 h5) ?_
  unfold rulesT
  cases hr : isRulesM a0 a1 a2 a3 l4 l5 a6 a7
  · exact ev_of_eq fun k => by simp only [Bool.false_eq_true, ↓reduceIte]
  · obtain ⟨n0, n1, n6, n7⟩ := isRulesM_nums hr
    have z0 := numT_size a0 (by omega) (by omega)
    have z1 := numT_size a1 (by omega) (by omega)
    have z6 := numT_size a6 (by omega) (by omega)
    have z7 := numT_size a7 (by omega) (by omega)
    have zw := rulesWordM_size a2 a3
    have z4 := maybeT_size l4
    have z5 := maybeT_size l5
    have F0 := spec_FormatInt_ev a0 (by omega) (by omega)
    have F1 := spec_FormatInt_ev a1 (by omega) (by omega)
    have F6 := spec_FormatInt_ev a6 (by omega) (by omega)
    have F7 := spec_FormatInt_ev a7 (by omega) (by omega)
    have FW := spec_RulesWord_ev a0 a1 a2 a3 l4 l5 a6 a7 h4 h5
    have F4 := spec_l23Pattern_ev l4 (by omega)
    have F5 := spec_l23Pattern_ev l5 (by omega)
    generalize numT a0 = x0 at z0 F0
    generalize numT a1 = x1 at z1 F1
    generalize numT a6 = x6 at z6 F6
    generalize numT a7 = x7 at z7 F7
    generalize rulesWordM a2 a3 = xw at zw FW
    generalize maybeT l4 = x4 at z4 F4
    generalize maybeT l5 = x5 at z5 F5
    have e8 : (⟨#[112, 108, 97, 121, 101, 114, 115, 61]⟩ : ByteArray).size = 8 := rfl
    have ee : (⟨#[32, 101, 97, 99, 104, 61]⟩ : ByteArray).size = 6 := rfl
    have em : (⟨#[32, 109, 97, 116, 99, 104, 61]⟩ : ByteArray).size = 7 := rfl
    have ew : (⟨#[32, 119, 105, 108, 100, 61]⟩ : ByteArray).size = 6 := rfl
    have es : (⟨#[32, 115, 107, 105, 112, 61]⟩ : ByteArray).size = 6 := rfl
    have et : (⟨#[32, 116, 97, 107, 101, 61]⟩ : ByteArray).size = 6 := rfl
    have el : (⟨#[32, 108, 105, 109, 105, 116, 61]⟩ : ByteArray).size = 7 := rfl
    simp only [↓reduceIte]
    refine Ev.bind F0 ?_
    refine Ev.ifs (by first | omega | (simp only [ByteArray.size_append, e8, ee, em, ew, es, et, el]; omega)) ?_
    refine Ev.ifs (by first | omega | (simp only [ByteArray.size_append, e8, ee, em, ew, es, et, el]; omega)) ?_
    refine Ev.bind F1 ?_
    refine Ev.ifs (by first | omega | (simp only [ByteArray.size_append, e8, ee, em, ew, es, et, el]; omega)) ?_
    refine Ev.ifs (by first | omega | (simp only [ByteArray.size_append, e8, ee, em, ew, es, et, el]; omega)) ?_
    refine Ev.bind FW ?_
    refine Ev.ifs (by first | omega | (simp only [ByteArray.size_append, e8, ee, em, ew, es, et, el]; omega)) ?_
    refine Ev.ifs (by first | omega | (simp only [ByteArray.size_append, e8, ee, em, ew, es, et, el]; omega)) ?_
    refine Ev.bind F4 ?_
    refine Ev.ifs (by first | omega | (simp only [ByteArray.size_append, e8, ee, em, ew, es, et, el]; omega)) ?_
    refine Ev.ifs (by first | omega | (simp only [ByteArray.size_append, e8, ee, em, ew, es, et, el]; omega)) ?_
    refine Ev.bind F5 ?_
    refine Ev.ifs (by first | omega | (simp only [ByteArray.size_append, e8, ee, em, ew, es, et, el]; omega)) ?_
    refine Ev.ifs (by first | omega | (simp only [ByteArray.size_append, e8, ee, em, ew, es, et, el]; omega)) ?_
    refine Ev.bind F6 ?_
    refine Ev.ifs (by first | omega | (simp only [ByteArray.size_append, e8, ee, em, ew, es, et, el]; omega)) ?_
    refine Ev.ifs (by first | omega | (simp only [ByteArray.size_append, e8, ee, em, ew, es, et, el]; omega)) ?_
    refine Ev.bind F7 ?_
    refine Ev.ifs (by first | omega | (simp only [ByteArray.size_append, e8, ee, em, ew, es, et, el]; omega)) ?_
    exact Ev.now _

/-! spec_SplitWords -/
theorem spec_SplitWords_ev (s : ByteArray) (c : Int) (hs : s.size ≤ 1048576) : Ev (fun k => spec_SplitWords.f k s c) (splitF s c s.size [] 0 0) := by
  simp only [spec_SplitWords.f]
  suffices H : ∀ (n : Nat) (out : List ByteArray) (fr i : Int), 0 ≤ fr → fr ≤ i → i + n = s.size → out.length ≤ i → Ev (fun k => spec_SplitWords.l0 k s c out fr i) (splitF s c n out fr i) from H s.size [] 0 0 (by omega) (by omega) (by omega) (by simp)
  intro n
  induction n with
  | zero =>
    intro out fr i h0 h1 h2 h3
    obtain rfl : i = s.size := by omega
    have e1 : out.length < 8796093022208 := by omega
    refine ev_succ (ev_succ (ev_of_eq fun k => ?_))
    have e2 : wrap64 ((s.size : Int) + 1) = (s.size : Int) + 1 := w64 (by omega) (by omega)
    have e3 : ¬ (s.size : Int) + 1 ≤ (s.size : Int) := by omega
    simp only [spec_SplitWords.l0, Int.le_refl, ↓reduceIte, h0, h1, e1, e2, e3, splitF, Int.toNat_natCast]
  | succ n ih =>
    intro out fr i h0 h1 h2 h3
    have e1 : out.length < 8796093022208 := by omega
    have e2 : wrap64 (i + 1) = i + 1 := w64 (by omega) (by omega)
    have e3 : i ≤ (s.size : Int) := by omega
    have e4 : ¬ i = (s.size : Int) := by omega
    have e5 : 0 ≤ i := by omega
    have e6 : i < (s.size : Int) := by omega
    refine ev_succ ?_
    simp only [spec_SplitWords.l0, e1, e2, e3, e4, e5, e6, h0, h1, ↓reduceIte, splitF]
    by_cases g : bt s i = c
    · simp only [g, ↓reduceIte]
      exact ih _ _ _ (by omega) (by omega) (by omega) (by simp; omega)
    · simp only [g, ↓reduceIte]
      exact ih _ _ _ (by omega) (by omega) (by omega) (by omega)

/-! spec_ValueAfter -/
theorem spec_ValueAfter_f (a b : ByteArray) (hb : b.size ≤ 1048576) : spec_ValueAfter.f a b = some (afterM a b) := by
  have e2 : (b ++ (⟨#[61]⟩ : ByteArray)).size = b.size + 1 := by rw [ByteArray.size_append]; rfl
  have e4 : wrap64 ((b.size : Int) + 1) = ((b.size + 1 : Nat) : Int) := by rw [w64 (by omega) (by omega)]; omega
  have e7 : (0 : Int) ≤ (b.size : Int) := by omega
  have e9 : (0 : Int) ≤ ((b.size + 1 : Nat) : Int) := by omega
  simp only [spec_ValueAfter.f, ↓reduceIte, e4, e7, e9, Int.toNat_natCast, afterM]
  by_cases h : (a.size : Int) ≤ (b.size : Int)
  · have g : ¬ a.extract 0 (b.size + 1) = b ++ (⟨#[61]⟩ : ByteArray) := fun e => by
      have := congrArg ByteArray.size e
      rw [ByteArray.size_extract, e2] at this
      omega
    simp only [h, g, ↓reduceIte]
  · have h4 : ((b.size + 1 : Nat) : Int) ≤ (a.size : Int) := by omega
    have h5 : (b.size : Int) ≤ (a.size : Int) := by omega
    have h6 : (b.size : Int) < (a.size : Int) := by omega
    have cw := cut_word a b 61 (by omega)
    simp only [h, h4, h5, h6, ↓reduceIte, toList_iff]
    by_cases g1 : a.extract 0 b.size = b
    · by_cases g2 : bt a (b.size : Int) = 61
      · have g3 := cw.2 ⟨g1, g2⟩
        simp [g1, g2, g3]
      · have g3 : ¬ a.extract 0 (b.size + 1) = b ++ (⟨#[61]⟩ : ByteArray) := fun e => g2 (cw.1 e).2
        simp [g1, g2, g3]
    · have g3 : ¬ a.extract 0 (b.size + 1) = b ++ (⟨#[61]⟩ : ByteArray) := fun e => g1 (cw.1 e).1
      simp [g1, g3]

/-! spec_ParseInt -/
/-- The number that digits tell. -/
def digV (s : ByteArray) : Nat → Int → Int → Option Int
  | 0, _, v => some v
  | m + 1, i, v => if 48 ≤ bt s i ∧ bt s i ≤ 57 then digV s m (i + 1) (10 * v + (bt s i - 48)) else none
theorem strOne (n : Int) : (strOfNums [n]).size = 1 := rfl
theorem spec_FormatInt_ex (x : Int) (h0 : 0 ≤ x) (h : x ≤ 1000000000000) : ∃ t, Ev (fun k => spec_FormatInt.f k x) t := by
  suffices H : ∀ (m : Nat) (y : Int) (b : ByteArray), 0 ≤ y → y ≤ 1000000000000 → y < 10 ^ m → b.size + m ≤ 100 → ∃ t, Ev (fun k => spec_FormatInt.l0 k x b y) t by
    unfold spec_FormatInt.f
    by_cases g : x = 0
    · exact ⟨_, ev_of_eq fun k => by rw [if_pos g]⟩
    · simp only [g, ↓reduceIte]
      exact H 13 x _ h0 h (by omega) (by decide)
  intro m
  induction m with
  | zero =>
    intro y b h0' hm h1 h2
    obtain rfl : y = 0 := by simp at h1; omega
    have g : ¬ x < 0 := by omega
    exact ⟨b, ev_succ (ev_of_eq fun k => by simp only [spec_FormatInt.l0, g, ↓reduceIte])⟩
  | succ m ih =>
    intro y b h0' hm h1 h2
    have g : ¬ x < 0 := by omega
    by_cases g0 : y = 0
    · exact ⟨b, ev_succ (ev_of_eq fun k => by simp only [spec_FormatInt.l0, g0, g, ↓reduceIte])⟩
    · have q1 : Int.tmod y 10 = y % 10 := Int.tmod_eq_emod_of_nonneg h0'
      have q2 : ¬ y % 10 < 0 := by omega
      have q3 : Int.tdiv y 10 = y / 10 := Int.tdiv_eq_ediv_of_nonneg h0'
      have q4 : wrap64 (y / 10) = y / 10 := w64 (by omega) (by omega)
      have q5 : 1 + b.size ≤ 9223372036854775807 := by omega
      obtain ⟨t, ht⟩ := ih (y / 10) (strOfNums [(wrap64 (48 + y % 10)) % 256] ++ b) (by omega) (by omega) (by rw [Int.pow_succ] at h1; omega) (by rw [ByteArray.size_append, strOne]; omega)
      refine ⟨t, ev_succ ?_⟩
      simp only [spec_FormatInt.l0, g0, q1, q2, q3, q4, Option.bind_some, strOne, q5, ↓reduceIte]
      exact ht
theorem spec_ParseInt_ex (s : ByteArray) : ∃ r, Ev (fun k => spec_ParseInt.f k s) r ∧ (∀ n, 1 ≤ n → n ≤ 400 → s = numT n → digV s s.size 0 0 = some n → 1 ≤ s.size → r = (n, true)) := by
  by_cases hs : 1 ≤ s.size ∧ s.size ≤ 13
  case neg =>
    refine ⟨(0, false), ev_of_eq fun k => ?_, fun n h1 h2 h3 _ h5 => ?_⟩
    · have e : spec_l1In.f (s.size : Int) 1 13 = some false := by
        unfold spec_l1In.f
        by_cases g : (s.size : Int) ≥ 1
        · rw [if_pos g, decide_eq_false (by omega)]
        · rw [if_neg g]
      simp only [spec_ParseInt.f, e, Option.bind_some, Bool.false_eq_true, ↓reduceIte]
    · have := numT_size n (by omega) (by omega)
      rw [h3] at hs h5
      omega
  have e : spec_l1In.f (s.size : Int) 1 13 = some true := by
    unfold spec_l1In.f
    rw [if_pos (by omega), decide_eq_true (by omega)]
  simp only [spec_ParseInt.f, e, Option.bind_some, ↓reduceIte]
  suffices H : ∀ (m : Nat) (i v : Int), 0 ≤ i → i + m = s.size → 0 ≤ v → v + 1 ≤ 10 ^ i.toNat → ∃ r, Ev (fun k => spec_ParseInt.l0 k s v i) r ∧ (∀ n, 1 ≤ n → n ≤ 400 → s = numT n → digV s m i v = some n → r = (n, true)) by
    obtain ⟨r, h1, h2⟩ := H s.size 0 0 (by omega) (by omega) (by omega) (by simp)
    exact ⟨r, h1, fun n a b c d _ => h2 n a b c d⟩
  intro m
  induction m with
  | zero =>
    intro i v h0 h1 h2 h3
    obtain rfl : i = s.size := by omega
    by_cases g : v > 1000000000000
    · refine ⟨(0, false), ev_succ (ev_of_eq fun k => by simp only [spec_ParseInt.l0, Int.lt_irrefl, g, ↓reduceIte]), fun n a b c d => ?_⟩
      have := Option.some.inj d
      omega
    · obtain ⟨t, ht⟩ := spec_FormatInt_ex v h2 (by omega)
      refine ⟨if t.toList = s.toList then (v, true) else (0, false), ev_succ ?_, fun n a b c d => ?_⟩
      · simp only [spec_ParseInt.l0, Int.lt_irrefl, g, ↓reduceIte]
        refine Ev.bind ht ?_
        by_cases q : t.toList = s.toList
        · simp only [q, ↓reduceIte]; exact Ev.now _
        · simp only [q, ↓reduceIte]; exact Ev.now _
      · obtain rfl := Option.some.inj d
        obtain rfl : t = numT v := ev_uniq ht (spec_FormatInt_ev v a b)
        rw [if_pos (by rw [c])]
  | succ m ih =>
    intro i v h0 h1 h2 h3
    have hb := bt_range s i
    have i1 : i < (s.size : Int) := by omega
    have w1 : wrap64 (bt s i) = bt s i := w64 (by omega) (by omega)
    have w2 : wrap64 (i + 1) = i + 1 := w64 (by omega) (by omega)
    by_cases g : 48 ≤ bt s i ∧ bt s i ≤ 57
    · have e2 : spec_l1In.f (bt s i) 48 57 = some true := by
        unfold spec_l1In.f
        rw [if_pos (by omega), decide_eq_true (by omega)]
      have p13 : (10 : Int) ^ i.toNat ≤ 10 ^ 13 := by exact_mod_cast Nat.pow_le_pow_right (by omega) (by omega)
      have p14 : (10 : Int) ^ 13 = 10000000000000 := by decide
      have w3 : wrap64 (10 * v) = 10 * v := w64 (by omega) (by omega)
      have m1 : (bt s i - 48) % 256 = bt s i - 48 := Int.emod_eq_of_lt (by omega) (by omega)
      have w4 : wrap64 (10 * v + (bt s i - 48)) = 10 * v + (bt s i - 48) := w64 (by omega) (by omega)
      obtain ⟨r, hr, hp⟩ := ih (i + 1) (10 * v + (bt s i - 48)) (by omega) (by omega) (by omega) (by rw [show (i + 1).toNat = i.toNat + 1 by omega, Int.pow_succ]; omega)
      refine ⟨r, ev_succ ?_, fun n a b c d => hp n a b c ?_⟩
      · simp only [spec_ParseInt.l0, i1, h0, w1, w2, w3, w4, m1, e2, Option.bind_some, ↓reduceIte]
        exact hr
      · unfold digV at d
        rw [if_pos g] at d
        exact d
    · have e2 : spec_l1In.f (bt s i) 48 57 = some false := by
        unfold spec_l1In.f
        by_cases q : bt s i ≥ 48
        · rw [if_pos q, decide_eq_false (by omega)]
        · rw [if_neg q]
      refine ⟨(0, false), ev_succ (ev_of_eq fun k => by simp only [spec_ParseInt.l0, i1, h0, w1, e2, Option.bind_some, Bool.false_eq_true, ↓reduceIte]), fun n a b c d => ?_⟩
      unfold digV at d
      rw [if_neg g] at d
      exact absurd d (by simp)
theorem digV_small : ∀ n : Fin 400, digV ⟨(dig3 (n.val + 1)).toArray⟩ (dig3 (n.val + 1)).length 0 0 = some ((n.val + 1 : Nat) : Int) ∧ 1 ≤ (dig3 (n.val + 1)).length := by decide +kernel
theorem spec_ParseInt_num (n : Int) (h0 : 1 ≤ n) (h : n ≤ 400) : Ev (fun k => spec_ParseInt.f k (numT n)) (n, true) := by
  obtain ⟨m, rfl⟩ := Int.eq_ofNat_of_zero_le (show 0 ≤ n by omega)
  have hs := digV_small ⟨m - 1, by omega⟩
  have e : m - 1 + 1 = m := by omega
  simp only [e] at hs
  have hd : numT (m : Int) = ⟨(dig3 m).toArray⟩ := by
    unfold numT
    rw [itoa_dig3 m (by omega)]
  have hz : (numT (m : Int)).size = (dig3 m).length := by rw [hd]; rfl
  obtain ⟨r, hr, hp⟩ := spec_ParseInt_ex (numT (m : Int))
  have := hp m h0 h rfl (by rw [hz, hd]; exact hs.1) (by rw [hz]; exact hs.2)
  rw [this] at hr
  exact hr

/-! spec_l9At -/
/-- The first place of a byte from a place on. -/
def atF (b : ByteArray) (c : Int) : Nat → Int → Int
  | 0, _ => -1
  | n + 1, i => if bt b i = c then i else atF b c n (i + 1)
theorem atF_range (b : ByteArray) (c : Int) : ∀ (n : Nat) (i : Int), 0 ≤ i → -1 ≤ atF b c n i ∧ atF b c n i < i + n + 1 := by
  intro n
  induction n with
  | zero => intro i h; unfold atF; omega
  | succ n ih =>
    intro i h
    unfold atF
    split
    · omega
    · have := ih (i + 1) (by omega)
      omega
theorem spec_l9At_ev (b : ByteArray) (c : Int) (hb : b.size ≤ 1048576) : Ev (fun k => spec_l9At.f k b c) (atF b c b.size 0) := by
  simp only [spec_l9At.f]
  refine loop_up b.size (by omega) (P := fun i n => Ev (fun k => spec_l9At.l0 k b c i) (atF b c n i)) ?_ ?_
  · exact ev_succ (ev_of_eq fun k => by simp only [spec_l9At.l0, Int.lt_irrefl, ↓reduceIte, atF])
  · intro i m h0 h1 h2 hw ih
    refine ev_succ ?_
    by_cases g : bt b i = c
    · exact ev_of_eq fun k => by simp only [spec_l9At.l0, h0, h1, g, ↓reduceIte, atF]
    · simp only [spec_l9At.l0, h0, h1, g, hw, ↓reduceIte, atF]
      exact ih
theorem suit_at9 : ∀ i : Fin 4, atF (⟨#[99, 100, 104, 115]⟩ : ByteArray) ((suitC i.val).toNat : Int) 4 0 = i.val := by decide +kernel
theorem rank_at9 : ∀ i : Fin 13, atF (⟨#[99, 100, 104, 115]⟩ : ByteArray) ((rankC i.val).toNat : Int) 4 0 = -1 ∧ atF (⟨#[50, 51, 52, 53, 54, 55, 56, 57, 84, 74, 81, 75, 65]⟩ : ByteArray) ((rankC i.val).toNat : Int) 13 0 = i.val := by decide +kernel

/-! spec_l9Read -/
def sAt (s : ByteArray) (x : Int) : Int := atF (⟨#[99, 100, 104, 115]⟩ : ByteArray) (bt s x) 4 0
def rAt (s : ByteArray) (x : Int) : Int := atF (⟨#[50, 51, 52, 53, 54, 55, 56, 57, 84, 74, 81, 75, 65]⟩ : ByteArray) (bt s x) 13 0
theorem sAt_ev (s : ByteArray) (x : Int) : Ev (fun k => spec_l9At.f k (⟨#[99, 100, 104, 115]⟩ : ByteArray) (bt s x)) (sAt s x) := spec_l9At_ev _ _ (by decide)
theorem rAt_ev (s : ByteArray) (x : Int) : Ev (fun k => spec_l9At.f k (⟨#[50, 51, 52, 53, 54, 55, 56, 57, 84, 74, 81, 75, 65]⟩ : ByteArray) (bt s x)) (rAt s x) := spec_l9At_ev _ _ (by decide)
/-- The reading ends, within the text. -/
theorem spec_l9Read_ex (s : ByteArray) (hs : s.size ≤ 200) : ∀ (M m : Nat), m ≤ M → ∀ (x : Int), 0 ≤ x → x + m = s.size →
    ∃ (p : List Int) (e : Int), Ev (fun k => spec_l9Read.f k s x) (p, e) ∧ (e = -1 ∨ x < e) ∧ e ≤ s.size ∧ p.length ≤ m ∧ (0 ≤ e → (p.length : Int) ≤ e - x) := by
  intro M
  induction M with
  | zero =>
    intro m hm x h0 h1
    have g : x ≥ (s.size : Int) := by omega
    exact ⟨[], -1, ev_succ (ev_of_eq fun k => by simp only [spec_l9Read.f, g, ↓reduceIte]), Or.inl rfl, by omega, by simp, fun h => by omega⟩
  | succ M ih =>
    intro m hm x h0 h1
    by_cases g : x ≥ (s.size : Int)
    · exact ⟨[], -1, ev_succ (ev_of_eq fun k => by simp only [spec_l9Read.f, g, ↓reduceIte]), Or.inl rfl, by omega, by simp, fun h => by omega⟩
    have g1 : x < (s.size : Int) := by omega
    have w1 : wrap64 (x + 1) = x + 1 := w64 (by omega) (by omega)
    have w2 : wrap64 (x + 2) = x + 2 := w64 (by omega) (by omega)
    have N40 : ¬ (40 : Int) = 33 := by omega
    by_cases c33 : bt s x = 33
    · obtain ⟨p, e, hr, r1, r2, r3, r4⟩ := ih (m - 1) (by omega) (x + 1) (by omega) (by omega)
      have q : p.length < 17592186044416 := by omega
      refine ⟨p ++ [-1], e, ev_succ ?_, by omega, r2, by simp; omega, fun h => by have := r4 h; simp; omega⟩
      simp only [spec_l9Read.f, g, g1, h0, c33, w1, ↓reduceIte]
      exact Ev.bind hr (ev_of_eq fun k => by simp only [q, ↓reduceIte])
    by_cases c40 : bt s x = 40
    · obtain ⟨a, mid, hr, r1, r2, r3, r4⟩ := ih (m - 1) (by omega) (x + 1) (by omega) (by omega)
      have j0t : Ev (fun k => spec_l9Read.j0 k s a mid true) ([], -1) := ev_succ (ev_of_eq fun k => by simp only [spec_l9Read.j0, ↓reduceIte])
      by_cases m0 : mid < 0
      · refine ⟨[], -1, ev_succ ?_, Or.inl rfl, by omega, by simp, fun h => by omega⟩
        simp only [spec_l9Read.f, g, g1, h0, c40, N40, w1, ↓reduceIte]
        refine Ev.bind hr ?_
        simp only [m0, ↓reduceIte]
        exact j0t
      by_cases m1 : mid ≥ (s.size : Int)
      · refine ⟨[], -1, ev_succ ?_, Or.inl rfl, by omega, by simp, fun h => by omega⟩
        simp only [spec_l9Read.f, g, g1, h0, c40, N40, w1, ↓reduceIte]
        refine Ev.bind hr ?_
        simp only [m0, m1, ↓reduceIte]
        exact j0t
      have m2 : 0 ≤ mid := by omega
      have m3 : mid < (s.size : Int) := by omega
      by_cases d : bt s mid = 38 ∨ bt s mid = 124
      case neg =>
        have d1 : ¬ bt s mid = 38 := fun e => d (Or.inl e)
        have d2 : (bt s mid != 124) = true := bne_iff_ne.mpr fun e => d (Or.inr e)
        refine ⟨[], -1, ev_succ ?_, Or.inl rfl, by omega, by simp, fun h => by omega⟩
        simp only [spec_l9Read.f, g, g1, h0, c40, N40, w1, ↓reduceIte]
        refine Ev.bind hr ?_
        simp only [m0, m1, m2, m3, d1, d2, ↓reduceIte]
        exact j0t
      -- the second one
      have x1 : x + 1 < mid := by omega
      obtain ⟨b, e, hb, s1, s2, s3, s4⟩ := ih (s.size - (mid + 1)).toNat (by omega) (mid + 1) (by omega) (by omega)
      have wm : wrap64 (mid + 1) = mid + 1 := w64 (by omega) (by omega)
      have la := r4 m2
      have j1t : Ev (fun k => spec_l9Read.j1 k s a mid b e true) ([], -1) := ev_succ (ev_of_eq fun k => by simp only [spec_l9Read.j1, ↓reduceIte])
      have lead : ∀ r, Ev (fun k => spec_l9Read.j0 k s a mid false) r → Ev (fun k => spec_l9Read.f k s x) r := by
        intro r hj
        refine ev_succ ?_
        simp only [spec_l9Read.f, g, g1, h0, c40, N40, w1, ↓reduceIte]
        refine Ev.bind hr ?_
        by_cases d1 : bt s mid = 38
        · simp only [m0, m1, m2, m3, d1, ↓reduceIte]
          exact hj
        · have d2 : (bt s mid != 124) = false := bne_eq_false_iff_eq.mpr (d.resolve_left d1)
          simp only [m0, m1, m2, m3, d1, d2, ↓reduceIte]
          exact hj
      by_cases e0 : e < 0
      · refine ⟨[], -1, lead _ (ev_succ ?_), Or.inl rfl, by omega, by simp, fun h => by omega⟩
        simp only [spec_l9Read.j0, wm, Bool.false_eq_true, ↓reduceIte]
        refine Ev.bind hb ?_
        simp only [e0, ↓reduceIte]
        exact j1t
      by_cases e1 : e ≥ (s.size : Int)
      · refine ⟨[], -1, lead _ (ev_succ ?_), Or.inl rfl, by omega, by simp, fun h => by omega⟩
        simp only [spec_l9Read.j0, wm, Bool.false_eq_true, ↓reduceIte]
        refine Ev.bind hb ?_
        simp only [e0, e1, ↓reduceIte]
        exact j1t
      have e2 : 0 ≤ e := by omega
      have e3 : e < (s.size : Int) := by omega
      by_cases f : bt s e = 41
      case neg =>
        have f1 : (bt s e != 41) = true := bne_iff_ne.mpr f
        refine ⟨[], -1, lead _ (ev_succ ?_), Or.inl rfl, by omega, by simp, fun h => by omega⟩
        simp only [spec_l9Read.j0, wm, Bool.false_eq_true, ↓reduceIte]
        refine Ev.bind hb ?_
        simp only [e0, e1, e2, e3, f1, ↓reduceIte]
        exact j1t
      have f1 : (bt s e != 41) = false := bne_eq_false_iff_eq.mpr f
      have lb := s4 e2
      have we : wrap64 (e + 1) = e + 1 := w64 (by omega) (by omega)
      have q1 : a.length + b.length < 17592186044416 := by omega
      have q2 : (a ++ b).length < 17592186044416 := by rw [List.length_append]; exact q1
      refine ⟨a ++ b ++ [if bt s mid = 124 then -3 else -2], e + 1, lead _ (ev_succ ?_), by omega, by omega, by simp; omega, fun h => by simp only [List.length_append, List.length_cons, List.length_nil]; omega⟩
      simp only [spec_l9Read.j0, wm, Bool.false_eq_true, ↓reduceIte]
      refine Ev.bind hb ?_
      simp only [e0, e1, e2, e3, f1, ↓reduceIte]
      refine ev_succ (ev_of_eq fun k => ?_)
      by_cases d1 : bt s mid = 124
      · simp only [spec_l9Read.j1, m2, m3, d1, q1, q2, we, Option.bind_some, Bool.false_eq_true, ↓reduceIte]
      · simp only [spec_l9Read.j1, m2, m3, d1, q1, q2, we, Option.bind_some, Bool.false_eq_true, ↓reduceIte]
    by_cases c114 : bt s x = 114
    · exact ⟨[400], x + 1, ev_succ (ev_of_eq fun k => by simp only [spec_l9Read.f, g, g1, h0, c114, w1, show ¬ (114 : Int) = 33 by omega, show ¬ (114 : Int) = 40 by omega, ↓reduceIte]), by omega, by omega, by simp; omega, fun h => by simp only [List.length_cons, List.length_nil]; omega⟩
    by_cases cs : sAt s x ≥ 0
    · refine ⟨[wrap64 (100 + sAt s x)], x + 1, ev_succ ?_, by omega, by omega, by simp; omega, fun h => by simp only [List.length_cons, List.length_nil]; omega⟩
      simp only [spec_l9Read.f, g, g1, h0, c33, c40, c114, w1, ↓reduceIte]
      exact Ev.bind (sAt_ev s x) (ev_of_eq fun k => by simp only [cs, ↓reduceIte])
    by_cases cr : rAt s x < 0
    · refine ⟨[], -1, ev_succ ?_, Or.inl rfl, by omega, by simp, fun h => by omega⟩
      simp only [spec_l9Read.f, g, g1, h0, c33, c40, c114, w1, ↓reduceIte]
      refine Ev.bind (sAt_ev s x) ?_
      simp only [cs, ↓reduceIte]
      exact Ev.bind (rAt_ev s x) (ev_of_eq fun k => by simp only [cr, ↓reduceIte])
    have tail : ∀ r, Ev (fun k => if x + 1 < (s.size : Int) then (if 0 ≤ x + 1 then (if bt s (x + 1) = 43 then some ([wrap64 (300 + rAt s x)], wrap64 (x + 2)) else some ([wrap64 (200 + rAt s x)], x + 1)) else none) else some ([wrap64 (200 + rAt s x)], x + 1)) r → Ev (fun k => spec_l9Read.f k s x) r := by
      intro r hj
      refine ev_succ ?_
      simp only [spec_l9Read.f, g, g1, h0, c33, c40, c114, w1, ↓reduceIte]
      refine Ev.bind (sAt_ev s x) ?_
      simp only [cs, ↓reduceIte]
      refine Ev.bind (rAt_ev s x) ?_
      simp only [cr, ↓reduceIte]
      exact hj
    by_cases n : x + 1 < (s.size : Int)
    · by_cases cp : bt s (x + 1) = 43
      · exact ⟨_, _, tail _ (ev_of_eq fun k => by rw [if_pos n, if_pos (by omega), if_pos cp]), by omega, by omega, by simp; omega, fun h => by simp only [List.length_append, List.length_cons, List.length_nil]; omega⟩
      · exact ⟨_, _, tail _ (ev_of_eq fun k => by rw [if_pos n, if_pos (by omega), if_neg cp]), by omega, by omega, by simp; omega, fun h => by simp only [List.length_cons, List.length_nil]; omega⟩
    · exact ⟨_, _, tail _ (ev_of_eq fun k => by rw [if_neg n]), by omega, by omega, by simp; omega, fun h => by simp only [List.length_cons, List.length_nil]; omega⟩

/-! spec_ParsePattern -/
/-- Signs and a text that the reference's reader turns into each other. -/
def GoodS (q : List Int) (t : List UInt8) : Prop := 1 ≤ q.length ∧ ∀ (s : ByteArray) (x : Nat) (post : List UInt8), s.size ≤ 900 → s.data.toList.drop x = t ++ post → post.head? ≠ some 43 → q.length ≤ 900 →
  Ev (fun k => spec_l9Read.f k s (x : Int)) (q, ((x + t.length : Nat) : Int))
theorem bt_at9 {s : ByteArray} {x : Nat} {c : UInt8} {r : List UInt8} (h : s.data.toList.drop x = c :: r) (n : Nat) (hn : c.toNat = n) : bt s (x : Int) = (n : Int) := by rw [(at_drop h).2.1, hn]
theorem goodS_leaf (s : Int) (h : leafM s = true) : GoodS [s] (signM s).data.toList := by
  have two : ∀ (b : ByteArray) (x : Nat) (i : Fin 13) (post : List UInt8), b.size ≤ 900 → b.data.toList.drop x = rankC i.val :: post → ∀ r, Ev (fun k => if (x : Int) + 1 < (b.size : Int) then (if 0 ≤ (x : Int) + 1 then (if bt b ((x : Int) + 1) = 43 then some ([wrap64 (300 + (i.val : Int))], wrap64 ((x : Int) + 2)) else some ([wrap64 (200 + (i.val : Int))], (x : Int) + 1)) else none) else some ([wrap64 (200 + (i.val : Int))], (x : Int) + 1)) r → Ev (fun k => spec_l9Read.f k b (x : Int)) r := by
    intro b x i post hb hd r hj
    obtain ⟨f0, f33, f40, f114, fs, fr⟩ := rank_fact i
    obtain ⟨a1, a2⟩ := rank_at9 i
    have l := (at_drop hd).1
    have e := (at_drop hd).2.1
    have g : ¬ (x : Int) ≥ (b.size : Int) := by omega
    have g1 : (x : Int) < (b.size : Int) := by omega
    have g0 : 0 ≤ (x : Int) := Int.natCast_nonneg _
    have w1 : wrap64 ((x : Int) + 1) = (x : Int) + 1 := w64 (by omega) (by omega)
    have s1 := sAt_ev b x
    have s2 := rAt_ev b x
    unfold sAt at s1
    unfold rAt at s2
    rw [e] at s1 s2
    rw [a1] at s1
    rw [a2] at s2
    have z1 : ¬ (-1 : Int) ≥ 0 := by decide
    have z2 : ¬ (i.val : Int) < 0 := Int.not_lt.2 (Int.natCast_nonneg _)
    refine ev_succ ?_
    simp only [spec_l9Read.f, g, g1, g0, e, f33, f40, f114, w1, ↓reduceIte]
    refine Ev.bind s1 ?_
    simp only [z1, ↓reduceIte]
    refine Ev.bind s2 ?_
    simp only [z2, ↓reduceIte]
    exact hj
  rcases leaf_cases h with ⟨i, rfl⟩ | ⟨i, rfl⟩ | ⟨i, rfl⟩ | rfl
  · obtain ⟨f0, f33, f40, f114, fs⟩ := suit_fact i
    rw [suit_text i]
    refine ⟨by simp, fun b x post hb hd hp hq => ?_⟩
    have l := (at_drop hd).1
    have e := (at_drop hd).2.1
    have g : ¬ (x : Int) ≥ (b.size : Int) := by omega
    have g1 : (x : Int) < (b.size : Int) := by omega
    have g0 : 0 ≤ (x : Int) := Int.natCast_nonneg _
    have w1 : wrap64 ((x : Int) + 1) = (x : Int) + 1 := w64 (by omega) (by omega)
    have s1 := sAt_ev b x
    unfold sAt at s1
    rw [e, suit_at9 i] at s1
    have z1 : (i.val : Int) ≥ 0 := Int.natCast_nonneg _
    have fw : wrap64 (100 + (i.val : Int)) = 100 + i.val := w64 (by omega) (by omega)
    refine ev_succ ?_
    simp only [spec_l9Read.f, g, g1, g0, e, f33, f40, f114, w1, ↓reduceIte]
    refine Ev.bind s1 (ev_of_eq fun k => ?_)
    simp only [z1, fw, ↓reduceIte]
    rfl
  · rw [rank_text i]
    refine ⟨by simp, fun b x post hb hd hp hq => two b x i post hb hd _ (ev_of_eq fun k => ?_)⟩
    have l := (at_drop hd).1
    have fw : wrap64 (200 + (i.val : Int)) = 200 + i.val := w64 (by omega) (by omega)
    by_cases n : (x : Int) + 1 < (b.size : Int)
    · have nn := noteB_not (at_drop hd).2.2 hp
      have n' : ¬ bt b ((x : Int) + 1) = 43 := fun e => nn (by
        unfold noteB
        rw [if_pos (show ((x + 1 : Nat) : Int) < (b.size : Int) by omega)]
        exact e)
      rw [if_pos n, if_pos (show 0 ≤ (x : Int) + 1 from Int.natCast_nonneg (x + 1)), if_neg n', fw]
      rfl
    · rw [if_neg n, fw]
      rfl
  · rw [from_text i]
    refine ⟨by simp, fun b x post hb hd hp hq => two b x i (43 :: post) hb hd _ (ev_of_eq fun k => ?_)⟩
    have l2 := (at_drop (at_drop hd).2.2).1
    have n' : bt b ((x : Int) + 1) = 43 := bt_at9 (at_drop hd).2.2 43 (by decide)
    have fw : wrap64 (300 + (i.val : Int)) = 300 + i.val := w64 (by omega) (by omega)
    have w2 : wrap64 ((x : Int) + 2) = (x : Int) + 2 := w64 (by omega) (by omega)
    rw [if_pos (show (x : Int) + 1 < (b.size : Int) by omega), if_pos (show 0 ≤ (x : Int) + 1 from Int.natCast_nonneg (x + 1)), if_pos n', fw, w2]
    rfl
  · have et : (signM 400).data.toList = [114] := by unfold signM; rw [if_pos rfl]
    rw [et]
    refine ⟨by simp, fun b x post hb hd hp hq => ?_⟩
    have l := (at_drop hd).1
    have e : bt b (x : Int) = 114 := bt_at9 hd 114 (by decide)
    have g : ¬ (x : Int) ≥ (b.size : Int) := by omega
    have g1 : (x : Int) < (b.size : Int) := by omega
    have g0 : 0 ≤ (x : Int) := Int.natCast_nonneg _
    have w1 : wrap64 ((x : Int) + 1) = (x : Int) + 1 := w64 (by omega) (by omega)
    refine ev_succ (ev_of_eq fun k => ?_)
    simp only [spec_l9Read.f, g, g1, g0, e, w1, show ¬ (114 : Int) = 33 by omega, show ¬ (114 : Int) = 40 by omega, ↓reduceIte]
    rfl
theorem goodS_neg (q : List Int) (t : List UInt8) (h : GoodS q t) : GoodS (q ++ [-1]) (33 :: t) := by
  obtain ⟨h1, h3⟩ := h
  refine ⟨by simp, fun b x post hb hd hp hq => ?_⟩
  have l := (at_drop hd).1
  have e : bt b (x : Int) = 33 := bt_at9 hd 33 (by decide)
  rw [List.length_append] at hq
  simp only [List.length_cons, List.length_nil] at hq
  have g : ¬ (x : Int) ≥ (b.size : Int) := by omega
  have g1 : (x : Int) < (b.size : Int) := by omega
  have g0 : 0 ≤ (x : Int) := Int.natCast_nonneg _
  have w1 : wrap64 ((x : Int) + 1) = (x : Int) + 1 := w64 (by omega) (by omega)
  have r := h3 b (x + 1) post hb (at_drop hd).2.2 hp (by omega)
  have g2 : q.length < 17592186044416 := by omega
  refine ev_succ ?_
  simp only [spec_l9Read.f, g, g1, g0, e, w1, ↓reduceIte]
  refine Ev.bind r (ev_of_eq fun k => ?_)
  simp only [g2, ↓reduceIte, List.length_cons]
  refine congrArg some (Prod.ext rfl ?_)
  simp only
  omega
theorem goodS_bin (q1 : List Int) (t1 : List UInt8) (q2 : List Int) (t2 : List UInt8) (op : Int) (c : UInt8) (hc : op = -2 ∧ c = 38 ∨ op = -3 ∧ c = 124) (ha : GoodS q1 t1) (hb : GoodS q2 t2) : GoodS (q1 ++ q2 ++ [op]) (40 :: (t1 ++ (c :: (t2 ++ [41])))) := by
  obtain ⟨a1, a3⟩ := ha
  obtain ⟨b1, b3⟩ := hb
  refine ⟨by simp only [List.length_append, List.length_cons, List.length_nil]; omega, fun b x post hb hd hp hq => ?_⟩
  have e : bt b (x : Int) = 40 := bt_at9 hd 40 (by decide)
  have l := (at_drop hd).1
  simp only [List.length_append, List.length_cons, List.length_nil] at hq
  have g : ¬ (x : Int) ≥ (b.size : Int) := by omega
  have g1 : (x : Int) < (b.size : Int) := by omega
  have g0 : 0 ≤ (x : Int) := Int.natCast_nonneg _
  have w1 : wrap64 ((x : Int) + 1) = (x : Int) + 1 := w64 (by omega) (by omega)
  have d1 : b.data.toList.drop (x + 1) = t1 ++ (c :: (t2 ++ (41 :: post))) := by
    have := (at_drop hd).2.2
    rw [this]
    simp
  have r1 := a3 b (x + 1) _ hb d1 (by rcases hc with ⟨_, rfl⟩ | ⟨_, rfl⟩ <;> simp) (by omega)
  have d2 : b.data.toList.drop (x + 1 + t1.length) = c :: (t2 ++ (41 :: post)) := by
    rw [← List.drop_drop, d1, List.drop_left]
  have c1 := (at_drop d2).2.1
  have l2 := (at_drop d2).1
  have d3 := (at_drop d2).2.2
  have r2 := b3 b (x + 1 + t1.length + 1) _ hb d3 (by simp) (by omega)
  have d4 : b.data.toList.drop (x + 1 + t1.length + 1 + t2.length) = 41 :: post := by
    rw [← List.drop_drop, d3, List.drop_left]
  have c2 : bt b ((x + 1 + t1.length + 1 + t2.length : Nat) : Int) = 41 := bt_at9 d4 41 (by decide)
  have l4 := (at_drop d4).1
  generalize hm : ((x + 1 + t1.length : Nat) : Int) = mid at r1 c1
  generalize he : ((x + 1 + t1.length + 1 + t2.length : Nat) : Int) = en at r2 c2
  have m0 : ¬ mid < 0 := by omega
  have m1 : ¬ mid ≥ (b.size : Int) := by omega
  have m2 : 0 ≤ mid := by omega
  have m3 : mid < (b.size : Int) := by omega
  have n0 : ¬ en < 0 := by omega
  have n1 : ¬ en ≥ (b.size : Int) := by omega
  have n2 : 0 ≤ en := by omega
  have n3 : en < (b.size : Int) := by omega
  have f1 : (bt b en != 41) = false := bne_eq_false_iff_eq.mpr c2
  have wm : wrap64 (mid + 1) = mid + 1 := w64 (by omega) (by omega)
  have we : wrap64 (en + 1) = en + 1 := w64 (by omega) (by omega)
  have r2' : Ev (fun k => spec_l9Read.f k b (mid + 1)) (q2, en) := by
    have : mid + 1 = ((x + 1 + t1.length + 1 : Nat) : Int) := by omega
    rw [this]
    exact r2
  have z1 : q1.length + q2.length < 17592186044416 := by omega
  have z2 : (q1 ++ q2).length < 17592186044416 := by rw [List.length_append]; exact z1
  have rest : Ev (fun k => spec_l9Read.j0 k b q1 mid false) (q1 ++ q2 ++ [op], en + 1) := by
    refine ev_succ ?_
    simp only [spec_l9Read.j0, wm, Bool.false_eq_true, ↓reduceIte]
    refine Ev.bind r2' ?_
    simp only [n0, n1, n2, n3, f1, ↓reduceIte]
    refine ev_succ (ev_of_eq fun k => ?_)
    rcases hc with ⟨rfl, rfl⟩ | ⟨rfl, rfl⟩
    · have d : ¬ bt b mid = 124 := by rw [c1]; decide
      simp only [spec_l9Read.j1, m2, m3, d, z1, z2, we, Option.bind_some, Bool.false_eq_true, ↓reduceIte]
    · have d : bt b mid = 124 := by rw [c1]; decide
      simp only [spec_l9Read.j1, m2, m3, d, z1, z2, we, Option.bind_some, Bool.false_eq_true, ↓reduceIte]
  have fin : ((x + (40 :: (t1 ++ (c :: (t2 ++ [41])))).length : Nat) : Int) = en + 1 := by
    simp only [List.length_cons, List.length_append, List.length_nil]
    omega
  rw [fin]
  refine ev_succ ?_
  simp only [spec_l9Read.f, g, g1, g0, e, w1, show ¬ (40 : Int) = 33 by omega, ↓reduceIte]
  refine Ev.bind r1 ?_
  rcases hc with ⟨rfl, rfl⟩ | ⟨rfl, rfl⟩
  · have d : bt b mid = 38 := by rw [c1]; decide
    simp only [m0, m1, m2, m3, d, ↓reduceIte]
    exact rest
  · have d : ¬ bt b mid = 38 := by rw [c1]; decide
    have d2 : (bt b mid != 124) = false := bne_eq_false_iff_eq.mpr (by rw [c1]; decide)
    simp only [m0, m1, m2, m3, d, d2, ↓reduceIte]
    exact rest
theorem goodS_text (p : List Int) (h : isPatM p = true) : GoodS p (textF p []).data.toList := by
  have := good_text GoodS goodS_leaf goodS_neg goodS_bin p [] (by simpa using (isPatM_run h).1) (fun y hy => by simp at hy)
  simpa using this
theorem spec_ParsePattern_ex (s : ByteArray) : ∃ (p : List Int) (b : Bool), Ev (fun k => spec_ParsePattern.f k s) (p, b) ∧ p.length ≤ 1048576 ∧ (∀ q, maybeM q = true → s = maybeT q → p = q) := by
  have size_of : ∀ q, q.length ≠ 0 → maybeM q = true → s = maybeT q → isPatM q = true ∧ s = textF q [] ∧ s.size ≤ 60 ∧ 1 ≤ s.size := by
    intro q h0 hq e
    unfold maybeM at hq
    unfold maybeT at e
    rw [if_neg h0] at e
    have hp : isPatM q = true := by simpa [h0] using hq
    rw [patText_of hp] at e
    have z := (goodI_text q hp).2.1
    rw [size_data, ← e] at z
    have := (isPatM_run hp).2
    refine ⟨hp, e, by omega, ?_⟩
    refine Nat.one_le_iff_ne_zero.2 fun hz => ?_
    have r := (goodI_text q hp).2.2 s 0 [] [] (by omega) (by rw [List.drop_zero, e, List.append_nil]) (by simp) (by simp; omega)
    rw [← e, size_data, hz] at r
    obtain ⟨r', hr', p1, _⟩ := readM_ex s (by omega) s.size s.size (Nat.le_refl _) 0 [] (by omega) (by omega) (by simp)
    have := ev_uniq r hr'
    rw [← this] at p1
    simp at p1
  by_cases hl : (s.size : Int) > 200
  · refine ⟨[], false, ev_of_eq fun k => by simp only [spec_ParsePattern.f, hl, ↓reduceIte], by simp, fun q hq e => ?_⟩
    by_cases h0 : q.length = 0
    · exact (List.length_eq_zero_iff.1 h0).symm
    · obtain ⟨_, _, z, _⟩ := size_of q h0 hq e
      omega
  obtain ⟨p, e, hr, r1, r2, r3, r4⟩ := spec_l9Read_ex s (by omega) s.size s.size (Nat.le_refl _) 0 (by omega) (by omega)
  by_cases hs : s.toList = ([] : List UInt8)
  · refine ⟨[], false, ?_, by simp, fun q hq e => ?_⟩
    · simp only [spec_ParsePattern.f, hl, ↓reduceIte]
      exact Ev.bind hr (ev_of_eq fun k => by simp only [hs, ↓reduceIte])
    · by_cases h0 : q.length = 0
      · exact (List.length_eq_zero_iff.1 h0).symm
      · obtain ⟨_, _, _, z⟩ := size_of q h0 hq e
        rw [ByteArray.toList_eq] at hs
        have := congrArg List.length hs
        rw [size_data, List.length_nil] at this
        omega
  by_cases he : e = (s.size : Int)
  case neg =>
    refine ⟨[], false, ?_, by simp, fun q hq e' => ?_⟩
    · simp only [spec_ParsePattern.f, hl, ↓reduceIte]
      exact Ev.bind hr (ev_of_eq fun k => by simp only [hs, he, ↓reduceIte])
    · by_cases h0 : q.length = 0
      · exact (List.length_eq_zero_iff.1 h0).symm
      · obtain ⟨hp, et, z, _⟩ := size_of q h0 hq e'
        have r := (goodS_text q hp).2 s 0 [] (by omega) (by rw [List.drop_zero, et, List.append_nil]) (by simp) (by have := (isPatM_run hp).2; omega)
        have this : e = ((0 + (textF q []).data.toList.length : Nat) : Int) := congrArg Prod.snd (ev_uniq hr r)
        rw [← et, size_data, Nat.zero_add] at this
        exact absurd this he
  have ht := spec_PatternText_ev p (by omega)
  refine ⟨if (patText p).toList = s.toList then p else [], decide ((patText p).toList = s.toList), ?_, ?_, fun q hq e' => ?_⟩
  · simp only [spec_ParsePattern.f, hl, ↓reduceIte]
    refine Ev.bind hr ?_
    simp only [hs, he, ↓reduceIte]
    refine Ev.bind ht (ev_of_eq fun k => ?_)
    by_cases g : (patText p).toList = s.toList
    · simp [g]
    · simp [g]
  · by_cases g : (patText p).toList = s.toList
    · rw [if_pos g]; omega
    · rw [if_neg g]; simp
  · by_cases h0 : q.length = 0
    · -- the sign for none is no pattern
      have hq0 := List.length_eq_zero_iff.1 h0
      subst hq0
      by_cases g : (patText p).toList = s.toList
      · have g' := (toList_iff _ _).1 g
        have hs1 : s = ⟨#[45]⟩ := e'
        have pe : p = [] := by
          have z : spec_l9Read.f 30 (⟨#[45]⟩ : ByteArray) 0 = some ([], -1) := by decide +kernel
          have hr' : Ev (fun k => spec_l9Read.f k s 0) ([], -1) := by rw [hs1]; exact Ev.of (k := 30) (fun k => spec_l9Read.mono _ _ k) z
          exact congrArg Prod.fst (ev_uniq hr hr')
        rw [pe]
        split <;> rfl
      · rw [if_neg g]
    · obtain ⟨hp, et, z, _⟩ := size_of q h0 hq e'
      have r := (goodS_text q hp).2 s 0 [] (by omega) (by rw [List.drop_zero, et, List.append_nil]) (by simp) (by have := (isPatM_run hp).2; omega)
      have pq : p = q := congrArg Prod.fst (ev_uniq hr r)
      subst pq
      rw [if_pos (by rw [patText_of hp, et])]

/-! spec_ParseRules -/
theorem spec_rules_loop (s : ByteArray) (W : List ByteArray) (hW : W.length = 7) : ∀ (m : Nat) (i : Int) (out : List ByteArray) (ns : List Int), 0 ≤ i → i + m = 7 → (out.length : Int) = i → (ns.length : Int) = i →
    ∃ (vs : List ByteArray) (ms : List Int), vs.length = m ∧ ms.length = m ∧ (∀ r, Ev (fun k => spec_ParseRules.l0 k s W namesM (out ++ vs) (ns ++ ms) 7) r → Ev (fun k => spec_ParseRules.l0 k s W namesM out ns i) r) ∧
      (∀ ws, valsF W m i out = some ws → ws = out ++ vs) ∧ (∀ (j : Nat) (n : Int), j < m → 1 ≤ n → n ≤ 400 → vs.getD j ByteArray.empty = numT n → ms.getD j 0 = n) := by
  intro m
  induction m with
  | zero =>
    intro i out ns h0 h1 h2 h3
    obtain rfl : i = 7 := by omega
    exact ⟨[], [], rfl, rfl, fun r hr => by simpa using hr, fun ws h => by simpa [valsF] using h.symm, fun j n h => absurd h (by omega)⟩
  | succ m ih =>
    intro i out ns h0 h1 h2 h3
    have w1 : wrap64 (i + 1) = i + 1 := w64 (by omega) (by omega)
    have i1 : i < (W.length : Int) := by omega
    have i2 : i < (namesM.length : Int) := by have : namesM.length = 7 := rfl; omega
    have o1 : out.length < 8796093022208 := by omega
    have o2 : ns.length < 17592186044416 := by omega
    have v := spec_ValueAfter_f (rdOf ByteArray.empty W i) (rdOf ByteArray.empty namesM i) (names_size _ (rdOf_mem _ _ _ h0 i2))
    obtain ⟨⟨n, b⟩, hn, _⟩ := spec_ParseInt_ex (afterM (rdOf ByteArray.empty W i) (rdOf ByteArray.empty namesM i)).1
    obtain ⟨vs, ms, k1, k2, k3, k4, k5⟩ := ih (i + 1) (out ++ [(afterM (rdOf ByteArray.empty W i) (rdOf ByteArray.empty namesM i)).1]) (ns ++ [n]) (by omega) (by omega) (by simp; omega) (by simp; omega)
    refine ⟨(afterM (rdOf ByteArray.empty W i) (rdOf ByteArray.empty namesM i)).1 :: vs, n :: ms, by simp [k1], by simp [k2], fun r hr => ?_, fun ws h => ?_, fun j x hj x0 x1 hx => ?_⟩
    · refine ev_succ ?_
      simp only [spec_ParseRules.l0, i1, i2, h0, v, Option.bind_some, ↓reduceIte]
      refine Ev.bind hn ?_
      simp only [o1, o2, w1, ↓reduceIte]
      exact k3 r (by simpa using hr)
    · unfold valsF at h
      by_cases g : (afterM (rdOf ByteArray.empty W i) (rdOf ByteArray.empty namesM i)).2 = true
      · rw [if_pos g] at h
        have := k4 ws h
        simpa using this
      · rw [if_neg g] at h
        cases h
    · cases j with
      | zero =>
        simp only [List.getD_cons_zero] at hx ⊢
        rw [hx] at hn
        exact congrArg Prod.fst (ev_uniq hn (spec_ParseInt_num x x0 x1))
      | succ j =>
        simp only [List.getD_cons_succ] at hx ⊢
        exact k5 j x (by omega) x0 x1 hx
theorem spec_ParseRules_f (k : Nat) (s : ByteArray) : spec_ParseRules.f k s = (spec_SplitWords.f k s 32).bind fun W => if (W.length : Int) = (namesM.length : Int) then spec_ParseRules.l0 k s W namesM [] [] 0 else some noRules := rfl
theorem spec_ParseRules_ex (s : ByteArray) (hs : s.size ≤ 1048576) : ∃ r : RulesR, Ev (fun k => spec_ParseRules.f k s) r ∧ RulesOf s r := by
  have sp := spec_SplitWords_ev s 32 hs
  have hv : ∀ a0 a1 a2 a3 l4 l5 a6 a7, isRulesM a0 a1 a2 a3 l4 l5 a6 a7 = true → rulesT a0 a1 a2 a3 l4 l5 a6 a7 = s → _ := vals_of s
  generalize splitF s 32 s.size [] 0 0 = W at sp hv
  by_cases hW : W.length = 7
  case neg =>
    refine ⟨noRules, ?_, noRulesOf fun a0 a1 a2 a3 l4 l5 a6 a7 h1 h2 => hW (hv _ _ _ _ _ _ _ _ h1 h2).1⟩
    simp only [spec_ParseRules_f]
    have : ¬ (W.length : Int) = (namesM.length : Int) := by have : namesM.length = 7 := rfl; omega
    exact Ev.bind sp (ev_of_eq fun k => if_neg this)
  have lead : ∀ r, Ev (fun k => spec_ParseRules.l0 k s W namesM [] [] 0) r → Ev (fun k => spec_ParseRules.f k s) r := by
    intro r hr
    simp only [spec_ParseRules_f]
    refine Ev.bind sp ?_
    have : (W.length : Int) = (namesM.length : Int) := by have : namesM.length = 7 := rfl; omega
    simp only [if_pos this]
    exact hr
  obtain ⟨vs, ms, hl, hm, go, hval, hnum⟩ := spec_rules_loop s W hW 7 0 [] [] (by omega) (by omega) (by simp) (by simp)
  simp only [List.nil_append] at go hval
  obtain ⟨p3, b3, e3, q3, u3⟩ := spec_ParsePattern_ex (rdOf ByteArray.empty vs 3)
  obtain ⟨p4, b4, e4, q4, u4⟩ := spec_ParsePattern_ex (rdOf ByteArray.empty vs 4)
  have eT := spec_RulesText_ev (rd ms 0) (rd ms 1) ((rdOf ByteArray.empty vs 2).toList == ([115, 117, 105, 116] : List UInt8) || (rdOf ByteArray.empty vs 2).toList == ([98, 111, 116, 104] : List UInt8)) ((rdOf ByteArray.empty vs 2).toList == ([114, 97, 110, 107] : List UInt8) || (rdOf ByteArray.empty vs 2).toList == ([98, 111, 116, 104] : List UInt8)) p3 p4 (rd ms 5) (rd ms 6) q3 q4
  have same : ∀ a0 a1 a2 a3 l4 l5 a6 a7, isRulesM a0 a1 a2 a3 l4 l5 a6 a7 = true → rulesT a0 a1 a2 a3 l4 l5 a6 a7 = s →
      rd ms 0 = a0 ∧ rd ms 1 = a1 ∧ ((rdOf ByteArray.empty vs 2).toList == ([115, 117, 105, 116] : List UInt8) || (rdOf ByteArray.empty vs 2).toList == ([98, 111, 116, 104] : List UInt8)) = a2 ∧ ((rdOf ByteArray.empty vs 2).toList == ([114, 97, 110, 107] : List UInt8) || (rdOf ByteArray.empty vs 2).toList == ([98, 111, 116, 104] : List UInt8)) = a3 ∧ p3 = l4 ∧ p4 = l5 ∧ rd ms 5 = a6 ∧ rd ms 6 = a7 := by
    intro a0 a1 a2 a3 l4 l5 a6 a7 h1 h2
    have hv' := hval _ (hv _ _ _ _ _ _ _ _ h1 h2).2
    subst hv'
    obtain ⟨m0, m1, m6, m7⟩ := isRulesM_nums h1
    obtain ⟨k2, k4, k5⟩ := isRulesM_same h1
    have r2 : rdOf ByteArray.empty (valsM a0 a1 a2 a3 l4 l5 a6 a7) 2 = rulesWordM a2 a3 := rfl
    have r3 : rdOf ByteArray.empty (valsM a0 a1 a2 a3 l4 l5 a6 a7) 3 = maybeT l4 := rfl
    have r4 : rdOf ByteArray.empty (valsM a0 a1 a2 a3 l4 l5 a6 a7) 4 = maybeT l5 := rfl
    refine ⟨hnum 0 a0 (by omega) (by omega) (by omega) rfl, hnum 1 a1 (by omega) (by omega) (by omega) rfl, ?_, ?_, u3 _ k4 r3, u4 _ k5 r4, hnum 5 a6 (by omega) (by omega) (by omega) rfl, hnum 6 a7 (by omega) (by omega) (by omega) rfl⟩
    · rw [r2, suit_l, both_l, word_eq, word_eq]
      cases a2 <;> cases a3 <;> first | rfl | exact absurd k2 (by decide)
    · rw [r2, rank_l, both_l, word_eq, word_eq]
      cases a2 <;> cases a3 <;> first | rfl | exact absurd k2 (by decide)
  have c7 : ¬ (7 : Int) < (W.length : Int) := by omega
  have l0 : 0 < (ms.length : Int) := by omega
  have l1 : 1 < (ms.length : Int) := by omega
  have l5 : 5 < (ms.length : Int) := by omega
  have l6 : 6 < (ms.length : Int) := by omega
  have l2 : 2 < (vs.length : Int) := by omega
  have l3 : 3 < (vs.length : Int) := by omega
  have l4 : 4 < (vs.length : Int) := by omega
  have run : ∀ r : RulesR, Ev (fun k => if s.toList = ([] : List UInt8) then some noRules else (spec_RulesText.f k (rd ms 0) (rd ms 1) ((rdOf ByteArray.empty vs 2).toList == ([115, 117, 105, 116] : List UInt8) || (rdOf ByteArray.empty vs 2).toList == ([98, 111, 116, 104] : List UInt8)) ((rdOf ByteArray.empty vs 2).toList == ([114, 97, 110, 107] : List UInt8) || (rdOf ByteArray.empty vs 2).toList == ([98, 111, 116, 104] : List UInt8)) p3 p4 (rd ms 5) (rd ms 6)).bind fun t => if t.toList = s.toList then some (rd ms 0, rd ms 1, ((rdOf ByteArray.empty vs 2).toList == ([115, 117, 105, 116] : List UInt8) || (rdOf ByteArray.empty vs 2).toList == ([98, 111, 116, 104] : List UInt8)), ((rdOf ByteArray.empty vs 2).toList == ([114, 97, 110, 107] : List UInt8) || (rdOf ByteArray.empty vs 2).toList == ([98, 111, 116, 104] : List UInt8)), p3, p4, rd ms 5, rd ms 6, true) else some noRules) r → Ev (fun k => spec_ParseRules.f k s) r := by
    intro r hr
    refine lead _ (go _ (ev_succ ?_))
    simp only [spec_ParseRules.l0, c7, l0, l1, l2, l3, l4, l5, l6, ↓reduceIte]
    refine Ev.bind e3 ?_
    refine Ev.bind e4 ?_
    exact hr
  generalize ((rdOf ByteArray.empty vs 2).toList == ([115, 117, 105, 116] : List UInt8) || (rdOf ByteArray.empty vs 2).toList == ([98, 111, 116, 104] : List UInt8)) = t2 at eT same run
  generalize ((rdOf ByteArray.empty vs 2).toList == ([114, 97, 110, 107] : List UInt8) || (rdOf ByteArray.empty vs 2).toList == ([98, 111, 116, 104] : List UInt8)) = t3 at eT same run
  generalize rd ms 0 = n0 at eT same run
  generalize rd ms 1 = n1 at eT same run
  generalize rd ms 5 = n5 at eT same run
  generalize rd ms 6 = n6 at eT same run
  by_cases hE : s.toList = ([] : List UInt8)
  · refine ⟨noRules, run _ (ev_of_eq fun k => by rw [if_pos hE]), noRulesOf fun a0 a1 a2 a3 l4 l5 a6 a7 h1 h2 => ?_⟩
    have hw := words_of s a0 a1 a2 a3 l4 l5 a6 a7 h1 h2
    have z : s.size = 0 := by rw [← size_data, ← ByteArray.toList_eq, hE]; rfl
    rw [z] at hw
    simp [splitF] at hw
  by_cases hT : rulesT n0 n1 t2 t3 p3 p4 n5 n6 = s
  · have hR : isRulesM n0 n1 t2 t3 p3 p4 n5 n6 = true := by
      by_cases hR : isRulesM n0 n1 t2 t3 p3 p4 n5 n6 = true
      · exact hR
      · unfold rulesT at hT
        rw [if_neg hR] at hT
        exact absurd (by rw [← hT, ByteArray.toList_eq]) hE
    refine ⟨(n0, n1, t2, t3, p3, p4, n5, n6, true), run _ ?_, ⟨q3, q4⟩, Or.inl ⟨hR, hT, rfl⟩, fun a0 a1 a2 a3 l4 l5 a6 a7 h1 h2 => ?_⟩
    · simp only [hE, ↓reduceIte]
      exact Ev.bind eT (ev_of_eq fun k => by rw [if_pos (by rw [hT])])
    · obtain ⟨rfl, rfl, rfl, rfl, rfl, rfl, rfl, rfl⟩ := same _ _ _ _ _ _ _ _ h1 h2
      rfl
  · refine ⟨noRules, run _ ?_, noRulesOf fun a0 a1 a2 a3 l4 l5 a6 a7 h1 h2 => ?_⟩
    · simp only [hE, ↓reduceIte]
      exact Ev.bind eT (ev_of_eq fun k => by rw [if_neg (fun e => hT ((toList_iff _ _).1 e))])
    · obtain ⟨rfl, rfl, rfl, rfl, rfl, rfl, rfl, rfl⟩ := same _ _ _ _ _ _ _ _ h1 h2
      exact hT h2

/-! laws_eqIntS -/
theorem laws_eqIntS_ev (l : List Int) (hl : l.length ≤ 1099511627776) : Ev (fun k => laws_eqIntS.f k l l) true := by
  simp only [laws_eqIntS.f, ↓reduceIte]
  refine loop_int l hl (P := fun i _ => Ev (fun k => laws_eqIntS.l0 k l l i) true) ?_ ?_
  · refine ev_succ (ev_of_eq fun k => ?_)
    simp only [laws_eqIntS.l0, Int.lt_irrefl, ↓reduceIte]
  · intro i x rest h0 h1 hx _ hw ih
    refine ev_succ ?_
    simp only [laws_eqIntS.l0, h1, h0, ↓reduceIte, hw]
    exact ih

/-! laws_eqRules -/
theorem laws_eqRules_ev (a0 a1 : Int) (a2 a3 : Bool) (l4 l5 : List Int) (a6 a7 : Int) (h4 : l4.length ≤ 1048576) (h5 : l5.length ≤ 1048576) :
    Ev (fun k => laws_eqRules.f k a0 a1 a2 a3 l4 l5 a6 a7 a0 a1 a2 a3 l4 l5 a6 a7) true := by
  simp only [laws_eqRules.f, bne_self_eq_false, Bool.false_eq_true, ↓reduceIte]
  refine Ev.bind (laws_eqIntS_ev l4 (by omega)) ?_
  simp only [↓reduceIte]
  refine Ev.bind (laws_eqIntS_ev l5 (by omega)) ?_
  exact ev_of_eq fun k => by simp only [↓reduceIte]

/-! laws_markIntS -/
theorem laws_markIntS_ev (l : List Int) (hl : l.length ≤ 1099511627776) (a : Int) (ha : 0 ≤ a) (ha2 : a ≤ 4611686018427387904) : Ev (fun k => laws_markIntS.f k l a) (a + l.length, (List.range l.length).map fun j : Nat => a + (j : Int)) := by
  simp only [laws_markIntS.f]
  suffices H : ∀ (n : Nat) (pre rest : List Int) (i : Int), i = pre.length → rest.length = n → (pre ++ rest).length = l.length → Ev (fun k => laws_markIntS.l0 k (pre ++ rest) (a + i) i) (a + l.length, pre ++ (List.range n).map fun j : Nat => a + i + (j : Int)) by
    have := H l.length [] l 0 rfl rfl rfl
    simpa using this
  intro n
  induction n with
  | zero =>
    intro pre rest i hi hr ht
    obtain rfl : rest = [] := List.eq_nil_of_length_eq_zero hr
    refine ev_succ (ev_of_eq fun k => ?_)
    have e : i = (l.length : Int) := by simp at ht; omega
    have e2 : ¬ i < ((pre ++ [] : List Int).length : Int) := by simp; omega
    simp only [laws_markIntS.l0, e2, ↓reduceIte]
    simp [e]
  | succ n ih =>
    intro pre rest i hi hr ht
    obtain ⟨x, rest, rfl⟩ : ∃ x r, rest = x :: r := by cases rest with | nil => simp at hr | cons x r => exact ⟨x, r, rfl⟩
    have h1 : i < ((pre ++ x :: rest : List Int).length : Int) := by simp; omega
    have h0 : 0 ≤ i := by omega
    have hb : i + 1 ≤ (l.length : Int) := by rw [← ht]; omega
    refine ev_succ ?_
    simp only [laws_markIntS.l0, h1, h0, ↓reduceIte]
    rw [set_mid pre rest i hi, w64 (n := a + i + 1) (by omega) (by omega), w64 (n := i + 1) (by omega) (by omega)]
    have := ih (pre ++ [a + i]) rest (i + 1) (by simp; omega) (by simpa using hr) (by simpa using ht)
    rw [show a + (i + 1) = a + i + 1 by omega] at this
    refine ev_eq this ?_
    rw [List.range_succ_eq_map]
    simp [Function.comp_def]
    intro j _
    omega

/-! laws_markRules -/
theorem laws_markRules_ev (a0 a1 : Int) (a2 a3 : Bool) (l4 l5 : List Int) (a6 a7 : Int) (h4 : l4.length ≤ 1048576) (h5 : l5.length ≤ 1048576) (a : Int) (ha : 0 ≤ a) (ha2 : a ≤ 1048576) :
    ∃ m4 m5, Ev (fun k => laws_markRules.f k a0 a1 a2 a3 l4 l5 a6 a7 a) (a + l4.length + l5.length, m4, m5) := by
  simp only [laws_markRules.f]
  exact ⟨_, _, Ev.bind (laws_markIntS_ev l4 (by omega) a (by omega) (by omega)) (Ev.bind (laws_markIntS_ev l5 (by omega) _ (by omega) (by omega)) (Ev.now _))⟩

/-! laws_heldIntS -/
theorem laws_heldIntS_ev (n : Nat) (hl : n ≤ 1099511627776) (a : Int) (ha : 0 ≤ a) (ha2 : a ≤ 4611686018427387904) : Ev (fun k => laws_heldIntS.f k ((List.range n).map fun j : Nat => a + (j : Int)) a) (a + n) := by
  simp only [laws_heldIntS.f]
  have hlen : ((List.range n).map fun j : Nat => a + (j : Int)).length = n := by simp
  have hget : ∀ i : Int, 0 ≤ i → i < (n : Int) → rd ((List.range n).map fun j : Nat => a + (j : Int)) i = a + i := by
    intro i h0 h1
    have : i.toNat < n := by omega
    unfold rd
    simp [List.getD_eq_getElem?_getD, this]
    omega
  generalize (List.range n).map (fun j : Nat => a + (j : Int)) = l at *
  subst hlen
  have := loop_up l.length hl (P := fun i m => Ev (fun k => laws_heldIntS.l0 k l (a + i) i) (a + l.length)) ?_ ?_
  · simpa using this
  · refine ev_succ (ev_of_eq fun k => ?_)
    simp only [laws_heldIntS.l0, Int.lt_irrefl, ↓reduceIte]
  · intro i m h0 h1 _ hw ih
    refine ev_succ ?_
    simp only [laws_heldIntS.l0, h1, h0, ↓reduceIte, hget i h0 h1, hw]
    rw [w64 (n := a + i + 1) (by omega) (by omega), show a + i + 1 = a + (i + 1) by omega]
    exact ih

/-! laws_heldRules -/
theorem laws_markRules_full (a0 a1 : Int) (a2 a3 : Bool) (l4 l5 : List Int) (a6 a7 : Int) (h4 : l4.length ≤ 1048576) (h5 : l5.length ≤ 1048576) (a : Int) (ha : 0 ≤ a) (ha2 : a ≤ 1048576) :
    Ev (fun k => laws_markRules.f k a0 a1 a2 a3 l4 l5 a6 a7 a) (a + l4.length + l5.length, (List.range l4.length).map (fun j : Nat => a + (j : Int)), (List.range l5.length).map (fun j : Nat => a + l4.length + (j : Int))) := by
  simp only [laws_markRules.f]
  exact Ev.bind (laws_markIntS_ev l4 (by omega) a (by omega) (by omega)) (Ev.bind (laws_markIntS_ev l5 (by omega) _ (by omega) (by omega)) (Ev.now _))
theorem laws_heldRules_ev (a0 a1 : Int) (a2 a3 : Bool) (n4 n5 : Nat) (a6 a7 : Int) (h4 : n4 ≤ 1048576) (h5 : n5 ≤ 1048576) (a : Int) (ha : 0 ≤ a) (ha2 : a ≤ 1048576) :
    Ev (fun k => laws_heldRules.f k a0 a1 a2 a3 ((List.range n4).map fun j : Nat => a + (j : Int)) ((List.range n5).map fun j : Nat => a + n4 + (j : Int)) a6 a7 a) (a + n4 + n5) := by
  simp only [laws_heldRules.f]
  have p1 : ¬ a + (n4 : Int) < 0 := by omega
  have p2 : ¬ a + (n4 : Int) + (n5 : Int) < 0 := by omega
  refine Ev.bind (laws_heldIntS_ev n4 (by omega) a (by omega) (by omega)) ?_
  simp only [p1, ↓reduceIte]
  refine Ev.bind (laws_heldIntS_ev n5 (by omega) _ (by omega) (by omega)) ?_
  exact ev_of_eq fun k => by simp only [p2, ↓reduceIte]

-- uses: LibM
theorem FnExactParseRules : laws_FnExactParseRules.Pure := by
  intro s _
  refine Ev.rounds (g := fun k => laws_FnExactParseRules.f k s) ?_
  by_cases hs : (s.size : Int) > 1048576
  · exact ev_of_eq fun k => by simp only [laws_FnExactParseRules.f, hs, ↓reduceIte]
  obtain ⟨r, hr, pr⟩ := impl_ParseRules_ex s (by omega)
  obtain ⟨q, hq, pq⟩ := spec_ParseRules_ex s (by omega)
  obtain rfl := rules_eq pr pq
  obtain ⟨⟨h4, h5⟩, _⟩ := pr
  obtain ⟨a0, a1, a2, a3, l4, l5, a6, a7, b⟩ := r
  simp only at h4 h5
  simp only [laws_FnExactParseRules.f, hs, ↓reduceIte]
  refine Ev.bind hq ?_
  refine Ev.bind hr ?_
  refine Ev.bind (laws_eqRules_ev a0 a1 a2 a3 l4 l5 a6 a7 h4 h5) ?_
  simp only [↓reduceIte]
  refine ev_succ ?_
  simp only [laws_FnExactParseRules.j0, bne_self_eq_false, Bool.false_eq_true, ↓reduceIte]
  refine Ev.bind (laws_markRules_full a0 a1 a2 a3 l4 l5 a6 a7 h4 h5 1 (by omega) (by omega)) ?_
  refine Ev.bind (laws_heldRules_ev a0 a1 a2 a3 l4.length l5.length a6 a7 h4 h5 1 (by omega) (by omega)) ?_
  have n1 : ¬ (1 : Int) + (l4.length : Int) + (l5.length : Int) < 0 := by omega
  simp only [n1, ↓reduceIte]
  refine Ev.bind hr ?_
  refine Ev.bind (laws_eqRules_ev a0 a1 a2 a3 l4 l5 a6 a7 h4 h5) ?_
  simp only [↓reduceIte]
  refine ev_succ ?_
  simp only [laws_FnExactParseRules.j1, bne_self_eq_false, Bool.false_eq_true, ↓reduceIte]
  refine Ev.bind (laws_heldRules_ev a0 a1 a2 a3 l4.length l5.length a6 a7 h4 h5 1 (by omega) (by omega)) ?_
  exact ev_of_eq fun k => by simp only [n1, ↓reduceIte]

end Go.Proofs.YtdfmobcocaijpaaDoor.Pure
