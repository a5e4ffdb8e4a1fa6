/- The program's RulesText answers what the reference's answers, for all arguments. No condition but those that the statement itself names. -/
import Derived.Test.YtdfmobcocaijpaaDoorQFnExactRulesTextx4
import Derived.Test.YtdfmobcocaijpaaDoorVLib
import Derived.Test.YtdfmobcocaijpaaDoorVLibM
namespace Go.Proofs.YtdfmobcocaijpaaDoor.Pure
open Go.RowKit Go.Proofs.YtdfmobcocaijpaaDoor.QFnExactRulesText Go.Proofs.YtdfmobcocaijpaaDoorW.PrintWords Go.Proofs.YtdfmobcocaijpaaDoorW.PrintLast Go.Proofs.YtdfmobcocaijpaaDoorW.PrintMore Go.Proofs.YtdfmobcocaijpaaDoor.Lib
set_option linter.unusedVariables false
set_option linter.unusedSimpArgs false

/-! impl_InRange -/
theorem impl_InRange_f (a b c : Int) : impl_InRange.f a b c = some (decide (b ≤ a ∧ a ≤ c)) := by
  unfold impl_InRange.f
  by_cases h : b ≤ a <;> simp [h]

/-! impl_isTest -/
theorem impl_isTest_f (s : Int) : impl_isTest.f s = some (leafM s) := by
  simp only [impl_isTest.f, impl_InRange_f, Option.bind_some, leafM]
  by_cases h1 : 100 ≤ s ∧ s ≤ 103
  · simp [h1]
  by_cases h2 : 200 ≤ s ∧ s ≤ 212
  · simp [h1, h2]
  by_cases h3 : 300 ≤ s ∧ s ≤ 312
  · simp [h1, h2, h3]
  simp [h1, h2, h3]

/-! impl_IsPattern -/
theorem impl_IsPattern_ev (l : List Int) (hl : l.length ≤ 1099511627776) : Ev (fun k => impl_IsPattern.f k l) (isPatM l) := by
  simp only [impl_IsPattern.f, isPatM]
  refine loop_int l hl (P := fun i rest => ∀ n, 0 ≤ n → n ≤ i → Ev (fun k => impl_IsPattern.l0 k l n l (l.length : Int) i) (patEnd l.length (patF rest n))) ?_ ?_ 0 (by omega) (by omega)
  · intro n hn hi
    refine ev_succ (ev_of_eq fun k => ?_)
    simp only [impl_IsPattern.l0, Int.lt_irrefl, ↓reduceIte, patF, patEnd, impl_InRange_f, Option.bind_some]
    by_cases h : n = 1
    · by_cases g : l.length ≤ 20
      · have g' : (1 : Int) ≤ (l.length : Int) ∧ (l.length : Int) ≤ 20 := by omega
        simp [h, g, g']
      · have g' : ¬ ((1 : Int) ≤ (l.length : Int) ∧ (l.length : Int) ≤ 20) := by omega
        simp [h, g, g']
    · by_cases g : (1 : Int) ≤ (l.length : Int) ∧ (l.length : Int) ≤ 20
      · simp [h, g]
      · simp [h, g]
  · intro i x rest h0 h1 hx _ hw ih n hn hi
    refine ev_succ ?_
    have w1 : wrap64 (n + 1) = n + 1 := w64 (by omega) (by omega)
    simp only [impl_IsPattern.l0, h1, h0, ↓reduceIte, hx, hw, impl_isTest_f, Option.bind_some, patF, w1]
    by_cases g1 : leafM x = true
    · simp only [g1, ↓reduceIte]
      exact ih _ (by omega) (by omega)
    · simp only [g1, Bool.false_eq_true, ↓reduceIte]
      by_cases g2 : x = -1
      · have e2 : ¬ x = -2 := by omega
        have e3 : ¬ x = -3 := by omega
        by_cases g3 : 1 ≤ n
        · have g3' : decide (n ≥ 1) = true := by simp; omega
          simp only [g2, g3, g3', ↓reduceIte, and_self]
          refine ev_succ ?_
          simp only [impl_IsPattern.j1, ↓reduceIte, hw]
          exact ih _ (by omega) (by omega)
        · have g3' : decide (n ≥ 1) = false := by simp; omega
          refine ev_succ (ev_of_eq fun k => ?_)
          simp only [impl_IsPattern.j1, g2, g3', g3, h1, h0, hx, ↓reduceIte, Bool.false_eq_true]
          simp [patEnd, e2, e3, g2, g3]
      · simp only [g2, ↓reduceIte, false_and]
        refine ev_succ ?_
        simp only [impl_IsPattern.j1, h1, h0, hx, hw, ↓reduceIte, Bool.false_eq_true, ge_iff_le]
        have w2 : 2 ≤ n → wrap64 (n - 1) = n - 1 := fun _ => w64 (by omega) (by omega)
        by_cases g4 : x = -2
        · by_cases g5 : 2 ≤ n
          · simp only [g4, g5, w2 g5, ↓reduceIte, true_or, and_self]
            exact ih _ (by omega) (by omega)
          · refine ev_of_eq fun k => ?_
            simp [g4, g5, patEnd]
        · by_cases g6 : x = -3
          · by_cases g5 : 2 ≤ n
            · simp only [g4, g6, g5, w2 g5, ↓reduceIte, or_true, and_self]
              exact ih _ (by omega) (by omega)
            · refine ev_of_eq fun k => ?_
              simp [g6, g5, patEnd]
          · refine ev_of_eq fun k => ?_
            simp [g4, g6, patEnd]

/-! impl_isMaybe -/
theorem impl_isMaybe_ev (l : List Int) (hl : l.length ≤ 1099511627776) : Ev (fun k => impl_isMaybe.f k l) (maybeM l) := by
  simp only [impl_isMaybe.f, maybeM]
  by_cases h : l.length = 0
  · obtain rfl := List.eq_nil_of_length_eq_zero h
    exact ev_of_eq fun k => rfl
  · have h' : ¬ (l.length : Int) = 0 := by omega
    simp only [h', h, ↓reduceIte, decide_false, Bool.false_or]
    exact Ev.bind (impl_IsPattern_ev l hl) (Ev.now _)

/-! impl_IsRules -/
theorem impl_IsRules_ev (a0 a1 : Int) (a2 a3 : Bool) (l4 l5 : List Int) (a6 a7 : Int) (h4 : l4.length ≤ 1048576) (h5 : l5.length ≤ 1048576) :
    Ev (fun k => impl_IsRules.f k a0 a1 a2 a3 l4 l5 a6 a7) (isRulesM a0 a1 a2 a3 l4 l5 a6 a7) := by
  have tail : Ev (fun k => (impl_isMaybe.f k l4).bind fun t => (if t = true then ((impl_isMaybe.f k l5).bind fun t => (if t = true then ((impl_InRange.f a6 1 4).bind fun t => (if t = true then ((impl_InRange.f a7 1 400).bind fun t => (some t)) else (some false))) else (some false))) else (some false)))
      (maybeM l4 && (maybeM l5 && (decide (1 ≤ a6 ∧ a6 ≤ 4) && decide (1 ≤ a7 ∧ a7 ≤ 400)))) := by
    refine Ev.bind (impl_isMaybe_ev l4 (by omega)) ?_
    cases maybeM l4
    · exact Ev.now _
    · refine Ev.bind (impl_isMaybe_ev l5 (by omega)) ?_
      cases maybeM l5
      · exact Ev.now _
      · refine ev_of_eq fun k => ?_
        simp only [impl_InRange_f, Option.bind_some, ↓reduceIte]
        cases decide (1 ≤ a6 ∧ a6 ≤ 4) <;> simp
  simp only [impl_IsRules.f]
  simp only [impl_InRange_f, Option.bind_some] at tail ⊢
  unfold isRulesM
  cases decide (2 ≤ a0 ∧ a0 ≤ 6)
  · exact Ev.now _
  · cases decide (1 ≤ a1 ∧ a1 ≤ 8)
    · exact Ev.now _
    · cases a2
      · cases a3
        · exact Ev.now _
        · simpa using tail
      · simpa using tail

/-! impl_RulesWord -/
theorem impl_RulesWord_ev (a0 a1 : Int) (a2 a3 : Bool) (l4 l5 : List Int) (a6 a7 : Int) (h4 : l4.length ≤ 1048576) (h5 : l5.length ≤ 1048576) : Ev (fun k => impl_RulesWord.f k a0 a1 a2 a3 l4 l5 a6 a7) (rulesWordM a2 a3) := by
  simp only [impl_RulesWord.f]
  cases a2 <;> cases a3 <;> exact ev_succ (ev_of_eq fun k => by simp [impl_RulesWord.j0, rulesWordM])

/-! impl_FormatInt -/
/-- Up to three digits. -/
def dig3 (n : Nat) : List UInt8 := if n < 10 then [UInt8.ofNat (48 + n)] else if n < 100 then [UInt8.ofNat (48 + n / 10), UInt8.ofNat (48 + n % 10)] else [UInt8.ofNat (48 + n / 10 / 10), UInt8.ofNat (48 + n / 10 % 10), UInt8.ofNat (48 + n % 10)]
theorem itoa_dig3 (n : Nat) (h : n < 1000) : Go.Lib.itoa (n : Int) = dig3 n := by
  unfold Go.Lib.itoa dig3
  rw [if_neg (by omega), Int.toNat_natCast]
  by_cases h1 : n < 10
  · rw [Go.Lib.decDigits, dif_pos h1, if_pos h1]
  rw [if_neg h1, Go.Lib.decDigits, dif_neg h1]
  by_cases h2 : n < 100
  · rw [if_pos h2, Go.Lib.decDigits, dif_pos (by omega)]
    rfl
  rw [if_neg h2, Go.Lib.decDigits, dif_neg (by omega), Go.Lib.decDigits, dif_pos (by omega)]
  rfl
def numT (n : Int) : ByteArray := ⟨(Go.Lib.itoa n).toArray⟩
theorem numT_size (n : Int) (h0 : 0 ≤ n) (h : n < 1000) : (numT n).size ≤ 3 := by
  obtain ⟨m, rfl⟩ := Int.eq_ofNat_of_zero_le h0
  unfold numT
  rw [itoa_dig3 m (by omega)]
  unfold dig3
  split
  · exact Nat.le_of_ble_eq_true rfl
  split
  · exact Nat.le_of_ble_eq_true rfl
  · exact Nat.le_of_ble_eq_true rfl
theorem impl_FormatInt_f (n : Int) (h0 : 0 ≤ n) (h : n < 1000) : impl_FormatInt.f n = some (numT n) := by
  unfold impl_FormatInt.f numT
  rw [if_pos ⟨by omega, by omega⟩]

/-! impl_signText -/
/-- The text of a leaf sign. -/
def rankL : ByteArray := ⟨#[50, 51, 52, 53, 54, 55, 56, 57, 84, 74, 81, 75, 65]⟩
def signM (s : Int) : ByteArray := if s = 400 then ⟨#[114]⟩ else if s ≥ 300 then rankL.extract (s - 300).toNat (s - 300 + 1).toNat ++ ⟨#[43]⟩ else if s ≥ 200 then rankL.extract (s - 200).toNat (s - 200 + 1).toNat else (⟨#[99, 100, 104, 115]⟩ : ByteArray).extract (s - 100).toNat (s - 100 + 1).toNat
theorem extract_one (b : ByteArray) (i : Int) (h : 0 ≤ i) : (b.extract i.toNat (i + 1).toNat).size ≤ 1 := by
  rw [ByteArray.size_extract]
  omega
theorem signM_size (s : Int) (h : leafM s = true) : (signM s).size ≤ 2 := by
  unfold leafM at h
  simp only [Bool.or_eq_true, decide_eq_true_eq, beq_iff_eq] at h
  unfold signM
  by_cases h1 : s = 400
  · rw [if_pos h1]; decide
  rw [if_neg h1]
  by_cases h2 : s ≥ 300
  · rw [if_pos h2, ByteArray.size_append]
    have := extract_one rankL (s - 300) (by omega)
    have e : (⟨#[43]⟩ : ByteArray).size = 1 := rfl
    omega
  rw [if_neg h2]
  by_cases h3 : s ≥ 200
  · rw [if_pos h3]
    have := extract_one rankL (s - 200) (by omega)
    omega
  · rw [if_neg h3]
    have := extract_one ⟨#[99, 100, 104, 115]⟩ (s - 100) (by omega)
    omega
theorem impl_signText_f (s : Int) (h : leafM s = true) : impl_signText.f s = some (signM s) := by
  unfold leafM at h
  simp only [Bool.or_eq_true, decide_eq_true_eq, beq_iff_eq] at h
  unfold impl_signText.f signM
  by_cases h1 : s = 400
  · rw [if_pos h1, if_pos h1]
  rw [if_neg h1, if_neg h1]
  by_cases h2 : s ≥ 300
  · have a0 : wrap64 (s - 300) = s - 300 := w64 (by omega) (by omega)
    have a1 : wrap64 (s - 300 + 1) = s - 300 + 1 := w64 (by omega) (by omega)
    have a2 : 0 ≤ s - 300 := by omega
    have a3 : s - 300 ≤ s - 300 + 1 := by omega
    have a4 : s - 300 + 1 ≤ 13 := by omega
    have a5 := extract_one rankL (s - 300) a2
    have a6 : (rankL.extract (s - 300).toNat (s - 300 + 1).toNat).size + 1 ≤ 9223372036854775807 := by omega
    unfold rankL at a6 ⊢
    simp only [h2, a0, a1, a2, a3, a4, a6, ↓reduceIte]
  rw [if_neg h2, if_neg h2]
  by_cases h3 : s ≥ 200
  · have a0 : wrap64 (s - 200) = s - 200 := w64 (by omega) (by omega)
    have a1 : wrap64 (s - 200 + 1) = s - 200 + 1 := w64 (by omega) (by omega)
    have a2 : 0 ≤ s - 200 := by omega
    have a3 : s - 200 ≤ s - 200 + 1 := by omega
    have a4 : s - 200 + 1 ≤ 13 := by omega
    unfold rankL
    simp only [h3, a0, a1, a2, a3, a4, ↓reduceIte]
  · have a0 : wrap64 (s - 100) = s - 100 := w64 (by omega) (by omega)
    have a1 : wrap64 (s - 100 + 1) = s - 100 + 1 := w64 (by omega) (by omega)
    have a2 : 0 ≤ s - 100 := by omega
    have a3 : s - 100 ≤ s - 100 + 1 := by omega
    have a4 : s - 100 + 1 ≤ 4 := by omega
    simp only [h3, a0, a1, a2, a3, a4, ↓reduceIte]

/-! impl_PatternText -/
/-- A pattern's text, sign by sign over a pile. -/
def textF : List Int → List ByteArray → ByteArray
  | [], x => rdOf ByteArray.empty x 0
  | s :: r, x =>
    if s = -1 then textF r (x.set ((x.length : Int) - 1).toNat ((⟨#[33]⟩ : ByteArray) ++ rdOf ByteArray.empty x ((x.length : Int) - 1)))
    else if s = -2 then textF r (x.take ((x.length : Int) - 2).toNat ++ [((((⟨#[40]⟩ : ByteArray) ++ rdOf ByteArray.empty x ((x.length : Int) - 2)) ++ (⟨#[38]⟩ : ByteArray)) ++ rdOf ByteArray.empty x ((x.length : Int) - 1)) ++ (⟨#[41]⟩ : ByteArray)])
    else if s = -3 then textF r (x.take ((x.length : Int) - 2).toNat ++ [((((⟨#[40]⟩ : ByteArray) ++ rdOf ByteArray.empty x ((x.length : Int) - 2)) ++ (⟨#[124]⟩ : ByteArray)) ++ rdOf ByteArray.empty x ((x.length : Int) - 1)) ++ (⟨#[41]⟩ : ByteArray)])
    else textF r (x ++ [signM s])
/-- How long a text on the pile can grow. -/
def growF : List Int → Nat → Nat
  | [], B => B
  | _ :: r, B => growF r (2 * B + 3)
theorem growF_le : ∀ (r : List Int) (B : Nat), B ≤ growF r B
  | [], B => Nat.le_refl _
  | _ :: r, B => Nat.le_trans (by omega) (growF_le r (2 * B + 3))
theorem growF_pow : ∀ (r : List Int) (B : Nat), growF r B + 3 = (B + 3) * 2 ^ r.length
  | [], B => by simp [growF]
  | _ :: r, B => by
    rw [growF, growF_pow r (2 * B + 3), List.length_cons, Nat.pow_succ, Nat.mul_comm (2 ^ r.length) 2, ← Nat.mul_assoc]
    congr 1
    omega
theorem textF_size : ∀ (r : List Int) (x : List ByteArray) (B : Nat), patF r (x.length : Int) = some 1 → (∀ y ∈ x, y.size ≤ B) → (textF r x).size ≤ growF r B
  | [], x, B, he, hx => by
    have h1 : 0 < (x.length : Int) := by simp only [patF, Option.some.injEq] at he; omega
    exact hx _ (rdOf_mem _ x 0 (by omega) h1)
  | s :: r, x, B, he, hx => by
    have e1 : ∀ b : UInt8, (⟨#[b]⟩ : ByteArray).size = 1 := fun _ => rfl
    have le : patF (s :: r) (x.length : Int) = some 1 := he
    rcases patF_step he with ⟨n1, n2, n3, e4⟩ | ⟨n1, n2, e4⟩ | ⟨n1, n2, e4⟩
    · simp only [textF, n1, n2, n3, ↓reduceIte]
      have hl : leafM s = true := by
        unfold patF at le
        by_cases h : leafM s = true
        · exact h
        · rw [if_neg h] at le
          simp only [n1, n2, n3, ↓reduceIte, or_self, beq_iff_eq] at le
          exact absurd le (by simp)
      refine textF_size r (x ++ [signM s]) (2 * B + 3) (by simpa using e4) fun y hy => ?_
      rcases List.mem_append.1 hy with h | h
      · have := hx y h; omega
      · have := signM_size s hl
        rw [List.mem_singleton.1 h]
        omega
    · simp only [textF, n1, ↓reduceIte]
      refine textF_size r _ (2 * B + 3) (by rw [List.length_set]; exact e4) fun y hy => ?_
      rcases List.mem_or_eq_of_mem_set hy with h | h
      · have := hx y h; omega
      · have := hx _ (rdOf_mem ByteArray.empty x ((x.length : Int) - 1) (by omega) (by omega))
        rw [h, ByteArray.size_append, e1]
        omega
    · have tl : (x.take ((x.length : Int) - 2).toNat).length = ((x.length : Int) - 2).toNat := by rw [List.length_take]; omega
      have m2 := hx _ (rdOf_mem ByteArray.empty x ((x.length : Int) - 2) (by omega) (by omega))
      have m1 := hx _ (rdOf_mem ByteArray.empty x ((x.length : Int) - 1) (by omega) (by omega))
      have go : ∀ b : UInt8, (textF r (x.take ((x.length : Int) - 2).toNat ++ [((((⟨#[40]⟩ : ByteArray) ++ rdOf ByteArray.empty x ((x.length : Int) - 2)) ++ (⟨#[b]⟩ : ByteArray)) ++ rdOf ByteArray.empty x ((x.length : Int) - 1)) ++ (⟨#[41]⟩ : ByteArray)])).size ≤ growF r (2 * B + 3) := fun b => by
        refine textF_size r _ (2 * B + 3) (by rw [List.length_append, tl]; simp only [List.length_singleton]; rw [show ((((x.length : Int) - 2).toNat + 1 : Nat) : Int) = (x.length : Int) - 1 by omega]; exact e4) fun y hy => ?_
        rcases List.mem_append.1 hy with h | h
        · have := hx y (List.mem_of_mem_take h); omega
        · rw [List.mem_singleton.1 h]
          simp only [ByteArray.size_append, e1]
          omega
      rcases n1 with n1 | n1
      · simp only [textF, n1, show ¬ (-2 : Int) = -1 by omega, ↓reduceIte]
        exact go 38
      · simp only [textF, n1, show ¬ (-3 : Int) = -1 by omega, show ¬ (-3 : Int) = -2 by omega, ↓reduceIte]
        exact go 124
def patText (p : List Int) : ByteArray := if isPatM p = true then textF p [] else ⟨#[]⟩
theorem patText_size (p : List Int) : (patText p).size ≤ 3145728 := by
  unfold patText
  by_cases hp : isPatM p = true
  · rw [if_pos hp]
    obtain ⟨h1, h2⟩ := isPatM_run hp
    have := textF_size p [] 0 h1 (fun y hy => by simp at hy)
    have g := growF_pow p 0
    have : 2 ^ p.length ≤ 2 ^ 20 := Nat.pow_le_pow_right (by omega) h2
    omega
  · rw [if_neg hp]
    exact Nat.zero_le _
theorem impl_PatternText_l0 (p : List Int) (hl : p.length ≤ 20) (hp : patF p 0 = some 1) : Ev (fun k => impl_PatternText.l0 k [] p (p.length : Int) 0) (textF p []) := by
  have e1 : ∀ b : UInt8, (⟨#[b]⟩ : ByteArray).size = 1 := fun _ => rfl
  suffices H : ∀ (x : List ByteArray) (B : Nat), (x.length : Int) ≤ 0 → patF p (x.length : Int) = some 1 → (∀ y ∈ x, y.size ≤ B) → growF p B ≤ 4611686018427387000 → Ev (fun k => impl_PatternText.l0 k x p (p.length : Int) 0) (textF p x) from H [] 0 (by simp) hp (fun y hy => by simp at hy) (by
    have g := growF_pow p 0
    have : 2 ^ p.length ≤ 2 ^ 20 := Nat.pow_le_pow_right (by omega) hl
    omega)
  refine loop_int p (by omega) (P := fun i rest => ∀ (x : List ByteArray) (B : Nat), (x.length : Int) ≤ i → patF rest (x.length : Int) = some 1 → (∀ y ∈ x, y.size ≤ B) → growF rest B ≤ 4611686018427387000 → Ev (fun k => impl_PatternText.l0 k x p (p.length : Int) i) (textF rest x)) ?_ ?_
  · intro x B hx he _ _
    have h1 : 0 < (x.length : Int) := by simp only [patF, Option.some.injEq] at he; omega
    refine ev_succ (ev_of_eq fun k => ?_)
    simp only [impl_PatternText.l0, Int.lt_irrefl, h1, Int.le_refl, ↓reduceIte, textF]
  · intro i s rest h0 h1 hs hm hw ih x B hx he hB hg
    refine ev_succ ?_
    have gB : 2 * B + 3 ≤ 4611686018427387000 := Nat.le_trans (growF_le rest (2 * B + 3)) hg
    have b : x.length < 8796093022208 := by omega
    have w1 : wrap64 ((x.length : Int) - 1) = (x.length : Int) - 1 := w64 (by omega) (by omega)
    have w2 : wrap64 ((x.length : Int) - 2) = (x.length : Int) - 2 := w64 (by omega) (by omega)
    have le := he
    rcases patF_step he with ⟨n1, n2, n3, e4⟩ | ⟨n1, n2, e4⟩ | ⟨n1, n2, e4⟩
    · have hlf : leafM s = true := by
        unfold patF at le
        by_cases h : leafM s = true
        · exact h
        · rw [if_neg h] at le
          simp only [n1, n2, n3, ↓reduceIte, or_self, beq_iff_eq] at le
          exact absurd le (by simp)
      simp only [impl_PatternText.l0, h1, h0, hs, n1, n2, n3, b, hw, ↓reduceIte, impl_signText_f s hlf, Option.bind_some, textF]
      refine ih (x ++ [signM s]) (2 * B + 3) (by simp; omega) (by simpa using e4) (fun y hy => ?_) hg
      rcases List.mem_append.1 hy with h | h
      · have := hB y h; omega
      · have := signM_size s hlf
        rw [List.mem_singleton.1 h]
        omega
    · have g1 : 0 ≤ (x.length : Int) - 1 := by omega
      have g2 : (x.length : Int) - 1 < (x.length : Int) := by omega
      have m1 := hB _ (rdOf_mem ByteArray.empty x ((x.length : Int) - 1) g1 g2)
      have q1 : 1 + (rdOf ByteArray.empty x ((x.length : Int) - 1)).size ≤ 9223372036854775807 := by omega
      simp only [impl_PatternText.l0, h1, h0, hs, n1, w1, g1, g2, q1, hw, ↓reduceIte, textF]
      refine ih _ (2 * B + 3) (by rw [List.length_set]; omega) (by rw [List.length_set]; exact e4) (fun y hy => ?_) hg
      rcases List.mem_or_eq_of_mem_set hy with h | h
      · have := hB y h; omega
      · rw [h, ByteArray.size_append, e1]
        omega
    · have g1 : 0 ≤ (x.length : Int) - 2 := by omega
      have g2 : (x.length : Int) - 2 < (x.length : Int) := by omega
      have g3 : (x.length : Int) - 2 ≤ (x.length : Int) := by omega
      have g4 : 0 ≤ (x.length : Int) - 1 := by omega
      have g5 : (x.length : Int) - 1 < (x.length : Int) := by omega
      have tl : (x.take ((x.length : Int) - 2).toNat).length = ((x.length : Int) - 2).toNat := by rw [List.length_take]; omega
      have g6 : (x.take ((x.length : Int) - 2).toNat).length < 8796093022208 := by omega
      have m2 := hB _ (rdOf_mem ByteArray.empty x ((x.length : Int) - 2) g1 g2)
      have m1 := hB _ (rdOf_mem ByteArray.empty x ((x.length : Int) - 1) g4 g5)
      have q1 : 1 + (rdOf ByteArray.empty x ((x.length : Int) - 2)).size ≤ 9223372036854775807 := by omega
      have q2 : ((⟨#[40]⟩ : ByteArray) ++ rdOf ByteArray.empty x ((x.length : Int) - 2)).size + 1 ≤ 9223372036854775807 := by simp only [ByteArray.size_append, e1]; omega
      have q3 : ∀ c : UInt8, (((⟨#[40]⟩ : ByteArray) ++ rdOf ByteArray.empty x ((x.length : Int) - 2)) ++ (⟨#[c]⟩ : ByteArray)).size + (rdOf ByteArray.empty x ((x.length : Int) - 1)).size ≤ 9223372036854775807 := fun c => by simp only [ByteArray.size_append, e1]; omega
      have q4 : ∀ c : UInt8, ((((⟨#[40]⟩ : ByteArray) ++ rdOf ByteArray.empty x ((x.length : Int) - 2)) ++ (⟨#[c]⟩ : ByteArray)) ++ rdOf ByteArray.empty x ((x.length : Int) - 1)).size + 1 ≤ 9223372036854775807 := fun c => by simp only [ByteArray.size_append, e1]; omega
      have nx : ∀ c : UInt8, Ev (fun k => impl_PatternText.l0 k (x.take ((x.length : Int) - 2).toNat ++ [((((⟨#[40]⟩ : ByteArray) ++ rdOf ByteArray.empty x ((x.length : Int) - 2)) ++ (⟨#[c]⟩ : ByteArray)) ++ rdOf ByteArray.empty x ((x.length : Int) - 1)) ++ (⟨#[41]⟩ : ByteArray)]) p (p.length : Int) (i + 1)) (textF rest (x.take ((x.length : Int) - 2).toNat ++ [((((⟨#[40]⟩ : ByteArray) ++ rdOf ByteArray.empty x ((x.length : Int) - 2)) ++ (⟨#[c]⟩ : ByteArray)) ++ rdOf ByteArray.empty x ((x.length : Int) - 1)) ++ (⟨#[41]⟩ : ByteArray)])) := by
        intro c
        have ln : ((x.take ((x.length : Int) - 2).toNat ++ [((((⟨#[40]⟩ : ByteArray) ++ rdOf ByteArray.empty x ((x.length : Int) - 2)) ++ (⟨#[c]⟩ : ByteArray)) ++ rdOf ByteArray.empty x ((x.length : Int) - 1)) ++ (⟨#[41]⟩ : ByteArray)]).length : Int) = (x.length : Int) - 1 := by rw [List.length_append, tl]; simp; omega
        refine ih _ (2 * B + 3) (by omega) (by rw [ln]; exact e4) (fun y hy => ?_) hg
        rcases List.mem_append.1 hy with h | h
        · have := hB y (List.mem_of_mem_take h); omega
        · rw [List.mem_singleton.1 h]
          simp only [ByteArray.size_append, e1]
          omega
      rcases n1 with n1 | n1
      · have z : ¬ (-2 : Int) = -1 := by omega
        simp only [impl_PatternText.l0, h1, h0, hs, n1, z, w1, w2, g1, g2, g3, g4, g5, g6, q1, q2, q3, q4, hw, Option.bind_some, ↓reduceIte, textF]
        exact nx 38
      · have z : ¬ (-3 : Int) = -1 := by omega
        have z2 : ¬ (-3 : Int) = -2 := by omega
        simp only [impl_PatternText.l0, h1, h0, hs, n1, z, z2, w1, w2, g1, g2, g3, g4, g5, g6, q1, q2, q3, q4, hw, Option.bind_some, ↓reduceIte, textF]
        exact nx 124
theorem impl_PatternText_ev (p : List Int) (hl : p.length ≤ 1099511627776) : Ev (fun k => impl_PatternText.f k p) (patText p) := by
  simp only [impl_PatternText.f]
  refine Ev.bind (impl_IsPattern_ev p hl) ?_
  unfold patText
  cases hp : isPatM p
  · exact ev_of_eq fun k => by simp only [Bool.false_eq_true, ↓reduceIte]
  · simp only [↓reduceIte]
    obtain ⟨h1, h2⟩ := isPatM_run hp
    exact impl_PatternText_l0 p h2 h1

/-! impl_maybeText -/
/-- A pattern that need not be there, as text. -/
def maybeT (p : List Int) : ByteArray := if p.length = 0 then ⟨#[45]⟩ else patText p
theorem maybeT_size (p : List Int) : (maybeT p).size ≤ 3145728 := by
  unfold maybeT
  by_cases h : p.length = 0
  · rw [if_pos h]; decide
  · rw [if_neg h]; exact patText_size p
theorem impl_maybeText_ev (p : List Int) (hl : p.length ≤ 1099511627776) : Ev (fun k => impl_maybeText.f k p) (maybeT p) := by
  simp only [impl_maybeText.f, maybeT]
  by_cases h : p.length = 0
  · have h' : (p.length : Int) = 0 := by omega
    exact ev_of_eq fun k => by rw [if_pos h', if_pos h]
  · have h' : ¬ (p.length : Int) = 0 := by omega
    simp only [h, h', ↓reduceIte]
    exact Ev.bind (impl_PatternText_ev p hl) (Ev.now _)

/-! impl_RulesText -/
/-- Rules as text. -/
def rulesT (a0 a1 : Int) (a2 a3 : Bool) (l4 l5 : List Int) (a6 a7 : Int) : ByteArray :=
  if isRulesM a0 a1 a2 a3 l4 l5 a6 a7 = true then
    ((((((((((((⟨#[112, 108, 97, 121, 101, 114, 115, 61]⟩ : ByteArray) ++ numT a0) ++ (⟨#[32, 101, 97, 99, 104, 61]⟩ : ByteArray)) ++ numT a1) ++ (⟨#[32, 109, 97, 116, 99, 104, 61]⟩ : ByteArray)) ++ rulesWordM a2 a3) ++ (⟨#[32, 119, 105, 108, 100, 61]⟩ : ByteArray)) ++ maybeT l4) ++ (⟨#[32, 115, 107, 105, 112, 61]⟩ : ByteArray)) ++ maybeT l5) ++ (⟨#[32, 116, 97, 107, 101, 61]⟩ : ByteArray)) ++ numT a6) ++ (⟨#[32, 108, 105, 109, 105, 116, 61]⟩ : ByteArray) ++ numT a7
  else ⟨#[]⟩
theorem isRulesM_nums {a0 a1 : Int} {a2 a3 : Bool} {l4 l5 : List Int} {a6 a7 : Int} (h : isRulesM a0 a1 a2 a3 l4 l5 a6 a7 = true) : (2 ≤ a0 ∧ a0 ≤ 6) ∧ (1 ≤ a1 ∧ a1 ≤ 8) ∧ (1 ≤ a6 ∧ a6 ≤ 4) ∧ (1 ≤ a7 ∧ a7 ≤ 400) := by
  unfold isRulesM at h
  simp only [Bool.and_eq_true, decide_eq_true_eq] at h
  exact ⟨h.1, h.2.1, h.2.2.2.2.2.1, h.2.2.2.2.2.2⟩
theorem rulesWordM_size (a b : Bool) : (rulesWordM a b).size ≤ 4 := by cases a <;> cases b <;> decide
theorem join7 (x0 x1 x2 x3 x4 x5 x6 : ByteArray) : (⟨(Go.Lib.join ([x0, x1, x2, x3, x4, x5, x6].map (·.data.toList)) (⟨#[32]⟩ : ByteArray).data.toList).toArray⟩ : ByteArray) =
    (((((((((((x0 ++ (⟨#[32]⟩ : ByteArray)) ++ x1) ++ (⟨#[32]⟩ : ByteArray)) ++ x2) ++ (⟨#[32]⟩ : ByteArray)) ++ x3) ++ (⟨#[32]⟩ : ByteArray)) ++ x4) ++ (⟨#[32]⟩ : ByteArray)) ++ x5) ++ (⟨#[32]⟩ : ByteArray)) ++ x6 := by
  refine data_inj ?_
  simp [Go.Lib.join, List.intercalate, List.intersperse]
theorem join_size (xs : List ByteArray) (s : ByteArray) : (Go.Lib.join (xs.map (·.data.toList)) s.data.toList).length = (⟨(Go.Lib.join (xs.map (·.data.toList)) s.data.toList).toArray⟩ : ByteArray).size := by
  show _ = (List.toArray _).size
  simp
theorem cat_assoc (a b c : ByteArray) : a ++ (b ++ c) = (a ++ b) ++ c := (ByteArray.append_assoc).symm
theorem impl_RulesText_ev (a0 a1 : Int) (a2 a3 : Bool) (l4 l5 : List Int) (a6 a7 : Int) (h4 : l4.length ≤ 1048576) (h5 : l5.length ≤ 1048576) :
    Ev (fun k => impl_RulesText.f k a0 a1 a2 a3 l4 l5 a6 a7) (rulesT a0 a1 a2 a3 l4 l5 a6 a7) := by
  simp only [impl_RulesText.f]
  refine Ev.bind (impl_IsRules_ev a0 a1 a2 a3 l4 l5 a6 a7 h4 h5) ?_
  unfold rulesT
  cases hr : isRulesM a0 a1 a2 a3 l4 l5 a6 a7
  · exact ev_of_eq fun k => by simp only [Bool.false_eq_true, ↓reduceIte]
  · obtain ⟨n0, n1, n6, n7⟩ := isRulesM_nums hr
    have z0 := numT_size a0 (by omega) (by omega)
    have z1 := numT_size a1 (by omega) (by omega)
    have z6 := numT_size a6 (by omega) (by omega)
    have z7 := numT_size a7 (by omega) (by omega)
    have zw := rulesWordM_size a2 a3
    have z4 := maybeT_size l4
    have z5 := maybeT_size l5
    have c0 : 8 + (numT a0).size ≤ 9223372036854775807 := by omega
    have c1 : 5 + (numT a1).size ≤ 9223372036854775807 := by omega
    have cw : 6 + (rulesWordM a2 a3).size ≤ 9223372036854775807 := by omega
    have c4 : 5 + (maybeT l4).size ≤ 9223372036854775807 := by omega
    have c5 : 5 + (maybeT l5).size ≤ 9223372036854775807 := by omega
    have c6 : 5 + (numT a6).size ≤ 9223372036854775807 := by omega
    have c7 : 6 + (numT a7).size ≤ 9223372036854775807 := by omega
    simp only [↓reduceIte, impl_FormatInt_f a0 (by omega) (by omega), impl_FormatInt_f a1 (by omega) (by omega), impl_FormatInt_f a6 (by omega) (by omega), impl_FormatInt_f a7 (by omega) (by omega), Option.bind_some, c0, c1, c6, c7]
    refine Ev.bind (impl_RulesWord_ev a0 a1 a2 a3 l4 l5 a6 a7 h4 h5) ?_
    simp only [cw, ↓reduceIte]
    refine Ev.bind (impl_maybeText_ev l4 (by omega)) ?_
    simp only [c4, ↓reduceIte]
    refine Ev.bind (impl_maybeText_ev l5 (by omega)) ?_
    simp only [c5, ↓reduceIte]
    generalize numT a0 = x0 at z0
    generalize numT a1 = x1 at z1
    generalize numT a6 = x6 at z6
    generalize numT a7 = x7 at z7
    generalize rulesWordM a2 a3 = xw at zw
    generalize maybeT l4 = x4 at z4
    generalize maybeT l5 = x5 at z5
    refine ev_of_eq fun k => ?_
    unfold strings_Join.f
    rw [if_pos]
    · rw [Option.bind_some, join7]
      congr 1
      simp only [cat_assoc]
      refine data_inj ?_
      simp
    · refine ⟨by simp only [List.length_cons, List.length_nil]; omega, ?_⟩
      rw [join_size, join7]
      have e8 : (⟨#[112, 108, 97, 121, 101, 114, 115, 61]⟩ : ByteArray).size = 8 := rfl
      have ee : (⟨#[101, 97, 99, 104, 61]⟩ : ByteArray).size = 5 := rfl
      have em : (⟨#[109, 97, 116, 99, 104, 61]⟩ : ByteArray).size = 6 := rfl
      have ew : (⟨#[119, 105, 108, 100, 61]⟩ : ByteArray).size = 5 := rfl
      have es : (⟨#[115, 107, 105, 112, 61]⟩ : ByteArray).size = 5 := rfl
      have et : (⟨#[116, 97, 107, 101, 61]⟩ : ByteArray).size = 5 := rfl
      have el : (⟨#[108, 105, 109, 105, 116, 61]⟩ : ByteArray).size = 6 := rfl
      have e1 : (⟨#[32]⟩ : ByteArray).size = 1 := rfl
      simp only [ByteArray.size_append, e8, ee, em, ew, es, et, el, e1]
      omega

/-! laws_eqIntS -/
theorem laws_eqIntS_ev (l : List Int) (hl : l.length ≤ 1099511627776) : Ev (fun k => laws_eqIntS.f k l l) true := by
  simp only [laws_eqIntS.f, ↓reduceIte]
  refine loop_int l hl (P := fun i _ => Ev (fun k => laws_eqIntS.l0 k l l i) true) ?_ ?_
  · refine ev_succ (ev_of_eq fun k => ?_)
    simp only [laws_eqIntS.l0, Int.lt_irrefl, ↓reduceIte]
  · intro i x rest h0 h1 hx _ hw ih
    refine ev_succ ?_
    simp only [laws_eqIntS.l0, h1, h0, ↓reduceIte, hw]
    exact ih

/-! laws_eqRules -/
theorem laws_eqRules_ev (a0 a1 : Int) (a2 a3 : Bool) (l4 l5 : List Int) (a6 a7 : Int) (h4 : l4.length ≤ 1048576) (h5 : l5.length ≤ 1048576) :
    Ev (fun k => laws_eqRules.f k a0 a1 a2 a3 l4 l5 a6 a7 a0 a1 a2 a3 l4 l5 a6 a7) true := by
  simp only [laws_eqRules.f, bne_self_eq_false, Bool.false_eq_true, ↓reduceIte]
  refine Ev.bind (laws_eqIntS_ev l4 (by omega)) ?_
  simp only [↓reduceIte]
  refine Ev.bind (laws_eqIntS_ev l5 (by omega)) ?_
  exact ev_of_eq fun k => by simp only [↓reduceIte]

/-! laws_szIntS -/
theorem laws_szIntS_f (l : List Int) (a : Int) (hl : l.length ≤ maxLen) (ha : 0 ≤ a) (ha2 : a ≤ 1048576) : ∃ v, laws_szIntS.f l a = some v ∧ (v < 0 ∨ (0 ≤ v ∧ v ≤ a ∧ l.length ≤ 1048576)) := by
  unfold maxLen at hl
  unfold laws_szIntS.f
  rw [w64 (by omega) (by omega)]
  by_cases h : (l.length : Int) ≤ a
  · exact ⟨_, if_neg (by omega), .inr (by omega)⟩
  · exact ⟨_, if_pos (by omega), .inl (by omega)⟩

/-! laws_szRules -/
theorem laws_szRules_f (a0 a1 : Int) (a2 a3 : Bool) (l4 l5 : List Int) (a6 a7 a : Int) (h4 : l4.length ≤ maxLen) (h5 : l5.length ≤ maxLen) (ha : 0 ≤ a) (ha2 : a ≤ 1048576) :
    ∃ v, laws_szRules.f a0 a1 a2 a3 l4 l5 a6 a7 a = some v ∧ (v < 0 ∨ (0 ≤ v ∧ v ≤ a ∧ l4.length ≤ 1048576 ∧ l5.length ≤ 1048576)) := by
  unfold laws_szRules.f
  obtain ⟨v, e, h⟩ := laws_szIntS_f l4 a h4 ha ha2
  simp only [e, Option.bind_some]
  rcases h with h | ⟨g0, g1, g2⟩
  · exact ⟨_, if_pos h, .inl (by omega)⟩
  · have n1 : ¬ v < 0 := by omega
    simp only [n1, ↓reduceIte]
    obtain ⟨v', e', h'⟩ := laws_szIntS_f l5 v h5 g0 (by omega)
    simp only [e', Option.bind_some]
    rcases h' with h' | ⟨g0', g1', g2'⟩
    · exact ⟨_, if_pos h', .inl (by omega)⟩
    · exact ⟨_, if_neg (by omega), .inr (by omega)⟩

/-! spec_l1In -/
theorem spec_l1In_f (a b c : Int) : spec_l1In.f a b c = some (decide (b ≤ a ∧ a ≤ c)) := by
  unfold spec_l1In.f
  by_cases h : b ≤ a <;> simp [h]

/-! spec_l8Leaf -/
theorem spec_l8Leaf_f (s : Int) : spec_l8Leaf.f s = some (leafM s) := by
  simp only [spec_l8Leaf.f, spec_l1In_f, Option.bind_some, leafM]
  by_cases h1 : 100 ≤ s ∧ s ≤ 103
  · simp [h1]
  by_cases h2 : 200 ≤ s ∧ s ≤ 212
  · simp [h1, h2]
  by_cases h3 : 300 ≤ s ∧ s ≤ 312
  · simp [h1, h2, h3]
  simp [h1, h2, h3]

/-! spec_IsPattern -/
theorem spec_IsPattern_ev (l : List Int) (hl : l.length ≤ 1099511627776) : Ev (fun k => spec_IsPattern.f k l) (isPatM l) := by
  simp only [spec_IsPattern.f, isPatM]
  refine loop_int l hl (P := fun i rest => ∀ n, 0 ≤ n → n ≤ i → Ev (fun k => spec_IsPattern.l0 k l n i) (patEnd l.length (patF rest n))) ?_ ?_ 0 (by omega) (by omega)
  · intro n hn hi
    refine ev_succ (ev_of_eq fun k => ?_)
    simp only [spec_IsPattern.l0, Int.lt_irrefl, ↓reduceIte, patF, patEnd]
    by_cases h : n = 1
    · simp only [h, ↓reduceIte, decide_true, Bool.true_and]
      congr 1
      rw [Bool.eq_iff_iff]
      simp
      omega
    · simp [h]
  · intro i x rest h0 h1 hx _ hw ih n hn hi
    refine ev_succ ?_
    have w1 : wrap64 (n + 1) = n + 1 := w64 (by omega) (by omega)
    simp only [spec_IsPattern.l0, h1, h0, ↓reduceIte, hx, hw, spec_l8Leaf_f, Option.bind_some, patF, w1]
    by_cases g1 : leafM x = true
    · simp only [g1, ↓reduceIte]
      exact ih _ (by omega) (by omega)
    · simp only [g1, Bool.false_eq_true, ↓reduceIte]
      by_cases g2 : x = -1
      · have e2 : ¬ x = -2 := by omega
        have e3 : ¬ x = -3 := by omega
        by_cases g3 : 1 ≤ n
        · have g3' : decide (n ≥ 1) = true := by simp; omega
          simp only [g2, g3, g3', ↓reduceIte, and_self]
          refine ev_succ ?_
          simp only [spec_IsPattern.j1, ↓reduceIte, hw]
          exact ih _ (by omega) (by omega)
        · have g3' : decide (n ≥ 1) = false := by simp; omega
          refine ev_succ (ev_of_eq fun k => ?_)
          simp only [spec_IsPattern.j1, g2, g3', g3, h1, h0, hx, ↓reduceIte, Bool.false_eq_true]
          simp [patEnd, e2, e3, g2, g3]
      · simp only [g2, ↓reduceIte, false_and]
        refine ev_succ ?_
        simp only [spec_IsPattern.j1, h1, h0, hx, hw, ↓reduceIte, Bool.false_eq_true, ge_iff_le]
        have w2 : 2 ≤ n → wrap64 (n - 1) = n - 1 := fun _ => w64 (by omega) (by omega)
        by_cases g4 : x = -2
        · by_cases g5 : 2 ≤ n
          · simp only [g4, g5, w2 g5, ↓reduceIte, true_or, and_self]
            exact ih _ (by omega) (by omega)
          · refine ev_of_eq fun k => ?_
            simp [g4, g5, patEnd]
        · by_cases g6 : x = -3
          · by_cases g5 : 2 ≤ n
            · simp only [g4, g6, g5, w2 g5, ↓reduceIte, or_true, and_self]
              exact ih _ (by omega) (by omega)
            · refine ev_of_eq fun k => ?_
              simp [g6, g5, patEnd]
          · refine ev_of_eq fun k => ?_
            simp [g4, g6, patEnd]

/-! spec_l22Pattern -/
theorem spec_l22Pattern_ev (l : List Int) (hl : l.length ≤ 1099511627776) : Ev (fun k => spec_l22Pattern.f k l) (maybeM l) := by
  simp only [spec_l22Pattern.f, maybeM]
  by_cases h : l.length = 0
  · obtain rfl := List.eq_nil_of_length_eq_zero h
    exact ev_of_eq fun k => rfl
  · have h' : ¬ (l.length : Int) = 0 := by omega
    simp only [h', h, ↓reduceIte, decide_false, Bool.false_or]
    exact Ev.bind (spec_IsPattern_ev l hl) (Ev.now _)

/-! spec_IsRules -/
theorem spec_IsRules_ev (a0 a1 : Int) (a2 a3 : Bool) (l4 l5 : List Int) (a6 a7 : Int) (h4 : l4.length ≤ 1048576) (h5 : l5.length ≤ 1048576) :
    Ev (fun k => spec_IsRules.f k a0 a1 a2 a3 l4 l5 a6 a7) (isRulesM a0 a1 a2 a3 l4 l5 a6 a7) := by
  have tail : Ev (fun k => (spec_l22Pattern.f k l4).bind fun t => (if t = true then ((spec_l22Pattern.f k l5).bind fun t => (if t = true then ((spec_l1In.f a6 1 4).bind fun t => (if t = true then ((spec_l1In.f a7 1 400).bind fun t => (some t)) else (some false))) else (some false))) else (some false)))
      (maybeM l4 && (maybeM l5 && (decide (1 ≤ a6 ∧ a6 ≤ 4) && decide (1 ≤ a7 ∧ a7 ≤ 400)))) := by
    refine Ev.bind (spec_l22Pattern_ev l4 (by omega)) ?_
    cases maybeM l4
    · exact Ev.now _
    · refine Ev.bind (spec_l22Pattern_ev l5 (by omega)) ?_
      cases maybeM l5
      · exact Ev.now _
      · refine ev_of_eq fun k => ?_
        simp only [spec_l1In_f, Option.bind_some, ↓reduceIte]
        cases decide (1 ≤ a6 ∧ a6 ≤ 4) <;> simp
  simp only [spec_IsRules.f]
  simp only [spec_l1In_f, Option.bind_some] at tail ⊢
  unfold isRulesM
  cases decide (2 ≤ a0 ∧ a0 ≤ 6)
  · exact Ev.now _
  · cases decide (1 ≤ a1 ∧ a1 ≤ 8)
    · exact Ev.now _
    · cases a2
      · cases a3
        · exact Ev.now _
        · simpa using tail
      · simpa using tail

/-! spec_FormatInt -/
theorem spec_FormatInt_small : ∀ n : Fin 400, spec_FormatInt.f 6 ((n.val + 1 : Nat) : Int) = some ⟨(dig3 (n.val + 1)).toArray⟩ := by decide +kernel
theorem spec_FormatInt_ev (n : Int) (h0 : 1 ≤ n) (h : n ≤ 400) : Ev (fun k => spec_FormatInt.f k n) (numT n) := by
  obtain ⟨m, rfl⟩ := Int.eq_ofNat_of_zero_le (show 0 ≤ n by omega)
  have := spec_FormatInt_small ⟨m - 1, by omega⟩
  have e : m - 1 + 1 = m := by omega
  simp only [e] at this
  refine Ev.of (k := 6) (fun k => spec_FormatInt.mono _ k) ?_
  unfold numT
  rw [itoa_dig3 m (by omega)]
  exact this

/-! spec_RulesWord -/
theorem spec_RulesWord_ev (a0 a1 : Int) (a2 a3 : Bool) (l4 l5 : List Int) (a6 a7 : Int) (h4 : l4.length ≤ 1048576) (h5 : l5.length ≤ 1048576) : Ev (fun k => spec_RulesWord.f k a0 a1 a2 a3 l4 l5 a6 a7) (rulesWordM a2 a3) := by
  simp only [spec_RulesWord.f]
  cases a2 <;> cases a3 <;> exact ev_succ (ev_of_eq fun k => by simp [spec_RulesWord.j0, rulesWordM])

/-! spec_l9Leaf -/
theorem spec_l9Rank_f (i : Int) (h0 : 0 ≤ i) (h1 : i ≤ 12) : spec_l9Rank.f i = some (rankL.extract i.toNat (i + 1).toNat) := by
  unfold spec_l9Rank.f
  have a1 : wrap64 (i + 1) = i + 1 := w64 (by omega) (by omega)
  have a3 : i ≤ i + 1 := by omega
  have a4 : i + 1 ≤ 13 := by omega
  unfold rankL
  simp only [h0, a1, a3, a4, ↓reduceIte]
theorem spec_l9Leaf_f (s : Int) (h : leafM s = true) : spec_l9Leaf.f s = some (signM s) := by
  unfold leafM at h
  simp only [Bool.or_eq_true, decide_eq_true_eq, beq_iff_eq] at h
  unfold spec_l9Leaf.f signM
  by_cases h1 : s = 400
  · rw [if_pos h1, if_pos h1]
  rw [if_neg h1, if_neg h1]
  by_cases h2 : s ≥ 300
  · have a0 : wrap64 (s - 300) = s - 300 := w64 (by omega) (by omega)
    have a5 := extract_one rankL (s - 300) (by omega)
    have a6 : (rankL.extract (s - 300).toNat (s - 300 + 1).toNat).size + 1 ≤ 9223372036854775807 := by omega
    simp only [h2, a0, spec_l9Rank_f (s - 300) (by omega) (by omega), Option.bind_some, a6, ↓reduceIte]
  rw [if_neg h2, if_neg h2]
  by_cases h3 : s ≥ 200
  · have a0 : wrap64 (s - 200) = s - 200 := w64 (by omega) (by omega)
    simp only [h3, a0, spec_l9Rank_f (s - 200) (by omega) (by omega), Option.bind_some, ↓reduceIte]
  · have a0 : wrap64 (s - 100) = s - 100 := w64 (by omega) (by omega)
    have a1 : wrap64 (s - 100 + 1) = s - 100 + 1 := w64 (by omega) (by omega)
    have a2 : 0 ≤ s - 100 := by omega
    have a3 : s - 100 ≤ s - 100 + 1 := by omega
    have a4 : s - 100 + 1 ≤ 4 := by omega
    simp only [h3, a0, a1, a2, a3, a4, ↓reduceIte]

/-! spec_PatternText -/
theorem spec_PatternText_l0 (p : List Int) (hl : p.length ≤ 20) (hp : patF p 0 = some 1) : Ev (fun k => spec_PatternText.l0 k p [] 0) (textF p []) := by
  have e1 : ∀ b : UInt8, (⟨#[b]⟩ : ByteArray).size = 1 := fun _ => rfl
  suffices H : ∀ (x : List ByteArray) (B : Nat), (x.length : Int) ≤ 0 → patF p (x.length : Int) = some 1 → (∀ y ∈ x, y.size ≤ B) → growF p B ≤ 4611686018427387000 → Ev (fun k => spec_PatternText.l0 k p x 0) (textF p x) from H [] 0 (by simp) hp (fun y hy => by simp at hy) (by
    have g := growF_pow p 0
    have : 2 ^ p.length ≤ 2 ^ 20 := Nat.pow_le_pow_right (by omega) hl
    omega)
  refine loop_int p (by omega) (P := fun i rest => ∀ (x : List ByteArray) (B : Nat), (x.length : Int) ≤ i → patF rest (x.length : Int) = some 1 → (∀ y ∈ x, y.size ≤ B) → growF rest B ≤ 4611686018427387000 → Ev (fun k => spec_PatternText.l0 k p x i) (textF rest x)) ?_ ?_
  · intro x B hx he _ _
    have h1 : 0 < (x.length : Int) := by simp only [patF, Option.some.injEq] at he; omega
    refine ev_succ (ev_of_eq fun k => ?_)
    simp only [spec_PatternText.l0, Int.lt_irrefl, h1, Int.le_refl, ↓reduceIte, textF]
  · intro i s rest h0 h1 hs hm hw ih x B hx he hB hg
    refine ev_succ ?_
    have gB : 2 * B + 3 ≤ 4611686018427387000 := Nat.le_trans (growF_le rest (2 * B + 3)) hg
    have b : x.length < 8796093022208 := by omega
    have w1 : wrap64 ((x.length : Int) - 1) = (x.length : Int) - 1 := w64 (by omega) (by omega)
    have w2 : wrap64 ((x.length : Int) - 2) = (x.length : Int) - 2 := w64 (by omega) (by omega)
    have le := he
    rcases patF_step he with ⟨n1, n2, n3, e4⟩ | ⟨n1, n2, e4⟩ | ⟨n1, n2, e4⟩
    · have hlf : leafM s = true := by
        unfold patF at le
        by_cases h : leafM s = true
        · exact h
        · rw [if_neg h] at le
          simp only [n1, n2, n3, ↓reduceIte, or_self, beq_iff_eq] at le
          exact absurd le (by simp)
      simp only [spec_PatternText.l0, h1, h0, hs, n1, n2, n3, b, hw, ↓reduceIte, spec_l9Leaf_f s hlf, Option.bind_some, textF]
      refine ih (x ++ [signM s]) (2 * B + 3) (by simp; omega) (by simpa using e4) (fun y hy => ?_) hg
      rcases List.mem_append.1 hy with h | h
      · have := hB y h; omega
      · have := signM_size s hlf
        rw [List.mem_singleton.1 h]
        omega
    · have g1 : 0 ≤ (x.length : Int) - 1 := by omega
      have g2 : (x.length : Int) - 1 < (x.length : Int) := by omega
      have m1 := hB _ (rdOf_mem ByteArray.empty x ((x.length : Int) - 1) g1 g2)
      have q1 : 1 + (rdOf ByteArray.empty x ((x.length : Int) - 1)).size ≤ 9223372036854775807 := by omega
      simp only [spec_PatternText.l0, h1, h0, hs, n1, w1, g1, g2, q1, hw, ↓reduceIte, textF]
      refine ih _ (2 * B + 3) (by rw [List.length_set]; omega) (by rw [List.length_set]; exact e4) (fun y hy => ?_) hg
      rcases List.mem_or_eq_of_mem_set hy with h | h
      · have := hB y h; omega
      · rw [h, ByteArray.size_append, e1]
        omega
    · have g1 : 0 ≤ (x.length : Int) - 2 := by omega
      have g2 : (x.length : Int) - 2 < (x.length : Int) := by omega
      have g3 : (x.length : Int) - 2 ≤ (x.length : Int) := by omega
      have g4 : 0 ≤ (x.length : Int) - 1 := by omega
      have g5 : (x.length : Int) - 1 < (x.length : Int) := by omega
      have tl : (x.take ((x.length : Int) - 2).toNat).length = ((x.length : Int) - 2).toNat := by rw [List.length_take]; omega
      have g6 : (x.take ((x.length : Int) - 2).toNat).length < 8796093022208 := by omega
      have m2 := hB _ (rdOf_mem ByteArray.empty x ((x.length : Int) - 2) g1 g2)
      have m1 := hB _ (rdOf_mem ByteArray.empty x ((x.length : Int) - 1) g4 g5)
      have q1 : 1 + (rdOf ByteArray.empty x ((x.length : Int) - 2)).size ≤ 9223372036854775807 := by omega
      have q2 : ((⟨#[40]⟩ : ByteArray) ++ rdOf ByteArray.empty x ((x.length : Int) - 2)).size + 1 ≤ 9223372036854775807 := by simp only [ByteArray.size_append, e1]; omega
      have q3 : ∀ c : UInt8, (((⟨#[40]⟩ : ByteArray) ++ rdOf ByteArray.empty x ((x.length : Int) - 2)) ++ (⟨#[c]⟩ : ByteArray)).size + (rdOf ByteArray.empty x ((x.length : Int) - 1)).size ≤ 9223372036854775807 := fun c => by simp only [ByteArray.size_append, e1]; omega
      have q4 : ∀ c : UInt8, ((((⟨#[40]⟩ : ByteArray) ++ rdOf ByteArray.empty x ((x.length : Int) - 2)) ++ (⟨#[c]⟩ : ByteArray)) ++ rdOf ByteArray.empty x ((x.length : Int) - 1)).size + 1 ≤ 9223372036854775807 := fun c => by simp only [ByteArray.size_append, e1]; omega
      have nx : ∀ c : UInt8, Ev (fun k => spec_PatternText.l0 k p (x.take ((x.length : Int) - 2).toNat ++ [((((⟨#[40]⟩ : ByteArray) ++ rdOf ByteArray.empty x ((x.length : Int) - 2)) ++ (⟨#[c]⟩ : ByteArray)) ++ rdOf ByteArray.empty x ((x.length : Int) - 1)) ++ (⟨#[41]⟩ : ByteArray)]) (i + 1)) (textF rest (x.take ((x.length : Int) - 2).toNat ++ [((((⟨#[40]⟩ : ByteArray) ++ rdOf ByteArray.empty x ((x.length : Int) - 2)) ++ (⟨#[c]⟩ : ByteArray)) ++ rdOf ByteArray.empty x ((x.length : Int) - 1)) ++ (⟨#[41]⟩ : ByteArray)])) := by
        intro c
        have ln : ((x.take ((x.length : Int) - 2).toNat ++ [((((⟨#[40]⟩ : ByteArray) ++ rdOf ByteArray.empty x ((x.length : Int) - 2)) ++ (⟨#[c]⟩ : ByteArray)) ++ rdOf ByteArray.empty x ((x.length : Int) - 1)) ++ (⟨#[41]⟩ : ByteArray)]).length : Int) = (x.length : Int) - 1 := by rw [List.length_append, tl]; simp; omega
        refine ih _ (2 * B + 3) (by omega) (by rw [ln]; exact e4) (fun y hy => ?_) hg
        rcases List.mem_append.1 hy with h | h
        · have := hB y (List.mem_of_mem_take h); omega
        · rw [List.mem_singleton.1 h]
          simp only [ByteArray.size_append, e1]
          omega
      rcases n1 with n1 | n1
      · have z : ¬ (-2 : Int) = -1 := by omega
        simp only [spec_PatternText.l0, h1, h0, hs, n1, z, w1, w2, g1, g2, g3, g4, g5, g6, q1, q2, q3, q4, hw, Option.bind_some, ↓reduceIte, textF]
        exact nx 38
      · have z : ¬ (-3 : Int) = -1 := by omega
        have z2 : ¬ (-3 : Int) = -2 := by omega
        simp only [spec_PatternText.l0, h1, h0, hs, n1, z, z2, w1, w2, g1, g2, g3, g4, g5, g6, q1, q2, q3, q4, hw, Option.bind_some, ↓reduceIte, textF]
        exact nx 124
theorem spec_PatternText_ev (p : List Int) (hl : p.length ≤ 1099511627776) : Ev (fun k => spec_PatternText.f k p) (patText p) := by
  simp only [spec_PatternText.f]
  refine Ev.bind (spec_IsPattern_ev p hl) ?_
  unfold patText
  cases hp : isPatM p
  · exact ev_of_eq fun k => by simp only [Bool.false_eq_true, ↓reduceIte]
  · simp only [↓reduceIte]
    obtain ⟨h1, h2⟩ := isPatM_run hp
    exact spec_PatternText_l0 p h2 h1

/-! spec_l23Pattern -/
theorem spec_l23Pattern_ev (p : List Int) (hl : p.length ≤ 1099511627776) : Ev (fun k => spec_l23Pattern.f k p) (maybeT p) := by
  simp only [spec_l23Pattern.f, maybeT]
  by_cases h : p.length = 0
  · have h' : (p.length : Int) = 0 := by omega
    exact ev_of_eq fun k => by rw [if_pos h', if_pos h]
  · have h' : ¬ (p.length : Int) = 0 := by omega
    simp only [h, h', ↓reduceIte]
    exact Ev.bind (spec_PatternText_ev p hl) (Ev.now _)

/-! spec_RulesText -/
theorem Ev.ifs {α : Type} {p : Prop} [Decidable p] {g : Nat → Option α} {r : α} (hp : p) (h : Ev g r) : Ev (fun k => if p then g k else none) r := by simpa only [if_pos hp] using h
theorem spec_RulesText_ev (a0 a1 : Int) (a2 a3 : Bool) (l4 l5 : List Int) (a6 a7 : Int) (h4 : l4.length ≤ 1048576) (h5 : l5.length ≤ 1048576) :
    Ev (fun k => spec_RulesText.f k a0 a1 a2 a3 l4 l5 a6 a7) (rulesT a0 a1 a2 a3 l4 l5 a6 a7) := by
  simp only [spec_RulesText.f]
  refine Ev.bind (spec_IsRules_ev a0 a1 a2 a3 l4 l5 a6 a7 h4 h5) ?_
  unfold rulesT
  cases hr : isRulesM a0 a1 a2 a3 l4 l5 a6 a7
  · exact ev_of_eq fun k => by simp only [Bool.false_eq_true, ↓reduceIte]
  · obtain ⟨n0, n1, n6, n7⟩ := isRulesM_nums hr
    have z0 := numT_size a0 (by omega) (by omega)
    have z1 := numT_size a1 (by omega) (by omega)
    have z6 := numT_size a6 (by omega) (by omega)
    have z7 := numT_size a7 (by omega) (by omega)
    have zw := rulesWordM_size a2 a3
    have z4 := maybeT_size l4
    have z5 := maybeT_size l5
    have F0 := spec_FormatInt_ev a0 (by omega) (by omega)
    have F1 := spec_FormatInt_ev a1 (by omega) (by omega)
    have F6 := spec_FormatInt_ev a6 (by omega) (by omega)
    have F7 := spec_FormatInt_ev a7 (by omega) (by omega)
    have FW := spec_RulesWord_ev a0 a1 a2 a3 l4 l5 a6 a7 h4 h5
    have F4 := spec_l23Pattern_ev l4 (by omega)
    have F5 := spec_l23Pattern_ev l5 (by omega)
    generalize numT a0 = x0 at z0 F0
    generalize numT a1 = x1 at z1 F1
    generalize numT a6 = x6 at z6 F6
    generalize numT a7 = x7 at z7 F7
    generalize rulesWordM a2 a3 = xw at zw FW
    generalize maybeT l4 = x4 at z4 F4
    generalize maybeT l5 = x5 at z5 F5
    have e8 : (⟨#[112, 108, 97, 121, 101, 114, 115, 61]⟩ : ByteArray).size = 8 := rfl
    have ee : (⟨#[32, 101, 97, 99, 104, 61]⟩ : ByteArray).size = 6 := rfl
    have em : (⟨#[32, 109, 97, 116, 99, 104, 61]⟩ : ByteArray).size = 7 := rfl
    have ew : (⟨#[32, 119, 105, 108, 100, 61]⟩ : ByteArray).size = 6 := rfl
    have es : (⟨#[32, 115, 107, 105, 112, 61]⟩ : ByteArray).size = 6 := rfl
    have et : (⟨#[32, 116, 97, 107, 101, 61]⟩ : ByteArray).size = 6 := rfl
    have el : (⟨#[32, 108, 105, 109, 105, 116, 61]⟩ : ByteArray).size = 7 := rfl
    simp only [↓reduceIte]
    refine Ev.bind F0 ?_
    refine Ev.ifs (by first | omega | (simp only [ByteArray.size_append, e8, ee, em, ew, es, et, el]; omega)) ?_
    refine Ev.ifs (by first | omega | (simp only [ByteArray.size_append, e8, ee, em, ew, es, et, el]; omega)) ?_
    refine Ev.bind F1 ?_
    refine Ev.ifs (by first | omega | (simp only [ByteArray.size_append, e8, ee, em, ew, es, et, el]; omega)) ?_
    refine Ev.ifs (by first | omega | (simp only [ByteArray.size_append, e8, ee, em, ew, es, et, el]; omega)) ?_
    refine Ev.bind FW ?_
    refine Ev.ifs (by first | omega | (simp only [ByteArray.size_append, e8, ee, em, ew, es, et, el]; omega)) ?_
    refine Ev.ifs (by first | omega | (simp only [ByteArray.size_append, e8, ee, em, ew, es, et, el]; omega)) ?_
    refine Ev.bind F4 ?_
    refine Ev.ifs (by first | omega | (simp only [ByteArray.size_append, e8, ee, em, ew, es, et, el]; omega)) ?_
    refine Ev.ifs (by first | omega | (simp only [ByteArray.size_append, e8, ee, em, ew, es, et, el]; omega)) ?_
    refine Ev.bind F5 ?_
    refine Ev.ifs (by first | omega | (simp only [ByteArray.size_append, e8, ee, em, ew, es, et, el]; omega)) ?_
    refine Ev.ifs (by first | omega | (simp only [ByteArray.size_append, e8, ee, em, ew, es, et, el]; omega)) ?_
    refine Ev.bind F6 ?_
    refine Ev.ifs (by first | omega | (simp only [ByteArray.size_append, e8, ee, em, ew, es, et, el]; omega)) ?_
    refine Ev.ifs (by first | omega | (simp only [ByteArray.size_append, e8, ee, em, ew, es, et, el]; omega)) ?_
    refine Ev.bind F7 ?_
    refine Ev.ifs (by first | omega | (simp only [ByteArray.size_append, e8, ee, em, ew, es, et, el]; omega)) ?_
    exact Ev.now _

/-! laws_toIntS -/
theorem laws_toIntS_ev (l : List Int) (hl : l.length ≤ 1099511627776) : Ev (fun k => laws_toIntS.f k l) l := by
  have e1 : (0 : Int) ≤ (l.length : Int) := by omega
  have e2 : ((l.length : Int) : Int).toNat ≤ 35184372088832 := by omega
  simp only [laws_toIntS.f, e1, e2, ↓reduceIte]
  refine loop_int_pre l hl (P := fun i pre rest => Ev (fun k => laws_toIntS.l0 k l (pre ++ List.replicate rest.length 0) i) l) ?_ ?_
  · refine ev_succ (ev_of_eq fun k => ?_)
    simp only [laws_toIntS.l0, Int.lt_irrefl, ↓reduceIte, List.length_nil, List.replicate_zero, List.append_nil]
  · intro i pre x rest hl' hi h0 h1 hx hw ih
    refine ev_succ ?_
    have h2 : i < ((pre ++ List.replicate (x :: rest).length 0 : List Int).length : Int) := by simp; omega
    simp only [laws_toIntS.l0, h1, h0, h2, ↓reduceIte, hx, hw]
    rw [List.length_cons, List.replicate_succ, set_mid pre _ i hi]
    exact ih

/-! laws_toRules -/
theorem laws_toRules_ev (a0 a1 : Int) (a2 a3 : Bool) (l4 l5 : List Int) (a6 a7 : Int) (h4 : l4.length ≤ 1048576) (h5 : l5.length ≤ 1048576) :
    Ev (fun k => laws_toRules.f k a0 a1 a2 a3 l4 l5 a6 a7) (a0, a1, a2, a3, l4, l5, a6, a7) := by
  simp only [laws_toRules.f]
  exact Ev.bind (laws_toIntS_ev l4 (by omega)) (Ev.bind (laws_toIntS_ev l5 (by omega)) (Ev.now _))

/-- The pure statement. -/
def FnExactRulesText_Stmt : Prop := ∀ (a0_0 : Int) (a0_1 : Int) (a0_2 : Bool) (a0_3 : Bool) (a0_4 : (List Int)) (a0_5 : (List Int)) (a0_6 : Int) (a0_7 : Int), (Lit.int .i64 a0_0).wf = true → (Lit.int .i64 a0_1).wf = true → a0_4.length ≤ maxLen → (∀ y ∈ a0_4, (Lit.int .i64 y).wf = true) → a0_5.length ≤ maxLen → (∀ y ∈ a0_5, (Lit.int .i64 y).wf = true) → (Lit.int .i64 a0_6).wf = true → (Lit.int .i64 a0_7).wf = true → ∃ k, laws_FnExactRulesText.f k a0_0 a0_1 a0_2 a0_3 a0_4 a0_5 a0_6 a0_7 = some true
-- uses: LibM
theorem FnExactRulesText : FnExactRulesText_Stmt := by
  intro a0 a1 a2 a3 l4 l5 a6 a7 _ _ m4 _ m5 _ _ _
  refine Ev.rounds (g := fun k => laws_FnExactRulesText.f k a0 a1 a2 a3 l4 l5 a6 a7) ?_
  simp only [laws_FnExactRulesText.f]
  obtain ⟨v, e, z⟩ := laws_szRules_f a0 a1 a2 a3 l4 l5 a6 a7 1048576 m4 m5 (by omega) (by omega)
  simp only [e, Option.bind_some]
  rcases z with z | ⟨z0, z1, s4, s5⟩
  · exact ev_of_eq fun k => by simp only [z, ↓reduceIte]
  have n : ¬ v < 0 := by omega
  simp only [n, ↓reduceIte]
  refine Ev.bind (laws_toRules_ev a0 a1 a2 a3 l4 l5 a6 a7 s4 s5) ?_
  refine Ev.bind (spec_RulesText_ev a0 a1 a2 a3 l4 l5 a6 a7 s4 s5) ?_
  refine Ev.bind (impl_RulesText_ev a0 a1 a2 a3 l4 l5 a6 a7 s4 s5) ?_
  refine Ev.bind (laws_eqRules_ev a0 a1 a2 a3 l4 l5 a6 a7 s4 s5) ?_
  exact ev_of_eq fun k => by simp only [↓reduceIte, and_self]

end Go.Proofs.YtdfmobcocaijpaaDoor.Pure
