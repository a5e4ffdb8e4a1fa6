/- The program's FnRules answers what the reference's answers, for all arguments. No condition but those that the statement itself names. -/
import Derived.Test.YtdakhelapeojgaaQFnRulesx6
import Derived.Test.YtdakhelapeojgaaVLib
import Derived.Test.YtdakhelapeojgaaVLibM
namespace Go.Proofs.Ytdakhelapeojgaa.Pure
open Go.RowKit Go.Proofs.Ytdakhelapeojgaa.QFnRules Go.Proofs.YtdakhelapeojgaaW.PrintWords Go.Proofs.YtdakhelapeojgaaW.PrintLast Go.Proofs.YtdakhelapeojgaaW.PrintMore Go.Proofs.Ytdakhelapeojgaa.Lib
set_option linter.unusedVariables false
set_option linter.unusedSimpArgs false

/-! impl_InRange -/
theorem impl_InRange_f (a b c : Int) : impl_InRange.f a b c = some (decide (b ≤ a ∧ a ≤ c)) := by
  unfold impl_InRange.f
  by_cases h : b ≤ a <;> simp [h]

/-! impl_IsCard -/
theorem impl_IsCard_f (a : Int) : impl_IsCard.f a = some (isCardM a) := by
  unfold impl_IsCard.f
  rw [impl_InRange_f]
  rfl

/-! spec_l1New -/
theorem spec_l1New_ex (d : List Int) (hd : d.length ≤ 1048576) : ∃ g, Ev (fun k => spec_l1New.f k d) (d, 0, g) := by
  simp only [spec_l1New.f]
  generalize wrap64 (193017 + (d.length : Int)) = h
  revert h
  refine loop_int d (by omega) (P := fun i rest => ∀ h, ∃ g, Ev (fun k => spec_l1New.l0 k d h i) (d, 0, g)) ?_ ?_
  · intro h
    exact ⟨h, ev_succ (ev_of_eq fun k => by simp only [spec_l1New.l0, Int.lt_irrefl, ↓reduceIte])⟩
  · intro i x rest h0 h1 hx _ hw ih h
    by_cases c : i < 4000
    · obtain ⟨g, e⟩ := ih (Go.bits .and .i64 (wrap64 ((wrap64 ((wrap64 (h * 137)) + (wrap64 (rd d i)))) + 11)) 1073741823)
      refine ⟨g, ev_succ ?_⟩
      simp only [spec_l1New.l0, h1, h0, c, hw, ↓reduceIte]
      exact e
    · exact ⟨h, ev_succ (ev_of_eq fun k => by simp only [spec_l1New.l0, h1, c, ↓reduceIte])⟩

/-! spec_l1Byte -/
set_option maxRecDepth 20000 in
theorem bits_and255 (x : Int) : 0 ≤ Go.bits .and .i64 x 255 := by
  have h : ((BitVec.ofInt 64 x) &&& (BitVec.ofInt 64 255)).toNat ≤ 255 := by
    rw [BitVec.toNat_and]; exact Nat.and_le_right
  show 0 ≤ Go.IntKind.i64.wrap (((BitVec.ofInt 64 x &&& BitVec.ofInt 64 255).toNat : Nat) : Int)
  generalize ((BitVec.ofInt 64 x) &&& (BitVec.ofInt 64 255)).toNat = n at h
  have k : ∀ m : Fin 256, 0 ≤ Go.IntKind.i64.wrap ((m.val : Nat) : Int) := by decide
  exact k ⟨n, by omega⟩
theorem spec_l1Byte_ex (d : List Int) (p h : Int) (hp : 0 ≤ p) (hd : d.length ≤ 1048576) : ∃ b q g, spec_l1Byte.f d p h = some (b, q, g) ∧ 0 ≤ b ∧ 0 ≤ q := by
  by_cases c : p < (d.length : Int)
  · refine ⟨_, _, _, by simp only [spec_l1Byte.f, c, hp, ↓reduceIte]; rfl, bits_and255 _, ?_⟩
    rw [w64 (by omega) (by omega)]; omega
  · exact ⟨_, _, _, by simp only [spec_l1Byte.f, c, ↓reduceIte]; rfl, bits_and255 _, hp⟩

/-! spec_l1Below -/
theorem spec_l1Below_ex (d : List Int) (p h n : Int) (hp : 0 ≤ p) (hd : d.length ≤ 1048576) : ∃ b q g, spec_l1Below.f d p h n = some (b, q, g) ∧ 0 ≤ q ∧ (1 ≤ n → n ≤ 256 → 0 ≤ b ∧ b < n) := by
  by_cases c : n ≤ 0
  · exact ⟨_, _, _, by simp only [spec_l1Below.f, c, ↓reduceIte]; rfl, hp, fun _ _ => by omega⟩
  · have z : ¬ n = 0 := by omega
    obtain ⟨b1, q1, g1, e1, hb1, hq1⟩ := spec_l1Byte_ex d p h hp hd
    by_cases c2 : n ≤ 256
    · refine ⟨Int.tmod b1 n, q1, g1, by simp only [spec_l1Below.f, c, c2, z, e1, Option.bind_some, ↓reduceIte], hq1, fun h1 _ => ?_⟩
      rw [Int.tmod_eq_emod_of_nonneg hb1]
      exact ⟨Int.emod_nonneg _ (by omega), Int.emod_lt_of_pos _ (by omega)⟩
    · obtain ⟨b2, q2, g2, e2, hb2, hq2⟩ := spec_l1Byte_ex d q1 g1 hq1 hd
      obtain ⟨b3, q3, g3, e3, hb3, hq3⟩ := spec_l1Byte_ex d q2 g2 hq2 hd
      exact ⟨_, _, _, by simp only [spec_l1Below.f, c, c2, z, e1, e2, e3, Option.bind_some, ↓reduceIte]; rfl, hq3, fun _ h2 => absurd h2 c2⟩

/-! spec_l1Once -/
theorem spec_l1Once_ex (d : List Int) (p h n : Int) (hp : 0 ≤ p) (hd : d.length ≤ 1048576) : ∃ b q g, spec_l1Once.f d p h n = some (b, q, g) ∧ 0 ≤ q := by
  obtain ⟨b, q, g, e, hq, _⟩ := spec_l1Below_ex d p h n hp hd
  exact ⟨_, _, _, by simp only [spec_l1Once.f, e, Option.bind_some]; rfl, hq⟩

/-! spec_l1Int -/
theorem spec_l1Int_ex (d : List Int) (p h : Int) (l : List Int) (hp : 0 ≤ p) (hd : d.length ≤ 1048576) (h1 : 1 ≤ l.length) (h2 : l.length ≤ 256) : ∃ b q g, spec_l1Int.f d p h l = some (b, q, g) ∧ 0 ≤ q := by
  obtain ⟨b, q, g, e, hq, hb⟩ := spec_l1Below_ex d p h (l.length : Int) hp hd
  obtain ⟨hb0, hb1⟩ := hb (by omega) (by omega)
  exact ⟨_, _, _, by simp only [spec_l1Int.f, e, Option.bind_some, hb0, hb1, ↓reduceIte]; rfl, hq⟩

/-! spec_l8Leaves -/
theorem spec_l8Leaves_ex (d : List Int) (p h : Int) (hp : 0 ≤ p) (hd : d.length ≤ 1048576) : ∃ b q g, spec_l8Leaves.f d p h = some (b, q, g) ∧ 0 ≤ q := by
  obtain ⟨b1, q1, g1, e1, hq1, _⟩ := spec_l1Below_ex d p h 4 hp hd
  obtain ⟨b2, q2, g2, e2, hq2, _⟩ := spec_l1Below_ex d q1 g1 13 hq1 hd
  obtain ⟨b3, q3, g3, e3, hq3, _⟩ := spec_l1Below_ex d q2 g2 13 hq2 hd
  obtain ⟨b4, q4, g4, e4, hq4⟩ := spec_l1Int_ex d q3 g3 [wrap64 (100 + b1), wrap64 (200 + b2), wrap64 (300 + b3), 400] hq3 hd (by simp) (by simp)
  exact ⟨b4, q4, g4, by simp only [spec_l8Leaves.f, e1, e2, e3, e4, Option.bind_some], hq4⟩

/-! spec_l8Draw -/
theorem spec_l8Draw_j0 (d : List Int) (hd : d.length ≤ 1048576) (n : Nat) (hn : n ≤ 2) (p h : Int) (hp : 0 ≤ p) : ∃ l q g, Ev (fun k => spec_l8Draw.j0 k (n : Int) true d p h) (l, q, g) ∧ 0 ≤ q ∧ 1 ≤ l.length ∧ l.length ≤ 1 := by
  obtain ⟨b, q, g, e, hq⟩ := spec_l8Leaves_ex d p h hp hd
  exact ⟨[b], q, g, ev_succ (ev_of_eq fun k => by simp only [spec_l8Draw.j0, e, Option.bind_some, ↓reduceIte]), hq, by simp, by simp⟩
theorem spec_l8Draw_ex (d : List Int) (hd : d.length ≤ 1048576) : ∀ (n : Nat), n ≤ 2 → ∀ (p h : Int), 0 ≤ p → ∃ l q g, Ev (fun k => spec_l8Draw.f k d p h (n : Int)) (l, q, g) ∧ 0 ≤ q ∧ 1 ≤ l.length ∧ l.length + 1 ≤ 2 ^ (n + 1) := by
  intro n
  induction n with
  | zero =>
    intro hn p h hp
    obtain ⟨l, q, g, e, hq, h1, h2⟩ := spec_l8Draw_j0 d hd 0 (by omega) p h hp
    have z : ((0 : Nat) : Int) = 0 := rfl
    refine ⟨l, q, g, ev_succ ?_, hq, h1, by simp; omega⟩
    simp only [spec_l8Draw.f, z, ↓reduceIte]
    rw [z] at e
    exact e
  | succ n ih =>
    intro hn p h hp
    have z : ¬ ((n + 1 : Nat) : Int) = 0 := by omega
    have w : wrap64 (((n + 1 : Nat) : Int) - 1) = (n : Int) := by rw [w64 (by omega) (by omega)]; omega
    have pw : 2 ^ (n + 1 + 1) = 2 ^ (n + 1) + 2 ^ (n + 1) := by rw [Nat.pow_succ]; omega
    have p8 : 2 ^ (n + 1) ≤ 4 := by
      have : 2 ^ (n + 1) ≤ 2 ^ 2 := Nat.pow_le_pow_right (by omega) (by omega)
      simpa using this
    obtain ⟨b, q, g, e, hq⟩ := spec_l1Once_ex d p h 4 hp hd
    cases b
    · obtain ⟨b2, q2, g2, e2, hq2⟩ := spec_l1Once_ex d q g 4 hq hd
      cases b2
      · obtain ⟨l1, q3, g3, e3, hq3, a1, a2⟩ := ih (by omega) q2 g2 hq2
        obtain ⟨l2, q4, g4, e4, hq4, b1, b2⟩ := ih (by omega) q3 g3 hq3
        obtain ⟨o, q5, g5, e5, hq5, _⟩ := spec_l1Below_ex d q4 g4 2 hq4 hd
        have c1 : l1.length + l2.length < 17592186044416 := by omega
        have c2 : (l1 ++ l2).length < 17592186044416 := by simp; omega
        refine ⟨(l1 ++ l2) ++ [wrap64 ((-2) - o)], q5, g5, ev_succ ?_, hq5, by simp; omega, by rw [pw, List.length_append, List.length_append, List.length_singleton]; omega⟩
        simp only [spec_l8Draw.f, z, e, Option.bind_some, ↓reduceIte]
        refine ev_succ ?_
        simp only [spec_l8Draw.j0, e2, w, Option.bind_some, Bool.false_eq_true, ↓reduceIte]
        refine Ev.bind e3 (Ev.bind e4 (ev_of_eq fun k => ?_))
        simp only [c1, c2, e5, Option.bind_some, ↓reduceIte]
      · obtain ⟨l1, q3, g3, e3, hq3, a1, a2⟩ := ih (by omega) q2 g2 hq2
        have c1 : l1.length < 17592186044416 := by omega
        refine ⟨l1 ++ [-1], q3, g3, ev_succ ?_, hq3, by simp, by rw [pw, List.length_append, List.length_singleton]; omega⟩
        simp only [spec_l8Draw.f, z, e, Option.bind_some, ↓reduceIte]
        refine ev_succ ?_
        simp only [spec_l8Draw.j0, e2, w, Option.bind_some, Bool.false_eq_true, ↓reduceIte]
        exact Ev.bind e3 (ev_of_eq fun k => by simp only [c1, ↓reduceIte])
    · obtain ⟨l, q2, g2, e2, hq2, h1, h2⟩ := spec_l8Draw_j0 d hd (n + 1) hn q g hq
      refine ⟨l, q2, g2, ev_succ ?_, hq2, h1, by have : 1 ≤ 2 ^ (n + 1) := Nat.one_le_two_pow; omega⟩
      simp only [spec_l8Draw.f, z, e, Option.bind_some, ↓reduceIte]
      exact e2

/-! spec_l22Draw -/
theorem spec_l8Draw_one (d : List Int) (hd : d.length ≤ 1048576) (p h : Int) (hp : 0 ≤ p) : ∃ l q g, Ev (fun k => spec_l8Draw.f k d p h 1) (l, q, g) ∧ 0 ≤ q ∧ l.length ≤ 7 := by
  obtain ⟨l, q, g, e, hq, h1, h2⟩ := spec_l8Draw_ex d hd 1 (by omega) p h hp
  rw [show ((1 : Nat) : Int) = 1 from rfl] at e
  exact ⟨l, q, g, e, hq, by simp at h2; omega⟩
abbrev R10 := Int × Int × Bool × Bool × List Int × List Int × Int × Int × Int × Int
def Small (R : R10) : Prop := R.2.2.2.2.1.length ≤ 7 ∧ R.2.2.2.2.2.1.length ≤ 7 ∧ 0 ≤ R.2.2.2.2.2.2.2.2.1
theorem spec_l22Draw_j0 (d : List Int) (hd : d.length ≤ 1048576) (p h : Int) (hp : 0 ≤ p) (x0 x1 : Int) (b2 b3 : Bool) (l4 : List Int) (x6 x7 : Int) (h4 : l4.length ≤ 7) :
    ∃ R : R10, Ev (fun k => spec_l22Draw.j0 k d p h x0 x1 b2 b3 l4 x6 x7) R ∧ Small R := by
  obtain ⟨b, q, g, e, hq⟩ := spec_l1Once_ex d p h 2 hp hd
  cases b
  · exact ⟨(x0, x1, b2, b3, l4, [], x6, x7, q, g), ev_succ (ev_of_eq fun k => by simp only [spec_l22Draw.j0, e, Option.bind_some, Bool.false_eq_true, ↓reduceIte]), h4, by simp, hq⟩
  · obtain ⟨l5, q2, g2, e2, hq2, h5⟩ := spec_l8Draw_one d hd q g hq
    refine ⟨(x0, x1, b2, b3, l4, l5, x6, x7, q2, g2), ev_succ ?_, h4, h5, hq2⟩
    simp only [spec_l22Draw.j0, e, Option.bind_some, ↓reduceIte]
    exact Ev.bind e2 (Ev.now _)
theorem spec_l22Draw_ex (d : List Int) (hd : d.length ≤ 1048576) (p h : Int) (hp : 0 ≤ p) : ∃ R : R10, Ev (fun k => spec_l22Draw.f k d p h) R ∧ Small R := by
  obtain ⟨b0, q0, g0, e0, hq0, _⟩ := spec_l1Below_ex d p h 4 hp hd
  obtain ⟨b1, q1, g1, e1, hq1, _⟩ := spec_l1Below_ex d q0 g0 6 hq0 hd
  obtain ⟨b2, q2, g2, e2, hq2⟩ := spec_l1Once_ex d q1 g1 2 hq1 hd
  obtain ⟨b3, q3, g3, e3, hq3, _⟩ := spec_l1Below_ex d q2 g2 2 hq2 hd
  obtain ⟨b4, q4, g4, e4, hq4, _⟩ := spec_l1Below_ex d q3 g3 60 hq3 hd
  obtain ⟨b5, q5, g5, e5, hq5⟩ := spec_l1Once_ex d q4 g4 2 hq4 hd
  simp only [spec_l22Draw.f, e0, e1, e2, e3, e4, e5, Option.bind_some]
  cases b5
  · simp only [Bool.false_eq_true, ↓reduceIte]
    exact spec_l22Draw_j0 d hd q5 g5 hq5 _ _ _ _ [] _ _ (by simp)
  · obtain ⟨l4, q6, g6, e6, hq6, h4⟩ := spec_l8Draw_one d hd q5 g5 hq5
    simp only [↓reduceIte]
    obtain ⟨R, e, hR⟩ := spec_l22Draw_j0 d hd q6 g6 hq6 (wrap64 (2 + b0)) (wrap64 (1 + b1)) b2 true l4 (wrap64 (1 + b3)) (wrap64 (20 + b4)) h4
    exact ⟨R, Ev.bind e6 e, hR⟩

/-! spec_l8Any -/
theorem spec_l8Any_ex (d : List Int) (hd : d.length ≤ 1048576) (p h : Int) (hp : 0 ≤ p) : ∃ l q g, Ev (fun k => spec_l8Any.f k d p h) (l, q, g) ∧ 0 ≤ q ∧ l.length ≤ 7 := by
  obtain ⟨l, q, g, e, hq, h1, h2⟩ := spec_l8Draw_ex d hd 2 (by omega) p h hp
  rw [show ((2 : Nat) : Int) = 2 from rfl] at e
  have h7 : l.length ≤ 7 := by simp at h2; omega
  obtain ⟨b, q2, g2, e2, hq2, _⟩ := spec_l1Below_ex d q g 10 hq hd
  simp only [spec_l8Any.f]
  by_cases c0 : b = 0
  · obtain ⟨i, q3, g3, e3, hq3, hi⟩ := spec_l1Below_ex d q2 g2 (l.length : Int) hq2 hd
    obtain ⟨i0, i1⟩ := hi (by omega) (by omega)
    obtain ⟨v, q4, g4, e4, hq4⟩ := spec_l1Int_ex d q3 g3 [104, 99, 213, 313, 401, (-4), (-2), 9223372036854775807] hq3 hd (by simp) (by simp)
    refine ⟨l.set i.toNat v, q4, g4, Ev.bind e (ev_of_eq fun k => ?_), hq4, by rw [List.length_set]; omega⟩
    simp only [e2, e3, e4, c0, i0, i1, Option.bind_some, ↓reduceIte]
  · by_cases c1 : b = 1
    · have z : ¬ (1 : Int) = 0 := by omega
      have c2 : 1 ≤ (l.length : Int) := by omega
      refine ⟨l.drop (1 : Int).toNat, q2, g2, Ev.bind e (ev_of_eq fun k => ?_), hq2, by rw [List.length_drop]; omega⟩
      simp only [e2, c1, z, c2, Option.bind_some, ↓reduceIte]
    · refine ⟨l, q2, g2, Ev.bind e (ev_of_eq fun k => ?_), hq2, h7⟩
      simp only [e2, c0, c1, Option.bind_some, ↓reduceIte]

/-! spec_l22Any -/
theorem spec_l22Any_ex (d : List Int) (hd : d.length ≤ 1048576) (p h : Int) (hp : 0 ≤ p) : ∃ R : R10, Ev (fun k => spec_l22Any.f k d p h) R ∧ Small R := by
  obtain ⟨⟨x0, x1, b2, b3, l4, l5, x6, x7, q, g⟩, e, h4, h5, hq⟩ := spec_l22Draw_ex d hd p h hp
  simp only at h4 h5 hq
  obtain ⟨b, q1, g1, e1, hq1, _⟩ := spec_l1Below_ex d q g 14 hq hd
  simp only [spec_l22Any.f]
  by_cases c0 : b = 0
  · obtain ⟨v, q2, g2, e2, hq2⟩ := spec_l1Int_ex d q1 g1 [1, 6, 7] hq1 hd (by simp) (by simp)
    exact ⟨(v, x1, b2, b3, l4, l5, x6, x7, q2, g2), Ev.bind e (ev_of_eq fun k => by simp only [e1, Option.bind_some, if_pos c0, e2]), h4, h5, hq2⟩
  by_cases c1 : b = 1
  · obtain ⟨v, q2, g2, e2, hq2⟩ := spec_l1Int_ex d q1 g1 [0, 8, 9] hq1 hd (by simp) (by simp)
    exact ⟨(x0, v, b2, b3, l4, l5, x6, x7, q2, g2), Ev.bind e (ev_of_eq fun k => by simp only [e1, Option.bind_some, if_neg c0, if_pos c1, e2]), h4, h5, hq2⟩
  by_cases c2 : b = 2
  · exact ⟨(x0, x1, b2, false, l4, l5, x6, x7, q1, g1), Ev.bind e (ev_of_eq fun k => by simp only [e1, Option.bind_some, if_neg c0, if_neg c1, if_pos c2]), h4, h5, hq1⟩
  by_cases c3 : b = 3
  · obtain ⟨l, q2, g2, e2, hq2, hl⟩ := spec_l8Any_ex d hd q1 g1 hq1
    refine ⟨(x0, x1, b2, b3, l, l5, x6, x7, q2, g2), Ev.bind e ?_, hl, h5, hq2⟩
    simp only [e1, Option.bind_some, if_neg c0, if_neg c1, if_neg c2, if_pos c3]
    exact Ev.bind e2 (Ev.now _)
  by_cases c4 : b = 4
  · obtain ⟨v, q2, g2, e2, hq2⟩ := spec_l1Int_ex d q1 g1 [0, 4, 5] hq1 hd (by simp) (by simp)
    exact ⟨(x0, x1, b2, b3, l4, l5, v, x7, q2, g2), Ev.bind e (ev_of_eq fun k => by simp only [e1, Option.bind_some, if_neg c0, if_neg c1, if_neg c2, if_neg c3, if_pos c4, e2]), h4, h5, hq2⟩
  by_cases c5 : b = 5
  · obtain ⟨v, q2, g2, e2, hq2⟩ := spec_l1Int_ex d q1 g1 [0, 400, 401] hq1 hd (by simp) (by simp)
    exact ⟨(x0, x1, b2, b3, l4, l5, x6, v, q2, g2), Ev.bind e (ev_of_eq fun k => by simp only [e1, Option.bind_some, if_neg c0, if_neg c1, if_neg c2, if_neg c3, if_neg c4, if_pos c5, e2]), h4, h5, hq2⟩
  · exact ⟨(x0, x1, b2, b3, l4, l5, x6, x7, q1, g1), Ev.bind e (ev_of_eq fun k => by simp only [e1, Option.bind_some, if_neg c0, if_neg c1, if_neg c2, if_neg c3, if_neg c4, if_neg c5]), h4, h5, hq1⟩

/-! spec_l4Card -/
theorem spec_l4Card_ex (d : List Int) (p h : Int) (hp : 0 ≤ p) (hd : d.length ≤ 1048576) : ∃ b q g, spec_l4Card.f d p h = some (b, q, g) ∧ 0 ≤ q := by
  obtain ⟨b1, q1, g1, e1, hq1, _⟩ := spec_l1Below_ex d p h 52 hp hd
  obtain ⟨b2, q2, g2, e2, hq2, _⟩ := spec_l1Below_ex d q1 g1 52 hq1 hd
  obtain ⟨b3, q3, g3, e3, hq3, _⟩ := spec_l1Below_ex d q2 g2 52 hq2 hd
  obtain ⟨b4, q4, g4, e4, hq4⟩ := spec_l1Int_ex d q3 g3 [b1, b2, b3, 0, 51, 52, (-1), 9223372036854775807] hq3 hd (by simp) (by simp)
  exact ⟨b4, q4, g4, by simp only [spec_l4Card.f, e1, e2, e3, e4, Option.bind_some], hq4⟩

/-! spec_DrawFitsOn -/
def fitsM (a0 a1 : Int) (a2 a3 : Bool) (l4 l5 : List Int) (a6 a7 t c : Int) : Bool := isRulesM a0 a1 a2 a3 l4 l5 a6 a7 && (isCardM t && (isCardM c && ((a2 && decide (suitM c = suitM t)) || ((a3 && decide (rankM c = rankM t)) || matchM l4 c))))
def fitF (g : Int → Bool) (t : Int) : Nat → Int → Int
  | 0, _ => 0
  | n + 1, i => if i = t then fitF g t n (i + 1) else if g i = true then 1 + fitF g t n (i + 1) else fitF g t n (i + 1)
theorem spec_DrawFitsOn_ex (d : List Int) (hd : d.length ≤ 1048576) : ∃ (x0 x1 : Int) (b2 b3 : Bool) (l4 l5 : List Int) (x6 x7 a b : Int), Ev (fun k => spec_DrawFitsOn.f k d) (x0, x1, b2, b3, l4, l5, x6, x7, a, b) ∧ l4.length ≤ 7 ∧ l5.length ≤ 7 := by
  obtain ⟨g, e⟩ := spec_l1New_ex d hd
  obtain ⟨⟨x0, x1, b2, b3, l4, l5, x6, x7, q, g1⟩, e1, h4, h5, hq⟩ := spec_l22Any_ex d hd 0 g (by omega)
  simp only at h4 h5 hq
  obtain ⟨a, q2, g2, e2, hq2⟩ := spec_l4Card_ex d q g1 hq hd
  obtain ⟨b, q3, g3, e3, hq3⟩ := spec_l4Card_ex d q2 g2 hq2 hd
  refine ⟨x0, x1, b2, b3, l4, l5, x6, x7, a, b, ?_, h4, h5⟩
  simp only [spec_DrawFitsOn.f]
  exact Ev.bind e (Ev.bind e1 (ev_of_eq fun k => by simp only [e2, e3, Option.bind_some]))

/-! impl_isTest -/
theorem impl_isTest_f (s : Int) : impl_isTest.f s = some (leafM s) := by
  simp only [impl_isTest.f, impl_InRange_f, Option.bind_some, leafM]
  by_cases h1 : 100 ≤ s ∧ s ≤ 103
  · simp [h1]
  by_cases h2 : 200 ≤ s ∧ s ≤ 212
  · simp [h1, h2]
  by_cases h3 : 300 ≤ s ∧ s ≤ 312
  · simp [h1, h2, h3]
  simp [h1, h2, h3]

/-! impl_IsPattern -/
theorem impl_IsPattern_ev (l : List Int) (hl : l.length ≤ 1099511627776) : Ev (fun k => impl_IsPattern.f k l) (isPatM l) := by
  simp only [impl_IsPattern.f, isPatM]
  refine loop_int l hl (P := fun i rest => ∀ n, 0 ≤ n → n ≤ i → Ev (fun k => impl_IsPattern.l0 k l n l (l.length : Int) i) (patEnd l.length (patF rest n))) ?_ ?_ 0 (by omega) (by omega)
  · intro n hn hi
    refine ev_succ (ev_of_eq fun k => ?_)
    simp only [impl_IsPattern.l0, Int.lt_irrefl, ↓reduceIte, patF, patEnd, impl_InRange_f, Option.bind_some]
    by_cases h : n = 1
    · by_cases g : l.length ≤ 20
      · have g' : (1 : Int) ≤ (l.length : Int) ∧ (l.length : Int) ≤ 20 := by omega
        simp [h, g, g']
      · have g' : ¬ ((1 : Int) ≤ (l.length : Int) ∧ (l.length : Int) ≤ 20) := by omega
        simp [h, g, g']
    · by_cases g : (1 : Int) ≤ (l.length : Int) ∧ (l.length : Int) ≤ 20
      · simp [h, g]
      · simp [h, g]
  · intro i x rest h0 h1 hx _ hw ih n hn hi
    refine ev_succ ?_
    have w1 : wrap64 (n + 1) = n + 1 := w64 (by omega) (by omega)
    simp only [impl_IsPattern.l0, h1, h0, ↓reduceIte, hx, hw, impl_isTest_f, Option.bind_some, patF, w1]
    by_cases g1 : leafM x = true
    · simp only [g1, ↓reduceIte]
      exact ih _ (by omega) (by omega)
    · simp only [g1, Bool.false_eq_true, ↓reduceIte]
      by_cases g2 : x = -1
      · have e2 : ¬ x = -2 := by omega
        have e3 : ¬ x = -3 := by omega
        by_cases g3 : 1 ≤ n
        · have g3' : decide (n ≥ 1) = true := by simp; omega
          simp only [g2, g3, g3', ↓reduceIte, and_self]
          refine ev_succ ?_
          simp only [impl_IsPattern.j1, ↓reduceIte, hw]
          exact ih _ (by omega) (by omega)
        · have g3' : decide (n ≥ 1) = false := by simp; omega
          refine ev_succ (ev_of_eq fun k => ?_)
          simp only [impl_IsPattern.j1, g2, g3', g3, h1, h0, hx, ↓reduceIte, Bool.false_eq_true]
          simp [patEnd, e2, e3, g2, g3]
      · simp only [g2, ↓reduceIte, false_and]
        refine ev_succ ?_
        simp only [impl_IsPattern.j1, h1, h0, hx, hw, ↓reduceIte, Bool.false_eq_true, ge_iff_le]
        have w2 : 2 ≤ n → wrap64 (n - 1) = n - 1 := fun _ => w64 (by omega) (by omega)
        by_cases g4 : x = -2
        · by_cases g5 : 2 ≤ n
          · simp only [g4, g5, w2 g5, ↓reduceIte, true_or, and_self]
            exact ih _ (by omega) (by omega)
          · refine ev_of_eq fun k => ?_
            simp [g4, g5, patEnd]
        · by_cases g6 : x = -3
          · by_cases g5 : 2 ≤ n
            · simp only [g4, g6, g5, w2 g5, ↓reduceIte, or_true, and_self]
              exact ih _ (by omega) (by omega)
            · refine ev_of_eq fun k => ?_
              simp [g6, g5, patEnd]
          · refine ev_of_eq fun k => ?_
            simp [g4, g6, patEnd]

/-! impl_isMaybe -/
theorem impl_isMaybe_ev (l : List Int) (hl : l.length ≤ 1099511627776) : Ev (fun k => impl_isMaybe.f k l) (maybeM l) := by
  simp only [impl_isMaybe.f, maybeM]
  by_cases h : l.length = 0
  · obtain rfl := List.eq_nil_of_length_eq_zero h
    exact ev_of_eq fun k => rfl
  · have h' : ¬ (l.length : Int) = 0 := by omega
    simp only [h', h, ↓reduceIte, decide_false, Bool.false_or]
    exact Ev.bind (impl_IsPattern_ev l hl) (Ev.now _)

/-! impl_IsRules -/
theorem impl_IsRules_ev (a0 a1 : Int) (a2 a3 : Bool) (l4 l5 : List Int) (a6 a7 : Int) (h4 : l4.length ≤ 1048576) (h5 : l5.length ≤ 1048576) :
    Ev (fun k => impl_IsRules.f k a0 a1 a2 a3 l4 l5 a6 a7) (isRulesM a0 a1 a2 a3 l4 l5 a6 a7) := by
  have tail : Ev (fun k => (impl_isMaybe.f k l4).bind fun t => (if t = true then ((impl_isMaybe.f k l5).bind fun t => (if t = true then ((impl_InRange.f a6 1 4).bind fun t => (if t = true then ((impl_InRange.f a7 1 400).bind fun t => (some t)) else (some false))) else (some false))) else (some false)))
      (maybeM l4 && (maybeM l5 && (decide (1 ≤ a6 ∧ a6 ≤ 4) && decide (1 ≤ a7 ∧ a7 ≤ 400)))) := by
    refine Ev.bind (impl_isMaybe_ev l4 (by omega)) ?_
    cases maybeM l4
    · exact Ev.now _
    · refine Ev.bind (impl_isMaybe_ev l5 (by omega)) ?_
      cases maybeM l5
      · exact Ev.now _
      · refine ev_of_eq fun k => ?_
        simp only [impl_InRange_f, Option.bind_some, ↓reduceIte]
        cases decide (1 ≤ a6 ∧ a6 ≤ 4) <;> simp
  simp only [impl_IsRules.f]
  simp only [impl_InRange_f, Option.bind_some] at tail ⊢
  unfold isRulesM
  cases decide (2 ≤ a0 ∧ a0 ≤ 6)
  · exact Ev.now _
  · cases decide (1 ≤ a1 ∧ a1 ≤ 8)
    · exact Ev.now _
    · cases a2
      · cases a3
        · exact Ev.now _
        · simpa using tail
      · simpa using tail

/-! impl_RankOf -/
theorem impl_RankOf_f (a : Int) : impl_RankOf.f a = some (rankM a) := by
  unfold impl_RankOf.f
  rw [impl_IsCard_f]
  unfold rankM isCardM
  by_cases h : 0 ≤ a ∧ a ≤ 51
  · simp [h, tmod13 a h.1]
  · simp [h]

/-! impl_SuitOf -/
theorem impl_SuitOf_f (a : Int) : impl_SuitOf.f a = some (suitM a) := by
  unfold impl_SuitOf.f
  rw [impl_IsCard_f]
  unfold suitM isCardM
  by_cases h : 0 ≤ a ∧ a ≤ 51
  · simp [h, tdiv13 a h.1 h.2]
  · simp [h]

/-! impl_IsRed -/
theorem impl_IsRed_f (c : Int) : impl_IsRed.f c = some (isRedM c) := by
  simp only [impl_IsRed.f, impl_SuitOf_f, Option.bind_some, isRedM]
  by_cases h : suitM c = 1
  · simp [h]
  · simp only [h, ↓reduceIte]
    congr 1
    rw [Bool.eq_iff_iff]
    simp
    omega

/-! impl_asks -/
theorem impl_ask_f (s c : Int) : impl_asks.f s c = some (askM s c) := by
  unfold impl_asks.f askM
  by_cases h1 : s = 400
  · simp only [h1, ↓reduceIte, impl_IsRed_f, Option.bind_some]
  · by_cases h2 : s ≥ 300
    · simp only [h1, h2, ↓reduceIte, impl_RankOf_f, Option.bind_some]
    · by_cases h3 : s ≥ 200
      · simp only [h1, h2, h3, ↓reduceIte, impl_RankOf_f, Option.bind_some]
      · simp only [h1, h2, h3, ↓reduceIte, impl_SuitOf_f, Option.bind_some]

/-! impl_Matches -/
theorem impl_Matches_l0 (p : List Int) (c : Int) (hl : p.length ≤ 20) (hp : patF p 0 = some 1) : Ev (fun k => impl_Matches.l0 k c [] p (p.length : Int) 0) (matchF c p []) := by
  suffices H : ∀ x : List Bool, (x.length : Int) ≤ 0 → patF p (x.length : Int) = some 1 → Ev (fun k => impl_Matches.l0 k c x p (p.length : Int) 0) (matchF c p x) from H [] (by simp) hp
  refine loop_int p (by omega) (P := fun i rest => ∀ x : List Bool, (x.length : Int) ≤ i → patF rest (x.length : Int) = some 1 → Ev (fun k => impl_Matches.l0 k c x p (p.length : Int) i) (matchF c rest x)) ?_ ?_
  · intro x hx he
    have h1 : 0 < (x.length : Int) := by simp only [patF, Option.some.injEq] at he; omega
    refine ev_succ (ev_of_eq fun k => ?_)
    simp only [impl_Matches.l0, Int.lt_irrefl, h1, ↓reduceIte, matchF]
  · intro i s rest h0 h1 hs hm hw ih x hx he
    refine ev_succ ?_
    have b : x.length < 140737488355328 := by omega
    have w1 : wrap64 ((x.length : Int) - 1) = (x.length : Int) - 1 := w64 (by omega) (by omega)
    have w2 : wrap64 ((x.length : Int) - 2) = (x.length : Int) - 2 := w64 (by omega) (by omega)
    rcases patF_step he with ⟨e1, e2, e3, e4⟩ | ⟨e1, e2, e4⟩ | ⟨e1, e2, e4⟩
    · simp only [impl_Matches.l0, h1, h0, hs, e1, e2, e3, b, hw, ↓reduceIte, impl_ask_f, Option.bind_some, matchF]
      exact ih (x ++ [askM s c]) (by simp; omega) (by simpa using e4)
    · have g1 : 0 ≤ (x.length : Int) - 1 := by omega
      have g2 : (x.length : Int) - 1 < (x.length : Int) := by omega
      simp only [impl_Matches.l0, h1, h0, hs, e1, w1, g1, g2, hw, ↓reduceIte, matchF]
      exact ih _ (by rw [List.length_set]; omega) (by rw [List.length_set]; exact e4)
    · have g1 : 0 ≤ (x.length : Int) - 2 := by omega
      have g2 : (x.length : Int) - 2 < (x.length : Int) := by omega
      have g3 : (x.length : Int) - 2 ≤ (x.length : Int) := by omega
      have g4 : 0 ≤ (x.length : Int) - 1 := by omega
      have g5 : (x.length : Int) - 1 < (x.length : Int) := by omega
      have tl : (x.take ((x.length : Int) - 2).toNat).length = ((x.length : Int) - 2).toNat := by rw [List.length_take]; omega
      have g6 : (x.take ((x.length : Int) - 2).toNat).length < 140737488355328 := by omega
      have nx : ∀ y : Bool, Ev (fun k => impl_Matches.l0 k c (x.take ((x.length : Int) - 2).toNat ++ [y]) p (p.length : Int) (i + 1)) (matchF c rest (x.take ((x.length : Int) - 2).toNat ++ [y])) := by
        intro y
        have ln : ((x.take ((x.length : Int) - 2).toNat ++ [y]).length : Int) = (x.length : Int) - 1 := by rw [List.length_append, tl]; simp; omega
        exact ih _ (by omega) (by rw [ln]; exact e4)
      rcases e1 with e1 | e1
      · have z : ¬ (-2 : Int) = -1 := by omega
        cases hv : rdOf false x ((x.length : Int) - 2)
        · simp only [impl_Matches.l0, h1, h0, hs, e1, z, w1, w2, g1, g2, g3, g4, g5, g6, hv, hw, Option.bind_some, Bool.false_eq_true, Bool.false_and, ↓reduceIte, matchF]
          exact nx false
        · simp only [impl_Matches.l0, h1, h0, hs, e1, z, w1, w2, g1, g2, g3, g4, g5, g6, hv, hw, Option.bind_some, Bool.true_and, ↓reduceIte, matchF]
          exact nx _
      · have z : ¬ (-3 : Int) = -1 := by omega
        have z2 : ¬ (-3 : Int) = -2 := by omega
        cases hv : rdOf false x ((x.length : Int) - 2)
        · simp only [impl_Matches.l0, h1, h0, hs, e1, z, z2, w1, w2, g1, g2, g3, g4, g5, g6, hv, hw, Option.bind_some, Bool.false_eq_true, Bool.false_or, ↓reduceIte, matchF]
          exact nx _
        · simp only [impl_Matches.l0, h1, h0, hs, e1, z, z2, w1, w2, g1, g2, g3, g4, g5, g6, hv, hw, Option.bind_some, Bool.true_or, ↓reduceIte, matchF]
          exact nx true
theorem impl_Matches_ev (p : List Int) (c : Int) (hl : p.length ≤ 1099511627776) : Ev (fun k => impl_Matches.f k p c) (matchM p c) := by
  simp only [impl_Matches.f, impl_IsCard_f, Option.bind_some, matchM]
  refine Ev.bind (impl_IsPattern_ev p hl) ?_
  cases hp : isPatM p
  · simp only [Bool.false_eq_true, ↓reduceIte, Bool.false_and]
    exact ev_succ (ev_of_eq fun k => by simp only [impl_Matches.j0, ↓reduceIte])
  · simp only [↓reduceIte, Bool.true_and]
    refine ev_succ ?_
    cases hc : isCardM c
    · exact ev_of_eq fun k => by simp only [impl_Matches.j0, Bool.not_false, ↓reduceIte, Bool.false_and]
    · simp only [impl_Matches.j0, Bool.not_true, Bool.false_eq_true, ↓reduceIte, Bool.true_and]
      obtain ⟨h1, h2⟩ := isPatM_run hp
      exact impl_Matches_l0 p c h2 h1

/-! impl_FitsOn -/
theorem impl_FitsOn_ev (a0 a1 : Int) (a2 a3 : Bool) (l4 l5 : List Int) (a6 a7 t c : Int) (h4 : l4.length ≤ 1048576) (h5 : l5.length ≤ 1048576) :
    Ev (fun k => impl_FitsOn.f k a0 a1 a2 a3 l4 l5 a6 a7 t c) (isRulesM a0 a1 a2 a3 l4 l5 a6 a7 && (isCardM t && (isCardM c && ((a2 && decide (suitM c = suitM t)) || ((a3 && decide (rankM c = rankM t)) || matchM l4 c))))) := by
  simp only [impl_FitsOn.f, impl_IsCard_f, Option.bind_some]
  refine Ev.bind (impl_IsRules_ev a0 a1 a2 a3 l4 l5 a6 a7 h4 h5) ?_
  have no : ∀ v : Bool, v = false → Ev (fun k => impl_FitsOn.j0 k t c true a0 a1 a2 a3 l4 l5 a6 a7) v := by
    intro v hv
    exact ev_succ (ev_of_eq fun k => by simp only [impl_FitsOn.j0, ↓reduceIte, hv])
  cases isRulesM a0 a1 a2 a3 l4 l5 a6 a7
  · simp only [Bool.false_eq_true, ↓reduceIte, Bool.false_and]
    exact no _ rfl
  · simp only [↓reduceIte, Bool.true_and]
    cases isCardM t
    · simp only [Bool.false_eq_true, ↓reduceIte, Bool.false_and]
      exact no _ rfl
    · simp only [↓reduceIte, Bool.true_and]
      cases isCardM c
      · simp only [Bool.not_false, Bool.false_and]
        exact no _ rfl
      · simp only [Bool.not_true, Bool.true_and]
        refine ev_succ ?_
        have mt : Ev (fun k => (impl_Matches.f k l4 c).bind fun x => some x) (matchM l4 c) := Ev.bind (impl_Matches_ev l4 c (by omega)) (Ev.now _)
        simp only [impl_FitsOn.j0, impl_SuitOf_f, impl_RankOf_f, Option.bind_some, Bool.false_eq_true, ↓reduceIte]
        by_cases h1 : suitM c = suitM t <;> by_cases h2 : rankM c = rankM t <;> cases a2 <;> cases a3 <;> simp only [h1, h2, decide_true, decide_false, Bool.and_self, Bool.and_true, Bool.and_false, Bool.true_and, Bool.false_and, Bool.true_or, Bool.false_or, Bool.or_true, Bool.or_false, Bool.false_eq_true, ↓reduceIte] <;> first | exact Ev.now _ | exact mt

/-! spec_DrawFitCount -/
theorem spec_DrawFitCount_ex (d : List Int) (hd : d.length ≤ 1048576) : ∃ (x0 x1 : Int) (b2 b3 : Bool) (l4 l5 : List Int) (x6 x7 a : Int), Ev (fun k => spec_DrawFitCount.f k d) (x0, x1, b2, b3, l4, l5, x6, x7, a) ∧ l4.length ≤ 7 ∧ l5.length ≤ 7 := by
  obtain ⟨g, e⟩ := spec_l1New_ex d hd
  obtain ⟨⟨x0, x1, b2, b3, l4, l5, x6, x7, q, g1⟩, e1, h4, h5, hq⟩ := spec_l22Any_ex d hd 0 g (by omega)
  simp only at h4 h5 hq
  obtain ⟨a, q2, g2, e2, hq2⟩ := spec_l4Card_ex d q g1 hq hd
  refine ⟨x0, x1, b2, b3, l4, l5, x6, x7, a, ?_, h4, h5⟩
  simp only [spec_DrawFitCount.f]
  exact Ev.bind e (Ev.bind e1 (ev_of_eq fun k => by simp only [e2, Option.bind_some]))

/-! impl_FitCount -/
theorem impl_FitCount_ev (a0 a1 : Int) (a2 a3 : Bool) (l4 l5 : List Int) (a6 a7 t : Int) (h4 : l4.length ≤ 1048576) (h5 : l5.length ≤ 1048576) :
    Ev (fun k => impl_FitCount.f k a0 a1 a2 a3 l4 l5 a6 a7 t) (fitF (fitsM a0 a1 a2 a3 l4 l5 a6 a7 t) t 52 0) := by
  simp only [impl_FitCount.f]
  suffices H : ∀ n : Int, 0 ≤ n → n ≤ 0 → Ev (fun k => impl_FitCount.l0 k t n 0 a0 a1 a2 a3 l4 l5 a6 a7) (n + fitF (fitsM a0 a1 a2 a3 l4 l5 a6 a7 t) t 52 0) by simpa using H 0 (by omega) (by omega)
  refine loop_up 52 (by omega) (P := fun i m => ∀ n : Int, 0 ≤ n → n ≤ i → Ev (fun k => impl_FitCount.l0 k t n i a0 a1 a2 a3 l4 l5 a6 a7) (n + fitF (fitsM a0 a1 a2 a3 l4 l5 a6 a7 t) t m i)) ?_ ?_
  · intro n _ _
    refine ev_succ (ev_of_eq fun k => ?_)
    have c : ¬ ((52 : Nat) : Int) < 52 := by omega
    simp only [impl_FitCount.l0, c, ↓reduceIte, fitF, Int.add_zero]
  · intro i m h0 h1 hm hw ih n hn0 hn1
    have c : i < 52 := by omega
    refine ev_succ ?_
    by_cases e : i = t
    · subst e
      simp only [impl_FitCount.l0, c, ↓reduceIte, fitF, hw]
      exact ih n hn0 (by omega)
    · simp only [impl_FitCount.l0, c, e, ↓reduceIte, fitF, hw]
      refine Ev.bind (impl_FitsOn_ev a0 a1 a2 a3 l4 l5 a6 a7 t i h4 h5) ?_
      show Ev (fun k => if fitsM a0 a1 a2 a3 l4 l5 a6 a7 t i = true then _ else _) _
      cases fitsM a0 a1 a2 a3 l4 l5 a6 a7 t i
      · simp only [Bool.false_eq_true, ↓reduceIte]
        exact ih n hn0 (by omega)
      · simp only [↓reduceIte]
        rw [w64 (by omega) (by omega)]
        exact ev_eq (ih (n + 1) (by omega) (by omega)) (by omega)

/-! spec_l22Copy -/
theorem spec_l22Copy_f (a0 a1 : Int) (a2 a3 : Bool) (l4 l5 : List Int) (a6 a7 : Int) (h4 : l4.length ≤ 1048576) (h5 : l5.length ≤ 1048576) : spec_l22Copy.f a0 a1 a2 a3 l4 l5 a6 a7 = some (a0, a1, a2, a3, l4, l5, a6, a7) := by
  have g4 : ([] : List Int).length + l4.length < 17592186044416 := by simp only [List.length_nil]; omega
  have g5 : ([] : List Int).length + l5.length < 17592186044416 := by simp only [List.length_nil]; omega
  simp only [spec_l22Copy.f, Option.bind_some, g4, g5, ↓reduceIte, List.nil_append]

/-! spec_DrawEqualRules -/
theorem spec_DrawEqualRules_ex (d : List Int) (hd : d.length ≤ 1048576) : ∃ (x0 x1 : Int) (b2 b3 : Bool) (l4 l5 : List Int) (x6 x7 y0 y1 : Int) (c2 c3 : Bool) (m4 m5 : List Int) (y6 y7 : Int), Ev (fun k => spec_DrawEqualRules.f k d) (x0, x1, b2, b3, l4, l5, x6, x7, y0, y1, c2, c3, m4, m5, y6, y7) ∧ l4.length ≤ 7 ∧ l5.length ≤ 7 ∧ m4.length ≤ 7 ∧ m5.length ≤ 7 := by
  obtain ⟨g, e⟩ := spec_l1New_ex d hd
  obtain ⟨⟨x0, x1, b2, b3, l4, l5, x6, x7, q, g1⟩, e1, h4, h5, hq⟩ := spec_l22Any_ex d hd 0 g (by omega)
  simp only at h4 h5 hq
  obtain ⟨b, q2, g2, e2, hq2⟩ := spec_l1Once_ex d q g1 2 hq hd
  simp only [spec_DrawEqualRules.f]
  cases b
  · obtain ⟨⟨y0, y1, c2, c3, m4, m5, y6, y7, q3, g3⟩, e3, k4, k5, _⟩ := spec_l22Any_ex d hd q2 g2 hq2
    refine ⟨x0, x1, b2, b3, l4, l5, x6, x7, y0, y1, c2, c3, m4, m5, y6, y7, Ev.bind e (Ev.bind e1 ?_), h4, h5, k4, k5⟩
    simp only [e2, Option.bind_some, Bool.false_eq_true, ↓reduceIte]
    exact Ev.bind e3 (Ev.now _)
  · refine ⟨x0, x1, b2, b3, l4, l5, x6, x7, x0, x1, b2, b3, l4, l5, x6, x7, Ev.bind e (Ev.bind e1 ?_), h4, h5, h4, h5⟩
    have e3 := spec_l22Copy_f x0 x1 b2 b3 l4 l5 x6 x7 (by omega) (by omega)
    exact ev_of_eq fun k => by simp only [e2, e3, Option.bind_some, ↓reduceIte]

/-! impl_EqualInts -/
theorem impl_EqualInts_ev (a b : List Int) (ha : a.length ≤ 1099511627776) : Ev (fun k => impl_EqualInts.f k a b) (decide (a = b)) := by
  simp only [impl_EqualInts.f]
  by_cases h : a.length = b.length
  · have h' : (a.length : Int) = (b.length : Int) := by omega
    simp only [if_pos h']
    suffices H : ∀ b', b = b' → b'.length = a.length → Ev (fun k => impl_EqualInts.l0 k a b (a.length : Int) 0) (decide (a = b')) from H b rfl h.symm
    refine loop_int_pre a ha (P := fun i pre rest => ∀ b', b = b' → b'.length = a.length → Ev (fun k => impl_EqualInts.l0 k a b (a.length : Int) i) (decide (rest = b'.drop pre.length))) ?_ ?_
    · intro b' _ hb
      refine ev_succ (ev_of_eq fun k => ?_)
      simp only [impl_EqualInts.l0, Int.lt_irrefl, ↓reduceIte]
      rw [List.drop_of_length_le (by omega)]
      simp
    · intro i pre x rest hl hi h0 h1 hx hw ih b' hbb hb
      have h2 : i < (b.length : Int) := by omega
      have hp : pre.length < b'.length := by omega
      have hd : b'.drop pre.length = rd b i :: b'.drop (pre.length + 1) := by
        subst hbb
        rw [List.drop_eq_getElem_cons hp]
        unfold rd
        rw [hi, Int.toNat_natCast]
        simp [List.getD_eq_getElem?_getD, List.getElem?_eq_getElem hp]
      refine ev_succ ?_
      simp only [impl_EqualInts.l0, h1, h0, h2, ↓reduceIte, hx, hw, hd]
      by_cases g : x = rd b i
      · have := ih b' hbb hb
        rw [List.length_append, List.length_singleton] at this
        simp only [g, ↓reduceIte, List.cons.injEq, true_and]
        exact this
      · refine ev_of_eq fun k => ?_
        simp [g]
  · have h' : ¬ (a.length : Int) = (b.length : Int) := by omega
    simp only [h', ↓reduceIte]
    refine ev_of_eq fun k => ?_
    have : ¬ a = b := fun e => h (by rw [e])
    simp [this]

/-! impl_EqualRules -/
theorem impl_EqualRules_ev (a0 a1 : Int) (a2 a3 : Bool) (l4 l5 : List Int) (a6 a7 : Int) (b0 b1 : Int) (b2 b3 : Bool) (m4 m5 : List Int) (b6 b7 : Int) (h4 : l4.length ≤ 1048576) (h5 : l5.length ≤ 1048576) :
    Ev (fun k => impl_EqualRules.f k a0 a1 a2 a3 l4 l5 a6 a7 b0 b1 b2 b3 m4 m5 b6 b7) (decide (a0 = b0 ∧ a1 = b1 ∧ a2 = b2 ∧ a3 = b3 ∧ l4 = m4 ∧ l5 = m5 ∧ a6 = b6 ∧ a7 = b7)) := by
  simp only [impl_EqualRules.f, beq_iff_eq]
  by_cases c0 : a0 = b0
  · by_cases c1 : a1 = b1
    · by_cases c2 : a2 = b2
      · by_cases c3 : a3 = b3
        · by_cases c6 : a6 = b6
          · by_cases c7 : a7 = b7
            · simp only [c0, c1, c2, c3, c6, c7, ↓reduceIte]
              refine Ev.bind (impl_EqualInts_ev l4 m4 (by omega)) ?_
              by_cases c4 : l4 = m4
              · simp only [c4, decide_true, ↓reduceIte]
                refine Ev.bind (impl_EqualInts_ev l5 m5 (by omega)) ?_
                refine ev_of_eq fun k => ?_
                by_cases c5 : l5 = m5 <;> simp [c5]
              · refine ev_of_eq fun k => ?_
                simp [c4]
            · refine ev_of_eq fun k => ?_
              simp [c7]
          · refine ev_of_eq fun k => ?_
            simp [c6]
        · refine ev_of_eq fun k => ?_
          simp [c3]
      · refine ev_of_eq fun k => ?_
        simp [c2]
    · refine ev_of_eq fun k => ?_
      simp [c1]
  · refine ev_of_eq fun k => ?_
    simp [c0]

/-! impl_DoesSkip -/
theorem impl_DoesSkip_ev (a0 a1 : Int) (a2 a3 : Bool) (l4 l5 : List Int) (a6 a7 c : Int) (h4 : l4.length ≤ 1048576) (h5 : l5.length ≤ 1048576) :
    Ev (fun k => impl_DoesSkip.f k a0 a1 a2 a3 l4 l5 a6 a7 c) (isRulesM a0 a1 a2 a3 l4 l5 a6 a7 && matchM l5 c) := by
  simp only [impl_DoesSkip.f]
  refine Ev.bind (impl_IsRules_ev a0 a1 a2 a3 l4 l5 a6 a7 h4 h5) ?_
  cases isRulesM a0 a1 a2 a3 l4 l5 a6 a7
  · exact ev_of_eq fun k => by simp only [Bool.false_eq_true, ↓reduceIte, Bool.false_and]
  · simp only [↓reduceIte, Bool.true_and]
    exact Ev.bind (impl_Matches_ev l5 c (by omega)) (Ev.now _)

-- uses: LibM
theorem fitF_range (g : Int → Bool) (t : Int) : ∀ (n : Nat) (i : Int), 0 ≤ fitF g t n i ∧ fitF g t n i ≤ n ∧ (i ≤ t → t < i + n → fitF g t n i ≤ (n : Int) - 1) := by
  intro n
  induction n with
  | zero => intro i; simp only [fitF]; omega
  | succ n ih =>
    intro i
    have h := ih (i + 1)
    unfold fitF
    split
    · omega
    · split <;> omega
theorem fitF_zero (g : Int → Bool) (t : Int) (hg : ∀ j, g j = false) : ∀ (n : Nat) (i : Int), fitF g t n i = 0 := by
  intro n
  induction n with
  | zero => intro i; rfl
  | succ n ih => intro i; unfold fitF; rw [hg i, ih]; simp
theorem fitF_pos (g : Int → Bool) (t j : Int) (hj : j ≠ t) (hg : g j = true) : ∀ (n : Nat) (i : Int), i ≤ j → j < i + n → 0 < fitF g t n i := by
  intro n
  induction n with
  | zero => intro i h0 h1; omega
  | succ n ih =>
    intro i h0 h1
    have r := (fitF_range g t n (i + 1)).1
    unfold fitF
    by_cases e : j = i
    · subst e
      rw [if_neg hj, if_pos hg]; omega
    · have h := ih (i + 1) (by omega) (by omega)
      split
      · exact h
      · split <;> omega
theorem rules_same {a0 a1 : Int} {a2 a3 : Bool} {l4 l5 : List Int} {a6 a7 : Int} (h : isRulesM a0 a1 a2 a3 l4 l5 a6 a7 = true) : (a2 || a3) = true := by
  unfold isRulesM at h
  simp only [Bool.and_eq_true] at h
  exact h.2.2.1
theorem fit_count (a0 a1 : Int) (a2 a3 : Bool) (l4 l5 : List Int) (a6 a7 t : Int) : 0 ≤ fitF (fitsM a0 a1 a2 a3 l4 l5 a6 a7 t) t 52 0 ∧ fitF (fitsM a0 a1 a2 a3 l4 l5 a6 a7 t) t 52 0 < 52 ∧ decide (fitF (fitsM a0 a1 a2 a3 l4 l5 a6 a7 t) t 52 0 > 0) = (isRulesM a0 a1 a2 a3 l4 l5 a6 a7 && isCardM t) := by
  have hr := fitF_range (fitsM a0 a1 a2 a3 l4 l5 a6 a7 t) t 52 0
  cases hR : isRulesM a0 a1 a2 a3 l4 l5 a6 a7
  · have z := fitF_zero (fitsM a0 a1 a2 a3 l4 l5 a6 a7 t) t (fun j => by unfold fitsM; rw [hR, Bool.false_and]) 52 0
    rw [z]; exact ⟨by omega, by omega, rfl⟩
  · cases hT : isCardM t
    · have z := fitF_zero (fitsM a0 a1 a2 a3 l4 l5 a6 a7 t) t (fun j => by unfold fitsM; rw [hT, Bool.false_and, Bool.and_false]) 52 0
      rw [z]; exact ⟨by omega, by omega, rfl⟩
    · have ht := (isCardM_iff t).mp hT
      have hs := rules_same hR
      have hp : 0 < fitF (fitsM a0 a1 a2 a3 l4 l5 a6 a7 t) t 52 0 := by
        cases ha : a2
        · rw [ha, Bool.false_or] at hs
          have hj : ∃ j : Int, 0 ≤ j ∧ j ≤ 51 ∧ j ≠ t ∧ j % 13 = t % 13 := by
            by_cases c : t ≤ 38
            · exact ⟨t + 13, by omega, by omega, by omega, by omega⟩
            · exact ⟨t - 13, by omega, by omega, by omega, by omega⟩
          obtain ⟨j, j0, j1, j2, j3⟩ := hj
          refine fitF_pos _ t j j2 ?_ 52 0 (by omega) (by omega)
          have hJ : isCardM j = true := (isCardM_iff j).mpr ⟨j0, j1⟩
          have hrk : rankM j = rankM t := by unfold rankM; rw [if_pos ⟨j0, j1⟩, if_pos ht, j3]
          unfold fitsM
          rw [ha] at hR
          rw [hR, hT, hJ, hs, decide_eq_true hrk]
          simp
        · have hj : ∃ j : Int, 0 ≤ j ∧ j ≤ 51 ∧ j ≠ t ∧ j / 13 = t / 13 := by
            by_cases c : t % 13 = 0
            · exact ⟨t + 1, by omega, by omega, by omega, by omega⟩
            · exact ⟨t - 1, by omega, by omega, by omega, by omega⟩
          obtain ⟨j, j0, j1, j2, j3⟩ := hj
          refine fitF_pos _ t j j2 ?_ 52 0 (by omega) (by omega)
          have hJ : isCardM j = true := (isCardM_iff j).mpr ⟨j0, j1⟩
          have hst : suitM j = suitM t := by unfold suitM; rw [if_pos ⟨j0, j1⟩, if_pos ht, j3]
          unfold fitsM
          rw [ha] at hR
          rw [hR, hT, hJ, decide_eq_true hst]
          simp
      have h3 := hr.2.2 ht.1 (by omega)
      refine ⟨by omega, by omega, ?_⟩
      rw [decide_eq_true hp]; rfl
theorem easy_ok : isRulesM 3 5 true true [206] [212] 1 200 = true := by decide
theorem fits_comm (a0 a1 : Int) (a2 a3 : Bool) (l5 : List Int) (a6 a7 t c : Int) : fitsM a0 a1 a2 a3 [] l5 a6 a7 t c = fitsM a0 a1 a2 a3 [] l5 a6 a7 c t := by
  have m : ∀ x : Int, matchM [] x = false := fun x => by unfold matchM; rw [show isPatM [] = false from rfl, Bool.false_and]
  unfold fitsM
  rw [m, m]
  have e1 : decide (suitM c = suitM t) = decide (suitM t = suitM c) := decide_eq_decide.mpr ⟨Eq.symm, Eq.symm⟩
  have e2 : decide (rankM c = rankM t) = decide (rankM t = rankM c) := decide_eq_decide.mpr ⟨Eq.symm, Eq.symm⟩
  rw [e1, e2]
  cases isRulesM a0 a1 a2 a3 [] l5 a6 a7 <;> cases isCardM t <;> cases isCardM c <;> rfl
theorem FnRules_j0 (d : List Int) (hd : d.length ≤ 1048576) (a b c : Int) (b2 b3 : Bool) (l4 l5 : List Int) (a6 a7 : Int) (h4 : l4.length ≤ 7) (h5 : l5.length ≤ 7) :
    Ev (fun k => laws_FnRules.j0 k d a false b c b2 b3 l4 l5 a6 a7) true := by
  obtain ⟨x0, x1, p2, p3, q4, q5, x6, x7, t, ec, k4, k5⟩ := spec_DrawFitCount_ex d hd
  obtain ⟨u0, u1, v2, v3, m4, m5, u6, u7, y0, y1, w2, w3, n4, n5, y6, y7, ee, j4, j5, i4, i5⟩ := spec_DrawEqualRules_ex d hd
  obtain ⟨f0, f1, f2⟩ := fit_count x0 x1 p2 p3 q4 q5 x6 x7 t
  have f0' : fitF (fitsM x0 x1 p2 p3 q4 q5 x6 x7 t) t 52 0 ≥ 0 := f0
  have es : decide (u0 = y0 ∧ u1 = y1 ∧ v2 = w2 ∧ v3 = w3 ∧ m4 = n4 ∧ m5 = n5 ∧ u6 = y6 ∧ u7 = y7) = decide (y0 = u0 ∧ y1 = u1 ∧ w2 = v2 ∧ w3 = v3 ∧ n4 = m4 ∧ n5 = m5 ∧ y6 = u6 ∧ y7 = u7) :=
    decide_eq_decide.mpr ⟨fun ⟨h0, h1, h2, h3, h4, h5, h6, h7⟩ => ⟨h0.symm, h1.symm, h2.symm, h3.symm, h4.symm, h5.symm, h6.symm, h7.symm⟩, fun ⟨h0, h1, h2, h3, h4, h5, h6, h7⟩ => ⟨h0.symm, h1.symm, h2.symm, h3.symm, h4.symm, h5.symm, h6.symm, h7.symm⟩⟩
  have tail : Ev (fun k => (impl_DoesSkip.f k b c b2 b3 l4 l5 a6 a7 a).bind fun t599 => (if t599 = true then ((impl_IsRules.f k b c b2 b3 l4 l5 a6 a7).bind fun t600 => (some t600)) else (some true))) true := by
    refine Ev.bind (impl_DoesSkip_ev b c b2 b3 l4 l5 a6 a7 a (by omega) (by omega)) ?_
    cases hR : isRulesM b c b2 b3 l4 l5 a6 a7
    · exact ev_of_eq fun k => by simp only [Bool.false_and, Bool.false_eq_true, ↓reduceIte]
    · cases matchM l5 a
      · exact ev_of_eq fun k => by simp only [Bool.and_false, Bool.false_eq_true, ↓reduceIte]
      · simp only [Bool.and_self, ↓reduceIte]
        exact ev_eq (Ev.bind (impl_IsRules_ev b c b2 b3 l4 l5 a6 a7 (by omega) (by omega)) (Ev.now _)) hR
  refine ev_succ ?_
  simp only [laws_FnRules.j0, Bool.false_eq_true, ↓reduceIte]
  refine Ev.bind ec ?_
  refine Ev.bind (impl_FitCount_ev x0 x1 p2 p3 q4 q5 x6 x7 t (by omega) (by omega)) ?_
  refine Ev.bind ee ?_
  simp only [f0', f1, f2, ↓reduceIte]
  refine Ev.bind (impl_IsRules_ev x0 x1 p2 p3 q4 q5 x6 x7 (by omega) (by omega)) ?_
  cases isRulesM x0 x1 p2 p3 q4 q5 x6 x7
  · simp only [Bool.false_and, Bool.false_eq_true, ↓reduceIte, beq_self_eq_true, impl_EasyRules.f, Option.bind_some]
    refine Ev.bind (impl_IsRules_ev 3 5 true true [206] [212] 1 200 (by simp) (by simp)) ?_
    simp only [easy_ok, ↓reduceIte]
    refine Ev.bind (impl_EqualRules_ev u0 u1 v2 v3 m4 m5 u6 u7 y0 y1 w2 w3 n4 n5 y6 y7 (by omega) (by omega)) ?_
    refine Ev.bind (impl_EqualRules_ev y0 y1 w2 w3 n4 n5 y6 y7 u0 u1 v2 v3 m4 m5 u6 u7 (by omega) (by omega)) ?_
    simp only [es, beq_self_eq_true, ↓reduceIte]
    refine Ev.bind (impl_EqualRules_ev u0 u1 v2 v3 m4 m5 u6 u7 u0 u1 v2 v3 m4 m5 u6 u7 (by omega) (by omega)) ?_
    simp only [and_self, decide_true, ↓reduceIte]
    exact tail
  · simp only [Bool.true_and, ↓reduceIte, impl_IsCard_f, Option.bind_some, beq_self_eq_true, impl_EasyRules.f]
    refine Ev.bind (impl_IsRules_ev 3 5 true true [206] [212] 1 200 (by simp) (by simp)) ?_
    simp only [easy_ok, ↓reduceIte]
    refine Ev.bind (impl_EqualRules_ev u0 u1 v2 v3 m4 m5 u6 u7 y0 y1 w2 w3 n4 n5 y6 y7 (by omega) (by omega)) ?_
    refine Ev.bind (impl_EqualRules_ev y0 y1 w2 w3 n4 n5 y6 y7 u0 u1 v2 v3 m4 m5 u6 u7 (by omega) (by omega)) ?_
    simp only [es, beq_self_eq_true, ↓reduceIte]
    refine Ev.bind (impl_EqualRules_ev u0 u1 v2 v3 m4 m5 u6 u7 u0 u1 v2 v3 m4 m5 u6 u7 (by omega) (by omega)) ?_
    simp only [and_self, decide_true, ↓reduceIte]
    exact tail
theorem FnRules : laws_FnRules.Pure := by
  intro d _ _ _
  refine Ev.rounds (g := fun k => laws_FnRules.f k d) ?_
  by_cases hb : (d.length : Int) > 1048576
  · exact ev_of_eq fun k => by simp only [laws_FnRules.f, laws_big.f, Option.bind_some, hb, decide_true, ↓reduceIte]
  have hd : d.length ≤ 1048576 := by omega
  obtain ⟨x0, x1, b2, b3, l4, l5, x6, x7, a, b, e, h4, h5⟩ := spec_DrawFitsOn_ex d hd
  have J := FnRules_j0 d hd a x0 x1 b2 b3 l4 l5 x6 x7 h4 h5
  have F1 : Ev (fun k => impl_FitsOn.f k x0 x1 b2 b3 l4 l5 x6 x7 a b) (fitsM x0 x1 b2 b3 l4 l5 x6 x7 a b) := impl_FitsOn_ev x0 x1 b2 b3 l4 l5 x6 x7 a b (by omega) (by omega)
  have F2 : Ev (fun k => impl_FitsOn.f k x0 x1 b2 b3 l4 l5 x6 x7 b a) (fitsM x0 x1 b2 b3 l4 l5 x6 x7 b a) := impl_FitsOn_ev x0 x1 b2 b3 l4 l5 x6 x7 b a (by omega) (by omega)
  have hF : fitsM x0 x1 b2 b3 l4 l5 x6 x7 a b = true → isRulesM x0 x1 b2 b3 l4 l5 x6 x7 = true := fun h => by unfold fitsM at h; simp only [Bool.and_eq_true] at h; exact h.1
  have hW : isRulesM x0 x1 b2 b3 l4 l5 x6 x7 = true → isCardM a = true → matchM l4 b = true → fitsM x0 x1 b2 b3 l4 l5 x6 x7 a b = true := fun h1 h2 h3 => by
    have hb : isCardM b = true := by unfold matchM at h3; simp only [Bool.and_eq_true] at h3; exact h3.2.1
    unfold fitsM; rw [h1, h2, h3, hb]; simp
  have IR := impl_IsRules_ev x0 x1 b2 b3 l4 l5 x6 x7 (by omega) (by omega)
  -- what is asked last: what fits has good rules
  have last : Ev (fun k => if fitsM x0 x1 b2 b3 l4 l5 x6 x7 a b = true then ((impl_IsRules.f k x0 x1 b2 b3 l4 l5 x6 x7).bind fun t => (laws_FnRules.j0 k d a (!t) x0 x1 b2 b3 l4 l5 x6 x7)) else (laws_FnRules.j0 k d a false x0 x1 b2 b3 l4 l5 x6 x7)) true := by
    cases hf : fitsM x0 x1 b2 b3 l4 l5 x6 x7 a b
    · simp only [Bool.false_eq_true, ↓reduceIte]
      exact J
    · simp only [↓reduceIte]
      refine Ev.bind IR ?_
      rw [hF hf]
      exact J
  have mid : Ev (fun k => (impl_IsRules.f k x0 x1 b2 b3 l4 l5 x6 x7).bind fun t => if t = true then ((impl_IsCard.f a).bind fun t527 => (if t527 = true then ((impl_Matches.f k l4 b).bind fun t528 => (if t528 = true then (if fitsM x0 x1 b2 b3 l4 l5 x6 x7 a b = true then ((impl_IsRules.f k x0 x1 b2 b3 l4 l5 x6 x7).bind fun t => (laws_FnRules.j0 k d a (!t) x0 x1 b2 b3 l4 l5 x6 x7)) else (laws_FnRules.j0 k d a true x0 x1 b2 b3 l4 l5 x6 x7)) else (if fitsM x0 x1 b2 b3 l4 l5 x6 x7 a b = true then ((impl_IsRules.f k x0 x1 b2 b3 l4 l5 x6 x7).bind fun t => (laws_FnRules.j0 k d a (!t) x0 x1 b2 b3 l4 l5 x6 x7)) else (laws_FnRules.j0 k d a false x0 x1 b2 b3 l4 l5 x6 x7)))) else (if fitsM x0 x1 b2 b3 l4 l5 x6 x7 a b = true then ((impl_IsRules.f k x0 x1 b2 b3 l4 l5 x6 x7).bind fun t => (laws_FnRules.j0 k d a (!t) x0 x1 b2 b3 l4 l5 x6 x7)) else (laws_FnRules.j0 k d a false x0 x1 b2 b3 l4 l5 x6 x7)))) else (if fitsM x0 x1 b2 b3 l4 l5 x6 x7 a b = true then ((impl_IsRules.f k x0 x1 b2 b3 l4 l5 x6 x7).bind fun t => (laws_FnRules.j0 k d a (!t) x0 x1 b2 b3 l4 l5 x6 x7)) else (laws_FnRules.j0 k d a false x0 x1 b2 b3 l4 l5 x6 x7))) true := by
    refine Ev.bind IR ?_
    cases hR : isRulesM x0 x1 b2 b3 l4 l5 x6 x7
    · simp only [Bool.false_eq_true, ↓reduceIte]
      exact last
    · simp only [↓reduceIte, impl_IsCard_f, Option.bind_some]
      cases hA : isCardM a
      · simp only [Bool.false_eq_true, ↓reduceIte]
        exact last
      · simp only [↓reduceIte]
        refine Ev.bind (impl_Matches_ev l4 b (by omega)) ?_
        cases hM : matchM l4 b
        · simp only [Bool.false_eq_true, ↓reduceIte]
          exact last
        · simp only [↓reduceIte]
          have hf := hW hR hA hM
          rw [hf] at last ⊢
          simp only [↓reduceIte] at last ⊢
          exact last
  simp only [laws_FnRules.f, laws_big.f, Option.bind_some, hb, decide_false, Bool.false_eq_true, ↓reduceIte]
  refine Ev.bind e ?_
  refine Ev.bind F1 ?_
  by_cases c : (l4.length : Int) = 0
  · have z : l4 = [] := List.length_eq_zero_iff.mp (by omega)
    simp only [c, ↓reduceIte]
    refine Ev.bind F2 ?_
    have hc : fitsM x0 x1 b2 b3 l4 l5 x6 x7 b a = fitsM x0 x1 b2 b3 l4 l5 x6 x7 a b := by rw [z]; exact fits_comm x0 x1 b2 b3 l5 x6 x7 b a
    simp only [hc, bne_self_eq_false, Bool.false_eq_true, ↓reduceIte]
    exact mid
  · simp only [c, ↓reduceIte]
    exact mid

end Go.Proofs.Ytdakhelapeojgaa.Pure
