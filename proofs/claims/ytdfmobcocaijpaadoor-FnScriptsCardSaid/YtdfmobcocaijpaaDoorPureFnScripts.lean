/- The program's FnScripts answers what the reference's answers, for all arguments. No condition but those that the statement itself names. -/
import Derived.Test.YtdfmobcocaijpaaDoorQFnScriptsx6
import Derived.Test.YtdfmobcocaijpaaDoorVLib
import Derived.Test.YtdfmobcocaijpaaDoorVLibM
namespace Go.Proofs.YtdfmobcocaijpaaDoor.Pure
open Go.RowKit Go.Proofs.YtdfmobcocaijpaaDoor.QFnScripts Go.Proofs.YtdfmobcocaijpaaDoorW.PrintWords Go.Proofs.YtdfmobcocaijpaaDoorW.PrintLast Go.Proofs.YtdfmobcocaijpaaDoorW.PrintMore Go.Proofs.YtdfmobcocaijpaaDoor.Lib
set_option linter.unusedVariables false
set_option linter.unusedSimpArgs false

/-! spec_l1New -/
theorem spec_l1New_ex (d : List Int) (hd : d.length ≤ 1048576) : ∃ g, Ev (fun k => spec_l1New.f k d) (d, 0, g) := by
 simp only [spec_l1New.f]
 generalize wrap64 (193017 + (d.length : Int)) = h
 revert h
 refine loop_int d (by omega) (P := fun i rest => ∀ h, ∃ g, Ev (fun k => spec_l1New.l0 k d h i) (d, 0, g)) ?_ ?_
 ·intro h
  exact ⟨h, ev_succ (ev_of_eq fun k => by simp only [spec_l1New.l0, Int.lt_irrefl, ↓reduceIte])⟩
 ·intro i x rest h0 h1 hx _ hw ih h
  by_cases c : i < 4000
  ·obtain ⟨g, e⟩ := ih (Go.bits .and .i64 (wrap64 ((wrap64 ((wrap64 (h * 137)) + (wrap64 (rd d i)))) + 11)) 1073741823)
   refine ⟨g, ev_succ ?_⟩
   simp only [spec_l1New.l0, h1, h0, c, hw, ↓reduceIte]
   exact e
  ·exact ⟨h, ev_succ (ev_of_eq fun k => by simp only [spec_l1New.l0, h1, c, ↓reduceIte])⟩

/-! spec_l1Byte -/
set_option maxRecDepth 20000 in
theorem bits_and255 (x : Int) : 0 ≤ Go.bits .and .i64 x 255 := by
 have h : ((BitVec.ofInt 64 x) &&& (BitVec.ofInt 64 255)).toNat ≤ 255 := by
  rw [BitVec.toNat_and]; exact Nat.and_le_right
 show 0 ≤ Go.IntKind.i64.wrap (((BitVec.ofInt 64 x &&& BitVec.ofInt 64 255).toNat : Nat) : Int)
 generalize ((BitVec.ofInt 64 x) &&& (BitVec.ofInt 64 255)).toNat = n at h
 have k : ∀ m : Fin 256, 0 ≤ Go.IntKind.i64.wrap ((m.val : Nat) : Int) := by decide
 exact k ⟨n, by omega⟩
theorem spec_l1Byte_ex (d : List Int) (p h : Int) (hp : 0 ≤ p) (hd : d.length ≤ 1048576) : ∃ b q g, spec_l1Byte.f d p h = some (b, q, g) ∧ 0 ≤ b ∧ 0 ≤ q := by
 by_cases c : p < (d.length : Int)
 ·refine ⟨_, _, _, by simp only [spec_l1Byte.f, c, hp, ↓reduceIte]; rfl, bits_and255 _, ?_⟩
  rw [w64 (by omega) (by omega)]; omega
 ·exact ⟨_, _, _, by simp only [spec_l1Byte.f, c, ↓reduceIte]; rfl, bits_and255 _, hp⟩

/-! spec_l1Below -/
theorem spec_l1Below_ex (d : List Int) (p h n : Int) (hp : 0 ≤ p) (hd : d.length ≤ 1048576) : ∃ b q g, spec_l1Below.f d p h n = some (b, q, g) ∧ 0 ≤ q ∧ (1 ≤ n → n ≤ 256 → 0 ≤ b ∧ b < n) := by
 by_cases c : n ≤ 0
 ·exact ⟨_, _, _, by simp only [spec_l1Below.f, c, ↓reduceIte]; rfl, hp, fun _ _ => by omega⟩
 ·have z : ¬ n = 0 := by omega
  obtain ⟨b1, q1, g1, e1, hb1, hq1⟩ := spec_l1Byte_ex d p h hp hd
  by_cases c2 : n ≤ 256
  ·refine ⟨Int.tmod b1 n, q1, g1, by simp only [spec_l1Below.f, c, c2, z, e1, Option.bind_some, ↓reduceIte], hq1, fun h1 _ => ?_⟩
   rw [Int.tmod_eq_emod_of_nonneg hb1]
   exact ⟨Int.emod_nonneg _ (by omega), Int.emod_lt_of_pos _ (by omega)⟩
  ·obtain ⟨b2, q2, g2, e2, hb2, hq2⟩ := spec_l1Byte_ex d q1 g1 hq1 hd
   obtain ⟨b3, q3, g3, e3, hb3, hq3⟩ := spec_l1Byte_ex d q2 g2 hq2 hd
   exact ⟨_, _, _, by simp only [spec_l1Below.f, c, c2, z, e1, e2, e3, Option.bind_some, ↓reduceIte]; rfl, hq3, fun _ h2 => absurd h2 c2⟩

/-! spec_l1Once -/
theorem spec_l1Once_ex (d : List Int) (p h n : Int) (hp : 0 ≤ p) (hd : d.length ≤ 1048576) : ∃ b q g, spec_l1Once.f d p h n = some (b, q, g) ∧ 0 ≤ q := by
 obtain ⟨b, q, g, e, hq, _⟩ := spec_l1Below_ex d p h n hp hd
 exact ⟨_, _, _, by simp only [spec_l1Once.f, e, Option.bind_some]; rfl, hq⟩

/-! spec_l1Int -/
theorem spec_l1Int_ex (d : List Int) (p h : Int) (l : List Int) (hp : 0 ≤ p) (hd : d.length ≤ 1048576) (h1 : 1 ≤ l.length) (h2 : l.length ≤ 256) : ∃ b q g, spec_l1Int.f d p h l = some (b, q, g) ∧ 0 ≤ q := by
 obtain ⟨b, q, g, e, hq, hb⟩ := spec_l1Below_ex d p h (l.length : Int) hp hd
 obtain ⟨hb0, hb1⟩ := hb (by omega) (by omega)
 exact ⟨_, _, _, by simp only [spec_l1Int.f, e, Option.bind_some, hb0, hb1, ↓reduceIte]; rfl, hq⟩

/-! spec_l8Leaves -/
theorem spec_l8Leaves_ex (d : List Int) (p h : Int) (hp : 0 ≤ p) (hd : d.length ≤ 1048576) : ∃ b q g, spec_l8Leaves.f d p h = some (b, q, g) ∧ 0 ≤ q := by
 obtain ⟨b1, q1, g1, e1, hq1, _⟩ := spec_l1Below_ex d p h 4 hp hd
 obtain ⟨b2, q2, g2, e2, hq2, _⟩ := spec_l1Below_ex d q1 g1 13 hq1 hd
 obtain ⟨b3, q3, g3, e3, hq3, _⟩ := spec_l1Below_ex d q2 g2 13 hq2 hd
 obtain ⟨b4, q4, g4, e4, hq4⟩ := spec_l1Int_ex d q3 g3 [wrap64 (100 + b1), wrap64 (200 + b2), wrap64 (300 + b3), 400] hq3 hd (by simp) (by simp)
 exact ⟨b4, q4, g4, by simp only [spec_l8Leaves.f, e1, e2, e3, e4, Option.bind_some], hq4⟩

/-! spec_l8Draw -/
theorem spec_l8Draw_j0 (d : List Int) (hd : d.length ≤ 1048576) (n : Nat) (hn : n ≤ 2) (p h : Int) (hp : 0 ≤ p) : ∃ l q g, Ev (fun k => spec_l8Draw.j0 k (n : Int) true d p h) (l, q, g) ∧ 0 ≤ q ∧ 1 ≤ l.length ∧ l.length ≤ 1 := by
 obtain ⟨b, q, g, e, hq⟩ := spec_l8Leaves_ex d p h hp hd
 exact ⟨[b], q, g, ev_succ (ev_of_eq fun k => by simp only [spec_l8Draw.j0, e, Option.bind_some, ↓reduceIte]), hq, by simp, by simp⟩
theorem spec_l8Draw_ex (d : List Int) (hd : d.length ≤ 1048576) : ∀ (n : Nat), n ≤ 2 → ∀ (p h : Int), 0 ≤ p → ∃ l q g, Ev (fun k => spec_l8Draw.f k d p h (n : Int)) (l, q, g) ∧ 0 ≤ q ∧ 1 ≤ l.length ∧ l.length + 1 ≤ 2 ^ (n + 1) := by
 intro n
 induction n with
 | zero =>
  intro hn p h hp
  obtain ⟨l, q, g, e, hq, h1, h2⟩ := spec_l8Draw_j0 d hd 0 (by omega) p h hp
  have z : ((0 : Nat) : Int) = 0 := rfl
  refine ⟨l, q, g, ev_succ ?_, hq, h1, by simp; omega⟩
  simp only [spec_l8Draw.f, z, ↓reduceIte]
  rw [z] at e
  exact e
 | succ n ih =>
  intro hn p h hp
  have z : ¬ ((n + 1 : Nat) : Int) = 0 := by omega
  have w : wrap64 (((n + 1 : Nat) : Int) - 1) = (n : Int) := by rw [w64 (by omega) (by omega)]; omega
  have pw : 2 ^ (n + 1 + 1) = 2 ^ (n + 1) + 2 ^ (n + 1) := by rw [Nat.pow_succ]; omega
  have p8 : 2 ^ (n + 1) ≤ 4 := by
   have : 2 ^ (n + 1) ≤ 2 ^ 2 := Nat.pow_le_pow_right (by omega) (by omega)
   simpa using this
  obtain ⟨b, q, g, e, hq⟩ := spec_l1Once_ex d p h 4 hp hd
  cases b
  ·obtain ⟨b2, q2, g2, e2, hq2⟩ := spec_l1Once_ex d q g 4 hq hd
   cases b2
   ·obtain ⟨l1, q3, g3, e3, hq3, a1, a2⟩ := ih (by omega) q2 g2 hq2
    obtain ⟨l2, q4, g4, e4, hq4, b1, b2⟩ := ih (by omega) q3 g3 hq3
    obtain ⟨o, q5, g5, e5, hq5, _⟩ := spec_l1Below_ex d q4 g4 2 hq4 hd
    have c1 : l1.length + l2.length < 17592186044416 := by omega
    have c2 : (l1 ++ l2).length < 17592186044416 := by simp; omega
    refine ⟨(l1 ++ l2) ++ [wrap64 ((-2) - o)], q5, g5, ev_succ ?_, hq5, by simp; omega, by rw [pw, List.length_append, List.length_append, List.length_singleton]; omega⟩
    simp only [spec_l8Draw.f, z, e, Option.bind_some, ↓reduceIte]
    refine ev_succ ?_
    simp only [spec_l8Draw.j0, e2, w, Option.bind_some, Bool.false_eq_true, ↓reduceIte]
    refine Ev.bind e3 (Ev.bind e4 (ev_of_eq fun k => ?_))
    simp only [c1, c2, e5, Option.bind_some, ↓reduceIte]
   ·obtain ⟨l1, q3, g3, e3, hq3, a1, a2⟩ := ih (by omega) q2 g2 hq2
    have c1 : l1.length < 17592186044416 := by omega
    refine ⟨l1 ++ [-1], q3, g3, ev_succ ?_, hq3, by simp, by rw [pw, List.length_append, List.length_singleton]; omega⟩
    simp only [spec_l8Draw.f, z, e, Option.bind_some, ↓reduceIte]
    refine ev_succ ?_
    simp only [spec_l8Draw.j0, e2, w, Option.bind_some, Bool.false_eq_true, ↓reduceIte]
    exact Ev.bind e3 (ev_of_eq fun k => by simp only [c1, ↓reduceIte])
  ·obtain ⟨l, q2, g2, e2, hq2, h1, h2⟩ := spec_l8Draw_j0 d hd (n + 1) hn q g hq
   refine ⟨l, q2, g2, ev_succ ?_, hq2, h1, by have : 1 ≤ 2 ^ (n + 1) := Nat.one_le_two_pow; omega⟩
   simp only [spec_l8Draw.f, z, e, Option.bind_some, ↓reduceIte]
   exact e2

/-! spec_l22Draw -/
theorem spec_l8Draw_one (d : List Int) (hd : d.length ≤ 1048576) (p h : Int) (hp : 0 ≤ p) : ∃ l q g, Ev (fun k => spec_l8Draw.f k d p h 1) (l, q, g) ∧ 0 ≤ q ∧ l.length ≤ 7 := by
 obtain ⟨l, q, g, e, hq, h1, h2⟩ := spec_l8Draw_ex d hd 1 (by omega) p h hp
 rw [show ((1 : Nat) : Int) = 1 from rfl] at e
 exact ⟨l, q, g, e, hq, by simp at h2; omega⟩
abbrev R10 := Int × Int × Bool × Bool × List Int × List Int × Int × Int × Int × Int
def Small (R : R10) : Prop := R.2.2.2.2.1.length ≤ 7 ∧ R.2.2.2.2.2.1.length ≤ 7 ∧ 0 ≤ R.2.2.2.2.2.2.2.2.1
theorem spec_l22Draw_j0 (d : List Int) (hd : d.length ≤ 1048576) (p h : Int) (hp : 0 ≤ p) (x0 x1 : Int) (b2 b3 : Bool) (l4 : List Int) (x6 x7 : Int) (h4 : l4.length ≤ 7) :
  ∃ R : R10, Ev (fun k => spec_l22Draw.j0 k d p h x0 x1 b2 b3 l4 x6 x7) R ∧ Small R := by
 obtain ⟨b, q, g, e, hq⟩ := spec_l1Once_ex d p h 2 hp hd
 cases b
 ·exact ⟨(x0, x1, b2, b3, l4, [], x6, x7, q, g), ev_succ (ev_of_eq fun k => by simp only [spec_l22Draw.j0, e, Option.bind_some, Bool.false_eq_true, ↓reduceIte]), h4, by simp, hq⟩
 ·obtain ⟨l5, q2, g2, e2, hq2, h5⟩ := spec_l8Draw_one d hd q g hq
  refine ⟨(x0, x1, b2, b3, l4, l5, x6, x7, q2, g2), ev_succ ?_, h4, h5, hq2⟩
  simp only [spec_l22Draw.j0, e, Option.bind_some, ↓reduceIte]
  exact Ev.bind e2 (Ev.now _)
theorem spec_l22Draw_ex (d : List Int) (hd : d.length ≤ 1048576) (p h : Int) (hp : 0 ≤ p) : ∃ R : R10, Ev (fun k => spec_l22Draw.f k d p h) R ∧ Small R := by
 obtain ⟨b0, q0, g0, e0, hq0, _⟩ := spec_l1Below_ex d p h 4 hp hd
 obtain ⟨b1, q1, g1, e1, hq1, _⟩ := spec_l1Below_ex d q0 g0 6 hq0 hd
 obtain ⟨b2, q2, g2, e2, hq2⟩ := spec_l1Once_ex d q1 g1 2 hq1 hd
 obtain ⟨b3, q3, g3, e3, hq3, _⟩ := spec_l1Below_ex d q2 g2 2 hq2 hd
 obtain ⟨b4, q4, g4, e4, hq4, _⟩ := spec_l1Below_ex d q3 g3 60 hq3 hd
 obtain ⟨b5, q5, g5, e5, hq5⟩ := spec_l1Once_ex d q4 g4 2 hq4 hd
 simp only [spec_l22Draw.f, e0, e1, e2, e3, e4, e5, Option.bind_some]
 cases b5
 ·simp only [Bool.false_eq_true, ↓reduceIte]
  exact spec_l22Draw_j0 d hd q5 g5 hq5 _ _ _ _ [] _ _ (by simp)
 ·obtain ⟨l4, q6, g6, e6, hq6, h4⟩ := spec_l8Draw_one d hd q5 g5 hq5
  simp only [↓reduceIte]
  obtain ⟨R, e, hR⟩ := spec_l22Draw_j0 d hd q6 g6 hq6 (wrap64 (2 + b0)) (wrap64 (1 + b1)) b2 true l4 (wrap64 (1 + b3)) (wrap64 (20 + b4)) h4
  exact ⟨R, Ev.bind e6 e, hR⟩

/-! spec_l8Any -/
theorem spec_l8Any_ex (d : List Int) (hd : d.length ≤ 1048576) (p h : Int) (hp : 0 ≤ p) : ∃ l q g, Ev (fun k => spec_l8Any.f k d p h) (l, q, g) ∧ 0 ≤ q ∧ l.length ≤ 7 := by
 obtain ⟨l, q, g, e, hq, h1, h2⟩ := spec_l8Draw_ex d hd 2 (by omega) p h hp
 rw [show ((2 : Nat) : Int) = 2 from rfl] at e
 have h7 : l.length ≤ 7 := by simp at h2; omega
 obtain ⟨b, q2, g2, e2, hq2, _⟩ := spec_l1Below_ex d q g 10 hq hd
 simp only [spec_l8Any.f]
 by_cases c0 : b = 0
 ·obtain ⟨i, q3, g3, e3, hq3, hi⟩ := spec_l1Below_ex d q2 g2 (l.length : Int) hq2 hd
  obtain ⟨i0, i1⟩ := hi (by omega) (by omega)
  obtain ⟨v, q4, g4, e4, hq4⟩ := spec_l1Int_ex d q3 g3 [104, 99, 213, 313, 401, (-4), (-2), 9223372036854775807] hq3 hd (by simp) (by simp)
  refine ⟨l.set i.toNat v, q4, g4, Ev.bind e (ev_of_eq fun k => ?_), hq4, by rw [List.length_set]; omega⟩
  simp only [e2, e3, e4, c0, i0, i1, Option.bind_some, ↓reduceIte]
 ·by_cases c1 : b = 1
  ·have z : ¬ (1 : Int) = 0 := by omega
   have c2 : 1 ≤ (l.length : Int) := by omega
   refine ⟨l.drop (1 : Int).toNat, q2, g2, Ev.bind e (ev_of_eq fun k => ?_), hq2, by rw [List.length_drop]; omega⟩
   simp only [e2, c1, z, c2, Option.bind_some, ↓reduceIte]
  ·refine ⟨l, q2, g2, Ev.bind e (ev_of_eq fun k => ?_), hq2, h7⟩
   simp only [e2, c0, c1, Option.bind_some, ↓reduceIte]

/-! spec_l22Any -/
theorem spec_l22Any_ex (d : List Int) (hd : d.length ≤ 1048576) (p h : Int) (hp : 0 ≤ p) : ∃ R : R10, Ev (fun k => spec_l22Any.f k d p h) R ∧ Small R := by
 obtain ⟨⟨x0, x1, b2, b3, l4, l5, x6, x7, q, g⟩, e, h4, h5, hq⟩ := spec_l22Draw_ex d hd p h hp
 simp only at h4 h5 hq
 obtain ⟨b, q1, g1, e1, hq1, _⟩ := spec_l1Below_ex d q g 14 hq hd
 simp only [spec_l22Any.f]
 by_cases c0 : b = 0
 ·obtain ⟨v, q2, g2, e2, hq2⟩ := spec_l1Int_ex d q1 g1 [1, 6, 7] hq1 hd (by simp) (by simp)
  exact ⟨(v, x1, b2, b3, l4, l5, x6, x7, q2, g2), Ev.bind e (ev_of_eq fun k => by simp only [e1, Option.bind_some, if_pos c0, e2]), h4, h5, hq2⟩
 by_cases c1 : b = 1
 ·obtain ⟨v, q2, g2, e2, hq2⟩ := spec_l1Int_ex d q1 g1 [0, 8, 9] hq1 hd (by simp) (by simp)
  exact ⟨(x0, v, b2, b3, l4, l5, x6, x7, q2, g2), Ev.bind e (ev_of_eq fun k => by simp only [e1, Option.bind_some, if_neg c0, if_pos c1, e2]), h4, h5, hq2⟩
 by_cases c2 : b = 2
 ·exact ⟨(x0, x1, b2, false, l4, l5, x6, x7, q1, g1), Ev.bind e (ev_of_eq fun k => by simp only [e1, Option.bind_some, if_neg c0, if_neg c1, if_pos c2]), h4, h5, hq1⟩
 by_cases c3 : b = 3
 ·obtain ⟨l, q2, g2, e2, hq2, hl⟩ := spec_l8Any_ex d hd q1 g1 hq1
  refine ⟨(x0, x1, b2, b3, l, l5, x6, x7, q2, g2), Ev.bind e ?_, hl, h5, hq2⟩
  simp only [e1, Option.bind_some, if_neg c0, if_neg c1, if_neg c2, if_pos c3]
  exact Ev.bind e2 (Ev.now _)
 by_cases c4 : b = 4
 ·obtain ⟨v, q2, g2, e2, hq2⟩ := spec_l1Int_ex d q1 g1 [0, 4, 5] hq1 hd (by simp) (by simp)
  exact ⟨(x0, x1, b2, b3, l4, l5, v, x7, q2, g2), Ev.bind e (ev_of_eq fun k => by simp only [e1, Option.bind_some, if_neg c0, if_neg c1, if_neg c2, if_neg c3, if_pos c4, e2]), h4, h5, hq2⟩
 by_cases c5 : b = 5
 ·obtain ⟨v, q2, g2, e2, hq2⟩ := spec_l1Int_ex d q1 g1 [0, 400, 401] hq1 hd (by simp) (by simp)
  exact ⟨(x0, x1, b2, b3, l4, l5, x6, v, q2, g2), Ev.bind e (ev_of_eq fun k => by simp only [e1, Option.bind_some, if_neg c0, if_neg c1, if_neg c2, if_neg c3, if_neg c4, if_pos c5, e2]), h4, h5, hq2⟩
 ·exact ⟨(x0, x1, b2, b3, l4, l5, x6, x7, q1, g1), Ev.bind e (ev_of_eq fun k => by simp only [e1, Option.bind_some, if_neg c0, if_neg c1, if_neg c2, if_neg c3, if_neg c4, if_neg c5]), h4, h5, hq1⟩

/-! spec_DrawIsRules -/
theorem spec_DrawIsRules_ex (d : List Int) (hd : d.length ≤ 1048576) : ∃ (a0 a1 : Int) (a2 a3 : Bool) (l4 l5 : List Int) (a6 a7 : Int), Ev (fun k => spec_DrawIsRules.f k d) (a0, a1, a2, a3, l4, l5, a6, a7) ∧ l4.length ≤ 7 ∧ l5.length ≤ 7 := by
 obtain ⟨g, e1⟩ := spec_l1New_ex d hd
 obtain ⟨⟨a0, a1, a2, a3, l4, l5, a6, a7, q, h⟩, e2, h4, h5, _⟩ := spec_l22Any_ex d hd 0 g (by omega)
 refine ⟨a0, a1, a2, a3, l4, l5, a6, a7, ?_, h4, h5⟩
 simp only [spec_DrawIsRules.f]
 exact Ev.bind e1 (Ev.bind e2 (Ev.now _))

/-! spec_DrawRulesText -/
theorem spec_DrawRulesText_ex (d : List Int) (hd : d.length ≤ 1048576) : ∃ (a0 a1 : Int) (a2 a3 : Bool) (l4 l5 : List Int) (a6 a7 : Int), Ev (fun k => spec_DrawRulesText.f k d) (a0, a1, a2, a3, l4, l5, a6, a7) ∧ l4.length ≤ 7 ∧ l5.length ≤ 7 := by
 obtain ⟨a0, a1, a2, a3, l4, l5, a6, a7, e, h4, h5⟩ := spec_DrawIsRules_ex d hd
 refine ⟨a0, a1, a2, a3, l4, l5, a6, a7, ?_, h4, h5⟩
 simp only [spec_DrawRulesText.f]
 exact Ev.bind e (Ev.now _)

/-! impl_InRange -/
theorem impl_InRange_f (a b c : Int) : impl_InRange.f a b c = some (decide (b ≤ a ∧ a ≤ c)) := by
 unfold impl_InRange.f
 by_cases h : b ≤ a <;> simp [h]

/-! impl_isTest -/
theorem impl_isTest_f (s : Int) : impl_isTest.f s = some (leafM s) := by
 simp only [impl_isTest.f, impl_InRange_f, Option.bind_some, leafM]
 by_cases h1 : 100 ≤ s ∧ s ≤ 103
 ·simp [h1]
 by_cases h2 : 200 ≤ s ∧ s ≤ 212
 ·simp [h1, h2]
 by_cases h3 : 300 ≤ s ∧ s ≤ 312
 ·simp [h1, h2, h3]
 simp [h1, h2, h3]

/-! impl_IsPattern -/
theorem impl_IsPattern_ev (l : List Int) (hl : l.length ≤ 1099511627776) : Ev (fun k => impl_IsPattern.f k l) (isPatM l) := by
 simp only [impl_IsPattern.f, isPatM]
 refine loop_int l hl (P := fun i rest => ∀ n, 0 ≤ n → n ≤ i → Ev (fun k => impl_IsPattern.l0 k l n l (l.length : Int) i) (patEnd l.length (patF rest n))) ?_ ?_ 0 (by omega) (by omega)
 ·intro n hn hi
  refine ev_succ (ev_of_eq fun k => ?_)
  simp only [impl_IsPattern.l0, Int.lt_irrefl, ↓reduceIte, patF, patEnd, impl_InRange_f, Option.bind_some]
  by_cases h : n = 1
  ·by_cases g : l.length ≤ 20
   ·have g' : (1 : Int) ≤ (l.length : Int) ∧ (l.length : Int) ≤ 20 := by omega
    simp [h, g, g']
   ·have g' : ¬ ((1 : Int) ≤ (l.length : Int) ∧ (l.length : Int) ≤ 20) := by omega
    simp [h, g, g']
  ·by_cases g : (1 : Int) ≤ (l.length : Int) ∧ (l.length : Int) ≤ 20
   ·simp [h, g]
   ·simp [h, g]
 ·intro i x rest h0 h1 hx _ hw ih n hn hi
  refine ev_succ ?_
  have w1 : wrap64 (n + 1) = n + 1 := w64 (by omega) (by omega)
  simp only [impl_IsPattern.l0, h1, h0, ↓reduceIte, hx, hw, impl_isTest_f, Option.bind_some, patF, w1]
  by_cases g1 : leafM x = true
  ·simp only [g1, ↓reduceIte]
   exact ih _ (by omega) (by omega)
  ·simp only [g1, Bool.false_eq_true, ↓reduceIte]
   by_cases g2 : x = -1
   ·have e2 : ¬ x = -2 := by omega
    have e3 : ¬ x = -3 := by omega
    by_cases g3 : 1 ≤ n
    ·have g3' : decide (n ≥ 1) = true := by simp; omega
     simp only [g2, g3, g3', ↓reduceIte, and_self]
     refine ev_succ ?_
     simp only [impl_IsPattern.j1, ↓reduceIte, hw]
     exact ih _ (by omega) (by omega)
    ·have g3' : decide (n ≥ 1) = false := by simp; omega
     refine ev_succ (ev_of_eq fun k => ?_)
     simp only [impl_IsPattern.j1, g2, g3', g3, h1, h0, hx, ↓reduceIte, Bool.false_eq_true]
     simp [patEnd, e2, e3, g2, g3]
   ·simp only [g2, ↓reduceIte, false_and]
    refine ev_succ ?_
    simp only [impl_IsPattern.j1, h1, h0, hx, hw, ↓reduceIte, Bool.false_eq_true, ge_iff_le]
    have w2 : 2 ≤ n → wrap64 (n - 1) = n - 1 := fun _ => w64 (by omega) (by omega)
    by_cases g4 : x = -2
    ·by_cases g5 : 2 ≤ n
     ·simp only [g4, g5, w2 g5, ↓reduceIte, true_or, and_self]
      exact ih _ (by omega) (by omega)
     ·refine ev_of_eq fun k => ?_
      simp [g4, g5, patEnd]
    ·by_cases g6 : x = -3
     ·by_cases g5 : 2 ≤ n
      ·simp only [g4, g6, g5, w2 g5, ↓reduceIte, or_true, and_self]
       exact ih _ (by omega) (by omega)
      ·refine ev_of_eq fun k => ?_
       simp [g6, g5, patEnd]
     ·refine ev_of_eq fun k => ?_
      simp [g4, g6, patEnd]

/-! impl_isMaybe -/
theorem impl_isMaybe_ev (l : List Int) (hl : l.length ≤ 1099511627776) : Ev (fun k => impl_isMaybe.f k l) (maybeM l) := by
 simp only [impl_isMaybe.f, maybeM]
 by_cases h : l.length = 0
 ·obtain rfl := List.eq_nil_of_length_eq_zero h
  exact ev_of_eq fun k => rfl
 ·have h' : ¬ (l.length : Int) = 0 := by omega
  simp only [h', h, ↓reduceIte, decide_false, Bool.false_or]
  exact Ev.bind (impl_IsPattern_ev l hl) (Ev.now _)

/-! impl_IsRules -/
theorem impl_IsRules_ev (a0 a1 : Int) (a2 a3 : Bool) (l4 l5 : List Int) (a6 a7 : Int) (h4 : l4.length ≤ 1048576) (h5 : l5.length ≤ 1048576) :
  Ev (fun k => impl_IsRules.f k a0 a1 a2 a3 l4 l5 a6 a7) (isRulesM a0 a1 a2 a3 l4 l5 a6 a7) := by
 have tail : Ev (fun k => (impl_isMaybe.f k l4).bind fun t => (if t = true then ((impl_isMaybe.f k l5).bind fun t => (if t = true then ((impl_InRange.f a6 1 4).bind fun t => (if t = true then ((impl_InRange.f a7 1 400).bind fun t => (some t)) else (some false))) else (some false))) else (some false)))
   (maybeM l4 && (maybeM l5 && (decide (1 ≤ a6 ∧ a6 ≤ 4) && decide (1 ≤ a7 ∧ a7 ≤ 400)))) := by
  refine Ev.bind (impl_isMaybe_ev l4 (by omega)) ?_
  cases maybeM l4
  ·exact Ev.now _
  ·refine Ev.bind (impl_isMaybe_ev l5 (by omega)) ?_
   cases maybeM l5
   ·exact Ev.now _
   ·refine ev_of_eq fun k => ?_
    simp only [impl_InRange_f, Option.bind_some, ↓reduceIte]
    cases decide (1 ≤ a6 ∧ a6 ≤ 4) <;> simp
 simp only [impl_IsRules.f]
 simp only [impl_InRange_f, Option.bind_some] at tail ⊢
 unfold isRulesM
 cases decide (2 ≤ a0 ∧ a0 ≤ 6)
 ·exact Ev.now _
 ·cases decide (1 ≤ a1 ∧ a1 ≤ 8)
  ·exact Ev.now _
  ·cases a2
   ·cases a3
    ·exact Ev.now _
    ·simpa using tail
   ·simpa using tail

/-! impl_RulesWord -/
theorem impl_RulesWord_ev (a0 a1 : Int) (a2 a3 : Bool) (l4 l5 : List Int) (a6 a7 : Int) (h4 : l4.length ≤ 1048576) (h5 : l5.length ≤ 1048576) : Ev (fun k => impl_RulesWord.f k a0 a1 a2 a3 l4 l5 a6 a7) (rulesWordM a2 a3) := by
 simp only [impl_RulesWord.f]
 cases a2 <;> cases a3 <;> exact ev_succ (ev_of_eq fun k => by simp [impl_RulesWord.j0, rulesWordM])

/-! impl_FormatInt -/
/-- Up to three digits. -/
def dig3 (n : Nat) : List UInt8 := if n < 10 then [UInt8.ofNat (48 + n)] else if n < 100 then [UInt8.ofNat (48 + n / 10), UInt8.ofNat (48 + n % 10)] else [UInt8.ofNat (48 + n / 10 / 10), UInt8.ofNat (48 + n / 10 % 10), UInt8.ofNat (48 + n % 10)]
theorem itoa_dig3 (n : Nat) (h : n < 1000) : Go.Lib.itoa (n : Int) = dig3 n := by
 unfold Go.Lib.itoa dig3
 rw [if_neg (by omega), Int.toNat_natCast]
 by_cases h1 : n < 10
 ·rw [Go.Lib.decDigits, dif_pos h1, if_pos h1]
 rw [if_neg h1, Go.Lib.decDigits, dif_neg h1]
 by_cases h2 : n < 100
 ·rw [if_pos h2, Go.Lib.decDigits, dif_pos (by omega)]
  rfl
 rw [if_neg h2, Go.Lib.decDigits, dif_neg (by omega), Go.Lib.decDigits, dif_pos (by omega)]
 rfl
def numT (n : Int) : ByteArray := ⟨(Go.Lib.itoa n).toArray⟩
theorem numT_size (n : Int) (h0 : 0 ≤ n) (h : n < 1000) : (numT n).size ≤ 3 := by
 obtain ⟨m, rfl⟩ := Int.eq_ofNat_of_zero_le h0
 unfold numT
 rw [itoa_dig3 m (by omega)]
 unfold dig3
 split
 ·exact Nat.le_of_ble_eq_true rfl
 split
 ·exact Nat.le_of_ble_eq_true rfl
 ·exact Nat.le_of_ble_eq_true rfl
theorem impl_FormatInt_f (n : Int) (h0 : 0 ≤ n) (h : n < 1000) : impl_FormatInt.f n = some (numT n) := by
 unfold impl_FormatInt.f numT
 rw [if_pos ⟨by omega, by omega⟩]

/-! impl_signText -/
/-- The text of a leaf sign. -/
def rankL : ByteArray := ⟨#[50, 51, 52, 53, 54, 55, 56, 57, 84, 74, 81, 75, 65]⟩
def signM (s : Int) : ByteArray := if s = 400 then ⟨#[114]⟩ else if s ≥ 300 then rankL.extract (s - 300).toNat (s - 300 + 1).toNat ++ ⟨#[43]⟩ else if s ≥ 200 then rankL.extract (s - 200).toNat (s - 200 + 1).toNat else (⟨#[99, 100, 104, 115]⟩ : ByteArray).extract (s - 100).toNat (s - 100 + 1).toNat
theorem extract_one (b : ByteArray) (i : Int) (h : 0 ≤ i) : (b.extract i.toNat (i + 1).toNat).size ≤ 1 := by
 rw [ByteArray.size_extract]
 omega
theorem signM_size (s : Int) (h : leafM s = true) : (signM s).size ≤ 2 := by
 unfold leafM at h
 simp only [Bool.or_eq_true, decide_eq_true_eq, beq_iff_eq] at h
 unfold signM
 by_cases h1 : s = 400
 ·rw [if_pos h1]; decide
 rw [if_neg h1]
 by_cases h2 : s ≥ 300
 ·rw [if_pos h2, ByteArray.size_append]
  have := extract_one rankL (s - 300) (by omega)
  have e : (⟨#[43]⟩ : ByteArray).size = 1 := rfl
  omega
 rw [if_neg h2]
 by_cases h3 : s ≥ 200
 ·rw [if_pos h3]
  have := extract_one rankL (s - 200) (by omega)
  omega
 ·rw [if_neg h3]
  have := extract_one ⟨#[99, 100, 104, 115]⟩ (s - 100) (by omega)
  omega
theorem impl_signText_f (s : Int) (h : leafM s = true) : impl_signText.f s = some (signM s) := by
 unfold leafM at h
 simp only [Bool.or_eq_true, decide_eq_true_eq, beq_iff_eq] at h
 unfold impl_signText.f signM
 by_cases h1 : s = 400
 ·rw [if_pos h1, if_pos h1]
 rw [if_neg h1, if_neg h1]
 by_cases h2 : s ≥ 300
 ·have a0 : wrap64 (s - 300) = s - 300 := w64 (by omega) (by omega)
  have a1 : wrap64 (s - 300 + 1) = s - 300 + 1 := w64 (by omega) (by omega)
  have a2 : 0 ≤ s - 300 := by omega
  have a3 : s - 300 ≤ s - 300 + 1 := by omega
  have a4 : s - 300 + 1 ≤ 13 := by omega
  have a5 := extract_one rankL (s - 300) a2
  have a6 : (rankL.extract (s - 300).toNat (s - 300 + 1).toNat).size + 1 ≤ 9223372036854775807 := by omega
  unfold rankL at a6 ⊢
  simp only [h2, a0, a1, a2, a3, a4, a6, ↓reduceIte]
 rw [if_neg h2, if_neg h2]
 by_cases h3 : s ≥ 200
 ·have a0 : wrap64 (s - 200) = s - 200 := w64 (by omega) (by omega)
  have a1 : wrap64 (s - 200 + 1) = s - 200 + 1 := w64 (by omega) (by omega)
  have a2 : 0 ≤ s - 200 := by omega
  have a3 : s - 200 ≤ s - 200 + 1 := by omega
  have a4 : s - 200 + 1 ≤ 13 := by omega
  unfold rankL
  simp only [h3, a0, a1, a2, a3, a4, ↓reduceIte]
 ·have a0 : wrap64 (s - 100) = s - 100 := w64 (by omega) (by omega)
  have a1 : wrap64 (s - 100 + 1) = s - 100 + 1 := w64 (by omega) (by omega)
  have a2 : 0 ≤ s - 100 := by omega
  have a3 : s - 100 ≤ s - 100 + 1 := by omega
  have a4 : s - 100 + 1 ≤ 4 := by omega
  simp only [h3, a0, a1, a2, a3, a4, ↓reduceIte]

/-! impl_PatternText -/
/-- A pattern's text, sign by sign over a pile. -/
def textF : List Int → List ByteArray → ByteArray
 | [], x => rdOf ByteArray.empty x 0
 | s :: r, x =>
  if s = -1 then textF r (x.set ((x.length : Int) - 1).toNat ((⟨#[33]⟩ : ByteArray) ++ rdOf ByteArray.empty x ((x.length : Int) - 1)))
  else if s = -2 then textF r (x.take ((x.length : Int) - 2).toNat ++ [((((⟨#[40]⟩ : ByteArray) ++ rdOf ByteArray.empty x ((x.length : Int) - 2)) ++ (⟨#[38]⟩ : ByteArray)) ++ rdOf ByteArray.empty x ((x.length : Int) - 1)) ++ (⟨#[41]⟩ : ByteArray)])
  else if s = -3 then textF r (x.take ((x.length : Int) - 2).toNat ++ [((((⟨#[40]⟩ : ByteArray) ++ rdOf ByteArray.empty x ((x.length : Int) - 2)) ++ (⟨#[124]⟩ : ByteArray)) ++ rdOf ByteArray.empty x ((x.length : Int) - 1)) ++ (⟨#[41]⟩ : ByteArray)])
  else textF r (x ++ [signM s])
/-- How long a text on the pile can grow. -/
def growF : List Int → Nat → Nat
 | [], B => B
 | _ :: r, B => growF r (2 * B + 3)
theorem growF_le : ∀ (r : List Int) (B : Nat), B ≤ growF r B
 | [], B => Nat.le_refl _
 | _ :: r, B => Nat.le_trans (by omega) (growF_le r (2 * B + 3))
theorem growF_pow : ∀ (r : List Int) (B : Nat), growF r B + 3 = (B + 3) * 2 ^ r.length
 | [], B => by simp [growF]
 | _ :: r, B => by
  rw [growF, growF_pow r (2 * B + 3), List.length_cons, Nat.pow_succ, Nat.mul_comm (2 ^ r.length) 2, ← Nat.mul_assoc]
  congr 1
  omega
theorem textF_size : ∀ (r : List Int) (x : List ByteArray) (B : Nat), patF r (x.length : Int) = some 1 → (∀ y ∈ x, y.size ≤ B) → (textF r x).size ≤ growF r B
 | [], x, B, he, hx => by
  have h1 : 0 < (x.length : Int) := by simp only [patF, Option.some.injEq] at he; omega
  exact hx _ (rdOf_mem _ x 0 (by omega) h1)
 | s :: r, x, B, he, hx => by
  have e1 : ∀ b : UInt8, (⟨#[b]⟩ : ByteArray).size = 1 := fun _ => rfl
  have le : patF (s :: r) (x.length : Int) = some 1 := he
  rcases patF_step he with ⟨n1, n2, n3, e4⟩ | ⟨n1, n2, e4⟩ | ⟨n1, n2, e4⟩
  ·simp only [textF, n1, n2, n3, ↓reduceIte]
   have hl : leafM s = true := by
    unfold patF at le
    by_cases h : leafM s = true
    ·exact h
    ·rw [if_neg h] at le
     simp only [n1, n2, n3, ↓reduceIte, or_self, beq_iff_eq] at le
     exact absurd le (by simp)
   refine textF_size r (x ++ [signM s]) (2 * B + 3) (by simpa using e4) fun y hy => ?_
   rcases List.mem_append.1 hy with h | h
   ·have := hx y h; omega
   ·have := signM_size s hl
    rw [List.mem_singleton.1 h]
    omega
  ·simp only [textF, n1, ↓reduceIte]
   refine textF_size r _ (2 * B + 3) (by rw [List.length_set]; exact e4) fun y hy => ?_
   rcases List.mem_or_eq_of_mem_set hy with h | h
   ·have := hx y h; omega
   ·have := hx _ (rdOf_mem ByteArray.empty x ((x.length : Int) - 1) (by omega) (by omega))
    rw [h, ByteArray.size_append, e1]
    omega
  ·have tl : (x.take ((x.length : Int) - 2).toNat).length = ((x.length : Int) - 2).toNat := by rw [List.length_take]; omega
   have m2 := hx _ (rdOf_mem ByteArray.empty x ((x.length : Int) - 2) (by omega) (by omega))
   have m1 := hx _ (rdOf_mem ByteArray.empty x ((x.length : Int) - 1) (by omega) (by omega))
   have go : ∀ b : UInt8, (textF r (x.take ((x.length : Int) - 2).toNat ++ [((((⟨#[40]⟩ : ByteArray) ++ rdOf ByteArray.empty x ((x.length : Int) - 2)) ++ (⟨#[b]⟩ : ByteArray)) ++ rdOf ByteArray.empty x ((x.length : Int) - 1)) ++ (⟨#[41]⟩ : ByteArray)])).size ≤ growF r (2 * B + 3) := fun b => by
    refine textF_size r _ (2 * B + 3) (by rw [List.length_append, tl]; simp only [List.length_singleton]; rw [show ((((x.length : Int) - 2).toNat + 1 : Nat) : Int) = (x.length : Int) - 1 by omega]; exact e4) fun y hy => ?_
    rcases List.mem_append.1 hy with h | h
    ·have := hx y (List.mem_of_mem_take h); omega
    ·rw [List.mem_singleton.1 h]
     simp only [ByteArray.size_append, e1]
     omega
   rcases n1 with n1 | n1
   ·simp only [textF, n1, show ¬ (-2 : Int) = -1 by omega, ↓reduceIte]
    exact go 38
   ·simp only [textF, n1, show ¬ (-3 : Int) = -1 by omega, show ¬ (-3 : Int) = -2 by omega, ↓reduceIte]
    exact go 124
def patText (p : List Int) : ByteArray := if isPatM p = true then textF p [] else ⟨#[]⟩
theorem patText_size (p : List Int) : (patText p).size ≤ 3145728 := by
 unfold patText
 by_cases hp : isPatM p = true
 ·rw [if_pos hp]
  obtain ⟨h1, h2⟩ := isPatM_run hp
  have := textF_size p [] 0 h1 (fun y hy => by simp at hy)
  have g := growF_pow p 0
  have : 2 ^ p.length ≤ 2 ^ 20 := Nat.pow_le_pow_right (by omega) h2
  omega
 ·rw [if_neg hp]
  exact Nat.zero_le _
theorem impl_PatternText_l0 (p : List Int) (hl : p.length ≤ 20) (hp : patF p 0 = some 1) : Ev (fun k => impl_PatternText.l0 k [] p (p.length : Int) 0) (textF p []) := by
 have e1 : ∀ b : UInt8, (⟨#[b]⟩ : ByteArray).size = 1 := fun _ => rfl
 suffices H : ∀ (x : List ByteArray) (B : Nat), (x.length : Int) ≤ 0 → patF p (x.length : Int) = some 1 → (∀ y ∈ x, y.size ≤ B) → growF p B ≤ 4611686018427387000 → Ev (fun k => impl_PatternText.l0 k x p (p.length : Int) 0) (textF p x) from H [] 0 (by simp) hp (fun y hy => by simp at hy) (by
  have g := growF_pow p 0
  have : 2 ^ p.length ≤ 2 ^ 20 := Nat.pow_le_pow_right (by omega) hl
  omega)
 refine loop_int p (by omega) (P := fun i rest => ∀ (x : List ByteArray) (B : Nat), (x.length : Int) ≤ i → patF rest (x.length : Int) = some 1 → (∀ y ∈ x, y.size ≤ B) → growF rest B ≤ 4611686018427387000 → Ev (fun k => impl_PatternText.l0 k x p (p.length : Int) i) (textF rest x)) ?_ ?_
 ·intro x B hx he _ _
  have h1 : 0 < (x.length : Int) := by simp only [patF, Option.some.injEq] at he; omega
  refine ev_succ (ev_of_eq fun k => ?_)
  simp only [impl_PatternText.l0, Int.lt_irrefl, h1, Int.le_refl, ↓reduceIte, textF]
 ·intro i s rest h0 h1 hs hm hw ih x B hx he hB hg
  refine ev_succ ?_
  have gB : 2 * B + 3 ≤ 4611686018427387000 := Nat.le_trans (growF_le rest (2 * B + 3)) hg
  have b : x.length < 8796093022208 := by omega
  have w1 : wrap64 ((x.length : Int) - 1) = (x.length : Int) - 1 := w64 (by omega) (by omega)
  have w2 : wrap64 ((x.length : Int) - 2) = (x.length : Int) - 2 := w64 (by omega) (by omega)
  have le := he
  rcases patF_step he with ⟨n1, n2, n3, e4⟩ | ⟨n1, n2, e4⟩ | ⟨n1, n2, e4⟩
  ·have hlf : leafM s = true := by
    unfold patF at le
    by_cases h : leafM s = true
    ·exact h
    ·rw [if_neg h] at le
     simp only [n1, n2, n3, ↓reduceIte, or_self, beq_iff_eq] at le
     exact absurd le (by simp)
   simp only [impl_PatternText.l0, h1, h0, hs, n1, n2, n3, b, hw, ↓reduceIte, impl_signText_f s hlf, Option.bind_some, textF]
   refine ih (x ++ [signM s]) (2 * B + 3) (by simp; omega) (by simpa using e4) (fun y hy => ?_) hg
   rcases List.mem_append.1 hy with h | h
   ·have := hB y h; omega
   ·have := signM_size s hlf
    rw [List.mem_singleton.1 h]
    omega
  ·have g1 : 0 ≤ (x.length : Int) - 1 := by omega
   have g2 : (x.length : Int) - 1 < (x.length : Int) := by omega
   have m1 := hB _ (rdOf_mem ByteArray.empty x ((x.length : Int) - 1) g1 g2)
   have q1 : 1 + (rdOf ByteArray.empty x ((x.length : Int) - 1)).size ≤ 9223372036854775807 := by omega
   simp only [impl_PatternText.l0, h1, h0, hs, n1, w1, g1, g2, q1, hw, ↓reduceIte, textF]
   refine ih _ (2 * B + 3) (by rw [List.length_set]; omega) (by rw [List.length_set]; exact e4) (fun y hy => ?_) hg
   rcases List.mem_or_eq_of_mem_set hy with h | h
   ·have := hB y h; omega
   ·rw [h, ByteArray.size_append, e1]
    omega
  ·have g1 : 0 ≤ (x.length : Int) - 2 := by omega
   have g2 : (x.length : Int) - 2 < (x.length : Int) := by omega
   have g3 : (x.length : Int) - 2 ≤ (x.length : Int) := by omega
   have g4 : 0 ≤ (x.length : Int) - 1 := by omega
   have g5 : (x.length : Int) - 1 < (x.length : Int) := by omega
   have tl : (x.take ((x.length : Int) - 2).toNat).length = ((x.length : Int) - 2).toNat := by rw [List.length_take]; omega
   have g6 : (x.take ((x.length : Int) - 2).toNat).length < 8796093022208 := by omega
   have m2 := hB _ (rdOf_mem ByteArray.empty x ((x.length : Int) - 2) g1 g2)
   have m1 := hB _ (rdOf_mem ByteArray.empty x ((x.length : Int) - 1) g4 g5)
   have q1 : 1 + (rdOf ByteArray.empty x ((x.length : Int) - 2)).size ≤ 9223372036854775807 := by omega
   have q2 : ((⟨#[40]⟩ : ByteArray) ++ rdOf ByteArray.empty x ((x.length : Int) - 2)).size + 1 ≤ 9223372036854775807 := by simp only [ByteArray.size_append, e1]; omega
   have q3 : ∀ c : UInt8, (((⟨#[40]⟩ : ByteArray) ++ rdOf ByteArray.empty x ((x.length : Int) - 2)) ++ (⟨#[c]⟩ : ByteArray)).size + (rdOf ByteArray.empty x ((x.length : Int) - 1)).size ≤ 9223372036854775807 := fun c => by simp only [ByteArray.size_append, e1]; omega
   have q4 : ∀ c : UInt8, ((((⟨#[40]⟩ : ByteArray) ++ rdOf ByteArray.empty x ((x.length : Int) - 2)) ++ (⟨#[c]⟩ : ByteArray)) ++ rdOf ByteArray.empty x ((x.length : Int) - 1)).size + 1 ≤ 9223372036854775807 := fun c => by simp only [ByteArray.size_append, e1]; omega
   have nx : ∀ c : UInt8, Ev (fun k => impl_PatternText.l0 k (x.take ((x.length : Int) - 2).toNat ++ [((((⟨#[40]⟩ : ByteArray) ++ rdOf ByteArray.empty x ((x.length : Int) - 2)) ++ (⟨#[c]⟩ : ByteArray)) ++ rdOf ByteArray.empty x ((x.length : Int) - 1)) ++ (⟨#[41]⟩ : ByteArray)]) p (p.length : Int) (i + 1)) (textF rest (x.take ((x.length : Int) - 2).toNat ++ [((((⟨#[40]⟩ : ByteArray) ++ rdOf ByteArray.empty x ((x.length : Int) - 2)) ++ (⟨#[c]⟩ : ByteArray)) ++ rdOf ByteArray.empty x ((x.length : Int) - 1)) ++ (⟨#[41]⟩ : ByteArray)])) := by
    intro c
    have ln : ((x.take ((x.length : Int) - 2).toNat ++ [((((⟨#[40]⟩ : ByteArray) ++ rdOf ByteArray.empty x ((x.length : Int) - 2)) ++ (⟨#[c]⟩ : ByteArray)) ++ rdOf ByteArray.empty x ((x.length : Int) - 1)) ++ (⟨#[41]⟩ : ByteArray)]).length : Int) = (x.length : Int) - 1 := by rw [List.length_append, tl]; simp; omega
    refine ih _ (2 * B + 3) (by omega) (by rw [ln]; exact e4) (fun y hy => ?_) hg
    rcases List.mem_append.1 hy with h | h
    ·have := hB y (List.mem_of_mem_take h); omega
    ·rw [List.mem_singleton.1 h]
     simp only [ByteArray.size_append, e1]
     omega
   rcases n1 with n1 | n1
   ·have z : ¬ (-2 : Int) = -1 := by omega
    simp only [impl_PatternText.l0, h1, h0, hs, n1, z, w1, w2, g1, g2, g3, g4, g5, g6, q1, q2, q3, q4, hw, Option.bind_some, ↓reduceIte, textF]
    exact nx 38
   ·have z : ¬ (-3 : Int) = -1 := by omega
    have z2 : ¬ (-3 : Int) = -2 := by omega
    simp only [impl_PatternText.l0, h1, h0, hs, n1, z, z2, w1, w2, g1, g2, g3, g4, g5, g6, q1, q2, q3, q4, hw, Option.bind_some, ↓reduceIte, textF]
    exact nx 124
theorem impl_PatternText_ev (p : List Int) (hl : p.length ≤ 1099511627776) : Ev (fun k => impl_PatternText.f k p) (patText p) := by
 simp only [impl_PatternText.f]
 refine Ev.bind (impl_IsPattern_ev p hl) ?_
 unfold patText
 cases hp : isPatM p
 ·exact ev_of_eq fun k => by simp only [Bool.false_eq_true, ↓reduceIte]
 ·simp only [↓reduceIte]
  obtain ⟨h1, h2⟩ := isPatM_run hp
  exact impl_PatternText_l0 p h2 h1

/-! impl_maybeText -/
/-- A pattern that need not be there, as text. -/
def maybeT (p : List Int) : ByteArray := if p.length = 0 then ⟨#[45]⟩ else patText p
theorem maybeT_size (p : List Int) : (maybeT p).size ≤ 3145728 := by
 unfold maybeT
 by_cases h : p.length = 0
 ·rw [if_pos h]; decide
 ·rw [if_neg h]; exact patText_size p
theorem impl_maybeText_ev (p : List Int) (hl : p.length ≤ 1099511627776) : Ev (fun k => impl_maybeText.f k p) (maybeT p) := by
 simp only [impl_maybeText.f, maybeT]
 by_cases h : p.length = 0
 ·have h' : (p.length : Int) = 0 := by omega
  exact ev_of_eq fun k => by rw [if_pos h', if_pos h]
 ·have h' : ¬ (p.length : Int) = 0 := by omega
  simp only [h, h', ↓reduceIte]
  exact Ev.bind (impl_PatternText_ev p hl) (Ev.now _)

/-! impl_RulesText -/
/-- Rules as text. -/
def rulesT (a0 a1 : Int) (a2 a3 : Bool) (l4 l5 : List Int) (a6 a7 : Int) : ByteArray :=
 if isRulesM a0 a1 a2 a3 l4 l5 a6 a7 = true then
  ((((((((((((⟨#[112, 108, 97, 121, 101, 114, 115, 61]⟩ : ByteArray) ++ numT a0) ++ (⟨#[32, 101, 97, 99, 104, 61]⟩ : ByteArray)) ++ numT a1) ++ (⟨#[32, 109, 97, 116, 99, 104, 61]⟩ : ByteArray)) ++ rulesWordM a2 a3) ++ (⟨#[32, 119, 105, 108, 100, 61]⟩ : ByteArray)) ++ maybeT l4) ++ (⟨#[32, 115, 107, 105, 112, 61]⟩ : ByteArray)) ++ maybeT l5) ++ (⟨#[32, 116, 97, 107, 101, 61]⟩ : ByteArray)) ++ numT a6) ++ (⟨#[32, 108, 105, 109, 105, 116, 61]⟩ : ByteArray) ++ numT a7
 else ⟨#[]⟩
theorem isRulesM_nums {a0 a1 : Int} {a2 a3 : Bool} {l4 l5 : List Int} {a6 a7 : Int} (h : isRulesM a0 a1 a2 a3 l4 l5 a6 a7 = true) : (2 ≤ a0 ∧ a0 ≤ 6) ∧ (1 ≤ a1 ∧ a1 ≤ 8) ∧ (1 ≤ a6 ∧ a6 ≤ 4) ∧ (1 ≤ a7 ∧ a7 ≤ 400) := by
 unfold isRulesM at h
 simp only [Bool.and_eq_true, decide_eq_true_eq] at h
 exact ⟨h.1, h.2.1, h.2.2.2.2.2.1, h.2.2.2.2.2.2⟩
theorem rulesWordM_size (a b : Bool) : (rulesWordM a b).size ≤ 4 := by cases a <;> cases b <;> decide
theorem join7 (x0 x1 x2 x3 x4 x5 x6 : ByteArray) : (⟨(Go.Lib.join ([x0, x1, x2, x3, x4, x5, x6].map (·.data.toList)) (⟨#[32]⟩ : ByteArray).data.toList).toArray⟩ : ByteArray) =
  (((((((((((x0 ++ (⟨#[32]⟩ : ByteArray)) ++ x1) ++ (⟨#[32]⟩ : ByteArray)) ++ x2) ++ (⟨#[32]⟩ : ByteArray)) ++ x3) ++ (⟨#[32]⟩ : ByteArray)) ++ x4) ++ (⟨#[32]⟩ : ByteArray)) ++ x5) ++ (⟨#[32]⟩ : ByteArray)) ++ x6 := by
 refine data_inj ?_
 simp [Go.Lib.join, List.intercalate, List.intersperse]
theorem join_size (xs : List ByteArray) (s : ByteArray) : (Go.Lib.join (xs.map (·.data.toList)) s.data.toList).length = (⟨(Go.Lib.join (xs.map (·.data.toList)) s.data.toList).toArray⟩ : ByteArray).size := by
 show _ = (List.toArray _).size
 simp
theorem cat_assoc (a b c : ByteArray) : a ++ (b ++ c) = (a ++ b) ++ c := (ByteArray.append_assoc).symm
theorem impl_RulesText_ev (a0 a1 : Int) (a2 a3 : Bool) (l4 l5 : List Int) (a6 a7 : Int) (h4 : l4.length ≤ 1048576) (h5 : l5.length ≤ 1048576) :
  Ev (fun k => impl_RulesText.f k a0 a1 a2 a3 l4 l5 a6 a7) (rulesT a0 a1 a2 a3 l4 l5 a6 a7) := by
 simp only [impl_RulesText.f]
 refine Ev.bind (impl_IsRules_ev a0 a1 a2 a3 l4 l5 a6 a7 h4 h5) ?_
 unfold rulesT
 cases hr : isRulesM a0 a1 a2 a3 l4 l5 a6 a7
 ·exact ev_of_eq fun k => by simp only [Bool.false_eq_true, ↓reduceIte]
 ·obtain ⟨n0, n1, n6, n7⟩ := isRulesM_nums hr
  have z0 := numT_size a0 (by omega) (by omega)
  have z1 := numT_size a1 (by omega) (by omega)
  have z6 := numT_size a6 (by omega) (by omega)
  have z7 := numT_size a7 (by omega) (by omega)
  have zw := rulesWordM_size a2 a3
  have z4 := maybeT_size l4
  have z5 := maybeT_size l5
  have c0 : 8 + (numT a0).size ≤ 9223372036854775807 := by omega
  have c1 : 5 + (numT a1).size ≤ 9223372036854775807 := by omega
  have cw : 6 + (rulesWordM a2 a3).size ≤ 9223372036854775807 := by omega
  have c4 : 5 + (maybeT l4).size ≤ 9223372036854775807 := by omega
  have c5 : 5 + (maybeT l5).size ≤ 9223372036854775807 := by omega
  have c6 : 5 + (numT a6).size ≤ 9223372036854775807 := by omega
  have c7 : 6 + (numT a7).size ≤ 9223372036854775807 := by omega
  simp only [↓reduceIte, impl_FormatInt_f a0 (by omega) (by omega), impl_FormatInt_f a1 (by omega) (by omega), impl_FormatInt_f a6 (by omega) (by omega), impl_FormatInt_f a7 (by omega) (by omega), Option.bind_some, c0, c1, c6, c7]
  refine Ev.bind (impl_RulesWord_ev a0 a1 a2 a3 l4 l5 a6 a7 h4 h5) ?_
  simp only [cw, ↓reduceIte]
  refine Ev.bind (impl_maybeText_ev l4 (by omega)) ?_
  simp only [c4, ↓reduceIte]
  refine Ev.bind (impl_maybeText_ev l5 (by omega)) ?_
  simp only [c5, ↓reduceIte]
  generalize numT a0 = x0 at z0
  generalize numT a1 = x1 at z1
  generalize numT a6 = x6 at z6
  generalize numT a7 = x7 at z7
  generalize rulesWordM a2 a3 = xw at zw
  generalize maybeT l4 = x4 at z4
  generalize maybeT l5 = x5 at z5
  refine ev_of_eq fun k => ?_
  unfold strings_Join.f
  rw [if_pos]
  ·rw [Option.bind_some, join7]
   congr 1
   simp only [cat_assoc]
   refine data_inj ?_
   simp
  ·refine ⟨by simp only [List.length_cons, List.length_nil]; omega, ?_⟩
   rw [join_size, join7]
   have e8 : (⟨#[112, 108, 97, 121, 101, 114, 115, 61]⟩ : ByteArray).size = 8 := rfl
   have ee : (⟨#[101, 97, 99, 104, 61]⟩ : ByteArray).size = 5 := rfl
   have em : (⟨#[109, 97, 116, 99, 104, 61]⟩ : ByteArray).size = 6 := rfl
   have ew : (⟨#[119, 105, 108, 100, 61]⟩ : ByteArray).size = 5 := rfl
   have es : (⟨#[115, 107, 105, 112, 61]⟩ : ByteArray).size = 5 := rfl
   have et : (⟨#[116, 97, 107, 101, 61]⟩ : ByteArray).size = 5 := rfl
   have el : (⟨#[108, 105, 109, 105, 116, 61]⟩ : ByteArray).size = 6 := rfl
   have e1 : (⟨#[32]⟩ : ByteArray).size = 1 := rfl
   simp only [ByteArray.size_append, e8, ee, em, ew, es, et, el, e1]
   omega

/-! impl_SplitWords -/
theorem splitF_len (s : ByteArray) (c : Int) : ∀ (n : Nat) (out : List ByteArray) (fr i : Int), (splitF s c n out fr i).length ≤ out.length + n + 1 := by
 intro n
 induction n with
 | zero => intro out fr i; simp [splitF]
 | succ n ih =>
  intro out fr i
  unfold splitF
  split
  ·have := ih (out ++ [s.extract fr.toNat i.toNat]) (i + 1) (i + 1)
   simp at this
   omega
  ·have := ih out fr (i + 1)
   omega
theorem impl_SplitWords_ev (s : ByteArray) (c : Int) (hs : s.size ≤ 1048576) : Ev (fun k => impl_SplitWords.f k s c) (splitF s c s.size [] 0 0) := by
 simp only [impl_SplitWords.f]
 suffices H : ∀ (n : Nat) (out : List ByteArray) (fr i : Int), 0 ≤ fr → fr ≤ i → i + n = s.size → out.length ≤ i → Ev (fun k => impl_SplitWords.l0 k s c out fr (s.size : Int) i) (splitF s c n out fr i) from H s.size [] 0 0 (by omega) (by omega) (by omega) (by simp)
 intro n
 induction n with
 | zero =>
  intro out fr i h0 h1 h2 h3
  obtain rfl : i = s.size := by omega
  have e1 : out.length < 8796093022208 := by omega
  refine ev_succ (ev_of_eq fun k => ?_)
  simp only [impl_SplitWords.l0, Int.lt_irrefl, ↓reduceIte, h0, h1, e1, splitF]
 | succ n ih =>
  intro out fr i h0 h1 h2 h3
  have e1 : out.length < 8796093022208 := by omega
  have e2 : wrap64 (i + 1) = i + 1 := w64 (by omega) (by omega)
  have e3 : i ≤ (s.size : Int) := by omega
  have e5 : 0 ≤ i := by omega
  have e6 : i < (s.size : Int) := by omega
  refine ev_succ ?_
  simp only [impl_SplitWords.l0, e1, e2, e3, e5, e6, h0, h1, ↓reduceIte, splitF]
  by_cases g : bt s i = c
  ·simp only [g, ↓reduceIte]
   exact ih _ _ _ (by omega) (by omega) (by omega) (by simp; omega)
  ·simp only [g, ↓reduceIte]
   exact ih _ _ _ (by omega) (by omega) (by omega) (by omega)

/-! impl_ValueAfter -/
/-- What comes behind a name and '='. -/
def afterM (a b : ByteArray) : ByteArray × Bool := if a.extract 0 (b.size + 1) = b ++ (⟨#[61]⟩ : ByteArray) then (a.extract (b.size + 1) a.size, true) else (⟨#[]⟩, false)
theorem impl_ValueAfter_f (a b : ByteArray) (hb : b.size ≤ 1048576) : impl_ValueAfter.f a b = some (afterM a b) := by
 have e0 : b.size + 1 ≤ 9223372036854775807 := by omega
 have e2 : (b ++ (⟨#[61]⟩ : ByteArray)).size = b.size + 1 := by rw [ByteArray.size_append]; rfl
 simp only [impl_ValueAfter.f, e0, ↓reduceIte, strings_CutPrefix.f, stringslite_CutPrefix.f, stringslite_HasPrefix.f, e2, afterM, Int.toNat_natCast]
 by_cases h : (a.size : Int) ≥ ((b.size + 1 : Nat) : Int)
 ·have e9 : (0 : Int) ≤ ((b.size + 1 : Nat) : Int) := by omega
  have h4 : ((b.size + 1 : Nat) : Int) ≤ (a.size : Int) := by omega
  simp only [h, h4, e9, ↓reduceIte, Option.bind_some, toList_iff, beq_iff_eq]
  by_cases g : a.extract 0 (b.size + 1) = b ++ (⟨#[61]⟩ : ByteArray)
  ·simp [g]
  ·simp [g]
 ·have g : ¬ a.extract 0 (b.size + 1) = b ++ (⟨#[61]⟩ : ByteArray) := fun e => by
   have := congrArg ByteArray.size e
   rw [ByteArray.size_extract, e2] at this
   omega
  simp only [h, g, ↓reduceIte, Option.bind_some, Bool.false_eq_true]
theorem afterM_size (a b : ByteArray) : (afterM a b).1.size ≤ a.size := by
 unfold afterM
 split
 ·rw [ByteArray.size_extract]; omega
 ·exact Nat.zero_le _
/-- A name, '=' and a value. -/
theorem afterM_of (n v : ByteArray) : afterM ((n ++ (⟨#[61]⟩ : ByteArray)) ++ v) n = (v, true) := by
 have z : n.size + 1 = (n ++ (⟨#[61]⟩ : ByteArray)).size := by rw [ByteArray.size_append]; rfl
 unfold afterM
 rw [z]
 generalize n ++ (⟨#[61]⟩ : ByteArray) = m
 have e1 : (m ++ v).extract 0 m.size = m := data_inj (by rw [extract_data', ByteArray.toList_data_append, List.drop_zero, ← size_data, List.take_left])
 have e2 : (m ++ v).extract m.size (m ++ v).size = v := data_inj (by rw [extract_data', ← size_data (m ++ v), List.take_length, ByteArray.toList_data_append, ← size_data m, List.drop_left])
 rw [e1, if_pos rfl, e2]

/-! impl_ParseInt -/
theorem ev_uniq {α : Type} {g : Nat → Option α} {a b : α} (h1 : Ev g a) (h2 : Ev g b) : a = b := by
 obtain ⟨K1, h1⟩ := h1
 obtain ⟨K2, h2⟩ := h2
 exact Option.some.inj ((h1 (max K1 K2) (Nat.le_max_left _ _)).symm.trans (h2 (max K1 K2) (Nat.le_max_right _ _)))
theorem impl_ParseInt_some (s : ByteArray) : ∃ v b, impl_ParseInt.f s = some (v, b) := by
 unfold impl_ParseInt.f
 split
 ·exact ⟨_, _, rfl⟩
 ·split
  ·split
   ·exact ⟨_, _, rfl⟩
   ·exact ⟨_, _, rfl⟩
  ·exact ⟨_, _, rfl⟩
theorem atoi_small : ∀ n : Fin 400, (match Go.Lib.atoiAll (dig3 (n.val + 1)) with | .ok v => v == ((n.val + 1 : Nat) : Int) | _ => false) = true := by decide +kernel
theorem impl_ParseInt_num (n : Int) (h0 : 1 ≤ n) (h : n ≤ 400) : impl_ParseInt.f (numT n) = some (n, true) := by
 obtain ⟨m, rfl⟩ := Int.eq_ofNat_of_zero_le (show 0 ≤ n by omega)
 have z := numT_size (m : Int) (by omega) (by omega)
 have hs := atoi_small ⟨m - 1, by omega⟩
 have e : m - 1 + 1 = m := by omega
 simp only [e] at hs
 have hd : (numT (m : Int)).data.toList = dig3 m := by
  unfold numT
  rw [itoa_dig3 m (by omega)]
 unfold impl_ParseInt.f
 rw [if_neg (by omega), hd]
 cases ha : Go.Lib.atoiAll (dig3 m) with
 | ok v =>
  rw [ha] at hs
  simp only [beq_iff_eq] at hs
  subst hs
  simp only
  rw [if_pos ⟨by omega, by omega, rfl⟩]
 | _ => rw [ha] at hs; exact absurd hs (by simp)

/-! impl_ParsePattern -/
theorem noteB_lt {s : ByteArray} {x : Int} (h : noteB s x ≠ 0) : x < (s.size : Int) := by
 refine Int.not_le.1 fun g => h ?_
 unfold noteB
 rw [if_neg (by omega)]
/-- The reading ends, within the text. -/
theorem readM_ex (s : ByteArray) (hs : s.size ≤ 200) : ∀ (M m : Nat), m ≤ M → ∀ (x : Int) (o : List Int), 0 ≤ x → x + m = s.size → (o.length : Int) ≤ x →
  ∃ r : NoteR, Ev (fun k => readM k s x o) r ∧ x < r.2.1 ∧ r.2.1 ≤ s.size + 1 ∧ (r.1 = true → r.2.1 ≤ s.size) ∧ (r.2.2.length : Int) ≤ o.length + (r.2.1 - x) := by
 intro M
 induction M with
 | zero =>
  intro m hm x o h0 h1 h2
  have c : noteB s x = 0 := if_neg (by omega)
  have g : 0 ≤ x ∧ x ≤ 1000 ∧ o.length ≤ 1000000 := by omega
  exact ⟨(false, x + 1, o), ev_succ (ev_of_eq fun k => by simp only [readM, g, c, ↓reduceIte, and_self]), by simp only; omega, by simp only; omega, (fun e => by cases e), by simp only; omega⟩
 | succ M ih =>
  intro m hm x o h0 h1 h2
  have g : 0 ≤ x ∧ x ≤ 1000 ∧ o.length ≤ 1000000 := by omega
  by_cases c0 : noteB s x = 0
  ·exact ⟨(false, x + 1, o), ev_succ (ev_of_eq fun k => by simp only [readM, g, c0, ↓reduceIte, and_self]), by simp only; omega, by simp only; omega, (fun e => by cases e), by simp only; omega⟩
  have hx := noteB_lt c0
  by_cases c33 : noteB s x = 33
  ·obtain ⟨⟨b, x1, o1⟩, hr, p1, p2, p3, p4⟩ := ih (m - 1) (by omega) (x + 1) o (by omega) (by omega) (by omega)
   simp only at p1 p2 p3 p4
   cases b
   ·refine ⟨(false, x1, o1), ev_succ ?_, by simp only; omega, by simp only; omega, (fun e => by cases e), by simp only; omega⟩
    simp only [readM, g, c33, show ¬ (33 : Int) = 0 by omega, ↓reduceIte, and_self]
    exact Ev.bind hr (Ev.now _)
   ·have q := p3 rfl
    have q1 : o1.length ≤ 1000000 := by omega
    refine ⟨(true, x1, o1 ++ [-1]), ev_succ ?_, by simp only; omega, by simp only; omega, fun _ => q, by simp only [List.length_append, List.length_cons, List.length_nil]; omega⟩
    simp only [readM, g, c33, show ¬ (33 : Int) = 0 by omega, ↓reduceIte, and_self]
    exact Ev.bind hr (ev_of_eq fun k => by simp only [↓reduceIte, q1])
  by_cases c40 : noteB s x = 40
  ·obtain ⟨⟨b, x1, o1⟩, hr, p1, p2, p3, p4⟩ := ih (m - 1) (by omega) (x + 1) o (by omega) (by omega) (by omega)
   simp only at p1 p2 p3 p4
   have N0 : ¬ (40 : Int) = 0 := by omega
   have N3 : ¬ (40 : Int) = 33 := by omega
   cases b
   ·refine ⟨(false, x1, o1), ev_succ ?_, by simp only; omega, by simp only; omega, (fun e => by cases e), by simp only; omega⟩
    simp only [readM, g, c40, N0, N3, ↓reduceIte, and_self, pairM]
    exact Ev.bind hr (Ev.now _)
   have q := p3 rfl
   have q1 : 0 ≤ x1 ∧ x1 ≤ 1000000 := by omega
   by_cases d : noteB s x1 = 38 ∨ noteB s x1 = 124
   ·have hx1 : x1 < (s.size : Int) := noteB_lt (fun e => by rcases d with d | d <;> rw [e] at d <;> exact absurd d (by decide))
    obtain ⟨⟨b2, x2, o2⟩, hr2, r1, r2, r3, r4⟩ := ih (s.size - (x1 + 1)).toNat (by omega) (x1 + 1) o1 (by omega) (by omega) (by omega)
    simp only at r1 r2 r3 r4
    cases b2
    ·refine ⟨(false, x2, o2), ev_succ ?_, by simp only; omega, by simp only; omega, (fun e => by cases e), by simp only; omega⟩
     simp only [readM, g, c40, N0, N3, ↓reduceIte, and_self, pairM]
     refine Ev.bind hr ?_
     simp only [q1, d, and_self, ↓reduceIte]
     exact Ev.bind hr2 (Ev.now _)
    ·have z := r3 rfl
     have z1 : 0 ≤ x2 ∧ x2 ≤ 1000000 ∧ o2.length ≤ 1000000 := by omega
     by_cases f : noteB s x2 = 41
     ·have hx2 : x2 < (s.size : Int) := noteB_lt (fun e => by rw [e] at f; exact absurd f (by decide))
      refine ⟨(true, x2 + 1, o2 ++ [if noteB s x1 = 38 then -2 else -3]), ev_succ ?_, by simp only; omega, by simp only; omega, fun _ => by simp only; omega, by simp only [List.length_append, List.length_cons, List.length_nil]; omega⟩
      simp only [readM, g, c40, N0, N3, ↓reduceIte, and_self, pairM]
      refine Ev.bind hr ?_
      simp only [q1, d, and_self, ↓reduceIte]
      exact Ev.bind hr2 (ev_of_eq fun k => by simp only [z1, f, and_self, ↓reduceIte])
     ·refine ⟨(false, x2, o2), ev_succ ?_, by simp only; omega, by simp only; omega, (fun e => by cases e), by simp only; omega⟩
      simp only [readM, g, c40, N0, N3, ↓reduceIte, and_self, pairM]
      refine Ev.bind hr ?_
      simp only [q1, d, and_self, ↓reduceIte]
      exact Ev.bind hr2 (ev_of_eq fun k => by simp only [z1, f, and_self, ↓reduceIte])
   ·refine ⟨(false, x1, o1), ev_succ ?_, by simp only; omega, by simp only; omega, (fun e => by cases e), by simp only; omega⟩
    simp only [readM, g, c40, N0, N3, ↓reduceIte, and_self, pairM]
    exact Ev.bind hr (ev_of_eq fun k => by simp only [q1, d, and_self, ↓reduceIte])
  by_cases c114 : noteB s x = 114
  ·refine ⟨(true, x + 1, o ++ [400]), ev_succ (ev_of_eq fun k => by simp only [readM, g, c114, show ¬ (114 : Int) = 0 by omega, show ¬ (114 : Int) = 33 by omega, show ¬ (114 : Int) = 40 by omega, ↓reduceIte, and_self]), by simp only; omega, by simp only; omega, fun _ => by simp only; omega, by simp only [List.length_append, List.length_cons, List.length_nil]; omega⟩
  by_cases cs : 0 ≤ suitI (noteB s x)
  ·refine ⟨(true, x + 1, o ++ [wrap64 (100 + suitI (noteB s x))]), ev_succ (ev_of_eq fun k => by simp only [readM, g, c0, c33, c40, c114, cs, ↓reduceIte, and_self]), by simp only; omega, by simp only; omega, fun _ => by simp only; omega, by simp only [List.length_append, List.length_cons, List.length_nil]; omega⟩
  by_cases cr : rankI (noteB s x) < 0
  ·refine ⟨(false, x + 1, o), ev_succ (ev_of_eq fun k => by simp only [readM, g, c0, c33, c40, c114, cs, cr, ↓reduceIte, and_self]), by simp only; omega, by simp only; omega, (fun e => by cases e), by simp only; omega⟩
  by_cases cp : noteB s (x + 1) = 43
  ·have hx2 : x + 1 < (s.size : Int) := noteB_lt (fun e => by rw [e] at cp; exact absurd cp (by decide))
   refine ⟨(true, x + 1 + 1, o ++ [wrap64 (300 + rankI (noteB s x))]), ev_succ (ev_of_eq fun k => by simp only [readM, g, c0, c33, c40, c114, cs, cr, cp, ↓reduceIte, and_self]), by simp only; omega, by simp only; omega, fun _ => by simp only; omega, by simp only [List.length_append, List.length_cons, List.length_nil]; omega⟩
  ·refine ⟨(true, x + 1, o ++ [wrap64 (200 + rankI (noteB s x))]), ev_succ (ev_of_eq fun k => by simp only [readM, g, c0, c33, c40, c114, cs, cr, cp, ↓reduceIte, and_self]), by simp only; omega, by simp only; omega, fun _ => by simp only; omega, by simp only [List.length_append, List.length_cons, List.length_nil]; omega⟩
/-! signs and texts that are told by each other -/
theorem at_drop {s : ByteArray} {x : Nat} {c : UInt8} {r : List UInt8} (h : s.data.toList.drop x = c :: r) : x < s.size ∧ bt s (x : Int) = (c.toNat : Int) ∧ s.data.toList.drop (x + 1) = r := by
 have hl : x < s.data.toList.length := by
  refine Nat.lt_of_not_le fun g => ?_
  rw [List.drop_eq_nil_of_le g] at h
  exact absurd h (by simp)
 rw [List.drop_eq_getElem_cons hl] at h
 injection h with h1 h2
 have hx : x < s.size := by rw [← size_data]; exact hl
 exact ⟨hx, (bt_eq s x hx c).2 h1, h2⟩
theorem noteB_at {s : ByteArray} {x : Nat} {c : UInt8} {r : List UInt8} (h : s.data.toList.drop x = c :: r) : noteB s (x : Int) = (c.toNat : Int) := by
 obtain ⟨h1, h2, _⟩ := at_drop h
 unfold noteB
 rw [if_pos (by omega), h2]
theorem drop_end {s : ByteArray} {x : Nat} (h : s.data.toList.drop x = []) : s.size ≤ x := by
 have := List.drop_eq_nil_iff.1 h
 rw [size_data] at this
 exact this
theorem noteB_not {s : ByteArray} {x : Nat} {post : List UInt8} (h : s.data.toList.drop x = post) (hp : post.head? ≠ some 43) : noteB s (x : Int) ≠ 43 := by
 cases post with
 | nil =>
  have := drop_end h
  unfold noteB
  rw [if_neg (by omega)]
  decide
 | cons c r =>
  rw [noteB_at h]
  intro e
  refine hp ?_
  rw [List.head?_cons, UInt8.toNat_inj.1 (show c.toNat = (43 : UInt8).toNat by simpa using Int.ofNat.inj e)]
def suitC (i : Nat) : UInt8 := [99, 100, 104, 115].getD i 0
def rankC (i : Nat) : UInt8 := [50, 51, 52, 53, 54, 55, 56, 57, 84, 74, 81, 75, 65].getD i 0
theorem suit_text : ∀ i : Fin 4, (signM (100 + (i.val : Int))).data.toList = [suitC i.val] := by decide +kernel
theorem rank_text : ∀ i : Fin 13, (signM (200 + (i.val : Int))).data.toList = [rankC i.val] := by decide +kernel
theorem from_text : ∀ i : Fin 13, (signM (300 + (i.val : Int))).data.toList = [rankC i.val, 43] := by decide +kernel
theorem suit_fact : ∀ i : Fin 4, ¬ ((suitC i.val).toNat : Int) = 0 ∧ ¬ ((suitC i.val).toNat : Int) = 33 ∧ ¬ ((suitC i.val).toNat : Int) = 40 ∧ ¬ ((suitC i.val).toNat : Int) = 114 ∧ suitI ((suitC i.val).toNat : Int) = i.val := by decide +kernel
theorem rank_fact : ∀ i : Fin 13, ¬ ((rankC i.val).toNat : Int) = 0 ∧ ¬ ((rankC i.val).toNat : Int) = 33 ∧ ¬ ((rankC i.val).toNat : Int) = 40 ∧ ¬ ((rankC i.val).toNat : Int) = 114 ∧ suitI ((rankC i.val).toNat : Int) = -1 ∧ rankI ((rankC i.val).toNat : Int) = i.val := by decide +kernel
/-- The four kinds of leaves. -/
theorem leaf_cases {s : Int} (h : leafM s = true) : (∃ i : Fin 4, s = 100 + (i.val : Int)) ∨ (∃ i : Fin 13, s = 200 + (i.val : Int)) ∨ (∃ i : Fin 13, s = 300 + (i.val : Int)) ∨ s = 400 := by
 unfold leafM at h
 simp only [Bool.or_eq_true, decide_eq_true_eq, beq_iff_eq] at h
 rcases h with ((h | h) | h) | h
 ·exact Or.inl ⟨⟨(s - 100).toNat, by omega⟩, by simp only; omega⟩
 ·exact Or.inr (Or.inl ⟨⟨(s - 200).toNat, by omega⟩, by simp only; omega⟩)
 ·exact Or.inr (Or.inr (Or.inl ⟨⟨(s - 300).toNat, by omega⟩, by simp only; omega⟩))
 ·exact Or.inr (Or.inr (Or.inr h))
/-- A pattern's text, out of the texts of its parts. -/
theorem good_text (G : List Int → List UInt8 → Prop) (hleaf : ∀ s, leafM s = true → G [s] (signM s).data.toList) (hneg : ∀ q t, G q t → G (q ++ [-1]) (33 :: t))
  (hbin : ∀ q1 t1 q2 t2 (op : Int) (c : UInt8), (op = -2 ∧ c = 38 ∨ op = -3 ∧ c = 124) → G q1 t1 → G q2 t2 → G (q1 ++ q2 ++ [op]) (40 :: (t1 ++ (c :: (t2 ++ [41]))))) :
  ∀ (p : List Int) (ps : List (List Int × ByteArray)), patF p (ps.length : Int) = some 1 → (∀ y ∈ ps, G y.1 y.2.data.toList) → G ((ps.map (·.1)).flatten ++ p) (textF p (ps.map (·.2))).data.toList := by
 intro p
 induction p with
 | nil =>
  intro ps he hg
  simp only [patF, Option.some.injEq] at he
  match ps, he with
  | [y], _ => simpa [textF, rdOf] using hg y (by simp)
 | cons s r ih =>
  intro ps he hg
  have le := he
  rcases patF_step he with ⟨n1, n2, n3, e4⟩ | ⟨n1, n2, e4⟩ | ⟨n1, n2, e4⟩
  ·have hl : leafM s = true := by
    unfold patF at le
    by_cases h : leafM s = true
    ·exact h
    ·rw [if_neg h] at le
     simp only [n1, n2, n3, ↓reduceIte, or_self, beq_iff_eq] at le
     exact absurd le (by simp)
   have := ih (ps ++ [([s], signM s)]) (by simpa using e4) (fun y hy => by
    rcases List.mem_append.1 hy with h | h
    ·exact hg y h
    ·rw [List.mem_singleton.1 h]; exact hleaf s hl)
   simp only [textF, n1, n2, n3, ↓reduceIte]
   simpa using this
  ·subst n1
   obtain ⟨qs, y, rfl⟩ : ∃ qs y, ps = qs ++ [y] := ⟨ps.dropLast, ps.getLast (by intro e; rw [e] at n2; simp at n2), (List.dropLast_concat_getLast _).symm⟩
   have := ih (qs ++ [(y.1 ++ [-1], (⟨#[33]⟩ : ByteArray) ++ y.2)]) (by simpa using e4) (fun z hz => by
    rcases List.mem_append.1 hz with h | h
    ·exact hg z (List.mem_append_left _ h)
    ·rw [List.mem_singleton.1 h]
     have g := hneg _ _ (hg y (by simp))
     simpa using g)
   have ex : ((qs ++ [y]).map (·.2)).length = qs.length + 1 := by simp
   have e1 : rdOf ByteArray.empty ((qs ++ [y]).map (·.2)) (((qs.length + 1 : Nat) : Int) - 1) = y.2 := by
    rw [List.map_append, List.map_cons, List.map_nil]
    exact rdOf_mid _ _ [] _ (by simp) _
   have e2 : ((qs ++ [y]).map (·.2)).set (((qs.length + 1 : Nat) : Int) - 1).toNat ((⟨#[33]⟩ : ByteArray) ++ y.2) = qs.map (·.2) ++ [(⟨#[33]⟩ : ByteArray) ++ y.2] := by
    rw [List.map_append, List.map_cons, List.map_nil]
    simp
   simp only [textF, ↓reduceIte, ex, e1, e2]
   simpa using this
  ·obtain ⟨qs, y, z, rfl⟩ : ∃ qs y z, ps = qs ++ [y, z] := by
    have h1 : ps ≠ [] := by intro e; rw [e] at n2; simp at n2
    have h2 : ps.dropLast ≠ [] := by intro e; have := congrArg List.length e; simp at this; omega
    refine ⟨ps.dropLast.dropLast, ps.dropLast.getLast h2, ps.getLast h1, ?_⟩
    have a := List.dropLast_concat_getLast h1
    have b := List.dropLast_concat_getLast h2
    conv => lhs; rw [← a, ← b]
    simp
   have ex : ((qs ++ [y, z]).map (·.2)).length = qs.length + 2 := by simp
   have e1 : rdOf ByteArray.empty ((qs ++ [y, z]).map (·.2)) (((qs.length + 2 : Nat) : Int) - 2) = y.2 := by
    rw [List.map_append, List.map_cons, List.map_cons, List.map_nil]
    exact rdOf_mid _ _ _ _ (by simp) _
   have e2 : rdOf ByteArray.empty ((qs ++ [y, z]).map (·.2)) (((qs.length + 2 : Nat) : Int) - 1) = z.2 := by
    have : (qs ++ [y, z]).map (·.2) = (qs.map (·.2) ++ [y.2]) ++ z.2 :: [] := by simp
    rw [this]
    exact rdOf_mid _ _ _ _ (by simp; omega) _
   have e3 : ((qs ++ [y, z]).map (·.2)).take (((qs.length + 2 : Nat) : Int) - 2).toNat = qs.map (·.2) := by
    rw [show (((qs.length + 2 : Nat) : Int) - 2).toNat = (qs.map (·.2)).length by simp, List.map_append]
    exact List.take_left
   have hy := hg y (by simp)
   have hz := hg z (by simp)
   have go : ∀ c : UInt8, (s = -2 ∧ c = 38 ∨ s = -3 ∧ c = 124) → G (((qs ++ [y, z]).map (·.1)).flatten ++ s :: r) (textF r (qs.map (·.2) ++ [((((⟨#[40]⟩ : ByteArray) ++ y.2) ++ (⟨#[c]⟩ : ByteArray)) ++ z.2) ++ (⟨#[41]⟩ : ByteArray)])).data.toList := by
    intro c hc
    have := ih (qs ++ [(y.1 ++ z.1 ++ [s], ((((⟨#[40]⟩ : ByteArray) ++ y.2) ++ (⟨#[c]⟩ : ByteArray)) ++ z.2) ++ (⟨#[41]⟩ : ByteArray))]) (by
      rw [List.length_append] at e4 ⊢
      simp only [List.length_cons, List.length_nil] at e4 ⊢
      rw [← e4]
      congr 1
      omega) (fun u hu => by
     rcases List.mem_append.1 hu with h | h
     ·exact hg u (List.mem_append_left _ h)
     ·rw [List.mem_singleton.1 h]
      have g := hbin _ _ _ _ s c hc hy hz
      simpa using g)
    simpa using this
   rcases n1 with n1 | n1
   ·subst n1
    simp only [textF, show ¬ (-2 : Int) = -1 by omega, ↓reduceIte, ex, e1, e2, e3]
    exact go 38 (Or.inl ⟨rfl, rfl⟩)
   ·subst n1
    simp only [textF, show ¬ (-3 : Int) = -1 by omega, show ¬ (-3 : Int) = -2 by omega, ↓reduceIte, ex, e1, e2, e3]
    exact go 124 (Or.inr ⟨rfl, rfl⟩)
/-- Signs and a text that the reader turns into each other. -/
def GoodI (q : List Int) (t : List UInt8) : Prop := 1 ≤ q.length ∧ t.length ≤ 3 * q.length ∧ ∀ (s : ByteArray) (x : Nat) (post : List UInt8) (o : List Int), s.size ≤ 900 → s.data.toList.drop x = t ++ post → post.head? ≠ some 43 → o.length + q.length ≤ 900 →
 Ev (fun k => readM k s (x : Int) o) (true, ((x + t.length : Nat) : Int), o ++ q)
theorem goodI_leaf (s : Int) (h : leafM s = true) : GoodI [s] (signM s).data.toList := by
 rcases leaf_cases h with ⟨i, rfl⟩ | ⟨i, rfl⟩ | ⟨i, rfl⟩ | rfl
 ·obtain ⟨f0, f33, f40, f114, fs⟩ := suit_fact i
  rw [suit_text i]
  refine ⟨by simp, by simp, fun b x post o hb hd hp ho => ?_⟩
  have e := noteB_at hd
  have g : 0 ≤ (x : Int) ∧ (x : Int) ≤ 1000 ∧ o.length ≤ 1000000 := by have := (at_drop hd).1; simp at ho; omega
  have fw : wrap64 (100 + (i.val : Int)) = 100 + i.val := w64 (by omega) (by omega)
  refine ev_succ (ev_of_eq fun k => ?_)
  simp only [readM, g, e, f0, f33, f40, f114, fs, fw, Int.natCast_nonneg, ↓reduceIte, and_self, List.length_cons, List.length_nil]
  rfl
 ·obtain ⟨f0, f33, f40, f114, fs, fr⟩ := rank_fact i
  rw [rank_text i]
  refine ⟨by simp, by simp, fun b x post o hb hd hp ho => ?_⟩
  have e := noteB_at hd
  have n := noteB_not (at_drop hd).2.2 hp
  have g : 0 ≤ (x : Int) ∧ (x : Int) ≤ 1000 ∧ o.length ≤ 1000000 := by have := (at_drop hd).1; simp at ho; omega
  have fw : wrap64 (200 + (i.val : Int)) = 200 + i.val := w64 (by omega) (by omega)
  have z : ¬ (i.val : Int) < 0 := Int.not_lt.2 (Int.natCast_nonneg _)
  have n' : ¬ noteB b ((x : Int) + 1) = 43 := n
  refine ev_succ (ev_of_eq fun k => ?_)
  simp only [readM, g, e, f0, f33, f40, f114, fs, fr, z, n', fw, show ¬ (0 : Int) ≤ -1 by omega, ↓reduceIte, and_self, List.length_cons, List.length_nil]
  rfl
 ·obtain ⟨f0, f33, f40, f114, fs, fr⟩ := rank_fact i
  rw [from_text i]
  refine ⟨by simp, by simp, fun b x post o hb hd hp ho => ?_⟩
  have e := noteB_at hd
  have n : noteB b ((x + 1 : Nat) : Int) = ((43 : UInt8).toNat : Int) := noteB_at (at_drop hd).2.2
  rw [show ((43 : UInt8).toNat : Int) = 43 by decide] at n
  have g : 0 ≤ (x : Int) ∧ (x : Int) ≤ 1000 ∧ o.length ≤ 1000000 := by have := (at_drop hd).1; simp at ho; omega
  have fw : wrap64 (300 + (i.val : Int)) = 300 + i.val := w64 (by omega) (by omega)
  have z : ¬ (i.val : Int) < 0 := Int.not_lt.2 (Int.natCast_nonneg _)
  have n' : noteB b ((x : Int) + 1) = 43 := n
  refine ev_succ (ev_of_eq fun k => ?_)
  simp only [readM, g, e, f0, f33, f40, f114, fs, fr, z, n', fw, show ¬ (0 : Int) ≤ -1 by omega, ↓reduceIte, and_self, List.length_cons, List.length_nil]
  rfl
 ·have et : (signM 400).data.toList = [114] := by unfold signM; rw [if_pos rfl]
  rw [et]
  refine ⟨by simp, by simp, fun b x post o hb hd hp ho => ?_⟩
  have e : noteB b (x : Int) = ((114 : UInt8).toNat : Int) := noteB_at hd
  rw [show ((114 : UInt8).toNat : Int) = 114 by decide] at e
  have g : 0 ≤ (x : Int) ∧ (x : Int) ≤ 1000 ∧ o.length ≤ 1000000 := by have := (at_drop hd).1; simp at ho; omega
  refine ev_succ (ev_of_eq fun k => ?_)
  simp only [readM, g, e, show ¬ (114 : Int) = 0 by omega, show ¬ (114 : Int) = 33 by omega, show ¬ (114 : Int) = 40 by omega, ↓reduceIte, and_self, List.length_cons, List.length_nil]
  rfl
theorem goodI_neg (q : List Int) (t : List UInt8) (h : GoodI q t) : GoodI (q ++ [-1]) (33 :: t) := by
 obtain ⟨h1, h2, h3⟩ := h
 refine ⟨by simp, by simp; omega, fun b x post o hb hd hp ho => ?_⟩
 have e : noteB b (x : Int) = ((33 : UInt8).toNat : Int) := noteB_at hd
 rw [show ((33 : UInt8).toNat : Int) = 33 by decide] at e
 rw [List.length_append] at ho
 simp only [List.length_cons, List.length_nil] at ho
 have g : 0 ≤ (x : Int) ∧ (x : Int) ≤ 1000 ∧ o.length ≤ 1000000 := by have := (at_drop hd).1; omega
 have r := h3 b (x + 1) post o hb (at_drop hd).2.2 hp (by omega)
 have g2 : (o ++ q).length ≤ 1000000 := by rw [List.length_append]; omega
 refine ev_succ ?_
 simp only [readM, g, e, show ¬ (33 : Int) = 0 by omega, ↓reduceIte, and_self]
 refine Ev.bind r (ev_of_eq fun k => ?_)
 simp only [g2, ↓reduceIte, List.length_cons, List.append_assoc]
 congr 3
 omega
theorem goodI_bin (q1 : List Int) (t1 : List UInt8) (q2 : List Int) (t2 : List UInt8) (op : Int) (c : UInt8) (hc : op = -2 ∧ c = 38 ∨ op = -3 ∧ c = 124) (ha : GoodI q1 t1) (hb : GoodI q2 t2) : GoodI (q1 ++ q2 ++ [op]) (40 :: (t1 ++ (c :: (t2 ++ [41])))) := by
 obtain ⟨a1, a2, a3⟩ := ha
 obtain ⟨b1, b2, b3⟩ := hb
 refine ⟨by simp only [List.length_append, List.length_cons, List.length_nil]; omega, by simp only [List.length_append, List.length_cons, List.length_nil]; omega, fun b x post o hb hd hp ho => ?_⟩
 have e : noteB b (x : Int) = ((40 : UInt8).toNat : Int) := noteB_at hd
 rw [show ((40 : UInt8).toNat : Int) = 40 by decide] at e
 simp only [List.length_append, List.length_cons, List.length_nil] at ho
 have g : 0 ≤ (x : Int) ∧ (x : Int) ≤ 1000 ∧ o.length ≤ 1000000 := by have := (at_drop hd).1; omega
 have d1 : b.data.toList.drop (x + 1) = t1 ++ (c :: (t2 ++ (41 :: post))) := by
  have := (at_drop hd).2.2
  rw [this]
  simp
 have r1 := a3 b (x + 1) _ o hb d1 (by rcases hc with ⟨_, rfl⟩ | ⟨_, rfl⟩ <;> simp) (by omega)
 have d2 : b.data.toList.drop (x + 1 + t1.length) = c :: (t2 ++ (41 :: post)) := by
  rw [← List.drop_drop, d1, List.drop_left]
 have c1 := noteB_at d2
 have l2 := (at_drop d2).1
 have d3 := (at_drop d2).2.2
 have r2 := b3 b (x + 1 + t1.length + 1) _ (o ++ q1) hb d3 (by simp) (by rw [List.length_append]; omega)
 have d4 : b.data.toList.drop (x + 1 + t1.length + 1 + t2.length) = 41 :: post := by
  rw [← List.drop_drop, d3, List.drop_left]
 have c2 : noteB b ((x + 1 + t1.length + 1 + t2.length : Nat) : Int) = ((41 : UInt8).toNat : Int) := noteB_at d4
 rw [show ((41 : UInt8).toNat : Int) = 41 by decide] at c2
 have l4 := (at_drop d4).1
 have g1 : 0 ≤ ((x + 1 + t1.length : Nat) : Int) ∧ ((x + 1 + t1.length : Nat) : Int) ≤ 1000000 := by omega
 have g2 : 0 ≤ ((x + 1 + t1.length + 1 + t2.length : Nat) : Int) ∧ ((x + 1 + t1.length + 1 + t2.length : Nat) : Int) ≤ 1000000 ∧ (o ++ q1 ++ q2).length ≤ 1000000 := by
  rw [List.length_append, List.length_append]
  omega
 have hs : (if noteB b ((x + 1 + t1.length : Nat) : Int) = 38 then (-2 : Int) else -3) = op ∧ (noteB b ((x + 1 + t1.length : Nat) : Int) = 38 ∨ noteB b ((x + 1 + t1.length : Nat) : Int) = 124) := by
  rw [c1]
  rcases hc with ⟨rfl, rfl⟩ | ⟨rfl, rfl⟩
  ·exact ⟨by decide, Or.inl rfl⟩
  ·exact ⟨by decide, Or.inr rfl⟩
 refine ev_succ ?_
 simp only [readM, g, e, show ¬ (40 : Int) = 0 by omega, show ¬ (40 : Int) = 33 by omega, ↓reduceIte, and_self, pairM]
 refine Ev.bind r1 ?_
 simp only [g1, hs.2, and_self, ↓reduceIte]
 refine Ev.bind r2 (ev_of_eq fun k => ?_)
 simp only [g2, c2, hs.1, and_self, ↓reduceIte]
 refine congrArg some (Prod.ext rfl (Prod.ext ?_ ?_))
 ·simp only [List.length_cons, List.length_append, List.length_nil]; omega
 ·simp
theorem goodI_text (p : List Int) (h : isPatM p = true) : GoodI p (textF p []).data.toList := by
 have := good_text GoodI goodI_leaf goodI_neg goodI_bin p [] (by simpa using (isPatM_run h).1) (fun y hy => by simp at hy)
 simpa using this
theorem patText_of {p : List Int} (h : isPatM p = true) : patText p = textF p [] := if_pos h
theorem isPatM_ne {p : List Int} (h : isPatM p = true) : p.length ≠ 0 := by
 intro e
 rw [List.length_eq_zero_iff.1 e] at h
 exact absurd h (by decide)
/-- What ParsePattern answers: a list; of a pattern's text, or of the sign for none, its signs. -/
theorem impl_ParsePattern_ex (s : ByteArray) : ∃ (p : List Int) (b : Bool), Ev (fun k => impl_ParsePattern.f k s) (p, b) ∧ p.length ≤ 1048576 ∧ (∀ q, maybeM q = true → s = maybeT q → p = q) := by
 by_cases hl : 100 < (s.size : Int)
 ·refine ⟨[], false, ev_of_eq fun k => by simp only [impl_ParsePattern.f, hl, ↓reduceIte], by simp, fun q hq e => ?_⟩
  unfold maybeM at hq
  unfold maybeT at e
  by_cases h0 : q.length = 0
  ·exact (List.length_eq_zero_iff.1 h0).symm
  ·rw [if_neg h0] at e
   have hp : isPatM q = true := by simpa [h0] using hq
   have := (goodI_text q hp).2.1
   rw [size_data, ← patText_of hp, ← e] at this
   have := (isPatM_run hp).2
   omega
 obtain ⟨⟨b, x, o⟩, hr, p1, p2, p3, p4⟩ := readM_ex s (by omega) s.size s.size (Nat.le_refl _) 0 [] (by omega) (by omega) (by simp)
 simp only at p1 p2 p3 p4
 have lo : o.length ≤ 1000 := by simp at p4; omega
 cases b
 ·refine ⟨[], false, ?_, by simp, fun q hq e => ?_⟩
  ·simp only [impl_ParsePattern.f, hl, ↓reduceIte]
   exact Ev.bind hr (ev_of_eq fun k => by simp)
  ·unfold maybeM at hq
   unfold maybeT at e
   by_cases h0 : q.length = 0
   ·exact (List.length_eq_zero_iff.1 h0).symm
   ·rw [if_neg h0] at e
    have hp : isPatM q = true := by simpa [h0] using hq
    rw [patText_of hp] at e
    have := (goodI_text q hp).2.2 s 0 [] [] (by omega) (by rw [List.drop_zero, e, List.append_nil]) (by simp) (by have := (isPatM_run hp).2; simp; omega)
    have := ev_uniq hr this
    exact absurd (congrArg Prod.fst this) (by simp)
 ·have hs0 : s.size ≠ 0 := by
   intro e
   have := p3 rfl
   omega
  have lt : o.length ≤ 1099511627776 := by omega
  have ht := impl_PatternText_ev o lt
  refine ⟨if (patText o).toList = s.toList then o else [], decide ((patText o).toList = s.toList), ?_, ?_, fun q hq e => ?_⟩
  ·simp only [impl_ParsePattern.f, hl, ↓reduceIte]
   refine Ev.bind hr ?_
   simp only [↓reduceIte]
   refine Ev.bind ht (ev_of_eq fun k => ?_)
   by_cases g : (patText o).toList = s.toList
   ·simp [g]
   ·simp [g]
  ·by_cases g : (patText o).toList = s.toList
   ·rw [if_pos g]; omega
   ·rw [if_neg g]; simp
  ·unfold maybeM at hq
   unfold maybeT at e
   by_cases h0 : q.length = 0
   ·rw [if_pos h0] at e
    subst e
    have z : readM 1 (⟨#[45]⟩ : ByteArray) 0 [] = some (false, 1, []) := by decide +kernel
    have : Ev (fun k => readM k (⟨#[45]⟩ : ByteArray) 0 []) (false, 1, []) := Ev.of (k := 1) (fun k => readM_mono k _ _ _) z
    exact absurd (congrArg Prod.fst (ev_uniq hr this)) (by simp)
   ·rw [if_neg h0] at e
    have hp : isPatM q = true := by simpa [h0] using hq
    have e' := e
    rw [patText_of hp] at e
    have := (goodI_text q hp).2.2 s 0 [] [] (by omega) (by rw [List.drop_zero, e, List.append_nil]) (by simp) (by have := (isPatM_run hp).2; simp; omega)
    have := ev_uniq hr this
    have oq : o = q := by simpa using congrArg (fun z => z.2.2) this
    subst oq
    rw [if_pos (by rw [e'])]

/-! impl_ParseRules -/
/-! the words of rules -/
theorem no32_dig : ∀ n : Fin 400, (32 : UInt8) ∉ dig3 (n.val + 1) := by decide +kernel
theorem no32_num (n : Int) (h0 : 1 ≤ n) (h : n ≤ 400) : (32 : UInt8) ∉ (numT n).data.toList := by
 obtain ⟨m, rfl⟩ := Int.eq_ofNat_of_zero_le (show 0 ≤ n by omega)
 have hs := no32_dig ⟨m - 1, by omega⟩
 have e : m - 1 + 1 = m := by omega
 simp only [e] at hs
 have hd : (numT (m : Int)).data.toList = dig3 m := by
  unfold numT
  rw [itoa_dig3 m (by omega)]
 rw [hd]
 exact hs
theorem no32_suit : ∀ i : Fin 4, (32 : UInt8) ∉ [suitC i.val] := by decide +kernel
theorem no32_rank : ∀ i : Fin 13, (32 : UInt8) ∉ [rankC i.val, 43] := by decide +kernel
theorem no32_text (p : List Int) (h : isPatM p = true) : (32 : UInt8) ∉ (textF p []).data.toList := by
 have := good_text (fun _ t => (32 : UInt8) ∉ t) (fun s hs => by
   rcases leaf_cases hs with ⟨i, rfl⟩ | ⟨i, rfl⟩ | ⟨i, rfl⟩ | rfl
   ·rw [suit_text i]; exact no32_suit i
   ·rw [rank_text i]; exact fun m => no32_rank i (List.mem_cons.2 (Or.inl (List.mem_singleton.1 m)))
   ·rw [from_text i]; exact no32_rank i
   ·have et : (signM 400).data.toList = [114] := by unfold signM; rw [if_pos rfl]
    rw [et]; decide) (fun q t h m => by
   rcases List.mem_cons.1 m with m | m
   ·exact absurd m (by decide)
   ·exact h m) (fun q1 t1 q2 t2 op c hc h1 h2 m => by
   simp only [List.mem_cons, List.mem_append, List.not_mem_nil, or_false] at m
   rcases m with m | m | m | m | m
   ·exact absurd m (by decide)
   ·exact h1 m
   ·rcases hc with ⟨_, rfl⟩ | ⟨_, rfl⟩ <;> exact absurd m (by decide)
   ·exact h2 m
   ·exact absurd m (by decide)) p [] (by simpa using (isPatM_run h).1) (fun y hy => by simp at hy)
 simpa using this
theorem no32_maybe (p : List Int) (h : maybeM p = true) : (32 : UInt8) ∉ (maybeT p).data.toList := by
 unfold maybeM at h
 unfold maybeT
 by_cases h0 : p.length = 0
 ·rw [if_pos h0]; decide
 ·rw [if_neg h0]
  have hp : isPatM p = true := by simpa [h0] using h
  rw [patText_of hp]
  exact no32_text p hp
theorem no32_word (a b : Bool) : (32 : UInt8) ∉ (rulesWordM a b).data.toList := by cases a <;> cases b <;> decide
/-- A text cut at its blanks. -/
theorem splitF_words (s : ByteArray) : ∀ (n : Nat) (ws : List ByteArray) (w : ByteArray) (out : List ByteArray) (fr i : Nat), fr ≤ i → i + n = s.size → s.data.toList.drop fr = w.data.toList ++ (ws.map (fun u => 32 :: u.data.toList)).flatten → i ≤ fr + w.size →
  (32 : UInt8) ∉ w.data.toList → (∀ u ∈ ws, (32 : UInt8) ∉ u.data.toList) → splitF s 32 n out (fr : Int) (i : Int) = out ++ w :: ws := by
 intro n
 induction n with
 | zero =>
  intro ws w out fr i h1 h2 h3 h4 h5 h6
  have hl := congrArg List.length h3
  rw [List.length_drop, size_data, List.length_append, size_data] at hl
  cases ws with
  | cons u us => simp at hl; omega
  | nil =>
   have e : s.extract fr s.size = w := data_inj (by
    rw [extract_data', ← size_data s, List.take_length, h3]
    simp)
   simp only [splitF, Int.toNat_natCast, e]
 | succ n ih =>
  intro ws w out fr i h1 h2 h3 h4 h5 h6
  by_cases hi : i < fr + w.size
  ·have hw : i - fr < w.data.toList.length := by rw [size_data]; omega
   have hd : s.data.toList.drop i = w.data.toList[i - fr] :: (w.data.toList.drop (i - fr + 1) ++ (ws.map (fun u => 32 :: u.data.toList)).flatten) := by
    have e1 : s.data.toList.drop i = (s.data.toList.drop fr).drop (i - fr) := by rw [List.drop_drop]; congr 1; omega
    rw [e1, h3, List.drop_append_of_le_length (Nat.le_of_lt hw), List.drop_eq_getElem_cons hw, List.cons_append]
   have hb := (at_drop hd).2.1
   have hn : ¬ bt s (i : Int) = 32 := by
    rw [hb]
    intro e
    have : w.data.toList[i - fr] = 32 := UInt8.toNat_inj.1 (show (w.data.toList[i - fr]).toNat = (32 : UInt8).toNat by simpa using Int.ofNat.inj e)
    exact h5 (this ▸ List.getElem_mem hw)
   unfold splitF
   rw [if_neg hn]
   exact ih ws w out fr (i + 1) (by omega) (by omega) h3 (by omega) h5 h6
  ·have hi' : i = fr + w.size := by omega
   have hl := congrArg List.length h3
   rw [List.length_drop, size_data, List.length_append, size_data] at hl
   cases ws with
   | nil => simp at hl; omega
   | cons u us =>
    have hd : s.data.toList.drop i = 32 :: (u.data.toList ++ (us.map (fun u => 32 :: u.data.toList)).flatten) := by
     have e1 : s.data.toList.drop i = (s.data.toList.drop fr).drop w.data.toList.length := by rw [List.drop_drop, size_data, hi']
     rw [e1, h3, List.drop_left]
     simp
    have hb : bt s (i : Int) = 32 := by rw [(at_drop hd).2.1]; decide
    have e : s.extract fr i = w := data_inj (by
     rw [extract_data', List.drop_take, h3, show i - fr = w.data.toList.length by rw [size_data]; omega, List.take_left])
    unfold splitF
    rw [if_pos hb, Int.toNat_natCast, Int.toNat_natCast, e]
    have := ih us u (out ++ [w]) (i + 1) (i + 1) (Nat.le_refl _) (by omega) (at_drop hd).2.2 (by omega) (h6 u (by simp)) (fun v hv => h6 v (by simp [hv]))
    simpa using this
/-- The names of the seven words. -/
def namesM : List ByteArray := [(⟨#[112, 108, 97, 121, 101, 114, 115]⟩ : ByteArray), (⟨#[101, 97, 99, 104]⟩ : ByteArray), (⟨#[109, 97, 116, 99, 104]⟩ : ByteArray), (⟨#[119, 105, 108, 100]⟩ : ByteArray), (⟨#[115, 107, 105, 112]⟩ : ByteArray), (⟨#[116, 97, 107, 101]⟩ : ByteArray), (⟨#[108, 105, 109, 105, 116]⟩ : ByteArray)]
/-- The seven values that rules are told by. -/
def valsM (a0 a1 : Int) (a2 a3 : Bool) (l4 l5 : List Int) (a6 a7 : Int) : List ByteArray := [numT a0, numT a1, rulesWordM a2 a3, maybeT l4, maybeT l5, numT a6, numT a7]
theorem words_of (s : ByteArray) (a0 a1 : Int) (a2 a3 : Bool) (l4 l5 : List Int) (a6 a7 : Int) (h : isRulesM a0 a1 a2 a3 l4 l5 a6 a7 = true) (hs : rulesT a0 a1 a2 a3 l4 l5 a6 a7 = s) :
  splitF s 32 s.size [] 0 0 = [(⟨#[112, 108, 97, 121, 101, 114, 115]⟩ ++ (⟨#[61]⟩ : ByteArray)) ++ numT a0, (⟨#[101, 97, 99, 104]⟩ ++ (⟨#[61]⟩ : ByteArray)) ++ numT a1, (⟨#[109, 97, 116, 99, 104]⟩ ++ (⟨#[61]⟩ : ByteArray)) ++ rulesWordM a2 a3, (⟨#[119, 105, 108, 100]⟩ ++ (⟨#[61]⟩ : ByteArray)) ++ maybeT l4, (⟨#[115, 107, 105, 112]⟩ ++ (⟨#[61]⟩ : ByteArray)) ++ maybeT l5, (⟨#[116, 97, 107, 101]⟩ ++ (⟨#[61]⟩ : ByteArray)) ++ numT a6, (⟨#[108, 105, 109, 105, 116]⟩ ++ (⟨#[61]⟩ : ByteArray)) ++ numT a7] := by
 obtain ⟨n0, n1, n6, n7⟩ := isRulesM_nums h
 have hm : maybeM l4 = true ∧ maybeM l5 = true := by
  unfold isRulesM at h
  simp only [Bool.and_eq_true] at h
  exact ⟨h.2.2.2.1, h.2.2.2.2.1⟩
 have z0 := no32_num a0 (by omega) (by omega)
 have z1 := no32_num a1 (by omega) (by omega)
 have z2 := no32_word a2 a3
 have z4 := no32_maybe l4 hm.1
 have z5 := no32_maybe l5 hm.2
 have z6 := no32_num a6 (by omega) (by omega)
 have z7 := no32_num a7 (by omega) (by omega)
 unfold rulesT at hs
 rw [if_pos h] at hs
 generalize numT a0 = x0 at *
 generalize numT a1 = x1 at *
 generalize rulesWordM a2 a3 = x2 at *
 generalize maybeT l4 = x4 at *
 generalize maybeT l5 = x5 at *
 generalize numT a6 = x6 at *
 generalize numT a7 = x7 at *
 refine splitF_words s s.size _ _ [] 0 0 (Nat.le_refl _) (by omega) ?_ (by omega) ?_ ?_
 ·rw [List.drop_zero, ← hs]
  simp
 ·simp only [ByteArray.toList_data_append, List.mem_append, not_or]
  exact ⟨⟨by decide, by decide⟩, z0⟩
 ·intro u hu
  simp only [List.mem_cons, List.not_mem_nil, or_false] at hu
  rcases hu with rfl | rfl | rfl | rfl | rfl | rfl <;> simp only [ByteArray.toList_data_append, List.mem_append, not_or]
  ·exact ⟨⟨by decide, by decide⟩, z1⟩
  ·exact ⟨⟨by decide, by decide⟩, z2⟩
  ·exact ⟨⟨by decide, by decide⟩, z4⟩
  ·exact ⟨⟨by decide, by decide⟩, z5⟩
  ·exact ⟨⟨by decide, by decide⟩, z6⟩
  ·exact ⟨⟨by decide, by decide⟩, z7⟩
/-- The values of words from a place on; none where a name is another. -/
def valsF (W : List ByteArray) : Nat → Int → List ByteArray → Option (List ByteArray)
 | 0, _, out => some out
 | m + 1, i, out => if (afterM (rdOf ByteArray.empty W i) (rdOf ByteArray.empty namesM i)).2 = true then valsF W m (i + 1) (out ++ [(afterM (rdOf ByteArray.empty W i) (rdOf ByteArray.empty namesM i)).1]) else none
theorem names_size : ∀ y ∈ namesM, y.size ≤ 1048576 := by
 intro y hy
 simp only [namesM, List.mem_cons, List.not_mem_nil, or_false] at hy
 rcases hy with rfl | rfl | rfl | rfl | rfl | rfl | rfl <;> decide
abbrev RulesR := Int × Int × Bool × Bool × List Int × List Int × Int × Int × Bool
def noRules : RulesR := (0, 0, false, false, [], [], 0, 0, false)
theorem impl_rules_loop (s : ByteArray) (W : List ByteArray) (hW : W.length = 7) : ∀ (m : Nat) (i : Int) (out : List ByteArray), 0 ≤ i → i + m = 7 → (out.length : Int) = i →
  (valsF W m i out = none → Ev (fun k => impl_ParseRules.l0 k s namesM out W (W.length : Int) i) noRules) ∧
  (∀ vs, valsF W m i out = some vs → (vs.length : Int) = 7 ∧ ∀ r, Ev (fun k => impl_ParseRules.l0 k s namesM vs W (W.length : Int) 7) r → Ev (fun k => impl_ParseRules.l0 k s namesM out W (W.length : Int) i) r) := by
 intro m
 induction m with
 | zero =>
  intro i out h0 h1 h2
  obtain rfl : i = 7 := by omega
  refine ⟨fun h => absurd h (by simp [valsF]), fun vs h => ?_⟩
  obtain rfl : out = vs := by simpa [valsF] using h
  exact ⟨h2, fun r hr => hr⟩
 | succ m ih =>
  intro i out h0 h1 h2
  have w1 : wrap64 (i + 1) = i + 1 := w64 (by omega) (by omega)
  have i1 : i < (W.length : Int) := by omega
  have i2 : i < (namesM.length : Int) := by have : namesM.length = 7 := rfl; omega
  have o1 : out.length < 8796093022208 := by omega
  have v := impl_ValueAfter_f (rdOf ByteArray.empty W i) (rdOf ByteArray.empty namesM i) (names_size _ (rdOf_mem _ _ _ h0 i2))
  have nx := ih (i + 1) (out ++ [(afterM (rdOf ByteArray.empty W i) (rdOf ByteArray.empty namesM i)).1]) (by omega) (by omega) (by simp; omega)
  unfold valsF
  by_cases g : (afterM (rdOf ByteArray.empty W i) (rdOf ByteArray.empty namesM i)).2 = true
  ·rw [if_pos g]
   have go : ∀ r, Ev (fun k => impl_ParseRules.l0 k s namesM (out ++ [(afterM (rdOf ByteArray.empty W i) (rdOf ByteArray.empty namesM i)).1]) W (W.length : Int) (i + 1)) r → Ev (fun k => impl_ParseRules.l0 k s namesM out W (W.length : Int) i) r := fun r hr => by
    refine ev_succ ?_
    simp only [impl_ParseRules.l0, i1, i2, h0, v, g, o1, w1, Option.bind_some, ↓reduceIte]
    exact hr
   exact ⟨fun h => go _ (nx.1 h), fun vs h => ⟨(nx.2 vs h).1, fun r hr => go _ ((nx.2 vs h).2 r hr)⟩⟩
  ·rw [if_neg g]
   refine ⟨fun _ => ev_succ (ev_of_eq fun k => by simp only [impl_ParseRules.l0, i1, i2, h0, v, g, Option.bind_some, ↓reduceIte]; rfl), fun vs h => by cases h⟩
/-- What the rules of a text are: rules that have this text, or none; and those rules that have it. -/
def RulesOf (s : ByteArray) (r : RulesR) : Prop :=
 (r.2.2.2.2.1.length ≤ 1048576 ∧ r.2.2.2.2.2.1.length ≤ 1048576) ∧
 ((isRulesM r.1 r.2.1 r.2.2.1 r.2.2.2.1 r.2.2.2.2.1 r.2.2.2.2.2.1 r.2.2.2.2.2.2.1 r.2.2.2.2.2.2.2.1 = true ∧ rulesT r.1 r.2.1 r.2.2.1 r.2.2.2.1 r.2.2.2.2.1 r.2.2.2.2.2.1 r.2.2.2.2.2.2.1 r.2.2.2.2.2.2.2.1 = s ∧ r.2.2.2.2.2.2.2.2 = true) ∨ r = noRules) ∧
 (∀ a0 a1 a2 a3 l4 l5 a6 a7, isRulesM a0 a1 a2 a3 l4 l5 a6 a7 = true → rulesT a0 a1 a2 a3 l4 l5 a6 a7 = s → r = (a0, a1, a2, a3, l4, l5, a6, a7, true))
theorem rules_eq {s : ByteArray} {r q : RulesR} (hr : RulesOf s r) (hq : RulesOf s q) : r = q := by
 obtain ⟨_, r2, r3⟩ := hr
 obtain ⟨_, q2, q3⟩ := hq
 rcases r2 with ⟨a, b, c⟩ | r2
 ·have := q3 _ _ _ _ _ _ _ _ a b
  rw [this, ← c]
 ·rcases q2 with ⟨a, b, c⟩ | q2
  ·have := r3 _ _ _ _ _ _ _ _ a b
   rw [this, ← c]
  ·rw [r2, q2]
theorem noRulesOf {s : ByteArray} (h : ∀ a0 a1 a2 a3 l4 l5 a6 a7, isRulesM a0 a1 a2 a3 l4 l5 a6 a7 = true → rulesT a0 a1 a2 a3 l4 l5 a6 a7 = s → False) : RulesOf s noRules :=
 ⟨⟨Nat.zero_le _, Nat.zero_le _⟩, Or.inr rfl, fun a0 a1 a2 a3 l4 l5 a6 a7 h1 h2 => (h a0 a1 a2 a3 l4 l5 a6 a7 h1 h2).elim⟩
theorem word_ne (a b : ByteArray) : (a.toList != b.toList) = decide (a ≠ b) := by
 by_cases h : a = b
 ·subst h; simp
 ·have : ¬ a.toList = b.toList := fun e => h ((toList_iff a b).1 e)
  simp [h, this]
theorem word_eq (a b : ByteArray) : (a.toList == b.toList) = decide (a = b) := by
 by_cases h : a = b
 ·subst h; simp
 ·have : ¬ a.toList = b.toList := fun e => h ((toList_iff a b).1 e)
  simp [h, this]
theorem rank_l : ([114, 97, 110, 107] : List UInt8) = (⟨#[114, 97, 110, 107]⟩ : ByteArray).toList := by rw [ByteArray.toList_eq]
theorem suit_l : ([115, 117, 105, 116] : List UInt8) = (⟨#[115, 117, 105, 116]⟩ : ByteArray).toList := by rw [ByteArray.toList_eq]
theorem both_l : ([98, 111, 116, 104] : List UInt8) = (⟨#[98, 111, 116, 104]⟩ : ByteArray).toList := by rw [ByteArray.toList_eq]
theorem isRulesM_same {a0 a1 : Int} {a2 a3 : Bool} {l4 l5 : List Int} {a6 a7 : Int} (h : isRulesM a0 a1 a2 a3 l4 l5 a6 a7 = true) : (a2 || a3) = true ∧ maybeM l4 = true ∧ maybeM l5 = true := by
 unfold isRulesM at h
 simp only [Bool.and_eq_true] at h
 exact ⟨h.2.2.1, h.2.2.2.1, h.2.2.2.2.1⟩
theorem vals_of (s : ByteArray) (a0 a1 : Int) (a2 a3 : Bool) (l4 l5 : List Int) (a6 a7 : Int) (h : isRulesM a0 a1 a2 a3 l4 l5 a6 a7 = true) (hs : rulesT a0 a1 a2 a3 l4 l5 a6 a7 = s) :
  (splitF s 32 s.size [] 0 0).length = 7 ∧ valsF (splitF s 32 s.size [] 0 0) 7 0 [] = some (valsM a0 a1 a2 a3 l4 l5 a6 a7) := by
 rw [words_of s a0 a1 a2 a3 l4 l5 a6 a7 h hs]
 refine ⟨rfl, ?_⟩
 have r : ∀ (w0 w1 w2 w3 w4 w5 w6 : ByteArray), rdOf ByteArray.empty [w0, w1, w2, w3, w4, w5, w6] 0 = w0 ∧ rdOf ByteArray.empty [w0, w1, w2, w3, w4, w5, w6] 1 = w1 ∧ rdOf ByteArray.empty [w0, w1, w2, w3, w4, w5, w6] 2 = w2 ∧ rdOf ByteArray.empty [w0, w1, w2, w3, w4, w5, w6] 3 = w3 ∧ rdOf ByteArray.empty [w0, w1, w2, w3, w4, w5, w6] 4 = w4 ∧ rdOf ByteArray.empty [w0, w1, w2, w3, w4, w5, w6] 5 = w5 ∧ rdOf ByteArray.empty [w0, w1, w2, w3, w4, w5, w6] 6 = w6 := fun _ _ _ _ _ _ _ => ⟨rfl, rfl, rfl, rfl, rfl, rfl, rfl⟩
 simp only [valsF, namesM, show (0 : Int) + 1 = 1 from rfl, show (1 : Int) + 1 = 2 from rfl, show (2 : Int) + 1 = 3 from rfl, show (3 : Int) + 1 = 4 from rfl, show (4 : Int) + 1 = 5 from rfl, show (5 : Int) + 1 = 6 from rfl, r, afterM_of, ↓reduceIte, List.nil_append, List.cons_append, valsM]
theorem impl_ParseRules_f (k : Nat) (s : ByteArray) : impl_ParseRules.f k s = (impl_SplitWords.f k s 32).bind fun W => if (W.length : Int) = (namesM.length : Int) then impl_ParseRules.l0 k s namesM [] W (W.length : Int) 0 else some noRules := rfl
theorem impl_ParseRules_ex (s : ByteArray) (hs : s.size ≤ 1048576) : ∃ r : RulesR, Ev (fun k => impl_ParseRules.f k s) r ∧ RulesOf s r := by
 have sp := impl_SplitWords_ev s 32 hs
 have hv : ∀ a0 a1 a2 a3 l4 l5 a6 a7, isRulesM a0 a1 a2 a3 l4 l5 a6 a7 = true → rulesT a0 a1 a2 a3 l4 l5 a6 a7 = s → _ := vals_of s
 generalize splitF s 32 s.size [] 0 0 = W at sp hv
 by_cases hW : W.length = 7
 case neg =>
  refine ⟨noRules, ?_, noRulesOf fun a0 a1 a2 a3 l4 l5 a6 a7 h1 h2 => hW (hv _ _ _ _ _ _ _ _ h1 h2).1⟩
  simp only [impl_ParseRules_f]
  have : ¬ (W.length : Int) = (namesM.length : Int) := by have : namesM.length = 7 := rfl; omega
  exact Ev.bind sp (ev_of_eq fun k => if_neg this)
 have lead : ∀ r, Ev (fun k => impl_ParseRules.l0 k s namesM [] W (W.length : Int) 0) r → Ev (fun k => impl_ParseRules.f k s) r := by
  intro r hr
  simp only [impl_ParseRules_f]
  refine Ev.bind sp ?_
  have : (W.length : Int) = (namesM.length : Int) := by have : namesM.length = 7 := rfl; omega
  simp only [if_pos this]
  exact hr
 obtain ⟨lp1, lp2⟩ := impl_rules_loop s W hW 7 0 [] (by omega) (by omega) (by simp)
 cases hvs : valsF W 7 0 [] with
 | none => exact ⟨noRules, lead _ (lp1 hvs), noRulesOf fun a0 a1 a2 a3 l4 l5 a6 a7 h1 h2 => by have := (hv _ _ _ _ _ _ _ _ h1 h2).2; rw [hvs] at this; cases this⟩
 | some vs =>
  obtain ⟨hl, go⟩ := lp2 vs hvs
  obtain ⟨n0, b0, i0⟩ := impl_ParseInt_some (rdOf ByteArray.empty vs 0)
  obtain ⟨n1, b1, i1⟩ := impl_ParseInt_some (rdOf ByteArray.empty vs 1)
  obtain ⟨n5, b5, i5⟩ := impl_ParseInt_some (rdOf ByteArray.empty vs 5)
  obtain ⟨n6, b6, i6⟩ := impl_ParseInt_some (rdOf ByteArray.empty vs 6)
  obtain ⟨p3, b3, e3, q3, u3⟩ := impl_ParsePattern_ex (rdOf ByteArray.empty vs 3)
  obtain ⟨p4, b4, e4, q4, u4⟩ := impl_ParsePattern_ex (rdOf ByteArray.empty vs 4)
  have eI := impl_IsRules_ev n0 n1 ((rdOf ByteArray.empty vs 2).toList != ([114, 97, 110, 107] : List UInt8)) ((rdOf ByteArray.empty vs 2).toList != ([115, 117, 105, 116] : List UInt8)) p3 p4 n5 n6 q3 q4
  have eT := impl_RulesText_ev n0 n1 ((rdOf ByteArray.empty vs 2).toList != ([114, 97, 110, 107] : List UInt8)) ((rdOf ByteArray.empty vs 2).toList != ([115, 117, 105, 116] : List UInt8)) p3 p4 n5 n6 q3 q4
  -- rules that have this text are these
  have same : ∀ a0 a1 a2 a3 l4 l5 a6 a7, isRulesM a0 a1 a2 a3 l4 l5 a6 a7 = true → rulesT a0 a1 a2 a3 l4 l5 a6 a7 = s →
    n0 = a0 ∧ n1 = a1 ∧ ((rdOf ByteArray.empty vs 2).toList != ([114, 97, 110, 107] : List UInt8)) = a2 ∧ ((rdOf ByteArray.empty vs 2).toList != ([115, 117, 105, 116] : List UInt8)) = a3 ∧ p3 = l4 ∧ p4 = l5 ∧ n5 = a6 ∧ n6 = a7 := by
   intro a0 a1 a2 a3 l4 l5 a6 a7 h1 h2
   have hv' := (hv _ _ _ _ _ _ _ _ h1 h2).2
   rw [hvs] at hv'
   obtain rfl := Option.some.inj hv'
   obtain ⟨m0, m1, m6, m7⟩ := isRulesM_nums h1
   obtain ⟨k2, k4, k5⟩ := isRulesM_same h1
   have r0 : rdOf ByteArray.empty (valsM a0 a1 a2 a3 l4 l5 a6 a7) 0 = numT a0 := rfl
   have r1 : rdOf ByteArray.empty (valsM a0 a1 a2 a3 l4 l5 a6 a7) 1 = numT a1 := rfl
   have r2 : rdOf ByteArray.empty (valsM a0 a1 a2 a3 l4 l5 a6 a7) 2 = rulesWordM a2 a3 := rfl
   have r3 : rdOf ByteArray.empty (valsM a0 a1 a2 a3 l4 l5 a6 a7) 3 = maybeT l4 := rfl
   have r4 : rdOf ByteArray.empty (valsM a0 a1 a2 a3 l4 l5 a6 a7) 4 = maybeT l5 := rfl
   have r5 : rdOf ByteArray.empty (valsM a0 a1 a2 a3 l4 l5 a6 a7) 5 = numT a6 := rfl
   have r6 : rdOf ByteArray.empty (valsM a0 a1 a2 a3 l4 l5 a6 a7) 6 = numT a7 := rfl
   rw [r0, impl_ParseInt_num a0 (by omega) (by omega)] at i0
   rw [r1, impl_ParseInt_num a1 (by omega) (by omega)] at i1
   rw [r5, impl_ParseInt_num a6 (by omega) (by omega)] at i5
   rw [r6, impl_ParseInt_num a7 (by omega) (by omega)] at i6
   refine ⟨(congrArg Prod.fst (Option.some.inj i0)).symm, (congrArg Prod.fst (Option.some.inj i1)).symm, ?_, ?_, u3 _ k4 r3, u4 _ k5 r4, (congrArg Prod.fst (Option.some.inj i5)).symm, (congrArg Prod.fst (Option.some.inj i6)).symm⟩
   ·rw [r2, rank_l, word_ne]
    cases a2 <;> cases a3 <;> first | rfl | exact absurd k2 (by decide)
   ·rw [r2, suit_l, word_ne]
    cases a2 <;> cases a3 <;> first | rfl | exact absurd k2 (by decide)
  have c7 : ¬ (7 : Int) < (W.length : Int) := by omega
  have l0 : 0 < (vs.length : Int) := by omega
  have l1 : 1 < (vs.length : Int) := by omega
  have l2 : 2 < (vs.length : Int) := by omega
  have l3 : 3 < (vs.length : Int) := by omega
  have l4 : 4 < (vs.length : Int) := by omega
  have l5 : 5 < (vs.length : Int) := by omega
  have l6 : 6 < (vs.length : Int) := by omega
  have run : ∀ r : RulesR, Ev (fun k => (impl_IsRules.f k n0 n1 ((rdOf ByteArray.empty vs 2).toList != ([114, 97, 110, 107] : List UInt8)) ((rdOf ByteArray.empty vs 2).toList != ([115, 117, 105, 116] : List UInt8)) p3 p4 n5 n6).bind fun t270 => if t270 = true then (impl_RulesText.f k n0 n1 ((rdOf ByteArray.empty vs 2).toList != ([114, 97, 110, 107] : List UInt8)) ((rdOf ByteArray.empty vs 2).toList != ([115, 117, 105, 116] : List UInt8)) p3 p4 n5 n6).bind fun t271 => if t271.toList = s.toList then some (n0, n1, ((rdOf ByteArray.empty vs 2).toList != ([114, 97, 110, 107] : List UInt8)), ((rdOf ByteArray.empty vs 2).toList != ([115, 117, 105, 116] : List UInt8)), p3, p4, n5, n6, true) else some noRules else some noRules) r → Ev (fun k => impl_ParseRules.f k s) r := by
   intro r hr
   refine lead _ (go _ (ev_succ ?_))
   simp only [impl_ParseRules.l0, c7, l0, l1, l2, l3, l4, l5, l6, i0, i1, i5, i6, Option.bind_some, ↓reduceIte]
   refine Ev.bind e3 ?_
   refine Ev.bind e4 ?_
   exact hr
  generalize ((rdOf ByteArray.empty vs 2).toList != ([114, 97, 110, 107] : List UInt8)) = t2 at eI eT same run
  generalize ((rdOf ByteArray.empty vs 2).toList != ([115, 117, 105, 116] : List UInt8)) = t3 at eI eT same run
  by_cases hR : isRulesM n0 n1 t2 t3 p3 p4 n5 n6 = true
  ·by_cases hT : rulesT n0 n1 t2 t3 p3 p4 n5 n6 = s
   ·refine ⟨(n0, n1, t2, t3, p3, p4, n5, n6, true), run _ ?_, ⟨q3, q4⟩, Or.inl ⟨hR, hT, rfl⟩, fun a0 a1 a2 a3 l4 l5 a6 a7 h1 h2 => ?_⟩
    ·refine Ev.bind eI ?_
     simp only [hR, ↓reduceIte]
     exact Ev.bind eT (ev_of_eq fun k => by rw [if_pos (by rw [hT])])
    ·obtain ⟨rfl, rfl, rfl, rfl, rfl, rfl, rfl, rfl⟩ := same _ _ _ _ _ _ _ _ h1 h2
     rfl
   ·refine ⟨noRules, run _ ?_, noRulesOf fun a0 a1 a2 a3 l4 l5 a6 a7 h1 h2 => ?_⟩
    ·refine Ev.bind eI ?_
     simp only [hR, ↓reduceIte]
     exact Ev.bind eT (ev_of_eq fun k => by rw [if_neg (fun e => hT ((toList_iff _ _).1 e))])
    ·obtain ⟨rfl, rfl, rfl, rfl, rfl, rfl, rfl, rfl⟩ := same _ _ _ _ _ _ _ _ h1 h2
     exact hT h2
  ·refine ⟨noRules, run _ ?_, noRulesOf fun a0 a1 a2 a3 l4 l5 a6 a7 h1 h2 => ?_⟩
   ·refine Ev.bind eI ?_
    simp only [hR, Bool.false_eq_true, ↓reduceIte]
    exact Ev.now _
   ·obtain ⟨rfl, rfl, rfl, rfl, rfl, rfl, rfl, rfl⟩ := same _ _ _ _ _ _ _ _ h1 h2
    exact hR h1

/-! impl_EqualInts -/
theorem impl_EqualInts_ev (a b : List Int) (ha : a.length ≤ 1099511627776) : Ev (fun k => impl_EqualInts.f k a b) (decide (a = b)) := by
 simp only [impl_EqualInts.f]
 by_cases h : a.length = b.length
 ·have h' : (a.length : Int) = (b.length : Int) := by omega
  simp only [if_pos h']
  suffices H : ∀ b', b = b' → b'.length = a.length → Ev (fun k => impl_EqualInts.l0 k a b (a.length : Int) 0) (decide (a = b')) from H b rfl h.symm
  refine loop_int_pre a ha (P := fun i pre rest => ∀ b', b = b' → b'.length = a.length → Ev (fun k => impl_EqualInts.l0 k a b (a.length : Int) i) (decide (rest = b'.drop pre.length))) ?_ ?_
  ·intro b' _ hb
   refine ev_succ (ev_of_eq fun k => ?_)
   simp only [impl_EqualInts.l0, Int.lt_irrefl, ↓reduceIte]
   rw [List.drop_of_length_le (by omega)]
   simp
  ·intro i pre x rest hl hi h0 h1 hx hw ih b' hbb hb
   have h2 : i < (b.length : Int) := by omega
   have hp : pre.length < b'.length := by omega
   have hd : b'.drop pre.length = rd b i :: b'.drop (pre.length + 1) := by
    subst hbb
    rw [List.drop_eq_getElem_cons hp]
    unfold rd
    rw [hi, Int.toNat_natCast]
    simp [List.getD_eq_getElem?_getD, List.getElem?_eq_getElem hp]
   refine ev_succ ?_
   simp only [impl_EqualInts.l0, h1, h0, h2, ↓reduceIte, hx, hw, hd]
   by_cases g : x = rd b i
   ·have := ih b' hbb hb
    rw [List.length_append, List.length_singleton] at this
    simp only [g, ↓reduceIte, List.cons.injEq, true_and]
    exact this
   ·refine ev_of_eq fun k => ?_
    simp [g]
 ·have h' : ¬ (a.length : Int) = (b.length : Int) := by omega
  simp only [h', ↓reduceIte]
  refine ev_of_eq fun k => ?_
  have : ¬ a = b := fun e => h (by rw [e])
  simp [this]

/-! impl_EqualRules -/
theorem impl_EqualRules_ev (a0 a1 : Int) (a2 a3 : Bool) (l4 l5 : List Int) (a6 a7 : Int) (b0 b1 : Int) (b2 b3 : Bool) (m4 m5 : List Int) (b6 b7 : Int) (h4 : l4.length ≤ 1048576) (h5 : l5.length ≤ 1048576) :
  Ev (fun k => impl_EqualRules.f k a0 a1 a2 a3 l4 l5 a6 a7 b0 b1 b2 b3 m4 m5 b6 b7) (decide (a0 = b0 ∧ a1 = b1 ∧ a2 = b2 ∧ a3 = b3 ∧ l4 = m4 ∧ l5 = m5 ∧ a6 = b6 ∧ a7 = b7)) := by
 simp only [impl_EqualRules.f, beq_iff_eq]
 by_cases c0 : a0 = b0
 ·by_cases c1 : a1 = b1
  ·by_cases c2 : a2 = b2
   ·by_cases c3 : a3 = b3
    ·by_cases c6 : a6 = b6
     ·by_cases c7 : a7 = b7
      ·simp only [c0, c1, c2, c3, c6, c7, ↓reduceIte]
       refine Ev.bind (impl_EqualInts_ev l4 m4 (by omega)) ?_
       by_cases c4 : l4 = m4
       ·simp only [c4, decide_true, ↓reduceIte]
        refine Ev.bind (impl_EqualInts_ev l5 m5 (by omega)) ?_
        refine ev_of_eq fun k => ?_
        by_cases c5 : l5 = m5 <;> simp [c5]
       ·refine ev_of_eq fun k => ?_
        simp [c4]
      ·refine ev_of_eq fun k => ?_
       simp [c7]
     ·refine ev_of_eq fun k => ?_
      simp [c6]
    ·refine ev_of_eq fun k => ?_
     simp [c3]
   ·refine ev_of_eq fun k => ?_
    simp [c2]
  ·refine ev_of_eq fun k => ?_
   simp [c1]
 ·refine ev_of_eq fun k => ?_
  simp [c0]

/-! spec_l1In -/
theorem spec_l1In_f (a b c : Int) : spec_l1In.f a b c = some (decide (b ≤ a ∧ a ≤ c)) := by
 unfold spec_l1In.f
 by_cases h : b ≤ a <;> simp [h]

/-! spec_l8Leaf -/
theorem spec_l8Leaf_f (s : Int) : spec_l8Leaf.f s = some (leafM s) := by
 simp only [spec_l8Leaf.f, spec_l1In_f, Option.bind_some, leafM]
 by_cases h1 : 100 ≤ s ∧ s ≤ 103
 ·simp [h1]
 by_cases h2 : 200 ≤ s ∧ s ≤ 212
 ·simp [h1, h2]
 by_cases h3 : 300 ≤ s ∧ s ≤ 312
 ·simp [h1, h2, h3]
 simp [h1, h2, h3]

/-! spec_IsPattern -/
theorem spec_IsPattern_ev (l : List Int) (hl : l.length ≤ 1099511627776) : Ev (fun k => spec_IsPattern.f k l) (isPatM l) := by
 simp only [spec_IsPattern.f, isPatM]
 refine loop_int l hl (P := fun i rest => ∀ n, 0 ≤ n → n ≤ i → Ev (fun k => spec_IsPattern.l0 k l n i) (patEnd l.length (patF rest n))) ?_ ?_ 0 (by omega) (by omega)
 ·intro n hn hi
  refine ev_succ (ev_of_eq fun k => ?_)
  simp only [spec_IsPattern.l0, Int.lt_irrefl, ↓reduceIte, patF, patEnd]
  by_cases h : n = 1
  ·simp only [h, ↓reduceIte, decide_true, Bool.true_and]
   congr 1
   rw [Bool.eq_iff_iff]
   simp
   omega
  ·simp [h]
 ·intro i x rest h0 h1 hx _ hw ih n hn hi
  refine ev_succ ?_
  have w1 : wrap64 (n + 1) = n + 1 := w64 (by omega) (by omega)
  simp only [spec_IsPattern.l0, h1, h0, ↓reduceIte, hx, hw, spec_l8Leaf_f, Option.bind_some, patF, w1]
  by_cases g1 : leafM x = true
  ·simp only [g1, ↓reduceIte]
   exact ih _ (by omega) (by omega)
  ·simp only [g1, Bool.false_eq_true, ↓reduceIte]
   by_cases g2 : x = -1
   ·have e2 : ¬ x = -2 := by omega
    have e3 : ¬ x = -3 := by omega
    by_cases g3 : 1 ≤ n
    ·have g3' : decide (n ≥ 1) = true := by simp; omega
     simp only [g2, g3, g3', ↓reduceIte, and_self]
     refine ev_succ ?_
     simp only [spec_IsPattern.j1, ↓reduceIte, hw]
     exact ih _ (by omega) (by omega)
    ·have g3' : decide (n ≥ 1) = false := by simp; omega
     refine ev_succ (ev_of_eq fun k => ?_)
     simp only [spec_IsPattern.j1, g2, g3', g3, h1, h0, hx, ↓reduceIte, Bool.false_eq_true]
     simp [patEnd, e2, e3, g2, g3]
   ·simp only [g2, ↓reduceIte, false_and]
    refine ev_succ ?_
    simp only [spec_IsPattern.j1, h1, h0, hx, hw, ↓reduceIte, Bool.false_eq_true, ge_iff_le]
    have w2 : 2 ≤ n → wrap64 (n - 1) = n - 1 := fun _ => w64 (by omega) (by omega)
    by_cases g4 : x = -2
    ·by_cases g5 : 2 ≤ n
     ·simp only [g4, g5, w2 g5, ↓reduceIte, true_or, and_self]
      exact ih _ (by omega) (by omega)
     ·refine ev_of_eq fun k => ?_
      simp [g4, g5, patEnd]
    ·by_cases g6 : x = -3
     ·by_cases g5 : 2 ≤ n
      ·simp only [g4, g6, g5, w2 g5, ↓reduceIte, or_true, and_self]
       exact ih _ (by omega) (by omega)
      ·refine ev_of_eq fun k => ?_
       simp [g6, g5, patEnd]
     ·refine ev_of_eq fun k => ?_
      simp [g4, g6, patEnd]

/-! spec_l22Pattern -/
theorem spec_l22Pattern_ev (l : List Int) (hl : l.length ≤ 1099511627776) : Ev (fun k => spec_l22Pattern.f k l) (maybeM l) := by
 simp only [spec_l22Pattern.f, maybeM]
 by_cases h : l.length = 0
 ·obtain rfl := List.eq_nil_of_length_eq_zero h
  exact ev_of_eq fun k => rfl
 ·have h' : ¬ (l.length : Int) = 0 := by omega
  simp only [h', h, ↓reduceIte, decide_false, Bool.false_or]
  exact Ev.bind (spec_IsPattern_ev l hl) (Ev.now _)

/-! spec_IsRules -/
theorem spec_IsRules_ev (a0 a1 : Int) (a2 a3 : Bool) (l4 l5 : List Int) (a6 a7 : Int) (h4 : l4.length ≤ 1048576) (h5 : l5.length ≤ 1048576) :
  Ev (fun k => spec_IsRules.f k a0 a1 a2 a3 l4 l5 a6 a7) (isRulesM a0 a1 a2 a3 l4 l5 a6 a7) := by
 have tail : Ev (fun k => (spec_l22Pattern.f k l4).bind fun t => (if t = true then ((spec_l22Pattern.f k l5).bind fun t => (if t = true then ((spec_l1In.f a6 1 4).bind fun t => (if t = true then ((spec_l1In.f a7 1 400).bind fun t => (some t)) else (some false))) else (some false))) else (some false)))
   (maybeM l4 && (maybeM l5 && (decide (1 ≤ a6 ∧ a6 ≤ 4) && decide (1 ≤ a7 ∧ a7 ≤ 400)))) := by
  refine Ev.bind (spec_l22Pattern_ev l4 (by omega)) ?_
  cases maybeM l4
  ·exact Ev.now _
  ·refine Ev.bind (spec_l22Pattern_ev l5 (by omega)) ?_
   cases maybeM l5
   ·exact Ev.now _
   ·refine ev_of_eq fun k => ?_
    simp only [spec_l1In_f, Option.bind_some, ↓reduceIte]
    cases decide (1 ≤ a6 ∧ a6 ≤ 4) <;> simp
 simp only [spec_IsRules.f]
 simp only [spec_l1In_f, Option.bind_some] at tail ⊢
 unfold isRulesM
 cases decide (2 ≤ a0 ∧ a0 ≤ 6)
 ·exact Ev.now _
 ·cases decide (1 ≤ a1 ∧ a1 ≤ 8)
  ·exact Ev.now _
  ·cases a2
   ·cases a3
    ·exact Ev.now _
    ·simpa using tail
   ·simpa using tail

/-! spec_FormatInt -/
theorem spec_FormatInt_small : ∀ n : Fin 400, spec_FormatInt.f 6 ((n.val + 1 : Nat) : Int) = some ⟨(dig3 (n.val + 1)).toArray⟩ := by decide +kernel
theorem spec_FormatInt_ev (n : Int) (h0 : 1 ≤ n) (h : n ≤ 400) : Ev (fun k => spec_FormatInt.f k n) (numT n) := by
 obtain ⟨m, rfl⟩ := Int.eq_ofNat_of_zero_le (show 0 ≤ n by omega)
 have := spec_FormatInt_small ⟨m - 1, by omega⟩
 have e : m - 1 + 1 = m := by omega
 simp only [e] at this
 refine Ev.of (k := 6) (fun k => spec_FormatInt.mono _ k) ?_
 unfold numT
 rw [itoa_dig3 m (by omega)]
 exact this

/-! spec_RulesWord -/
theorem spec_RulesWord_ev (a0 a1 : Int) (a2 a3 : Bool) (l4 l5 : List Int) (a6 a7 : Int) (h4 : l4.length ≤ 1048576) (h5 : l5.length ≤ 1048576) : Ev (fun k => spec_RulesWord.f k a0 a1 a2 a3 l4 l5 a6 a7) (rulesWordM a2 a3) := by
 simp only [spec_RulesWord.f]
 cases a2 <;> cases a3 <;> exact ev_succ (ev_of_eq fun k => by simp [spec_RulesWord.j0, rulesWordM])

/-! spec_l9Leaf -/
theorem spec_l9Rank_f (i : Int) (h0 : 0 ≤ i) (h1 : i ≤ 12) : spec_l9Rank.f i = some (rankL.extract i.toNat (i + 1).toNat) := by
 unfold spec_l9Rank.f
 have a1 : wrap64 (i + 1) = i + 1 := w64 (by omega) (by omega)
 have a3 : i ≤ i + 1 := by omega
 have a4 : i + 1 ≤ 13 := by omega
 unfold rankL
 simp only [h0, a1, a3, a4, ↓reduceIte]
theorem spec_l9Leaf_f (s : Int) (h : leafM s = true) : spec_l9Leaf.f s = some (signM s) := by
 unfold leafM at h
 simp only [Bool.or_eq_true, decide_eq_true_eq, beq_iff_eq] at h
 unfold spec_l9Leaf.f signM
 by_cases h1 : s = 400
 ·rw [if_pos h1, if_pos h1]
 rw [if_neg h1, if_neg h1]
 by_cases h2 : s ≥ 300
 ·have a0 : wrap64 (s - 300) = s - 300 := w64 (by omega) (by omega)
  have a5 := extract_one rankL (s - 300) (by omega)
  have a6 : (rankL.extract (s - 300).toNat (s - 300 + 1).toNat).size + 1 ≤ 9223372036854775807 := by omega
  simp only [h2, a0, spec_l9Rank_f (s - 300) (by omega) (by omega), Option.bind_some, a6, ↓reduceIte]
 rw [if_neg h2, if_neg h2]
 by_cases h3 : s ≥ 200
 ·have a0 : wrap64 (s - 200) = s - 200 := w64 (by omega) (by omega)
  simp only [h3, a0, spec_l9Rank_f (s - 200) (by omega) (by omega), Option.bind_some, ↓reduceIte]
 ·have a0 : wrap64 (s - 100) = s - 100 := w64 (by omega) (by omega)
  have a1 : wrap64 (s - 100 + 1) = s - 100 + 1 := w64 (by omega) (by omega)
  have a2 : 0 ≤ s - 100 := by omega
  have a3 : s - 100 ≤ s - 100 + 1 := by omega
  have a4 : s - 100 + 1 ≤ 4 := by omega
  simp only [h3, a0, a1, a2, a3, a4, ↓reduceIte]

/-! spec_PatternText -/
theorem spec_PatternText_l0 (p : List Int) (hl : p.length ≤ 20) (hp : patF p 0 = some 1) : Ev (fun k => spec_PatternText.l0 k p [] 0) (textF p []) := by
 have e1 : ∀ b : UInt8, (⟨#[b]⟩ : ByteArray).size = 1 := fun _ => rfl
 suffices H : ∀ (x : List ByteArray) (B : Nat), (x.length : Int) ≤ 0 → patF p (x.length : Int) = some 1 → (∀ y ∈ x, y.size ≤ B) → growF p B ≤ 4611686018427387000 → Ev (fun k => spec_PatternText.l0 k p x 0) (textF p x) from H [] 0 (by simp) hp (fun y hy => by simp at hy) (by
  have g := growF_pow p 0
  have : 2 ^ p.length ≤ 2 ^ 20 := Nat.pow_le_pow_right (by omega) hl
  omega)
 refine loop_int p (by omega) (P := fun i rest => ∀ (x : List ByteArray) (B : Nat), (x.length : Int) ≤ i → patF rest (x.length : Int) = some 1 → (∀ y ∈ x, y.size ≤ B) → growF rest B ≤ 4611686018427387000 → Ev (fun k => spec_PatternText.l0 k p x i) (textF rest x)) ?_ ?_
 ·intro x B hx he _ _
  have h1 : 0 < (x.length : Int) := by simp only [patF, Option.some.injEq] at he; omega
  refine ev_succ (ev_of_eq fun k => ?_)
  simp only [spec_PatternText.l0, Int.lt_irrefl, h1, Int.le_refl, ↓reduceIte, textF]
 ·intro i s rest h0 h1 hs hm hw ih x B hx he hB hg
  refine ev_succ ?_
  have gB : 2 * B + 3 ≤ 4611686018427387000 := Nat.le_trans (growF_le rest (2 * B + 3)) hg
  have b : x.length < 8796093022208 := by omega
  have w1 : wrap64 ((x.length : Int) - 1) = (x.length : Int) - 1 := w64 (by omega) (by omega)
  have w2 : wrap64 ((x.length : Int) - 2) = (x.length : Int) - 2 := w64 (by omega) (by omega)
  have le := he
  rcases patF_step he with ⟨n1, n2, n3, e4⟩ | ⟨n1, n2, e4⟩ | ⟨n1, n2, e4⟩
  ·have hlf : leafM s = true := by
    unfold patF at le
    by_cases h : leafM s = true
    ·exact h
    ·rw [if_neg h] at le
     simp only [n1, n2, n3, ↓reduceIte, or_self, beq_iff_eq] at le
     exact absurd le (by simp)
   simp only [spec_PatternText.l0, h1, h0, hs, n1, n2, n3, b, hw, ↓reduceIte, spec_l9Leaf_f s hlf, Option.bind_some, textF]
   refine ih (x ++ [signM s]) (2 * B + 3) (by simp; omega) (by simpa using e4) (fun y hy => ?_) hg
   rcases List.mem_append.1 hy with h | h
   ·have := hB y h; omega
   ·have := signM_size s hlf
    rw [List.mem_singleton.1 h]
    omega
  ·have g1 : 0 ≤ (x.length : Int) - 1 := by omega
   have g2 : (x.length : Int) - 1 < (x.length : Int) := by omega
   have m1 := hB _ (rdOf_mem ByteArray.empty x ((x.length : Int) - 1) g1 g2)
   have q1 : 1 + (rdOf ByteArray.empty x ((x.length : Int) - 1)).size ≤ 9223372036854775807 := by omega
   simp only [spec_PatternText.l0, h1, h0, hs, n1, w1, g1, g2, q1, hw, ↓reduceIte, textF]
   refine ih _ (2 * B + 3) (by rw [List.length_set]; omega) (by rw [List.length_set]; exact e4) (fun y hy => ?_) hg
   rcases List.mem_or_eq_of_mem_set hy with h | h
   ·have := hB y h; omega
   ·rw [h, ByteArray.size_append, e1]
    omega
  ·have g1 : 0 ≤ (x.length : Int) - 2 := by omega
   have g2 : (x.length : Int) - 2 < (x.length : Int) := by omega
   have g3 : (x.length : Int) - 2 ≤ (x.length : Int) := by omega
   have g4 : 0 ≤ (x.length : Int) - 1 := by omega
   have g5 : (x.length : Int) - 1 < (x.length : Int) := by omega
   have tl : (x.take ((x.length : Int) - 2).toNat).length = ((x.length : Int) - 2).toNat := by rw [List.length_take]; omega
   have g6 : (x.take ((x.length : Int) - 2).toNat).length < 8796093022208 := by omega
   have m2 := hB _ (rdOf_mem ByteArray.empty x ((x.length : Int) - 2) g1 g2)
   have m1 := hB _ (rdOf_mem ByteArray.empty x ((x.length : Int) - 1) g4 g5)
   have q1 : 1 + (rdOf ByteArray.empty x ((x.length : Int) - 2)).size ≤ 9223372036854775807 := by omega
   have q2 : ((⟨#[40]⟩ : ByteArray) ++ rdOf ByteArray.empty x ((x.length : Int) - 2)).size + 1 ≤ 9223372036854775807 := by simp only [ByteArray.size_append, e1]; omega
   have q3 : ∀ c : UInt8, (((⟨#[40]⟩ : ByteArray) ++ rdOf ByteArray.empty x ((x.length : Int) - 2)) ++ (⟨#[c]⟩ : ByteArray)).size + (rdOf ByteArray.empty x ((x.length : Int) - 1)).size ≤ 9223372036854775807 := fun c => by simp only [ByteArray.size_append, e1]; omega
   have q4 : ∀ c : UInt8, ((((⟨#[40]⟩ : ByteArray) ++ rdOf ByteArray.empty x ((x.length : Int) - 2)) ++ (⟨#[c]⟩ : ByteArray)) ++ rdOf ByteArray.empty x ((x.length : Int) - 1)).size + 1 ≤ 9223372036854775807 := fun c => by simp only [ByteArray.size_append, e1]; omega
   have nx : ∀ c : UInt8, Ev (fun k => spec_PatternText.l0 k p (x.take ((x.length : Int) - 2).toNat ++ [((((⟨#[40]⟩ : ByteArray) ++ rdOf ByteArray.empty x ((x.length : Int) - 2)) ++ (⟨#[c]⟩ : ByteArray)) ++ rdOf ByteArray.empty x ((x.length : Int) - 1)) ++ (⟨#[41]⟩ : ByteArray)]) (i + 1)) (textF rest (x.take ((x.length : Int) - 2).toNat ++ [((((⟨#[40]⟩ : ByteArray) ++ rdOf ByteArray.empty x ((x.length : Int) - 2)) ++ (⟨#[c]⟩ : ByteArray)) ++ rdOf ByteArray.empty x ((x.length : Int) - 1)) ++ (⟨#[41]⟩ : ByteArray)])) := by
    intro c
    have ln : ((x.take ((x.length : Int) - 2).toNat ++ [((((⟨#[40]⟩ : ByteArray) ++ rdOf ByteArray.empty x ((x.length : Int) - 2)) ++ (⟨#[c]⟩ : ByteArray)) ++ rdOf ByteArray.empty x ((x.length : Int) - 1)) ++ (⟨#[41]⟩ : ByteArray)]).length : Int) = (x.length : Int) - 1 := by rw [List.length_append, tl]; simp; omega
    refine ih _ (2 * B + 3) (by omega) (by rw [ln]; exact e4) (fun y hy => ?_) hg
    rcases List.mem_append.1 hy with h | h
    ·have := hB y (List.mem_of_mem_take h); omega
    ·rw [List.mem_singleton.1 h]
     simp only [ByteArray.size_append, e1]
     omega
   rcases n1 with n1 | n1
   ·have z : ¬ (-2 : Int) = -1 := by omega
    simp only [spec_PatternText.l0, h1, h0, hs, n1, z, w1, w2, g1, g2, g3, g4, g5, g6, q1, q2, q3, q4, hw, Option.bind_some, ↓reduceIte, textF]
    exact nx 38
   ·have z : ¬ (-3 : Int) = -1 := by omega
    have z2 : ¬ (-3 : Int) = -2 := by omega
    simp only [spec_PatternText.l0, h1, h0, hs, n1, z, z2, w1, w2, g1, g2, g3, g4, g5, g6, q1, q2, q3, q4, hw, Option.bind_some, ↓reduceIte, textF]
    exact nx 124
theorem spec_PatternText_ev (p : List Int) (hl : p.length ≤ 1099511627776) : Ev (fun k => spec_PatternText.f k p) (patText p) := by
 simp only [spec_PatternText.f]
 refine Ev.bind (spec_IsPattern_ev p hl) ?_
 unfold patText
 cases hp : isPatM p
 ·exact ev_of_eq fun k => by simp only [Bool.false_eq_true, ↓reduceIte]
 ·simp only [↓reduceIte]
  obtain ⟨h1, h2⟩ := isPatM_run hp
  exact spec_PatternText_l0 p h2 h1

/-! spec_l23Pattern -/
theorem spec_l23Pattern_ev (p : List Int) (hl : p.length ≤ 1099511627776) : Ev (fun k => spec_l23Pattern.f k p) (maybeT p) := by
 simp only [spec_l23Pattern.f, maybeT]
 by_cases h : p.length = 0
 ·have h' : (p.length : Int) = 0 := by omega
  exact ev_of_eq fun k => by rw [if_pos h', if_pos h]
 ·have h' : ¬ (p.length : Int) = 0 := by omega
  simp only [h, h', ↓reduceIte]
  exact Ev.bind (spec_PatternText_ev p hl) (Ev.now _)

/-! spec_RulesText -/
theorem Ev.ifs {α : Type} {p : Prop} [Decidable p] {g : Nat → Option α} {r : α} (hp : p) (h : Ev g r) : Ev (fun k => if p then g k else none) r := by simpa only [if_pos hp] using h
theorem spec_RulesText_ev (a0 a1 : Int) (a2 a3 : Bool) (l4 l5 : List Int) (a6 a7 : Int) (h4 : l4.length ≤ 1048576) (h5 : l5.length ≤ 1048576) :
  Ev (fun k => spec_RulesText.f k a0 a1 a2 a3 l4 l5 a6 a7) (rulesT a0 a1 a2 a3 l4 l5 a6 a7) := by
 simp only [spec_RulesText.f]
 refine Ev.bind (spec_IsRules_ev a0 a1 a2 a3 l4 l5 a6 a7 h4 h5) ?_
 unfold rulesT
 cases hr : isRulesM a0 a1 a2 a3 l4 l5 a6 a7
 ·exact ev_of_eq fun k => by simp only [Bool.false_eq_true, ↓reduceIte]
 ·obtain ⟨n0, n1, n6, n7⟩ := isRulesM_nums hr
  have z0 := numT_size a0 (by omega) (by omega)
  have z1 := numT_size a1 (by omega) (by omega)
  have z6 := numT_size a6 (by omega) (by omega)
  have z7 := numT_size a7 (by omega) (by omega)
  have zw := rulesWordM_size a2 a3
  have z4 := maybeT_size l4
  have z5 := maybeT_size l5
  have F0 := spec_FormatInt_ev a0 (by omega) (by omega)
  have F1 := spec_FormatInt_ev a1 (by omega) (by omega)
  have F6 := spec_FormatInt_ev a6 (by omega) (by omega)
  have F7 := spec_FormatInt_ev a7 (by omega) (by omega)
  have FW := spec_RulesWord_ev a0 a1 a2 a3 l4 l5 a6 a7 h4 h5
  have F4 := spec_l23Pattern_ev l4 (by omega)
  have F5 := spec_l23Pattern_ev l5 (by omega)
  generalize numT a0 = x0 at z0 F0
  generalize numT a1 = x1 at z1 F1
  generalize numT a6 = x6 at z6 F6
  generalize numT a7 = x7 at z7 F7
  generalize rulesWordM a2 a3 = xw at zw FW
  generalize maybeT l4 = x4 at z4 F4
  generalize maybeT l5 = x5 at z5 F5
  have e8 : (⟨#[112, 108, 97, 121, 101, 114, 115, 61]⟩ : ByteArray).size = 8 := rfl
  have ee : (⟨#[32, 101, 97, 99, 104, 61]⟩ : ByteArray).size = 6 := rfl
  have em : (⟨#[32, 109, 97, 116, 99, 104, 61]⟩ : ByteArray).size = 7 := rfl
  have ew : (⟨#[32, 119, 105, 108, 100, 61]⟩ : ByteArray).size = 6 := rfl
  have es : (⟨#[32, 115, 107, 105, 112, 61]⟩ : ByteArray).size = 6 := rfl
  have et : (⟨#[32, 116, 97, 107, 101, 61]⟩ : ByteArray).size = 6 := rfl
  have el : (⟨#[32, 108, 105, 109, 105, 116, 61]⟩ : ByteArray).size = 7 := rfl
  simp only [↓reduceIte]
  refine Ev.bind F0 ?_
  refine Ev.ifs (by first | omega | (simp only [ByteArray.size_append, e8, ee, em, ew, es, et, el]; omega)) ?_
  refine Ev.ifs (by first | omega | (simp only [ByteArray.size_append, e8, ee, em, ew, es, et, el]; omega)) ?_
  refine Ev.bind F1 ?_
  refine Ev.ifs (by first | omega | (simp only [ByteArray.size_append, e8, ee, em, ew, es, et, el]; omega)) ?_
  refine Ev.ifs (by first | omega | (simp only [ByteArray.size_append, e8, ee, em, ew, es, et, el]; omega)) ?_
  refine Ev.bind FW ?_
  refine Ev.ifs (by first | omega | (simp only [ByteArray.size_append, e8, ee, em, ew, es, et, el]; omega)) ?_
  refine Ev.ifs (by first | omega | (simp only [ByteArray.size_append, e8, ee, em, ew, es, et, el]; omega)) ?_
  refine Ev.bind F4 ?_
  refine Ev.ifs (by first | omega | (simp only [ByteArray.size_append, e8, ee, em, ew, es, et, el]; omega)) ?_
  refine Ev.ifs (by first | omega | (simp only [ByteArray.size_append, e8, ee, em, ew, es, et, el]; omega)) ?_
  refine Ev.bind F5 ?_
  refine Ev.ifs (by first | omega | (simp only [ByteArray.size_append, e8, ee, em, ew, es, et, el]; omega)) ?_
  refine Ev.ifs (by first | omega | (simp only [ByteArray.size_append, e8, ee, em, ew, es, et, el]; omega)) ?_
  refine Ev.bind F6 ?_
  refine Ev.ifs (by first | omega | (simp only [ByteArray.size_append, e8, ee, em, ew, es, et, el]; omega)) ?_
  refine Ev.ifs (by first | omega | (simp only [ByteArray.size_append, e8, ee, em, ew, es, et, el]; omega)) ?_
  refine Ev.bind F7 ?_
  refine Ev.ifs (by first | omega | (simp only [ByteArray.size_append, e8, ee, em, ew, es, et, el]; omega)) ?_
  exact Ev.now _

/-! spec_l1Str -/
theorem spec_l1Str_ex (d : List Int) (p h : Int) (l : List ByteArray) (hp : 0 ≤ p) (hd : d.length ≤ 1048576) (h1 : 1 ≤ l.length) (h2 : l.length ≤ 256) : ∃ b q g, spec_l1Str.f d p h l = some (b, q, g) ∧ 0 ≤ q ∧ b ∈ l := by
 obtain ⟨b, q, g, e, hq, hb⟩ := spec_l1Below_ex d p h (l.length : Int) hp hd
 obtain ⟨hb0, hb1⟩ := hb (by omega) (by omega)
 exact ⟨_, _, _, by simp only [spec_l1Str.f, e, Option.bind_some, hb0, hb1, ↓reduceIte]; rfl, hq, rdOf_mem _ _ _ hb0 hb1⟩

/-! spec_DrawParseRules -/
theorem maybeT_small (p : List Int) (h : maybeM p = true) : (maybeT p).size ≤ 60 := by
 unfold maybeM at h
 unfold maybeT
 by_cases h0 : p.length = 0
 ·rw [if_pos h0]; decide
 ·rw [if_neg h0]
  have hp : isPatM p = true := by simpa [h0] using h
  have z := (goodI_text p hp).2.1
  rw [size_data] at z
  have := (isPatM_run hp).2
  rw [patText_of hp]
  omega
theorem rulesT_size (a0 a1 : Int) (a2 a3 : Bool) (l4 l5 : List Int) (a6 a7 : Int) : (rulesT a0 a1 a2 a3 l4 l5 a6 a7).size ≤ 400 := by
 unfold rulesT
 by_cases h : isRulesM a0 a1 a2 a3 l4 l5 a6 a7 = true
 ·rw [if_pos h]
  obtain ⟨n0, n1, n6, n7⟩ := isRulesM_nums h
  obtain ⟨_, m4, m5⟩ := isRulesM_same h
  have z0 := numT_size a0 (by omega) (by omega)
  have z1 := numT_size a1 (by omega) (by omega)
  have z6 := numT_size a6 (by omega) (by omega)
  have z7 := numT_size a7 (by omega) (by omega)
  have zw := rulesWordM_size a2 a3
  have z4 := maybeT_small l4 m4
  have z5 := maybeT_small l5 m5
  have e8 : (⟨#[112, 108, 97, 121, 101, 114, 115, 61]⟩ : ByteArray).size = 8 := rfl
  have ee : (⟨#[32, 101, 97, 99, 104, 61]⟩ : ByteArray).size = 6 := rfl
  have em : (⟨#[32, 109, 97, 116, 99, 104, 61]⟩ : ByteArray).size = 7 := rfl
  have ew : (⟨#[32, 119, 105, 108, 100, 61]⟩ : ByteArray).size = 6 := rfl
  have es : (⟨#[32, 115, 107, 105, 112, 61]⟩ : ByteArray).size = 6 := rfl
  have et : (⟨#[32, 116, 97, 107, 101, 61]⟩ : ByteArray).size = 6 := rfl
  have el : (⟨#[32, 108, 105, 109, 105, 116, 61]⟩ : ByteArray).size = 7 := rfl
  simp only [ByteArray.size_append, e8, ee, em, ew, es, et, el]
  omega
 ·rw [if_neg h]
  exact Nat.zero_le _
theorem easy_ex : ∃ (a0 a1 : Int) (a2 a3 : Bool) (l4 l5 : List Int) (a6 a7 : Int), spec_EasyRules.f = some (a0, a1, a2, a3, l4, l5, a6, a7) ∧ l4.length ≤ 7 ∧ l5.length ≤ 7 := ⟨_, _, _, _, _, _, _, _, rfl, by decide, by decide⟩
def drawTexts (t3 t4 : ByteArray) : List ByteArray := [t3, t3, t3, t4, t4 ++ (⟨#[32]⟩ : ByteArray), (⟨#[]⟩ : ByteArray), (⟨#[112, 108, 97, 121, 101, 114, 115, 61, 51]⟩ : ByteArray), (⟨#[112, 108, 97, 121, 101, 114, 115, 61, 51, 32, 101, 97, 99, 104, 61, 53, 32, 109, 97, 116, 99, 104, 61, 110, 111, 110, 101, 32, 119, 105, 108, 100, 61, 45, 32, 115, 107, 105, 112, 61, 45, 32, 116, 97, 107, 101, 61, 49, 32, 108, 105, 109, 105, 116, 61, 57]⟩ : ByteArray), (⟨#[112, 108, 97, 121, 101, 114, 115, 61, 51, 32, 101, 97, 99, 104, 61, 53, 32, 109, 97, 116, 99, 104, 61, 98, 111, 116, 104, 32, 119, 105, 108, 100, 61, 120, 32, 115, 107, 105, 112, 61, 45, 32, 116, 97, 107, 101, 61, 49, 32, 108, 105, 109, 105, 116, 61, 57]⟩ : ByteArray), (⟨#[112, 108, 97, 121, 101, 114, 115, 61, 51, 32, 101, 97, 99, 104, 61, 53, 32, 109, 97, 116, 99, 104, 61, 98, 111, 116, 104, 32, 119, 105, 108, 100, 61, 45, 32, 115, 107, 105, 112, 61, 45, 32, 116, 97, 107, 101, 61, 49, 32, 108, 105, 109, 105, 116, 61, 48, 57]⟩ : ByteArray), (⟨#[101, 97, 99, 104, 61, 53, 32, 112, 108, 97, 121, 101, 114, 115, 61, 51, 32, 109, 97, 116, 99, 104, 61, 98, 111, 116, 104, 32, 119, 105, 108, 100, 61, 45, 32, 115, 107, 105, 112, 61, 45, 32, 116, 97, 107, 101, 61, 49, 32, 108, 105, 109, 105, 116, 61, 57]⟩ : ByteArray)]
theorem drawTexts_size (t3 t4 : ByteArray) (h3 : t3.size ≤ 400) (h4 : t4.size ≤ 400) : ∀ y ∈ drawTexts t3 t4, y.size ≤ 1048576 := by
 have z5 : (t4 ++ (⟨#[32]⟩ : ByteArray)).size ≤ 1048576 := by rw [ByteArray.size_append]; have : (⟨#[32]⟩ : ByteArray).size = 1 := rfl; omega
 intro y hy
 simp only [drawTexts, List.mem_cons, List.not_mem_nil, or_false] at hy
 rcases hy with rfl | rfl | rfl | rfl | rfl | rfl | rfl | rfl | rfl | rfl | rfl
 ·omega
 ·omega
 ·omega
 ·omega
 ·exact z5
 all_goals decide
theorem spec_DrawParseRules_f (k : Nat) (d : List Int) : spec_DrawParseRules.f k d = (spec_l1New.f k d).bind fun a => (spec_l22Any.f k a.1 a.2.1 a.2.2).bind fun r => (spec_RulesText.f k r.1 r.2.1 r.2.2.1 r.2.2.2.1 r.2.2.2.2.1 r.2.2.2.2.2.1 r.2.2.2.2.2.2.1 r.2.2.2.2.2.2.2.1).bind fun t3 => (spec_EasyRules.f).bind fun e => (spec_RulesText.f k e.1 e.2.1 e.2.2.1 e.2.2.2.1 e.2.2.2.2.1 e.2.2.2.2.2.1 e.2.2.2.2.2.2.1 e.2.2.2.2.2.2.2).bind fun t4 => if t4.size + 1 ≤ 9223372036854775807 then (spec_l1Str.f a.1 r.2.2.2.2.2.2.2.2.1 r.2.2.2.2.2.2.2.2.2 (drawTexts t3 t4)).bind fun b => some b.1 else none := rfl
theorem spec_DrawParseRules_ex (d : List Int) (hd : d.length ≤ 1048576) : ∃ t : ByteArray, Ev (fun k => spec_DrawParseRules.f k d) t ∧ t.size ≤ 1048576 := by
 obtain ⟨g, e1⟩ := spec_l1New_ex d hd
 obtain ⟨⟨a0, a1, a2, a3, l4, l5, a6, a7, q, h⟩, e2, h4, h5, hq⟩ := spec_l22Any_ex d hd 0 g (by omega)
 simp only at h4 h5 hq
 obtain ⟨b0, b1, b2, b3, m4, m5, b6, b7, eE, k4, k5⟩ := easy_ex
 have e3 := spec_RulesText_ev a0 a1 a2 a3 l4 l5 a6 a7 (by omega) (by omega)
 have e4 := spec_RulesText_ev b0 b1 b2 b3 m4 m5 b6 b7 (by omega) (by omega)
 have z3 := rulesT_size a0 a1 a2 a3 l4 l5 a6 a7
 have z4 := rulesT_size b0 b1 b2 b3 m4 m5 b6 b7
 generalize rulesT a0 a1 a2 a3 l4 l5 a6 a7 = t3 at e3 z3
 generalize rulesT b0 b1 b2 b3 m4 m5 b6 b7 = t4 at e4 z4
 have o : t4.size + 1 ≤ 9223372036854775807 := by omega
 have hz := drawTexts_size t3 t4 z3 z4
 have hn : (drawTexts t3 t4).length = 11 := rfl
 obtain ⟨b, q2, g2, e5, _, hb⟩ := spec_l1Str_ex d q h (drawTexts t3 t4) hq hd (by omega) (by omega)
 refine ⟨b, ?_, hz b hb⟩
 simp only [spec_DrawParseRules_f, eE, Option.bind_some]
 refine Ev.bind e1 (Ev.bind e2 (Ev.bind e3 (Ev.bind e4 ?_)))
 exact ev_of_eq fun k => by simp only [o, ↓reduceIte, e5, Option.bind_some]

/-! spec_DrawSplitWords -/
theorem spec_DrawSplitWords_ex (d : List Int) (hd : d.length ≤ 1048576) : ∃ (t : ByteArray) (c : Int), Ev (fun k => spec_DrawSplitWords.f k d) (t, c) ∧ t.size ≤ 1048576 := by
 obtain ⟨g, e1⟩ := spec_l1New_ex d hd
 obtain ⟨b0, b1, b2, b3, m4, m5, b6, b7, eE, k4, k5⟩ := easy_ex
 have e4 := spec_RulesText_ev b0 b1 b2 b3 m4 m5 b6 b7 (by omega) (by omega)
 have z4 := rulesT_size b0 b1 b2 b3 m4 m5 b6 b7
 generalize rulesT b0 b1 b2 b3 m4 m5 b6 b7 = t4 at e4 z4
 simp only [spec_DrawSplitWords.f, eE, Option.bind_some]
 generalize hl : ([(⟨#[]⟩ : ByteArray), (⟨#[97, 32, 98]⟩ : ByteArray), (⟨#[32, 97]⟩ : ByteArray), (⟨#[97, 32, 32, 98, 32]⟩ : ByteArray), (⟨#[97, 44, 98]⟩ : ByteArray), t4] : List ByteArray) = l
 have hz : ∀ y ∈ l, y.size ≤ 1048576 := by
  rw [← hl]
  intro y hy
  simp only [List.mem_cons, List.not_mem_nil, or_false] at hy
  rcases hy with rfl | rfl | rfl | rfl | rfl | rfl <;> first | omega | decide
 have hn : l.length = 6 := by rw [← hl]; rfl
 obtain ⟨b, q2, g2, e5, hq2, hb⟩ := spec_l1Str_ex d 0 g l (by omega) hd (by omega) (by omega)
 obtain ⟨n, q3, g3, e6, _, hn3⟩ := spec_l1Below_ex d q2 g2 3 hq2 hd
 obtain ⟨n0, n1⟩ := hn3 (by omega) (by omega)
 refine ⟨b, rd [32, 44, 61] n, ?_, hz b hb⟩
 subst hl
 refine Ev.bind e1 (Ev.bind e4 ?_)
 have n2 : n < (([32, 44, 61] : List Int).length : Int) := n1
 exact ev_of_eq fun k => by simp only [e5, e6, n0, n2, Option.bind_some, ↓reduceIte]

/-! spec_DrawValueAfter -/
theorem spec_DrawValueAfter_ex (d : List Int) (hd : d.length ≤ 1048576) : ∃ t n : ByteArray, Ev (fun k => spec_DrawValueAfter.f k d) (t, n) ∧ t.size ≤ 1048576 ∧ n.size ≤ 1048576 := by
 obtain ⟨g, e1⟩ := spec_l1New_ex d hd
 simp only [spec_DrawValueAfter.f]
 generalize hl : ([(⟨#[116, 97, 107, 101, 61, 52]⟩ : ByteArray), (⟨#[116, 97, 107, 101, 61]⟩ : ByteArray), (⟨#[116, 97, 107, 101]⟩ : ByteArray), (⟨#[116, 97, 107, 101, 115, 61, 52]⟩ : ByteArray), (⟨#[]⟩ : ByteArray), (⟨#[61, 52]⟩ : ByteArray), (⟨#[116, 97, 107, 101, 61, 61, 52]⟩ : ByteArray)] : List ByteArray) = l
 generalize hm : ([(⟨#[116, 97, 107, 101]⟩ : ByteArray), (⟨#[]⟩ : ByteArray), (⟨#[108, 105, 109, 105, 116]⟩ : ByteArray)] : List ByteArray) = m
 have hz : ∀ y ∈ l, y.size ≤ 1048576 := by
  rw [← hl]
  intro y hy
  simp only [List.mem_cons, List.not_mem_nil, or_false] at hy
  rcases hy with rfl | rfl | rfl | rfl | rfl | rfl | rfl <;> decide
 have hy : ∀ y ∈ m, y.size ≤ 1048576 := by
  rw [← hm]
  intro y hy
  simp only [List.mem_cons, List.not_mem_nil, or_false] at hy
  rcases hy with rfl | rfl | rfl <;> decide
 have n1 : l.length = 7 := by rw [← hl]; rfl
 have n2 : m.length = 3 := by rw [← hm]; rfl
 obtain ⟨b, q2, g2, e5, hq2, hb⟩ := spec_l1Str_ex d 0 g l (by omega) hd (by omega) (by omega)
 obtain ⟨c, q3, g3, e6, _, hc⟩ := spec_l1Str_ex d q2 g2 m hq2 hd (by omega) (by omega)
 refine ⟨b, c, Ev.bind e1 (ev_of_eq fun k => ?_), hz b hb, hy c hc⟩
 subst hl
 subst hm
 simp only [e5, e6, Option.bind_some]

-- uses: LibM
def sizesF : List ByteArray → Int
 | [] => 0
 | y :: r => (y.size : Int) + sizesF r
theorem sizesF_append (a b : List ByteArray) : sizesF (a ++ b) = sizesF a + sizesF b := by
 induction a with
 | nil => simp [sizesF]
 | cons x a ih => simp only [List.cons_append, sizesF, ih]; omega
theorem sizesF_nonneg (a : List ByteArray) : 0 ≤ sizesF a := by
 induction a with
 | nil => exact Int.le_refl _
 | cons x a ih => simp only [sizesF]; omega
theorem splitF_sizes (s : ByteArray) (c : Int) : ∀ (n : Nat) (out : List ByteArray) (fr i : Nat), fr ≤ i → i + n = s.size → sizesF (splitF s c n out (fr : Int) (i : Int)) + (splitF s c n out (fr : Int) (i : Int)).length = sizesF out + out.length + ((s.size : Int) - fr) + 1 := by
 intro n
 induction n with
 | zero =>
  intro out fr i h1 h2
  have e : (s.extract fr s.size).size = s.size - fr := by rw [ByteArray.size_extract]; omega
  simp only [splitF, Int.toNat_natCast, sizesF_append, sizesF, e, List.length_append, List.length_cons, List.length_nil]
  omega
 | succ n ih =>
  intro out fr i h1 h2
  unfold splitF
  split
  ·have e : (s.extract fr i).size = i - fr := by rw [ByteArray.size_extract]; omega
   have := ih (out ++ [s.extract fr i]) (i + 1) (i + 1) (Nat.le_refl _) (by omega)
   simp only [sizesF_append, sizesF, e, List.length_append, List.length_cons, List.length_nil] at this
   simp only [Int.toNat_natCast]
   rw [show ((i : Int) + 1) = ((i + 1 : Nat) : Int) by omega]
   omega
  ·have := ih out fr (i + 1) (by omega) (by omega)
   rw [show ((i : Int) + 1) = ((i + 1 : Nat) : Int) by omega]
   exact this
theorem rulesT_ne {a0 a1 : Int} {a2 a3 : Bool} {l4 l5 : List Int} {a6 a7 : Int} (h : isRulesM a0 a1 a2 a3 l4 l5 a6 a7 = true) : rulesT a0 a1 a2 a3 l4 l5 a6 a7 ≠ ⟨#[]⟩ := by
 intro e
 have hw := words_of _ a0 a1 a2 a3 l4 l5 a6 a7 h rfl
 rw [e] at hw
 have z : (⟨#[]⟩ : ByteArray).size = 0 := rfl
 rw [z] at hw
 simp [splitF] at hw
/-- What stands behind the loop. -/
theorem scripts_tail (d : List Int) (hd : d.length ≤ 1048576) (s : ByteArray) (q : RulesR) (hq : RulesOf s q) (w : ByteArray) (parts : List ByteArray) :
  Ev (fun k => laws_FnScripts.l0 k d s q.2.2.2.2.2.2.2.2 w parts (w.size : Int) (parts.length : Int) q.1 q.2.1 q.2.2.1 q.2.2.2.1 q.2.2.2.2.1 q.2.2.2.2.2.1 q.2.2.2.2.2.2.1 q.2.2.2.2.2.2.2.1) true := by
 obtain ⟨t, n, e1, ht, hn⟩ := spec_DrawValueAfter_ex d hd
 have e2 := impl_ValueAfter_f t n hn
 have z1 := afterM_size t n
 have z2 : (n ++ (⟨#[61]⟩ : ByteArray)).size = n.size + 1 := by rw [ByteArray.size_append]; rfl
 have o1 : n.size + 1 ≤ 9223372036854775807 := by omega
 have o2 : (n ++ (⟨#[61]⟩ : ByteArray)).size + (afterM t n).1.size ≤ 9223372036854775807 := by omega
 have back : (afterM t n).2 = true → (n ++ (⟨#[61]⟩ : ByteArray)) ++ (afterM t n).1 = t := by
  unfold afterM
  split
  ·rename_i g
   intro _
   refine data_inj ?_
   rw [ByteArray.toList_data_append, ← g, extract_data', extract_data', List.drop_zero, ← size_data t, List.take_length, List.take_append_drop]
  ·intro h; cases h
 have fin : (if (afterM t n).2 = true then (if n.size + 1 ≤ 9223372036854775807 then (if (n ++ (⟨#[61]⟩ : ByteArray)).size + (afterM t n).1.size ≤ 9223372036854775807 then some (((n ++ (⟨#[61]⟩ : ByteArray)) ++ (afterM t n).1).toList == t.toList) else none) else none) else some true) = some true := by
  by_cases g : (afterM t n).2 = true
  ·rw [if_pos g, if_pos o1, if_pos o2, back g, beq_self_eq_true]
  ·rw [if_neg g]
 obtain ⟨⟨h4, h5⟩, hc, _⟩ := hq
 obtain ⟨a0, a1, a2, a3, l4, l5, a6, a7, b⟩ := q
 simp only at h4 h5 hc ⊢
 refine ev_succ ?_
 simp only [laws_FnScripts.l0, Int.lt_irrefl, ↓reduceIte]
 refine Ev.bind e1 ?_
 simp only [e2, Option.bind_some]
 rcases hc with ⟨_, hT, rfl⟩ | hc
 ·simp only [↓reduceIte]
  refine Ev.bind (impl_RulesText_ev a0 a1 a2 a3 l4 l5 a6 a7 h4 h5) (ev_of_eq fun k => ?_)
  rw [if_pos (by rw [hT])]
  first | exact fin | (rw [if_pos rfl]; exact fin)
 ·have : b = false := congrArg (fun r : RulesR => r.2.2.2.2.2.2.2.2) hc
  subst this
  exact ev_of_eq fun k => by
   rw [if_neg (by decide)]
   first | exact fin | (rw [if_pos rfl]; exact fin)
theorem scripts_rest (d : List Int) (hd : d.length ≤ 1048576) : Ev (fun k => laws_FnScripts.j0 k d false) true := by
 obtain ⟨s, e1, hs⟩ := spec_DrawParseRules_ex d hd
 obtain ⟨q, e2, hq⟩ := impl_ParseRules_ex s hs
 obtain ⟨w, c, e3, hw⟩ := spec_DrawSplitWords_ex d hd
 have e4 := impl_SplitWords_ev w c hw
 have hz := splitF_sizes w c w.size [] 0 0 (Nat.le_refl _) (by omega)
 have hl := splitF_len w c w.size [] 0 0
 simp only [sizesF, List.length_nil] at hz hl
 change sizesF (splitF w c w.size [] 0 0) + (splitF w c w.size [] 0 0).length = _ at hz
 generalize splitF w c w.size [] 0 0 = parts at e4 hz hl
 have w1 : wrap64 ((parts.length : Int) - 1) = (parts.length : Int) - 1 := w64 (by omega) (by omega)
 refine ev_succ ?_
 simp only [laws_FnScripts.j0, Bool.false_eq_true, ↓reduceIte]
 refine Ev.bind e1 (Ev.bind e2 (Ev.bind e3 (Ev.bind e4 ?_)))
 simp only [w1]
 have H := loop_of parts ByteArray.empty (by omega) (P := fun i rest => ∀ n : Int, 0 ≤ n + 1 → n + sizesF rest = (w.size : Int) → Ev (fun k => laws_FnScripts.l0 k d s q.2.2.2.2.2.2.2.2 w parts n i q.1 q.2.1 q.2.2.1 q.2.2.2.1 q.2.2.2.2.1 q.2.2.2.2.2.1 q.2.2.2.2.2.2.1 q.2.2.2.2.2.2.2.1) true) ?_ ?_
 ·exact H _ (by omega) (by omega)
 ·intro n _ hn
  simp only [sizesF, Int.add_zero] at hn
  subst hn
  exact scripts_tail d hd s q hq w parts
 ·intro i x rest h0 h1 hx _ hw1 ih n n0 hn
  simp only [sizesF] at hn
  have r0 := sizesF_nonneg rest
  have w2 : wrap64 (n + (x.size : Int)) = n + (x.size : Int) := w64 (by omega) (by omega)
  refine ev_succ ?_
  simp only [laws_FnScripts.l0, h1, h0, hx, hw1, w2, ↓reduceIte]
  exact ih _ (by omega) (by omega)
theorem FnScripts : laws_FnScripts.Pure := by
 intro d _ _ _
 refine Ev.rounds (g := fun k => laws_FnScripts.f k d) ?_
 simp only [laws_FnScripts.f, laws_big.f, Option.bind_some]
 by_cases hd : (d.length : Int) > 1048576
 ·exact ev_of_eq fun k => by simp only [hd, decide_true, ↓reduceIte]
 simp only [hd, decide_false, Bool.false_eq_true, ↓reduceIte]
 have hd' : d.length ≤ 1048576 := by omega
 obtain ⟨a0, a1, a2, a3, l4, l5, a6, a7, e1, h4, h5⟩ := spec_DrawRulesText_ex d hd'
 have k4 : l4.length ≤ 1048576 := by omega
 have k5 : l5.length ≤ 1048576 := by omega
 have e2 := impl_RulesText_ev a0 a1 a2 a3 l4 l5 a6 a7 k4 k5
 have hz := rulesT_size a0 a1 a2 a3 l4 l5 a6 a7
 obtain ⟨q, e3, hq⟩ := impl_ParseRules_ex (rulesT a0 a1 a2 a3 l4 l5 a6 a7) (by omega)
 have e4 := impl_IsRules_ev a0 a1 a2 a3 l4 l5 a6 a7 k4 k5
 have rest := scripts_rest d hd'
 refine Ev.bind e1 (Ev.bind e2 (Ev.bind e3 (Ev.bind e4 ?_)))
 by_cases hR : isRulesM a0 a1 a2 a3 l4 l5 a6 a7 = true
 ·obtain rfl := hq.2.2 _ _ _ _ _ _ _ _ hR rfl
  rw [hR] at e4
  simp only [hR, bne_self_eq_false, Bool.false_eq_true, ↓reduceIte]
  refine Ev.bind (impl_EqualRules_ev a0 a1 a2 a3 l4 l5 a6 a7 a0 a1 a2 a3 l4 l5 a6 a7 k4 k5) ?_
  simp only [and_self, decide_true, ↓reduceIte]
  refine Ev.bind e4 ?_
  simp only [↓reduceIte]
  refine Ev.bind (impl_RulesWord_ev a0 a1 a2 a3 l4 l5 a6 a7 k4 k5) ?_
  have hw : ((rulesWordM a2 a3).toList == ([] : List UInt8)) = false := by
   have := (isRulesM_same hR).1
   rw [ByteArray.toList_eq]
   revert this
   cases a2 <;> cases a3 <;> decide
  simp only [hw]
  exact rest
 ·have hR' := Bool.eq_false_iff.mpr hR
  have ht : rulesT a0 a1 a2 a3 l4 l5 a6 a7 = ⟨#[]⟩ := by unfold rulesT; rw [if_neg hR]
  rcases hq.2.1 with ⟨g1, g2, _⟩ | rfl
  ·exact absurd (g2.trans ht) (rulesT_ne g1)
  ·rw [hR'] at e4
   simp only [hR', noRules, bne_self_eq_false, Bool.false_eq_true, ↓reduceIte]
   refine Ev.bind e4 ?_
   simp only [Bool.false_eq_true, ↓reduceIte]
   exact rest

end Go.Proofs.YtdfmobcocaijpaaDoor.Pure
