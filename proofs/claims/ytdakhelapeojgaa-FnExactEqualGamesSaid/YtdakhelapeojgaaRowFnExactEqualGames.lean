/- The row of FnExactEqualGames: the statement, over the pure statement and the walk. No condition of its own. -/
import Derived.Test.YtdakhelapeojgaaRows
import Derived.Test.YtdakhelapeojgaaQFnExactEqualGamesx3
import Derived.Test.YtdakhelapeojgaaPureFnExactEqualGames
import Derived.WalkKit
import Derived.ProofKit
import Derived.OpenShut
import Derived.ShutString
import Derived.ChangeOld
import Derived.Below
import Derived.SizedLaws
import Derived.Test.YtdakhelapeojgaaWSized
import Derived.Test.YtdakhelapeojgaaLibO
namespace Go.Proofs.Ytdakhelapeojgaa.fnExactEqualGames
open Go.ChangeShapes Go.WideShapes Go.ChangeAt Go.RowKit Go.Proofs.YtdakhelapeojgaaW.PrintWords Go.Proofs.Ytdakhelapeojgaa.Lib Go.Proofs.Ytdakhelapeojgaa.QFnExactEqualGames
open Go.ChangeMaps (open_string shut_string)
set_option linter.unusedVariables false
set_option linter.unusedSimpArgs false
theorem own : ownKnob Try.prog.godebug = none := by kernel_rfl
theorem laidOut : laidOutB Try.prog = true := by kernel_rfl
/-- What a value of this struct is, opened. -/
theorem open_71 {H : Type} {enc : TypeId × Value → H} {W : World} {base : Nat} {spare : Nat → Bool} {held : Bool} {fuel : Nat} {cs : List Value} {x : DataW H × List MemPlace} (hf : DataW.trod enc Try.prog W base spare held fuel 71 cs = some x) :
    ∃ (a0_0_0 : Int) (a0_0_1 : Int) (a0_0_2 : Bool) (a0_0_3 : Bool) (a0_0_4 : List Int) (a0_0_5 : List Int) (a0_0_6 : Int) (a0_0_7 : Int) (a0_1 : List (List Int)) (a0_2 : List Int) (a0_3 : List Int) (a0_4 : Int) (a0_5 : Int) (a0_6 : Int) (Aa0_0_4 : Option Addr) (ca0_0_4 : Nat) (Aa0_0_5 : Option Addr) (ca0_0_5 : Nat) (Aa0_1 : Option Addr) (ca0_1 : Nat) (Aa0_2 : Option Addr) (ca0_2 : Nat) (Aa0_3 : Option Addr) (ca0_3 : Nat), cs = [.int .i64 a0_0_0, .int .i64 a0_0_1, .bool a0_0_2, .bool a0_0_3, .slice Aa0_0_4 a0_0_4.length ca0_0_4, .slice Aa0_0_5 a0_0_5.length ca0_0_5, .int .i64 a0_0_6, .int .i64 a0_0_7, .slice Aa0_1 a0_1.length ca0_1, .slice Aa0_2 a0_2.length ca0_2, .slice Aa0_3 a0_3.length ca0_3, .int .i64 a0_4, .int .i64 a0_5, .int .i64 a0_6] ∧ (a0_0_4.length ≤ ca0_0_4) ∧ (Kd.C (Kd.int .i64) W Aa0_0_4 a0_0_4.length a0_0_4) ∧ (a0_0_5.length ≤ ca0_0_5) ∧ (Kd.C (Kd.int .i64) W Aa0_0_5 a0_0_5.length a0_0_5) ∧ (a0_1.length ≤ ca0_1) ∧ (Kd.C (Kd.slice 3 (Kd.int .i64)) W Aa0_1 a0_1.length a0_1) ∧ (a0_2.length ≤ ca0_2) ∧ (Kd.C (Kd.int .i64) W Aa0_2 a0_2.length a0_2) ∧ (a0_3.length ≤ ca0_3) ∧ (Kd.C (Kd.int .i64) W Aa0_3 a0_3.length a0_3) ∧ ((Lit.int .i64 a0_0_0).wf = true) ∧ ((Lit.int .i64 a0_0_1).wf = true) ∧ (a0_0_4.length ≤ maxLen) ∧ (∀ y ∈ a0_0_4, (Lit.int .i64 y).wf = true) ∧ (a0_0_5.length ≤ maxLen) ∧ (∀ y ∈ a0_0_5, (Lit.int .i64 y).wf = true) ∧ ((Lit.int .i64 a0_0_6).wf = true) ∧ ((Lit.int .i64 a0_0_7).wf = true) ∧ (a0_1.length ≤ maxLen) ∧ (∀ y ∈ a0_1, y.length ≤ maxLen ∧ ∀ z ∈ y, (Lit.int .i64 z).wf = true) ∧ (a0_2.length ≤ maxLen) ∧ (∀ y ∈ a0_2, (Lit.int .i64 y).wf = true) ∧ (a0_3.length ≤ maxLen) ∧ (∀ y ∈ a0_3, (Lit.int .i64 y).wf = true) ∧ ((Lit.int .i64 a0_4).wf = true) ∧ ((Lit.int .i64 a0_5).wf = true) ∧ ((Lit.int .i64 a0_6).wf = true) := by
  obtain ⟨⟨⟨a0_0_0, ⟨a0_0_1, ⟨a0_0_2, ⟨a0_0_3, ⟨a0_0_4, ⟨a0_0_5, ⟨a0_0_6, a0_0_7⟩⟩⟩⟩⟩⟩⟩, ⟨a0_1, ⟨a0_2, ⟨a0_3, ⟨a0_4, ⟨a0_5, a0_6⟩⟩⟩⟩⟩⟩, K, O⟩ := ((opens_struct Try.underlying71 (by kernel_rfl) (opensF_cons rfl (by kernel_rfl) (opens_struct Try.underlying68 (by kernel_rfl) (opensF_cons rfl (by kernel_rfl) (opens_int Try.underlying3) (opensF_cons rfl (by kernel_rfl) (opens_int Try.underlying3) (opensF_cons rfl (by kernel_rfl) (opens_bool Try.underlying4) (opensF_cons rfl (by kernel_rfl) (opens_bool Try.underlying4) (opensF_cons rfl (by kernel_rfl) (opens_slice Try.underlying22 (by kernel_rfl) (opens_int Try.underlying3)) (opensF_cons rfl (by kernel_rfl) (opens_slice Try.underlying22 (by kernel_rfl) (opens_int Try.underlying3)) (opensF_cons rfl (by kernel_rfl) (opens_int Try.underlying3) (opensF_last rfl (by kernel_rfl) (opens_int Try.underlying3)))))))))) (opensF_cons rfl (by kernel_rfl) (opens_slice Try.underlying69 (by kernel_rfl) (opens_slice Try.underlying22 (by kernel_rfl) (opens_int Try.underlying3))) (opensF_cons rfl (by kernel_rfl) (opens_slice Try.underlying22 (by kernel_rfl) (opens_int Try.underlying3)) (opensF_cons rfl (by kernel_rfl) (opens_slice Try.underlying22 (by kernel_rfl) (opens_int Try.underlying3)) (opensF_cons rfl (by kernel_rfl) (opens_int Try.underlying3) (opensF_cons rfl (by kernel_rfl) (opens_int Try.underlying3) (opensF_last rfl (by kernel_rfl) (opens_int Try.underlying3))))))))) : Opens Try.prog 71 (Kd.pair (Kd.pair (Kd.int .i64) (Kd.pair (Kd.int .i64) (Kd.pair Kd.bool (Kd.pair Kd.bool (Kd.pair (Kd.slice 3 (Kd.int .i64)) (Kd.pair (Kd.slice 3 (Kd.int .i64)) (Kd.pair (Kd.int .i64) (Kd.int .i64)))))))) (Kd.pair (Kd.slice 22 (Kd.slice 3 (Kd.int .i64))) (Kd.pair (Kd.slice 3 (Kd.int .i64)) (Kd.pair (Kd.slice 3 (Kd.int .i64)) (Kd.pair (Kd.int .i64) (Kd.pair (Kd.int .i64) (Kd.int .i64))))))) _) hf
  obtain ⟨_, _, E, ⟨_, _, rfl, rfl, ⟨_, _, rfl, rfl, ⟨_, _, rfl, rfl, ⟨_, _, rfl, rfl, ⟨_, _, rfl, ⟨Aa0_0_4, ca0_0_4, rfl, la0_0_4, Ca0_0_4⟩, ⟨_, _, rfl, ⟨Aa0_0_5, ca0_0_5, rfl, la0_0_5, Ca0_0_5⟩, ⟨_, _, rfl, rfl, rfl⟩⟩⟩⟩⟩⟩⟩, ⟨_, _, rfl, ⟨Aa0_1, ca0_1, rfl, la0_1, Ca0_1⟩, ⟨_, _, rfl, ⟨Aa0_2, ca0_2, rfl, la0_2, Ca0_2⟩, ⟨_, _, rfl, ⟨Aa0_3, ca0_3, rfl, la0_3, Ca0_3⟩, ⟨_, _, rfl, rfl, ⟨_, _, rfl, rfl, rfl⟩⟩⟩⟩⟩⟩ := K
  obtain ⟨⟨oa0_0_0, ⟨oa0_0_1, ⟨-, ⟨-, ⟨⟨ma0_0_4, oa0_0_4⟩, ⟨⟨ma0_0_5, oa0_0_5⟩, ⟨oa0_0_6, oa0_0_7⟩⟩⟩⟩⟩⟩⟩, ⟨⟨ma0_1, oa0_1⟩, ⟨⟨ma0_2, oa0_2⟩, ⟨⟨ma0_3, oa0_3⟩, ⟨oa0_4, ⟨oa0_5, oa0_6⟩⟩⟩⟩⟩⟩ := O
  exact ⟨a0_0_0, a0_0_1, a0_0_2, a0_0_3, a0_0_4, a0_0_5, a0_0_6, a0_0_7, a0_1, a0_2, a0_3, a0_4, a0_5, a0_6, Aa0_0_4, ca0_0_4, Aa0_0_5, ca0_0_5, Aa0_1, ca0_1, Aa0_2, ca0_2, Aa0_3, ca0_3, E.trans rfl, la0_0_4, Ca0_0_4, la0_0_5, Ca0_0_5, la0_1, Ca0_1, la0_2, Ca0_2, la0_3, Ca0_3, oa0_0_0, oa0_0_1, ma0_0_4, oa0_0_4, ma0_0_5, oa0_0_5, oa0_0_6, oa0_0_7, ma0_1, oa0_1, ma0_2, oa0_2, ma0_3, oa0_3, oa0_4, oa0_5, oa0_6⟩

set_option maxRecDepth 100000 in
theorem lifted (os : Os) (started : os.Started) (H : Type) (enc : TypeId × Value → H) :
    ReturnsInHanded {} Try.checked os 12 .any (Rows.fnExactEqualGamesSpec.pre6 enc Try.prog Try.f12 Rows.fnExactEqualGamesRow.domain false) (Rows.fnExactEqualGamesSpec.post enc Try.prog Try.f12 false true false false) := by
  refine returnsInHanded_of_change_sized (C := Try.checked) own started (by kernel_rfl) Try.func12
    (ChangeSpec.witness6 (enc := enc) (C := Try.checked) false ⟨#[], #[.agg #[.int .i64 0, .int .i64 0, .bool false, .bool false, .slice none 0 0, .slice none 0 0, .int .i64 0, .int .i64 0, .slice none 0 0, .slice none 0 0, .slice none 0 0, .int .i64 0, .int .i64 0, .int .i64 0], .agg #[.int .i64 0, .int .i64 0, .bool false, .bool false, .slice none 0 0, .slice none 0 0, .int .i64 0, .int .i64 0, .slice none 0 0, .slice none 0 0, .slice none 0 0, .int .i64 0, .int .i64 0, .int .i64 0]], []⟩ 8 (by kernel_rfl) (by kernel_rfl) (by kernel_rfl) (by kernel_rfl)) ?_
  intro W base args ds gs before hval0 hW hcnd hsz0 _
  have hval : ∀ (j : Nat) t v, Try.f12.params[j]? = some t → args[j]? = some v → Value.okWide Try.prog W .any base t v := hval0
  have hW' := hW
  obtain ⟨p, q, hA0, hV, rfl, hfz, hnd⟩ := hW
  have hA : DataW.TrodAll enc Try.prog W 0 (fun _ => true) true Try.f12.params.toList args.toList ds p := hA0
  rw [Try.params12] at hA hval
  obtain ⟨v0, vs0, d0, ds0, p0, q0, hargs, rfl, rfl, h0, r0⟩ := trodAll_cons hA
  obtain ⟨v1, vs1, d1, ds1, p1, q1, rfl, rfl, rfl, h1, r1⟩ := trodAll_cons r0
  obtain ⟨rfl, rfl, rfl⟩ := trodAll_nil r1
  obtain rfl : args = #[v0, v1] := by cases args; simp_all
  obtain ⟨rfl, rfl⟩ := trodVars_none hV
  obtain ⟨cs0, rfl, hz0⟩ := okWide_struct Try.underlying71 (hval 0 71 v0 rfl rfl)
  have k0 := h0
  have lt0 : ∀ x ∈ p0, x.block < W.heap.size := by obtain ⟨m, hm⟩ := k0; exact DataW.trod_lt m _ _ _ hm
  obtain ⟨fuel0, hf0⟩ := h0
  obtain ⟨a0_0_0, a0_0_1, a0_0_2, a0_0_3, a0_0_4, a0_0_5, a0_0_6, a0_0_7, a0_1, a0_2, a0_3, a0_4, a0_5, a0_6, Aa0_0_4, ca0_0_4, Aa0_0_5, ca0_0_5, Aa0_1, ca0_1, Aa0_2, ca0_2, Aa0_3, ca0_3, E0, la0_0_4, Ca0_0_4, la0_0_5, Ca0_0_5, la0_1, Ca0_1, la0_2, Ca0_2, la0_3, Ca0_3, oa0_0_0, oa0_0_1, ma0_0_4, oa0_0_4, ma0_0_5, oa0_0_5, oa0_0_6, oa0_0_7, ma0_1, oa0_1, ma0_2, oa0_2, ma0_3, oa0_3, oa0_4, oa0_5, oa0_6⟩ := open_71 hf0
  obtain rfl : cs0 = #[.int .i64 a0_0_0, .int .i64 a0_0_1, .bool a0_0_2, .bool a0_0_3, .slice Aa0_0_4 a0_0_4.length ca0_0_4, .slice Aa0_0_5 a0_0_5.length ca0_0_5, .int .i64 a0_0_6, .int .i64 a0_0_7, .slice Aa0_1 a0_1.length ca0_1, .slice Aa0_2 a0_2.length ca0_2, .slice Aa0_3 a0_3.length ca0_3, .int .i64 a0_4, .int .i64 a0_5, .int .i64 a0_6] := Array.ext' (E0.trans rfl)
  obtain ⟨cs1, rfl, hz1⟩ := okWide_struct Try.underlying71 (hval 1 71 v1 rfl rfl)
  have k1 := h1
  have lt1 : ∀ x ∈ p1, x.block < W.heap.size := by obtain ⟨m, hm⟩ := k1; exact DataW.trod_lt m _ _ _ hm
  obtain ⟨fuel1, hf1⟩ := h1
  obtain ⟨a1_0_0, a1_0_1, a1_0_2, a1_0_3, a1_0_4, a1_0_5, a1_0_6, a1_0_7, a1_1, a1_2, a1_3, a1_4, a1_5, a1_6, Aa1_0_4, ca1_0_4, Aa1_0_5, ca1_0_5, Aa1_1, ca1_1, Aa1_2, ca1_2, Aa1_3, ca1_3, E1, la1_0_4, Ca1_0_4, la1_0_5, Ca1_0_5, la1_1, Ca1_1, la1_2, Ca1_2, la1_3, Ca1_3, oa1_0_0, oa1_0_1, ma1_0_4, oa1_0_4, ma1_0_5, oa1_0_5, oa1_0_6, oa1_0_7, ma1_1, oa1_1, ma1_2, oa1_2, ma1_3, oa1_3, oa1_4, oa1_5, oa1_6⟩ := open_71 hf1
  obtain rfl : cs1 = #[.int .i64 a1_0_0, .int .i64 a1_0_1, .bool a1_0_2, .bool a1_0_3, .slice Aa1_0_4 a1_0_4.length ca1_0_4, .slice Aa1_0_5 a1_0_5.length ca1_0_5, .int .i64 a1_0_6, .int .i64 a1_0_7, .slice Aa1_1 a1_1.length ca1_1, .slice Aa1_2 a1_2.length ca1_2, .slice Aa1_3 a1_3.length ca1_3, .int .i64 a1_4, .int .i64 a1_5, .int .i64 a1_6] := Array.ext' (E1.trans rfl)
  clear hA0 hval0 hsz0
  obtain ⟨k, hp⟩ := Pure.FnExactEqualGames a0_0_0 a0_0_1 a0_0_2 a0_0_3 a0_0_4 a0_0_5 a0_0_6 a0_0_7 a0_1 a0_2 a0_3 a0_4 a0_5 a0_6 a1_0_0 a1_0_1 a1_0_2 a1_0_3 a1_0_4 a1_0_5 a1_0_6 a1_0_7 a1_1 a1_2 a1_3 a1_4 a1_5 a1_6 oa0_0_0 oa0_0_1 ma0_0_4 oa0_0_4 ma0_0_5 oa0_0_5 oa0_0_6 oa0_0_7 ma0_1 oa0_1 ma0_2 oa0_2 ma0_3 oa0_3 oa0_4 oa0_5 oa0_6 oa1_0_0 oa1_0_1 ma1_0_4 oa1_0_4 ma1_0_5 oa1_0_5 oa1_0_6 oa1_0_7 ma1_1 oa1_1 ma1_2 oa1_2 ma1_3 oa1_3 oa1_4 oa1_5 oa1_6
  refine (laws_FnExactEqualGames.calls k _ _ _ _ _ _ _ _ _ _ _ _ _ _ _ _ _ _ _ _ _ _ _ _ _ _ _ _ _ _ _ _ _ _ _ _ _ _ _ _ _ _ _ _ _ _ _ _ true W (by assumption) (by assumption) (by assumption) (by assumption) (by assumption) (by assumption) (by assumption) (by assumption) (by assumption) (by assumption) (by assumption) (by assumption) (by assumption) (by assumption) (by assumption) (by assumption) (by assumption) (by assumption) (by assumption) (by assumption) hp rfl).mono fun e W' ⟨he, bel0⟩ => ?_
  have bel : Below W.heap.size W W' := (by first | exact bel0 | exact bel0.below)
  subst he
  exact ⟨_, rfl, _, _, _, [], _, [], hW', trodAll_mk1 (shut_bool Try.underlying4 _), (trodAll_cons_mk (Below.trod laidOut (by kernel_rfl) (of_decide_eq_true (by kernel_rfl)) k0 bel lt0) (trodAll_cons_mk (Below.trod laidOut (by kernel_rfl) (of_decide_eq_true (by kernel_rfl)) k1 bel lt1) trodAll_mk0)), rfl, bel.frame _, fun h => by cases h⟩
theorem over : Rows.fnExactEqualGamesRow.holds Try.pinned (OpenSpec.ofChange Rows.fnExactEqualGamesSpec) :=
  OpenClaim.holds_of_wide 12 Try.f12 rfl rfl rfl rfl rfl rfl rfl ⟨rfl, rfl, rfl, rfl, rfl⟩ rfl rfl rfl rfl rfl (by kernel_rfl) Try.func12 (by kernel_rfl)
    (of_decide_eq_true (by kernel_rfl)) (by unfold Func.isWrapper; first | (rw [if_pos (by decide +kernel)]; kernel_rfl) | (rw [if_neg (by decide +kernel)]; exact ⟨rfl, rfl⟩))
    (fun os started H enc _ => lifted os started H enc)
theorem proved : Rows.FnExactEqualGamesSaid := over
#print axioms proved
end Go.Proofs.Ytdakhelapeojgaa.fnExactEqualGames
namespace Go.Proofs.Ytdakhelapeojgaa
/-- The row, under a short name, for the claim. -/
theorem fnExactEqualGames_holds : Rows.FnExactEqualGamesSaid := fnExactEqualGames.proved
end Go.Proofs.Ytdakhelapeojgaa
