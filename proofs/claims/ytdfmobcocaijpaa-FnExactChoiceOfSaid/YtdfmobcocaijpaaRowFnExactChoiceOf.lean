/- The row of FnExactChoiceOf: the statement, over the pure statement and the walk. No condition of its own. -/
import Derived.Test.YtdfmobcocaijpaaRows
import Derived.Test.YtdfmobcocaijpaaQFnExactChoiceOfx8
import Derived.Test.YtdfmobcocaijpaaPureFnExactChoiceOf
import Derived.WalkKit
import Derived.ProofKit
import Derived.OpenShut
import Derived.ShutString
import Derived.ChangeOld
import Derived.Below
import Derived.SizedLaws
import Derived.Test.YtdfmobcocaijpaaVSized
import Derived.Test.YtdfmobcocaijpaaVLibO
namespace Go.Proofs.Ytdfmobcocaijpaa.fnExactChoiceOf
open Go.ChangeShapes Go.WideShapes Go.ChangeAt Go.RowKit Go.Proofs.YtdfmobcocaijpaaW.PrintWords Go.Proofs.Ytdfmobcocaijpaa.Lib Go.Proofs.Ytdfmobcocaijpaa.QFnExactChoiceOf
open Go.ChangeMaps (open_string shut_string)
set_option linter.unusedVariables false
set_option linter.unusedSimpArgs false
theorem own : ownKnob Try.prog.godebug = none := by kernel_rfl
theorem laidOut : laidOutB Try.prog = true := by kernel_rfl
set_option maxRecDepth 100000 in
theorem lifted (os : Os) (started : os.Started) (H : Type) (enc : TypeId × Value → H) :
    ReturnsInHanded {} Try.checked os 3 .any (Rows.fnExactChoiceOfSpec.pre6 enc Try.prog Try.f3 Rows.fnExactChoiceOfRow.domain false) (Rows.fnExactChoiceOfSpec.post enc Try.prog Try.f3 false true false false) := by
  refine returnsInHanded_of_change_sized (C := Try.checked) own started (by kernel_rfl) Try.func3
    (ChangeSpec.witness6 (enc := enc) (C := Try.checked) false ⟨#[], #[.agg #[.int .i64 0, .int .i64 0, .bool false, .bool false, .slice none 0 0, .slice none 0 0, .int .i64 0, .int .i64 0, .slice none 0 0, .slice none 0 0, .slice none 0 0, .int .i64 0, .int .i64 0, .int .i64 0], .int .i64 0], []⟩ 8 (by kernel_rfl) (by kernel_rfl) (by kernel_rfl) (by kernel_rfl)) ?_
  intro W base args ds gs before hval0 hW hcnd hsz0 _
  have hval : ∀ (j : Nat) t v, Try.f3.params[j]? = some t → args[j]? = some v → Value.okWide Try.prog W .any base t v := hval0
  have hW' := hW
  obtain ⟨p, q, hA0, hV, rfl, hfz, hnd⟩ := hW
  have hA : DataW.TrodAll enc Try.prog W 0 (fun _ => true) true Try.f3.params.toList args.toList ds p := hA0
  rw [Try.params3] at hA hval
  obtain ⟨v0, vs0, d0, ds0, p0, q0, hargs, rfl, rfl, h0, r0⟩ := trodAll_cons hA
  obtain ⟨v1, vs1, d1, ds1, p1, q1, rfl, rfl, rfl, h1, r1⟩ := trodAll_cons r0
  obtain ⟨rfl, rfl, rfl⟩ := trodAll_nil r1
  obtain rfl : args = #[v0, v1] := by cases args; simp_all
  obtain ⟨rfl, rfl⟩ := trodVars_none hV
  obtain ⟨cs0, rfl, hz0⟩ := okWide_struct Try.underlying27 (hval 0 27 v0 rfl rfl)
  have k0 := h0
  have lt0 : ∀ x ∈ p0, x.block < W.heap.size := by obtain ⟨m, hm⟩ := k0; exact DataW.trod_lt m _ _ _ hm
  obtain ⟨fuel0, hf0⟩ := h0
  obtain ⟨⟨⟨a0_0_0, ⟨a0_0_1, ⟨a0_0_2, ⟨a0_0_3, ⟨a0_0_4, ⟨a0_0_5, ⟨a0_0_6, a0_0_7⟩⟩⟩⟩⟩⟩⟩, ⟨a0_1, ⟨a0_2, ⟨a0_3, ⟨a0_4, ⟨a0_5, a0_6⟩⟩⟩⟩⟩⟩, K0, O0⟩ := ((opens_struct Try.underlying27 (by kernel_rfl) (opensF_cons rfl (by kernel_rfl) (opens_struct Try.underlying24 (by kernel_rfl) (opensF_cons rfl (by kernel_rfl) (opens_int Try.underlying3) (opensF_cons rfl (by kernel_rfl) (opens_int Try.underlying3) (opensF_cons rfl (by kernel_rfl) (opens_bool Try.underlying4) (opensF_cons rfl (by kernel_rfl) (opens_bool Try.underlying4) (opensF_cons rfl (by kernel_rfl) (opens_slice Try.underlying22 (by kernel_rfl) (opens_int Try.underlying3)) (opensF_cons rfl (by kernel_rfl) (opens_slice Try.underlying22 (by kernel_rfl) (opens_int Try.underlying3)) (opensF_cons rfl (by kernel_rfl) (opens_int Try.underlying3) (opensF_last rfl (by kernel_rfl) (opens_int Try.underlying3)))))))))) (opensF_cons rfl (by kernel_rfl) (opens_slice Try.underlying25 (by kernel_rfl) (opens_slice Try.underlying22 (by kernel_rfl) (opens_int Try.underlying3))) (opensF_cons rfl (by kernel_rfl) (opens_slice Try.underlying22 (by kernel_rfl) (opens_int Try.underlying3)) (opensF_cons rfl (by kernel_rfl) (opens_slice Try.underlying22 (by kernel_rfl) (opens_int Try.underlying3)) (opensF_cons rfl (by kernel_rfl) (opens_int Try.underlying3) (opensF_cons rfl (by kernel_rfl) (opens_int Try.underlying3) (opensF_last rfl (by kernel_rfl) (opens_int Try.underlying3))))))))) : Opens Try.prog 27 (Kd.pair (Kd.pair (Kd.int .i64) (Kd.pair (Kd.int .i64) (Kd.pair Kd.bool (Kd.pair Kd.bool (Kd.pair (Kd.slice 3 (Kd.int .i64)) (Kd.pair (Kd.slice 3 (Kd.int .i64)) (Kd.pair (Kd.int .i64) (Kd.int .i64)))))))) (Kd.pair (Kd.slice 22 (Kd.slice 3 (Kd.int .i64))) (Kd.pair (Kd.slice 3 (Kd.int .i64)) (Kd.pair (Kd.slice 3 (Kd.int .i64)) (Kd.pair (Kd.int .i64) (Kd.pair (Kd.int .i64) (Kd.int .i64))))))) _) hf0
  obtain ⟨_, _, E0, ⟨_, _, rfl, rfl, ⟨_, _, rfl, rfl, ⟨_, _, rfl, rfl, ⟨_, _, rfl, rfl, ⟨_, _, rfl, ⟨Aa0_0_4, ca0_0_4, rfl, la0_0_4, Ca0_0_4⟩, ⟨_, _, rfl, ⟨Aa0_0_5, ca0_0_5, rfl, la0_0_5, Ca0_0_5⟩, ⟨_, _, rfl, rfl, rfl⟩⟩⟩⟩⟩⟩⟩, ⟨_, _, rfl, ⟨Aa0_1, ca0_1, rfl, la0_1, Ca0_1⟩, ⟨_, _, rfl, ⟨Aa0_2, ca0_2, rfl, la0_2, Ca0_2⟩, ⟨_, _, rfl, ⟨Aa0_3, ca0_3, rfl, la0_3, Ca0_3⟩, ⟨_, _, rfl, rfl, ⟨_, _, rfl, rfl, rfl⟩⟩⟩⟩⟩⟩ := K0
  obtain ⟨⟨oa0_0_0, ⟨oa0_0_1, ⟨-, ⟨-, ⟨⟨ma0_0_4, oa0_0_4⟩, ⟨⟨ma0_0_5, oa0_0_5⟩, ⟨oa0_0_6, oa0_0_7⟩⟩⟩⟩⟩⟩⟩, ⟨⟨ma0_1, oa0_1⟩, ⟨⟨ma0_2, oa0_2⟩, ⟨⟨ma0_3, oa0_3⟩, ⟨oa0_4, ⟨oa0_5, oa0_6⟩⟩⟩⟩⟩⟩ := O0
  obtain rfl : cs0 = #[.int .i64 a0_0_0, .int .i64 a0_0_1, .bool a0_0_2, .bool a0_0_3, .slice Aa0_0_4 a0_0_4.length ca0_0_4, .slice Aa0_0_5 a0_0_5.length ca0_0_5, .int .i64 a0_0_6, .int .i64 a0_0_7, .slice Aa0_1 a0_1.length ca0_1, .slice Aa0_2 a0_2.length ca0_2, .slice Aa0_3 a0_3.length ca0_3, .int .i64 a0_4, .int .i64 a0_5, .int .i64 a0_6] := Array.ext' (E0.trans rfl)
  obtain ⟨a1, rfl, rfl, rfl, oa1⟩ := open_int Try.underlying3 (hval 1 3 v1 rfl rfl) h1
  clear hA0 hval0 hsz0
  obtain ⟨k, hp⟩ := Pure.FnExactChoiceOf a0_0_0 a0_0_1 a0_0_2 a0_0_3 a0_0_4 a0_0_5 a0_0_6 a0_0_7 a0_1 a0_2 a0_3 a0_4 a0_5 a0_6 a1 oa0_0_0 oa0_0_1 ma0_0_4 oa0_0_4 ma0_0_5 oa0_0_5 oa0_0_6 oa0_0_7 ma0_1 oa0_1 ma0_2 oa0_2 ma0_3 oa0_3 oa0_4 oa0_5 oa0_6 oa1
  refine (laws_FnExactChoiceOf.calls k _ _ _ _ _ _ _ _ _ _ _ _ _ _ _ _ _ _ _ _ _ _ _ _ _ true W (by assumption) (by assumption) (by assumption) (by assumption) (by assumption) (by assumption) (by assumption) (by assumption) (by assumption) (by assumption) hp rfl).mono fun e W' ⟨he, bel0⟩ => ?_
  have bel : Below W.heap.size W W' := (by first | exact bel0 | exact bel0.below)
  subst he
  exact ⟨_, rfl, _, _, _, [], _, [], hW', trodAll_mk1 (shut_bool Try.underlying4 _), (trodAll_cons_mk (Below.trod laidOut (by kernel_rfl) (of_decide_eq_true (by kernel_rfl)) k0 bel lt0) (trodAll_cons_mk (shut_int Try.underlying3 oa1) trodAll_mk0)), rfl, bel.frame _, fun h => by cases h⟩
theorem over : Rows.fnExactChoiceOfRow.holds Try.pinned (OpenSpec.ofChange Rows.fnExactChoiceOfSpec) :=
  OpenClaim.holds_of_wide 3 Try.f3 rfl rfl rfl rfl rfl rfl rfl ⟨rfl, rfl, rfl, rfl, rfl⟩ rfl rfl rfl rfl rfl (by kernel_rfl) Try.func3 (by kernel_rfl)
    (of_decide_eq_true (by kernel_rfl)) (by unfold Func.isWrapper; first | (rw [if_pos (by decide +kernel)]; kernel_rfl) | (rw [if_neg (by decide +kernel)]; exact ⟨rfl, rfl⟩))
    (fun os started H enc _ => lifted os started H enc)
theorem proved : Rows.FnExactChoiceOfSaid := over
#print axioms proved
end Go.Proofs.Ytdfmobcocaijpaa.fnExactChoiceOf
namespace Go.Proofs.Ytdfmobcocaijpaa
/-- The row, under a short name, for the claim. -/
theorem fnExactChoiceOf_holds : Rows.FnExactChoiceOfSaid := fnExactChoiceOf.proved
end Go.Proofs.Ytdfmobcocaijpaa
