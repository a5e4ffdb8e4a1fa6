/- The row of FnExactNewPatience: the statement, over the pure statement and the walk. No condition of its own. -/
import Derived.Test.YtdakhelapeojgaaRows
import Derived.Test.YtdakhelapeojgaaQFnExactNewPatiencex3
import Derived.Test.YtdakhelapeojgaaPureFnExactNewPatience
import Derived.WalkKit
import Derived.ProofKit
import Derived.OpenShut
import Derived.ShutString
import Derived.ChangeOld
import Derived.Below
import Derived.SizedLaws
import Derived.Test.YtdakhelapeojgaaWSized
import Derived.Test.YtdakhelapeojgaaLibO
namespace Go.Proofs.Ytdakhelapeojgaa.fnExactNewPatience
open Go.ChangeShapes Go.WideShapes Go.ChangeAt Go.RowKit Go.Proofs.YtdakhelapeojgaaW.PrintWords Go.Proofs.Ytdakhelapeojgaa.Lib Go.Proofs.Ytdakhelapeojgaa.QFnExactNewPatience
open Go.ChangeMaps (open_string shut_string)
set_option linter.unusedVariables false
set_option linter.unusedSimpArgs false
theorem own : ownKnob Try.prog.godebug = none := by kernel_rfl
theorem laidOut : laidOutB Try.prog = true := by kernel_rfl
set_option maxRecDepth 100000 in
theorem lifted (os : Os) (started : os.Started) (H : Type) (enc : TypeId × Value → H) :
    ReturnsInHanded {} Try.checked os 7 .any (Rows.fnExactNewPatienceSpec.pre6 enc Try.prog Try.f7 Rows.fnExactNewPatienceRow.domain false) (Rows.fnExactNewPatienceSpec.post enc Try.prog Try.f7 false true false false) := by
  refine returnsInHanded_of_change_sized (C := Try.checked) own started (by kernel_rfl) Try.func7
    (ChangeSpec.witness6 (enc := enc) (C := Try.checked) false ⟨#[], #[.slice none 0 0, .int .i64 0], []⟩ 8 (by kernel_rfl) (by kernel_rfl) (by kernel_rfl) (by kernel_rfl)) ?_
  intro W base args ds gs before hval0 hW hcnd hsz0 _
  have hval : ∀ (j : Nat) t v, Try.f7.params[j]? = some t → args[j]? = some v → Value.okWide Try.prog W .any base t v := hval0
  have hW' := hW
  obtain ⟨p, q, hA0, hV, rfl, hfz, hnd⟩ := hW
  have hA : DataW.TrodAll enc Try.prog W 0 (fun _ => true) true Try.f7.params.toList args.toList ds p := hA0
  rw [Try.params7] at hA hval
  obtain ⟨v0, vs0, d0, ds0, p0, q0, hargs, rfl, rfl, h0, r0⟩ := trodAll_cons hA
  obtain ⟨v1, vs1, d1, ds1, p1, q1, rfl, rfl, rfl, h1, r1⟩ := trodAll_cons r0
  obtain ⟨rfl, rfl, rfl⟩ := trodAll_nil r1
  obtain rfl : args = #[v0, v1] := by cases args; simp_all
  obtain ⟨rfl, rfl⟩ := trodVars_none hV
  obtain ⟨z0, y0, u0, rfl⟩ := okWide_slice Try.underlying22 (hval 0 22 v0 rfl rfl)
  have k0 := h0
  have lt0 : ∀ x ∈ p0, x.block < W.heap.size := by obtain ⟨m, hm⟩ := k0; exact DataW.trod_lt m _ _ _ hm
  obtain ⟨fuel0, hf0⟩ := h0
  obtain ⟨a0, ⟨Aa0, ca0, Ev0, la0, Ca0⟩, ma0, oa0⟩ := ((opens_slice Try.underlying22 (by kernel_rfl) (opens_int Try.underlying3)) : Opens Try.prog 22 (Kd.slice 3 (Kd.int .i64)) _) hf0
  injection (show [Value.slice z0 y0 u0] = [Value.slice Aa0 a0.length ca0] from Ev0) with e0_ _
  injection e0_ with f1_ f2_ f3_
  subst f1_ f2_ f3_
  obtain ⟨a1, rfl, rfl, rfl, oa1⟩ := open_int Try.underlying3 (hval 1 3 v1 rfl rfl) h1
  clear hA0 hval0 hsz0
  obtain ⟨k, hp⟩ := Pure.FnExactNewPatience a0 a1 ma0 oa0 oa1
  refine (laws_FnExactNewPatience.calls k _ _ _ _ true W (by assumption) (by assumption) hp rfl).mono fun e W' ⟨he, bel0⟩ => ?_
  have bel : Below W.heap.size W W' := (by first | exact bel0 | exact bel0.below)
  subst he
  exact ⟨_, rfl, _, _, _, [], _, [], hW', trodAll_mk1 (shut_bool Try.underlying4 _), (trodAll_cons_mk (Below.trod laidOut (by kernel_rfl) (of_decide_eq_true (by kernel_rfl)) k0 bel lt0) (trodAll_cons_mk (shut_int Try.underlying3 oa1) trodAll_mk0)), rfl, bel.frame _, fun h => by cases h⟩
theorem over : Rows.fnExactNewPatienceRow.holds Try.pinned (OpenSpec.ofChange Rows.fnExactNewPatienceSpec) :=
  OpenClaim.holds_of_wide 7 Try.f7 rfl rfl rfl rfl rfl rfl rfl ⟨rfl, rfl, rfl, rfl, rfl⟩ rfl rfl rfl rfl rfl (by kernel_rfl) Try.func7 (by kernel_rfl)
    (of_decide_eq_true (by kernel_rfl)) (by unfold Func.isWrapper; first | (rw [if_pos (by decide +kernel)]; kernel_rfl) | (rw [if_neg (by decide +kernel)]; exact ⟨rfl, rfl⟩))
    (fun os started H enc _ => lifted os started H enc)
theorem proved : Rows.FnExactNewPatienceSaid := over
#print axioms proved
end Go.Proofs.Ytdakhelapeojgaa.fnExactNewPatience
namespace Go.Proofs.Ytdakhelapeojgaa
/-- The row, under a short name, for the claim. -/
theorem fnExactNewPatience_holds : Rows.FnExactNewPatienceSaid := fnExactNewPatience.proved
end Go.Proofs.Ytdakhelapeojgaa
