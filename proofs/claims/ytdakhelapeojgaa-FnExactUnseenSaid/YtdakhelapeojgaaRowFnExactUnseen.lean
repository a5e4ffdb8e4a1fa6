/- The row of FnExactUnseen: the statement, over the pure statement and the walk. No condition of its own. -/
import Derived.Test.YtdakhelapeojgaaRows
import Derived.Test.YtdakhelapeojgaaQFnExactUnseenx2
import Derived.Test.YtdakhelapeojgaaPureFnExactUnseen
import Derived.WalkKit
import Derived.ProofKit
import Derived.OpenShut
import Derived.ShutString
import Derived.ChangeOld
import Derived.Below
import Derived.SizedLaws
import Derived.Test.YtdakhelapeojgaaWSized
import Derived.Test.YtdakhelapeojgaaLibO
namespace Go.Proofs.Ytdakhelapeojgaa.fnExactUnseen
open Go.ChangeShapes Go.WideShapes Go.ChangeAt Go.RowKit Go.Proofs.YtdakhelapeojgaaW.PrintWords Go.Proofs.Ytdakhelapeojgaa.Lib Go.Proofs.Ytdakhelapeojgaa.QFnExactUnseen
open Go.ChangeMaps (open_string shut_string)
set_option linter.unusedVariables false
set_option linter.unusedSimpArgs false
theorem own : ownKnob Try.prog.godebug = none := by kernel_rfl
theorem laidOut : laidOutB Try.prog = true := by kernel_rfl
set_option maxRecDepth 100000 in
theorem lifted (os : Os) (started : os.Started) (H : Type) (enc : TypeId × Value → H) :
    ReturnsInHanded {} Try.checked os 4 .any (Rows.fnExactUnseenSpec.pre6 enc Try.prog Try.f4 Rows.fnExactUnseenRow.domain false) (Rows.fnExactUnseenSpec.post enc Try.prog Try.f4 false true false false) := by
  refine returnsInHanded_of_change_sized (C := Try.checked) own started (by kernel_rfl) Try.func4
    (ChangeSpec.witness6 (enc := enc) (C := Try.checked) false ⟨#[], #[.agg #[.int .i64 0, .slice none 0 0, .slice none 0 0, .int .i64 0, .int .i64 0, .slice none 0 0, .slice none 0 0], .slice none 0 0], []⟩ 8 (by kernel_rfl) (by kernel_rfl) (by kernel_rfl) (by kernel_rfl)) ?_
  intro W base args ds gs before hval0 hW hcnd hsz0 _
  have hval : ∀ (j : Nat) t v, Try.f4.params[j]? = some t → args[j]? = some v → Value.okWide Try.prog W .any base t v := hval0
  have hW' := hW
  obtain ⟨p, q, hA0, hV, rfl, hfz, hnd⟩ := hW
  have hA : DataW.TrodAll enc Try.prog W 0 (fun _ => true) true Try.f4.params.toList args.toList ds p := hA0
  rw [Try.params4] at hA hval
  obtain ⟨v0, vs0, d0, ds0, p0, q0, hargs, rfl, rfl, h0, r0⟩ := trodAll_cons hA
  obtain ⟨v1, vs1, d1, ds1, p1, q1, rfl, rfl, rfl, h1, r1⟩ := trodAll_cons r0
  obtain ⟨rfl, rfl, rfl⟩ := trodAll_nil r1
  obtain rfl : args = #[v0, v1] := by cases args; simp_all
  obtain ⟨rfl, rfl⟩ := trodVars_none hV
  obtain ⟨cs0, rfl, hz0⟩ := okWide_struct Try.underlying32 (hval 0 32 v0 rfl rfl)
  have k0 := h0
  have lt0 : ∀ x ∈ p0, x.block < W.heap.size := by obtain ⟨m, hm⟩ := k0; exact DataW.trod_lt m _ _ _ hm
  obtain ⟨fuel0, hf0⟩ := h0
  obtain ⟨⟨a0_0, ⟨a0_1, ⟨a0_2, ⟨a0_3, ⟨a0_4, ⟨a0_5, a0_6⟩⟩⟩⟩⟩⟩, K0, O0⟩ := ((opens_struct Try.underlying32 (by kernel_rfl) (opensF_cons rfl (by kernel_rfl) (opens_int Try.underlying3) (opensF_cons rfl (by kernel_rfl) (opens_slice Try.underlying22 (by kernel_rfl) (opens_int Try.underlying3)) (opensF_cons rfl (by kernel_rfl) (opens_slice Try.underlying22 (by kernel_rfl) (opens_int Try.underlying3)) (opensF_cons rfl (by kernel_rfl) (opens_int Try.underlying3) (opensF_cons rfl (by kernel_rfl) (opens_int Try.underlying3) (opensF_cons rfl (by kernel_rfl) (opens_slice Try.underlying22 (by kernel_rfl) (opens_int Try.underlying3)) (opensF_last rfl (by kernel_rfl) (opens_slice Try.underlying22 (by kernel_rfl) (opens_int Try.underlying3)))))))))) : Opens Try.prog 32 (Kd.pair (Kd.int .i64) (Kd.pair (Kd.slice 3 (Kd.int .i64)) (Kd.pair (Kd.slice 3 (Kd.int .i64)) (Kd.pair (Kd.int .i64) (Kd.pair (Kd.int .i64) (Kd.pair (Kd.slice 3 (Kd.int .i64)) (Kd.slice 3 (Kd.int .i64)))))))) _) hf0
  obtain ⟨_, _, E0, rfl, ⟨_, _, rfl, ⟨Aa0_1, ca0_1, rfl, la0_1, Ca0_1⟩, ⟨_, _, rfl, ⟨Aa0_2, ca0_2, rfl, la0_2, Ca0_2⟩, ⟨_, _, rfl, rfl, ⟨_, _, rfl, rfl, ⟨_, _, rfl, ⟨Aa0_5, ca0_5, rfl, la0_5, Ca0_5⟩, ⟨Aa0_6, ca0_6, rfl, la0_6, Ca0_6⟩⟩⟩⟩⟩⟩⟩ := K0
  obtain ⟨oa0_0, ⟨⟨ma0_1, oa0_1⟩, ⟨⟨ma0_2, oa0_2⟩, ⟨oa0_3, ⟨oa0_4, ⟨⟨ma0_5, oa0_5⟩, ⟨ma0_6, oa0_6⟩⟩⟩⟩⟩⟩⟩ := O0
  obtain rfl : cs0 = #[.int .i64 a0_0, .slice Aa0_1 a0_1.length ca0_1, .slice Aa0_2 a0_2.length ca0_2, .int .i64 a0_3, .int .i64 a0_4, .slice Aa0_5 a0_5.length ca0_5, .slice Aa0_6 a0_6.length ca0_6] := Array.ext' (E0.trans rfl)
  obtain ⟨z1, y1, u1, rfl⟩ := okWide_slice Try.underlying22 (hval 1 22 v1 rfl rfl)
  have k1 := h1
  have lt1 : ∀ x ∈ p1, x.block < W.heap.size := by obtain ⟨m, hm⟩ := k1; exact DataW.trod_lt m _ _ _ hm
  obtain ⟨fuel1, hf1⟩ := h1
  obtain ⟨a1, ⟨Aa1, ca1, Ev1, la1, Ca1⟩, ma1, oa1⟩ := ((opens_slice Try.underlying22 (by kernel_rfl) (opens_int Try.underlying3)) : Opens Try.prog 22 (Kd.slice 3 (Kd.int .i64)) _) hf1
  injection (show [Value.slice z1 y1 u1] = [Value.slice Aa1 a1.length ca1] from Ev1) with e1_ _
  injection e1_ with f1_ f2_ f3_
  subst f1_ f2_ f3_
  clear hA0 hval0 hsz0
  obtain ⟨k, hp⟩ := Pure.FnExactUnseen a0_0 a0_1 a0_2 a0_3 a0_4 a0_5 a0_6 a1 oa0_0 ma0_1 oa0_1 ma0_2 oa0_2 oa0_3 oa0_4 ma0_5 oa0_5 ma0_6 oa0_6 ma1 oa1
  refine (laws_FnExactUnseen.calls k _ _ _ _ _ _ _ _ _ _ _ _ _ _ _ _ _ _ true W (by assumption) (by assumption) (by assumption) (by assumption) (by assumption) (by assumption) (by assumption) (by assumption) (by assumption) (by assumption) hp rfl).mono fun e W' ⟨he, bel0⟩ => ?_
  have bel : Below W.heap.size W W' := (by first | exact bel0 | exact bel0.below)
  subst he
  exact ⟨_, rfl, _, _, _, [], _, [], hW', trodAll_mk1 (shut_bool Try.underlying4 _), (trodAll_cons_mk (Below.trod laidOut (by kernel_rfl) (of_decide_eq_true (by kernel_rfl)) k0 bel lt0) (trodAll_cons_mk (Below.trod laidOut (by kernel_rfl) (of_decide_eq_true (by kernel_rfl)) k1 bel lt1) trodAll_mk0)), rfl, bel.frame _, fun h => by cases h⟩
theorem over : Rows.fnExactUnseenRow.holds Try.pinned (OpenSpec.ofChange Rows.fnExactUnseenSpec) :=
  OpenClaim.holds_of_wide 4 Try.f4 rfl rfl rfl rfl rfl rfl rfl ⟨rfl, rfl, rfl, rfl, rfl⟩ rfl rfl rfl rfl rfl (by kernel_rfl) Try.func4 (by kernel_rfl)
    (of_decide_eq_true (by kernel_rfl)) (by unfold Func.isWrapper; first | (rw [if_pos (by decide +kernel)]; kernel_rfl) | (rw [if_neg (by decide +kernel)]; exact ⟨rfl, rfl⟩))
    (fun os started H enc _ => lifted os started H enc)
theorem proved : Rows.FnExactUnseenSaid := over
#print axioms proved
end Go.Proofs.Ytdakhelapeojgaa.fnExactUnseen
namespace Go.Proofs.Ytdakhelapeojgaa
/-- The row, under a short name, for the claim. -/
theorem fnExactUnseen_holds : Rows.FnExactUnseenSaid := fnExactUnseen.proved
end Go.Proofs.Ytdakhelapeojgaa
