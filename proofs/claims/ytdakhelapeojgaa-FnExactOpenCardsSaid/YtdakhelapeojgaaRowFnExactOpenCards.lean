/- The row of FnExactOpenCards: the statement, over the pure statement and the walk. No condition of its own. -/
import Derived.Test.YtdakhelapeojgaaRows
import Derived.Test.YtdakhelapeojgaaQFnExactOpenCardsx2
import Derived.Test.YtdakhelapeojgaaPureFnExactOpenCards
import Derived.WalkKit
import Derived.ProofKit
import Derived.OpenShut
import Derived.ShutString
import Derived.ChangeOld
import Derived.Below
import Derived.SizedLaws
import Derived.Test.YtdakhelapeojgaaWSized
import Derived.Test.YtdakhelapeojgaaLibO
namespace Go.Proofs.Ytdakhelapeojgaa.fnExactOpenCards
open Go.ChangeShapes Go.WideShapes Go.ChangeAt Go.RowKit Go.Proofs.YtdakhelapeojgaaW.PrintWords Go.Proofs.Ytdakhelapeojgaa.Lib Go.Proofs.Ytdakhelapeojgaa.QFnExactOpenCards
open Go.ChangeMaps (open_string shut_string)
set_option linter.unusedVariables false
set_option linter.unusedSimpArgs false
theorem own : ownKnob Try.prog.godebug = none := by kernel_rfl
theorem laidOut : laidOutB Try.prog = true := by kernel_rfl
set_option maxRecDepth 100000 in
theorem lifted (os : Os) (started : os.Started) (H : Type) (enc : TypeId × Value → H) :
    ReturnsInHanded {} Try.checked os 3 .any (Rows.fnExactOpenCardsSpec.pre6 enc Try.prog Try.f3 Rows.fnExactOpenCardsRow.domain false) (Rows.fnExactOpenCardsSpec.post enc Try.prog Try.f3 false true false false) := by
  refine returnsInHanded_of_change_sized (C := Try.checked) own started (by kernel_rfl) Try.func3
    (ChangeSpec.witness6 (enc := enc) (C := Try.checked) false ⟨#[], #[.agg #[.slice none 0 0, .int .i64 0]], []⟩ 8 (by kernel_rfl) (by kernel_rfl) (by kernel_rfl) (by kernel_rfl)) ?_
  intro W base args ds gs before hval0 hW hcnd hsz0 _
  have hval : ∀ (j : Nat) t v, Try.f3.params[j]? = some t → args[j]? = some v → Value.okWide Try.prog W .any base t v := hval0
  have hW' := hW
  obtain ⟨p, q, hA0, hV, rfl, hfz, hnd⟩ := hW
  have hA : DataW.TrodAll enc Try.prog W 0 (fun _ => true) true Try.f3.params.toList args.toList ds p := hA0
  rw [Try.params3] at hA hval
  obtain ⟨v0, vs0, d0, ds0, p0, q0, hargs, rfl, rfl, h0, r0⟩ := trodAll_cons hA
  obtain ⟨rfl, rfl, rfl⟩ := trodAll_nil r0
  obtain rfl : args = #[v0] := by cases args; simp_all
  obtain ⟨rfl, rfl⟩ := trodVars_none hV
  obtain ⟨cs0, rfl, hz0⟩ := okWide_struct Try.underlying24 (hval 0 24 v0 rfl rfl)
  have k0 := h0
  have lt0 : ∀ x ∈ p0, x.block < W.heap.size := by obtain ⟨m, hm⟩ := k0; exact DataW.trod_lt m _ _ _ hm
  obtain ⟨fuel0, hf0⟩ := h0
  obtain ⟨⟨a0_0, a0_1⟩, K0, O0⟩ := ((opens_struct Try.underlying24 (by kernel_rfl) (opensF_cons rfl (by kernel_rfl) (opens_slice Try.underlying22 (by kernel_rfl) (opens_int Try.underlying3)) (opensF_last rfl (by kernel_rfl) (opens_int Try.underlying3)))) : Opens Try.prog 24 (Kd.pair (Kd.slice 3 (Kd.int .i64)) (Kd.int .i64)) _) hf0
  obtain ⟨_, _, E0, ⟨Aa0_0, ca0_0, rfl, la0_0, Ca0_0⟩, rfl⟩ := K0
  obtain ⟨⟨ma0_0, oa0_0⟩, oa0_1⟩ := O0
  obtain rfl : cs0 = #[.slice Aa0_0 a0_0.length ca0_0, .int .i64 a0_1] := Array.ext' (E0.trans rfl)
  clear hA0 hval0 hsz0
  obtain ⟨k, hp⟩ := Pure.FnExactOpenCards a0_0 a0_1 ma0_0 oa0_0 oa0_1
  refine (laws_FnExactOpenCards.calls k _ _ _ _ true W (by assumption) (by assumption) hp).mono fun e W' ⟨he, bel0⟩ => ?_
  have bel : Below W.heap.size W W' := (by first | exact bel0 | exact bel0.below)
  subst he
  exact ⟨_, rfl, _, _, _, [], _, [], hW', trodAll_mk1 (shut_bool Try.underlying4 _), (trodAll_cons_mk (Below.trod laidOut (by kernel_rfl) (of_decide_eq_true (by kernel_rfl)) k0 bel lt0) trodAll_mk0), rfl, bel.frame _, fun h => by cases h⟩
theorem over : Rows.fnExactOpenCardsRow.holds Try.pinned (OpenSpec.ofChange Rows.fnExactOpenCardsSpec) :=
  OpenClaim.holds_of_wide 3 Try.f3 rfl rfl rfl rfl rfl rfl rfl ⟨rfl, rfl, rfl, rfl, rfl⟩ rfl rfl rfl rfl rfl (by kernel_rfl) Try.func3 (by kernel_rfl)
    (of_decide_eq_true (by kernel_rfl)) (by unfold Func.isWrapper; first | (rw [if_pos (by decide +kernel)]; kernel_rfl) | (rw [if_neg (by decide +kernel)]; exact ⟨rfl, rfl⟩))
    (fun os started H enc _ => lifted os started H enc)
theorem proved : Rows.FnExactOpenCardsSaid := over
#print axioms proved
end Go.Proofs.Ytdakhelapeojgaa.fnExactOpenCards
namespace Go.Proofs.Ytdakhelapeojgaa
/-- The row, under a short name, for the claim. -/
theorem fnExactOpenCards_holds : Rows.FnExactOpenCardsSaid := fnExactOpenCards.proved
end Go.Proofs.Ytdakhelapeojgaa
