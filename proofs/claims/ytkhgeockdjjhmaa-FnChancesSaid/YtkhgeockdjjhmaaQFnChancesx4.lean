/- What a call of each Go function that FnChances reaches comes to, as a Lean function: texts of the kit's print, turned by wip/remake.py. No condition beyond what each names. -/
import Derived.Test.YtkhgeockdjjhmaaQFnChancesx3
namespace Go.Proofs.Ytkhgeockdjjhmaa.QFnChances
open Go.RowKit Go.Proofs.YtkhgeockdjjhmaaW.PrintWords Go.Proofs.YtkhgeockdjjhmaaW.PrintLast Go.Proofs.YtkhgeockdjjhmaaW.PrintMore
attribute [local go_sem] max2_int min2_int max_two min_two max_three min_three max_four min_four   -- for this text's walks alone
set_option linter.unusedVariables false
set_option linter.unusedSimpArgs false

/-! ### laws_FnChances: function 5 -/
mutual
def laws_FnChances.j0 : Nat → List Int → Bool → Option (Bool)
  | 0, _, _ => none
  | k + 1, x0, x78 => if x78 = true then (some false) else ((spec_DrawWaysAtLeast.f k x0).bind fun bt412 => ((impl_WaysAtLeast.f k bt412.1 bt412.2.1 bt412.2.2.1 0).bind fun t416 => (if bt412.1 ≥ 0 then (if bt412.1 ≤ 52 then (if bt412.2.1 ≥ 0 then (if bt412.2.1 ≤ bt412.1 then (if bt412.2.2.1 ≥ 0 then (if bt412.2.2.1 ≤ 10 then ((impl_Choose.f k bt412.1 bt412.2.2.1).bind fun t417 => (laws_FnChances.j1 k x0 bt412.1 bt412.2.1 bt412.2.2.1 bt412.2.2.2 (t416 != t417))) else (laws_FnChances.j1 k x0 bt412.1 bt412.2.1 bt412.2.2.1 bt412.2.2.2 false)) else (laws_FnChances.j1 k x0 bt412.1 bt412.2.1 bt412.2.2.1 bt412.2.2.2 false)) else (laws_FnChances.j1 k x0 bt412.1 bt412.2.1 bt412.2.2.1 bt412.2.2.2 false)) else (laws_FnChances.j1 k x0 bt412.1 bt412.2.1 bt412.2.2.1 bt412.2.2.2 false)) else (laws_FnChances.j1 k x0 bt412.1 bt412.2.1 bt412.2.2.1 bt412.2.2.2 false)) else (laws_FnChances.j1 k x0 bt412.1 bt412.2.1 bt412.2.2.1 bt412.2.2.2 false))))
def laws_FnChances.j1 : Nat → List Int → Int → Int → Int → Int → Bool → Option (Bool)
  | 0, _, _, _, _, _, _ => none
  | k + 1, x0, x5, x6, x7, x8, x119 => if x119 = true then (some false) else ((impl_PerThousand.f k x5 x6 x7 x8).bind fun t418 => ((spec_DrawOutsFor.f k x0).bind fun bt419 => ((impl_OutsFor.f k bt419.1 bt419.2).bind fun t425 => (if t418 ≥ 0 then (if t418 ≤ 1000 then ((impl_WaysWith.f k x5 x6 x7 x8).bind fun t426 => ((impl_WaysAtLeast.f k x5 x6 x7 x8).bind fun t427 => (if t426 ≤ t427 then (if t425 ≥ 0 then ((impl_Missing.f k bt419.2).bind fun t428 => ((impl_Missing.f k t428).bind fun t431 => ((impl_CountMatches.f k bt419.1 t431).bind fun t434 => ((impl_MatchSet.f k bt419.1).bind fun t435 => (some ((wrap64 (t425 + t434)) == (t435.length : Int))))))) else (some false)) else (some false)))) else (some false)) else (some false)))))
end
def laws_FnChances.f (k : Nat) (l0 : List Int) : Option (Bool) := (laws_big.f l0).bind fun t399 => (if t399 = true then (some true) else ((spec_DrawChoose.f k l0).bind fun bt400 => ((impl_Choose.f k bt400.1 bt400.2).bind fun t402 => ((spec_Choose.f k bt400.1 bt400.2).bind fun t403 => (if t402 = t403 then (if bt400.2 ≥ 0 then (if bt400.2 ≤ bt400.1 then ((impl_Choose.f k bt400.1 bt400.2).bind fun t404 => ((impl_Choose.f k bt400.1 (wrap64 (bt400.1 - bt400.2))).bind fun t405 => (if t404 = t405 then (if bt400.1 ≥ 1 then (if bt400.1 ≤ 52 then (if bt400.2 ≥ 1 then ((impl_Choose.f k bt400.1 bt400.2).bind fun t406 => ((impl_Choose.f k (wrap64 (bt400.1 - 1)) bt400.2).bind fun t407 => ((impl_Choose.f k (wrap64 (bt400.1 - 1)) (wrap64 (bt400.2 - 1))).bind fun t408 => (laws_FnChances.j0 k l0 (t406 != (wrap64 (t407 + t408))))))) else (laws_FnChances.j0 k l0 false)) else (laws_FnChances.j0 k l0 false)) else (laws_FnChances.j0 k l0 false)) else (laws_FnChances.j0 k l0 true)))) else (if bt400.1 ≥ 1 then (if bt400.1 ≤ 52 then (if bt400.2 ≥ 1 then (laws_FnChances.j0 k l0 false) else (laws_FnChances.j0 k l0 false)) else (laws_FnChances.j0 k l0 false)) else (laws_FnChances.j0 k l0 false))) else (if bt400.1 ≥ 1 then (if bt400.1 ≤ 52 then (if bt400.2 ≥ 1 then (if bt400.2 ≤ bt400.1 then ((impl_Choose.f k bt400.1 bt400.2).bind fun t409 => ((impl_Choose.f k (wrap64 (bt400.1 - 1)) bt400.2).bind fun t410 => ((impl_Choose.f k (wrap64 (bt400.1 - 1)) (wrap64 (bt400.2 - 1))).bind fun t411 => (laws_FnChances.j0 k l0 (t409 != (wrap64 (t410 + t411))))))) else (laws_FnChances.j0 k l0 false)) else (laws_FnChances.j0 k l0 false)) else (laws_FnChances.j0 k l0 false)) else (laws_FnChances.j0 k l0 false))) else (some false))))))
theorem laws_FnChances.mono_l : ∀ k, (∀ y0 y1, LeO (laws_FnChances.j0 k y0 y1) (laws_FnChances.j0 (k + 1) y0 y1)) ∧ (∀ y0 y1 y2 y3 y4 y5, LeO (laws_FnChances.j1 k y0 y1 y2 y3 y4 y5) (laws_FnChances.j1 (k + 1) y0 y1 y2 y3 y4 y5))
  | 0 => ⟨fun _ _ r h => by simp [laws_FnChances.j0] at h, fun _ _ _ _ _ _ r h => by simp [laws_FnChances.j1] at h⟩
  | k + 1 => by
    obtain ⟨ih0, ih1⟩ := laws_FnChances.mono_l k
    refine ⟨?_, ?_⟩
    · intro y0 y1
      unfold laws_FnChances.j0
      repeat' first
      | (with_reducible exact ih0 _ _)
      | (with_reducible exact ih1 _ _ _ _ _ _)
      | (with_reducible exact impl_Choose.mono _ _ _)
      | (with_reducible exact impl_CountMatches.mono _ _ _)
      | (with_reducible exact impl_MatchSet.mono _ _)
      | (with_reducible exact impl_Missing.mono _ _)
      | (with_reducible exact impl_OutsFor.mono _ _ _)
      | (with_reducible exact impl_PerThousand.mono _ _ _ _ _)
      | (with_reducible exact impl_WaysAtLeast.mono _ _ _ _ _)
      | (with_reducible exact impl_WaysWith.mono _ _ _ _ _)
      | (with_reducible exact spec_Choose.mono _ _ _)
      | (with_reducible exact spec_DrawChoose.mono _ _)
      | (with_reducible exact spec_DrawOutsFor.mono _ _)
      | (with_reducible exact spec_DrawWaysAtLeast.mono _ _)
      | (with_reducible exact LeO.refl _)
      | (with_reducible exact LeO.none _)
      | (with_reducible refine LeO.ite ?_ ?_)
      | (with_reducible refine LeO.bind ?_ (fun _ => ?_))
      | exact ih0 _ _
      | exact ih1 _ _ _ _ _ _
      | exact impl_Choose.mono _ _ _
      | exact impl_CountMatches.mono _ _ _
      | exact impl_MatchSet.mono _ _
      | exact impl_Missing.mono _ _
      | exact impl_OutsFor.mono _ _ _
      | exact impl_PerThousand.mono _ _ _ _ _
      | exact impl_WaysAtLeast.mono _ _ _ _ _
      | exact impl_WaysWith.mono _ _ _ _ _
      | exact spec_Choose.mono _ _ _
      | exact spec_DrawChoose.mono _ _
      | exact spec_DrawOutsFor.mono _ _
      | exact spec_DrawWaysAtLeast.mono _ _
      | exact LeO.none _
      | refine LeO.ite ?_ ?_
      | refine LeO.bind ?_ (fun _ => ?_)
    · intro y0 y1 y2 y3 y4 y5
      unfold laws_FnChances.j1
      repeat' first
      | (with_reducible exact ih0 _ _)
      | (with_reducible exact ih1 _ _ _ _ _ _)
      | (with_reducible exact impl_Choose.mono _ _ _)
      | (with_reducible exact impl_CountMatches.mono _ _ _)
      | (with_reducible exact impl_MatchSet.mono _ _)
      | (with_reducible exact impl_Missing.mono _ _)
      | (with_reducible exact impl_OutsFor.mono _ _ _)
      | (with_reducible exact impl_PerThousand.mono _ _ _ _ _)
      | (with_reducible exact impl_WaysAtLeast.mono _ _ _ _ _)
      | (with_reducible exact impl_WaysWith.mono _ _ _ _ _)
      | (with_reducible exact spec_Choose.mono _ _ _)
      | (with_reducible exact spec_DrawChoose.mono _ _)
      | (with_reducible exact spec_DrawOutsFor.mono _ _)
      | (with_reducible exact spec_DrawWaysAtLeast.mono _ _)
      | (with_reducible exact LeO.refl _)
      | (with_reducible exact LeO.none _)
      | (with_reducible refine LeO.ite ?_ ?_)
      | (with_reducible refine LeO.bind ?_ (fun _ => ?_))
      | exact ih0 _ _
      | exact ih1 _ _ _ _ _ _
      | exact impl_Choose.mono _ _ _
      | exact impl_CountMatches.mono _ _ _
      | exact impl_MatchSet.mono _ _
      | exact impl_Missing.mono _ _
      | exact impl_OutsFor.mono _ _ _
      | exact impl_PerThousand.mono _ _ _ _ _
      | exact impl_WaysAtLeast.mono _ _ _ _ _
      | exact impl_WaysWith.mono _ _ _ _ _
      | exact spec_Choose.mono _ _ _
      | exact spec_DrawChoose.mono _ _
      | exact spec_DrawOutsFor.mono _ _
      | exact spec_DrawWaysAtLeast.mono _ _
      | exact LeO.none _
      | refine LeO.ite ?_ ?_
      | refine LeO.bind ?_ (fun _ => ?_)
theorem laws_FnChances.mono : ∀ a0 k, LeO (laws_FnChances.f k a0) (laws_FnChances.f (k + 1) a0) := by
  intro a0 k
  obtain ⟨ih0, ih1⟩ := laws_FnChances.mono_l k
  unfold laws_FnChances.f
  repeat' first
      | (with_reducible exact ih0 _ _)
      | (with_reducible exact ih1 _ _ _ _ _ _)
      | (with_reducible exact impl_Choose.mono _ _ _)
      | (with_reducible exact impl_CountMatches.mono _ _ _)
      | (with_reducible exact impl_MatchSet.mono _ _)
      | (with_reducible exact impl_Missing.mono _ _)
      | (with_reducible exact impl_OutsFor.mono _ _ _)
      | (with_reducible exact impl_PerThousand.mono _ _ _ _ _)
      | (with_reducible exact impl_WaysAtLeast.mono _ _ _ _ _)
      | (with_reducible exact impl_WaysWith.mono _ _ _ _ _)
      | (with_reducible exact spec_Choose.mono _ _ _)
      | (with_reducible exact spec_DrawChoose.mono _ _)
      | (with_reducible exact spec_DrawOutsFor.mono _ _)
      | (with_reducible exact spec_DrawWaysAtLeast.mono _ _)
      | (with_reducible exact LeO.refl _)
      | (with_reducible exact LeO.none _)
      | (with_reducible refine LeO.ite ?_ ?_)
      | (with_reducible refine LeO.bind ?_ (fun _ => ?_))
      | exact ih0 _ _
      | exact ih1 _ _ _ _ _ _
      | exact impl_Choose.mono _ _ _
      | exact impl_CountMatches.mono _ _ _
      | exact impl_MatchSet.mono _ _
      | exact impl_Missing.mono _ _
      | exact impl_OutsFor.mono _ _ _
      | exact impl_PerThousand.mono _ _ _ _ _
      | exact impl_WaysAtLeast.mono _ _ _ _ _
      | exact impl_WaysWith.mono _ _ _ _ _
      | exact spec_Choose.mono _ _ _
      | exact spec_DrawChoose.mono _ _
      | exact spec_DrawOutsFor.mono _ _
      | exact spec_DrawWaysAtLeast.mono _ _
      | exact LeO.none _
      | refine LeO.ite ?_ ?_
      | refine LeO.bind ?_ (fun _ => ?_)
set_option maxHeartbeats 8000000 in
set_option maxRecDepth 100000 in
theorem laws_FnChances.calls (k : Nat) (A0 : Option Addr) (c0 : Nat) (l0 : List Int) (r : Bool) (w : World) (hr0 : Kd.C (Kd.int .u8) w A0 l0.length l0) (hc0 : l0.length ≤ c0) (h : laws_FnChances.f k l0 = some r) (hT : r = true) :
    Calls Try.prog 5 #[.slice A0 l0.length c0] w fun e w' => e = .returned (.bool r) ∧ Below w.heap.size w w' := by
  have HT := Aside0.mk hT
  clear hT
  have HR0 := Aside0.mk hr0
  have HC0 := Aside0.mk hc0
  clear hr0 hc0
  have HB := Aside0.mk (Below.refl w.heap.size w)
  have H : ((laws_big.f l0).bind fun t399 => (if t399 = true then (some true) else ((spec_DrawChoose.f k l0).bind fun bt400 => ((impl_Choose.f k bt400.1 bt400.2).bind fun t402 => ((spec_Choose.f k bt400.1 bt400.2).bind fun t403 => (if t402 = t403 then (if bt400.2 ≥ 0 then (if bt400.2 ≤ bt400.1 then ((impl_Choose.f k bt400.1 bt400.2).bind fun t404 => ((impl_Choose.f k bt400.1 (wrap64 (bt400.1 - bt400.2))).bind fun t405 => (if t404 = t405 then (if bt400.1 ≥ 1 then (if bt400.1 ≤ 52 then (if bt400.2 ≥ 1 then ((impl_Choose.f k bt400.1 bt400.2).bind fun t406 => ((impl_Choose.f k (wrap64 (bt400.1 - 1)) bt400.2).bind fun t407 => ((impl_Choose.f k (wrap64 (bt400.1 - 1)) (wrap64 (bt400.2 - 1))).bind fun t408 => (laws_FnChances.j0 k l0 (t406 != (wrap64 (t407 + t408))))))) else (laws_FnChances.j0 k l0 false)) else (laws_FnChances.j0 k l0 false)) else (laws_FnChances.j0 k l0 false)) else (laws_FnChances.j0 k l0 true)))) else (if bt400.1 ≥ 1 then (if bt400.1 ≤ 52 then (if bt400.2 ≥ 1 then (laws_FnChances.j0 k l0 false) else (laws_FnChances.j0 k l0 false)) else (laws_FnChances.j0 k l0 false)) else (laws_FnChances.j0 k l0 false))) else (if bt400.1 ≥ 1 then (if bt400.1 ≤ 52 then (if bt400.2 ≥ 1 then (if bt400.2 ≤ bt400.1 then ((impl_Choose.f k bt400.1 bt400.2).bind fun t409 => ((impl_Choose.f k (wrap64 (bt400.1 - 1)) bt400.2).bind fun t410 => ((impl_Choose.f k (wrap64 (bt400.1 - 1)) (wrap64 (bt400.2 - 1))).bind fun t411 => (laws_FnChances.j0 k l0 (t409 != (wrap64 (t410 + t411))))))) else (laws_FnChances.j0 k l0 false)) else (laws_FnChances.j0 k l0 false)) else (laws_FnChances.j0 k l0 false)) else (laws_FnChances.j0 k l0 false))) else (some false))))))) = some r := h
  clear h
  replace H := Option.bind_eq_some_iff.mp H
  obtain ⟨t399, A20, H⟩ := H
  replace H : (if t399 = true then (some true) else ((spec_DrawChoose.f k l0).bind fun bt400 => ((impl_Choose.f k bt400.1 bt400.2).bind fun t402 => ((spec_Choose.f k bt400.1 bt400.2).bind fun t403 => (if t402 = t403 then (if bt400.2 ≥ 0 then (if bt400.2 ≤ bt400.1 then ((impl_Choose.f k bt400.1 bt400.2).bind fun t404 => ((impl_Choose.f k bt400.1 (wrap64 (bt400.1 - bt400.2))).bind fun t405 => (if t404 = t405 then (if bt400.1 ≥ 1 then (if bt400.1 ≤ 52 then (if bt400.2 ≥ 1 then ((impl_Choose.f k bt400.1 bt400.2).bind fun t406 => ((impl_Choose.f k (wrap64 (bt400.1 - 1)) bt400.2).bind fun t407 => ((impl_Choose.f k (wrap64 (bt400.1 - 1)) (wrap64 (bt400.2 - 1))).bind fun t408 => (laws_FnChances.j0 k l0 (t406 != (wrap64 (t407 + t408))))))) else (laws_FnChances.j0 k l0 false)) else (laws_FnChances.j0 k l0 false)) else (laws_FnChances.j0 k l0 false)) else (laws_FnChances.j0 k l0 true)))) else (if bt400.1 ≥ 1 then (if bt400.1 ≤ 52 then (if bt400.2 ≥ 1 then (laws_FnChances.j0 k l0 false) else (laws_FnChances.j0 k l0 false)) else (laws_FnChances.j0 k l0 false)) else (laws_FnChances.j0 k l0 false))) else (if bt400.1 ≥ 1 then (if bt400.1 ≤ 52 then (if bt400.2 ≥ 1 then (if bt400.2 ≤ bt400.1 then ((impl_Choose.f k bt400.1 bt400.2).bind fun t409 => ((impl_Choose.f k (wrap64 (bt400.1 - 1)) bt400.2).bind fun t410 => ((impl_Choose.f k (wrap64 (bt400.1 - 1)) (wrap64 (bt400.2 - 1))).bind fun t411 => (laws_FnChances.j0 k l0 (t409 != (wrap64 (t410 + t411))))))) else (laws_FnChances.j0 k l0 false)) else (laws_FnChances.j0 k l0 false)) else (laws_FnChances.j0 k l0 false)) else (laws_FnChances.j0 k l0 false))) else (some false)))))) = some r := H
  have A2 := Aside0.mk A20
  clear A20
  by_cases c3 : t399 = true
  · subst c3
    have H1 : (some true) = some r := by rw [if_pos rfl] at H; exact H
    clear H
    have H := H1
    clear H1
    obtain rfl := Option.some.inj H
    go_enter Try.func5, Try.ntmps5
    go_wp2_with (first | ((with_reducible refine gate_callee (f := 15) rfl ?_); refine goesL_ (some 15) rfl rfl Try.func15 (by kernel_rfl) rfl #[.slice A0 l0.length c0] rfl (by (try simp only [List.map_toArray, List.map_cons, List.map_nil]); first | done | rfl | (simp only [List.length_drop, List.length_take]; rfl)) ?_; (with_reducible refine (laws_big.calls _ _ l0 true _ ?side1 ?side2 A2.out).mono ?_); (case side1 => repeat (first | exact HR0.out | (with_reducible refine Kd.C_alloc ?_ _) | (with_reducible refine Kd.C_drewN ?_ _) | (with_reducible refine Kd.C_drew ?_))); (case side2 => exact HC0.out); rintro e w' ⟨rfl, ⟨nd, rfl⟩⟩; refine ⟨_, rfl, ?_⟩))
    go_ret
    exact ⟨by first | rfl | (simp [errW_none, errW_some] <;> rfl) | (simp [*, errW_none, errW_some] <;> rfl), by repeat (first | (with_reducible first | exact HB.out | apply below_alloc | apply pw_below_drewN | apply below_drew1) | exact HB.out)⟩
  · replace c3 := Bool.eq_false_iff.mpr c3
    subst c3
    have H1 : ((spec_DrawChoose.f k l0).bind fun bt400 => ((impl_Choose.f k bt400.1 bt400.2).bind fun t402 => ((spec_Choose.f k bt400.1 bt400.2).bind fun t403 => (if t402 = t403 then (if bt400.2 ≥ 0 then (if bt400.2 ≤ bt400.1 then ((impl_Choose.f k bt400.1 bt400.2).bind fun t404 => ((impl_Choose.f k bt400.1 (wrap64 (bt400.1 - bt400.2))).bind fun t405 => (if t404 = t405 then (if bt400.1 ≥ 1 then (if bt400.1 ≤ 52 then (if bt400.2 ≥ 1 then ((impl_Choose.f k bt400.1 bt400.2).bind fun t406 => ((impl_Choose.f k (wrap64 (bt400.1 - 1)) bt400.2).bind fun t407 => ((impl_Choose.f k (wrap64 (bt400.1 - 1)) (wrap64 (bt400.2 - 1))).bind fun t408 => (laws_FnChances.j0 k l0 (t406 != (wrap64 (t407 + t408))))))) else (laws_FnChances.j0 k l0 false)) else (laws_FnChances.j0 k l0 false)) else (laws_FnChances.j0 k l0 false)) else (laws_FnChances.j0 k l0 true)))) else (if bt400.1 ≥ 1 then (if bt400.1 ≤ 52 then (if bt400.2 ≥ 1 then (laws_FnChances.j0 k l0 false) else (laws_FnChances.j0 k l0 false)) else (laws_FnChances.j0 k l0 false)) else (laws_FnChances.j0 k l0 false))) else (if bt400.1 ≥ 1 then (if bt400.1 ≤ 52 then (if bt400.2 ≥ 1 then (if bt400.2 ≤ bt400.1 then ((impl_Choose.f k bt400.1 bt400.2).bind fun t409 => ((impl_Choose.f k (wrap64 (bt400.1 - 1)) bt400.2).bind fun t410 => ((impl_Choose.f k (wrap64 (bt400.1 - 1)) (wrap64 (bt400.2 - 1))).bind fun t411 => (laws_FnChances.j0 k l0 (t409 != (wrap64 (t410 + t411))))))) else (laws_FnChances.j0 k l0 false)) else (laws_FnChances.j0 k l0 false)) else (laws_FnChances.j0 k l0 false)) else (laws_FnChances.j0 k l0 false))) else (some false))))) = some r := by rw [if_neg (show ¬ (false = true) by decide)] at H; exact H
    clear H
    have H := H1
    clear H1
    replace H := Option.bind_eq_some_iff.mp H
    obtain ⟨⟨t400, t401⟩, A40, H⟩ := H
    replace H : ((impl_Choose.f k t400 t401).bind fun t402 => ((spec_Choose.f k t400 t401).bind fun t403 => (if t402 = t403 then (if t401 ≥ 0 then (if t401 ≤ t400 then ((impl_Choose.f k t400 t401).bind fun t404 => ((impl_Choose.f k t400 (wrap64 (t400 - t401))).bind fun t405 => (if t404 = t405 then (if t400 ≥ 1 then (if t400 ≤ 52 then (if t401 ≥ 1 then ((impl_Choose.f k t400 t401).bind fun t406 => ((impl_Choose.f k (wrap64 (t400 - 1)) t401).bind fun t407 => ((impl_Choose.f k (wrap64 (t400 - 1)) (wrap64 (t401 - 1))).bind fun t408 => (laws_FnChances.j0 k l0 (t406 != (wrap64 (t407 + t408))))))) else (laws_FnChances.j0 k l0 false)) else (laws_FnChances.j0 k l0 false)) else (laws_FnChances.j0 k l0 false)) else (laws_FnChances.j0 k l0 true)))) else (if t400 ≥ 1 then (if t400 ≤ 52 then (if t401 ≥ 1 then (laws_FnChances.j0 k l0 false) else (laws_FnChances.j0 k l0 false)) else (laws_FnChances.j0 k l0 false)) else (laws_FnChances.j0 k l0 false))) else (if t400 ≥ 1 then (if t400 ≤ 52 then (if t401 ≥ 1 then (if t401 ≤ t400 then ((impl_Choose.f k t400 t401).bind fun t409 => ((impl_Choose.f k (wrap64 (t400 - 1)) t401).bind fun t410 => ((impl_Choose.f k (wrap64 (t400 - 1)) (wrap64 (t401 - 1))).bind fun t411 => (laws_FnChances.j0 k l0 (t409 != (wrap64 (t410 + t411))))))) else (laws_FnChances.j0 k l0 false)) else (laws_FnChances.j0 k l0 false)) else (laws_FnChances.j0 k l0 false)) else (laws_FnChances.j0 k l0 false))) else (some false)))) = some r := H
    have A4 := Aside0.mk A40
    clear A40
    replace H := Option.bind_eq_some_iff.mp H
    obtain ⟨t402, A50, H⟩ := H
    replace H : ((spec_Choose.f k t400 t401).bind fun t403 => (if t402 = t403 then (if t401 ≥ 0 then (if t401 ≤ t400 then ((impl_Choose.f k t400 t401).bind fun t404 => ((impl_Choose.f k t400 (wrap64 (t400 - t401))).bind fun t405 => (if t404 = t405 then (if t400 ≥ 1 then (if t400 ≤ 52 then (if t401 ≥ 1 then ((impl_Choose.f k t400 t401).bind fun t406 => ((impl_Choose.f k (wrap64 (t400 - 1)) t401).bind fun t407 => ((impl_Choose.f k (wrap64 (t400 - 1)) (wrap64 (t401 - 1))).bind fun t408 => (laws_FnChances.j0 k l0 (t406 != (wrap64 (t407 + t408))))))) else (laws_FnChances.j0 k l0 false)) else (laws_FnChances.j0 k l0 false)) else (laws_FnChances.j0 k l0 false)) else (laws_FnChances.j0 k l0 true)))) else (if t400 ≥ 1 then (if t400 ≤ 52 then (if t401 ≥ 1 then (laws_FnChances.j0 k l0 false) else (laws_FnChances.j0 k l0 false)) else (laws_FnChances.j0 k l0 false)) else (laws_FnChances.j0 k l0 false))) else (if t400 ≥ 1 then (if t400 ≤ 52 then (if t401 ≥ 1 then (if t401 ≤ t400 then ((impl_Choose.f k t400 t401).bind fun t409 => ((impl_Choose.f k (wrap64 (t400 - 1)) t401).bind fun t410 => ((impl_Choose.f k (wrap64 (t400 - 1)) (wrap64 (t401 - 1))).bind fun t411 => (laws_FnChances.j0 k l0 (t409 != (wrap64 (t410 + t411))))))) else (laws_FnChances.j0 k l0 false)) else (laws_FnChances.j0 k l0 false)) else (laws_FnChances.j0 k l0 false)) else (laws_FnChances.j0 k l0 false))) else (some false))) = some r := H
    have A5 := Aside0.mk A50
    clear A50
    replace H := Option.bind_eq_some_iff.mp H
    obtain ⟨t403, A60, H⟩ := H
    replace H : (if t402 = t403 then (if t401 ≥ 0 then (if t401 ≤ t400 then ((impl_Choose.f k t400 t401).bind fun t404 => ((impl_Choose.f k t400 (wrap64 (t400 - t401))).bind fun t405 => (if t404 = t405 then (if t400 ≥ 1 then (if t400 ≤ 52 then (if t401 ≥ 1 then ((impl_Choose.f k t400 t401).bind fun t406 => ((impl_Choose.f k (wrap64 (t400 - 1)) t401).bind fun t407 => ((impl_Choose.f k (wrap64 (t400 - 1)) (wrap64 (t401 - 1))).bind fun t408 => (laws_FnChances.j0 k l0 (t406 != (wrap64 (t407 + t408))))))) else (laws_FnChances.j0 k l0 false)) else (laws_FnChances.j0 k l0 false)) else (laws_FnChances.j0 k l0 false)) else (laws_FnChances.j0 k l0 true)))) else (if t400 ≥ 1 then (if t400 ≤ 52 then (if t401 ≥ 1 then (laws_FnChances.j0 k l0 false) else (laws_FnChances.j0 k l0 false)) else (laws_FnChances.j0 k l0 false)) else (laws_FnChances.j0 k l0 false))) else (if t400 ≥ 1 then (if t400 ≤ 52 then (if t401 ≥ 1 then (if t401 ≤ t400 then ((impl_Choose.f k t400 t401).bind fun t409 => ((impl_Choose.f k (wrap64 (t400 - 1)) t401).bind fun t410 => ((impl_Choose.f k (wrap64 (t400 - 1)) (wrap64 (t401 - 1))).bind fun t411 => (laws_FnChances.j0 k l0 (t409 != (wrap64 (t410 + t411))))))) else (laws_FnChances.j0 k l0 false)) else (laws_FnChances.j0 k l0 false)) else (laws_FnChances.j0 k l0 false)) else (laws_FnChances.j0 k l0 false))) else (some false)) = some r := H
    have A6 := Aside0.mk A60
    clear A60
    by_cases c7 : t402 = t403
    · rw [if_pos c7] at H
      have c7b0 : (t402 == t403) = true := beq_iff_eq.mpr c7
      have c7b1 : (t402 != t403) = false := bne_eq_false_iff_eq.mpr c7
      clear c7
      have HC8 := Aside0.mk H
      clear H
      go_enter Try.func5, Try.ntmps5
      go_upto_region 6 with (first | ((with_reducible refine gate_callee (f := 15) rfl ?_); refine goesL_ (some 15) rfl rfl Try.func15 (by kernel_rfl) rfl #[.slice A0 l0.length c0] rfl (by (try simp only [List.map_toArray, List.map_cons, List.map_nil]); first | done | rfl | (simp only [List.length_drop, List.length_take]; rfl)) ?_; (with_reducible refine (laws_big.calls _ _ l0 false _ ?side1 ?side2 A2.out).mono ?_); (case side1 => repeat (first | exact HR0.out | (with_reducible refine Kd.C_alloc ?_ _) | (with_reducible refine Kd.C_drewN ?_ _) | (with_reducible refine Kd.C_drew ?_))); (case side2 => exact HC0.out); rintro e w' ⟨rfl, ⟨nd, rfl⟩⟩; refine ⟨_, rfl, ?_⟩) | ((with_reducible refine gate_callee (f := 31) rfl ?_); refine goesL_ (some 18) rfl rfl Try.func31 (by kernel_rfl) rfl #[.slice A0 l0.length c0] rfl (by (try simp only [List.map_toArray, List.map_cons, List.map_nil]); first | done | rfl | (simp only [List.length_drop, List.length_take]; rfl)) ?_; (with_reducible refine (spec_DrawChoose.calls k _ _ l0 t400 t401 _ ?side1 ?side2 A4.out).mono ?_); (case side1 => repeat (first | exact HR0.out | (with_reducible refine Kd.C_alloc ?_ _) | (with_reducible refine Kd.C_drewN ?_ _) | (with_reducible refine Kd.C_drew ?_))); (case side2 => exact HC0.out); rintro e w9 ⟨rfl, hb⟩; refine ⟨_, rfl, ?_⟩; have n0_ := Aside0.mk (below_step (by repeat (first | (with_reducible first | exact HB.out | apply below_alloc | apply pw_below_drewN | apply below_drew1) | exact HB.out)) hb); clear HB; have HB := n0_; clear n0_; (try clear hb); (try clear hb2); (try clear hk); (try clear hi)) | ((with_reducible refine gate_callee (f := 32) rfl ?_); refine goesL_ (some 23) rfl rfl Try.func32 (by kernel_rfl) rfl #[.int .i64 t400, .int .i64 t401] rfl (by (try simp only [List.map_toArray, List.map_cons, List.map_nil]); first | done | rfl | (simp only [List.length_drop, List.length_take]; rfl)) ?_; (with_reducible refine (impl_Choose.calls k t400 t401 t402 _ A5.out).mono ?_); rintro e w10 ⟨rfl, hb⟩; refine ⟨_, rfl, ?_⟩; have n0_ := Aside0.mk (below_step (by repeat (first | (with_reducible first | exact HB.out | apply below_alloc | apply pw_below_drewN | apply below_drew1) | exact HB.out)) hb); clear HB; have HB := n0_; clear n0_; (try clear hb); (try clear hb2); (try clear hk); (try clear hi)) | ((with_reducible refine gate_callee (f := 33) rfl ?_); refine goesL_ (some 26) rfl rfl Try.func33 (by kernel_rfl) rfl #[.int .i64 t400, .int .i64 t401] rfl (by (try simp only [List.map_toArray, List.map_cons, List.map_nil]); first | done | rfl | (simp only [List.length_drop, List.length_take]; rfl)) ?_; (with_reducible refine (spec_Choose.calls k t400 t401 t403 _ A6.out).mono ?_); rintro e w11 ⟨rfl, hb⟩; refine ⟨_, rfl, ?_⟩; have n0_ := Aside0.mk (below_step (by repeat (first | (with_reducible first | exact HB.out | apply below_alloc | apply pw_below_drewN | apply below_drew1) | exact HB.out)) hb); clear HB; have HB := n0_; clear n0_; (try clear hb); (try clear hb2); (try clear hk); (try clear hi)))
      (try simp only [Act.put, List.setIfInBounds_toArray, List.set_cons_zero, List.set_cons_succ])
      go_cut [78] (fun v78 wc => ∃ (kq : Nat) (x78_7 : Bool), v78 = .bool x78_7 ∧ Aside0 (laws_FnChances.j0 kq l0 x78_7 = some r) ∧ Aside0 (kq ≤ k) ∧ Aside0 (Below w.heap.size w wc))
      case first =>
        have H := HC8.out
        clear HC8
        by_cases c12 : t401 ≥ 0
        · rw [if_pos c12] at H
          have c12b0 : decide (0 ≤ t401) = true := decide_eq_true c12
          clear c12
          (first | rw [c12b0] | (simp only [i64_w, i32_w]; rw [c12b0]) | skip)
          by_cases c13 : t401 ≤ t400
          · rw [if_pos c13] at H
            have c13b0 : decide (t401 ≤ t400) = true := decide_eq_true c13
            clear c13
            replace H := Option.bind_eq_some_iff.mp H
            obtain ⟨t404, A140, H⟩ := H
            replace H : ((impl_Choose.f k t400 (wrap64 (t400 - t401))).bind fun t405 => (if t404 = t405 then (if t400 ≥ 1 then (if t400 ≤ 52 then (if t401 ≥ 1 then ((impl_Choose.f k t400 t401).bind fun t406 => ((impl_Choose.f k (wrap64 (t400 - 1)) t401).bind fun t407 => ((impl_Choose.f k (wrap64 (t400 - 1)) (wrap64 (t401 - 1))).bind fun t408 => (laws_FnChances.j0 k l0 (t406 != (wrap64 (t407 + t408))))))) else (laws_FnChances.j0 k l0 false)) else (laws_FnChances.j0 k l0 false)) else (laws_FnChances.j0 k l0 false)) else (laws_FnChances.j0 k l0 true))) = some r := H
            have A14 := Aside0.mk A140
            clear A140
            replace H := Option.bind_eq_some_iff.mp H
            obtain ⟨t405, A150, H⟩ := H
            replace H : (if t404 = t405 then (if t400 ≥ 1 then (if t400 ≤ 52 then (if t401 ≥ 1 then ((impl_Choose.f k t400 t401).bind fun t406 => ((impl_Choose.f k (wrap64 (t400 - 1)) t401).bind fun t407 => ((impl_Choose.f k (wrap64 (t400 - 1)) (wrap64 (t401 - 1))).bind fun t408 => (laws_FnChances.j0 k l0 (t406 != (wrap64 (t407 + t408))))))) else (laws_FnChances.j0 k l0 false)) else (laws_FnChances.j0 k l0 false)) else (laws_FnChances.j0 k l0 false)) else (laws_FnChances.j0 k l0 true)) = some r := H
            have A15 := Aside0.mk A150
            clear A150
            by_cases c16 : t404 = t405
            · rw [if_pos c16] at H
              have c16b0 : (t404 == t405) = true := beq_iff_eq.mpr c16
              have c16b1 : (t404 != t405) = false := bne_eq_false_iff_eq.mpr c16
              clear c16
              by_cases c17 : t400 ≥ 1
              · rw [if_pos c17] at H
                have c17b0 : decide (1 ≤ t400) = true := decide_eq_true c17
                clear c17
                by_cases c18 : t400 ≤ 52
                · rw [if_pos c18] at H
                  have c18b0 : decide (t400 ≤ 52) = true := decide_eq_true c18
                  clear c18
                  by_cases c19 : t401 ≥ 1
                  · rw [if_pos c19] at H
                    have c19b0 : decide (1 ≤ t401) = true := decide_eq_true c19
                    clear c19
                    replace H := Option.bind_eq_some_iff.mp H
                    obtain ⟨t406, A200, H⟩ := H
                    replace H : ((impl_Choose.f k (wrap64 (t400 - 1)) t401).bind fun t407 => ((impl_Choose.f k (wrap64 (t400 - 1)) (wrap64 (t401 - 1))).bind fun t408 => (laws_FnChances.j0 k l0 (t406 != (wrap64 (t407 + t408)))))) = some r := H
                    have A20 := Aside0.mk A200
                    have E406_ := Aside0.mk (Option.some.inj (A14.out.symm.trans A20.out))
                    clear A200
                    replace H := Option.bind_eq_some_iff.mp H
                    obtain ⟨t407, A210, H⟩ := H
                    replace H : ((impl_Choose.f k (wrap64 (t400 - 1)) (wrap64 (t401 - 1))).bind fun t408 => (laws_FnChances.j0 k l0 (t406 != (wrap64 (t407 + t408))))) = some r := H
                    have A21 := Aside0.mk A210
                    clear A210
                    replace H := Option.bind_eq_some_iff.mp H
                    obtain ⟨t408, A220, H⟩ := H
                    replace H : (laws_FnChances.j0 k l0 (t406 != (wrap64 (t407 + t408)))) = some r := H
                    have A22 := Aside0.mk A220
                    clear A220
                    have H' := Aside0.mk H
                    clear H
                    go_wp2_with (first | (go_at_call 32; (with_reducible refine (impl_Choose.calls k t400 t401 t404 _ A14.out).mono ?_); rintro e w23 ⟨rfl, hb⟩; have n0_ := Aside0.mk (below_step (by repeat (first | (with_reducible first | exact HB.out | apply below_alloc | apply pw_below_drewN | apply below_drew1) | exact HB.out)) hb); clear HB; have HB := n0_; clear n0_; (try clear hb); (try clear hb2); (try clear hk); (try clear hi)) | (go_at_call 32; (with_reducible refine (impl_Choose.calls k t400 (wrap64 (t400 - t401)) t405 _ A15.out).mono ?_); rintro e w24 ⟨rfl, hb⟩; have n0_ := Aside0.mk (below_step (by repeat (first | (with_reducible first | exact HB.out | apply below_alloc | apply pw_below_drewN | apply below_drew1) | exact HB.out)) hb); clear HB; have HB := n0_; clear n0_; (try clear hb); (try clear hb2); (try clear hk); (try clear hi)) | (go_at_call 32; (with_reducible refine (impl_Choose.calls k t400 t401 t406 _ A20.out).mono ?_); rintro e w25 ⟨rfl, hb⟩; have n0_ := Aside0.mk (below_step (by repeat (first | (with_reducible first | exact HB.out | apply below_alloc | apply pw_below_drewN | apply below_drew1) | exact HB.out)) hb); clear HB; have HB := n0_; clear n0_; (try clear hb); (try clear hb2); (try clear hk); (try clear hi)) | (go_at_call 32; (with_reducible refine (impl_Choose.calls k (wrap64 (t400 - 1)) t401 t407 _ A21.out).mono ?_); rintro e w26 ⟨rfl, hb⟩; have n0_ := Aside0.mk (below_step (by repeat (first | (with_reducible first | exact HB.out | apply below_alloc | apply pw_below_drewN | apply below_drew1) | exact HB.out)) hb); clear HB; have HB := n0_; clear n0_; (try clear hb); (try clear hb2); (try clear hk); (try clear hi)) | (go_at_call 32; (with_reducible refine (impl_Choose.calls k (wrap64 (t400 - 1)) (wrap64 (t401 - 1)) t408 _ A22.out).mono ?_); rintro e w27 ⟨rfl, hb⟩; have n0_ := Aside0.mk (below_step (by repeat (first | (with_reducible first | exact HB.out | apply below_alloc | apply pw_below_drewN | apply below_drew1) | exact HB.out)) hb); clear HB; have HB := n0_; clear n0_; (try clear hb); (try clear hb2); (try clear hk); (try clear hi)))
                    go_meet
                    case rel => exact ⟨_, ((t406 != (wrap64 (t407 + t408)))), (by first | rfl | (rw [E406_.out]; done) | (simp; done) | (simp [*]; done)), H', ⟨by first | omega | exact Nat.le_refl _⟩, ⟨by repeat (first | (with_reducible first | exact HB.out | apply below_alloc | apply pw_below_drewN | apply below_drew1) | exact HB.out)⟩⟩
                  · rw [if_neg c19] at H
                    have c19b0 : decide (1 ≤ t401) = false := decide_eq_false c19
                    clear c19
                    have H' := Aside0.mk H
                    clear H
                    go_wp2_with (first | (go_at_call 32; (with_reducible refine (impl_Choose.calls k t400 t401 t404 _ A14.out).mono ?_); rintro e w28 ⟨rfl, hb⟩; have n0_ := Aside0.mk (below_step (by repeat (first | (with_reducible first | exact HB.out | apply below_alloc | apply pw_below_drewN | apply below_drew1) | exact HB.out)) hb); clear HB; have HB := n0_; clear n0_; (try clear hb); (try clear hb2); (try clear hk); (try clear hi)) | (go_at_call 32; (with_reducible refine (impl_Choose.calls k t400 (wrap64 (t400 - t401)) t405 _ A15.out).mono ?_); rintro e w29 ⟨rfl, hb⟩; have n0_ := Aside0.mk (below_step (by repeat (first | (with_reducible first | exact HB.out | apply below_alloc | apply pw_below_drewN | apply below_drew1) | exact HB.out)) hb); clear HB; have HB := n0_; clear n0_; (try clear hb); (try clear hb2); (try clear hk); (try clear hi)))
                    go_meet
                    case rel => exact ⟨_, (false), (by first | rfl | (simp; done) | (simp [*]; done)), H', ⟨by first | omega | exact Nat.le_refl _⟩, ⟨by repeat (first | (with_reducible first | exact HB.out | apply below_alloc | apply pw_below_drewN | apply below_drew1) | exact HB.out)⟩⟩
                · rw [if_neg c18] at H
                  have c18b0 : decide (t400 ≤ 52) = false := decide_eq_false c18
                  clear c18
                  have H' := Aside0.mk H
                  clear H
                  go_wp2_with (first | (go_at_call 32; (with_reducible refine (impl_Choose.calls k t400 t401 t404 _ A14.out).mono ?_); rintro e w30 ⟨rfl, hb⟩; have n0_ := Aside0.mk (below_step (by repeat (first | (with_reducible first | exact HB.out | apply below_alloc | apply pw_below_drewN | apply below_drew1) | exact HB.out)) hb); clear HB; have HB := n0_; clear n0_; (try clear hb); (try clear hb2); (try clear hk); (try clear hi)) | (go_at_call 32; (with_reducible refine (impl_Choose.calls k t400 (wrap64 (t400 - t401)) t405 _ A15.out).mono ?_); rintro e w31 ⟨rfl, hb⟩; have n0_ := Aside0.mk (below_step (by repeat (first | (with_reducible first | exact HB.out | apply below_alloc | apply pw_below_drewN | apply below_drew1) | exact HB.out)) hb); clear HB; have HB := n0_; clear n0_; (try clear hb); (try clear hb2); (try clear hk); (try clear hi)))
                  go_meet
                  case rel => exact ⟨_, (false), (by first | rfl | (simp; done) | (simp [*]; done)), H', ⟨by first | omega | exact Nat.le_refl _⟩, ⟨by repeat (first | (with_reducible first | exact HB.out | apply below_alloc | apply pw_below_drewN | apply below_drew1) | exact HB.out)⟩⟩
              · rw [if_neg c17] at H
                have c17b0 : decide (1 ≤ t400) = false := decide_eq_false c17
                clear c17
                have H' := Aside0.mk H
                clear H
                go_wp2_with (first | (go_at_call 32; (with_reducible refine (impl_Choose.calls k t400 t401 t404 _ A14.out).mono ?_); rintro e w32 ⟨rfl, hb⟩; have n0_ := Aside0.mk (below_step (by repeat (first | (with_reducible first | exact HB.out | apply below_alloc | apply pw_below_drewN | apply below_drew1) | exact HB.out)) hb); clear HB; have HB := n0_; clear n0_; (try clear hb); (try clear hb2); (try clear hk); (try clear hi)) | (go_at_call 32; (with_reducible refine (impl_Choose.calls k t400 (wrap64 (t400 - t401)) t405 _ A15.out).mono ?_); rintro e w33 ⟨rfl, hb⟩; have n0_ := Aside0.mk (below_step (by repeat (first | (with_reducible first | exact HB.out | apply below_alloc | apply pw_below_drewN | apply below_drew1) | exact HB.out)) hb); clear HB; have HB := n0_; clear n0_; (try clear hb); (try clear hb2); (try clear hk); (try clear hi)))
                go_meet
                case rel => exact ⟨_, (false), (by first | rfl | (simp; done) | (simp [*]; done)), H', ⟨by first | omega | exact Nat.le_refl _⟩, ⟨by repeat (first | (with_reducible first | exact HB.out | apply below_alloc | apply pw_below_drewN | apply below_drew1) | exact HB.out)⟩⟩
            · rw [if_neg c16] at H
              have c16b0 : (t404 == t405) = false := beq_eq_false_iff_ne.mpr c16
              have c16b1 : (t404 != t405) = true := bne_iff_ne.mpr c16
              have H' := Aside0.mk H
              clear H
              go_wp2_with (first | (go_at_call 32; (with_reducible refine (impl_Choose.calls k t400 t401 t404 _ A14.out).mono ?_); rintro e w34 ⟨rfl, hb⟩; have n0_ := Aside0.mk (below_step (by repeat (first | (with_reducible first | exact HB.out | apply below_alloc | apply pw_below_drewN | apply below_drew1) | exact HB.out)) hb); clear HB; have HB := n0_; clear n0_; (try clear hb); (try clear hb2); (try clear hk); (try clear hi)) | (go_at_call 32; (with_reducible refine (impl_Choose.calls k t400 (wrap64 (t400 - t401)) t405 _ A15.out).mono ?_); rintro e w35 ⟨rfl, hb⟩; have n0_ := Aside0.mk (below_step (by repeat (first | (with_reducible first | exact HB.out | apply below_alloc | apply pw_below_drewN | apply below_drew1) | exact HB.out)) hb); clear HB; have HB := n0_; clear n0_; (try clear hb); (try clear hb2); (try clear hk); (try clear hi)))
              go_meet
              case rel => exact ⟨_, (true), (by first | rfl | (simp; done) | (simp [*]; done)), H', ⟨by first | omega | exact Nat.le_refl _⟩, ⟨by repeat (first | (with_reducible first | exact HB.out | apply below_alloc | apply pw_below_drewN | apply below_drew1) | exact HB.out)⟩⟩
          · rw [if_neg c13] at H
            have c13b0 : decide (t401 ≤ t400) = false := decide_eq_false c13
            clear c13
            by_cases c36 : t400 ≥ 1
            · rw [if_pos c36] at H
              have c36b0 : decide (1 ≤ t400) = true := decide_eq_true c36
              clear c36
              by_cases c37 : t400 ≤ 52
              · rw [if_pos c37] at H
                have c37b0 : decide (t400 ≤ 52) = true := decide_eq_true c37
                clear c37
                by_cases c38 : t401 ≥ 1
                · rw [if_pos c38] at H
                  have c38b0 : decide (1 ≤ t401) = true := decide_eq_true c38
                  clear c38
                  have H' := Aside0.mk H
                  clear H
                  go_wp2
                  go_meet
                  case rel => exact ⟨_, (false), (by first | rfl | (simp; done) | (simp [*]; done)), H', ⟨by first | omega | exact Nat.le_refl _⟩, ⟨by repeat (first | (with_reducible first | exact HB.out | apply below_alloc | apply pw_below_drewN | apply below_drew1) | exact HB.out)⟩⟩
                · rw [if_neg c38] at H
                  have c38b0 : decide (1 ≤ t401) = false := decide_eq_false c38
                  clear c38
                  have H' := Aside0.mk H
                  clear H
                  go_wp2
                  go_meet
                  case rel => exact ⟨_, (false), (by first | rfl | (simp; done) | (simp [*]; done)), H', ⟨by first | omega | exact Nat.le_refl _⟩, ⟨by repeat (first | (with_reducible first | exact HB.out | apply below_alloc | apply pw_below_drewN | apply below_drew1) | exact HB.out)⟩⟩
              · rw [if_neg c37] at H
                have c37b0 : decide (t400 ≤ 52) = false := decide_eq_false c37
                clear c37
                have H' := Aside0.mk H
                clear H
                go_wp2
                go_meet
                case rel => exact ⟨_, (false), (by first | rfl | (simp; done) | (simp [*]; done)), H', ⟨by first | omega | exact Nat.le_refl _⟩, ⟨by repeat (first | (with_reducible first | exact HB.out | apply below_alloc | apply pw_below_drewN | apply below_drew1) | exact HB.out)⟩⟩
            · rw [if_neg c36] at H
              have c36b0 : decide (1 ≤ t400) = false := decide_eq_false c36
              clear c36
              have H' := Aside0.mk H
              clear H
              go_wp2
              go_meet
              case rel => exact ⟨_, (false), (by first | rfl | (simp; done) | (simp [*]; done)), H', ⟨by first | omega | exact Nat.le_refl _⟩, ⟨by repeat (first | (with_reducible first | exact HB.out | apply below_alloc | apply pw_below_drewN | apply below_drew1) | exact HB.out)⟩⟩
        · rw [if_neg c12] at H
          have c12b0 : decide (0 ≤ t401) = false := decide_eq_false c12
          clear c12
          (first | rw [c12b0] | (simp only [i64_w, i32_w]; rw [c12b0]) | skip)
          by_cases c39 : t400 ≥ 1
          · rw [if_pos c39] at H
            have c39b0 : decide (1 ≤ t400) = true := decide_eq_true c39
            clear c39
            by_cases c40 : t400 ≤ 52
            · rw [if_pos c40] at H
              have c40b0 : decide (t400 ≤ 52) = true := decide_eq_true c40
              clear c40
              by_cases c41 : t401 ≥ 1
              · rw [if_pos c41] at H
                have c41b0 : decide (1 ≤ t401) = true := decide_eq_true c41
                clear c41
                by_cases c42 : t401 ≤ t400
                · rw [if_pos c42] at H
                  have c42b0 : decide (t401 ≤ t400) = true := decide_eq_true c42
                  clear c42
                  replace H := Option.bind_eq_some_iff.mp H
                  obtain ⟨t409, A430, H⟩ := H
                  replace H : ((impl_Choose.f k (wrap64 (t400 - 1)) t401).bind fun t410 => ((impl_Choose.f k (wrap64 (t400 - 1)) (wrap64 (t401 - 1))).bind fun t411 => (laws_FnChances.j0 k l0 (t409 != (wrap64 (t410 + t411)))))) = some r := H
                  have A43 := Aside0.mk A430
                  clear A430
                  replace H := Option.bind_eq_some_iff.mp H
                  obtain ⟨t410, A440, H⟩ := H
                  replace H : ((impl_Choose.f k (wrap64 (t400 - 1)) (wrap64 (t401 - 1))).bind fun t411 => (laws_FnChances.j0 k l0 (t409 != (wrap64 (t410 + t411))))) = some r := H
                  have A44 := Aside0.mk A440
                  clear A440
                  replace H := Option.bind_eq_some_iff.mp H
                  obtain ⟨t411, A450, H⟩ := H
                  replace H : (laws_FnChances.j0 k l0 (t409 != (wrap64 (t410 + t411)))) = some r := H
                  have A45 := Aside0.mk A450
                  clear A450
                  have H' := Aside0.mk H
                  clear H
                  go_wp2_with (first | (go_at_call 32; (with_reducible refine (impl_Choose.calls k t400 t401 t409 _ A43.out).mono ?_); rintro e w46 ⟨rfl, hb⟩; have n0_ := Aside0.mk (below_step (by repeat (first | (with_reducible first | exact HB.out | apply below_alloc | apply pw_below_drewN | apply below_drew1) | exact HB.out)) hb); clear HB; have HB := n0_; clear n0_; (try clear hb); (try clear hb2); (try clear hk); (try clear hi)) | (go_at_call 32; (with_reducible refine (impl_Choose.calls k (wrap64 (t400 - 1)) t401 t410 _ A44.out).mono ?_); rintro e w47 ⟨rfl, hb⟩; have n0_ := Aside0.mk (below_step (by repeat (first | (with_reducible first | exact HB.out | apply below_alloc | apply pw_below_drewN | apply below_drew1) | exact HB.out)) hb); clear HB; have HB := n0_; clear n0_; (try clear hb); (try clear hb2); (try clear hk); (try clear hi)) | (go_at_call 32; (with_reducible refine (impl_Choose.calls k (wrap64 (t400 - 1)) (wrap64 (t401 - 1)) t411 _ A45.out).mono ?_); rintro e w48 ⟨rfl, hb⟩; have n0_ := Aside0.mk (below_step (by repeat (first | (with_reducible first | exact HB.out | apply below_alloc | apply pw_below_drewN | apply below_drew1) | exact HB.out)) hb); clear HB; have HB := n0_; clear n0_; (try clear hb); (try clear hb2); (try clear hk); (try clear hi)))
                  go_meet
                  case rel => exact ⟨_, ((t409 != (wrap64 (t410 + t411)))), (by first | rfl | (simp; done) | (simp [*]; done)), H', ⟨by first | omega | exact Nat.le_refl _⟩, ⟨by repeat (first | (with_reducible first | exact HB.out | apply below_alloc | apply pw_below_drewN | apply below_drew1) | exact HB.out)⟩⟩
                · rw [if_neg c42] at H
                  have c42b0 : decide (t401 ≤ t400) = false := decide_eq_false c42
                  clear c42
                  have H' := Aside0.mk H
                  clear H
                  go_wp2
                  go_meet
                  case rel => exact ⟨_, (false), (by first | rfl | (simp; done) | (simp [*]; done)), H', ⟨by first | omega | exact Nat.le_refl _⟩, ⟨by repeat (first | (with_reducible first | exact HB.out | apply below_alloc | apply pw_below_drewN | apply below_drew1) | exact HB.out)⟩⟩
              · rw [if_neg c41] at H
                have c41b0 : decide (1 ≤ t401) = false := decide_eq_false c41
                clear c41
                have H' := Aside0.mk H
                clear H
                go_wp2
                go_meet
                case rel => exact ⟨_, (false), (by first | rfl | (simp; done) | (simp [*]; done)), H', ⟨by first | omega | exact Nat.le_refl _⟩, ⟨by repeat (first | (with_reducible first | exact HB.out | apply below_alloc | apply pw_below_drewN | apply below_drew1) | exact HB.out)⟩⟩
            · rw [if_neg c40] at H
              have c40b0 : decide (t400 ≤ 52) = false := decide_eq_false c40
              clear c40
              have H' := Aside0.mk H
              clear H
              go_wp2
              go_meet
              case rel => exact ⟨_, (false), (by first | rfl | (simp; done) | (simp [*]; done)), H', ⟨by first | omega | exact Nat.le_refl _⟩, ⟨by repeat (first | (with_reducible first | exact HB.out | apply below_alloc | apply pw_below_drewN | apply below_drew1) | exact HB.out)⟩⟩
          · rw [if_neg c39] at H
            have c39b0 : decide (1 ≤ t400) = false := decide_eq_false c39
            clear c39
            have H' := Aside0.mk H
            clear H
            go_wp2
            go_meet
            case rel => exact ⟨_, (false), (by first | rfl | (simp; done) | (simp [*]; done)), H', ⟨by first | omega | exact Nat.le_refl _⟩, ⟨by repeat (first | (with_reducible first | exact HB.out | apply below_alloc | apply pw_below_drewN | apply below_drew1) | exact HB.out)⟩⟩
      case rest =>
        clear HC8
        try clear c1
        try clear p2
        try clear c3
        try clear c4
        try clear c5
        try clear p6
        try clear c7
        try clear c7b0
        try clear c7b1
        try clear c12
        try clear c12b0
        try clear c13
        try clear c13b0
        try clear c15
        try clear c16
        try clear c16b0
        try clear c16b1
        try clear c17
        try clear c17b0
        try clear c18
        try clear c18b0
        try clear c19
        try clear c19b0
        try clear c31
        try clear c32
        try clear c33
        try clear c36
        try clear c36b0
        try clear c37
        try clear c37b0
        try clear c38
        try clear c38b0
        try clear c39
        try clear c39b0
        try clear c40
        try clear c40b0
        try clear c41
        try clear c41b0
        try clear c42
        try clear c42b0
        obtain ⟨kq, x78_7, rfl, HA, HJ7, HB⟩ := hcut
        cases kq with
        | zero => exact absurd HA.out (by simp [laws_FnChances.j0])
        | succ kj7 =>
          have H := HA.out
          clear HA
          simp only [laws_FnChances.j0] at H
          by_cases c49 : x78_7 = true
          · subst c49
            have H1 : (some false) = some r := by rw [if_pos rfl] at H; exact H
            clear H
            have H := H1
            clear H1
            exact absurd (Option.some.inj H) (by rw [HT.out]; decide)
          · replace c49 := Bool.eq_false_iff.mpr c49
            subst c49
            have H1 : ((spec_DrawWaysAtLeast.f kj7 l0).bind fun bt412 => ((impl_WaysAtLeast.f kj7 bt412.1 bt412.2.1 bt412.2.2.1 0).bind fun t416 => (if bt412.1 ≥ 0 then (if bt412.1 ≤ 52 then (if bt412.2.1 ≥ 0 then (if bt412.2.1 ≤ bt412.1 then (if bt412.2.2.1 ≥ 0 then (if bt412.2.2.1 ≤ 10 then ((impl_Choose.f kj7 bt412.1 bt412.2.2.1).bind fun t417 => (laws_FnChances.j1 kj7 l0 bt412.1 bt412.2.1 bt412.2.2.1 bt412.2.2.2 (t416 != t417))) else (laws_FnChances.j1 kj7 l0 bt412.1 bt412.2.1 bt412.2.2.1 bt412.2.2.2 false)) else (laws_FnChances.j1 kj7 l0 bt412.1 bt412.2.1 bt412.2.2.1 bt412.2.2.2 false)) else (laws_FnChances.j1 kj7 l0 bt412.1 bt412.2.1 bt412.2.2.1 bt412.2.2.2 false)) else (laws_FnChances.j1 kj7 l0 bt412.1 bt412.2.1 bt412.2.2.1 bt412.2.2.2 false)) else (laws_FnChances.j1 kj7 l0 bt412.1 bt412.2.1 bt412.2.2.1 bt412.2.2.2 false)) else (laws_FnChances.j1 kj7 l0 bt412.1 bt412.2.1 bt412.2.2.1 bt412.2.2.2 false)))) = some r := by rw [if_neg (show ¬ (false = true) by decide)] at H; exact H
            clear H
            have H := H1
            clear H1
            replace H := Option.bind_eq_some_iff.mp H
            obtain ⟨⟨t412, t413, t414, t415⟩, A500, H⟩ := H
            replace H : ((impl_WaysAtLeast.f kj7 t412 t413 t414 0).bind fun t416 => (if t412 ≥ 0 then (if t412 ≤ 52 then (if t413 ≥ 0 then (if t413 ≤ t412 then (if t414 ≥ 0 then (if t414 ≤ 10 then ((impl_Choose.f kj7 t412 t414).bind fun t417 => (laws_FnChances.j1 kj7 l0 t412 t413 t414 t415 (t416 != t417))) else (laws_FnChances.j1 kj7 l0 t412 t413 t414 t415 false)) else (laws_FnChances.j1 kj7 l0 t412 t413 t414 t415 false)) else (laws_FnChances.j1 kj7 l0 t412 t413 t414 t415 false)) else (laws_FnChances.j1 kj7 l0 t412 t413 t414 t415 false)) else (laws_FnChances.j1 kj7 l0 t412 t413 t414 t415 false)) else (laws_FnChances.j1 kj7 l0 t412 t413 t414 t415 false))) = some r := H
            have A50 := Aside0.mk A500
            clear A500
            replace H := Option.bind_eq_some_iff.mp H
            obtain ⟨t416, A510, H⟩ := H
            replace H : (if t412 ≥ 0 then (if t412 ≤ 52 then (if t413 ≥ 0 then (if t413 ≤ t412 then (if t414 ≥ 0 then (if t414 ≤ 10 then ((impl_Choose.f kj7 t412 t414).bind fun t417 => (laws_FnChances.j1 kj7 l0 t412 t413 t414 t415 (t416 != t417))) else (laws_FnChances.j1 kj7 l0 t412 t413 t414 t415 false)) else (laws_FnChances.j1 kj7 l0 t412 t413 t414 t415 false)) else (laws_FnChances.j1 kj7 l0 t412 t413 t414 t415 false)) else (laws_FnChances.j1 kj7 l0 t412 t413 t414 t415 false)) else (laws_FnChances.j1 kj7 l0 t412 t413 t414 t415 false)) else (laws_FnChances.j1 kj7 l0 t412 t413 t414 t415 false)) = some r := H
            have A51 := Aside0.mk A510
            clear A510
            have HC52 := Aside0.mk H
            clear H
            go_upto_region 10 with (first | ((with_reducible refine gate_callee (f := 34) rfl ?_); refine goesL_ (some 81) rfl rfl Try.func34 (by kernel_rfl) rfl #[.slice A0 l0.length c0] rfl (by (try simp only [List.map_toArray, List.map_cons, List.map_nil]); first | done | rfl | (simp only [List.length_drop, List.length_take]; rfl)) ?_; (with_reducible refine (spec_DrawWaysAtLeast.calls kj7 _ _ l0 t412 t413 t414 t415 _ ?side1 ?side2 A50.out).mono ?_); (case side1 => repeat (first | exact (Kd.C_below HR0.out HB.out) | (with_reducible refine Kd.C_alloc ?_ _) | (with_reducible refine Kd.C_drewN ?_ _) | (with_reducible refine Kd.C_drew ?_))); (case side2 => exact HC0.out); rintro e w53 ⟨rfl, hb⟩; refine ⟨_, rfl, ?_⟩; have n0_ := Aside0.mk (below_step (by repeat (first | (with_reducible first | exact HB.out | apply below_alloc | apply pw_below_drewN | apply below_drew1) | exact HB.out)) hb); clear HB; have HB := n0_; clear n0_; (try clear hb); (try clear hb2); (try clear hk); (try clear hi)) | ((with_reducible refine gate_callee (f := 35) rfl ?_); refine goesL_ (some 89) rfl rfl Try.func35 (by kernel_rfl) rfl #[.int .i64 t412, .int .i64 t413, .int .i64 t414, .int .i64 0] rfl (by (try simp only [List.map_toArray, List.map_cons, List.map_nil]); first | done | rfl | (simp only [List.length_drop, List.length_take]; rfl)) ?_; (with_reducible refine (impl_WaysAtLeast.calls kj7 t412 t413 t414 0 t416 _ A51.out).mono ?_); rintro e w54 ⟨rfl, hb⟩; refine ⟨_, rfl, ?_⟩; have n0_ := Aside0.mk (below_step (by repeat (first | (with_reducible first | exact HB.out | apply below_alloc | apply pw_below_drewN | apply below_drew1) | exact HB.out)) hb); clear HB; have HB := n0_; clear n0_; (try clear hb); (try clear hb2); (try clear hk); (try clear hi)))
            (try simp only [Act.put, List.setIfInBounds_toArray, List.set_cons_zero, List.set_cons_succ])
            go_cut [119] (fun v119 wc => ∃ (kq : Nat) (x119_51 : Bool), v119 = .bool x119_51 ∧ Aside0 (laws_FnChances.j1 kq l0 t412 t413 t414 t415 x119_51 = some r) ∧ Aside0 (kq ≤ kj7) ∧ Aside0 (Below w.heap.size w wc))
            case first =>
              have H := HC52.out
              clear HC52
              by_cases c55 : t412 ≥ 0
              · rw [if_pos c55] at H
                have c55b0 : decide (0 ≤ t412) = true := decide_eq_true c55
                clear c55
                (first | rw [c55b0] | (simp only [i64_w, i32_w]; rw [c55b0]) | skip)
                by_cases c56 : t412 ≤ 52
                · rw [if_pos c56] at H
                  have c56b0 : decide (t412 ≤ 52) = true := decide_eq_true c56
                  clear c56
                  by_cases c57 : t413 ≥ 0
                  · rw [if_pos c57] at H
                    have c57b0 : decide (0 ≤ t413) = true := decide_eq_true c57
                    clear c57
                    by_cases c58 : t413 ≤ t412
                    · rw [if_pos c58] at H
                      have c58b0 : decide (t413 ≤ t412) = true := decide_eq_true c58
                      clear c58
                      by_cases c59 : t414 ≥ 0
                      · rw [if_pos c59] at H
                        have c59b0 : decide (0 ≤ t414) = true := decide_eq_true c59
                        clear c59
                        by_cases c60 : t414 ≤ 10
                        · rw [if_pos c60] at H
                          have c60b0 : decide (t414 ≤ 10) = true := decide_eq_true c60
                          clear c60
                          replace H := Option.bind_eq_some_iff.mp H
                          obtain ⟨t417, A610, H⟩ := H
                          replace H : (laws_FnChances.j1 kj7 l0 t412 t413 t414 t415 (t416 != t417)) = some r := H
                          have A61 := Aside0.mk A610
                          clear A610
                          have H' := Aside0.mk H
                          clear H
                          go_wp2_with (first | (go_at_call 32; (with_reducible refine (impl_Choose.calls kj7 t412 t414 t417 _ A61.out).mono ?_); rintro e w62 ⟨rfl, hb⟩; have n0_ := Aside0.mk (below_step (by repeat (first | (with_reducible first | exact HB.out | apply below_alloc | apply pw_below_drewN | apply below_drew1) | exact HB.out)) hb); clear HB; have HB := n0_; clear n0_; (try clear hb); (try clear hb2); (try clear hk); (try clear hi)))
                          go_meet
                          case rel => exact ⟨_, ((t416 != t417)), (by first | rfl | (simp; done) | (simp [*]; done)), H', ⟨by have := HJ7.out; first | omega | exact Nat.le_refl _⟩, ⟨by repeat (first | (with_reducible first | exact HB.out | apply below_alloc | apply pw_below_drewN | apply below_drew1) | exact HB.out)⟩⟩
                        · rw [if_neg c60] at H
                          have c60b0 : decide (t414 ≤ 10) = false := decide_eq_false c60
                          clear c60
                          have H' := Aside0.mk H
                          clear H
                          go_wp2
                          go_meet
                          case rel => exact ⟨_, (false), (by first | rfl | (simp; done) | (simp [*]; done)), H', ⟨by have := HJ7.out; first | omega | exact Nat.le_refl _⟩, ⟨by repeat (first | (with_reducible first | exact HB.out | apply below_alloc | apply pw_below_drewN | apply below_drew1) | exact HB.out)⟩⟩
                      · rw [if_neg c59] at H
                        have c59b0 : decide (0 ≤ t414) = false := decide_eq_false c59
                        clear c59
                        have H' := Aside0.mk H
                        clear H
                        go_wp2
                        go_meet
                        case rel => exact ⟨_, (false), (by first | rfl | (simp; done) | (simp [*]; done)), H', ⟨by have := HJ7.out; first | omega | exact Nat.le_refl _⟩, ⟨by repeat (first | (with_reducible first | exact HB.out | apply below_alloc | apply pw_below_drewN | apply below_drew1) | exact HB.out)⟩⟩
                    · rw [if_neg c58] at H
                      have c58b0 : decide (t413 ≤ t412) = false := decide_eq_false c58
                      clear c58
                      have H' := Aside0.mk H
                      clear H
                      go_wp2
                      go_meet
                      case rel => exact ⟨_, (false), (by first | rfl | (simp; done) | (simp [*]; done)), H', ⟨by have := HJ7.out; first | omega | exact Nat.le_refl _⟩, ⟨by repeat (first | (with_reducible first | exact HB.out | apply below_alloc | apply pw_below_drewN | apply below_drew1) | exact HB.out)⟩⟩
                  · rw [if_neg c57] at H
                    have c57b0 : decide (0 ≤ t413) = false := decide_eq_false c57
                    clear c57
                    have H' := Aside0.mk H
                    clear H
                    go_wp2
                    go_meet
                    case rel => exact ⟨_, (false), (by first | rfl | (simp; done) | (simp [*]; done)), H', ⟨by have := HJ7.out; first | omega | exact Nat.le_refl _⟩, ⟨by repeat (first | (with_reducible first | exact HB.out | apply below_alloc | apply pw_below_drewN | apply below_drew1) | exact HB.out)⟩⟩
                · rw [if_neg c56] at H
                  have c56b0 : decide (t412 ≤ 52) = false := decide_eq_false c56
                  clear c56
                  have H' := Aside0.mk H
                  clear H
                  go_wp2
                  go_meet
                  case rel => exact ⟨_, (false), (by first | rfl | (simp; done) | (simp [*]; done)), H', ⟨by have := HJ7.out; first | omega | exact Nat.le_refl _⟩, ⟨by repeat (first | (with_reducible first | exact HB.out | apply below_alloc | apply pw_below_drewN | apply below_drew1) | exact HB.out)⟩⟩
              · rw [if_neg c55] at H
                have c55b0 : decide (0 ≤ t412) = false := decide_eq_false c55
                clear c55
                (first | rw [c55b0] | (simp only [i64_w, i32_w]; rw [c55b0]) | skip)
                have H' := Aside0.mk H
                clear H
                go_wp2
                go_meet
                case rel => exact ⟨_, (false), (by first | rfl | (simp; done) | (simp [*]; done)), H', ⟨by have := HJ7.out; first | omega | exact Nat.le_refl _⟩, ⟨by repeat (first | (with_reducible first | exact HB.out | apply below_alloc | apply pw_below_drewN | apply below_drew1) | exact HB.out)⟩⟩
            case rest =>
              clear HC52
              try clear c1
              try clear p2
              try clear c3
              try clear c4
              try clear c5
              try clear c6
              try clear p6
              try clear c7
              try clear c7b0
              try clear c7b1
              try clear c12
              try clear c12b0
              try clear c13
              try clear c13b0
              try clear c15
              try clear c16
              try clear c16b0
              try clear c16b1
              try clear c17
              try clear c17b0
              try clear c18
              try clear c18b0
              try clear c19
              try clear c19b0
              try clear c31
              try clear c32
              try clear c33
              try clear c34
              try clear c35
              try clear c36
              try clear c36b0
              try clear c37
              try clear c37b0
              try clear c38
              try clear c38b0
              try clear c39
              try clear c39b0
              try clear c40
              try clear c40b0
              try clear c41
              try clear c41b0
              try clear c42
              try clear c42b0
              try clear c49
              try clear c55
              try clear c55b0
              try clear c56
              try clear c56b0
              try clear c57
              try clear c57b0
              try clear c58
              try clear c58b0
              try clear c59
              try clear c59b0
              try clear c60
              try clear c60b0
              try clear p2
              try clear p6
              obtain ⟨kq, x119_51, rfl, HA, HJ51, HB⟩ := hcut
              cases kq with
              | zero => exact absurd HA.out (by simp [laws_FnChances.j1])
              | succ kj51 =>
                have H := HA.out
                clear HA
                simp only [laws_FnChances.j1] at H
                by_cases c63 : x119_51 = true
                · subst c63
                  have H1 : (some false) = some r := by rw [if_pos rfl] at H; exact H
                  clear H
                  have H := H1
                  clear H1
                  exact absurd (Option.some.inj H) (by rw [HT.out]; decide)
                · replace c63 := Bool.eq_false_iff.mpr c63
                  subst c63
                  have H1 : ((impl_PerThousand.f kj51 t412 t413 t414 t415).bind fun t418 => ((spec_DrawOutsFor.f kj51 l0).bind fun bt419 => ((impl_OutsFor.f kj51 bt419.1 bt419.2).bind fun t425 => (if t418 ≥ 0 then (if t418 ≤ 1000 then ((impl_WaysWith.f kj51 t412 t413 t414 t415).bind fun t426 => ((impl_WaysAtLeast.f kj51 t412 t413 t414 t415).bind fun t427 => (if t426 ≤ t427 then (if t425 ≥ 0 then ((impl_Missing.f kj51 bt419.2).bind fun t428 => ((impl_Missing.f kj51 t428).bind fun t431 => ((impl_CountMatches.f kj51 bt419.1 t431).bind fun t434 => ((impl_MatchSet.f kj51 bt419.1).bind fun t435 => (some ((wrap64 (t425 + t434)) == (t435.length : Int))))))) else (some false)) else (some false)))) else (some false)) else (some false))))) = some r := by rw [if_neg (show ¬ (false = true) by decide)] at H; exact H
                  clear H
                  have H := H1
                  clear H1
                  replace H := Option.bind_eq_some_iff.mp H
                  obtain ⟨t418, A640, H⟩ := H
                  replace H : ((spec_DrawOutsFor.f kj51 l0).bind fun bt419 => ((impl_OutsFor.f kj51 bt419.1 bt419.2).bind fun t425 => (if t418 ≥ 0 then (if t418 ≤ 1000 then ((impl_WaysWith.f kj51 t412 t413 t414 t415).bind fun t426 => ((impl_WaysAtLeast.f kj51 t412 t413 t414 t415).bind fun t427 => (if t426 ≤ t427 then (if t425 ≥ 0 then ((impl_Missing.f kj51 bt419.2).bind fun t428 => ((impl_Missing.f kj51 t428).bind fun t431 => ((impl_CountMatches.f kj51 bt419.1 t431).bind fun t434 => ((impl_MatchSet.f kj51 bt419.1).bind fun t435 => (some ((wrap64 (t425 + t434)) == (t435.length : Int))))))) else (some false)) else (some false)))) else (some false)) else (some false)))) = some r := H
                  have A64 := Aside0.mk A640
                  clear A640
                  replace H := Option.bind_eq_some_iff.mp H
                  obtain ⟨⟨t419, t420⟩, A650, H⟩ := H
                  replace H : ((impl_OutsFor.f kj51 t419 t420).bind fun t425 => (if t418 ≥ 0 then (if t418 ≤ 1000 then ((impl_WaysWith.f kj51 t412 t413 t414 t415).bind fun t426 => ((impl_WaysAtLeast.f kj51 t412 t413 t414 t415).bind fun t427 => (if t426 ≤ t427 then (if t425 ≥ 0 then ((impl_Missing.f kj51 t420).bind fun t428 => ((impl_Missing.f kj51 t428).bind fun t431 => ((impl_CountMatches.f kj51 t419 t431).bind fun t434 => ((impl_MatchSet.f kj51 t419).bind fun t435 => (some ((wrap64 (t425 + t434)) == (t435.length : Int))))))) else (some false)) else (some false)))) else (some false)) else (some false))) = some r := H
                  have A65 := Aside0.mk A650
                  clear A650
                  replace H := Option.bind_eq_some_iff.mp H
                  obtain ⟨t425, A660, H⟩ := H
                  replace H : (if t418 ≥ 0 then (if t418 ≤ 1000 then ((impl_WaysWith.f kj51 t412 t413 t414 t415).bind fun t426 => ((impl_WaysAtLeast.f kj51 t412 t413 t414 t415).bind fun t427 => (if t426 ≤ t427 then (if t425 ≥ 0 then ((impl_Missing.f kj51 t420).bind fun t428 => ((impl_Missing.f kj51 t428).bind fun t431 => ((impl_CountMatches.f kj51 t419 t431).bind fun t434 => ((impl_MatchSet.f kj51 t419).bind fun t435 => (some ((wrap64 (t425 + t434)) == (t435.length : Int))))))) else (some false)) else (some false)))) else (some false)) else (some false)) = some r := H
                  have A66 := Aside0.mk A660
                  clear A660
                  by_cases c67 : t418 ≥ 0
                  · rw [if_pos c67] at H
                    have c67b0 : decide (0 ≤ t418) = true := decide_eq_true c67
                    clear c67
                    by_cases c68 : t418 ≤ 1000
                    · rw [if_pos c68] at H
                      have c68b0 : decide (t418 ≤ 1000) = true := decide_eq_true c68
                      clear c68
                      replace H := Option.bind_eq_some_iff.mp H
                      obtain ⟨t426, A690, H⟩ := H
                      replace H : ((impl_WaysAtLeast.f kj51 t412 t413 t414 t415).bind fun t427 => (if t426 ≤ t427 then (if t425 ≥ 0 then ((impl_Missing.f kj51 t420).bind fun t428 => ((impl_Missing.f kj51 t428).bind fun t431 => ((impl_CountMatches.f kj51 t419 t431).bind fun t434 => ((impl_MatchSet.f kj51 t419).bind fun t435 => (some ((wrap64 (t425 + t434)) == (t435.length : Int))))))) else (some false)) else (some false))) = some r := H
                      have A69 := Aside0.mk A690
                      clear A690
                      replace H := Option.bind_eq_some_iff.mp H
                      obtain ⟨t427, A700, H⟩ := H
                      replace H : (if t426 ≤ t427 then (if t425 ≥ 0 then ((impl_Missing.f kj51 t420).bind fun t428 => ((impl_Missing.f kj51 t428).bind fun t431 => ((impl_CountMatches.f kj51 t419 t431).bind fun t434 => ((impl_MatchSet.f kj51 t419).bind fun t435 => (some ((wrap64 (t425 + t434)) == (t435.length : Int))))))) else (some false)) else (some false)) = some r := H
                      have A70 := Aside0.mk A700
                      clear A700
                      by_cases c71 : t426 ≤ t427
                      · rw [if_pos c71] at H
                        have c71b0 : decide (t426 ≤ t427) = true := decide_eq_true c71
                        clear c71
                        by_cases c72 : t425 ≥ 0
                        · rw [if_pos c72] at H
                          have c72b0 : decide (0 ≤ t425) = true := decide_eq_true c72
                          clear c72
                          replace H := Option.bind_eq_some_iff.mp H
                          obtain ⟨t428, A730, H⟩ := H
                          replace H : ((impl_Missing.f kj51 t428).bind fun t431 => ((impl_CountMatches.f kj51 t419 t431).bind fun t434 => ((impl_MatchSet.f kj51 t419).bind fun t435 => (some ((wrap64 (t425 + t434)) == (t435.length : Int)))))) = some r := H
                          have A73 := Aside0.mk A730
                          clear A730
                          replace H := Option.bind_eq_some_iff.mp H
                          obtain ⟨t431, A740, H⟩ := H
                          replace H : ((impl_CountMatches.f kj51 t419 t431).bind fun t434 => ((impl_MatchSet.f kj51 t419).bind fun t435 => (some ((wrap64 (t425 + t434)) == (t435.length : Int))))) = some r := H
                          have A74 := Aside0.mk A740
                          clear A740
                          replace H := Option.bind_eq_some_iff.mp H
                          obtain ⟨t434, A750, H⟩ := H
                          replace H : ((impl_MatchSet.f kj51 t419).bind fun t435 => (some ((wrap64 (t425 + t434)) == (t435.length : Int)))) = some r := H
                          have A75 := Aside0.mk A750
                          clear A750
                          replace H := Option.bind_eq_some_iff.mp H
                          obtain ⟨t435, A760, H⟩ := H
                          replace H : (some ((wrap64 (t425 + t434)) == (t435.length : Int))) = some r := H
                          have A76 := Aside0.mk A760
                          clear A760
                          obtain rfl := Option.some.inj H
                          go_wp2_with (first | ((with_reducible refine gate_callee (f := 36) rfl ?_); refine goesL_ (some 124) rfl rfl Try.func36 (by kernel_rfl) rfl #[.int .i64 t412, .int .i64 t413, .int .i64 t414, .int .i64 t415] rfl (by (try simp only [List.map_toArray, List.map_cons, List.map_nil]); first | done | rfl | (simp only [List.length_drop, List.length_take]; rfl)) ?_; (with_reducible refine (impl_PerThousand.calls kj51 t412 t413 t414 t415 t418 _ A64.out).mono ?_); rintro e w77 ⟨rfl, hb⟩; refine ⟨_, rfl, ?_⟩; have n0_ := Aside0.mk (below_step (by repeat (first | (with_reducible first | exact HB.out | apply below_alloc | apply pw_below_drewN | apply below_drew1) | exact HB.out)) hb); clear HB; have HB := n0_; clear n0_; (try clear hb); (try clear hb2); (try clear hk); (try clear hi)) | ((with_reducible refine gate_callee (f := 37) rfl ?_); refine goesL_ (some 127) rfl rfl Try.func37 (by kernel_rfl) rfl #[.slice A0 l0.length c0] rfl (by (try simp only [List.map_toArray, List.map_cons, List.map_nil]); first | done | rfl | (simp only [List.length_drop, List.length_take]; rfl)) ?_; (with_reducible refine (spec_DrawOutsFor.calls kj51 _ _ l0 t419 t420 _ ?side1 ?side2 A65.out).mono ?_); (case side1 => repeat (first | exact (Kd.C_below HR0.out HB.out) | (with_reducible refine Kd.C_alloc ?_ _) | (with_reducible refine Kd.C_drewN ?_ _) | (with_reducible refine Kd.C_drew ?_))); (case side2 => exact HC0.out); rintro e w78 ⟨v421, v423, rfl, ho0, ho1, hb⟩; refine ⟨_, rfl, ?_⟩; have n0_ := Aside0.mk (Kd.Q_lower ho0 (below_size (by repeat (first | (with_reducible first | exact HB.out | apply below_alloc | apply pw_below_drewN | apply below_drew1) | exact HB.out)))); have n1_ := Aside0.mk (Kd.R_lower ho1 (below_size (by repeat (first | (with_reducible first | exact HB.out | apply below_alloc | apply pw_below_drewN | apply below_drew1) | exact HB.out)))); have n2_ := Aside0.mk (below_step (by repeat (first | (with_reducible first | exact HB.out | apply below_alloc | apply pw_below_drewN | apply below_drew1) | exact HB.out)) hb); clear HB; have HO422 := n0_; have HO424 := n1_; have HB := n2_; clear n0_ n1_ n2_; (try clear hb); (try clear hb2); (try clear hk); (try clear hi); (try clear ho0); (try clear ho1); obtain ⟨Ao79, co79, eo79, _⟩ := Kd.Q_slice HO422.out; subst eo79; obtain ⟨Ao80, co80, eo80⟩ := Kd.R_slice HO424.out; subst eo80) | ((with_reducible refine gate_callee (f := 38) rfl ?_); refine goesL_ (some 132) rfl rfl Try.func38 (by kernel_rfl) rfl #[.slice Ao79 t419.length co79, .slice Ao80 t420.length co80] rfl (by (try simp only [List.map_toArray, List.map_cons, List.map_nil]); first | done | rfl | (simp only [List.length_drop, List.length_take]; rfl)) ?_; (with_reducible refine (impl_OutsFor.calls kj51 _ _ t419 _ _ t420 t425 _ ?side1 ?side2 ?side3 ?side4 A66.out).mono ?_); (case side1 => repeat (first | exact (Kd.Q_reads' HO422.out).2.2 | (with_reducible refine Kd.C_alloc ?_ _) | (with_reducible refine Kd.C_drewN ?_ _) | (with_reducible refine Kd.C_drew ?_))); (case side2 => exact (Kd.Q_reads' HO422.out).2.1); (case side3 => repeat (first | exact (Kd.R_reads' HO424.out).2.2 | (with_reducible refine Kd.C_alloc ?_ _) | (with_reducible refine Kd.C_drewN ?_ _) | (with_reducible refine Kd.C_drew ?_))); (case side4 => exact (Kd.R_reads' HO424.out).2.1); rintro e w81 ⟨rfl, hb⟩; refine ⟨_, rfl, ?_⟩; have n0_ := Aside0.mk (Kd.Q_below (by (with_reducible repeat (first | apply Kd.Q_alloc | apply Kd.Q_drewN | apply Kd.Q_drew)); exact HO422.out) hb); have n1_ := Aside0.mk (Kd.R_below (by (with_reducible repeat (first | apply Kd.R_alloc | apply Kd.R_drewN | apply Kd.R_drew)); exact HO424.out) hb); have n2_ := Aside0.mk (below_step (by repeat (first | (with_reducible first | exact HB.out | apply below_alloc | apply pw_below_drewN | apply below_drew1) | exact HB.out)) hb); clear HO422; clear HO424; clear HB; have HO422 := n0_; have HO424 := n1_; have HB := n2_; clear n0_ n1_ n2_; (try clear hb); (try clear hb2); (try clear hk); (try clear hi)) | (go_at_call 39; (with_reducible refine (impl_WaysWith.calls kj51 t412 t413 t414 t415 t426 _ A69.out).mono ?_); rintro e w82 ⟨rfl, hb⟩; have n0_ := Aside0.mk (Kd.Q_below (by (with_reducible repeat (first | apply Kd.Q_alloc | apply Kd.Q_drewN | apply Kd.Q_drew)); exact HO422.out) hb); have n1_ := Aside0.mk (Kd.R_below (by (with_reducible repeat (first | apply Kd.R_alloc | apply Kd.R_drewN | apply Kd.R_drew)); exact HO424.out) hb); have n2_ := Aside0.mk (below_step (by repeat (first | (with_reducible first | exact HB.out | apply below_alloc | apply pw_below_drewN | apply below_drew1) | exact HB.out)) hb); clear HO422; clear HO424; clear HB; have HO422 := n0_; have HO424 := n1_; have HB := n2_; clear n0_ n1_ n2_; (try clear hb); (try clear hb2); (try clear hk); (try clear hi)) | (go_at_call 35; (with_reducible refine (impl_WaysAtLeast.calls kj51 t412 t413 t414 t415 t427 _ A70.out).mono ?_); rintro e w83 ⟨rfl, hb⟩; have n0_ := Aside0.mk (Kd.Q_below (by (with_reducible repeat (first | apply Kd.Q_alloc | apply Kd.Q_drewN | apply Kd.Q_drew)); exact HO422.out) hb); have n1_ := Aside0.mk (Kd.R_below (by (with_reducible repeat (first | apply Kd.R_alloc | apply Kd.R_drewN | apply Kd.R_drew)); exact HO424.out) hb); have n2_ := Aside0.mk (below_step (by repeat (first | (with_reducible first | exact HB.out | apply below_alloc | apply pw_below_drewN | apply below_drew1) | exact HB.out)) hb); clear HO422; clear HO424; clear HB; have HO422 := n0_; have HO424 := n1_; have HB := n2_; clear n0_ n1_ n2_; (try clear hb); (try clear hb2); (try clear hk); (try clear hi)) | (go_at_call 41; (with_reducible refine (impl_Missing.calls kj51 _ _ t420 t428 _ ?side1 ?side2 A73.out).mono ?_); (case side1 => repeat (first | exact (Kd.R_reads' HO424.out).2.2 | (with_reducible refine Kd.C_alloc ?_ _) | (with_reducible refine Kd.C_drewN ?_ _) | (with_reducible refine Kd.C_drew ?_))); (case side2 => exact (Kd.R_reads' HO424.out).2.1); rintro e w84 ⟨v429, rfl, ho0, hb⟩; have n0_ := Aside0.mk (Kd.Q_elder' (by (with_reducible repeat (first | apply Kd.Q_alloc | apply Kd.Q_drewN | apply Kd.Q_drew)); exact HO422.out) (Kd.R_base ho0) hb); have n1_ := Aside0.mk (Kd.R_elder' (by (with_reducible repeat (first | apply Kd.R_alloc | apply Kd.R_drewN | apply Kd.R_drew)); exact HO424.out) (Kd.R_base ho0) hb); have n2_ := Aside0.mk (Kd.R_lower (Kd.R_new' (Kd.R_new' ho0 (Kd.Q_lt (by (with_reducible repeat (first | apply Kd.Q_alloc | apply Kd.Q_drewN | apply Kd.Q_drew)); exact HO422.out))) (Kd.R_lt (by (with_reducible repeat (first | apply Kd.R_alloc | apply Kd.R_drewN | apply Kd.R_drew)); exact HO424.out))) (below_size (by repeat (first | (with_reducible first | exact HB.out | apply below_alloc | apply pw_below_drewN | apply below_drew1) | exact HB.out)))); have n3_ := Aside0.mk (below_step (by repeat (first | (with_reducible first | exact HB.out | apply below_alloc | apply pw_below_drewN | apply below_drew1) | exact HB.out)) hb); clear HO422; clear HO424; clear HB; have HO422 := n0_; have HO424 := n1_; have HO430 := n2_; have HB := n3_; clear n0_ n1_ n2_ n3_; (try clear hb); (try clear hb2); (try clear hk); (try clear hi); (try clear ho0); obtain ⟨Ao85, co85, eo85⟩ := Kd.R_slice HO430.out; subst eo85) | (go_at_call 41; (with_reducible refine (impl_Missing.calls kj51 _ _ t428 t431 _ ?side1 ?side2 A74.out).mono ?_); (case side1 => repeat (first | exact (Kd.R_reads' HO430.out).2.2 | (with_reducible refine Kd.C_alloc ?_ _) | (with_reducible refine Kd.C_drewN ?_ _) | (with_reducible refine Kd.C_drew ?_))); (case side2 => exact (Kd.R_reads' HO430.out).2.1); rintro e w86 ⟨v432, rfl, ho0, hb⟩; have n0_ := Aside0.mk (Kd.Q_elder' (by (with_reducible repeat (first | apply Kd.Q_alloc | apply Kd.Q_drewN | apply Kd.Q_drew)); exact HO422.out) (Kd.R_base ho0) hb); have n1_ := Aside0.mk (Kd.R_elder' (by (with_reducible repeat (first | apply Kd.R_alloc | apply Kd.R_drewN | apply Kd.R_drew)); exact HO424.out) (Kd.R_base ho0) hb); have n2_ := Aside0.mk (Kd.R_elder' (by (with_reducible repeat (first | apply Kd.R_alloc | apply Kd.R_drewN | apply Kd.R_drew)); exact HO430.out) (Kd.R_base ho0) hb); have n3_ := Aside0.mk (Kd.R_lower (Kd.R_new' (Kd.R_new' (Kd.R_new' ho0 (Kd.Q_lt (by (with_reducible repeat (first | apply Kd.Q_alloc | apply Kd.Q_drewN | apply Kd.Q_drew)); exact HO422.out))) (Kd.R_lt (by (with_reducible repeat (first | apply Kd.R_alloc | apply Kd.R_drewN | apply Kd.R_drew)); exact HO424.out))) (Kd.R_lt (by (with_reducible repeat (first | apply Kd.R_alloc | apply Kd.R_drewN | apply Kd.R_drew)); exact HO430.out))) (below_size (by repeat (first | (with_reducible first | exact HB.out | apply below_alloc | apply pw_below_drewN | apply below_drew1) | exact HB.out)))); have n4_ := Aside0.mk (below_step (by repeat (first | (with_reducible first | exact HB.out | apply below_alloc | apply pw_below_drewN | apply below_drew1) | exact HB.out)) hb); clear HO422; clear HO424; clear HO430; clear HB; have HO422 := n0_; have HO424 := n1_; have HO430 := n2_; have HO433 := n3_; have HB := n4_; clear n0_ n1_ n2_ n3_ n4_; (try clear hb); (try clear hb2); (try clear hk); (try clear hi); (try clear ho0); obtain ⟨Ao87, co87, eo87⟩ := Kd.R_slice HO433.out; subst eo87) | (go_at_call 40; (with_reducible refine (impl_CountMatches.calls kj51 _ _ t419 _ _ t431 t434 _ ?side1 ?side2 ?side3 ?side4 A75.out).mono ?_); (case side1 => repeat (first | exact (Kd.Q_reads' HO422.out).2.2 | (with_reducible refine Kd.C_alloc ?_ _) | (with_reducible refine Kd.C_drewN ?_ _) | (with_reducible refine Kd.C_drew ?_))); (case side2 => exact (Kd.Q_reads' HO422.out).2.1); (case side3 => repeat (first | exact (Kd.R_reads' HO433.out).2.2 | (with_reducible refine Kd.C_alloc ?_ _) | (with_reducible refine Kd.C_drewN ?_ _) | (with_reducible refine Kd.C_drew ?_))); (case side4 => exact (Kd.R_reads' HO433.out).2.1); rintro e w88 ⟨rfl, hb⟩; have n0_ := Aside0.mk (Kd.Q_below (by (with_reducible repeat (first | apply Kd.Q_alloc | apply Kd.Q_drewN | apply Kd.Q_drew)); exact HO422.out) hb); have n1_ := Aside0.mk (Kd.R_below (by (with_reducible repeat (first | apply Kd.R_alloc | apply Kd.R_drewN | apply Kd.R_drew)); exact HO424.out) hb); have n2_ := Aside0.mk (Kd.R_below (by (with_reducible repeat (first | apply Kd.R_alloc | apply Kd.R_drewN | apply Kd.R_drew)); exact HO430.out) hb); have n3_ := Aside0.mk (Kd.R_below (by (with_reducible repeat (first | apply Kd.R_alloc | apply Kd.R_drewN | apply Kd.R_drew)); exact HO433.out) hb); have n4_ := Aside0.mk (below_step (by repeat (first | (with_reducible first | exact HB.out | apply below_alloc | apply pw_below_drewN | apply below_drew1) | exact HB.out)) hb); clear HO422; clear HO424; clear HO430; clear HO433; clear HB; have HO422 := n0_; have HO424 := n1_; have HO430 := n2_; have HO433 := n3_; have HB := n4_; clear n0_ n1_ n2_ n3_ n4_; (try clear hb); (try clear hb2); (try clear hk); (try clear hi)) | (go_at_call 42; (with_reducible refine (impl_MatchSet.calls kj51 _ _ t419 t435 _ ?side1 ?side2 A76.out).mono ?_); (case side1 => repeat (first | exact (Kd.Q_reads' HO422.out).2.2 | (with_reducible refine Kd.C_alloc ?_ _) | (with_reducible refine Kd.C_drewN ?_ _) | (with_reducible refine Kd.C_drew ?_))); (case side2 => exact (Kd.Q_reads' HO422.out).2.1); rintro e w89 ⟨v436, rfl, ho0, hb⟩; have n0_ := Aside0.mk (Kd.Q_elder' (by (with_reducible repeat (first | apply Kd.Q_alloc | apply Kd.Q_drewN | apply Kd.Q_drew)); exact HO422.out) (Kd.R_base ho0) hb); have n1_ := Aside0.mk (Kd.R_elder' (by (with_reducible repeat (first | apply Kd.R_alloc | apply Kd.R_drewN | apply Kd.R_drew)); exact HO424.out) (Kd.R_base ho0) hb); have n2_ := Aside0.mk (Kd.R_elder' (by (with_reducible repeat (first | apply Kd.R_alloc | apply Kd.R_drewN | apply Kd.R_drew)); exact HO430.out) (Kd.R_base ho0) hb); have n3_ := Aside0.mk (Kd.R_elder' (by (with_reducible repeat (first | apply Kd.R_alloc | apply Kd.R_drewN | apply Kd.R_drew)); exact HO433.out) (Kd.R_base ho0) hb); have n4_ := Aside0.mk (Kd.R_lower (Kd.R_new' (Kd.R_new' (Kd.R_new' (Kd.R_new' ho0 (Kd.Q_lt (by (with_reducible repeat (first | apply Kd.Q_alloc | apply Kd.Q_drewN | apply Kd.Q_drew)); exact HO422.out))) (Kd.R_lt (by (with_reducible repeat (first | apply Kd.R_alloc | apply Kd.R_drewN | apply Kd.R_drew)); exact HO424.out))) (Kd.R_lt (by (with_reducible repeat (first | apply Kd.R_alloc | apply Kd.R_drewN | apply Kd.R_drew)); exact HO430.out))) (Kd.R_lt (by (with_reducible repeat (first | apply Kd.R_alloc | apply Kd.R_drewN | apply Kd.R_drew)); exact HO433.out))) (below_size (by repeat (first | (with_reducible first | exact HB.out | apply below_alloc | apply pw_below_drewN | apply below_drew1) | exact HB.out)))); have n5_ := Aside0.mk (below_step (by repeat (first | (with_reducible first | exact HB.out | apply below_alloc | apply pw_below_drewN | apply below_drew1) | exact HB.out)) hb); clear HO422; clear HO424; clear HO430; clear HO433; clear HB; have HO422 := n0_; have HO424 := n1_; have HO430 := n2_; have HO433 := n3_; have HO437 := n4_; have HB := n5_; clear n0_ n1_ n2_ n3_ n4_ n5_; (try clear hb); (try clear hb2); (try clear hk); (try clear hi); (try clear ho0); obtain ⟨Ao90, co90, eo90⟩ := Kd.R_slice HO437.out; subst eo90))
                          go_ret
                          exact ⟨by first | rfl | (simp [errW_none, errW_some] <;> rfl) | (simp [*, errW_none, errW_some] <;> rfl), by repeat (first | (with_reducible first | exact HB.out | apply below_alloc | apply pw_below_drewN | apply below_drew1) | exact HB.out)⟩
                        · rw [if_neg c72] at H
                          have c72b0 : decide (0 ≤ t425) = false := decide_eq_false c72
                          clear c72
                          exact absurd (Option.some.inj H) (by rw [HT.out]; decide)
                      · rw [if_neg c71] at H
                        have c71b0 : decide (t426 ≤ t427) = false := decide_eq_false c71
                        clear c71
                        exact absurd (Option.some.inj H) (by rw [HT.out]; decide)
                    · rw [if_neg c68] at H
                      have c68b0 : decide (t418 ≤ 1000) = false := decide_eq_false c68
                      clear c68
                      exact absurd (Option.some.inj H) (by rw [HT.out]; decide)
                  · rw [if_neg c67] at H
                    have c67b0 : decide (0 ≤ t418) = false := decide_eq_false c67
                    clear c67
                    exact absurd (Option.some.inj H) (by rw [HT.out]; decide)
    · rw [if_neg c7] at H
      have c7b0 : (t402 == t403) = false := beq_eq_false_iff_ne.mpr c7
      have c7b1 : (t402 != t403) = true := bne_iff_ne.mpr c7
      exact absurd (Option.some.inj H) (by rw [HT.out]; decide)

/-- THE ONE PURE STATEMENT of laws_FnChances: yours. -/
def laws_FnChances.Pure : Prop := ∀ (l0 : List Int), l0.length ≤ maxLen → l0.length * 1 ≤ 140737488351232 → (∀ x ∈ l0, (Lit.int .u8 x).wf = true) → ∃ k, laws_FnChances.f k l0 = some true
theorem laws_FnChances.walk (P : laws_FnChances.Pure) (a0 : Option Addr) (len0 cap0 : Nat) (z0 : List Int) (w : World) (w0 : (a0 = none ∧ len0 = 0 ∧ cap0 = 0 ∧ z0 = []) ∨ ∃ x, a0 = some x ∧ len0 ≤ cap0 ∧ cap0 ≤ maxLen ∧ z0.length = cap0 ∧ (∀ i, i < z0.length → w.cell? (x.add i) = some (.int .u8 (z0.getD i 0))) ∧ ∀ n ∈ z0, (Lit.int .u8 n).wf = true) (y0 : len0 * 1 ≤ 140737488351232) :
    Calls Try.prog 5 #[.slice a0 len0 cap0] w fun e w' => e = .returned (.bool true) ∧ Below w.heap.size w w' := by
  obtain ⟨l0, rfl, hr0, hm0, hw0, hc0⟩ := ReadsInt.ofRowC w0
  obtain ⟨k, h⟩ := P l0 hm0 y0 hw0
  refine (laws_FnChances.calls k _ _ l0 true w (Kd.C_of_reads (d := (0 : Int)) (h1 := fun _ => rfl) hr0) hc0 h rfl).mono ?_
  rintro e w' ⟨rfl, hd⟩
  exact ⟨rfl, hd⟩

end Go.Proofs.Ytkhgeockdjjhmaa.QFnChances
