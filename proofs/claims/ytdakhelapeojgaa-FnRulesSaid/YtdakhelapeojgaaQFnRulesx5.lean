/- What a call of each Go function that FnRules reaches comes to, as a Lean function: texts of the kit's print, turned by wip/remake.py. No condition beyond what each names. -/
import Derived.Test.YtdakhelapeojgaaQFnRulesx4
namespace Go.Proofs.Ytdakhelapeojgaa.QFnRules
open Go.RowKit Go.Proofs.YtdakhelapeojgaaW.PrintWords Go.Proofs.YtdakhelapeojgaaW.PrintLast Go.Proofs.YtdakhelapeojgaaW.PrintMore
open Go.Proofs.YtdakhelapeojgaaW.PrintWords renaming cell_far → QB, blk_drewN → QC, blk_alloc → QD, blk_drew → QE, pw_below_drewN → QF, blk_cell → QG, blk_frozen → QH, below_set → QI, below_drew1 → QJ, below_alloc → QK, blk_far → QL, blk_put → QN, below_size → QO, blk_below → QS
open Go.Proofs.YtdakhelapeojgaaW.PrintWords.Kd renaming Q_far → QM, R_far → QP, R_alloc → QT, R_drewN → QU
open Go.Proofs.YtdakhelapeojgaaW.PrintMore renaming far_r → QR
open Go.Proofs.YtdakhelapeojgaaW.PrintWords.Aside0 renaming mk → QV
attribute [local go_sem] max2_int min2_int max_two min_two max_three min_three max_four min_four   -- for this text's walks alone
set_option linter.unusedVariables false
set_option linter.unusedSimpArgs false

/-! ### spec_DrawEqualRules: function 68 -/
def spec_DrawEqualRules.f (k : Nat) (l0 : List Int) : Option (Int × Int × Bool × Bool × List Int × List Int × Int × Int × Int × Int × Bool × Bool × List Int × List Int × Int × Int) := (spec_l1New.f k l0).bind fun bt444 => ((spec_l22Any.f k bt444.1 bt444.2.1 bt444.2.2).bind fun bt448 => ((spec_l1Once.f bt444.1 bt448.2.2.2.2.2.2.2.2.1 bt448.2.2.2.2.2.2.2.2.2 2).bind fun bt463 => (if bt463.1 = true then ((spec_l22Copy.f bt448.1 bt448.2.1 bt448.2.2.1 bt448.2.2.2.1 bt448.2.2.2.2.1 bt448.2.2.2.2.2.1 bt448.2.2.2.2.2.2.1 bt448.2.2.2.2.2.2.2.1).bind fun bt466 => (some (bt448.1, bt448.2.1, bt448.2.2.1, bt448.2.2.2.1, bt448.2.2.2.2.1, bt448.2.2.2.2.2.1, bt448.2.2.2.2.2.2.1, bt448.2.2.2.2.2.2.2.1, bt466.1, bt466.2.1, bt466.2.2.1, bt466.2.2.2.1, bt466.2.2.2.2.1, bt466.2.2.2.2.2.1, bt466.2.2.2.2.2.2.1, bt466.2.2.2.2.2.2.2))) else ((spec_l22Any.f k bt444.1 bt463.2.1 bt463.2.2).bind fun bt478 => (some (bt448.1, bt448.2.1, bt448.2.2.1, bt448.2.2.2.1, bt448.2.2.2.2.1, bt448.2.2.2.2.2.1, bt448.2.2.2.2.2.2.1, bt448.2.2.2.2.2.2.2.1, bt478.1, bt478.2.1, bt478.2.2.1, bt478.2.2.2.1, bt478.2.2.2.2.1, bt478.2.2.2.2.2.1, bt478.2.2.2.2.2.2.1, bt478.2.2.2.2.2.2.2.1))))))
theorem spec_DrawEqualRules.mono : ∀ a0 k, LeO (spec_DrawEqualRules.f k a0) (spec_DrawEqualRules.f (k + 1) a0) := by
  intro a0 k
  unfold spec_DrawEqualRules.f
  repeat' first
      | (with_reducible exact spec_l1New.mono _ _)
      | (with_reducible exact spec_l22Any.mono _ _ _ _)
      | (with_reducible exact LeO.refl _)
      | (with_reducible exact LeO.none _)
      | (with_reducible refine LeO.ite ?_ ?_)
      | (with_reducible refine LeO.bind ?_ (fun _ => ?_))
      | exact spec_l1New.mono _ _
      | exact spec_l22Any.mono _ _ _ _
      | exact LeO.none _
      | refine LeO.ite ?_ ?_
      | refine LeO.bind ?_ (fun _ => ?_)
set_option maxHeartbeats 8000000 in
set_option maxRecDepth 100000 in
theorem spec_DrawEqualRules.calls (k : Nat) (A0 : Option Addr) (c0 : Nat) (l0 : List Int) (r1 : Int) (r2 : Int) (r3 : Bool) (r4 : Bool) (r5 : List Int) (r6 : List Int) (r7 : Int) (r8 : Int) (r9 : Int) (r10 : Int) (r11 : Bool) (r12 : Bool) (r13 : List Int) (r14 : List Int) (r15 : Int) (r16 : Int) (w : World) (hr0 : Kd.C (Kd.int .u8) w A0 l0.length l0) (hc0 : l0.length ≤ c0) (h : spec_DrawEqualRules.f k l0 = some (r1, r2, r3, r4, r5, r6, r7, r8, r9, r10, r11, r12, r13, r14, r15, r16)) :
    Calls Try.prog 68 #[.slice A0 l0.length c0] w fun e w' => ∃ v4_ v5_ v12_ v13_ : Value, e = .returned (.tuple #[.agg #[.int .i64 r1, .int .i64 r2, .bool r3, .bool r4, v4_, v5_, .int .i64 r7, .int .i64 r8], .agg #[.int .i64 r9, .int .i64 r10, .bool r11, .bool r12, v12_, v13_, .int .i64 r15, .int .i64 r16]]) ∧ Kd.Q (Kd.int .i64) 3 w' w.heap.size (fun k_ => some k_ ≠ (v5_ : Value).ownBlock ∧ some k_ ≠ (v12_ : Value).ownBlock ∧ some k_ ≠ (v13_ : Value).ownBlock) v4_ r5 ∧ Kd.R (Kd.int .i64) 3 w' w.heap.size (fun k_ => some k_ ≠ (v4_ : Value).ownBlock ∧ some k_ ≠ (v12_ : Value).ownBlock ∧ some k_ ≠ (v13_ : Value).ownBlock) v5_ r6 ∧ Kd.Q (Kd.int .i64) 3 w' w.heap.size (fun k_ => some k_ ≠ (v4_ : Value).ownBlock ∧ some k_ ≠ (v5_ : Value).ownBlock ∧ some k_ ≠ (v13_ : Value).ownBlock) v12_ r13 ∧ Kd.R (Kd.int .i64) 3 w' w.heap.size (fun k_ => some k_ ≠ (v4_ : Value).ownBlock ∧ some k_ ≠ (v5_ : Value).ownBlock ∧ some k_ ≠ (v12_ : Value).ownBlock) v13_ r14 ∧ Below w.heap.size w w' := by
  have hu74 := Try.underlying74
  have HR0 := QV hr0
  have HC0 := QV hc0
  clear hr0 hc0
  have HB := QV (Below.refl w.heap.size w)
  have H : ((spec_l1New.f k l0).bind fun bt444 => ((spec_l22Any.f k bt444.1 bt444.2.1 bt444.2.2).bind fun bt448 => ((spec_l1Once.f bt444.1 bt448.2.2.2.2.2.2.2.2.1 bt448.2.2.2.2.2.2.2.2.2 2).bind fun bt463 => (if bt463.1 = true then ((spec_l22Copy.f bt448.1 bt448.2.1 bt448.2.2.1 bt448.2.2.2.1 bt448.2.2.2.2.1 bt448.2.2.2.2.2.1 bt448.2.2.2.2.2.2.1 bt448.2.2.2.2.2.2.2.1).bind fun bt466 => (some (bt448.1, bt448.2.1, bt448.2.2.1, bt448.2.2.2.1, bt448.2.2.2.2.1, bt448.2.2.2.2.2.1, bt448.2.2.2.2.2.2.1, bt448.2.2.2.2.2.2.2.1, bt466.1, bt466.2.1, bt466.2.2.1, bt466.2.2.2.1, bt466.2.2.2.2.1, bt466.2.2.2.2.2.1, bt466.2.2.2.2.2.2.1, bt466.2.2.2.2.2.2.2))) else ((spec_l22Any.f k bt444.1 bt463.2.1 bt463.2.2).bind fun bt478 => (some (bt448.1, bt448.2.1, bt448.2.2.1, bt448.2.2.2.1, bt448.2.2.2.2.1, bt448.2.2.2.2.2.1, bt448.2.2.2.2.2.2.1, bt448.2.2.2.2.2.2.2.1, bt478.1, bt478.2.1, bt478.2.2.1, bt478.2.2.2.1, bt478.2.2.2.2.1, bt478.2.2.2.2.2.1, bt478.2.2.2.2.2.2.1, bt478.2.2.2.2.2.2.2.1))))))) = some (r1, r2, r3, r4, r5, r6, r7, r8, r9, r10, r11, r12, r13, r14, r15, r16) := h
  clear h
  replace H := Option.bind_eq_some_iff.mp H
  obtain ⟨⟨t444, t445, t446⟩, A20, H⟩ := H
  replace H : ((spec_l22Any.f k t444 t445 t446).bind fun bt448 => ((spec_l1Once.f t444 bt448.2.2.2.2.2.2.2.2.1 bt448.2.2.2.2.2.2.2.2.2 2).bind fun bt463 => (if bt463.1 = true then ((spec_l22Copy.f bt448.1 bt448.2.1 bt448.2.2.1 bt448.2.2.2.1 bt448.2.2.2.2.1 bt448.2.2.2.2.2.1 bt448.2.2.2.2.2.2.1 bt448.2.2.2.2.2.2.2.1).bind fun bt466 => (some (bt448.1, bt448.2.1, bt448.2.2.1, bt448.2.2.2.1, bt448.2.2.2.2.1, bt448.2.2.2.2.2.1, bt448.2.2.2.2.2.2.1, bt448.2.2.2.2.2.2.2.1, bt466.1, bt466.2.1, bt466.2.2.1, bt466.2.2.2.1, bt466.2.2.2.2.1, bt466.2.2.2.2.2.1, bt466.2.2.2.2.2.2.1, bt466.2.2.2.2.2.2.2))) else ((spec_l22Any.f k t444 bt463.2.1 bt463.2.2).bind fun bt478 => (some (bt448.1, bt448.2.1, bt448.2.2.1, bt448.2.2.2.1, bt448.2.2.2.2.1, bt448.2.2.2.2.2.1, bt448.2.2.2.2.2.2.1, bt448.2.2.2.2.2.2.2.1, bt478.1, bt478.2.1, bt478.2.2.1, bt478.2.2.2.1, bt478.2.2.2.2.1, bt478.2.2.2.2.2.1, bt478.2.2.2.2.2.2.1, bt478.2.2.2.2.2.2.2.1)))))) = some (r1, r2, r3, r4, r5, r6, r7, r8, r9, r10, r11, r12, r13, r14, r15, r16) := H
  have A2 := QV A20
  clear A20
  replace H := Option.bind_eq_some_iff.mp H
  obtain ⟨⟨t448, t449, t450, t451, t452, t455, t458, t459, t460, t461⟩, A30, H⟩ := H
  replace H : ((spec_l1Once.f t444 t460 t461 2).bind fun bt463 => (if bt463.1 = true then ((spec_l22Copy.f t448 t449 t450 t451 t452 t455 t458 t459).bind fun bt466 => (some (t448, t449, t450, t451, t452, t455, t458, t459, bt466.1, bt466.2.1, bt466.2.2.1, bt466.2.2.2.1, bt466.2.2.2.2.1, bt466.2.2.2.2.2.1, bt466.2.2.2.2.2.2.1, bt466.2.2.2.2.2.2.2))) else ((spec_l22Any.f k t444 bt463.2.1 bt463.2.2).bind fun bt478 => (some (t448, t449, t450, t451, t452, t455, t458, t459, bt478.1, bt478.2.1, bt478.2.2.1, bt478.2.2.2.1, bt478.2.2.2.2.1, bt478.2.2.2.2.2.1, bt478.2.2.2.2.2.2.1, bt478.2.2.2.2.2.2.2.1))))) = some (r1, r2, r3, r4, r5, r6, r7, r8, r9, r10, r11, r12, r13, r14, r15, r16) := H
  have A3 := QV A30
  clear A30
  replace H := Option.bind_eq_some_iff.mp H
  obtain ⟨⟨t463, t464, t465⟩, A40, H⟩ := H
  replace H : (if t463 = true then ((spec_l22Copy.f t448 t449 t450 t451 t452 t455 t458 t459).bind fun bt466 => (some (t448, t449, t450, t451, t452, t455, t458, t459, bt466.1, bt466.2.1, bt466.2.2.1, bt466.2.2.2.1, bt466.2.2.2.2.1, bt466.2.2.2.2.2.1, bt466.2.2.2.2.2.2.1, bt466.2.2.2.2.2.2.2))) else ((spec_l22Any.f k t444 t464 t465).bind fun bt478 => (some (t448, t449, t450, t451, t452, t455, t458, t459, bt478.1, bt478.2.1, bt478.2.2.1, bt478.2.2.2.1, bt478.2.2.2.2.1, bt478.2.2.2.2.2.1, bt478.2.2.2.2.2.2.1, bt478.2.2.2.2.2.2.2.1)))) = some (r1, r2, r3, r4, r5, r6, r7, r8, r9, r10, r11, r12, r13, r14, r15, r16) := H
  have A4 := QV A40
  clear A40
  by_cases c5 : t463 = true
  · subst c5
    have H1 : ((spec_l22Copy.f t448 t449 t450 t451 t452 t455 t458 t459).bind fun bt466 => (some (t448, t449, t450, t451, t452, t455, t458, t459, bt466.1, bt466.2.1, bt466.2.2.1, bt466.2.2.2.1, bt466.2.2.2.2.1, bt466.2.2.2.2.2.1, bt466.2.2.2.2.2.2.1, bt466.2.2.2.2.2.2.2))) = some (r1, r2, r3, r4, r5, r6, r7, r8, r9, r10, r11, r12, r13, r14, r15, r16) := by rw [if_pos rfl] at H; exact H
    clear H
    have H := H1
    clear H1
    replace H := Option.bind_eq_some_iff.mp H
    obtain ⟨⟨t466, t467, t468, t469, t470, t473, t476, t477⟩, A60, H⟩ := H
    replace H : (some (t448, t449, t450, t451, t452, t455, t458, t459, t466, t467, t468, t469, t470, t473, t476, t477)) = some (r1, r2, r3, r4, r5, r6, r7, r8, r9, r10, r11, r12, r13, r14, r15, r16) := H
    have A6 := QV A60
    clear A60
    simp only [Option.some.injEq, Prod.mk.injEq] at H
    obtain ⟨rfl, rfl, rfl, rfl, rfl, rfl, rfl, rfl, rfl, rfl, rfl, rfl, rfl, rfl, rfl, rfl⟩ := H
    go_enter Try.func68, Try.ntmps68
    try go_wp2_with (first | ((with_reducible refine gate_dst (N := 2) rfl ?_); refine box_event ?hg (N := 2) ?hd (cs := #[.int .i64 0, .int .i64 0, .bool false, .bool false, .slice none 0 0, .slice none 0 0, .int .i64 0, .int .i64 0]) (t := 74) ?hr ?_; (case hd => rfl); (case hg => rfl); (case hr => first | (go_simp; done) | (go_simp; rfl)); intro gb442 hg w7 hbox hb; have n0_ := QV (below_step (by repeat (first | (with_reducible first | exact HB.out | apply QK | apply QF | apply QJ) | exact HB.out)) hb); have n1_ := QV (hbox); have n2_ := QV ((by rw [hg]; exact (QO (by repeat (first | (with_reducible first | exact HB.out | apply QK | apply QF | apply QJ) | exact HB.out))) : w.heap.size ≤ gb442)); have n3_ := QV ((by rw [hg]; exact (QO (by repeat (first | (with_reducible first | exact HB.out | apply QK | apply QF | apply QJ) | exact HB.out))) : w.heap.size ≤ gb442)); clear HB; have HB := n0_; have BK442 := n1_; have GW442 := n2_; have GE442 := n3_; clear n0_ n1_ n2_ n3_; clear hb hbox hg) | ((with_reducible refine gate_dst (N := 3) rfl ?_); refine box_event ?hg (N := 3) ?hd (cs := #[.int .i64 0, .int .i64 0, .bool false, .bool false, .slice none 0 0, .slice none 0 0, .int .i64 0, .int .i64 0]) (t := 74) ?hr ?_; (case hd => rfl); (case hg => rfl); (case hr => first | (go_simp; done) | (go_simp; rfl)); intro gb443 hg w8 hbox hb; have n0_ := QV (QS (g := gb442) (o := .cells #[.int .i64 0, .int .i64 0, .bool false, .bool false, .slice none 0 0, .slice none 0 0, .int .i64 0, .int .i64 0] 74 (0, 0)) (by (with_reducible repeat (first | refine QC ?_ _ | refine QE ?_ | refine QD ?_ _)); exact BK442.out) hb); have n1_ := QV (below_step (by repeat (first | (with_reducible first | exact HB.out | apply QK | apply QF | apply QJ | refine QI ?_ GE442.out) | exact HB.out)) hb); have n2_ := QV (hbox); have n3_ := QV ((by rw [hg]; exact (QO (by repeat (first | (with_reducible first | exact HB.out | apply QK | apply QF | apply QJ | refine QI ?_ GE442.out) | exact HB.out))) : w.heap.size ≤ gb443)); have n4_ := QV ((by rw [hg]; exact (QO (by repeat (first | (with_reducible first | exact HB.out | apply QK | apply QF | apply QJ | refine QI ?_ GE442.out) | exact HB.out))) : w.heap.size ≤ gb443)); have n5_ := QV ((by rw [hg]; exact Nat.ne_of_lt (blk_lt (g := gb442) (o := .cells #[.int .i64 0, .int .i64 0, .bool false, .bool false, .slice none 0 0, .slice none 0 0, .int .i64 0, .int .i64 0] 74 (0, 0)) (by (with_reducible repeat (first | refine QC ?_ _ | refine QE ?_ | refine QD ?_ _)); exact BK442.out)) : gb442 ≠ gb443)); have n6_ := QV ((by rw [hg]; exact Nat.ne_of_gt (blk_lt (g := gb442) (o := .cells #[.int .i64 0, .int .i64 0, .bool false, .bool false, .slice none 0 0, .slice none 0 0, .int .i64 0, .int .i64 0] 74 (0, 0)) (by (with_reducible repeat (first | refine QC ?_ _ | refine QE ?_ | refine QD ?_ _)); exact BK442.out)) : gb443 ≠ gb442)); clear BK442; clear HB; have BK442 := n0_; have HB := n1_; have BK443 := n2_; have GW443 := n3_; have GE443 := n4_; have NB442_443 := n5_; have NB443_442 := n6_; clear n0_ n1_ n2_ n3_ n4_ n5_ n6_; clear hb hbox hg) | ((with_reducible refine gate_callee (f := 122) rfl ?_); refine goesL_ (some 7) rfl rfl Try.func122 (by kernel_rfl) rfl #[.slice A0 l0.length c0] rfl (by (try simp only [List.map_toArray, List.map_cons, List.map_nil]); first | done | rfl | (simp only [List.length_drop, List.length_take]; rfl)) ?_; (with_reducible refine (spec_l1New.calls k _ _ l0 t444 t445 t446 w _ ?side1 ?side2 ?side3 A2.out).mono ?_); (case side1 => repeat (first | (with_reducible first | exact HB.out | apply QK | apply QF | apply QJ | refine QI ?_ GE442.out | refine QI ?_ GE443.out) | exact HB.out)); (case side2 => exact HR0.out); (case side3 => exact HC0.out); rintro e w9 ⟨g447, rfl, hi, hb, hb2⟩; refine ⟨_, rfl, ?_⟩; have n0_ := QV (QS (g := gb442) (o := .cells #[.int .i64 0, .int .i64 0, .bool false, .bool false, .slice none 0 0, .slice none 0 0, .int .i64 0, .int .i64 0] 74 (0, 0)) (by (with_reducible repeat (first | refine QC ?_ _ | refine QE ?_ | refine QD ?_ _)); exact BK442.out) hb2); have n1_ := QV (QS (g := gb443) (o := .cells #[.int .i64 0, .int .i64 0, .bool false, .bool false, .slice none 0 0, .slice none 0 0, .int .i64 0, .int .i64 0] 74 (0, 0)) (by (with_reducible repeat (first | refine QC ?_ _ | refine QE ?_ | refine QD ?_ _)); exact BK443.out) hb2); have n2_ := QV (hb); have n3_ := QV (hi); have n4_ := QV (IsS123.ne_blk hi (QS (g := gb442) (o := .cells #[.int .i64 0, .int .i64 0, .bool false, .bool false, .slice none 0 0, .slice none 0 0, .int .i64 0, .int .i64 0] 74 (0, 0)) (by (with_reducible repeat (first | refine QC ?_ _ | refine QE ?_ | refine QD ?_ _)); exact BK442.out) hb2) (by decide)); have n5_ := QV (Ne.symm (IsS123.ne_blk hi (QS (g := gb442) (o := .cells #[.int .i64 0, .int .i64 0, .bool false, .bool false, .slice none 0 0, .slice none 0 0, .int .i64 0, .int .i64 0] 74 (0, 0)) (by (with_reducible repeat (first | refine QC ?_ _ | refine QE ?_ | refine QD ?_ _)); exact BK442.out) hb2) (by decide))); have n6_ := QV (IsS123.ne_blk hi (QS (g := gb443) (o := .cells #[.int .i64 0, .int .i64 0, .bool false, .bool false, .slice none 0 0, .slice none 0 0, .int .i64 0, .int .i64 0] 74 (0, 0)) (by (with_reducible repeat (first | refine QC ?_ _ | refine QE ?_ | refine QD ?_ _)); exact BK443.out) hb2) (by decide)); have n7_ := QV (Ne.symm (IsS123.ne_blk hi (QS (g := gb443) (o := .cells #[.int .i64 0, .int .i64 0, .bool false, .bool false, .slice none 0 0, .slice none 0 0, .int .i64 0, .int .i64 0] 74 (0, 0)) (by (with_reducible repeat (first | refine QC ?_ _ | refine QE ?_ | refine QD ?_ _)); exact BK443.out) hb2) (by decide))); clear BK442; clear BK443; clear HB; have BK442 := n0_; have BK443 := n1_; have HB := n2_; have HI447 := n3_; have NB447_442 := n4_; have NB442_447 := n5_; have NB447_443 := n6_; have NB443_447 := n7_; clear n0_ n1_ n2_ n3_ n4_ n5_ n6_ n7_; (try clear hb); (try clear hb2); (try clear hk); (try clear hi)) | ((with_reducible refine gate_callee (f := 123) rfl ?_); refine goesL_ (some 9) rfl rfl Try.func123 (by kernel_rfl) rfl #[.pointer (some ⟨g447, 0, none⟩)] rfl (by (try simp only [List.map_toArray, List.map_cons, List.map_nil]); first | done | rfl | (simp only [List.length_drop, List.length_take]; rfl)) ?_; (with_reducible refine (spec_l22Any.calls k g447 t444 t445 t446 t448 t449 t450 t451 t452 t455 t458 t459 t460 t461 w _ ?side1 ?side2 A3.out).mono ?_); (case side1 => repeat (first | (with_reducible first | exact HI447.out | apply IsS123.alloc | apply IsS123.drewN | apply IsS123.drew | apply IsS123.set_1 | apply IsS123.set_2 | refine IsS123.far ?_ NB447_442.out _ | refine IsS123.far ?_ NB447_443.out _) | exact HI447.out)); (case side2 => repeat (first | (with_reducible first | exact HB.out | apply QK | apply QF | apply QJ | refine QI ?_ (IsS123.ge HI447.out) | refine QI ?_ GE442.out | refine QI ?_ GE443.out) | exact HB.out)); rintro e w10 ⟨v453, v456, rfl, ho0, ho1, hi, hb, hk⟩; refine ⟨_, rfl, ?_⟩; have n0_ := QV (KeepBut.blk hk (g' := gb442) (o := .cells #[.int .i64 0, .int .i64 0, .bool false, .bool false, .slice none 0 0, .slice none 0 0, .int .i64 0, .int .i64 0] 74 (0, 0)) (by (with_reducible repeat (first | refine QC ?_ _ | refine QE ?_ | refine QD ?_ _)); exact BK442.out) NB442_447.out (by simp)); have n1_ := QV (KeepBut.blk hk (g' := gb443) (o := .cells #[.int .i64 0, .int .i64 0, .bool false, .bool false, .slice none 0 0, .slice none 0 0, .int .i64 0, .int .i64 0] 74 (0, 0)) (by (with_reducible repeat (first | refine QC ?_ _ | refine QE ?_ | refine QD ?_ _)); exact BK443.out) NB443_447.out (by simp)); have n2_ := QV (Kd.Q_lower ho0 (QO (by repeat (first | (with_reducible first | exact HB.out | apply QK | apply QF | apply QJ | refine QI ?_ (IsS123.ge HI447.out) | refine QI ?_ GE442.out | refine QI ?_ GE443.out) | exact HB.out)))); have n3_ := QV (Kd.R_lower ho1 (QO (by repeat (first | (with_reducible first | exact HB.out | apply QK | apply QF | apply QJ | refine QI ?_ (IsS123.ge HI447.out) | refine QI ?_ GE442.out | refine QI ?_ GE443.out) | exact HB.out)))); have n4_ := QV (hb); have n5_ := QV (hi); clear BK442; clear BK443; clear HB; clear HI447; have BK442 := n0_; have BK443 := n1_; have HO454 := n2_; have HO457 := n3_; have HB := n4_; have HI447 := n5_; clear n0_ n1_ n2_ n3_ n4_ n5_; (try clear hb); (try clear hb2); (try clear hk); (try clear hi); (try clear ho0); (try clear ho1)) | ((with_reducible refine gate_dst (N := 5) rfl ?_); refine box_event ?hg (N := 5) ?hd (cs := #[.int .i64 0, .int .i64 0, .bool false, .bool false, .slice none 0 0, .slice none 0 0, .int .i64 0, .int .i64 0]) (t := 74) ?hr ?_; (case hd => rfl); (case hg => rfl); (case hr => first | (go_simp; done) | (go_simp; rfl)); intro gb462 hg w11 hbox hb; have n0_ := QV (Kd.Q_below (by (with_reducible repeat (first | apply Kd.Q_alloc | apply Kd.Q_drewN | apply Kd.Q_drew)); exact HO454.out) hb); have n1_ := QV (Kd.R_below (by (with_reducible repeat (first | apply QT | apply QU | apply Kd.R_drew)); exact HO457.out) hb); have n2_ := QV (QS (g := gb442) (o := .cells #[.int .i64 0, .int .i64 0, .bool false, .bool false, .slice none 0 0, .slice none 0 0, .int .i64 0, .int .i64 0] 74 (0, 0)) (by (with_reducible repeat (first | refine QC ?_ _ | refine QE ?_ | refine QD ?_ _)); exact BK442.out) hb); have n3_ := QV (QS (g := gb443) (o := .cells #[.int .i64 0, .int .i64 0, .bool false, .bool false, .slice none 0 0, .slice none 0 0, .int .i64 0, .int .i64 0] 74 (0, 0)) (by (with_reducible repeat (first | refine QC ?_ _ | refine QE ?_ | refine QD ?_ _)); exact BK443.out) hb); have n4_ := QV (IsS123.below (by repeat (first | (with_reducible first | exact HI447.out | apply IsS123.alloc | apply IsS123.drewN | apply IsS123.drew | apply IsS123.set_1 | apply IsS123.set_2 | refine IsS123.far ?_ NB447_442.out _ | refine IsS123.far ?_ NB447_443.out _) | exact HI447.out)) hb); have n5_ := QV (below_step (by repeat (first | (with_reducible first | exact HB.out | apply QK | apply QF | apply QJ | refine QI ?_ (IsS123.ge HI447.out) | refine QI ?_ GE442.out | refine QI ?_ GE443.out) | exact HB.out)) hb); have n6_ := QV (hbox); have n7_ := QV ((by rw [hg]; exact (QO (by repeat (first | (with_reducible first | exact HB.out | apply QK | apply QF | apply QJ | refine QI ?_ (IsS123.ge HI447.out) | refine QI ?_ GE442.out | refine QI ?_ GE443.out) | exact HB.out))) : w.heap.size ≤ gb462)); have n8_ := QV ((by rw [hg]; exact (QO (by repeat (first | (with_reducible first | exact HB.out | apply QK | apply QF | apply QJ | refine QI ?_ (IsS123.ge HI447.out) | refine QI ?_ GE442.out | refine QI ?_ GE443.out) | exact HB.out))) : w.heap.size ≤ gb462)); have n9_ := QV ((by rw [hg]; exact Nat.ne_of_lt (blk_lt (g := gb442) (o := .cells #[.int .i64 0, .int .i64 0, .bool false, .bool false, .slice none 0 0, .slice none 0 0, .int .i64 0, .int .i64 0] 74 (0, 0)) (by (with_reducible repeat (first | refine QC ?_ _ | refine QE ?_ | refine QD ?_ _)); exact BK442.out)) : gb442 ≠ gb462)); have n10_ := QV ((by rw [hg]; exact Nat.ne_of_gt (blk_lt (g := gb442) (o := .cells #[.int .i64 0, .int .i64 0, .bool false, .bool false, .slice none 0 0, .slice none 0 0, .int .i64 0, .int .i64 0] 74 (0, 0)) (by (with_reducible repeat (first | refine QC ?_ _ | refine QE ?_ | refine QD ?_ _)); exact BK442.out)) : gb462 ≠ gb442)); have n11_ := QV ((by rw [hg]; exact Nat.ne_of_lt (blk_lt (g := gb443) (o := .cells #[.int .i64 0, .int .i64 0, .bool false, .bool false, .slice none 0 0, .slice none 0 0, .int .i64 0, .int .i64 0] 74 (0, 0)) (by (with_reducible repeat (first | refine QC ?_ _ | refine QE ?_ | refine QD ?_ _)); exact BK443.out)) : gb443 ≠ gb462)); have n12_ := QV ((by rw [hg]; exact Nat.ne_of_gt (blk_lt (g := gb443) (o := .cells #[.int .i64 0, .int .i64 0, .bool false, .bool false, .slice none 0 0, .slice none 0 0, .int .i64 0, .int .i64 0] 74 (0, 0)) (by (with_reducible repeat (first | refine QC ?_ _ | refine QE ?_ | refine QD ?_ _)); exact BK443.out)) : gb462 ≠ gb443)); have n13_ := QV ((by rw [hg]; exact Nat.ne_of_lt (IsS123.lt (show IsS123 w _ g447 t444 t460 t461 from by repeat (first | (with_reducible first | exact HI447.out | apply IsS123.alloc | apply IsS123.drewN | apply IsS123.drew | apply IsS123.set_1 | apply IsS123.set_2 | refine IsS123.far ?_ NB447_442.out _ | refine IsS123.far ?_ NB447_443.out _) | exact HI447.out))) : g447 ≠ gb462)); have n14_ := QV ((by rw [hg]; exact Nat.ne_of_gt (IsS123.lt (show IsS123 w _ g447 t444 t460 t461 from by repeat (first | (with_reducible first | exact HI447.out | apply IsS123.alloc | apply IsS123.drewN | apply IsS123.drew | apply IsS123.set_1 | apply IsS123.set_2 | refine IsS123.far ?_ NB447_442.out _ | refine IsS123.far ?_ NB447_443.out _) | exact HI447.out))) : gb462 ≠ g447)); clear HO454; clear HO457; clear BK442; clear BK443; clear HI447; clear HB; have HO454 := n0_; have HO457 := n1_; have BK442 := n2_; have BK443 := n3_; have HI447 := n4_; have HB := n5_; have BK462 := n6_; have GW462 := n7_; have GE462 := n8_; have NB442_462 := n9_; have NB462_442 := n10_; have NB443_462 := n11_; have NB462_443 := n12_; have NB447_462 := n13_; have NB462_447 := n14_; clear n0_ n1_ n2_ n3_ n4_ n5_ n6_ n7_ n8_ n9_ n10_ n11_ n12_ n13_ n14_; clear hb hbox hg; have hnb12 := NB462_442.out; have hnc12 := NB442_462.out; have hnb13 := NB462_443.out; have hnc13 := NB443_462.out; have hnb14 := NB462_447.out; have hnc14 := NB447_462.out; have hcz15_0 : w11.cell? ⟨gb462, 0, none⟩ = some (.int .i64 0) := (QG BK462.out 0).trans rfl; have hcz15_1 : w11.cell? ⟨gb462, 1, none⟩ = some (.int .i64 0) := (QG BK462.out 1).trans rfl; have hcz15_2 : w11.cell? ⟨gb462, 2, none⟩ = some (.bool false) := (QG BK462.out 2).trans rfl; have hcz15_3 : w11.cell? ⟨gb462, 3, none⟩ = some (.bool false) := (QG BK462.out 3).trans rfl; have hcz15_4 : w11.cell? ⟨gb462, 4, none⟩ = some (.slice none 0 0) := (QG BK462.out 4).trans rfl; have hcz15_5 : w11.cell? ⟨gb462, 5, none⟩ = some (.slice none 0 0) := (QG BK462.out 5).trans rfl; have hcz15_6 : w11.cell? ⟨gb462, 6, none⟩ = some (.int .i64 0) := (QG BK462.out 6).trans rfl; have hcz15_7 : w11.cell? ⟨gb462, 7, none⟩ = some (.int .i64 0) := (QG BK462.out 7).trans rfl; have hfz15_0 := QH BK462.out 0; have hfz15_1 := QH BK462.out 1; have hfz15_2 := QH BK462.out 2; have hfz15_3 := QH BK462.out 3; have hfz15_4 := QH BK462.out 4; have hfz15_5 := QH BK462.out 5; have hfz15_6 := QH BK462.out 6; have hfz15_7 := QH BK462.out 7; obtain ⟨Ao16, co16, eo16, _⟩ := Kd.Q_slice HO454.out; subst eo16; obtain ⟨Ao17, co17, eo17⟩ := Kd.R_slice HO457.out; subst eo17) | ((with_reducible refine gate_callee (f := 128) rfl ?_); refine goesL_ (some 11) rfl rfl Try.func128 (by kernel_rfl) rfl #[.pointer (some ⟨g447, 0, none⟩), .int .i64 2] rfl (by (try simp only [List.map_toArray, List.map_cons, List.map_nil]); first | done | rfl | (simp only [List.length_drop, List.length_take]; rfl)) ?_; (with_reducible refine (spec_l1Once.calls g447 t444 t460 t461 2 true t464 t465 w _ ?side1 ?side2 A4.out).mono ?_); (case side1 => repeat (first | (with_reducible first | exact HI447.out | apply IsS123.alloc | apply IsS123.drewN | apply IsS123.drew | apply IsS123.set_1 | apply IsS123.set_2 | refine IsS123.far ?_ NB447_442.out _ | refine IsS123.far ?_ NB447_443.out _ | refine IsS123.far ?_ NB447_462.out _) | exact HI447.out)); (case side2 => repeat (first | (with_reducible first | exact HB.out | apply QK | apply QF | apply QJ | refine QI ?_ (IsS123.ge HI447.out) | refine QI ?_ GE442.out | refine QI ?_ GE443.out | refine QI ?_ GE462.out) | exact HB.out)); rintro e w18 ⟨rfl, hi, hb, hk⟩; refine ⟨_, rfl, ?_⟩; have n0_ := QV (KeepBut.blk hk (g' := gb442) (o := .cells #[.int .i64 0, .int .i64 0, .bool false, .bool false, .slice none 0 0, .slice none 0 0, .int .i64 0, .int .i64 0] 74 (0, 0)) (by (with_reducible repeat (first | refine QC ?_ _ | refine QE ?_ | refine QD ?_ _)); refine QL ?_ NB442_462.out _; (with_reducible repeat (first | refine QC ?_ _ | refine QE ?_ | refine QD ?_ _)); refine QL ?_ NB442_462.out _; (with_reducible repeat (first | refine QC ?_ _ | refine QE ?_ | refine QD ?_ _)); refine QL ?_ NB442_462.out _; (with_reducible repeat (first | refine QC ?_ _ | refine QE ?_ | refine QD ?_ _)); refine QL ?_ NB442_462.out _; (with_reducible repeat (first | refine QC ?_ _ | refine QE ?_ | refine QD ?_ _)); refine QL ?_ NB442_462.out _; (with_reducible repeat (first | refine QC ?_ _ | refine QE ?_ | refine QD ?_ _)); refine QL ?_ NB442_462.out _; (with_reducible repeat (first | refine QC ?_ _ | refine QE ?_ | refine QD ?_ _)); refine QL ?_ NB442_462.out _; (with_reducible repeat (first | refine QC ?_ _ | refine QE ?_ | refine QD ?_ _)); refine QL ?_ NB442_462.out _; (with_reducible repeat (first | refine QC ?_ _ | refine QE ?_ | refine QD ?_ _)); exact BK442.out) NB442_447.out (by simp)); have n1_ := QV (KeepBut.blk hk (g' := gb443) (o := .cells #[.int .i64 0, .int .i64 0, .bool false, .bool false, .slice none 0 0, .slice none 0 0, .int .i64 0, .int .i64 0] 74 (0, 0)) (by (with_reducible repeat (first | refine QC ?_ _ | refine QE ?_ | refine QD ?_ _)); refine QL ?_ NB443_462.out _; (with_reducible repeat (first | refine QC ?_ _ | refine QE ?_ | refine QD ?_ _)); refine QL ?_ NB443_462.out _; (with_reducible repeat (first | refine QC ?_ _ | refine QE ?_ | refine QD ?_ _)); refine QL ?_ NB443_462.out _; (with_reducible repeat (first | refine QC ?_ _ | refine QE ?_ | refine QD ?_ _)); refine QL ?_ NB443_462.out _; (with_reducible repeat (first | refine QC ?_ _ | refine QE ?_ | refine QD ?_ _)); refine QL ?_ NB443_462.out _; (with_reducible repeat (first | refine QC ?_ _ | refine QE ?_ | refine QD ?_ _)); refine QL ?_ NB443_462.out _; (with_reducible repeat (first | refine QC ?_ _ | refine QE ?_ | refine QD ?_ _)); refine QL ?_ NB443_462.out _; (with_reducible repeat (first | refine QC ?_ _ | refine QE ?_ | refine QD ?_ _)); refine QL ?_ NB443_462.out _; (with_reducible repeat (first | refine QC ?_ _ | refine QE ?_ | refine QD ?_ _)); exact BK443.out) NB443_447.out (by simp)); have n2_ := QV (Kd.Q_mono (Kd.Q_keep (IsS123.apartQ (show IsS123 w _ g447 t444 t460 t461 from by repeat (first | (with_reducible first | exact HI447.out | apply IsS123.alloc | apply IsS123.drewN | apply IsS123.drew | apply IsS123.set_1 | apply IsS123.set_2 | refine IsS123.far ?_ NB447_442.out _ | refine IsS123.far ?_ NB447_443.out _ | refine IsS123.far ?_ NB447_462.out _) | exact HI447.out)) (by (with_reducible repeat (first | apply Kd.Q_alloc | apply Kd.Q_drewN | apply Kd.Q_drew)); exact (Kd.Q_mono (QM (p := ⟨gb462, 7, none⟩) (QM (p := ⟨gb462, 6, none⟩) (QM (p := ⟨gb462, 5, none⟩) (QM (p := ⟨gb462, 4, none⟩) (QM (p := ⟨gb462, 3, none⟩) (QM (p := ⟨gb462, 2, none⟩) (QM (p := ⟨gb462, 1, none⟩) (QM (p := ⟨gb462, 0, none⟩) (Kd.Q_types HO454.out BK462.out (by decide)) (fun _ hk => hk.2) (.int .i64 t448)) (fun _ hk => hk.2) (.int .i64 t449)) (fun _ hk => hk.2) (.bool t450)) (fun _ hk => hk.2) (.bool t451)) (fun _ hk => hk.2) (.slice Ao16 t452.length co16)) (fun _ hk => hk.2) (.slice Ao17 t455.length co17)) (fun _ hk => hk.2) (.int .i64 t458)) (fun _ hk => hk.2) (.int .i64 t459)) (fun _ h_ => h_.1))) (by decide)) hk (fun _ h => h.2)) (fun _ h => h.1)); have n3_ := QV (Kd.R_mono (Kd.R_keep (IsS123.apart (show IsS123 w _ g447 t444 t460 t461 from by repeat (first | (with_reducible first | exact HI447.out | apply IsS123.alloc | apply IsS123.drewN | apply IsS123.drew | apply IsS123.set_1 | apply IsS123.set_2 | refine IsS123.far ?_ NB447_442.out _ | refine IsS123.far ?_ NB447_443.out _ | refine IsS123.far ?_ NB447_462.out _) | exact HI447.out)) (by (with_reducible repeat (first | apply QT | apply QU | apply Kd.R_drew)); exact (Kd.R_mono (QR (QR (QR (QR (QR (QR (QR (QR (Kd.R_types HO457.out BK462.out (by decide)))))))))) (fun _ h_ => h_.1))) (by decide)) hk (fun _ h => h.2)) (fun _ h => h.1)); have n4_ := QV (KeepBut.blk hk (g' := gb462) (o := .cells #[.int .i64 t448, .int .i64 t449, .bool t450, .bool t451, .slice Ao16 t452.length co16, .slice Ao17 t455.length co17, .int .i64 t458, .int .i64 t459] 74 (0, 0)) (by (with_reducible repeat (first | refine QC ?_ _ | refine QE ?_ | refine QD ?_ _)); refine QN (cs := #[.int .i64 t448, .int .i64 t449, .bool t450, .bool t451, .slice Ao16 t452.length co16, .slice Ao17 t455.length co17, .int .i64 t458, .int .i64 0]) ?_ 7 _ rfl; (with_reducible repeat (first | refine QC ?_ _ | refine QE ?_ | refine QD ?_ _)); refine QN (cs := #[.int .i64 t448, .int .i64 t449, .bool t450, .bool t451, .slice Ao16 t452.length co16, .slice Ao17 t455.length co17, .int .i64 0, .int .i64 0]) ?_ 6 _ rfl; (with_reducible repeat (first | refine QC ?_ _ | refine QE ?_ | refine QD ?_ _)); refine QN (cs := #[.int .i64 t448, .int .i64 t449, .bool t450, .bool t451, .slice Ao16 t452.length co16, .slice none 0 0, .int .i64 0, .int .i64 0]) ?_ 5 _ rfl; (with_reducible repeat (first | refine QC ?_ _ | refine QE ?_ | refine QD ?_ _)); refine QN (cs := #[.int .i64 t448, .int .i64 t449, .bool t450, .bool t451, .slice none 0 0, .slice none 0 0, .int .i64 0, .int .i64 0]) ?_ 4 _ rfl; (with_reducible repeat (first | refine QC ?_ _ | refine QE ?_ | refine QD ?_ _)); refine QN (cs := #[.int .i64 t448, .int .i64 t449, .bool t450, .bool false, .slice none 0 0, .slice none 0 0, .int .i64 0, .int .i64 0]) ?_ 3 _ rfl; (with_reducible repeat (first | refine QC ?_ _ | refine QE ?_ | refine QD ?_ _)); refine QN (cs := #[.int .i64 t448, .int .i64 t449, .bool false, .bool false, .slice none 0 0, .slice none 0 0, .int .i64 0, .int .i64 0]) ?_ 2 _ rfl; (with_reducible repeat (first | refine QC ?_ _ | refine QE ?_ | refine QD ?_ _)); refine QN (cs := #[.int .i64 t448, .int .i64 0, .bool false, .bool false, .slice none 0 0, .slice none 0 0, .int .i64 0, .int .i64 0]) ?_ 1 _ rfl; (with_reducible repeat (first | refine QC ?_ _ | refine QE ?_ | refine QD ?_ _)); refine QN (cs := #[.int .i64 0, .int .i64 0, .bool false, .bool false, .slice none 0 0, .slice none 0 0, .int .i64 0, .int .i64 0]) ?_ 0 _ rfl; (with_reducible repeat (first | refine QC ?_ _ | refine QE ?_ | refine QD ?_ _)); exact BK462.out) NB462_447.out (by simp)); have n5_ := QV (hb); have n6_ := QV (hi); clear BK442; clear BK443; clear HO454; clear HO457; clear BK462; clear HB; clear HI447; have BK442 := n0_; have BK443 := n1_; have HO454 := n2_; have HO457 := n3_; have BK462 := n4_; have HB := n5_; have HI447 := n6_; clear n0_ n1_ n2_ n3_ n4_ n5_ n6_; (try clear hb); (try clear hb2); (try clear hk); (try clear hi)))
    have n0_ := QV (Kd.Q_drew HO454.out)
    have n1_ := QV (Kd.R_drew HO457.out)
    have n2_ := QV (QE BK442.out)
    have n3_ := QV (QE BK443.out)
    have n4_ := QV (QE BK462.out)
    have n5_ := QV (IsS123.drew HI447.out)
    have n6_ := QV (QJ HB.out)
    clear HO454
    clear HO457
    clear BK442
    clear BK443
    clear BK462
    clear HI447
    clear HB
    have HO454 := n0_
    have HO457 := n1_
    have BK442 := n2_
    have BK443 := n3_
    have BK462 := n4_
    have HI447 := n5_
    have HB := n6_
    clear n0_ n1_ n2_ n3_ n4_ n5_ n6_
    refine start_ (n := 5) (S := fun w' => w'.cell? ⟨gb462, 0, none⟩ = some (.int .i64 t448) ∧ w'.cell? ⟨gb462, 1, none⟩ = some (.int .i64 t449) ∧ w'.cell? ⟨gb462, 2, none⟩ = some (.bool t450) ∧ w'.cell? ⟨gb462, 3, none⟩ = some (.bool t451) ∧ w'.cell? ⟨gb462, 4, none⟩ = some (.slice Ao16 t452.length co16) ∧ w'.cell? ⟨gb462, 5, none⟩ = some (.slice Ao17 t455.length co17) ∧ w'.cell? ⟨gb462, 6, none⟩ = some (.int .i64 t458) ∧ w'.cell? ⟨gb462, 7, none⟩ = some (.int .i64 t459)) (ds := []) #[false, false, false, false, false] (by kernel_rfl) rfl rfl ⟨(QG BK462.out 0).trans rfl, (QG BK462.out 1).trans rfl, (QG BK462.out 2).trans rfl, (QG BK462.out 3).trans rfl, (QG BK462.out 4).trans rfl, (QG BK462.out 5).trans rfl, (QG BK462.out 6).trans rfl, (QG BK462.out 7).trans rfl⟩ (fun hHeld => ?_)
    generalize w18.drew = w19 at HO454 HO457 BK442 BK443 BK462 HI447 HB hHeld ⊢
    refine take_ (i := 0) (N := some 12) (v := ?_) (a' := ?_) #[true, false, false, false, false] rfl rfl (by kernel_rfl) (fun _ _ _ h => h) (Or.inl ⟨by rfl, ?_⟩) hHeld ?_ ?_
    rotate_left
    · rintro w' ⟨s0, s1, s2, s3, s4, s5, s6, s7⟩
      go_simp
      with_reducible rfl
    rotate_left
    · simp only [Act.put, List.setIfInBounds_toArray, List.set_cons_zero, List.set_cons_succ, i64_w, i32_w]
      rfl
    refine take_ (i := 1) (N := some 13) (v := ?_) (a' := ?_) #[true, true, false, false, false] rfl rfl (by kernel_rfl) (fun _ _ _ h => h) (Or.inl ⟨by rfl, ?_⟩) hHeld ?_ ?_
    rotate_left
    · rintro w' ⟨s0, s1, s2, s3, s4, s5, s6, s7⟩
      go_simp
      with_reducible rfl
    rotate_left
    · simp only [Act.put, List.setIfInBounds_toArray, List.set_cons_zero, List.set_cons_succ, i64_w, i32_w]
      rfl
    refine one_ (i := 2) (N := some 14) #[true, true, true, false, false] rfl rfl (by kernel_rfl) (by decide) (fun K hK => ?_)
    refine goes_ Try.func129 (by kernel_rfl) rfl #[.agg #[.int .i64 t448, .int .i64 t449, .bool t450, .bool t451, .slice Ao16 t452.length co16, .slice Ao17 t455.length co17, .int .i64 t458, .int .i64 t459]] (by rfl) rfl rfl (by (try simp only [List.map_toArray, List.map_cons, List.map_nil]); first | done | rfl | (simp only [List.length_drop, List.length_take]; rfl)) ?_
    with_reducible refine (spec_l22Copy.calls t448 t449 t450 t451 _ _ t452 _ _ t455 t458 t459 t466 t467 t468 t469 t470 t473 t476 t477 _ ?side1 ?side2 ?side3 ?side4 A6.out).mono ?_
    (case side1 => repeat (first | exact (Kd.Q_reads' HO454.out).2.2 | (with_reducible refine Kd.C_alloc ?_ _) | (with_reducible refine Kd.C_drewN ?_ _) | (with_reducible refine Kd.C_drew ?_)))
    (case side2 => exact (Kd.Q_reads' HO454.out).2.1)
    (case side3 => repeat (first | exact (Kd.R_reads' HO457.out).2.2 | (with_reducible refine Kd.C_alloc ?_ _) | (with_reducible refine Kd.C_drewN ?_ _) | (with_reducible refine Kd.C_drew ?_)))
    (case side4 => exact (Kd.R_reads' HO457.out).2.1)
    rintro e w20 ⟨v471, v474, rfl, ho0, ho1, hb⟩
    refine ⟨_, rfl, ?_⟩
    have n0_ := QV (Kd.Q_mono (Kd.Q_told (Kd.Q_told (Kd.Q_old (by (with_reducible repeat (first | apply Kd.Q_alloc | apply Kd.Q_drewN | apply Kd.Q_drew)); exact HO454.out) hb) (Kd.R_base ho0)) (Kd.R_base ho1)) (fun _ h_ => h_.1))
    have n1_ := QV (Kd.R_mono (Kd.R_told (Kd.R_told (Kd.R_old (by (with_reducible repeat (first | apply QT | apply QU | apply Kd.R_drew)); exact HO457.out) hb) (Kd.R_base ho0)) (Kd.R_base ho1)) (fun _ h_ => h_.1))
    have n2_ := QV (Kd.R_lower (Kd.R_new' (Kd.R_new' ho0 (Kd.Q_lt (by (with_reducible repeat (first | apply Kd.Q_alloc | apply Kd.Q_drewN | apply Kd.Q_drew)); exact HO454.out))) (Kd.R_lt (by (with_reducible repeat (first | apply QT | apply QU | apply Kd.R_drew)); exact HO457.out))) (QO (by repeat (first | (with_reducible first | exact HB.out | apply QK | apply QF | apply QJ | refine QI ?_ (IsS123.ge HI447.out) | refine QI ?_ GE442.out | refine QI ?_ GE443.out | refine QI ?_ GE462.out) | exact HB.out))))
    have n3_ := QV (Kd.R_lower (Kd.R_new' (Kd.R_new' ho1 (Kd.Q_lt (by (with_reducible repeat (first | apply Kd.Q_alloc | apply Kd.Q_drewN | apply Kd.Q_drew)); exact HO454.out))) (Kd.R_lt (by (with_reducible repeat (first | apply QT | apply QU | apply Kd.R_drew)); exact HO457.out))) (QO (by repeat (first | (with_reducible first | exact HB.out | apply QK | apply QF | apply QJ | refine QI ?_ (IsS123.ge HI447.out) | refine QI ?_ GE442.out | refine QI ?_ GE443.out | refine QI ?_ GE462.out) | exact HB.out))))
    have n4_ := QV (QS (g := gb442) (o := .cells #[.int .i64 0, .int .i64 0, .bool false, .bool false, .slice none 0 0, .slice none 0 0, .int .i64 0, .int .i64 0] 74 (0, 0)) (by (with_reducible repeat (first | refine QC ?_ _ | refine QE ?_ | refine QD ?_ _)); exact BK442.out) hb)
    have n5_ := QV (QS (g := gb443) (o := .cells #[.int .i64 0, .int .i64 0, .bool false, .bool false, .slice none 0 0, .slice none 0 0, .int .i64 0, .int .i64 0] 74 (0, 0)) (by (with_reducible repeat (first | refine QC ?_ _ | refine QE ?_ | refine QD ?_ _)); exact BK443.out) hb)
    have n6_ := QV (IsS123.below (by repeat (first | (with_reducible first | exact HI447.out | apply IsS123.alloc | apply IsS123.drewN | apply IsS123.drew | apply IsS123.set_1 | apply IsS123.set_2 | refine IsS123.far ?_ NB447_442.out _ | refine IsS123.far ?_ NB447_443.out _ | refine IsS123.far ?_ NB447_462.out _) | exact HI447.out)) hb)
    have n7_ := QV (QS (g := gb462) (o := .cells #[.int .i64 t448, .int .i64 t449, .bool t450, .bool t451, .slice Ao16 t452.length co16, .slice Ao17 t455.length co17, .int .i64 t458, .int .i64 t459] 74 (0, 0)) (by (with_reducible repeat (first | refine QC ?_ _ | refine QE ?_ | refine QD ?_ _)); exact BK462.out) hb)
    have n8_ := QV (below_step (by repeat (first | (with_reducible first | exact HB.out | apply QK | apply QF | apply QJ | refine QI ?_ (IsS123.ge HI447.out) | refine QI ?_ GE442.out | refine QI ?_ GE443.out | refine QI ?_ GE462.out) | exact HB.out)) hb)
    clear HO454
    clear HO457
    clear BK442
    clear BK443
    clear HI447
    clear BK462
    clear HB
    have HO454 := n0_
    have HO457 := n1_
    have HO472 := n2_
    have HO475 := n3_
    have BK442 := n4_
    have BK443 := n5_
    have HI447 := n6_
    have BK462 := n7_
    have HB := n8_
    clear n0_ n1_ n2_ n3_ n4_ n5_ n6_ n7_ n8_
    (try clear hb)
    (try clear hb2)
    (try clear hk)
    (try clear hi)
    (try clear ho0)
    (try clear ho1)
    obtain ⟨Ao33, co33, eo33⟩ := Kd.R_slice HO472.out
    (first | subst eo33 | (injection eo33 with f1_ f2_ f3_; have f4_ := f1_.symm; have f5_ := f3_.symm; clear f1_ f2_ f3_; subst f4_; subst f5_))
    obtain ⟨Ao35, co35, eo35⟩ := Kd.R_slice HO475.out
    (first | subst eo35 | (injection eo35 with f1_ f2_ f3_; have f4_ := f1_.symm; have f5_ := f3_.symm; clear f1_ f2_ f3_; subst f4_; subst f5_))
    refine hK.out _ _ ⟨(QG BK462.out 0).trans rfl, (QG BK462.out 1).trans rfl, (QG BK462.out 2).trans rfl, (QG BK462.out 3).trans rfl, (QG BK462.out 4).trans rfl, (QG BK462.out 5).trans rfl, (QG BK462.out 6).trans rfl, (QG BK462.out 7).trans rfl⟩ (fun hHeld => ?_)
    clear hK K
    refine norm_ (a' := ?_) ?_ ?_
    rotate_left
    · show Act.put _ (some 14) _ = _
      simp only [Act.put, List.setIfInBounds_toArray, List.set_cons_zero, List.set_cons_succ, i64_w, i32_w]
      rfl
    refine one_ (i := 3) (N := none) #[true, true, true, true, false] rfl rfl (by kernel_rfl) (by decide) (fun K hK => ?_)
    have hs21 : w20.cell? ⟨gb442, 0, none⟩ = some (.int .i64 0) := (QG BK442.out 0).trans rfl
    have hfs21 := QH BK442.out 0
    have hns21_1 := NB443_442.out
    have hns21_2 := NB462_442.out
    have hms21_1 := NB442_443.out
    have hms21_2 := NB442_462.out
    have hs22 : w20.cell? ⟨gb442, 1, none⟩ = some (.int .i64 0) := (QG BK442.out 1).trans rfl
    have hfs22 := QH BK442.out 1
    have hns22_1 := NB443_442.out
    have hns22_2 := NB462_442.out
    have hms22_1 := NB442_443.out
    have hms22_2 := NB442_462.out
    have hs23 : w20.cell? ⟨gb442, 2, none⟩ = some (.bool false) := (QG BK442.out 2).trans rfl
    have hfs23 := QH BK442.out 2
    have hns23_1 := NB443_442.out
    have hns23_2 := NB462_442.out
    have hms23_1 := NB442_443.out
    have hms23_2 := NB442_462.out
    have hs24 : w20.cell? ⟨gb442, 3, none⟩ = some (.bool false) := (QG BK442.out 3).trans rfl
    have hfs24 := QH BK442.out 3
    have hns24_1 := NB443_442.out
    have hns24_2 := NB462_442.out
    have hms24_1 := NB442_443.out
    have hms24_2 := NB442_462.out
    have hs25 : w20.cell? ⟨gb442, 4, none⟩ = some (.slice none 0 0) := (QG BK442.out 4).trans rfl
    have hfs25 := QH BK442.out 4
    have hns25_1 := NB443_442.out
    have hns25_2 := NB462_442.out
    have hms25_1 := NB442_443.out
    have hms25_2 := NB442_462.out
    have hs26 : w20.cell? ⟨gb442, 5, none⟩ = some (.slice none 0 0) := (QG BK442.out 5).trans rfl
    have hfs26 := QH BK442.out 5
    have hns26_1 := NB443_442.out
    have hns26_2 := NB462_442.out
    have hms26_1 := NB442_443.out
    have hms26_2 := NB442_462.out
    have hs27 : w20.cell? ⟨gb442, 6, none⟩ = some (.int .i64 0) := (QG BK442.out 6).trans rfl
    have hfs27 := QH BK442.out 6
    have hns27_1 := NB443_442.out
    have hns27_2 := NB462_442.out
    have hms27_1 := NB442_443.out
    have hms27_2 := NB442_462.out
    have hs28 : w20.cell? ⟨gb442, 7, none⟩ = some (.int .i64 0) := (QG BK442.out 7).trans rfl
    have hfs28 := QH BK442.out 7
    have hns28_1 := NB443_442.out
    have hns28_2 := NB462_442.out
    have hms28_1 := NB442_443.out
    have hms28_2 := NB442_462.out
    refine skip_ (w1 := ?_) (by rfl) rfl ?_ ?_
    rotate_left
    · go_simp
      rfl
    refine hK.out _ _ ⟨((QB (p := ⟨gb442, _, none⟩) NB462_442.out _).trans (((QB (p := ⟨gb442, _, none⟩) NB462_442.out _).trans (((QB (p := ⟨gb442, _, none⟩) NB462_442.out _).trans (((QB (p := ⟨gb442, _, none⟩) NB462_442.out _).trans (((QB (p := ⟨gb442, _, none⟩) NB462_442.out _).trans (((QB (p := ⟨gb442, _, none⟩) NB462_442.out _).trans (((QB (p := ⟨gb442, _, none⟩) NB462_442.out _).trans (((QB (p := ⟨gb442, _, none⟩) NB462_442.out _).trans (hHeld.1)))))))))))))))), ((QB (p := ⟨gb442, _, none⟩) NB462_442.out _).trans (((QB (p := ⟨gb442, _, none⟩) NB462_442.out _).trans (((QB (p := ⟨gb442, _, none⟩) NB462_442.out _).trans (((QB (p := ⟨gb442, _, none⟩) NB462_442.out _).trans (((QB (p := ⟨gb442, _, none⟩) NB462_442.out _).trans (((QB (p := ⟨gb442, _, none⟩) NB462_442.out _).trans (((QB (p := ⟨gb442, _, none⟩) NB462_442.out _).trans (((QB (p := ⟨gb442, _, none⟩) NB462_442.out _).trans (hHeld.2.1)))))))))))))))), ((QB (p := ⟨gb442, _, none⟩) NB462_442.out _).trans (((QB (p := ⟨gb442, _, none⟩) NB462_442.out _).trans (((QB (p := ⟨gb442, _, none⟩) NB462_442.out _).trans (((QB (p := ⟨gb442, _, none⟩) NB462_442.out _).trans (((QB (p := ⟨gb442, _, none⟩) NB462_442.out _).trans (((QB (p := ⟨gb442, _, none⟩) NB462_442.out _).trans (((QB (p := ⟨gb442, _, none⟩) NB462_442.out _).trans (((QB (p := ⟨gb442, _, none⟩) NB462_442.out _).trans (hHeld.2.2.1)))))))))))))))), ((QB (p := ⟨gb442, _, none⟩) NB462_442.out _).trans (((QB (p := ⟨gb442, _, none⟩) NB462_442.out _).trans (((QB (p := ⟨gb442, _, none⟩) NB462_442.out _).trans (((QB (p := ⟨gb442, _, none⟩) NB462_442.out _).trans (((QB (p := ⟨gb442, _, none⟩) NB462_442.out _).trans (((QB (p := ⟨gb442, _, none⟩) NB462_442.out _).trans (((QB (p := ⟨gb442, _, none⟩) NB462_442.out _).trans (((QB (p := ⟨gb442, _, none⟩) NB462_442.out _).trans (hHeld.2.2.2.1)))))))))))))))), ((QB (p := ⟨gb442, _, none⟩) NB462_442.out _).trans (((QB (p := ⟨gb442, _, none⟩) NB462_442.out _).trans (((QB (p := ⟨gb442, _, none⟩) NB462_442.out _).trans (((QB (p := ⟨gb442, _, none⟩) NB462_442.out _).trans (((QB (p := ⟨gb442, _, none⟩) NB462_442.out _).trans (((QB (p := ⟨gb442, _, none⟩) NB462_442.out _).trans (((QB (p := ⟨gb442, _, none⟩) NB462_442.out _).trans (((QB (p := ⟨gb442, _, none⟩) NB462_442.out _).trans (hHeld.2.2.2.2.1)))))))))))))))), ((QB (p := ⟨gb442, _, none⟩) NB462_442.out _).trans (((QB (p := ⟨gb442, _, none⟩) NB462_442.out _).trans (((QB (p := ⟨gb442, _, none⟩) NB462_442.out _).trans (((QB (p := ⟨gb442, _, none⟩) NB462_442.out _).trans (((QB (p := ⟨gb442, _, none⟩) NB462_442.out _).trans (((QB (p := ⟨gb442, _, none⟩) NB462_442.out _).trans (((QB (p := ⟨gb442, _, none⟩) NB462_442.out _).trans (((QB (p := ⟨gb442, _, none⟩) NB462_442.out _).trans (hHeld.2.2.2.2.2.1)))))))))))))))), ((QB (p := ⟨gb442, _, none⟩) NB462_442.out _).trans (((QB (p := ⟨gb442, _, none⟩) NB462_442.out _).trans (((QB (p := ⟨gb442, _, none⟩) NB462_442.out _).trans (((QB (p := ⟨gb442, _, none⟩) NB462_442.out _).trans (((QB (p := ⟨gb442, _, none⟩) NB462_442.out _).trans (((QB (p := ⟨gb442, _, none⟩) NB462_442.out _).trans (((QB (p := ⟨gb442, _, none⟩) NB462_442.out _).trans (((QB (p := ⟨gb442, _, none⟩) NB462_442.out _).trans (hHeld.2.2.2.2.2.2.1)))))))))))))))), ((QB (p := ⟨gb442, _, none⟩) NB462_442.out _).trans (((QB (p := ⟨gb442, _, none⟩) NB462_442.out _).trans (((QB (p := ⟨gb442, _, none⟩) NB462_442.out _).trans (((QB (p := ⟨gb442, _, none⟩) NB462_442.out _).trans (((QB (p := ⟨gb442, _, none⟩) NB462_442.out _).trans (((QB (p := ⟨gb442, _, none⟩) NB462_442.out _).trans (((QB (p := ⟨gb442, _, none⟩) NB462_442.out _).trans (((QB (p := ⟨gb442, _, none⟩) NB462_442.out _).trans (hHeld.2.2.2.2.2.2.2))))))))))))))))⟩ (fun hHeld => ?_)
    clear hK K
    refine one_ (i := 4) (N := none) #[true, true, true, true, true] rfl rfl (by kernel_rfl) (by decide) (fun K hK => ?_)
    have BKc := QV (show ((((((((w20.setCell ⟨gb442, 0, none⟩ (.int .i64 t448)).setCell ⟨gb442, 1, none⟩ (.int .i64 t449)).setCell ⟨gb442, 2, none⟩ (.bool t450)).setCell ⟨gb442, 3, none⟩ (.bool t451)).setCell ⟨gb442, 4, none⟩ (.slice Ao16 t452.length co16)).setCell ⟨gb442, 5, none⟩ (.slice Ao17 t455.length co17)).setCell ⟨gb442, 6, none⟩ (.int .i64 t458)).setCell ⟨gb442, 7, none⟩ (.int .i64 t459)).heap[gb443]? = some (.cells #[.int .i64 0, .int .i64 0, .bool false, .bool false, .slice none 0 0, .slice none 0 0, .int .i64 0, .int .i64 0] 74 (0, 0)) from by refine QL ?_ NB443_442.out _; refine QL ?_ NB443_442.out _; refine QL ?_ NB443_442.out _; refine QL ?_ NB443_442.out _; refine QL ?_ NB443_442.out _; refine QL ?_ NB443_442.out _; refine QL ?_ NB443_442.out _; refine QL ?_ NB443_442.out _; exact BK443.out)
    generalize hW2 : ((((((((w20.setCell ⟨gb442, 0, none⟩ (.int .i64 t448)).setCell ⟨gb442, 1, none⟩ (.int .i64 t449)).setCell ⟨gb442, 2, none⟩ (.bool t450)).setCell ⟨gb442, 3, none⟩ (.bool t451)).setCell ⟨gb442, 4, none⟩ (.slice Ao16 t452.length co16)).setCell ⟨gb442, 5, none⟩ (.slice Ao17 t455.length co17)).setCell ⟨gb442, 6, none⟩ (.int .i64 t458)).setCell ⟨gb442, 7, none⟩ (.int .i64 t459)) = W2 at BKc hHeld ⊢
    have hs29 : W2.cell? ⟨gb443, 0, none⟩ = some (.int .i64 0) := (QG BKc.out 0).trans rfl
    have hfs29 := QH BKc.out 0
    have hs30 : W2.cell? ⟨gb443, 1, none⟩ = some (.int .i64 0) := (QG BKc.out 1).trans rfl
    have hfs30 := QH BKc.out 1
    have hs31 : W2.cell? ⟨gb443, 2, none⟩ = some (.bool false) := (QG BKc.out 2).trans rfl
    have hfs31 := QH BKc.out 2
    have hs32 : W2.cell? ⟨gb443, 3, none⟩ = some (.bool false) := (QG BKc.out 3).trans rfl
    have hfs32 := QH BKc.out 3
    have hs34 : W2.cell? ⟨gb443, 4, none⟩ = some (.slice none 0 0) := (QG BKc.out 4).trans rfl
    have hfs34 := QH BKc.out 4
    have hs36 : W2.cell? ⟨gb443, 5, none⟩ = some (.slice none 0 0) := (QG BKc.out 5).trans rfl
    have hfs36 := QH BKc.out 5
    have hs37 : W2.cell? ⟨gb443, 6, none⟩ = some (.int .i64 0) := (QG BKc.out 6).trans rfl
    have hfs37 := QH BKc.out 6
    have hs38 : W2.cell? ⟨gb443, 7, none⟩ = some (.int .i64 0) := (QG BKc.out 7).trans rfl
    have hfs38 := QH BKc.out 7
    refine skip_ (w1 := ?_) (by rfl) rfl ?_ ?_
    rotate_left
    · go_simp
      rfl
    subst hW2
    refine hK.out _ _ ⟨((QB (p := ⟨gb443, _, none⟩) NB462_443.out _).trans (((QB (p := ⟨gb443, _, none⟩) NB462_443.out _).trans (((QB (p := ⟨gb443, _, none⟩) NB462_443.out _).trans (((QB (p := ⟨gb443, _, none⟩) NB462_443.out _).trans (((QB (p := ⟨gb443, _, none⟩) NB462_443.out _).trans (((QB (p := ⟨gb443, _, none⟩) NB462_443.out _).trans (((QB (p := ⟨gb443, _, none⟩) NB462_443.out _).trans (((QB (p := ⟨gb443, _, none⟩) NB462_443.out _).trans (hHeld.1)))))))))))))))), ((QB (p := ⟨gb443, _, none⟩) NB462_443.out _).trans (((QB (p := ⟨gb443, _, none⟩) NB462_443.out _).trans (((QB (p := ⟨gb443, _, none⟩) NB462_443.out _).trans (((QB (p := ⟨gb443, _, none⟩) NB462_443.out _).trans (((QB (p := ⟨gb443, _, none⟩) NB462_443.out _).trans (((QB (p := ⟨gb443, _, none⟩) NB462_443.out _).trans (((QB (p := ⟨gb443, _, none⟩) NB462_443.out _).trans (((QB (p := ⟨gb443, _, none⟩) NB462_443.out _).trans (hHeld.2.1)))))))))))))))), ((QB (p := ⟨gb443, _, none⟩) NB462_443.out _).trans (((QB (p := ⟨gb443, _, none⟩) NB462_443.out _).trans (((QB (p := ⟨gb443, _, none⟩) NB462_443.out _).trans (((QB (p := ⟨gb443, _, none⟩) NB462_443.out _).trans (((QB (p := ⟨gb443, _, none⟩) NB462_443.out _).trans (((QB (p := ⟨gb443, _, none⟩) NB462_443.out _).trans (((QB (p := ⟨gb443, _, none⟩) NB462_443.out _).trans (((QB (p := ⟨gb443, _, none⟩) NB462_443.out _).trans (hHeld.2.2.1)))))))))))))))), ((QB (p := ⟨gb443, _, none⟩) NB462_443.out _).trans (((QB (p := ⟨gb443, _, none⟩) NB462_443.out _).trans (((QB (p := ⟨gb443, _, none⟩) NB462_443.out _).trans (((QB (p := ⟨gb443, _, none⟩) NB462_443.out _).trans (((QB (p := ⟨gb443, _, none⟩) NB462_443.out _).trans (((QB (p := ⟨gb443, _, none⟩) NB462_443.out _).trans (((QB (p := ⟨gb443, _, none⟩) NB462_443.out _).trans (((QB (p := ⟨gb443, _, none⟩) NB462_443.out _).trans (hHeld.2.2.2.1)))))))))))))))), ((QB (p := ⟨gb443, _, none⟩) NB462_443.out _).trans (((QB (p := ⟨gb443, _, none⟩) NB462_443.out _).trans (((QB (p := ⟨gb443, _, none⟩) NB462_443.out _).trans (((QB (p := ⟨gb443, _, none⟩) NB462_443.out _).trans (((QB (p := ⟨gb443, _, none⟩) NB462_443.out _).trans (((QB (p := ⟨gb443, _, none⟩) NB462_443.out _).trans (((QB (p := ⟨gb443, _, none⟩) NB462_443.out _).trans (((QB (p := ⟨gb443, _, none⟩) NB462_443.out _).trans (hHeld.2.2.2.2.1)))))))))))))))), ((QB (p := ⟨gb443, _, none⟩) NB462_443.out _).trans (((QB (p := ⟨gb443, _, none⟩) NB462_443.out _).trans (((QB (p := ⟨gb443, _, none⟩) NB462_443.out _).trans (((QB (p := ⟨gb443, _, none⟩) NB462_443.out _).trans (((QB (p := ⟨gb443, _, none⟩) NB462_443.out _).trans (((QB (p := ⟨gb443, _, none⟩) NB462_443.out _).trans (((QB (p := ⟨gb443, _, none⟩) NB462_443.out _).trans (((QB (p := ⟨gb443, _, none⟩) NB462_443.out _).trans (hHeld.2.2.2.2.2.1)))))))))))))))), ((QB (p := ⟨gb443, _, none⟩) NB462_443.out _).trans (((QB (p := ⟨gb443, _, none⟩) NB462_443.out _).trans (((QB (p := ⟨gb443, _, none⟩) NB462_443.out _).trans (((QB (p := ⟨gb443, _, none⟩) NB462_443.out _).trans (((QB (p := ⟨gb443, _, none⟩) NB462_443.out _).trans (((QB (p := ⟨gb443, _, none⟩) NB462_443.out _).trans (((QB (p := ⟨gb443, _, none⟩) NB462_443.out _).trans (((QB (p := ⟨gb443, _, none⟩) NB462_443.out _).trans (hHeld.2.2.2.2.2.2.1)))))))))))))))), ((QB (p := ⟨gb443, _, none⟩) NB462_443.out _).trans (((QB (p := ⟨gb443, _, none⟩) NB462_443.out _).trans (((QB (p := ⟨gb443, _, none⟩) NB462_443.out _).trans (((QB (p := ⟨gb443, _, none⟩) NB462_443.out _).trans (((QB (p := ⟨gb443, _, none⟩) NB462_443.out _).trans (((QB (p := ⟨gb443, _, none⟩) NB462_443.out _).trans (((QB (p := ⟨gb443, _, none⟩) NB462_443.out _).trans (((QB (p := ⟨gb443, _, none⟩) NB462_443.out _).trans (hHeld.2.2.2.2.2.2.2))))))))))))))))⟩ (fun hHeld => ?_)
    clear hK K
    refine done_ (by kernel_rfl) ?_
    try go_wp2
    refine bodyPost_ret (results_cc rfl _ _ gb442 gb443 74 74 #[.int .i64 t448, .int .i64 t449, .bool t450, .bool t451, .slice Ao16 t452.length co16, .slice Ao17 t455.length co17, .int .i64 t458, .int .i64 t459] #[.int .i64 t466, .int .i64 t467, .bool t468, .bool t469, .slice Ao33 t470.length co33, .slice Ao35 t473.length co35, .int .i64 t476, .int .i64 t477] (0, 0) (0, 0) _ _ rfl (by (with_reducible repeat (first | refine QC ?_ _ | refine QE ?_ | refine QD ?_ _)); refine QL ?_ NB442_443.out _; (with_reducible repeat (first | refine QC ?_ _ | refine QE ?_ | refine QD ?_ _)); refine QL ?_ NB442_443.out _; (with_reducible repeat (first | refine QC ?_ _ | refine QE ?_ | refine QD ?_ _)); refine QL ?_ NB442_443.out _; (with_reducible repeat (first | refine QC ?_ _ | refine QE ?_ | refine QD ?_ _)); refine QL ?_ NB442_443.out _; (with_reducible repeat (first | refine QC ?_ _ | refine QE ?_ | refine QD ?_ _)); refine QL ?_ NB442_443.out _; (with_reducible repeat (first | refine QC ?_ _ | refine QE ?_ | refine QD ?_ _)); refine QL ?_ NB442_443.out _; (with_reducible repeat (first | refine QC ?_ _ | refine QE ?_ | refine QD ?_ _)); refine QL ?_ NB442_443.out _; (with_reducible repeat (first | refine QC ?_ _ | refine QE ?_ | refine QD ?_ _)); refine QL ?_ NB442_443.out _; (with_reducible repeat (first | refine QC ?_ _ | refine QE ?_ | refine QD ?_ _)); refine QN (cs := #[.int .i64 t448, .int .i64 t449, .bool t450, .bool t451, .slice Ao16 t452.length co16, .slice Ao17 t455.length co17, .int .i64 t458, .int .i64 0]) ?_ 7 _ rfl; (with_reducible repeat (first | refine QC ?_ _ | refine QE ?_ | refine QD ?_ _)); refine QN (cs := #[.int .i64 t448, .int .i64 t449, .bool t450, .bool t451, .slice Ao16 t452.length co16, .slice Ao17 t455.length co17, .int .i64 0, .int .i64 0]) ?_ 6 _ rfl; (with_reducible repeat (first | refine QC ?_ _ | refine QE ?_ | refine QD ?_ _)); refine QN (cs := #[.int .i64 t448, .int .i64 t449, .bool t450, .bool t451, .slice Ao16 t452.length co16, .slice none 0 0, .int .i64 0, .int .i64 0]) ?_ 5 _ rfl; (with_reducible repeat (first | refine QC ?_ _ | refine QE ?_ | refine QD ?_ _)); refine QN (cs := #[.int .i64 t448, .int .i64 t449, .bool t450, .bool t451, .slice none 0 0, .slice none 0 0, .int .i64 0, .int .i64 0]) ?_ 4 _ rfl; (with_reducible repeat (first | refine QC ?_ _ | refine QE ?_ | refine QD ?_ _)); refine QN (cs := #[.int .i64 t448, .int .i64 t449, .bool t450, .bool false, .slice none 0 0, .slice none 0 0, .int .i64 0, .int .i64 0]) ?_ 3 _ rfl; (with_reducible repeat (first | refine QC ?_ _ | refine QE ?_ | refine QD ?_ _)); refine QN (cs := #[.int .i64 t448, .int .i64 t449, .bool false, .bool false, .slice none 0 0, .slice none 0 0, .int .i64 0, .int .i64 0]) ?_ 2 _ rfl; (with_reducible repeat (first | refine QC ?_ _ | refine QE ?_ | refine QD ?_ _)); refine QN (cs := #[.int .i64 t448, .int .i64 0, .bool false, .bool false, .slice none 0 0, .slice none 0 0, .int .i64 0, .int .i64 0]) ?_ 1 _ rfl; (with_reducible repeat (first | refine QC ?_ _ | refine QE ?_ | refine QD ?_ _)); refine QN (cs := #[.int .i64 0, .int .i64 0, .bool false, .bool false, .slice none 0 0, .slice none 0 0, .int .i64 0, .int .i64 0]) ?_ 0 _ rfl; (with_reducible repeat (first | refine QC ?_ _ | refine QE ?_ | refine QD ?_ _)); exact BK442.out) Try.underlying74 rfl (by kernel_rfl) rfl (by (with_reducible repeat (first | refine QC ?_ _ | refine QE ?_ | refine QD ?_ _)); refine QN (cs := #[.int .i64 t466, .int .i64 t467, .bool t468, .bool t469, .slice Ao33 t470.length co33, .slice Ao35 t473.length co35, .int .i64 t476, .int .i64 0]) ?_ 7 _ rfl; (with_reducible repeat (first | refine QC ?_ _ | refine QE ?_ | refine QD ?_ _)); refine QN (cs := #[.int .i64 t466, .int .i64 t467, .bool t468, .bool t469, .slice Ao33 t470.length co33, .slice Ao35 t473.length co35, .int .i64 0, .int .i64 0]) ?_ 6 _ rfl; (with_reducible repeat (first | refine QC ?_ _ | refine QE ?_ | refine QD ?_ _)); refine QN (cs := #[.int .i64 t466, .int .i64 t467, .bool t468, .bool t469, .slice Ao33 t470.length co33, .slice none 0 0, .int .i64 0, .int .i64 0]) ?_ 5 _ rfl; (with_reducible repeat (first | refine QC ?_ _ | refine QE ?_ | refine QD ?_ _)); refine QN (cs := #[.int .i64 t466, .int .i64 t467, .bool t468, .bool t469, .slice none 0 0, .slice none 0 0, .int .i64 0, .int .i64 0]) ?_ 4 _ rfl; (with_reducible repeat (first | refine QC ?_ _ | refine QE ?_ | refine QD ?_ _)); refine QN (cs := #[.int .i64 t466, .int .i64 t467, .bool t468, .bool false, .slice none 0 0, .slice none 0 0, .int .i64 0, .int .i64 0]) ?_ 3 _ rfl; (with_reducible repeat (first | refine QC ?_ _ | refine QE ?_ | refine QD ?_ _)); refine QN (cs := #[.int .i64 t466, .int .i64 t467, .bool false, .bool false, .slice none 0 0, .slice none 0 0, .int .i64 0, .int .i64 0]) ?_ 2 _ rfl; (with_reducible repeat (first | refine QC ?_ _ | refine QE ?_ | refine QD ?_ _)); refine QN (cs := #[.int .i64 t466, .int .i64 0, .bool false, .bool false, .slice none 0 0, .slice none 0 0, .int .i64 0, .int .i64 0]) ?_ 1 _ rfl; (with_reducible repeat (first | refine QC ?_ _ | refine QE ?_ | refine QD ?_ _)); refine QN (cs := #[.int .i64 0, .int .i64 0, .bool false, .bool false, .slice none 0 0, .slice none 0 0, .int .i64 0, .int .i64 0]) ?_ 0 _ rfl; (with_reducible repeat (first | refine QC ?_ _ | refine QE ?_ | refine QD ?_ _)); refine QL ?_ NB443_442.out _; (with_reducible repeat (first | refine QC ?_ _ | refine QE ?_ | refine QD ?_ _)); refine QL ?_ NB443_442.out _; (with_reducible repeat (first | refine QC ?_ _ | refine QE ?_ | refine QD ?_ _)); refine QL ?_ NB443_442.out _; (with_reducible repeat (first | refine QC ?_ _ | refine QE ?_ | refine QD ?_ _)); refine QL ?_ NB443_442.out _; (with_reducible repeat (first | refine QC ?_ _ | refine QE ?_ | refine QD ?_ _)); refine QL ?_ NB443_442.out _; (with_reducible repeat (first | refine QC ?_ _ | refine QE ?_ | refine QD ?_ _)); refine QL ?_ NB443_442.out _; (with_reducible repeat (first | refine QC ?_ _ | refine QE ?_ | refine QD ?_ _)); refine QL ?_ NB443_442.out _; (with_reducible repeat (first | refine QC ?_ _ | refine QE ?_ | refine QD ?_ _)); refine QL ?_ NB443_442.out _; (with_reducible repeat (first | refine QC ?_ _ | refine QE ?_ | refine QD ?_ _)); exact BK443.out) Try.underlying74 rfl (by kernel_rfl)) rfl ?_
    exact ⟨_, _, _, _, by first | rfl | (simp [errW_none, errW_some] <;> rfl) | (simp [*, errW_none, errW_some] <;> rfl), by (with_reducible repeat (first | apply Kd.Q_alloc | apply Kd.Q_drewN | apply Kd.Q_drew)); exact Kd.Q_mono (QM (p := ⟨gb443, 7, none⟩) (QM (p := ⟨gb443, 6, none⟩) (QM (p := ⟨gb443, 5, none⟩) (QM (p := ⟨gb443, 4, none⟩) (QM (p := ⟨gb443, 3, none⟩) (QM (p := ⟨gb443, 2, none⟩) (QM (p := ⟨gb443, 1, none⟩) (QM (p := ⟨gb443, 0, none⟩) (QM (p := ⟨gb442, 7, none⟩) (QM (p := ⟨gb442, 6, none⟩) (QM (p := ⟨gb442, 5, none⟩) (QM (p := ⟨gb442, 4, none⟩) (QM (p := ⟨gb442, 3, none⟩) (QM (p := ⟨gb442, 2, none⟩) (QM (p := ⟨gb442, 1, none⟩) (QM (p := ⟨gb442, 0, none⟩) (Kd.Q_types (Kd.Q_types HO454.out BK442.out (by decide)) BK443.out (by decide)) (fun _ hk => hk.1.2) (.int .i64 t448)) (fun _ hk => hk.1.2) (.int .i64 t449)) (fun _ hk => hk.1.2) (.bool t450)) (fun _ hk => hk.1.2) (.bool t451)) (fun _ hk => hk.1.2) (.slice Ao16 t452.length co16)) (fun _ hk => hk.1.2) (.slice Ao17 t455.length co17)) (fun _ hk => hk.1.2) (.int .i64 t458)) (fun _ hk => hk.1.2) (.int .i64 t459)) (fun _ hk => hk.2) (.int .i64 t466)) (fun _ hk => hk.2) (.int .i64 t467)) (fun _ hk => hk.2) (.bool t468)) (fun _ hk => hk.2) (.bool t469)) (fun _ hk => hk.2) (.slice Ao33 t470.length co33)) (fun _ hk => hk.2) (.slice Ao35 t473.length co35)) (fun _ hk => hk.2) (.int .i64 t476)) (fun _ hk => hk.2) (.int .i64 t477)) (fun _ hk => ⟨hk.1.1.1.1, ⟨hk.1.1.1.2, hk.1.1.2⟩⟩), by (with_reducible repeat (first | apply QT | apply QU | apply Kd.R_drew)); exact Kd.R_mono (QR (QR (QR (QR (QR (QR (QR (QR (QP (p := ⟨gb442, 7, none⟩) (QP (p := ⟨gb442, 6, none⟩) (QP (p := ⟨gb442, 5, none⟩) (QP (p := ⟨gb442, 4, none⟩) (QP (p := ⟨gb442, 3, none⟩) (QP (p := ⟨gb442, 2, none⟩) (QP (p := ⟨gb442, 1, none⟩) (QP (p := ⟨gb442, 0, none⟩) (Kd.R_types (Kd.R_types HO457.out BK442.out (by decide)) BK443.out (by decide)) (fun _ hk => hk.1.2) (.int .i64 t448)) (fun _ hk => hk.1.2) (.int .i64 t449)) (fun _ hk => hk.1.2) (.bool t450)) (fun _ hk => hk.1.2) (.bool t451)) (fun _ hk => hk.1.2) (.slice Ao16 t452.length co16)) (fun _ hk => hk.1.2) (.slice Ao17 t455.length co17)) (fun _ hk => hk.1.2) (.int .i64 t458)) (fun _ hk => hk.1.2) (.int .i64 t459)))))))))) (fun _ hk => ⟨hk.1.1.1.1, ⟨hk.1.1.1.2, hk.1.1.2⟩⟩), Kd.Q_of_R (by (with_reducible repeat (first | apply QT | apply QU | apply Kd.R_drew)); exact Kd.R_mono (QR (QR (QR (QR (QR (QR (QR (QR (QP (p := ⟨gb442, 7, none⟩) (QP (p := ⟨gb442, 6, none⟩) (QP (p := ⟨gb442, 5, none⟩) (QP (p := ⟨gb442, 4, none⟩) (QP (p := ⟨gb442, 3, none⟩) (QP (p := ⟨gb442, 2, none⟩) (QP (p := ⟨gb442, 1, none⟩) (QP (p := ⟨gb442, 0, none⟩) (Kd.R_types (Kd.R_types HO472.out BK442.out (by decide)) BK443.out (by decide)) (fun _ hk => hk.1.2) (.int .i64 t448)) (fun _ hk => hk.1.2) (.int .i64 t449)) (fun _ hk => hk.1.2) (.bool t450)) (fun _ hk => hk.1.2) (.bool t451)) (fun _ hk => hk.1.2) (.slice Ao16 t452.length co16)) (fun _ hk => hk.1.2) (.slice Ao17 t455.length co17)) (fun _ hk => hk.1.2) (.int .i64 t458)) (fun _ hk => hk.1.2) (.int .i64 t459)))))))))) (fun _ hk => ⟨hk.1.1.1.2, ⟨hk.1.1.2, hk.1.1.1.1⟩⟩)), by (with_reducible repeat (first | apply QT | apply QU | apply Kd.R_drew)); exact Kd.R_mono (QR (QR (QR (QR (QR (QR (QR (QR (QP (p := ⟨gb442, 7, none⟩) (QP (p := ⟨gb442, 6, none⟩) (QP (p := ⟨gb442, 5, none⟩) (QP (p := ⟨gb442, 4, none⟩) (QP (p := ⟨gb442, 3, none⟩) (QP (p := ⟨gb442, 2, none⟩) (QP (p := ⟨gb442, 1, none⟩) (QP (p := ⟨gb442, 0, none⟩) (Kd.R_types (Kd.R_types HO475.out BK442.out (by decide)) BK443.out (by decide)) (fun _ hk => hk.1.2) (.int .i64 t448)) (fun _ hk => hk.1.2) (.int .i64 t449)) (fun _ hk => hk.1.2) (.bool t450)) (fun _ hk => hk.1.2) (.bool t451)) (fun _ hk => hk.1.2) (.slice Ao16 t452.length co16)) (fun _ hk => hk.1.2) (.slice Ao17 t455.length co17)) (fun _ hk => hk.1.2) (.int .i64 t458)) (fun _ hk => hk.1.2) (.int .i64 t459)))))))))) (fun _ hk => ⟨hk.1.1.1.2, ⟨hk.1.1.2, hk.1.1.1.1⟩⟩), by repeat (first | (with_reducible first | exact HB.out | apply QK | apply QF | apply QJ | refine QI ?_ (IsS123.ge HI447.out) | refine QI ?_ GE442.out | refine QI ?_ GE443.out | refine QI ?_ GE462.out) | exact HB.out)⟩
  · replace c5 := Bool.eq_false_iff.mpr c5
    subst c5
    have H1 : ((spec_l22Any.f k t444 t464 t465).bind fun bt478 => (some (t448, t449, t450, t451, t452, t455, t458, t459, bt478.1, bt478.2.1, bt478.2.2.1, bt478.2.2.2.1, bt478.2.2.2.2.1, bt478.2.2.2.2.2.1, bt478.2.2.2.2.2.2.1, bt478.2.2.2.2.2.2.2.1))) = some (r1, r2, r3, r4, r5, r6, r7, r8, r9, r10, r11, r12, r13, r14, r15, r16) := by rw [if_neg (show ¬ (false = true) by decide)] at H; exact H
    clear H
    have H := H1
    clear H1
    replace H := Option.bind_eq_some_iff.mp H
    obtain ⟨⟨t478, t479, t480, t481, t482, t485, t488, t489, t490, t491⟩, A390, H⟩ := H
    replace H : (some (t448, t449, t450, t451, t452, t455, t458, t459, t478, t479, t480, t481, t482, t485, t488, t489)) = some (r1, r2, r3, r4, r5, r6, r7, r8, r9, r10, r11, r12, r13, r14, r15, r16) := H
    have A39 := QV A390
    clear A390
    simp only [Option.some.injEq, Prod.mk.injEq] at H
    obtain ⟨rfl, rfl, rfl, rfl, rfl, rfl, rfl, rfl, rfl, rfl, rfl, rfl, rfl, rfl, rfl, rfl⟩ := H
    go_enter Try.func68, Try.ntmps68
    try go_wp2_with (first | ((with_reducible refine gate_dst (N := 2) rfl ?_); refine box_event ?hg (N := 2) ?hd (cs := #[.int .i64 0, .int .i64 0, .bool false, .bool false, .slice none 0 0, .slice none 0 0, .int .i64 0, .int .i64 0]) (t := 74) ?hr ?_; (case hd => rfl); (case hg => rfl); (case hr => first | (go_simp; done) | (go_simp; rfl)); intro gb442 hg w40 hbox hb; have n0_ := QV (below_step (by repeat (first | (with_reducible first | exact HB.out | apply QK | apply QF | apply QJ) | exact HB.out)) hb); have n1_ := QV (hbox); have n2_ := QV ((by rw [hg]; exact (QO (by repeat (first | (with_reducible first | exact HB.out | apply QK | apply QF | apply QJ) | exact HB.out))) : w.heap.size ≤ gb442)); have n3_ := QV ((by rw [hg]; exact (QO (by repeat (first | (with_reducible first | exact HB.out | apply QK | apply QF | apply QJ) | exact HB.out))) : w.heap.size ≤ gb442)); clear HB; have HB := n0_; have BK442 := n1_; have GW442 := n2_; have GE442 := n3_; clear n0_ n1_ n2_ n3_; clear hb hbox hg) | ((with_reducible refine gate_dst (N := 3) rfl ?_); refine box_event ?hg (N := 3) ?hd (cs := #[.int .i64 0, .int .i64 0, .bool false, .bool false, .slice none 0 0, .slice none 0 0, .int .i64 0, .int .i64 0]) (t := 74) ?hr ?_; (case hd => rfl); (case hg => rfl); (case hr => first | (go_simp; done) | (go_simp; rfl)); intro gb443 hg w41 hbox hb; have n0_ := QV (QS (g := gb442) (o := .cells #[.int .i64 0, .int .i64 0, .bool false, .bool false, .slice none 0 0, .slice none 0 0, .int .i64 0, .int .i64 0] 74 (0, 0)) (by (with_reducible repeat (first | refine QC ?_ _ | refine QE ?_ | refine QD ?_ _)); exact BK442.out) hb); have n1_ := QV (below_step (by repeat (first | (with_reducible first | exact HB.out | apply QK | apply QF | apply QJ | refine QI ?_ GE442.out) | exact HB.out)) hb); have n2_ := QV (hbox); have n3_ := QV ((by rw [hg]; exact (QO (by repeat (first | (with_reducible first | exact HB.out | apply QK | apply QF | apply QJ | refine QI ?_ GE442.out) | exact HB.out))) : w.heap.size ≤ gb443)); have n4_ := QV ((by rw [hg]; exact (QO (by repeat (first | (with_reducible first | exact HB.out | apply QK | apply QF | apply QJ | refine QI ?_ GE442.out) | exact HB.out))) : w.heap.size ≤ gb443)); have n5_ := QV ((by rw [hg]; exact Nat.ne_of_lt (blk_lt (g := gb442) (o := .cells #[.int .i64 0, .int .i64 0, .bool false, .bool false, .slice none 0 0, .slice none 0 0, .int .i64 0, .int .i64 0] 74 (0, 0)) (by (with_reducible repeat (first | refine QC ?_ _ | refine QE ?_ | refine QD ?_ _)); exact BK442.out)) : gb442 ≠ gb443)); have n6_ := QV ((by rw [hg]; exact Nat.ne_of_gt (blk_lt (g := gb442) (o := .cells #[.int .i64 0, .int .i64 0, .bool false, .bool false, .slice none 0 0, .slice none 0 0, .int .i64 0, .int .i64 0] 74 (0, 0)) (by (with_reducible repeat (first | refine QC ?_ _ | refine QE ?_ | refine QD ?_ _)); exact BK442.out)) : gb443 ≠ gb442)); clear BK442; clear HB; have BK442 := n0_; have HB := n1_; have BK443 := n2_; have GW443 := n3_; have GE443 := n4_; have NB442_443 := n5_; have NB443_442 := n6_; clear n0_ n1_ n2_ n3_ n4_ n5_ n6_; clear hb hbox hg) | ((with_reducible refine gate_callee (f := 122) rfl ?_); refine goesL_ (some 7) rfl rfl Try.func122 (by kernel_rfl) rfl #[.slice A0 l0.length c0] rfl (by (try simp only [List.map_toArray, List.map_cons, List.map_nil]); first | done | rfl | (simp only [List.length_drop, List.length_take]; rfl)) ?_; (with_reducible refine (spec_l1New.calls k _ _ l0 t444 t445 t446 w _ ?side1 ?side2 ?side3 A2.out).mono ?_); (case side1 => repeat (first | (with_reducible first | exact HB.out | apply QK | apply QF | apply QJ | refine QI ?_ GE442.out | refine QI ?_ GE443.out) | exact HB.out)); (case side2 => exact HR0.out); (case side3 => exact HC0.out); rintro e w42 ⟨g447, rfl, hi, hb, hb2⟩; refine ⟨_, rfl, ?_⟩; have n0_ := QV (QS (g := gb442) (o := .cells #[.int .i64 0, .int .i64 0, .bool false, .bool false, .slice none 0 0, .slice none 0 0, .int .i64 0, .int .i64 0] 74 (0, 0)) (by (with_reducible repeat (first | refine QC ?_ _ | refine QE ?_ | refine QD ?_ _)); exact BK442.out) hb2); have n1_ := QV (QS (g := gb443) (o := .cells #[.int .i64 0, .int .i64 0, .bool false, .bool false, .slice none 0 0, .slice none 0 0, .int .i64 0, .int .i64 0] 74 (0, 0)) (by (with_reducible repeat (first | refine QC ?_ _ | refine QE ?_ | refine QD ?_ _)); exact BK443.out) hb2); have n2_ := QV (hb); have n3_ := QV (hi); have n4_ := QV (IsS123.ne_blk hi (QS (g := gb442) (o := .cells #[.int .i64 0, .int .i64 0, .bool false, .bool false, .slice none 0 0, .slice none 0 0, .int .i64 0, .int .i64 0] 74 (0, 0)) (by (with_reducible repeat (first | refine QC ?_ _ | refine QE ?_ | refine QD ?_ _)); exact BK442.out) hb2) (by decide)); have n5_ := QV (Ne.symm (IsS123.ne_blk hi (QS (g := gb442) (o := .cells #[.int .i64 0, .int .i64 0, .bool false, .bool false, .slice none 0 0, .slice none 0 0, .int .i64 0, .int .i64 0] 74 (0, 0)) (by (with_reducible repeat (first | refine QC ?_ _ | refine QE ?_ | refine QD ?_ _)); exact BK442.out) hb2) (by decide))); have n6_ := QV (IsS123.ne_blk hi (QS (g := gb443) (o := .cells #[.int .i64 0, .int .i64 0, .bool false, .bool false, .slice none 0 0, .slice none 0 0, .int .i64 0, .int .i64 0] 74 (0, 0)) (by (with_reducible repeat (first | refine QC ?_ _ | refine QE ?_ | refine QD ?_ _)); exact BK443.out) hb2) (by decide)); have n7_ := QV (Ne.symm (IsS123.ne_blk hi (QS (g := gb443) (o := .cells #[.int .i64 0, .int .i64 0, .bool false, .bool false, .slice none 0 0, .slice none 0 0, .int .i64 0, .int .i64 0] 74 (0, 0)) (by (with_reducible repeat (first | refine QC ?_ _ | refine QE ?_ | refine QD ?_ _)); exact BK443.out) hb2) (by decide))); clear BK442; clear BK443; clear HB; have BK442 := n0_; have BK443 := n1_; have HB := n2_; have HI447 := n3_; have NB447_442 := n4_; have NB442_447 := n5_; have NB447_443 := n6_; have NB443_447 := n7_; clear n0_ n1_ n2_ n3_ n4_ n5_ n6_ n7_; (try clear hb); (try clear hb2); (try clear hk); (try clear hi)) | ((with_reducible refine gate_callee (f := 123) rfl ?_); refine goesL_ (some 9) rfl rfl Try.func123 (by kernel_rfl) rfl #[.pointer (some ⟨g447, 0, none⟩)] rfl (by (try simp only [List.map_toArray, List.map_cons, List.map_nil]); first | done | rfl | (simp only [List.length_drop, List.length_take]; rfl)) ?_; (with_reducible refine (spec_l22Any.calls k g447 t444 t445 t446 t448 t449 t450 t451 t452 t455 t458 t459 t460 t461 w _ ?side1 ?side2 A3.out).mono ?_); (case side1 => repeat (first | (with_reducible first | exact HI447.out | apply IsS123.alloc | apply IsS123.drewN | apply IsS123.drew | apply IsS123.set_1 | apply IsS123.set_2 | refine IsS123.far ?_ NB447_442.out _ | refine IsS123.far ?_ NB447_443.out _) | exact HI447.out)); (case side2 => repeat (first | (with_reducible first | exact HB.out | apply QK | apply QF | apply QJ | refine QI ?_ (IsS123.ge HI447.out) | refine QI ?_ GE442.out | refine QI ?_ GE443.out) | exact HB.out)); rintro e w43 ⟨v453, v456, rfl, ho0, ho1, hi, hb, hk⟩; refine ⟨_, rfl, ?_⟩; have n0_ := QV (KeepBut.blk hk (g' := gb442) (o := .cells #[.int .i64 0, .int .i64 0, .bool false, .bool false, .slice none 0 0, .slice none 0 0, .int .i64 0, .int .i64 0] 74 (0, 0)) (by (with_reducible repeat (first | refine QC ?_ _ | refine QE ?_ | refine QD ?_ _)); exact BK442.out) NB442_447.out (by simp)); have n1_ := QV (KeepBut.blk hk (g' := gb443) (o := .cells #[.int .i64 0, .int .i64 0, .bool false, .bool false, .slice none 0 0, .slice none 0 0, .int .i64 0, .int .i64 0] 74 (0, 0)) (by (with_reducible repeat (first | refine QC ?_ _ | refine QE ?_ | refine QD ?_ _)); exact BK443.out) NB443_447.out (by simp)); have n2_ := QV (Kd.Q_lower ho0 (QO (by repeat (first | (with_reducible first | exact HB.out | apply QK | apply QF | apply QJ | refine QI ?_ (IsS123.ge HI447.out) | refine QI ?_ GE442.out | refine QI ?_ GE443.out) | exact HB.out)))); have n3_ := QV (Kd.R_lower ho1 (QO (by repeat (first | (with_reducible first | exact HB.out | apply QK | apply QF | apply QJ | refine QI ?_ (IsS123.ge HI447.out) | refine QI ?_ GE442.out | refine QI ?_ GE443.out) | exact HB.out)))); have n4_ := QV (hb); have n5_ := QV (hi); clear BK442; clear BK443; clear HB; clear HI447; have BK442 := n0_; have BK443 := n1_; have HO454 := n2_; have HO457 := n3_; have HB := n4_; have HI447 := n5_; clear n0_ n1_ n2_ n3_ n4_ n5_; (try clear hb); (try clear hb2); (try clear hk); (try clear hi); (try clear ho0); (try clear ho1)) | ((with_reducible refine gate_dst (N := 5) rfl ?_); refine box_event ?hg (N := 5) ?hd (cs := #[.int .i64 0, .int .i64 0, .bool false, .bool false, .slice none 0 0, .slice none 0 0, .int .i64 0, .int .i64 0]) (t := 74) ?hr ?_; (case hd => rfl); (case hg => rfl); (case hr => first | (go_simp; done) | (go_simp; rfl)); intro gb462 hg w44 hbox hb; have n0_ := QV (Kd.Q_below (by (with_reducible repeat (first | apply Kd.Q_alloc | apply Kd.Q_drewN | apply Kd.Q_drew)); exact HO454.out) hb); have n1_ := QV (Kd.R_below (by (with_reducible repeat (first | apply QT | apply QU | apply Kd.R_drew)); exact HO457.out) hb); have n2_ := QV (QS (g := gb442) (o := .cells #[.int .i64 0, .int .i64 0, .bool false, .bool false, .slice none 0 0, .slice none 0 0, .int .i64 0, .int .i64 0] 74 (0, 0)) (by (with_reducible repeat (first | refine QC ?_ _ | refine QE ?_ | refine QD ?_ _)); exact BK442.out) hb); have n3_ := QV (QS (g := gb443) (o := .cells #[.int .i64 0, .int .i64 0, .bool false, .bool false, .slice none 0 0, .slice none 0 0, .int .i64 0, .int .i64 0] 74 (0, 0)) (by (with_reducible repeat (first | refine QC ?_ _ | refine QE ?_ | refine QD ?_ _)); exact BK443.out) hb); have n4_ := QV (IsS123.below (by repeat (first | (with_reducible first | exact HI447.out | apply IsS123.alloc | apply IsS123.drewN | apply IsS123.drew | apply IsS123.set_1 | apply IsS123.set_2 | refine IsS123.far ?_ NB447_442.out _ | refine IsS123.far ?_ NB447_443.out _) | exact HI447.out)) hb); have n5_ := QV (below_step (by repeat (first | (with_reducible first | exact HB.out | apply QK | apply QF | apply QJ | refine QI ?_ (IsS123.ge HI447.out) | refine QI ?_ GE442.out | refine QI ?_ GE443.out) | exact HB.out)) hb); have n6_ := QV (hbox); have n7_ := QV ((by rw [hg]; exact (QO (by repeat (first | (with_reducible first | exact HB.out | apply QK | apply QF | apply QJ | refine QI ?_ (IsS123.ge HI447.out) | refine QI ?_ GE442.out | refine QI ?_ GE443.out) | exact HB.out))) : w.heap.size ≤ gb462)); have n8_ := QV ((by rw [hg]; exact (QO (by repeat (first | (with_reducible first | exact HB.out | apply QK | apply QF | apply QJ | refine QI ?_ (IsS123.ge HI447.out) | refine QI ?_ GE442.out | refine QI ?_ GE443.out) | exact HB.out))) : w.heap.size ≤ gb462)); have n9_ := QV ((by rw [hg]; exact Nat.ne_of_lt (blk_lt (g := gb442) (o := .cells #[.int .i64 0, .int .i64 0, .bool false, .bool false, .slice none 0 0, .slice none 0 0, .int .i64 0, .int .i64 0] 74 (0, 0)) (by (with_reducible repeat (first | refine QC ?_ _ | refine QE ?_ | refine QD ?_ _)); exact BK442.out)) : gb442 ≠ gb462)); have n10_ := QV ((by rw [hg]; exact Nat.ne_of_gt (blk_lt (g := gb442) (o := .cells #[.int .i64 0, .int .i64 0, .bool false, .bool false, .slice none 0 0, .slice none 0 0, .int .i64 0, .int .i64 0] 74 (0, 0)) (by (with_reducible repeat (first | refine QC ?_ _ | refine QE ?_ | refine QD ?_ _)); exact BK442.out)) : gb462 ≠ gb442)); have n11_ := QV ((by rw [hg]; exact Nat.ne_of_lt (blk_lt (g := gb443) (o := .cells #[.int .i64 0, .int .i64 0, .bool false, .bool false, .slice none 0 0, .slice none 0 0, .int .i64 0, .int .i64 0] 74 (0, 0)) (by (with_reducible repeat (first | refine QC ?_ _ | refine QE ?_ | refine QD ?_ _)); exact BK443.out)) : gb443 ≠ gb462)); have n12_ := QV ((by rw [hg]; exact Nat.ne_of_gt (blk_lt (g := gb443) (o := .cells #[.int .i64 0, .int .i64 0, .bool false, .bool false, .slice none 0 0, .slice none 0 0, .int .i64 0, .int .i64 0] 74 (0, 0)) (by (with_reducible repeat (first | refine QC ?_ _ | refine QE ?_ | refine QD ?_ _)); exact BK443.out)) : gb462 ≠ gb443)); have n13_ := QV ((by rw [hg]; exact Nat.ne_of_lt (IsS123.lt (show IsS123 w _ g447 t444 t460 t461 from by repeat (first | (with_reducible first | exact HI447.out | apply IsS123.alloc | apply IsS123.drewN | apply IsS123.drew | apply IsS123.set_1 | apply IsS123.set_2 | refine IsS123.far ?_ NB447_442.out _ | refine IsS123.far ?_ NB447_443.out _) | exact HI447.out))) : g447 ≠ gb462)); have n14_ := QV ((by rw [hg]; exact Nat.ne_of_gt (IsS123.lt (show IsS123 w _ g447 t444 t460 t461 from by repeat (first | (with_reducible first | exact HI447.out | apply IsS123.alloc | apply IsS123.drewN | apply IsS123.drew | apply IsS123.set_1 | apply IsS123.set_2 | refine IsS123.far ?_ NB447_442.out _ | refine IsS123.far ?_ NB447_443.out _) | exact HI447.out))) : gb462 ≠ g447)); clear HO454; clear HO457; clear BK442; clear BK443; clear HI447; clear HB; have HO454 := n0_; have HO457 := n1_; have BK442 := n2_; have BK443 := n3_; have HI447 := n4_; have HB := n5_; have BK462 := n6_; have GW462 := n7_; have GE462 := n8_; have NB442_462 := n9_; have NB462_442 := n10_; have NB443_462 := n11_; have NB462_443 := n12_; have NB447_462 := n13_; have NB462_447 := n14_; clear n0_ n1_ n2_ n3_ n4_ n5_ n6_ n7_ n8_ n9_ n10_ n11_ n12_ n13_ n14_; clear hb hbox hg; have hnb45 := NB462_442.out; have hnc45 := NB442_462.out; have hnb46 := NB462_443.out; have hnc46 := NB443_462.out; have hnb47 := NB462_447.out; have hnc47 := NB447_462.out; have hcz48_0 : w44.cell? ⟨gb462, 0, none⟩ = some (.int .i64 0) := (QG BK462.out 0).trans rfl; have hcz48_1 : w44.cell? ⟨gb462, 1, none⟩ = some (.int .i64 0) := (QG BK462.out 1).trans rfl; have hcz48_2 : w44.cell? ⟨gb462, 2, none⟩ = some (.bool false) := (QG BK462.out 2).trans rfl; have hcz48_3 : w44.cell? ⟨gb462, 3, none⟩ = some (.bool false) := (QG BK462.out 3).trans rfl; have hcz48_4 : w44.cell? ⟨gb462, 4, none⟩ = some (.slice none 0 0) := (QG BK462.out 4).trans rfl; have hcz48_5 : w44.cell? ⟨gb462, 5, none⟩ = some (.slice none 0 0) := (QG BK462.out 5).trans rfl; have hcz48_6 : w44.cell? ⟨gb462, 6, none⟩ = some (.int .i64 0) := (QG BK462.out 6).trans rfl; have hcz48_7 : w44.cell? ⟨gb462, 7, none⟩ = some (.int .i64 0) := (QG BK462.out 7).trans rfl; have hfz48_0 := QH BK462.out 0; have hfz48_1 := QH BK462.out 1; have hfz48_2 := QH BK462.out 2; have hfz48_3 := QH BK462.out 3; have hfz48_4 := QH BK462.out 4; have hfz48_5 := QH BK462.out 5; have hfz48_6 := QH BK462.out 6; have hfz48_7 := QH BK462.out 7; obtain ⟨Ao49, co49, eo49, _⟩ := Kd.Q_slice HO454.out; subst eo49; obtain ⟨Ao50, co50, eo50⟩ := Kd.R_slice HO457.out; subst eo50) | ((with_reducible refine gate_callee (f := 128) rfl ?_); refine goesL_ (some 11) rfl rfl Try.func128 (by kernel_rfl) rfl #[.pointer (some ⟨g447, 0, none⟩), .int .i64 2] rfl (by (try simp only [List.map_toArray, List.map_cons, List.map_nil]); first | done | rfl | (simp only [List.length_drop, List.length_take]; rfl)) ?_; (with_reducible refine (spec_l1Once.calls g447 t444 t460 t461 2 false t464 t465 w _ ?side1 ?side2 A4.out).mono ?_); (case side1 => repeat (first | (with_reducible first | exact HI447.out | apply IsS123.alloc | apply IsS123.drewN | apply IsS123.drew | apply IsS123.set_1 | apply IsS123.set_2 | refine IsS123.far ?_ NB447_442.out _ | refine IsS123.far ?_ NB447_443.out _ | refine IsS123.far ?_ NB447_462.out _) | exact HI447.out)); (case side2 => repeat (first | (with_reducible first | exact HB.out | apply QK | apply QF | apply QJ | refine QI ?_ (IsS123.ge HI447.out) | refine QI ?_ GE442.out | refine QI ?_ GE443.out | refine QI ?_ GE462.out) | exact HB.out)); rintro e w51 ⟨rfl, hi, hb, hk⟩; refine ⟨_, rfl, ?_⟩; have n0_ := QV (KeepBut.blk hk (g' := gb442) (o := .cells #[.int .i64 0, .int .i64 0, .bool false, .bool false, .slice none 0 0, .slice none 0 0, .int .i64 0, .int .i64 0] 74 (0, 0)) (by (with_reducible repeat (first | refine QC ?_ _ | refine QE ?_ | refine QD ?_ _)); refine QL ?_ NB442_462.out _; (with_reducible repeat (first | refine QC ?_ _ | refine QE ?_ | refine QD ?_ _)); refine QL ?_ NB442_462.out _; (with_reducible repeat (first | refine QC ?_ _ | refine QE ?_ | refine QD ?_ _)); refine QL ?_ NB442_462.out _; (with_reducible repeat (first | refine QC ?_ _ | refine QE ?_ | refine QD ?_ _)); refine QL ?_ NB442_462.out _; (with_reducible repeat (first | refine QC ?_ _ | refine QE ?_ | refine QD ?_ _)); refine QL ?_ NB442_462.out _; (with_reducible repeat (first | refine QC ?_ _ | refine QE ?_ | refine QD ?_ _)); refine QL ?_ NB442_462.out _; (with_reducible repeat (first | refine QC ?_ _ | refine QE ?_ | refine QD ?_ _)); refine QL ?_ NB442_462.out _; (with_reducible repeat (first | refine QC ?_ _ | refine QE ?_ | refine QD ?_ _)); refine QL ?_ NB442_462.out _; (with_reducible repeat (first | refine QC ?_ _ | refine QE ?_ | refine QD ?_ _)); exact BK442.out) NB442_447.out (by simp)); have n1_ := QV (KeepBut.blk hk (g' := gb443) (o := .cells #[.int .i64 0, .int .i64 0, .bool false, .bool false, .slice none 0 0, .slice none 0 0, .int .i64 0, .int .i64 0] 74 (0, 0)) (by (with_reducible repeat (first | refine QC ?_ _ | refine QE ?_ | refine QD ?_ _)); refine QL ?_ NB443_462.out _; (with_reducible repeat (first | refine QC ?_ _ | refine QE ?_ | refine QD ?_ _)); refine QL ?_ NB443_462.out _; (with_reducible repeat (first | refine QC ?_ _ | refine QE ?_ | refine QD ?_ _)); refine QL ?_ NB443_462.out _; (with_reducible repeat (first | refine QC ?_ _ | refine QE ?_ | refine QD ?_ _)); refine QL ?_ NB443_462.out _; (with_reducible repeat (first | refine QC ?_ _ | refine QE ?_ | refine QD ?_ _)); refine QL ?_ NB443_462.out _; (with_reducible repeat (first | refine QC ?_ _ | refine QE ?_ | refine QD ?_ _)); refine QL ?_ NB443_462.out _; (with_reducible repeat (first | refine QC ?_ _ | refine QE ?_ | refine QD ?_ _)); refine QL ?_ NB443_462.out _; (with_reducible repeat (first | refine QC ?_ _ | refine QE ?_ | refine QD ?_ _)); refine QL ?_ NB443_462.out _; (with_reducible repeat (first | refine QC ?_ _ | refine QE ?_ | refine QD ?_ _)); exact BK443.out) NB443_447.out (by simp)); have n2_ := QV (Kd.Q_mono (Kd.Q_keep (IsS123.apartQ (show IsS123 w _ g447 t444 t460 t461 from by repeat (first | (with_reducible first | exact HI447.out | apply IsS123.alloc | apply IsS123.drewN | apply IsS123.drew | apply IsS123.set_1 | apply IsS123.set_2 | refine IsS123.far ?_ NB447_442.out _ | refine IsS123.far ?_ NB447_443.out _ | refine IsS123.far ?_ NB447_462.out _) | exact HI447.out)) (by (with_reducible repeat (first | apply Kd.Q_alloc | apply Kd.Q_drewN | apply Kd.Q_drew)); exact (Kd.Q_mono (QM (p := ⟨gb462, 7, none⟩) (QM (p := ⟨gb462, 6, none⟩) (QM (p := ⟨gb462, 5, none⟩) (QM (p := ⟨gb462, 4, none⟩) (QM (p := ⟨gb462, 3, none⟩) (QM (p := ⟨gb462, 2, none⟩) (QM (p := ⟨gb462, 1, none⟩) (QM (p := ⟨gb462, 0, none⟩) (Kd.Q_types HO454.out BK462.out (by decide)) (fun _ hk => hk.2) (.int .i64 t448)) (fun _ hk => hk.2) (.int .i64 t449)) (fun _ hk => hk.2) (.bool t450)) (fun _ hk => hk.2) (.bool t451)) (fun _ hk => hk.2) (.slice Ao49 t452.length co49)) (fun _ hk => hk.2) (.slice Ao50 t455.length co50)) (fun _ hk => hk.2) (.int .i64 t458)) (fun _ hk => hk.2) (.int .i64 t459)) (fun _ h_ => h_.1))) (by decide)) hk (fun _ h => h.2)) (fun _ h => h.1)); have n3_ := QV (Kd.R_mono (Kd.R_keep (IsS123.apart (show IsS123 w _ g447 t444 t460 t461 from by repeat (first | (with_reducible first | exact HI447.out | apply IsS123.alloc | apply IsS123.drewN | apply IsS123.drew | apply IsS123.set_1 | apply IsS123.set_2 | refine IsS123.far ?_ NB447_442.out _ | refine IsS123.far ?_ NB447_443.out _ | refine IsS123.far ?_ NB447_462.out _) | exact HI447.out)) (by (with_reducible repeat (first | apply QT | apply QU | apply Kd.R_drew)); exact (Kd.R_mono (QR (QR (QR (QR (QR (QR (QR (QR (Kd.R_types HO457.out BK462.out (by decide)))))))))) (fun _ h_ => h_.1))) (by decide)) hk (fun _ h => h.2)) (fun _ h => h.1)); have n4_ := QV (KeepBut.blk hk (g' := gb462) (o := .cells #[.int .i64 t448, .int .i64 t449, .bool t450, .bool t451, .slice Ao49 t452.length co49, .slice Ao50 t455.length co50, .int .i64 t458, .int .i64 t459] 74 (0, 0)) (by (with_reducible repeat (first | refine QC ?_ _ | refine QE ?_ | refine QD ?_ _)); refine QN (cs := #[.int .i64 t448, .int .i64 t449, .bool t450, .bool t451, .slice Ao49 t452.length co49, .slice Ao50 t455.length co50, .int .i64 t458, .int .i64 0]) ?_ 7 _ rfl; (with_reducible repeat (first | refine QC ?_ _ | refine QE ?_ | refine QD ?_ _)); refine QN (cs := #[.int .i64 t448, .int .i64 t449, .bool t450, .bool t451, .slice Ao49 t452.length co49, .slice Ao50 t455.length co50, .int .i64 0, .int .i64 0]) ?_ 6 _ rfl; (with_reducible repeat (first | refine QC ?_ _ | refine QE ?_ | refine QD ?_ _)); refine QN (cs := #[.int .i64 t448, .int .i64 t449, .bool t450, .bool t451, .slice Ao49 t452.length co49, .slice none 0 0, .int .i64 0, .int .i64 0]) ?_ 5 _ rfl; (with_reducible repeat (first | refine QC ?_ _ | refine QE ?_ | refine QD ?_ _)); refine QN (cs := #[.int .i64 t448, .int .i64 t449, .bool t450, .bool t451, .slice none 0 0, .slice none 0 0, .int .i64 0, .int .i64 0]) ?_ 4 _ rfl; (with_reducible repeat (first | refine QC ?_ _ | refine QE ?_ | refine QD ?_ _)); refine QN (cs := #[.int .i64 t448, .int .i64 t449, .bool t450, .bool false, .slice none 0 0, .slice none 0 0, .int .i64 0, .int .i64 0]) ?_ 3 _ rfl; (with_reducible repeat (first | refine QC ?_ _ | refine QE ?_ | refine QD ?_ _)); refine QN (cs := #[.int .i64 t448, .int .i64 t449, .bool false, .bool false, .slice none 0 0, .slice none 0 0, .int .i64 0, .int .i64 0]) ?_ 2 _ rfl; (with_reducible repeat (first | refine QC ?_ _ | refine QE ?_ | refine QD ?_ _)); refine QN (cs := #[.int .i64 t448, .int .i64 0, .bool false, .bool false, .slice none 0 0, .slice none 0 0, .int .i64 0, .int .i64 0]) ?_ 1 _ rfl; (with_reducible repeat (first | refine QC ?_ _ | refine QE ?_ | refine QD ?_ _)); refine QN (cs := #[.int .i64 0, .int .i64 0, .bool false, .bool false, .slice none 0 0, .slice none 0 0, .int .i64 0, .int .i64 0]) ?_ 0 _ rfl; (with_reducible repeat (first | refine QC ?_ _ | refine QE ?_ | refine QD ?_ _)); exact BK462.out) NB462_447.out (by simp)); have n5_ := QV (hb); have n6_ := QV (hi); clear BK442; clear BK443; clear HO454; clear HO457; clear BK462; clear HB; clear HI447; have BK442 := n0_; have BK443 := n1_; have HO454 := n2_; have HO457 := n3_; have BK462 := n4_; have HB := n5_; have HI447 := n6_; clear n0_ n1_ n2_ n3_ n4_ n5_ n6_; (try clear hb); (try clear hb2); (try clear hk); (try clear hi)))
    have n0_ := QV (Kd.Q_drew HO454.out)
    have n1_ := QV (Kd.R_drew HO457.out)
    have n2_ := QV (QE BK442.out)
    have n3_ := QV (QE BK443.out)
    have n4_ := QV (QE BK462.out)
    have n5_ := QV (IsS123.drew HI447.out)
    have n6_ := QV (QJ HB.out)
    clear HO454
    clear HO457
    clear BK442
    clear BK443
    clear BK462
    clear HI447
    clear HB
    have HO454 := n0_
    have HO457 := n1_
    have BK442 := n2_
    have BK443 := n3_
    have BK462 := n4_
    have HI447 := n5_
    have HB := n6_
    clear n0_ n1_ n2_ n3_ n4_ n5_ n6_
    refine start_ (n := 5) (S := fun w' => w'.cell? ⟨gb462, 0, none⟩ = some (.int .i64 t448) ∧ w'.cell? ⟨gb462, 1, none⟩ = some (.int .i64 t449) ∧ w'.cell? ⟨gb462, 2, none⟩ = some (.bool t450) ∧ w'.cell? ⟨gb462, 3, none⟩ = some (.bool t451) ∧ w'.cell? ⟨gb462, 4, none⟩ = some (.slice Ao49 t452.length co49) ∧ w'.cell? ⟨gb462, 5, none⟩ = some (.slice Ao50 t455.length co50) ∧ w'.cell? ⟨gb462, 6, none⟩ = some (.int .i64 t458) ∧ w'.cell? ⟨gb462, 7, none⟩ = some (.int .i64 t459)) (ds := []) #[false, false, false, false, false] (by kernel_rfl) rfl rfl ⟨(QG BK462.out 0).trans rfl, (QG BK462.out 1).trans rfl, (QG BK462.out 2).trans rfl, (QG BK462.out 3).trans rfl, (QG BK462.out 4).trans rfl, (QG BK462.out 5).trans rfl, (QG BK462.out 6).trans rfl, (QG BK462.out 7).trans rfl⟩ (fun hHeld => ?_)
    generalize w51.drew = w52 at HO454 HO457 BK442 BK443 BK462 HI447 HB hHeld ⊢
    refine pure_ (i := 1) (N := some 16) (v := ?_) (a' := ?_) #[false, true, false, false, false] rfl rfl (by kernel_rfl) (fun _ _ _ h => h) (Or.inl ⟨by rfl, ?_⟩) ?_ ?_
    rotate_left
    · intro w'
      go_simp
      with_reducible rfl
    rotate_left
    · simp only [Act.put, List.setIfInBounds_toArray, List.set_cons_zero, List.set_cons_succ, i64_w, i32_w]
      rfl
    refine take_ (i := 0) (N := some 15) (v := ?_) (a' := ?_) #[true, true, false, false, false] rfl rfl (by kernel_rfl) (fun _ _ _ h => h) (Or.inl ⟨by rfl, ?_⟩) hHeld ?_ ?_
    rotate_left
    · rintro w' ⟨s0, s1, s2, s3, s4, s5, s6, s7⟩
      go_simp
      with_reducible rfl
    rotate_left
    · simp only [Act.put, List.setIfInBounds_toArray, List.set_cons_zero, List.set_cons_succ, i64_w, i32_w]
      rfl
    refine one_ (i := 2) (N := some 17) #[true, true, true, false, false] rfl rfl (by kernel_rfl) (by decide) (fun K hK => ?_)
    refine goes_ Try.func123 (by kernel_rfl) rfl #[.pointer (some ⟨g447, 0, none⟩)] (by rfl) rfl rfl (by (try simp only [List.map_toArray, List.map_cons, List.map_nil]); first | done | rfl | (simp only [List.length_drop, List.length_take]; rfl)) ?_
    with_reducible refine (spec_l22Any.calls k g447 t444 t464 t465 t478 t479 t480 t481 t482 t485 t488 t489 t490 t491 w _ ?side1 ?side2 A39.out).mono ?_
    (case side1 => repeat (first | (with_reducible first | exact HI447.out | apply IsS123.alloc | apply IsS123.drewN | apply IsS123.drew | apply IsS123.set_1 | apply IsS123.set_2 | refine IsS123.far ?_ NB447_442.out _ | refine IsS123.far ?_ NB447_443.out _ | refine IsS123.far ?_ NB447_462.out _) | exact HI447.out))
    (case side2 => repeat (first | (with_reducible first | exact HB.out | apply QK | apply QF | apply QJ | refine QI ?_ (IsS123.ge HI447.out) | refine QI ?_ GE442.out | refine QI ?_ GE443.out | refine QI ?_ GE462.out) | exact HB.out))
    rintro e w53 ⟨v483, v486, rfl, ho0, ho1, hi, hb, hk⟩
    refine ⟨_, rfl, ?_⟩
    have n0_ := QV (KeepBut.blk hk (g' := gb442) (o := .cells #[.int .i64 0, .int .i64 0, .bool false, .bool false, .slice none 0 0, .slice none 0 0, .int .i64 0, .int .i64 0] 74 (0, 0)) (by (with_reducible repeat (first | refine QC ?_ _ | refine QE ?_ | refine QD ?_ _)); exact BK442.out) NB442_447.out (by simp))
    have n1_ := QV (KeepBut.blk hk (g' := gb443) (o := .cells #[.int .i64 0, .int .i64 0, .bool false, .bool false, .slice none 0 0, .slice none 0 0, .int .i64 0, .int .i64 0] 74 (0, 0)) (by (with_reducible repeat (first | refine QC ?_ _ | refine QE ?_ | refine QD ?_ _)); exact BK443.out) NB443_447.out (by simp))
    have n2_ := QV (Kd.Q_mono (Kd.Q_told (Kd.Q_told (Kd.Q_oldK (IsS123.apartQ (show IsS123 w _ g447 t444 t464 t465 from by repeat (first | (with_reducible first | exact HI447.out | apply IsS123.alloc | apply IsS123.drewN | apply IsS123.drew | apply IsS123.set_1 | apply IsS123.set_2 | refine IsS123.far ?_ NB447_442.out _ | refine IsS123.far ?_ NB447_443.out _ | refine IsS123.far ?_ NB447_462.out _) | exact HI447.out)) (by (with_reducible repeat (first | apply Kd.Q_alloc | apply Kd.Q_drewN | apply Kd.Q_drew)); exact HO454.out) (by decide)) hk) (Kd.Q_base ho0)) (Kd.R_base ho1)) (fun _ h_ => h_.1))
    have n3_ := QV (Kd.R_mono (Kd.R_told (Kd.R_told (Kd.R_oldK (IsS123.apart (show IsS123 w _ g447 t444 t464 t465 from by repeat (first | (with_reducible first | exact HI447.out | apply IsS123.alloc | apply IsS123.drewN | apply IsS123.drew | apply IsS123.set_1 | apply IsS123.set_2 | refine IsS123.far ?_ NB447_442.out _ | refine IsS123.far ?_ NB447_443.out _ | refine IsS123.far ?_ NB447_462.out _) | exact HI447.out)) (by (with_reducible repeat (first | apply QT | apply QU | apply Kd.R_drew)); exact HO457.out) (by decide)) hk) (Kd.Q_base ho0)) (Kd.R_base ho1)) (fun _ h_ => h_.1))
    have n4_ := QV (KeepBut.blk hk (g' := gb462) (o := .cells #[.int .i64 t448, .int .i64 t449, .bool t450, .bool t451, .slice Ao49 t452.length co49, .slice Ao50 t455.length co50, .int .i64 t458, .int .i64 t459] 74 (0, 0)) (by (with_reducible repeat (first | refine QC ?_ _ | refine QE ?_ | refine QD ?_ _)); exact BK462.out) NB462_447.out (by simp))
    have n5_ := QV (Kd.Q_lower (Kd.Q_new' (Kd.Q_new' ho0 (Kd.Q_lt (by (with_reducible repeat (first | apply Kd.Q_alloc | apply Kd.Q_drewN | apply Kd.Q_drew)); exact HO454.out))) (Kd.R_lt (by (with_reducible repeat (first | apply QT | apply QU | apply Kd.R_drew)); exact HO457.out))) (QO (by repeat (first | (with_reducible first | exact HB.out | apply QK | apply QF | apply QJ | refine QI ?_ (IsS123.ge HI447.out) | refine QI ?_ GE442.out | refine QI ?_ GE443.out | refine QI ?_ GE462.out) | exact HB.out))))
    have n6_ := QV (Kd.R_lower (Kd.R_new' (Kd.R_new' ho1 (Kd.Q_lt (by (with_reducible repeat (first | apply Kd.Q_alloc | apply Kd.Q_drewN | apply Kd.Q_drew)); exact HO454.out))) (Kd.R_lt (by (with_reducible repeat (first | apply QT | apply QU | apply Kd.R_drew)); exact HO457.out))) (QO (by repeat (first | (with_reducible first | exact HB.out | apply QK | apply QF | apply QJ | refine QI ?_ (IsS123.ge HI447.out) | refine QI ?_ GE442.out | refine QI ?_ GE443.out | refine QI ?_ GE462.out) | exact HB.out))))
    have n7_ := QV (hb)
    have n8_ := QV (hi)
    clear BK442
    clear BK443
    clear HO454
    clear HO457
    clear BK462
    clear HB
    clear HI447
    have BK442 := n0_
    have BK443 := n1_
    have HO454 := n2_
    have HO457 := n3_
    have BK462 := n4_
    have HO484 := n5_
    have HO487 := n6_
    have HB := n7_
    have HI447 := n8_
    clear n0_ n1_ n2_ n3_ n4_ n5_ n6_ n7_ n8_
    (try clear hb)
    (try clear hb2)
    (try clear hk)
    (try clear hi)
    (try clear ho0)
    (try clear ho1)
    obtain ⟨Ao66, co66, eo66, _⟩ := Kd.Q_slice HO484.out
    (first | subst eo66 | (injection eo66 with f1_ f2_ f3_; have f4_ := f1_.symm; have f5_ := f3_.symm; clear f1_ f2_ f3_; subst f4_; subst f5_))
    obtain ⟨Ao68, co68, eo68⟩ := Kd.R_slice HO487.out
    (first | subst eo68 | (injection eo68 with f1_ f2_ f3_; have f4_ := f1_.symm; have f5_ := f3_.symm; clear f1_ f2_ f3_; subst f4_; subst f5_))
    refine hK.out _ _ ⟨(QG BK462.out 0).trans rfl, (QG BK462.out 1).trans rfl, (QG BK462.out 2).trans rfl, (QG BK462.out 3).trans rfl, (QG BK462.out 4).trans rfl, (QG BK462.out 5).trans rfl, (QG BK462.out 6).trans rfl, (QG BK462.out 7).trans rfl⟩ (fun hHeld => ?_)
    clear hK K
    refine norm_ (a' := ?_) ?_ ?_
    rotate_left
    · show Act.put _ (some 17) _ = _
      simp only [Act.put, List.setIfInBounds_toArray, List.set_cons_zero, List.set_cons_succ, i64_w, i32_w]
      rfl
    refine one_ (i := 3) (N := none) #[true, true, true, true, false] rfl rfl (by kernel_rfl) (by decide) (fun K hK => ?_)
    have hs54 : w53.cell? ⟨gb442, 0, none⟩ = some (.int .i64 0) := (QG BK442.out 0).trans rfl
    have hfs54 := QH BK442.out 0
    have hns54_1 := NB443_442.out
    have hns54_2 := NB462_442.out
    have hms54_1 := NB442_443.out
    have hms54_2 := NB442_462.out
    have hs55 : w53.cell? ⟨gb442, 1, none⟩ = some (.int .i64 0) := (QG BK442.out 1).trans rfl
    have hfs55 := QH BK442.out 1
    have hns55_1 := NB443_442.out
    have hns55_2 := NB462_442.out
    have hms55_1 := NB442_443.out
    have hms55_2 := NB442_462.out
    have hs56 : w53.cell? ⟨gb442, 2, none⟩ = some (.bool false) := (QG BK442.out 2).trans rfl
    have hfs56 := QH BK442.out 2
    have hns56_1 := NB443_442.out
    have hns56_2 := NB462_442.out
    have hms56_1 := NB442_443.out
    have hms56_2 := NB442_462.out
    have hs57 : w53.cell? ⟨gb442, 3, none⟩ = some (.bool false) := (QG BK442.out 3).trans rfl
    have hfs57 := QH BK442.out 3
    have hns57_1 := NB443_442.out
    have hns57_2 := NB462_442.out
    have hms57_1 := NB442_443.out
    have hms57_2 := NB442_462.out
    have hs58 : w53.cell? ⟨gb442, 4, none⟩ = some (.slice none 0 0) := (QG BK442.out 4).trans rfl
    have hfs58 := QH BK442.out 4
    have hns58_1 := NB443_442.out
    have hns58_2 := NB462_442.out
    have hms58_1 := NB442_443.out
    have hms58_2 := NB442_462.out
    have hs59 : w53.cell? ⟨gb442, 5, none⟩ = some (.slice none 0 0) := (QG BK442.out 5).trans rfl
    have hfs59 := QH BK442.out 5
    have hns59_1 := NB443_442.out
    have hns59_2 := NB462_442.out
    have hms59_1 := NB442_443.out
    have hms59_2 := NB442_462.out
    have hs60 : w53.cell? ⟨gb442, 6, none⟩ = some (.int .i64 0) := (QG BK442.out 6).trans rfl
    have hfs60 := QH BK442.out 6
    have hns60_1 := NB443_442.out
    have hns60_2 := NB462_442.out
    have hms60_1 := NB442_443.out
    have hms60_2 := NB442_462.out
    have hs61 : w53.cell? ⟨gb442, 7, none⟩ = some (.int .i64 0) := (QG BK442.out 7).trans rfl
    have hfs61 := QH BK442.out 7
    have hns61_1 := NB443_442.out
    have hns61_2 := NB462_442.out
    have hms61_1 := NB442_443.out
    have hms61_2 := NB442_462.out
    refine skip_ (w1 := ?_) (by rfl) rfl ?_ ?_
    rotate_left
    · go_simp
      rfl
    refine hK.out _ _ ⟨((QB (p := ⟨gb442, _, none⟩) NB462_442.out _).trans (((QB (p := ⟨gb442, _, none⟩) NB462_442.out _).trans (((QB (p := ⟨gb442, _, none⟩) NB462_442.out _).trans (((QB (p := ⟨gb442, _, none⟩) NB462_442.out _).trans (((QB (p := ⟨gb442, _, none⟩) NB462_442.out _).trans (((QB (p := ⟨gb442, _, none⟩) NB462_442.out _).trans (((QB (p := ⟨gb442, _, none⟩) NB462_442.out _).trans (((QB (p := ⟨gb442, _, none⟩) NB462_442.out _).trans (hHeld.1)))))))))))))))), ((QB (p := ⟨gb442, _, none⟩) NB462_442.out _).trans (((QB (p := ⟨gb442, _, none⟩) NB462_442.out _).trans (((QB (p := ⟨gb442, _, none⟩) NB462_442.out _).trans (((QB (p := ⟨gb442, _, none⟩) NB462_442.out _).trans (((QB (p := ⟨gb442, _, none⟩) NB462_442.out _).trans (((QB (p := ⟨gb442, _, none⟩) NB462_442.out _).trans (((QB (p := ⟨gb442, _, none⟩) NB462_442.out _).trans (((QB (p := ⟨gb442, _, none⟩) NB462_442.out _).trans (hHeld.2.1)))))))))))))))), ((QB (p := ⟨gb442, _, none⟩) NB462_442.out _).trans (((QB (p := ⟨gb442, _, none⟩) NB462_442.out _).trans (((QB (p := ⟨gb442, _, none⟩) NB462_442.out _).trans (((QB (p := ⟨gb442, _, none⟩) NB462_442.out _).trans (((QB (p := ⟨gb442, _, none⟩) NB462_442.out _).trans (((QB (p := ⟨gb442, _, none⟩) NB462_442.out _).trans (((QB (p := ⟨gb442, _, none⟩) NB462_442.out _).trans (((QB (p := ⟨gb442, _, none⟩) NB462_442.out _).trans (hHeld.2.2.1)))))))))))))))), ((QB (p := ⟨gb442, _, none⟩) NB462_442.out _).trans (((QB (p := ⟨gb442, _, none⟩) NB462_442.out _).trans (((QB (p := ⟨gb442, _, none⟩) NB462_442.out _).trans (((QB (p := ⟨gb442, _, none⟩) NB462_442.out _).trans (((QB (p := ⟨gb442, _, none⟩) NB462_442.out _).trans (((QB (p := ⟨gb442, _, none⟩) NB462_442.out _).trans (((QB (p := ⟨gb442, _, none⟩) NB462_442.out _).trans (((QB (p := ⟨gb442, _, none⟩) NB462_442.out _).trans (hHeld.2.2.2.1)))))))))))))))), ((QB (p := ⟨gb442, _, none⟩) NB462_442.out _).trans (((QB (p := ⟨gb442, _, none⟩) NB462_442.out _).trans (((QB (p := ⟨gb442, _, none⟩) NB462_442.out _).trans (((QB (p := ⟨gb442, _, none⟩) NB462_442.out _).trans (((QB (p := ⟨gb442, _, none⟩) NB462_442.out _).trans (((QB (p := ⟨gb442, _, none⟩) NB462_442.out _).trans (((QB (p := ⟨gb442, _, none⟩) NB462_442.out _).trans (((QB (p := ⟨gb442, _, none⟩) NB462_442.out _).trans (hHeld.2.2.2.2.1)))))))))))))))), ((QB (p := ⟨gb442, _, none⟩) NB462_442.out _).trans (((QB (p := ⟨gb442, _, none⟩) NB462_442.out _).trans (((QB (p := ⟨gb442, _, none⟩) NB462_442.out _).trans (((QB (p := ⟨gb442, _, none⟩) NB462_442.out _).trans (((QB (p := ⟨gb442, _, none⟩) NB462_442.out _).trans (((QB (p := ⟨gb442, _, none⟩) NB462_442.out _).trans (((QB (p := ⟨gb442, _, none⟩) NB462_442.out _).trans (((QB (p := ⟨gb442, _, none⟩) NB462_442.out _).trans (hHeld.2.2.2.2.2.1)))))))))))))))), ((QB (p := ⟨gb442, _, none⟩) NB462_442.out _).trans (((QB (p := ⟨gb442, _, none⟩) NB462_442.out _).trans (((QB (p := ⟨gb442, _, none⟩) NB462_442.out _).trans (((QB (p := ⟨gb442, _, none⟩) NB462_442.out _).trans (((QB (p := ⟨gb442, _, none⟩) NB462_442.out _).trans (((QB (p := ⟨gb442, _, none⟩) NB462_442.out _).trans (((QB (p := ⟨gb442, _, none⟩) NB462_442.out _).trans (((QB (p := ⟨gb442, _, none⟩) NB462_442.out _).trans (hHeld.2.2.2.2.2.2.1)))))))))))))))), ((QB (p := ⟨gb442, _, none⟩) NB462_442.out _).trans (((QB (p := ⟨gb442, _, none⟩) NB462_442.out _).trans (((QB (p := ⟨gb442, _, none⟩) NB462_442.out _).trans (((QB (p := ⟨gb442, _, none⟩) NB462_442.out _).trans (((QB (p := ⟨gb442, _, none⟩) NB462_442.out _).trans (((QB (p := ⟨gb442, _, none⟩) NB462_442.out _).trans (((QB (p := ⟨gb442, _, none⟩) NB462_442.out _).trans (((QB (p := ⟨gb442, _, none⟩) NB462_442.out _).trans (hHeld.2.2.2.2.2.2.2))))))))))))))))⟩ (fun hHeld => ?_)
    clear hK K
    refine one_ (i := 4) (N := none) #[true, true, true, true, true] rfl rfl (by kernel_rfl) (by decide) (fun K hK => ?_)
    have BKc := QV (show ((((((((w53.setCell ⟨gb442, 0, none⟩ (.int .i64 t448)).setCell ⟨gb442, 1, none⟩ (.int .i64 t449)).setCell ⟨gb442, 2, none⟩ (.bool t450)).setCell ⟨gb442, 3, none⟩ (.bool t451)).setCell ⟨gb442, 4, none⟩ (.slice Ao49 t452.length co49)).setCell ⟨gb442, 5, none⟩ (.slice Ao50 t455.length co50)).setCell ⟨gb442, 6, none⟩ (.int .i64 t458)).setCell ⟨gb442, 7, none⟩ (.int .i64 t459)).heap[gb443]? = some (.cells #[.int .i64 0, .int .i64 0, .bool false, .bool false, .slice none 0 0, .slice none 0 0, .int .i64 0, .int .i64 0] 74 (0, 0)) from by refine QL ?_ NB443_442.out _; refine QL ?_ NB443_442.out _; refine QL ?_ NB443_442.out _; refine QL ?_ NB443_442.out _; refine QL ?_ NB443_442.out _; refine QL ?_ NB443_442.out _; refine QL ?_ NB443_442.out _; refine QL ?_ NB443_442.out _; exact BK443.out)
    generalize hW2 : ((((((((w53.setCell ⟨gb442, 0, none⟩ (.int .i64 t448)).setCell ⟨gb442, 1, none⟩ (.int .i64 t449)).setCell ⟨gb442, 2, none⟩ (.bool t450)).setCell ⟨gb442, 3, none⟩ (.bool t451)).setCell ⟨gb442, 4, none⟩ (.slice Ao49 t452.length co49)).setCell ⟨gb442, 5, none⟩ (.slice Ao50 t455.length co50)).setCell ⟨gb442, 6, none⟩ (.int .i64 t458)).setCell ⟨gb442, 7, none⟩ (.int .i64 t459)) = W2 at BKc hHeld ⊢
    have hs62 : W2.cell? ⟨gb443, 0, none⟩ = some (.int .i64 0) := (QG BKc.out 0).trans rfl
    have hfs62 := QH BKc.out 0
    have hs63 : W2.cell? ⟨gb443, 1, none⟩ = some (.int .i64 0) := (QG BKc.out 1).trans rfl
    have hfs63 := QH BKc.out 1
    have hs64 : W2.cell? ⟨gb443, 2, none⟩ = some (.bool false) := (QG BKc.out 2).trans rfl
    have hfs64 := QH BKc.out 2
    have hs65 : W2.cell? ⟨gb443, 3, none⟩ = some (.bool false) := (QG BKc.out 3).trans rfl
    have hfs65 := QH BKc.out 3
    have hs67 : W2.cell? ⟨gb443, 4, none⟩ = some (.slice none 0 0) := (QG BKc.out 4).trans rfl
    have hfs67 := QH BKc.out 4
    have hs69 : W2.cell? ⟨gb443, 5, none⟩ = some (.slice none 0 0) := (QG BKc.out 5).trans rfl
    have hfs69 := QH BKc.out 5
    have hs70 : W2.cell? ⟨gb443, 6, none⟩ = some (.int .i64 0) := (QG BKc.out 6).trans rfl
    have hfs70 := QH BKc.out 6
    have hs71 : W2.cell? ⟨gb443, 7, none⟩ = some (.int .i64 0) := (QG BKc.out 7).trans rfl
    have hfs71 := QH BKc.out 7
    refine skip_ (w1 := ?_) (by rfl) rfl ?_ ?_
    rotate_left
    · go_simp
      rfl
    subst hW2
    refine hK.out _ _ ⟨((QB (p := ⟨gb443, _, none⟩) NB462_443.out _).trans (((QB (p := ⟨gb443, _, none⟩) NB462_443.out _).trans (((QB (p := ⟨gb443, _, none⟩) NB462_443.out _).trans (((QB (p := ⟨gb443, _, none⟩) NB462_443.out _).trans (((QB (p := ⟨gb443, _, none⟩) NB462_443.out _).trans (((QB (p := ⟨gb443, _, none⟩) NB462_443.out _).trans (((QB (p := ⟨gb443, _, none⟩) NB462_443.out _).trans (((QB (p := ⟨gb443, _, none⟩) NB462_443.out _).trans (hHeld.1)))))))))))))))), ((QB (p := ⟨gb443, _, none⟩) NB462_443.out _).trans (((QB (p := ⟨gb443, _, none⟩) NB462_443.out _).trans (((QB (p := ⟨gb443, _, none⟩) NB462_443.out _).trans (((QB (p := ⟨gb443, _, none⟩) NB462_443.out _).trans (((QB (p := ⟨gb443, _, none⟩) NB462_443.out _).trans (((QB (p := ⟨gb443, _, none⟩) NB462_443.out _).trans (((QB (p := ⟨gb443, _, none⟩) NB462_443.out _).trans (((QB (p := ⟨gb443, _, none⟩) NB462_443.out _).trans (hHeld.2.1)))))))))))))))), ((QB (p := ⟨gb443, _, none⟩) NB462_443.out _).trans (((QB (p := ⟨gb443, _, none⟩) NB462_443.out _).trans (((QB (p := ⟨gb443, _, none⟩) NB462_443.out _).trans (((QB (p := ⟨gb443, _, none⟩) NB462_443.out _).trans (((QB (p := ⟨gb443, _, none⟩) NB462_443.out _).trans (((QB (p := ⟨gb443, _, none⟩) NB462_443.out _).trans (((QB (p := ⟨gb443, _, none⟩) NB462_443.out _).trans (((QB (p := ⟨gb443, _, none⟩) NB462_443.out _).trans (hHeld.2.2.1)))))))))))))))), ((QB (p := ⟨gb443, _, none⟩) NB462_443.out _).trans (((QB (p := ⟨gb443, _, none⟩) NB462_443.out _).trans (((QB (p := ⟨gb443, _, none⟩) NB462_443.out _).trans (((QB (p := ⟨gb443, _, none⟩) NB462_443.out _).trans (((QB (p := ⟨gb443, _, none⟩) NB462_443.out _).trans (((QB (p := ⟨gb443, _, none⟩) NB462_443.out _).trans (((QB (p := ⟨gb443, _, none⟩) NB462_443.out _).trans (((QB (p := ⟨gb443, _, none⟩) NB462_443.out _).trans (hHeld.2.2.2.1)))))))))))))))), ((QB (p := ⟨gb443, _, none⟩) NB462_443.out _).trans (((QB (p := ⟨gb443, _, none⟩) NB462_443.out _).trans (((QB (p := ⟨gb443, _, none⟩) NB462_443.out _).trans (((QB (p := ⟨gb443, _, none⟩) NB462_443.out _).trans (((QB (p := ⟨gb443, _, none⟩) NB462_443.out _).trans (((QB (p := ⟨gb443, _, none⟩) NB462_443.out _).trans (((QB (p := ⟨gb443, _, none⟩) NB462_443.out _).trans (((QB (p := ⟨gb443, _, none⟩) NB462_443.out _).trans (hHeld.2.2.2.2.1)))))))))))))))), ((QB (p := ⟨gb443, _, none⟩) NB462_443.out _).trans (((QB (p := ⟨gb443, _, none⟩) NB462_443.out _).trans (((QB (p := ⟨gb443, _, none⟩) NB462_443.out _).trans (((QB (p := ⟨gb443, _, none⟩) NB462_443.out _).trans (((QB (p := ⟨gb443, _, none⟩) NB462_443.out _).trans (((QB (p := ⟨gb443, _, none⟩) NB462_443.out _).trans (((QB (p := ⟨gb443, _, none⟩) NB462_443.out _).trans (((QB (p := ⟨gb443, _, none⟩) NB462_443.out _).trans (hHeld.2.2.2.2.2.1)))))))))))))))), ((QB (p := ⟨gb443, _, none⟩) NB462_443.out _).trans (((QB (p := ⟨gb443, _, none⟩) NB462_443.out _).trans (((QB (p := ⟨gb443, _, none⟩) NB462_443.out _).trans (((QB (p := ⟨gb443, _, none⟩) NB462_443.out _).trans (((QB (p := ⟨gb443, _, none⟩) NB462_443.out _).trans (((QB (p := ⟨gb443, _, none⟩) NB462_443.out _).trans (((QB (p := ⟨gb443, _, none⟩) NB462_443.out _).trans (((QB (p := ⟨gb443, _, none⟩) NB462_443.out _).trans (hHeld.2.2.2.2.2.2.1)))))))))))))))), ((QB (p := ⟨gb443, _, none⟩) NB462_443.out _).trans (((QB (p := ⟨gb443, _, none⟩) NB462_443.out _).trans (((QB (p := ⟨gb443, _, none⟩) NB462_443.out _).trans (((QB (p := ⟨gb443, _, none⟩) NB462_443.out _).trans (((QB (p := ⟨gb443, _, none⟩) NB462_443.out _).trans (((QB (p := ⟨gb443, _, none⟩) NB462_443.out _).trans (((QB (p := ⟨gb443, _, none⟩) NB462_443.out _).trans (((QB (p := ⟨gb443, _, none⟩) NB462_443.out _).trans (hHeld.2.2.2.2.2.2.2))))))))))))))))⟩ (fun hHeld => ?_)
    clear hK K
    refine done_ (by kernel_rfl) ?_
    try go_wp2
    refine bodyPost_ret (results_cc rfl _ _ gb442 gb443 74 74 #[.int .i64 t448, .int .i64 t449, .bool t450, .bool t451, .slice Ao49 t452.length co49, .slice Ao50 t455.length co50, .int .i64 t458, .int .i64 t459] #[.int .i64 t478, .int .i64 t479, .bool t480, .bool t481, .slice Ao66 t482.length co66, .slice Ao68 t485.length co68, .int .i64 t488, .int .i64 t489] (0, 0) (0, 0) _ _ rfl (by (with_reducible repeat (first | refine QC ?_ _ | refine QE ?_ | refine QD ?_ _)); refine QL ?_ NB442_443.out _; (with_reducible repeat (first | refine QC ?_ _ | refine QE ?_ | refine QD ?_ _)); refine QL ?_ NB442_443.out _; (with_reducible repeat (first | refine QC ?_ _ | refine QE ?_ | refine QD ?_ _)); refine QL ?_ NB442_443.out _; (with_reducible repeat (first | refine QC ?_ _ | refine QE ?_ | refine QD ?_ _)); refine QL ?_ NB442_443.out _; (with_reducible repeat (first | refine QC ?_ _ | refine QE ?_ | refine QD ?_ _)); refine QL ?_ NB442_443.out _; (with_reducible repeat (first | refine QC ?_ _ | refine QE ?_ | refine QD ?_ _)); refine QL ?_ NB442_443.out _; (with_reducible repeat (first | refine QC ?_ _ | refine QE ?_ | refine QD ?_ _)); refine QL ?_ NB442_443.out _; (with_reducible repeat (first | refine QC ?_ _ | refine QE ?_ | refine QD ?_ _)); refine QL ?_ NB442_443.out _; (with_reducible repeat (first | refine QC ?_ _ | refine QE ?_ | refine QD ?_ _)); refine QN (cs := #[.int .i64 t448, .int .i64 t449, .bool t450, .bool t451, .slice Ao49 t452.length co49, .slice Ao50 t455.length co50, .int .i64 t458, .int .i64 0]) ?_ 7 _ rfl; (with_reducible repeat (first | refine QC ?_ _ | refine QE ?_ | refine QD ?_ _)); refine QN (cs := #[.int .i64 t448, .int .i64 t449, .bool t450, .bool t451, .slice Ao49 t452.length co49, .slice Ao50 t455.length co50, .int .i64 0, .int .i64 0]) ?_ 6 _ rfl; (with_reducible repeat (first | refine QC ?_ _ | refine QE ?_ | refine QD ?_ _)); refine QN (cs := #[.int .i64 t448, .int .i64 t449, .bool t450, .bool t451, .slice Ao49 t452.length co49, .slice none 0 0, .int .i64 0, .int .i64 0]) ?_ 5 _ rfl; (with_reducible repeat (first | refine QC ?_ _ | refine QE ?_ | refine QD ?_ _)); refine QN (cs := #[.int .i64 t448, .int .i64 t449, .bool t450, .bool t451, .slice none 0 0, .slice none 0 0, .int .i64 0, .int .i64 0]) ?_ 4 _ rfl; (with_reducible repeat (first | refine QC ?_ _ | refine QE ?_ | refine QD ?_ _)); refine QN (cs := #[.int .i64 t448, .int .i64 t449, .bool t450, .bool false, .slice none 0 0, .slice none 0 0, .int .i64 0, .int .i64 0]) ?_ 3 _ rfl; (with_reducible repeat (first | refine QC ?_ _ | refine QE ?_ | refine QD ?_ _)); refine QN (cs := #[.int .i64 t448, .int .i64 t449, .bool false, .bool false, .slice none 0 0, .slice none 0 0, .int .i64 0, .int .i64 0]) ?_ 2 _ rfl; (with_reducible repeat (first | refine QC ?_ _ | refine QE ?_ | refine QD ?_ _)); refine QN (cs := #[.int .i64 t448, .int .i64 0, .bool false, .bool false, .slice none 0 0, .slice none 0 0, .int .i64 0, .int .i64 0]) ?_ 1 _ rfl; (with_reducible repeat (first | refine QC ?_ _ | refine QE ?_ | refine QD ?_ _)); refine QN (cs := #[.int .i64 0, .int .i64 0, .bool false, .bool false, .slice none 0 0, .slice none 0 0, .int .i64 0, .int .i64 0]) ?_ 0 _ rfl; (with_reducible repeat (first | refine QC ?_ _ | refine QE ?_ | refine QD ?_ _)); exact BK442.out) Try.underlying74 rfl (by kernel_rfl) rfl (by (with_reducible repeat (first | refine QC ?_ _ | refine QE ?_ | refine QD ?_ _)); refine QN (cs := #[.int .i64 t478, .int .i64 t479, .bool t480, .bool t481, .slice Ao66 t482.length co66, .slice Ao68 t485.length co68, .int .i64 t488, .int .i64 0]) ?_ 7 _ rfl; (with_reducible repeat (first | refine QC ?_ _ | refine QE ?_ | refine QD ?_ _)); refine QN (cs := #[.int .i64 t478, .int .i64 t479, .bool t480, .bool t481, .slice Ao66 t482.length co66, .slice Ao68 t485.length co68, .int .i64 0, .int .i64 0]) ?_ 6 _ rfl; (with_reducible repeat (first | refine QC ?_ _ | refine QE ?_ | refine QD ?_ _)); refine QN (cs := #[.int .i64 t478, .int .i64 t479, .bool t480, .bool t481, .slice Ao66 t482.length co66, .slice none 0 0, .int .i64 0, .int .i64 0]) ?_ 5 _ rfl; (with_reducible repeat (first | refine QC ?_ _ | refine QE ?_ | refine QD ?_ _)); refine QN (cs := #[.int .i64 t478, .int .i64 t479, .bool t480, .bool t481, .slice none 0 0, .slice none 0 0, .int .i64 0, .int .i64 0]) ?_ 4 _ rfl; (with_reducible repeat (first | refine QC ?_ _ | refine QE ?_ | refine QD ?_ _)); refine QN (cs := #[.int .i64 t478, .int .i64 t479, .bool t480, .bool false, .slice none 0 0, .slice none 0 0, .int .i64 0, .int .i64 0]) ?_ 3 _ rfl; (with_reducible repeat (first | refine QC ?_ _ | refine QE ?_ | refine QD ?_ _)); refine QN (cs := #[.int .i64 t478, .int .i64 t479, .bool false, .bool false, .slice none 0 0, .slice none 0 0, .int .i64 0, .int .i64 0]) ?_ 2 _ rfl; (with_reducible repeat (first | refine QC ?_ _ | refine QE ?_ | refine QD ?_ _)); refine QN (cs := #[.int .i64 t478, .int .i64 0, .bool false, .bool false, .slice none 0 0, .slice none 0 0, .int .i64 0, .int .i64 0]) ?_ 1 _ rfl; (with_reducible repeat (first | refine QC ?_ _ | refine QE ?_ | refine QD ?_ _)); refine QN (cs := #[.int .i64 0, .int .i64 0, .bool false, .bool false, .slice none 0 0, .slice none 0 0, .int .i64 0, .int .i64 0]) ?_ 0 _ rfl; (with_reducible repeat (first | refine QC ?_ _ | refine QE ?_ | refine QD ?_ _)); refine QL ?_ NB443_442.out _; (with_reducible repeat (first | refine QC ?_ _ | refine QE ?_ | refine QD ?_ _)); refine QL ?_ NB443_442.out _; (with_reducible repeat (first | refine QC ?_ _ | refine QE ?_ | refine QD ?_ _)); refine QL ?_ NB443_442.out _; (with_reducible repeat (first | refine QC ?_ _ | refine QE ?_ | refine QD ?_ _)); refine QL ?_ NB443_442.out _; (with_reducible repeat (first | refine QC ?_ _ | refine QE ?_ | refine QD ?_ _)); refine QL ?_ NB443_442.out _; (with_reducible repeat (first | refine QC ?_ _ | refine QE ?_ | refine QD ?_ _)); refine QL ?_ NB443_442.out _; (with_reducible repeat (first | refine QC ?_ _ | refine QE ?_ | refine QD ?_ _)); refine QL ?_ NB443_442.out _; (with_reducible repeat (first | refine QC ?_ _ | refine QE ?_ | refine QD ?_ _)); refine QL ?_ NB443_442.out _; (with_reducible repeat (first | refine QC ?_ _ | refine QE ?_ | refine QD ?_ _)); exact BK443.out) Try.underlying74 rfl (by kernel_rfl)) rfl ?_
    exact ⟨_, _, _, _, by first | rfl | (simp [errW_none, errW_some] <;> rfl) | (simp [*, errW_none, errW_some] <;> rfl), by (with_reducible repeat (first | apply Kd.Q_alloc | apply Kd.Q_drewN | apply Kd.Q_drew)); exact Kd.Q_mono (QM (p := ⟨gb443, 7, none⟩) (QM (p := ⟨gb443, 6, none⟩) (QM (p := ⟨gb443, 5, none⟩) (QM (p := ⟨gb443, 4, none⟩) (QM (p := ⟨gb443, 3, none⟩) (QM (p := ⟨gb443, 2, none⟩) (QM (p := ⟨gb443, 1, none⟩) (QM (p := ⟨gb443, 0, none⟩) (QM (p := ⟨gb442, 7, none⟩) (QM (p := ⟨gb442, 6, none⟩) (QM (p := ⟨gb442, 5, none⟩) (QM (p := ⟨gb442, 4, none⟩) (QM (p := ⟨gb442, 3, none⟩) (QM (p := ⟨gb442, 2, none⟩) (QM (p := ⟨gb442, 1, none⟩) (QM (p := ⟨gb442, 0, none⟩) (Kd.Q_types (Kd.Q_types HO454.out BK442.out (by decide)) BK443.out (by decide)) (fun _ hk => hk.1.2) (.int .i64 t448)) (fun _ hk => hk.1.2) (.int .i64 t449)) (fun _ hk => hk.1.2) (.bool t450)) (fun _ hk => hk.1.2) (.bool t451)) (fun _ hk => hk.1.2) (.slice Ao49 t452.length co49)) (fun _ hk => hk.1.2) (.slice Ao50 t455.length co50)) (fun _ hk => hk.1.2) (.int .i64 t458)) (fun _ hk => hk.1.2) (.int .i64 t459)) (fun _ hk => hk.2) (.int .i64 t478)) (fun _ hk => hk.2) (.int .i64 t479)) (fun _ hk => hk.2) (.bool t480)) (fun _ hk => hk.2) (.bool t481)) (fun _ hk => hk.2) (.slice Ao66 t482.length co66)) (fun _ hk => hk.2) (.slice Ao68 t485.length co68)) (fun _ hk => hk.2) (.int .i64 t488)) (fun _ hk => hk.2) (.int .i64 t489)) (fun _ hk => ⟨hk.1.1.1.1, ⟨hk.1.1.1.2, hk.1.1.2⟩⟩), by (with_reducible repeat (first | apply QT | apply QU | apply Kd.R_drew)); exact Kd.R_mono (QR (QR (QR (QR (QR (QR (QR (QR (QP (p := ⟨gb442, 7, none⟩) (QP (p := ⟨gb442, 6, none⟩) (QP (p := ⟨gb442, 5, none⟩) (QP (p := ⟨gb442, 4, none⟩) (QP (p := ⟨gb442, 3, none⟩) (QP (p := ⟨gb442, 2, none⟩) (QP (p := ⟨gb442, 1, none⟩) (QP (p := ⟨gb442, 0, none⟩) (Kd.R_types (Kd.R_types HO457.out BK442.out (by decide)) BK443.out (by decide)) (fun _ hk => hk.1.2) (.int .i64 t448)) (fun _ hk => hk.1.2) (.int .i64 t449)) (fun _ hk => hk.1.2) (.bool t450)) (fun _ hk => hk.1.2) (.bool t451)) (fun _ hk => hk.1.2) (.slice Ao49 t452.length co49)) (fun _ hk => hk.1.2) (.slice Ao50 t455.length co50)) (fun _ hk => hk.1.2) (.int .i64 t458)) (fun _ hk => hk.1.2) (.int .i64 t459)))))))))) (fun _ hk => ⟨hk.1.1.1.1, ⟨hk.1.1.1.2, hk.1.1.2⟩⟩), by (with_reducible repeat (first | apply Kd.Q_alloc | apply Kd.Q_drewN | apply Kd.Q_drew)); exact Kd.Q_mono (QM (p := ⟨gb443, 7, none⟩) (QM (p := ⟨gb443, 6, none⟩) (QM (p := ⟨gb443, 5, none⟩) (QM (p := ⟨gb443, 4, none⟩) (QM (p := ⟨gb443, 3, none⟩) (QM (p := ⟨gb443, 2, none⟩) (QM (p := ⟨gb443, 1, none⟩) (QM (p := ⟨gb443, 0, none⟩) (QM (p := ⟨gb442, 7, none⟩) (QM (p := ⟨gb442, 6, none⟩) (QM (p := ⟨gb442, 5, none⟩) (QM (p := ⟨gb442, 4, none⟩) (QM (p := ⟨gb442, 3, none⟩) (QM (p := ⟨gb442, 2, none⟩) (QM (p := ⟨gb442, 1, none⟩) (QM (p := ⟨gb442, 0, none⟩) (Kd.Q_types (Kd.Q_types HO484.out BK442.out (by decide)) BK443.out (by decide)) (fun _ hk => hk.1.2) (.int .i64 t448)) (fun _ hk => hk.1.2) (.int .i64 t449)) (fun _ hk => hk.1.2) (.bool t450)) (fun _ hk => hk.1.2) (.bool t451)) (fun _ hk => hk.1.2) (.slice Ao49 t452.length co49)) (fun _ hk => hk.1.2) (.slice Ao50 t455.length co50)) (fun _ hk => hk.1.2) (.int .i64 t458)) (fun _ hk => hk.1.2) (.int .i64 t459)) (fun _ hk => hk.2) (.int .i64 t478)) (fun _ hk => hk.2) (.int .i64 t479)) (fun _ hk => hk.2) (.bool t480)) (fun _ hk => hk.2) (.bool t481)) (fun _ hk => hk.2) (.slice Ao66 t482.length co66)) (fun _ hk => hk.2) (.slice Ao68 t485.length co68)) (fun _ hk => hk.2) (.int .i64 t488)) (fun _ hk => hk.2) (.int .i64 t489)) (fun _ hk => ⟨hk.1.1.1.2, ⟨hk.1.1.2, hk.1.1.1.1⟩⟩), by (with_reducible repeat (first | apply QT | apply QU | apply Kd.R_drew)); exact Kd.R_mono (QR (QR (QR (QR (QR (QR (QR (QR (QP (p := ⟨gb442, 7, none⟩) (QP (p := ⟨gb442, 6, none⟩) (QP (p := ⟨gb442, 5, none⟩) (QP (p := ⟨gb442, 4, none⟩) (QP (p := ⟨gb442, 3, none⟩) (QP (p := ⟨gb442, 2, none⟩) (QP (p := ⟨gb442, 1, none⟩) (QP (p := ⟨gb442, 0, none⟩) (Kd.R_types (Kd.R_types HO487.out BK442.out (by decide)) BK443.out (by decide)) (fun _ hk => hk.1.2) (.int .i64 t448)) (fun _ hk => hk.1.2) (.int .i64 t449)) (fun _ hk => hk.1.2) (.bool t450)) (fun _ hk => hk.1.2) (.bool t451)) (fun _ hk => hk.1.2) (.slice Ao49 t452.length co49)) (fun _ hk => hk.1.2) (.slice Ao50 t455.length co50)) (fun _ hk => hk.1.2) (.int .i64 t458)) (fun _ hk => hk.1.2) (.int .i64 t459)))))))))) (fun _ hk => ⟨hk.1.1.1.2, ⟨hk.1.1.2, hk.1.1.1.1⟩⟩), by repeat (first | (with_reducible first | exact HB.out | apply QK | apply QF | apply QJ | refine QI ?_ (IsS123.ge HI447.out) | refine QI ?_ GE442.out | refine QI ?_ GE443.out | refine QI ?_ GE462.out) | exact HB.out)⟩

/-! ### impl_EasyRules: function 69 -/
def impl_EasyRules.f  : Option (Int × Int × Bool × Bool × List Int × List Int × Int × Int) := some (3, 5, true, true, (([206] : List Int)), (([212] : List Int)), 1, 200)
set_option maxHeartbeats 8000000 in
set_option maxRecDepth 100000 in
theorem impl_EasyRules.calls  (r1 : Int) (r2 : Int) (r3 : Bool) (r4 : Bool) (r5 : List Int) (r6 : List Int) (r7 : Int) (r8 : Int) (w : World) (h : impl_EasyRules.f  = some (r1, r2, r3, r4, r5, r6, r7, r8)) :
    Calls Try.prog 69 #[] w fun e w' => ∃ v4_ v5_ : Value, e = .returned (.agg #[.int .i64 r1, .int .i64 r2, .bool r3, .bool r4, v4_, v5_, .int .i64 r7, .int .i64 r8]) ∧ Kd.R (Kd.int .i64) 3 w' w.heap.size (fun k_ => some k_ ≠ (v5_ : Value).ownBlock) v4_ r5 ∧ Kd.R (Kd.int .i64) 3 w' w.heap.size (fun k_ => some k_ ≠ (v4_ : Value).ownBlock) v5_ r6 ∧ Below w.heap.size w w' := by
  have hu74 := Try.underlying74
  have HB := QV (Below.refl w.heap.size w)
  have H : (some (3, 5, true, true, (([206] : List Int)), (([212] : List Int)), 1, 200)) = some (r1, r2, r3, r4, r5, r6, r7, r8) := h
  clear h
  obtain ⟨y493, hy493⟩ : ∃ y_ : List Int, y_ = (([206] : List Int)) := ⟨_, rfl⟩
  replace H : (some (3, 5, true, true, y493, (([212] : List Int)), 1, 200)) = some (r1, r2, r3, r4, r5, r6, r7, r8) := by first | (rw [hy493]; with_reducible exact H) | (have H2_ := (Option.bind_some _ _).symm.trans H; rw [hy493]; with_reducible exact H2_) | (have H2_ := (Option.bind_some _ _).symm.trans H; with_reducible exact H2_) | with_reducible exact H | (rw [hy493]; exact H) | exact H
  have Ny493 := QV hy493
  clear hy493
  obtain ⟨y496, hy496⟩ : ∃ y_ : List Int, y_ = (([212] : List Int)) := ⟨_, rfl⟩
  replace H : (some (3, 5, true, true, y493, y496, 1, 200)) = some (r1, r2, r3, r4, r5, r6, r7, r8) := by first | (rw [hy496]; with_reducible exact H) | (have H2_ := (Option.bind_some _ _).symm.trans H; rw [hy496]; with_reducible exact H2_) | (have H2_ := (Option.bind_some _ _).symm.trans H; with_reducible exact H2_) | with_reducible exact H | (rw [hy496]; exact H) | exact H
  have Ny496 := QV hy496
  clear hy496
  simp only [Option.some.injEq, Prod.mk.injEq] at H
  obtain ⟨rfl, rfl, rfl, rfl, rfl, rfl, rfl, rfl⟩ := H
  go_enter Try.func69, Try.ntmps69
  go_wp2_with (first | ((with_reducible refine gate_dst (N := 0) rfl ?_); refine box_event ?hg (N := 0) ?hd (cs := #[.int .i64 0, .int .i64 0, .bool false, .bool false, .slice none 0 0, .slice none 0 0, .int .i64 0, .int .i64 0]) (t := 74) ?hr ?_; (case hd => rfl); (case hg => rfl); (case hr => first | (go_simp; done) | (go_simp; rfl)); intro gb492 hg w1 hbox hb; have n0_ := QV (below_step (by repeat (first | (with_reducible first | exact HB.out | apply QK | apply QF | apply QJ) | exact HB.out)) hb); have n1_ := QV (hbox); have n2_ := QV ((by rw [hg]; exact (QO (by repeat (first | (with_reducible first | exact HB.out | apply QK | apply QF | apply QJ) | exact HB.out))) : w.heap.size ≤ gb492)); have n3_ := QV ((by rw [hg]; exact (QO (by repeat (first | (with_reducible first | exact HB.out | apply QK | apply QF | apply QJ) | exact HB.out))) : w.heap.size ≤ gb492)); clear HB; have HB := n0_; have BK492 := n1_; have GW492 := n2_; have GE492 := n3_; clear n0_ n1_ n2_ n3_; clear hb hbox hg) | ((with_reducible refine gate_dst (N := 1) rfl ?_); refine Kd.R_lit (Kd.int .i64) _ 3 ?hg (N := 1) ?hd (xs := ([206] : List Int)) (inner := [.int .i64 206]) (ok := fun _ => True) (okp := fun _ => True) ?hr ?hp (fun _ hk => hk) trivial (Below.refl _ _) (Nat.le_refl _) (by simp) ?_; (case hd => rfl); (case hg => rfl); (case hr => first | (go_simp; done) | (go_simp; rfl)); (case hp => exact (Reps.one (show Kd.M (Kd.int .i64) _ _ _ 206 [.int .i64 206] from rfl) (Reps.none _ _))); intro v494 w2 ho3 hb hg_ hnew_; clear hg_ hnew_; (first | rw [← Ny493.out] at ho3 | (simp only [Int.reduceToNat] at ho3; rw [← Ny493.out] at ho3)); have n0_ := QV (Kd.R_lower ho3 (QO (by repeat (first | (with_reducible first | exact HB.out | apply QK | apply QF | apply QJ | refine QI ?_ GE492.out) | exact HB.out)))); have n1_ := QV (QS (g := gb492) (o := _) (by (with_reducible repeat (first | refine QC ?_ _ | refine QE ?_ | refine QD ?_ _)); exact BK492.out) hb); have n2_ := QV (below_step (by repeat (first | (with_reducible first | exact HB.out | apply QK | apply QF | apply QJ | refine QI ?_ GE492.out) | exact HB.out)) hb); clear BK492; clear HB; have HO495 := n0_; have BK492 := n1_; have HB := n2_; clear n0_ n1_ n2_; clear hb ho3) | ((with_reducible refine gate_dst (N := 2) rfl ?_); refine Kd.R_lit (Kd.int .i64) _ 3 ?hg (N := 2) ?hd (xs := ([212] : List Int)) (inner := [.int .i64 212]) (ok := fun _ => True) (okp := fun _ => True) ?hr ?hp (fun _ hk => hk) trivial (Below.refl _ _) (Nat.le_refl _) (by simp) ?_; (case hd => rfl); (case hg => rfl); (case hr => first | (go_simp; done) | (go_simp; rfl)); (case hp => exact (Reps.one (show Kd.M (Kd.int .i64) _ _ _ 212 [.int .i64 212] from rfl) (Reps.none _ _))); intro v497 w4 ho5 hb hg_ hnew_; clear hg_ hnew_; (first | rw [← Ny496.out] at ho5 | (simp only [Int.reduceToNat] at ho5; rw [← Ny496.out] at ho5)); have n0_ := QV (Kd.R_elder' (by (with_reducible repeat (first | apply QT | apply QU | apply Kd.R_drew)); exact HO495.out) (Kd.R_base ho5) hb); have n1_ := QV (Kd.R_lower (Kd.R_new' ho5 (Kd.R_lt (by (with_reducible repeat (first | apply QT | apply QU | apply Kd.R_drew)); exact HO495.out))) (QO (by repeat (first | (with_reducible first | exact HB.out | apply QK | apply QF | apply QJ | refine QI ?_ GE492.out) | exact HB.out)))); have n2_ := QV (QS (g := gb492) (o := _) (by (with_reducible repeat (first | refine QC ?_ _ | refine QE ?_ | refine QD ?_ _)); exact BK492.out) hb); have n3_ := QV (below_step (by repeat (first | (with_reducible first | exact HB.out | apply QK | apply QF | apply QJ | refine QI ?_ GE492.out) | exact HB.out)) hb); clear HO495; clear BK492; clear HB; have HO495 := n0_; have HO498 := n1_; have BK492 := n2_; have HB := n3_; clear n0_ n1_ n2_ n3_; clear hb ho5; obtain ⟨Ao6, co6, eo6⟩ := Kd.R_slice HO498.out; subst eo6; obtain ⟨Ao7, co7, eo7⟩ := Kd.R_slice HO495.out; subst eo7; have hcz8_0 : w4.cell? ⟨gb492, 0, none⟩ = some (.int .i64 0) := (QG BK492.out 0).trans rfl; have hcz8_1 : w4.cell? ⟨gb492, 1, none⟩ = some (.int .i64 0) := (QG BK492.out 1).trans rfl; have hcz8_2 : w4.cell? ⟨gb492, 2, none⟩ = some (.bool false) := (QG BK492.out 2).trans rfl; have hcz8_3 : w4.cell? ⟨gb492, 3, none⟩ = some (.bool false) := (QG BK492.out 3).trans rfl; have hcz8_4 : w4.cell? ⟨gb492, 4, none⟩ = some (.slice none 0 0) := (QG BK492.out 4).trans rfl; have hcz8_5 : w4.cell? ⟨gb492, 5, none⟩ = some (.slice none 0 0) := (QG BK492.out 5).trans rfl; have hcz8_6 : w4.cell? ⟨gb492, 6, none⟩ = some (.int .i64 0) := (QG BK492.out 6).trans rfl; have hcz8_7 : w4.cell? ⟨gb492, 7, none⟩ = some (.int .i64 0) := (QG BK492.out 7).trans rfl; have hfz8_0 := QH BK492.out 0; have hfz8_1 := QH BK492.out 1; have hfz8_2 := QH BK492.out 2; have hfz8_3 := QH BK492.out 3; have hfz8_4 := QH BK492.out 4; have hfz8_5 := QH BK492.out 5; have hfz8_6 := QH BK492.out 6; have hfz8_7 := QH BK492.out 7))
  refine bodyPost_ret (results_cell_row rfl _ _ gb492 74 #[.int .i64 3, .int .i64 5, .bool true, .bool true, .slice Ao7 y493.length co7, .slice Ao6 y496.length co6, .int .i64 1, .int .i64 200] (0, 0) _ rfl (by (with_reducible repeat (first | refine QC ?_ _ | refine QE ?_ | refine QD ?_ _)); refine QN (cs := #[.int .i64 3, .int .i64 5, .bool true, .bool true, .slice Ao7 y493.length co7, .slice Ao6 y496.length co6, .int .i64 1, .int .i64 0]) ?_ 7 _ rfl; (with_reducible repeat (first | refine QC ?_ _ | refine QE ?_ | refine QD ?_ _)); refine QN (cs := #[.int .i64 3, .int .i64 5, .bool true, .bool true, .slice Ao7 y493.length co7, .slice Ao6 y496.length co6, .int .i64 0, .int .i64 0]) ?_ 6 _ rfl; (with_reducible repeat (first | refine QC ?_ _ | refine QE ?_ | refine QD ?_ _)); refine QN (cs := #[.int .i64 3, .int .i64 5, .bool true, .bool true, .slice Ao7 y493.length co7, .slice none 0 0, .int .i64 0, .int .i64 0]) ?_ 5 _ rfl; (with_reducible repeat (first | refine QC ?_ _ | refine QE ?_ | refine QD ?_ _)); refine QN (cs := #[.int .i64 3, .int .i64 5, .bool true, .bool true, .slice none 0 0, .slice none 0 0, .int .i64 0, .int .i64 0]) ?_ 4 _ rfl; (with_reducible repeat (first | refine QC ?_ _ | refine QE ?_ | refine QD ?_ _)); refine QN (cs := #[.int .i64 3, .int .i64 5, .bool true, .bool false, .slice none 0 0, .slice none 0 0, .int .i64 0, .int .i64 0]) ?_ 3 _ rfl; (with_reducible repeat (first | refine QC ?_ _ | refine QE ?_ | refine QD ?_ _)); refine QN (cs := #[.int .i64 3, .int .i64 5, .bool false, .bool false, .slice none 0 0, .slice none 0 0, .int .i64 0, .int .i64 0]) ?_ 2 _ rfl; (with_reducible repeat (first | refine QC ?_ _ | refine QE ?_ | refine QD ?_ _)); refine QN (cs := #[.int .i64 3, .int .i64 0, .bool false, .bool false, .slice none 0 0, .slice none 0 0, .int .i64 0, .int .i64 0]) ?_ 1 _ rfl; (with_reducible repeat (first | refine QC ?_ _ | refine QE ?_ | refine QD ?_ _)); refine QN (cs := #[.int .i64 0, .int .i64 0, .bool false, .bool false, .slice none 0 0, .slice none 0 0, .int .i64 0, .int .i64 0]) ?_ 0 _ rfl; (with_reducible repeat (first | refine QC ?_ _ | refine QE ?_ | refine QD ?_ _)); exact BK492.out) Try.underlying74 rfl (by kernel_rfl)) rfl ?_
  exact ⟨_, _, by first | rfl | (simp [errW_none, errW_some] <;> rfl) | (simp [*, errW_none, errW_some] <;> rfl), by (with_reducible repeat (first | apply QT | apply QU | apply Kd.R_drew)); exact Kd.R_mono (QR (QR (QR (QR (QR (QR (QR (QR (Kd.R_types HO495.out BK492.out (by decide)))))))))) (fun _ hk => hk.1.2), by (with_reducible repeat (first | apply QT | apply QU | apply Kd.R_drew)); exact Kd.R_mono (QR (QR (QR (QR (QR (QR (QR (QR (Kd.R_types HO498.out BK492.out (by decide)))))))))) (fun _ hk => hk.1.2), by repeat (first | (with_reducible first | exact HB.out | apply QK | apply QF | apply QJ | refine QI ?_ GE492.out) | exact HB.out)⟩

/-! ### impl_EqualInts: function 130 -/
def impl_EqualInts.l0 : Nat → List Int → List Int → Int → Int → Option (Bool)
  | 0, _, _, _, _ => none
  | k + 1, x0, x1, x12, x13 => if x13 < x12 then (if 0 ≤ x13 then (if x13 < (x0.length : Int) then (if x13 < (x1.length : Int) then (if (rd x0 x13) = (rd x1 x13) then (impl_EqualInts.l0 k x0 x1 x12 (wrap64 (x13 + 1))) else (some false)) else (none)) else (none)) else (none)) else (some true)
def impl_EqualInts.f (k : Nat) (l0 : List Int) (l1 : List Int) : Option (Bool) := if (l0.length : Int) = (l1.length : Int) then (impl_EqualInts.l0 k l0 l1 (l0.length : Int) 0) else (some false)
theorem impl_EqualInts.mono_l : ∀ k, (∀ y0 y1 y2 y3, LeO (impl_EqualInts.l0 k y0 y1 y2 y3) (impl_EqualInts.l0 (k + 1) y0 y1 y2 y3))
  | 0 => fun _ _ _ _ r h => by simp [impl_EqualInts.l0] at h
  | k + 1 => by
    have ih0 := impl_EqualInts.mono_l k
    · intro y0 y1 y2 y3
      unfold impl_EqualInts.l0
      repeat' first
      | (with_reducible exact ih0 _ _ _ _)
      | (with_reducible exact LeO.refl _)
      | (with_reducible exact LeO.none _)
      | (with_reducible refine LeO.ite ?_ ?_)
      | (with_reducible refine LeO.bind ?_ (fun _ => ?_))
      | exact ih0 _ _ _ _
      | exact LeO.none _
      | refine LeO.ite ?_ ?_
      | refine LeO.bind ?_ (fun _ => ?_)
theorem impl_EqualInts.mono : ∀ a0 a1 k, LeO (impl_EqualInts.f k a0 a1) (impl_EqualInts.f (k + 1) a0 a1) := by
  intro a0 a1 k
  have ih0 := impl_EqualInts.mono_l k
  unfold impl_EqualInts.f
  repeat' first
      | (with_reducible exact ih0 _ _ _ _)
      | (with_reducible exact LeO.refl _)
      | (with_reducible exact LeO.none _)
      | (with_reducible refine LeO.ite ?_ ?_)
      | (with_reducible refine LeO.bind ?_ (fun _ => ?_))
      | exact ih0 _ _ _ _
      | exact LeO.none _
      | refine LeO.ite ?_ ?_
      | refine LeO.bind ?_ (fun _ => ?_)
set_option maxHeartbeats 8000000 in
set_option maxRecDepth 100000 in
theorem impl_EqualInts.calls (k : Nat) (A0 : Option Addr) (c0 : Nat) (l0 : List Int) (A1 : Option Addr) (c1 : Nat) (l1 : List Int) (r : Bool) (w : World) (hr0 : Kd.C (Kd.int .i64) w A0 l0.length l0) (hc0 : l0.length ≤ c0) (hr1 : Kd.C (Kd.int .i64) w A1 l1.length l1) (hc1 : l1.length ≤ c1) (h : impl_EqualInts.f k l0 l1 = some r) :
    Calls Try.prog 130 #[.slice A0 l0.length c0, .slice A1 l1.length c1] w fun e w' => e = .returned (.bool r) ∧ Drawn0 w w' := by
  have HR0 := QV hr0
  have HC0 := QV hc0
  clear hr0 hc0
  have HR1 := QV hr1
  have HC1 := QV hc1
  clear hr1 hc1
  have H : (if (l0.length : Int) = (l1.length : Int) then (impl_EqualInts.l0 k l0 l1 (l0.length : Int) 0) else (some false)) = some r := h
  clear h
  by_cases c3 : (l0.length : Int) = (l1.length : Int)
  · rw [if_pos c3] at H
    have c3b0 : ((l0.length : Int) == (l1.length : Int)) = true := beq_iff_eq.mpr c3
    have c3b1 : ((l0.length : Int) != (l1.length : Int)) = false := bne_eq_false_iff_eq.mpr c3
    have c3b2 : (l0.length == l1.length) = true := by first | simpa using c3 | (simp at c3 ⊢; omega)
    clear c3
    have H' := QV H
    clear H
    go_enter Try.func130, Try.ntmps130
    go_wp2
    repeat (go_quiet (fail); try go_wp2)
    go_loopg [13] k (fun kq v13 w' => ∃ (x13_1 : Int), v13 = .int .i64 x13_1 ∧ Aside0 (impl_EqualInts.l0 kq l0 l1 (l0.length : Int) x13_1 = some r) ∧ Aside0 (kq ≤ k) ∧ Drawn0 w w')
    case atStart => exact ⟨(0), (by first | rfl | (simp; done) | (simp [*]; done)), H', ⟨Nat.le_refl _⟩, by repeat (first | exact Drawn0.refl _ | apply Drawn0.step)⟩
    case round =>
      clear H'
      try clear c1
      try clear p2
      try clear c3
      try clear c3b0
      try clear c3b1
      try clear c3b2
      obtain ⟨x13_1, rfl, HA, HK1, ⟨m1, rfl⟩⟩ := hrel
      cases gk with
      | zero => exact absurd HA.out (by simp [impl_EqualInts.l0])
      | succ k1 =>
        have H := HA.out
        clear HA
        simp only [impl_EqualInts.l0] at H
        by_cases c4 : x13_1 < (l0.length : Int)
        · rw [if_pos c4] at H
          have c4b0 : decide (x13_1 < (l0.length : Int)) = true := decide_eq_true c4
          clear c4
          by_cases c5 : 0 ≤ x13_1
          · rw [if_pos c5] at H
            have c5b0 : decide (0 ≤ x13_1) = true := decide_eq_true c5
            clear c5
            by_cases c6 : x13_1 < (l0.length : Int)
            · rw [if_pos c6] at H
              have c6b0 : decide (x13_1 < (l0.length : Int)) = true := decide_eq_true c6
              clear c6
              by_cases c7 : x13_1 < (l1.length : Int)
              · rw [if_pos c7] at H
                have c7b0 : decide (x13_1 < (l1.length : Int)) = true := decide_eq_true c7
                clear c7
                by_cases c8 : (rd l0 x13_1) = (rd l1 x13_1)
                · rw [if_pos c8] at H
                  have c8b0 : ((rd l0 x13_1) == (rd l1 x13_1)) = true := beq_iff_eq.mpr c8
                  have c8b1 : ((rd l0 x13_1) != (rd l1 x13_1)) = false := bne_eq_false_iff_eq.mpr c8
                  clear c8
                  have H' := QV H
                  clear H
                  have p499 : 0 ≤ (x13_1 : Int) := of_decide_eq_true (by first | (with_reducible assumption) | assumption)
                  have q499 : x13_1 < (l0.length : Int) := of_decide_eq_true (by first | (with_reducible assumption) | assumption)
                  obtain ⟨ad499, e499, hx499_0⟩ := Kd.at_int HR0.out x13_1 p499 q499
                  cases e499
                  replace p499 := eq_true p499
                  replace q499 := eq_true q499
                  have p500 : 0 ≤ (x13_1 : Int) := of_decide_eq_true (by first | (with_reducible assumption) | assumption)
                  have q500 : x13_1 < (l1.length : Int) := of_decide_eq_true (by first | (with_reducible assumption) | assumption)
                  obtain ⟨ad500, e500, hx500_0⟩ := Kd.at_int HR1.out x13_1 p500 q500
                  cases e500
                  replace p500 := eq_true p500
                  replace q500 := eq_true q500
                  go_wp2
                  repeat (go_quiet (fail); try go_wp2)
                  go_roundg k1
                  case measure => have := HK1.out; omega
                  case rel => exact ⟨(wrap64 (x13_1 + 1)), (by first | rfl | (simp; done) | (simp [*]; done)), H', ⟨by have := HK1.out; omega⟩, by repeat (first | exact Drawn0.refl _ | apply Drawn0.step)⟩
                · rw [if_neg c8] at H
                  have c8b0 : ((rd l0 x13_1) == (rd l1 x13_1)) = false := beq_eq_false_iff_ne.mpr c8
                  have c8b1 : ((rd l0 x13_1) != (rd l1 x13_1)) = true := bne_iff_ne.mpr c8
                  obtain rfl := Option.some.inj H
                  have p499 : 0 ≤ (x13_1 : Int) := of_decide_eq_true (by first | (with_reducible assumption) | assumption)
                  have q499 : x13_1 < (l0.length : Int) := of_decide_eq_true (by first | (with_reducible assumption) | assumption)
                  obtain ⟨ad499, e499, hx499_0⟩ := Kd.at_int HR0.out x13_1 p499 q499
                  cases e499
                  replace p499 := eq_true p499
                  replace q499 := eq_true q499
                  have p500 : 0 ≤ (x13_1 : Int) := of_decide_eq_true (by first | (with_reducible assumption) | assumption)
                  have q500 : x13_1 < (l1.length : Int) := of_decide_eq_true (by first | (with_reducible assumption) | assumption)
                  obtain ⟨ad500, e500, hx500_0⟩ := Kd.at_int HR1.out x13_1 p500 q500
                  cases e500
                  replace p500 := eq_true p500
                  replace q500 := eq_true q500
                  go_wp2
                  repeat (go_quiet (fail); try go_wp2)
                  go_ret
                  exact ⟨by first | rfl | (simp; done) | (simp [*]; done), by repeat (first | exact Drawn0.refl _ | apply Drawn0.step)⟩
              · rw [if_neg c7] at H
                exact absurd H (by simp)
            · rw [if_neg c6] at H
              exact absurd H (by simp)
          · rw [if_neg c5] at H
            exact absurd H (by simp)
        · rw [if_neg c4] at H
          have c4b0 : decide (x13_1 < (l0.length : Int)) = false := decide_eq_false c4
          clear c4
          obtain rfl := Option.some.inj H
          go_wp2
          repeat (go_quiet (fail); try go_wp2)
          go_ret
          exact ⟨by first | rfl | (simp; done) | (simp [*]; done), by repeat (first | exact Drawn0.refl _ | apply Drawn0.step)⟩
  · rw [if_neg c3] at H
    have c3b0 : ((l0.length : Int) == (l1.length : Int)) = false := beq_eq_false_iff_ne.mpr c3
    have c3b1 : ((l0.length : Int) != (l1.length : Int)) = true := bne_iff_ne.mpr c3
    have c3b2 : (l0.length == l1.length) = false := by first | simpa using c3 | (simp at c3 ⊢; omega)
    obtain rfl := Option.some.inj H
    go_enter Try.func130, Try.ntmps130
    go_wp2
    repeat (go_quiet (fail); try go_wp2)
    go_ret
    exact ⟨by first | rfl | (simp; done) | (simp [*]; done), by repeat (first | exact Drawn0.refl _ | apply Drawn0.step)⟩

/-! ### impl_EqualRules: function 70 -/
def impl_EqualRules.f (k : Nat) (a0_0 : Int) (a0_1 : Int) (a0_2 : Bool) (a0_3 : Bool) (l0_4 : List Int) (l0_5 : List Int) (a0_6 : Int) (a0_7 : Int) (a1_0 : Int) (a1_1 : Int) (a1_2 : Bool) (a1_3 : Bool) (l1_4 : List Int) (l1_5 : List Int) (a1_6 : Int) (a1_7 : Int) : Option (Bool) := if a0_0 = a1_0 then (if a0_1 = a1_1 then (if (a0_2 == a1_2) = true then (if (a0_3 == a1_3) = true then (if a0_6 = a1_6 then (if a0_7 = a1_7 then ((impl_EqualInts.f k l0_4 l1_4).bind fun t503 => (if t503 = true then ((impl_EqualInts.f k l0_5 l1_5).bind fun t504 => (some t504)) else (some false))) else (some false)) else (some false)) else (some false)) else (some false)) else (some false)) else (some false)
theorem impl_EqualRules.mono : ∀ a0 a1 a2 a3 a4 a5 a6 a7 a8 a9 a10 a11 a12 a13 a14 a15 k, LeO (impl_EqualRules.f k a0 a1 a2 a3 a4 a5 a6 a7 a8 a9 a10 a11 a12 a13 a14 a15) (impl_EqualRules.f (k + 1) a0 a1 a2 a3 a4 a5 a6 a7 a8 a9 a10 a11 a12 a13 a14 a15) := by
  intro a0 a1 a2 a3 a4 a5 a6 a7 a8 a9 a10 a11 a12 a13 a14 a15 k
  unfold impl_EqualRules.f
  repeat' first
      | (with_reducible exact impl_EqualInts.mono _ _ _)
      | (with_reducible exact LeO.refl _)
      | (with_reducible exact LeO.none _)
      | (with_reducible refine LeO.ite ?_ ?_)
      | (with_reducible refine LeO.bind ?_ (fun _ => ?_))
      | exact impl_EqualInts.mono _ _ _
      | exact LeO.none _
      | refine LeO.ite ?_ ?_
      | refine LeO.bind ?_ (fun _ => ?_)
set_option maxHeartbeats 8000000 in
set_option maxRecDepth 100000 in
theorem impl_EqualRules.calls (k : Nat) (a0_0 : Int) (a0_1 : Int) (a0_2 : Bool) (a0_3 : Bool) (A0_4 : Option Addr) (c0_4 : Nat) (l0_4 : List Int) (A0_5 : Option Addr) (c0_5 : Nat) (l0_5 : List Int) (a0_6 : Int) (a0_7 : Int) (a1_0 : Int) (a1_1 : Int) (a1_2 : Bool) (a1_3 : Bool) (A1_4 : Option Addr) (c1_4 : Nat) (l1_4 : List Int) (A1_5 : Option Addr) (c1_5 : Nat) (l1_5 : List Int) (a1_6 : Int) (a1_7 : Int) (r : Bool) (w : World) (hr0_4 : Kd.C (Kd.int .i64) w A0_4 l0_4.length l0_4) (hc0_4 : l0_4.length ≤ c0_4) (hr0_5 : Kd.C (Kd.int .i64) w A0_5 l0_5.length l0_5) (hc0_5 : l0_5.length ≤ c0_5) (hr1_4 : Kd.C (Kd.int .i64) w A1_4 l1_4.length l1_4) (hc1_4 : l1_4.length ≤ c1_4) (hr1_5 : Kd.C (Kd.int .i64) w A1_5 l1_5.length l1_5) (hc1_5 : l1_5.length ≤ c1_5) (h : impl_EqualRules.f k a0_0 a0_1 a0_2 a0_3 l0_4 l0_5 a0_6 a0_7 a1_0 a1_1 a1_2 a1_3 l1_4 l1_5 a1_6 a1_7 = some r) :
    Calls Try.prog 70 #[.agg #[.int .i64 a0_0, .int .i64 a0_1, .bool a0_2, .bool a0_3, .slice A0_4 l0_4.length c0_4, .slice A0_5 l0_5.length c0_5, .int .i64 a0_6, .int .i64 a0_7], .agg #[.int .i64 a1_0, .int .i64 a1_1, .bool a1_2, .bool a1_3, .slice A1_4 l1_4.length c1_4, .slice A1_5 l1_5.length c1_5, .int .i64 a1_6, .int .i64 a1_7]] w fun e w' => e = .returned (.bool r) ∧ Below w.heap.size w w' := by
  have hu74 := Try.underlying74
  have HR0_4 := QV hr0_4
  have HC0_4 := QV hc0_4
  clear hr0_4 hc0_4
  have HR0_5 := QV hr0_5
  have HC0_5 := QV hc0_5
  clear hr0_5 hc0_5
  have HR1_4 := QV hr1_4
  have HC1_4 := QV hc1_4
  clear hr1_4 hc1_4
  have HR1_5 := QV hr1_5
  have HC1_5 := QV hc1_5
  clear hr1_5 hc1_5
  have HB := QV (Below.refl w.heap.size w)
  have H : (if a0_0 = a1_0 then (if a0_1 = a1_1 then (if (a0_2 == a1_2) = true then (if (a0_3 == a1_3) = true then (if a0_6 = a1_6 then (if a0_7 = a1_7 then ((impl_EqualInts.f k l0_4 l1_4).bind fun t503 => (if t503 = true then ((impl_EqualInts.f k l0_5 l1_5).bind fun t504 => (some t504)) else (some false))) else (some false)) else (some false)) else (some false)) else (some false)) else (some false)) else (some false)) = some r := h
  clear h
  by_cases c3 : a0_0 = a1_0
  rotate_left
  rw [if_neg c3] at H
  have c3b0 : (a0_0 == a1_0) = false := beq_eq_false_iff_ne.mpr c3
  have c3b1 : (a0_0 != a1_0) = true := bne_iff_ne.mpr c3
  obtain rfl := Option.some.inj H
  rotate_right
  rw [if_pos c3] at H
  have c3b0 : (a0_0 == a1_0) = true := beq_iff_eq.mpr c3
  have c3b1 : (a0_0 != a1_0) = false := bne_eq_false_iff_eq.mpr c3
  clear c3
  by_cases c4 : a0_1 = a1_1
  rotate_left
  rw [if_neg c4] at H
  have c4b0 : (a0_1 == a1_1) = false := beq_eq_false_iff_ne.mpr c4
  have c4b1 : (a0_1 != a1_1) = true := bne_iff_ne.mpr c4
  obtain rfl := Option.some.inj H
  rotate_right
  rw [if_pos c4] at H
  have c4b0 : (a0_1 == a1_1) = true := beq_iff_eq.mpr c4
  have c4b1 : (a0_1 != a1_1) = false := bne_eq_false_iff_eq.mpr c4
  clear c4
  by_cases c5 : (a0_2 == a1_2) = true
  rotate_left
  rw [if_neg c5] at H
  have c5b0 : (a0_2 == a1_2) = false := by simpa using c5
  (try (have c5b1 : decide (a0_2 = a1_2) = false := by simpa using c5))
  (try (have c5b2 : (a0_2 == a1_2) = false := by simpa using c5))
  (try (have c5b3 : ¬ (a0_2 = a1_2) := by simpa using c5))
  clear c5
  obtain rfl := Option.some.inj H
  rotate_right
  rw [if_pos c5] at H
  have c5b0 : (a0_2 == a1_2) = true := c5
  (try (have c5b1 : decide (a0_2 = a1_2) = true := by simpa using c5))
  (try (have c5b2 : (a0_2 == a1_2) = true := by simpa using c5))
  clear c5
  by_cases c6 : (a0_3 == a1_3) = true
  rotate_left
  rw [if_neg c6] at H
  have c6b0 : (a0_3 == a1_3) = false := by simpa using c6
  (try (have c6b1 : decide (a0_3 = a1_3) = false := by simpa using c6))
  (try (have c6b2 : (a0_3 == a1_3) = false := by simpa using c6))
  (try (have c6b3 : ¬ (a0_3 = a1_3) := by simpa using c6))
  clear c6
  obtain rfl := Option.some.inj H
  rotate_right
  rw [if_pos c6] at H
  have c6b0 : (a0_3 == a1_3) = true := c6
  (try (have c6b1 : decide (a0_3 = a1_3) = true := by simpa using c6))
  (try (have c6b2 : (a0_3 == a1_3) = true := by simpa using c6))
  clear c6
  by_cases c7 : a0_6 = a1_6
  rotate_left
  rw [if_neg c7] at H
  have c7b0 : (a0_6 == a1_6) = false := beq_eq_false_iff_ne.mpr c7
  have c7b1 : (a0_6 != a1_6) = true := bne_iff_ne.mpr c7
  obtain rfl := Option.some.inj H
  rotate_right
  rw [if_pos c7] at H
  have c7b0 : (a0_6 == a1_6) = true := beq_iff_eq.mpr c7
  have c7b1 : (a0_6 != a1_6) = false := bne_eq_false_iff_eq.mpr c7
  clear c7
  by_cases c8 : a0_7 = a1_7
  rotate_left
  rw [if_neg c8] at H
  have c8b0 : (a0_7 == a1_7) = false := beq_eq_false_iff_ne.mpr c8
  have c8b1 : (a0_7 != a1_7) = true := bne_iff_ne.mpr c8
  obtain rfl := Option.some.inj H
  rotate_right
  rw [if_pos c8] at H
  have c8b0 : (a0_7 == a1_7) = true := beq_iff_eq.mpr c8
  have c8b1 : (a0_7 != a1_7) = false := bne_eq_false_iff_eq.mpr c8
  clear c8
  replace H := Option.bind_eq_some_iff.mp H
  obtain ⟨t503, A90, H⟩ := H
  have A9 := QV A90
  clear A90
  by_cases c10 : t503 = true
  rotate_left
  replace c10 := Bool.eq_false_iff.mpr c10
  subst c10
  rw [if_neg (show ¬ (false = true) by decide)] at H
  obtain rfl := Option.some.inj H
  rotate_right
  subst c10
  rw [if_pos rfl] at H
  replace H := Option.bind_eq_some_iff.mp H
  obtain ⟨t504, A110, H⟩ := H
  have A11 := QV A110
  clear A110
  obtain rfl := Option.some.inj H
  all_goals
    go_enter Try.func70, Try.ntmps70
    go_wp2_with (first | ((with_reducible refine gate_dst (N := 2) rfl ?_); refine box_event ?hg (N := 2) ?hd (cs := #[.int .i64 a0_0, .int .i64 a0_1, .bool a0_2, .bool a0_3, .slice A0_4 l0_4.length c0_4, .slice A0_5 l0_5.length c0_5, .int .i64 a0_6, .int .i64 a0_7]) (t := 74) ?hr ?_; (case hd => rfl); (case hg => rfl); (case hr => first | (go_simp; done) | (go_simp; rfl)); intro gb501 hg w12 hbox hb; have n0_ := QV (below_step (by repeat (first | (with_reducible first | exact HB.out | apply QK | apply QF | apply QJ) | exact HB.out)) hb); have n1_ := QV (hbox); have n2_ := QV ((by rw [hg]; exact (QO (by repeat (first | (with_reducible first | exact HB.out | apply QK | apply QF | apply QJ) | exact HB.out))) : w.heap.size ≤ gb501)); have n3_ := QV ((by rw [hg]; exact (QO (by repeat (first | (with_reducible first | exact HB.out | apply QK | apply QF | apply QJ) | exact HB.out))) : w.heap.size ≤ gb501)); clear HB; have HB := n0_; have BK501 := n1_; have GW501 := n2_; have GE501 := n3_; clear n0_ n1_ n2_ n3_; clear hb hbox hg) | ((with_reducible refine gate_dst (N := 3) rfl ?_); refine box_event ?hg (N := 3) ?hd (cs := #[.int .i64 a1_0, .int .i64 a1_1, .bool a1_2, .bool a1_3, .slice A1_4 l1_4.length c1_4, .slice A1_5 l1_5.length c1_5, .int .i64 a1_6, .int .i64 a1_7]) (t := 74) ?hr ?_; (case hd => rfl); (case hg => rfl); (case hr => first | (go_simp; done) | (go_simp; rfl)); intro gb502 hg w13 hbox hb; have n0_ := QV (QS (g := gb501) (o := _) (by (with_reducible repeat (first | refine QC ?_ _ | refine QE ?_ | refine QD ?_ _)); exact BK501.out) hb); have n1_ := QV (below_step (by repeat (first | (with_reducible first | exact HB.out | apply QK | apply QF | apply QJ | refine QI ?_ GE501.out) | exact HB.out)) hb); have n2_ := QV (hbox); have n3_ := QV ((by rw [hg]; exact (QO (by repeat (first | (with_reducible first | exact HB.out | apply QK | apply QF | apply QJ | refine QI ?_ GE501.out) | exact HB.out))) : w.heap.size ≤ gb502)); have n4_ := QV ((by rw [hg]; exact (QO (by repeat (first | (with_reducible first | exact HB.out | apply QK | apply QF | apply QJ | refine QI ?_ GE501.out) | exact HB.out))) : w.heap.size ≤ gb502)); have n5_ := QV ((by rw [hg]; exact Nat.ne_of_lt (blk_lt (g := gb501) (o := _) (by (with_reducible repeat (first | refine QC ?_ _ | refine QE ?_ | refine QD ?_ _)); exact BK501.out)) : gb501 ≠ gb502)); have n6_ := QV ((by rw [hg]; exact Nat.ne_of_gt (blk_lt (g := gb501) (o := _) (by (with_reducible repeat (first | refine QC ?_ _ | refine QE ?_ | refine QD ?_ _)); exact BK501.out)) : gb502 ≠ gb501)); clear BK501; clear HB; have BK501 := n0_; have HB := n1_; have BK502 := n2_; have GW502 := n3_; have GE502 := n4_; have NB501_502 := n5_; have NB502_501 := n6_; clear n0_ n1_ n2_ n3_ n4_ n5_ n6_; clear hb hbox hg; have hnb14 := NB501_502.out; have hnc14 := NB502_501.out; have hcz15_0 : w13.cell? ⟨gb501, 0, none⟩ = some (.int .i64 a0_0) := (QG BK501.out 0).trans rfl; have hcz15_1 : w13.cell? ⟨gb501, 1, none⟩ = some (.int .i64 a0_1) := (QG BK501.out 1).trans rfl; have hcz15_2 : w13.cell? ⟨gb501, 2, none⟩ = some (.bool a0_2) := (QG BK501.out 2).trans rfl; have hcz15_3 : w13.cell? ⟨gb501, 3, none⟩ = some (.bool a0_3) := (QG BK501.out 3).trans rfl; have hcz15_4 : w13.cell? ⟨gb501, 4, none⟩ = some (.slice A0_4 l0_4.length c0_4) := (QG BK501.out 4).trans rfl; have hcz15_5 : w13.cell? ⟨gb501, 5, none⟩ = some (.slice A0_5 l0_5.length c0_5) := (QG BK501.out 5).trans rfl; have hcz15_6 : w13.cell? ⟨gb501, 6, none⟩ = some (.int .i64 a0_6) := (QG BK501.out 6).trans rfl; have hcz15_7 : w13.cell? ⟨gb501, 7, none⟩ = some (.int .i64 a0_7) := (QG BK501.out 7).trans rfl; have hfz15_0 := QH BK501.out 0; have hfz15_1 := QH BK501.out 1; have hfz15_2 := QH BK501.out 2; have hfz15_3 := QH BK501.out 3; have hfz15_4 := QH BK501.out 4; have hfz15_5 := QH BK501.out 5; have hfz15_6 := QH BK501.out 6; have hfz15_7 := QH BK501.out 7; have hcz16_0 : w13.cell? ⟨gb502, 0, none⟩ = some (.int .i64 a1_0) := (QG BK502.out 0).trans rfl; have hcz16_1 : w13.cell? ⟨gb502, 1, none⟩ = some (.int .i64 a1_1) := (QG BK502.out 1).trans rfl; have hcz16_2 : w13.cell? ⟨gb502, 2, none⟩ = some (.bool a1_2) := (QG BK502.out 2).trans rfl; have hcz16_3 : w13.cell? ⟨gb502, 3, none⟩ = some (.bool a1_3) := (QG BK502.out 3).trans rfl; have hcz16_4 : w13.cell? ⟨gb502, 4, none⟩ = some (.slice A1_4 l1_4.length c1_4) := (QG BK502.out 4).trans rfl; have hcz16_5 : w13.cell? ⟨gb502, 5, none⟩ = some (.slice A1_5 l1_5.length c1_5) := (QG BK502.out 5).trans rfl; have hcz16_6 : w13.cell? ⟨gb502, 6, none⟩ = some (.int .i64 a1_6) := (QG BK502.out 6).trans rfl; have hcz16_7 : w13.cell? ⟨gb502, 7, none⟩ = some (.int .i64 a1_7) := (QG BK502.out 7).trans rfl; have hfz16_0 := QH BK502.out 0; have hfz16_1 := QH BK502.out 1; have hfz16_2 := QH BK502.out 2; have hfz16_3 := QH BK502.out 3; have hfz16_4 := QH BK502.out 4; have hfz16_5 := QH BK502.out 5; have hfz16_6 := QH BK502.out 6; have hfz16_7 := QH BK502.out 7) | (go_at_call 130; (with_reducible refine (impl_EqualInts.calls k _ _ l0_4 _ _ l1_4 _ _ ?side1 ?side2 ?side3 ?side4 A9.out).mono ?_); (case side1 => repeat (first | exact (Kd.C_below HR0_4.out HB.out) | (with_reducible refine Kd.C_alloc ?_ _) | (with_reducible refine Kd.C_drewN ?_ _) | (with_reducible refine Kd.C_drew ?_))); (case side2 => exact HC0_4.out); (case side3 => repeat (first | exact (Kd.C_below HR1_4.out HB.out) | (with_reducible refine Kd.C_alloc ?_ _) | (with_reducible refine Kd.C_drewN ?_ _) | (with_reducible refine Kd.C_drew ?_))); (case side4 => exact HC1_4.out); rintro e w' ⟨rfl, ⟨nd, rfl⟩⟩) | (go_at_call 130; (with_reducible refine (impl_EqualInts.calls k _ _ l0_5 _ _ l1_5 t504 _ ?side1 ?side2 ?side3 ?side4 A11.out).mono ?_); (case side1 => repeat (first | exact (Kd.C_below HR0_5.out (by repeat (first | (with_reducible first | exact HB.out | apply QK | apply QF | apply QJ | refine QI ?_ GE501.out | refine QI ?_ GE502.out) | exact HB.out))) | (with_reducible refine Kd.C_alloc ?_ _) | (with_reducible refine Kd.C_drewN ?_ _) | (with_reducible refine Kd.C_drew ?_))); (case side2 => exact HC0_5.out); (case side3 => repeat (first | exact (Kd.C_below HR1_5.out (by repeat (first | (with_reducible first | exact HB.out | apply QK | apply QF | apply QJ | refine QI ?_ GE501.out | refine QI ?_ GE502.out) | exact HB.out))) | (with_reducible refine Kd.C_alloc ?_ _) | (with_reducible refine Kd.C_drewN ?_ _) | (with_reducible refine Kd.C_drew ?_))); (case side4 => exact HC1_5.out); rintro e w' ⟨rfl, ⟨nd, rfl⟩⟩))
    go_ret
    exact ⟨by first | rfl | (simp [errW_none, errW_some] <;> rfl) | (simp [*, errW_none, errW_some] <;> rfl), by repeat (first | (with_reducible first | exact HB.out | apply QK | apply QF | apply QJ | refine QI ?_ GE501.out | refine QI ?_ GE502.out) | exact HB.out)⟩

/-! ### impl_DoesSkip: function 71 -/
def impl_DoesSkip.f (k : Nat) (a0_0 : Int) (a0_1 : Int) (a0_2 : Bool) (a0_3 : Bool) (l0_4 : List Int) (l0_5 : List Int) (a0_6 : Int) (a0_7 : Int) (a1 : Int) : Option (Bool) := (impl_IsRules.f k a0_0 a0_1 a0_2 a0_3 l0_4 l0_5 a0_6 a0_7).bind fun t506 => (if t506 = true then ((impl_Matches.f k l0_5 a1).bind fun t507 => (some t507)) else (some false))
theorem impl_DoesSkip.mono : ∀ a0 a1 a2 a3 a4 a5 a6 a7 a8 k, LeO (impl_DoesSkip.f k a0 a1 a2 a3 a4 a5 a6 a7 a8) (impl_DoesSkip.f (k + 1) a0 a1 a2 a3 a4 a5 a6 a7 a8) := by
  intro a0 a1 a2 a3 a4 a5 a6 a7 a8 k
  unfold impl_DoesSkip.f
  repeat' first
      | (with_reducible exact impl_IsRules.mono _ _ _ _ _ _ _ _ _)
      | (with_reducible exact impl_Matches.mono _ _ _)
      | (with_reducible exact LeO.refl _)
      | (with_reducible exact LeO.none _)
      | (with_reducible refine LeO.ite ?_ ?_)
      | (with_reducible refine LeO.bind ?_ (fun _ => ?_))
      | exact impl_IsRules.mono _ _ _ _ _ _ _ _ _
      | exact impl_Matches.mono _ _ _
      | exact LeO.none _
      | refine LeO.ite ?_ ?_
      | refine LeO.bind ?_ (fun _ => ?_)
set_option maxHeartbeats 8000000 in
set_option maxRecDepth 100000 in
theorem impl_DoesSkip.calls (k : Nat) (a0_0 : Int) (a0_1 : Int) (a0_2 : Bool) (a0_3 : Bool) (A0_4 : Option Addr) (c0_4 : Nat) (l0_4 : List Int) (A0_5 : Option Addr) (c0_5 : Nat) (l0_5 : List Int) (a0_6 : Int) (a0_7 : Int) (a1 : Int) (r : Bool) (w : World) (hr0_4 : Kd.C (Kd.int .i64) w A0_4 l0_4.length l0_4) (hc0_4 : l0_4.length ≤ c0_4) (hr0_5 : Kd.C (Kd.int .i64) w A0_5 l0_5.length l0_5) (hc0_5 : l0_5.length ≤ c0_5) (h : impl_DoesSkip.f k a0_0 a0_1 a0_2 a0_3 l0_4 l0_5 a0_6 a0_7 a1 = some r) :
    Calls Try.prog 71 #[.agg #[.int .i64 a0_0, .int .i64 a0_1, .bool a0_2, .bool a0_3, .slice A0_4 l0_4.length c0_4, .slice A0_5 l0_5.length c0_5, .int .i64 a0_6, .int .i64 a0_7], .int .i64 a1] w fun e w' => e = .returned (.bool r) ∧ Below w.heap.size w w' := by
  have hu74 := Try.underlying74
  have HR0_4 := QV hr0_4
  have HC0_4 := QV hc0_4
  clear hr0_4 hc0_4
  have HR0_5 := QV hr0_5
  have HC0_5 := QV hc0_5
  clear hr0_5 hc0_5
  have HB := QV (Below.refl w.heap.size w)
  have H : ((impl_IsRules.f k a0_0 a0_1 a0_2 a0_3 l0_4 l0_5 a0_6 a0_7).bind fun t506 => (if t506 = true then ((impl_Matches.f k l0_5 a1).bind fun t507 => (some t507)) else (some false))) = some r := h
  clear h
  replace H := Option.bind_eq_some_iff.mp H
  obtain ⟨t506, A30, H⟩ := H
  have A3 := QV A30
  clear A30
  by_cases c4 : t506 = true
  · subst c4
    rw [if_pos rfl] at H
    replace H := Option.bind_eq_some_iff.mp H
    obtain ⟨t507, A50, H⟩ := H
    have A5 := QV A50
    clear A50
    obtain rfl := Option.some.inj H
    go_enter Try.func71, Try.ntmps71
    go_wp2_with (first | ((with_reducible refine gate_dst (N := 2) rfl ?_); refine box_event ?hg (N := 2) ?hd (cs := #[.int .i64 a0_0, .int .i64 a0_1, .bool a0_2, .bool a0_3, .slice A0_4 l0_4.length c0_4, .slice A0_5 l0_5.length c0_5, .int .i64 a0_6, .int .i64 a0_7]) (t := 74) ?hr ?_; (case hd => rfl); (case hg => rfl); (case hr => first | (go_simp; done) | (go_simp; rfl)); intro gb505 hg w6 hbox hb; have n0_ := QV (below_step (by repeat (first | (with_reducible first | exact HB.out | apply QK | apply QF | apply QJ) | exact HB.out)) hb); have n1_ := QV (hbox); have n2_ := QV ((by rw [hg]; exact (QO (by repeat (first | (with_reducible first | exact HB.out | apply QK | apply QF | apply QJ) | exact HB.out))) : w.heap.size ≤ gb505)); have n3_ := QV ((by rw [hg]; exact (QO (by repeat (first | (with_reducible first | exact HB.out | apply QK | apply QF | apply QJ) | exact HB.out))) : w.heap.size ≤ gb505)); clear HB; have HB := n0_; have BK505 := n1_; have GW505 := n2_; have GE505 := n3_; clear n0_ n1_ n2_ n3_; clear hb hbox hg; have hcz7_0 : w6.cell? ⟨gb505, 0, none⟩ = some (.int .i64 a0_0) := (QG BK505.out 0).trans rfl; have hcz7_1 : w6.cell? ⟨gb505, 1, none⟩ = some (.int .i64 a0_1) := (QG BK505.out 1).trans rfl; have hcz7_2 : w6.cell? ⟨gb505, 2, none⟩ = some (.bool a0_2) := (QG BK505.out 2).trans rfl; have hcz7_3 : w6.cell? ⟨gb505, 3, none⟩ = some (.bool a0_3) := (QG BK505.out 3).trans rfl; have hcz7_4 : w6.cell? ⟨gb505, 4, none⟩ = some (.slice A0_4 l0_4.length c0_4) := (QG BK505.out 4).trans rfl; have hcz7_5 : w6.cell? ⟨gb505, 5, none⟩ = some (.slice A0_5 l0_5.length c0_5) := (QG BK505.out 5).trans rfl; have hcz7_6 : w6.cell? ⟨gb505, 6, none⟩ = some (.int .i64 a0_6) := (QG BK505.out 6).trans rfl; have hcz7_7 : w6.cell? ⟨gb505, 7, none⟩ = some (.int .i64 a0_7) := (QG BK505.out 7).trans rfl; have hfz7_0 := QH BK505.out 0; have hfz7_1 := QH BK505.out 1; have hfz7_2 := QH BK505.out 2; have hfz7_3 := QH BK505.out 3; have hfz7_4 := QH BK505.out 4; have hfz7_5 := QH BK505.out 5; have hfz7_6 := QH BK505.out 6; have hfz7_7 := QH BK505.out 7) | ((with_reducible refine gate_callee (f := 64) rfl ?_); refine goesL_ (some 6) rfl rfl Try.func64 (by kernel_rfl) rfl #[.agg #[.int .i64 a0_0, .int .i64 a0_1, .bool a0_2, .bool a0_3, .slice A0_4 l0_4.length c0_4, .slice A0_5 l0_5.length c0_5, .int .i64 a0_6, .int .i64 a0_7]] rfl (by (try simp only [List.map_toArray, List.map_cons, List.map_nil]); first | done | rfl | (simp only [List.length_drop, List.length_take]; rfl)) ?_; (with_reducible refine (impl_IsRules.calls k a0_0 a0_1 a0_2 a0_3 _ _ l0_4 _ _ l0_5 a0_6 a0_7 true _ ?side1 ?side2 ?side3 ?side4 A3.out).mono ?_); (case side1 => repeat (first | exact (Kd.C_below HR0_4.out HB.out) | (with_reducible refine Kd.C_alloc ?_ _) | (with_reducible refine Kd.C_drewN ?_ _) | (with_reducible refine Kd.C_drew ?_))); (case side2 => exact HC0_4.out); (case side3 => repeat (first | exact (Kd.C_below HR0_5.out HB.out) | (with_reducible refine Kd.C_alloc ?_ _) | (with_reducible refine Kd.C_drewN ?_ _) | (with_reducible refine Kd.C_drew ?_))); (case side4 => exact HC0_5.out); rintro e w8 ⟨rfl, hb⟩; refine ⟨_, rfl, ?_⟩; have n0_ := QV (QS (g := gb505) (o := _) (by (with_reducible repeat (first | refine QC ?_ _ | refine QE ?_ | refine QD ?_ _)); exact BK505.out) hb); have n1_ := QV (below_step (by repeat (first | (with_reducible first | exact HB.out | apply QK | apply QF | apply QJ | refine QI ?_ GE505.out) | exact HB.out)) hb); clear BK505; clear HB; have BK505 := n0_; have HB := n1_; clear n0_ n1_; (try clear hb); (try clear hb2); (try clear hk); (try clear hi); have hcz9_0 : w8.cell? ⟨gb505, 0, none⟩ = some (.int .i64 a0_0) := (QG BK505.out 0).trans rfl; have hcz9_1 : w8.cell? ⟨gb505, 1, none⟩ = some (.int .i64 a0_1) := (QG BK505.out 1).trans rfl; have hcz9_2 : w8.cell? ⟨gb505, 2, none⟩ = some (.bool a0_2) := (QG BK505.out 2).trans rfl; have hcz9_3 : w8.cell? ⟨gb505, 3, none⟩ = some (.bool a0_3) := (QG BK505.out 3).trans rfl; have hcz9_4 : w8.cell? ⟨gb505, 4, none⟩ = some (.slice A0_4 l0_4.length c0_4) := (QG BK505.out 4).trans rfl; have hcz9_5 : w8.cell? ⟨gb505, 5, none⟩ = some (.slice A0_5 l0_5.length c0_5) := (QG BK505.out 5).trans rfl; have hcz9_6 : w8.cell? ⟨gb505, 6, none⟩ = some (.int .i64 a0_6) := (QG BK505.out 6).trans rfl; have hcz9_7 : w8.cell? ⟨gb505, 7, none⟩ = some (.int .i64 a0_7) := (QG BK505.out 7).trans rfl; have hfz9_0 := QH BK505.out 0; have hfz9_1 := QH BK505.out 1; have hfz9_2 := QH BK505.out 2; have hfz9_3 := QH BK505.out 3; have hfz9_4 := QH BK505.out 4; have hfz9_5 := QH BK505.out 5; have hfz9_6 := QH BK505.out 6; have hfz9_7 := QH BK505.out 7) | (go_at_call 65; (with_reducible refine (impl_Matches.calls k _ _ l0_5 a1 t507 _ ?side1 ?side2 A5.out).mono ?_); (case side1 => repeat (first | exact (Kd.C_below HR0_5.out HB.out) | (with_reducible refine Kd.C_alloc ?_ _) | (with_reducible refine Kd.C_drewN ?_ _) | (with_reducible refine Kd.C_drew ?_))); (case side2 => exact HC0_5.out); rintro e w10 ⟨rfl, hb⟩; have n0_ := QV (QS (g := gb505) (o := _) (by (with_reducible repeat (first | refine QC ?_ _ | refine QE ?_ | refine QD ?_ _)); exact BK505.out) hb); have n1_ := QV (below_step (by repeat (first | (with_reducible first | exact HB.out | apply QK | apply QF | apply QJ | refine QI ?_ GE505.out) | exact HB.out)) hb); clear BK505; clear HB; have BK505 := n0_; have HB := n1_; clear n0_ n1_; (try clear hb); (try clear hb2); (try clear hk); (try clear hi)))
    go_ret
    exact ⟨by first | rfl | (simp [errW_none, errW_some] <;> rfl) | (simp [*, errW_none, errW_some] <;> rfl), by repeat (first | (with_reducible first | exact HB.out | apply QK | apply QF | apply QJ | refine QI ?_ GE505.out) | exact HB.out)⟩
  · replace c4 := Bool.eq_false_iff.mpr c4
    subst c4
    rw [if_neg (show ¬ (false = true) by decide)] at H
    obtain rfl := Option.some.inj H
    go_enter Try.func71, Try.ntmps71
    go_wp2_with (first | ((with_reducible refine gate_dst (N := 2) rfl ?_); refine box_event ?hg (N := 2) ?hd (cs := #[.int .i64 a0_0, .int .i64 a0_1, .bool a0_2, .bool a0_3, .slice A0_4 l0_4.length c0_4, .slice A0_5 l0_5.length c0_5, .int .i64 a0_6, .int .i64 a0_7]) (t := 74) ?hr ?_; (case hd => rfl); (case hg => rfl); (case hr => first | (go_simp; done) | (go_simp; rfl)); intro gb505 hg w11 hbox hb; have n0_ := QV (below_step (by repeat (first | (with_reducible first | exact HB.out | apply QK | apply QF | apply QJ) | exact HB.out)) hb); have n1_ := QV (hbox); have n2_ := QV ((by rw [hg]; exact (QO (by repeat (first | (with_reducible first | exact HB.out | apply QK | apply QF | apply QJ) | exact HB.out))) : w.heap.size ≤ gb505)); have n3_ := QV ((by rw [hg]; exact (QO (by repeat (first | (with_reducible first | exact HB.out | apply QK | apply QF | apply QJ) | exact HB.out))) : w.heap.size ≤ gb505)); clear HB; have HB := n0_; have BK505 := n1_; have GW505 := n2_; have GE505 := n3_; clear n0_ n1_ n2_ n3_; clear hb hbox hg; have hcz12_0 : w11.cell? ⟨gb505, 0, none⟩ = some (.int .i64 a0_0) := (QG BK505.out 0).trans rfl; have hcz12_1 : w11.cell? ⟨gb505, 1, none⟩ = some (.int .i64 a0_1) := (QG BK505.out 1).trans rfl; have hcz12_2 : w11.cell? ⟨gb505, 2, none⟩ = some (.bool a0_2) := (QG BK505.out 2).trans rfl; have hcz12_3 : w11.cell? ⟨gb505, 3, none⟩ = some (.bool a0_3) := (QG BK505.out 3).trans rfl; have hcz12_4 : w11.cell? ⟨gb505, 4, none⟩ = some (.slice A0_4 l0_4.length c0_4) := (QG BK505.out 4).trans rfl; have hcz12_5 : w11.cell? ⟨gb505, 5, none⟩ = some (.slice A0_5 l0_5.length c0_5) := (QG BK505.out 5).trans rfl; have hcz12_6 : w11.cell? ⟨gb505, 6, none⟩ = some (.int .i64 a0_6) := (QG BK505.out 6).trans rfl; have hcz12_7 : w11.cell? ⟨gb505, 7, none⟩ = some (.int .i64 a0_7) := (QG BK505.out 7).trans rfl; have hfz12_0 := QH BK505.out 0; have hfz12_1 := QH BK505.out 1; have hfz12_2 := QH BK505.out 2; have hfz12_3 := QH BK505.out 3; have hfz12_4 := QH BK505.out 4; have hfz12_5 := QH BK505.out 5; have hfz12_6 := QH BK505.out 6; have hfz12_7 := QH BK505.out 7) | ((with_reducible refine gate_callee (f := 64) rfl ?_); refine goesL_ (some 6) rfl rfl Try.func64 (by kernel_rfl) rfl #[.agg #[.int .i64 a0_0, .int .i64 a0_1, .bool a0_2, .bool a0_3, .slice A0_4 l0_4.length c0_4, .slice A0_5 l0_5.length c0_5, .int .i64 a0_6, .int .i64 a0_7]] rfl (by (try simp only [List.map_toArray, List.map_cons, List.map_nil]); first | done | rfl | (simp only [List.length_drop, List.length_take]; rfl)) ?_; (with_reducible refine (impl_IsRules.calls k a0_0 a0_1 a0_2 a0_3 _ _ l0_4 _ _ l0_5 a0_6 a0_7 false _ ?side1 ?side2 ?side3 ?side4 A3.out).mono ?_); (case side1 => repeat (first | exact (Kd.C_below HR0_4.out HB.out) | (with_reducible refine Kd.C_alloc ?_ _) | (with_reducible refine Kd.C_drewN ?_ _) | (with_reducible refine Kd.C_drew ?_))); (case side2 => exact HC0_4.out); (case side3 => repeat (first | exact (Kd.C_below HR0_5.out HB.out) | (with_reducible refine Kd.C_alloc ?_ _) | (with_reducible refine Kd.C_drewN ?_ _) | (with_reducible refine Kd.C_drew ?_))); (case side4 => exact HC0_5.out); rintro e w13 ⟨rfl, hb⟩; refine ⟨_, rfl, ?_⟩; have n0_ := QV (QS (g := gb505) (o := _) (by (with_reducible repeat (first | refine QC ?_ _ | refine QE ?_ | refine QD ?_ _)); exact BK505.out) hb); have n1_ := QV (below_step (by repeat (first | (with_reducible first | exact HB.out | apply QK | apply QF | apply QJ | refine QI ?_ GE505.out) | exact HB.out)) hb); clear BK505; clear HB; have BK505 := n0_; have HB := n1_; clear n0_ n1_; (try clear hb); (try clear hb2); (try clear hk); (try clear hi)))
    go_ret
    exact ⟨by first | rfl | (simp [errW_none, errW_some] <;> rfl) | (simp [*, errW_none, errW_some] <;> rfl), by repeat (first | (with_reducible first | exact HB.out | apply QK | apply QF | apply QJ | refine QI ?_ GE505.out) | exact HB.out)⟩

end Go.Proofs.Ytdakhelapeojgaa.QFnRules
