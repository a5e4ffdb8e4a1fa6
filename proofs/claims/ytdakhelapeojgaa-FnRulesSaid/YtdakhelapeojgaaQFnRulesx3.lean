/- What a call of each Go function that FnRules reaches comes to, as a Lean function: texts of the kit's print, turned by wip/remake.py. No condition beyond what each names. -/
import Derived.Test.YtdakhelapeojgaaQFnRulesx2
namespace Go.Proofs.Ytdakhelapeojgaa.QFnRules
open Go.RowKit Go.Proofs.YtdakhelapeojgaaW.PrintWords Go.Proofs.YtdakhelapeojgaaW.PrintLast Go.Proofs.YtdakhelapeojgaaW.PrintMore
open Go.Proofs.YtdakhelapeojgaaW.PrintWords renaming pw_below_drewN → QB, below_drew1 → QC, cell_far → QD, below_alloc → QE, blk_drewN → QG, blk_alloc → QH, blk_cell → QK, blk_drew → QL, gate_callee → QM, blk_frozen → QO, below_set → QP
open Go.Proofs.YtdakhelapeojgaaW.PrintLast renaming i64_w → QF, i32_w → QI, any_of → QJ, pure_ → QN
open List renaming setIfInBounds_toArray → QR, set_cons_zero → QS, set_cons_succ → QT
open Go.Proofs.YtdakhelapeojgaaW.PrintWords.Aside0 renaming mk → QU
open Option renaming bind_eq_some_iff → QV
open Bool renaming true → Y1, false → Y0
attribute [local go_sem] max2_int min2_int max_two min_two max_three min_three max_four min_four   -- for this text's walks alone
set_option linter.unusedVariables false
set_option linter.unusedSimpArgs false

/-! ### spec_DrawFitsOn: function 62 -/
def spec_DrawFitsOn.f (k : Nat) (l0 : List Int) : Option (Int × Int × Bool × Bool × List Int × List Int × Int × Int × Int × Int) := (spec_l1New.f k l0).bind fun bt297 => ((spec_l22Any.f k bt297.1 bt297.2.1 bt297.2.2).bind fun bt301 => ((spec_l4Card.f bt297.1 bt301.2.2.2.2.2.2.2.2.1 bt301.2.2.2.2.2.2.2.2.2).bind fun bt316 => ((spec_l4Card.f bt297.1 bt316.2.1 bt316.2.2).bind fun bt319 => (some (bt301.1, bt301.2.1, bt301.2.2.1, bt301.2.2.2.1, bt301.2.2.2.2.1, bt301.2.2.2.2.2.1, bt301.2.2.2.2.2.2.1, bt301.2.2.2.2.2.2.2.1, bt316.1, bt319.1)))))
theorem spec_DrawFitsOn.mono : ∀ a0 k, LeO (spec_DrawFitsOn.f k a0) (spec_DrawFitsOn.f (k + 1) a0) := by
  intro a0 k
  unfold spec_DrawFitsOn.f
  repeat' first
      | (with_reducible exact spec_l1New.mono _ _)
      | (with_reducible exact spec_l22Any.mono _ _ _ _)
      | (with_reducible exact LeO.refl _)
      | (with_reducible exact LeO.none _)
      | (with_reducible refine LeO.ite ?_ ?_)
      | (with_reducible refine LeO.bind ?_ (fun _ => ?_))
      | exact spec_l1New.mono _ _
      | exact spec_l22Any.mono _ _ _ _
      | exact LeO.none _
      | refine LeO.ite ?_ ?_
      | refine LeO.bind ?_ (fun _ => ?_)
set_option maxHeartbeats 8000000 in
set_option maxRecDepth 100000 in
theorem spec_DrawFitsOn.calls (k : Nat) (A0 : Option Addr) (c0 : Nat) (l0 : List Int) (r1 : Int) (r2 : Int) (r3 : Bool) (r4 : Bool) (r5 : List Int) (r6 : List Int) (r7 : Int) (r8 : Int) (r9 : Int) (r10 : Int) (w : World) (hr0 : Kd.C (Kd.int .u8) w A0 l0.length l0) (hc0 : l0.length ≤ c0) (h : spec_DrawFitsOn.f k l0 = some (r1, r2, r3, r4, r5, r6, r7, r8, r9, r10)) :
    Calls Try.prog 62 #[.slice A0 l0.length c0] w fun e w' => ∃ v4_ v5_ : Value, e = .returned (.tuple #[.agg #[.int .i64 r1, .int .i64 r2, .bool r3, .bool r4, v4_, v5_, .int .i64 r7, .int .i64 r8], .int .i64 r9, .int .i64 r10]) ∧ Kd.Q (Kd.int .i64) 3 w' w.heap.size (fun k_ => some k_ ≠ (v5_ : Value).ownBlock) v4_ r5 ∧ Kd.R (Kd.int .i64) 3 w' w.heap.size (fun k_ => some k_ ≠ (v4_ : Value).ownBlock) v5_ r6 ∧ Below w.heap.size w w' := by
  have hu74 := Try.underlying74
  have HR0 := QU hr0
  have HC0 := QU hc0
  clear hr0 hc0
  have HB := QU (Below.refl w.heap.size w)
  have H : ((spec_l1New.f k l0).bind fun bt297 => ((spec_l22Any.f k bt297.1 bt297.2.1 bt297.2.2).bind fun bt301 => ((spec_l4Card.f bt297.1 bt301.2.2.2.2.2.2.2.2.1 bt301.2.2.2.2.2.2.2.2.2).bind fun bt316 => ((spec_l4Card.f bt297.1 bt316.2.1 bt316.2.2).bind fun bt319 => (some (bt301.1, bt301.2.1, bt301.2.2.1, bt301.2.2.2.1, bt301.2.2.2.2.1, bt301.2.2.2.2.2.1, bt301.2.2.2.2.2.2.1, bt301.2.2.2.2.2.2.2.1, bt316.1, bt319.1)))))) = some (r1, r2, r3, r4, r5, r6, r7, r8, r9, r10) := h
  clear h
  replace H := QV.mp H
  obtain ⟨⟨t297, t298, t299⟩, A20, H⟩ := H
  replace H : ((spec_l22Any.f k t297 t298 t299).bind fun bt301 => ((spec_l4Card.f t297 bt301.2.2.2.2.2.2.2.2.1 bt301.2.2.2.2.2.2.2.2.2).bind fun bt316 => ((spec_l4Card.f t297 bt316.2.1 bt316.2.2).bind fun bt319 => (some (bt301.1, bt301.2.1, bt301.2.2.1, bt301.2.2.2.1, bt301.2.2.2.2.1, bt301.2.2.2.2.2.1, bt301.2.2.2.2.2.2.1, bt301.2.2.2.2.2.2.2.1, bt316.1, bt319.1))))) = some (r1, r2, r3, r4, r5, r6, r7, r8, r9, r10) := H
  have A2 := QU A20
  clear A20
  replace H := QV.mp H
  obtain ⟨⟨t301, t302, t303, t304, t305, t308, t311, t312, t313, t314⟩, A30, H⟩ := H
  replace H : ((spec_l4Card.f t297 t313 t314).bind fun bt316 => ((spec_l4Card.f t297 bt316.2.1 bt316.2.2).bind fun bt319 => (some (t301, t302, t303, t304, t305, t308, t311, t312, bt316.1, bt319.1)))) = some (r1, r2, r3, r4, r5, r6, r7, r8, r9, r10) := H
  have A3 := QU A30
  clear A30
  replace H := QV.mp H
  obtain ⟨⟨t316, t317, t318⟩, A40, H⟩ := H
  replace H : ((spec_l4Card.f t297 t317 t318).bind fun bt319 => (some (t301, t302, t303, t304, t305, t308, t311, t312, t316, bt319.1))) = some (r1, r2, r3, r4, r5, r6, r7, r8, r9, r10) := H
  have A4 := QU A40
  clear A40
  replace H := QV.mp H
  obtain ⟨⟨t319, t320, t321⟩, A50, H⟩ := H
  replace H : (some (t301, t302, t303, t304, t305, t308, t311, t312, t316, t319)) = some (r1, r2, r3, r4, r5, r6, r7, r8, r9, r10) := H
  have A5 := QU A50
  clear A50
  simp only [Option.some.injEq, Prod.mk.injEq] at H
  obtain ⟨rfl, rfl, rfl, rfl, rfl, rfl, rfl, rfl, rfl, rfl⟩ := H
  go_enter Try.func62, Try.ntmps62
  try go_wp2_with (first | ((with_reducible refine gate_dst (N := 2) rfl ?_); refine box_event ?hg (N := 2) ?hd (cs := #[.int .i64 0, .int .i64 0, .bool false, .bool false, .slice none 0 0, .slice none 0 0, .int .i64 0, .int .i64 0]) (t := 74) ?hr ?_; (case hd => rfl); (case hg => rfl); (case hr => first | (go_simp; done) | (go_simp; rfl)); intro gb296 hg w6 hbox hb; have n0_ := QU (below_step (by repeat (first | (with_reducible first | exact HB.out | apply QE | apply QB | apply QC) | exact HB.out)) hb); have n1_ := QU (hbox); have n2_ := QU ((by rw [hg]; exact (below_size (by repeat (first | (with_reducible first | exact HB.out | apply QE | apply QB | apply QC) | exact HB.out))) : w.heap.size ≤ gb296)); have n3_ := QU ((by rw [hg]; exact (below_size (by repeat (first | (with_reducible first | exact HB.out | apply QE | apply QB | apply QC) | exact HB.out))) : w.heap.size ≤ gb296)); clear HB; have HB := n0_; have BK296 := n1_; have GW296 := n2_; have GE296 := n3_; clear n0_ n1_ n2_ n3_; clear hb hbox hg) | ((with_reducible refine QM (f := 122) rfl ?_); refine goesL_ (some 9) rfl rfl Try.func122 (by kernel_rfl) rfl #[.slice A0 l0.length c0] rfl (by (try simp only [List.map_toArray, List.map_cons, List.map_nil]); first | done | rfl | (simp only [List.length_drop, List.length_take]; rfl)) ?_; (with_reducible refine (spec_l1New.calls k _ _ l0 t297 t298 t299 w _ ?side1 ?side2 ?side3 A2.out).mono ?_); (case side1 => repeat (first | (with_reducible first | exact HB.out | apply QE | apply QB | apply QC | refine QP ?_ GE296.out) | exact HB.out)); (case side2 => exact HR0.out); (case side3 => exact HC0.out); rintro e w7 ⟨g300, rfl, hi, hb, hb2⟩; refine ⟨_, rfl, ?_⟩; have n0_ := QU (blk_below (g := gb296) (o := .cells #[.int .i64 0, .int .i64 0, .bool false, .bool false, .slice none 0 0, .slice none 0 0, .int .i64 0, .int .i64 0] 74 (0, 0)) (by (with_reducible repeat (first | refine QG ?_ _ | refine QL ?_ | refine QH ?_ _)); exact BK296.out) hb2); have n1_ := QU (hb); have n2_ := QU (hi); have n3_ := QU (IsS123.ne_blk hi (blk_below (g := gb296) (o := .cells #[.int .i64 0, .int .i64 0, .bool false, .bool false, .slice none 0 0, .slice none 0 0, .int .i64 0, .int .i64 0] 74 (0, 0)) (by (with_reducible repeat (first | refine QG ?_ _ | refine QL ?_ | refine QH ?_ _)); exact BK296.out) hb2) (by decide)); have n4_ := QU (Ne.symm (IsS123.ne_blk hi (blk_below (g := gb296) (o := .cells #[.int .i64 0, .int .i64 0, .bool false, .bool false, .slice none 0 0, .slice none 0 0, .int .i64 0, .int .i64 0] 74 (0, 0)) (by (with_reducible repeat (first | refine QG ?_ _ | refine QL ?_ | refine QH ?_ _)); exact BK296.out) hb2) (by decide))); clear BK296; clear HB; have BK296 := n0_; have HB := n1_; have HI300 := n2_; have NB300_296 := n3_; have NB296_300 := n4_; clear n0_ n1_ n2_ n3_ n4_; (try clear hb); (try clear hb2); (try clear hk); (try clear hi)) | ((with_reducible refine QM (f := 123) rfl ?_); refine goesL_ (some 11) rfl rfl Try.func123 (by kernel_rfl) rfl #[.pointer (some ⟨g300, 0, none⟩)] rfl (by (try simp only [List.map_toArray, List.map_cons, List.map_nil]); first | done | rfl | (simp only [List.length_drop, List.length_take]; rfl)) ?_; (with_reducible refine (spec_l22Any.calls k g300 t297 t298 t299 t301 t302 t303 t304 t305 t308 t311 t312 t313 t314 w _ ?side1 ?side2 A3.out).mono ?_); (case side1 => repeat (first | (with_reducible first | exact HI300.out | apply IsS123.alloc | apply IsS123.drewN | apply IsS123.drew | apply IsS123.set_1 | apply IsS123.set_2 | refine IsS123.far ?_ NB300_296.out _) | exact HI300.out)); (case side2 => repeat (first | (with_reducible first | exact HB.out | apply QE | apply QB | apply QC | refine QP ?_ (IsS123.ge HI300.out) | refine QP ?_ GE296.out) | exact HB.out)); rintro e w8 ⟨v306, v309, rfl, ho0, ho1, hi, hb, hk⟩; refine ⟨_, rfl, ?_⟩; have n0_ := QU (KeepBut.blk hk (g' := gb296) (o := .cells #[.int .i64 0, .int .i64 0, .bool false, .bool false, .slice none 0 0, .slice none 0 0, .int .i64 0, .int .i64 0] 74 (0, 0)) (by (with_reducible repeat (first | refine QG ?_ _ | refine QL ?_ | refine QH ?_ _)); exact BK296.out) NB296_300.out (by simp)); have n1_ := QU (Kd.Q_lower ho0 (below_size (by repeat (first | (with_reducible first | exact HB.out | apply QE | apply QB | apply QC | refine QP ?_ (IsS123.ge HI300.out) | refine QP ?_ GE296.out) | exact HB.out)))); have n2_ := QU (Kd.R_lower ho1 (below_size (by repeat (first | (with_reducible first | exact HB.out | apply QE | apply QB | apply QC | refine QP ?_ (IsS123.ge HI300.out) | refine QP ?_ GE296.out) | exact HB.out)))); have n3_ := QU (hb); have n4_ := QU (hi); clear BK296; clear HB; clear HI300; have BK296 := n0_; have HO307 := n1_; have HO310 := n2_; have HB := n3_; have HI300 := n4_; clear n0_ n1_ n2_ n3_ n4_; (try clear hb); (try clear hb2); (try clear hk); (try clear hi); (try clear ho0); (try clear ho1)) | ((with_reducible refine gate_dst (N := 6) rfl ?_); refine box_event ?hg (N := 6) ?hd (cs := #[.int .i64 0, .int .i64 0, .bool false, .bool false, .slice none 0 0, .slice none 0 0, .int .i64 0, .int .i64 0]) (t := 74) ?hr ?_; (case hd => rfl); (case hg => rfl); (case hr => first | (go_simp; done) | (go_simp; rfl)); intro gb315 hg w9 hbox hb; have n0_ := QU (Kd.Q_below (by (with_reducible repeat (first | apply Kd.Q_alloc | apply Kd.Q_drewN | apply Kd.Q_drew)); exact HO307.out) hb); have n1_ := QU (Kd.R_below (by (with_reducible repeat (first | apply Kd.R_alloc | apply Kd.R_drewN | apply Kd.R_drew)); exact HO310.out) hb); have n2_ := QU (blk_below (g := gb296) (o := .cells #[.int .i64 0, .int .i64 0, .bool false, .bool false, .slice none 0 0, .slice none 0 0, .int .i64 0, .int .i64 0] 74 (0, 0)) (by (with_reducible repeat (first | refine QG ?_ _ | refine QL ?_ | refine QH ?_ _)); exact BK296.out) hb); have n3_ := QU (IsS123.below (by repeat (first | (with_reducible first | exact HI300.out | apply IsS123.alloc | apply IsS123.drewN | apply IsS123.drew | apply IsS123.set_1 | apply IsS123.set_2 | refine IsS123.far ?_ NB300_296.out _) | exact HI300.out)) hb); have n4_ := QU (below_step (by repeat (first | (with_reducible first | exact HB.out | apply QE | apply QB | apply QC | refine QP ?_ (IsS123.ge HI300.out) | refine QP ?_ GE296.out) | exact HB.out)) hb); have n5_ := QU (hbox); have n6_ := QU ((by rw [hg]; exact (below_size (by repeat (first | (with_reducible first | exact HB.out | apply QE | apply QB | apply QC | refine QP ?_ (IsS123.ge HI300.out) | refine QP ?_ GE296.out) | exact HB.out))) : w.heap.size ≤ gb315)); have n7_ := QU ((by rw [hg]; exact (below_size (by repeat (first | (with_reducible first | exact HB.out | apply QE | apply QB | apply QC | refine QP ?_ (IsS123.ge HI300.out) | refine QP ?_ GE296.out) | exact HB.out))) : w.heap.size ≤ gb315)); have n8_ := QU ((by rw [hg]; exact Nat.ne_of_lt (blk_lt (g := gb296) (o := .cells #[.int .i64 0, .int .i64 0, .bool false, .bool false, .slice none 0 0, .slice none 0 0, .int .i64 0, .int .i64 0] 74 (0, 0)) (by (with_reducible repeat (first | refine QG ?_ _ | refine QL ?_ | refine QH ?_ _)); exact BK296.out)) : gb296 ≠ gb315)); have n9_ := QU ((by rw [hg]; exact Nat.ne_of_gt (blk_lt (g := gb296) (o := .cells #[.int .i64 0, .int .i64 0, .bool false, .bool false, .slice none 0 0, .slice none 0 0, .int .i64 0, .int .i64 0] 74 (0, 0)) (by (with_reducible repeat (first | refine QG ?_ _ | refine QL ?_ | refine QH ?_ _)); exact BK296.out)) : gb315 ≠ gb296)); have n10_ := QU ((by rw [hg]; exact Nat.ne_of_lt (IsS123.lt (show IsS123 w _ g300 t297 t313 t314 from by repeat (first | (with_reducible first | exact HI300.out | apply IsS123.alloc | apply IsS123.drewN | apply IsS123.drew | apply IsS123.set_1 | apply IsS123.set_2 | refine IsS123.far ?_ NB300_296.out _) | exact HI300.out))) : g300 ≠ gb315)); have n11_ := QU ((by rw [hg]; exact Nat.ne_of_gt (IsS123.lt (show IsS123 w _ g300 t297 t313 t314 from by repeat (first | (with_reducible first | exact HI300.out | apply IsS123.alloc | apply IsS123.drewN | apply IsS123.drew | apply IsS123.set_1 | apply IsS123.set_2 | refine IsS123.far ?_ NB300_296.out _) | exact HI300.out))) : gb315 ≠ g300)); clear HO307; clear HO310; clear BK296; clear HI300; clear HB; have HO307 := n0_; have HO310 := n1_; have BK296 := n2_; have HI300 := n3_; have HB := n4_; have BK315 := n5_; have GW315 := n6_; have GE315 := n7_; have NB296_315 := n8_; have NB315_296 := n9_; have NB300_315 := n10_; have NB315_300 := n11_; clear n0_ n1_ n2_ n3_ n4_ n5_ n6_ n7_ n8_ n9_ n10_ n11_; clear hb hbox hg; have hnb10 := NB315_296.out; have hnc10 := NB296_315.out; have hnb11 := NB315_300.out; have hnc11 := NB300_315.out; have hcz12_0 : w9.cell? ⟨gb315, 0, none⟩ = some (.int .i64 0) := (QK BK315.out 0).trans rfl; have hcz12_1 : w9.cell? ⟨gb315, 1, none⟩ = some (.int .i64 0) := (QK BK315.out 1).trans rfl; have hcz12_2 : w9.cell? ⟨gb315, 2, none⟩ = some (.bool false) := (QK BK315.out 2).trans rfl; have hcz12_3 : w9.cell? ⟨gb315, 3, none⟩ = some (.bool false) := (QK BK315.out 3).trans rfl; have hcz12_4 : w9.cell? ⟨gb315, 4, none⟩ = some (.slice none 0 0) := (QK BK315.out 4).trans rfl; have hcz12_5 : w9.cell? ⟨gb315, 5, none⟩ = some (.slice none 0 0) := (QK BK315.out 5).trans rfl; have hcz12_6 : w9.cell? ⟨gb315, 6, none⟩ = some (.int .i64 0) := (QK BK315.out 6).trans rfl; have hcz12_7 : w9.cell? ⟨gb315, 7, none⟩ = some (.int .i64 0) := (QK BK315.out 7).trans rfl; have hfz12_0 := QO BK315.out 0; have hfz12_1 := QO BK315.out 1; have hfz12_2 := QO BK315.out 2; have hfz12_3 := QO BK315.out 3; have hfz12_4 := QO BK315.out 4; have hfz12_5 := QO BK315.out 5; have hfz12_6 := QO BK315.out 6; have hfz12_7 := QO BK315.out 7; obtain ⟨Ao13, co13, eo13, _⟩ := Kd.Q_slice HO307.out; subst eo13; obtain ⟨Ao14, co14, eo14⟩ := Kd.R_slice HO310.out; subst eo14) | ((with_reducible refine QM (f := 124) rfl ?_); refine goesL_ (some 13) rfl rfl Try.func124 (by kernel_rfl) rfl #[.pointer (some ⟨g300, 0, none⟩)] rfl (by (try simp only [List.map_toArray, List.map_cons, List.map_nil]); first | done | rfl | (simp only [List.length_drop, List.length_take]; rfl)) ?_; (with_reducible refine (spec_l4Card.calls g300 t297 t313 t314 t316 t317 t318 w _ ?side1 ?side2 A4.out).mono ?_); (case side1 => repeat (first | (with_reducible first | exact HI300.out | apply IsS123.alloc | apply IsS123.drewN | apply IsS123.drew | apply IsS123.set_1 | apply IsS123.set_2 | refine IsS123.far ?_ NB300_296.out _ | refine IsS123.far ?_ NB300_315.out _) | exact HI300.out)); (case side2 => repeat (first | (with_reducible first | exact HB.out | apply QE | apply QB | apply QC | refine QP ?_ (IsS123.ge HI300.out) | refine QP ?_ GE296.out | refine QP ?_ GE315.out) | exact HB.out)); rintro e w15 ⟨rfl, hi, hb, hk⟩; refine ⟨_, rfl, ?_⟩; have n0_ := QU (KeepBut.blk hk (g' := gb296) (o := .cells #[.int .i64 0, .int .i64 0, .bool false, .bool false, .slice none 0 0, .slice none 0 0, .int .i64 0, .int .i64 0] 74 (0, 0)) (by (with_reducible repeat (first | refine QG ?_ _ | refine QL ?_ | refine QH ?_ _)); refine blk_far ?_ NB296_315.out _; (with_reducible repeat (first | refine QG ?_ _ | refine QL ?_ | refine QH ?_ _)); refine blk_far ?_ NB296_315.out _; (with_reducible repeat (first | refine QG ?_ _ | refine QL ?_ | refine QH ?_ _)); refine blk_far ?_ NB296_315.out _; (with_reducible repeat (first | refine QG ?_ _ | refine QL ?_ | refine QH ?_ _)); refine blk_far ?_ NB296_315.out _; (with_reducible repeat (first | refine QG ?_ _ | refine QL ?_ | refine QH ?_ _)); refine blk_far ?_ NB296_315.out _; (with_reducible repeat (first | refine QG ?_ _ | refine QL ?_ | refine QH ?_ _)); refine blk_far ?_ NB296_315.out _; (with_reducible repeat (first | refine QG ?_ _ | refine QL ?_ | refine QH ?_ _)); refine blk_far ?_ NB296_315.out _; (with_reducible repeat (first | refine QG ?_ _ | refine QL ?_ | refine QH ?_ _)); refine blk_far ?_ NB296_315.out _; (with_reducible repeat (first | refine QG ?_ _ | refine QL ?_ | refine QH ?_ _)); exact BK296.out) NB296_300.out (by simp)); have n1_ := QU (Kd.Q_mono (Kd.Q_keep (IsS123.apartQ (show IsS123 w _ g300 t297 t313 t314 from by repeat (first | (with_reducible first | exact HI300.out | apply IsS123.alloc | apply IsS123.drewN | apply IsS123.drew | apply IsS123.set_1 | apply IsS123.set_2 | refine IsS123.far ?_ NB300_296.out _ | refine IsS123.far ?_ NB300_315.out _) | exact HI300.out)) (by (with_reducible repeat (first | apply Kd.Q_alloc | apply Kd.Q_drewN | apply Kd.Q_drew)); exact (Kd.Q_mono (Kd.Q_far (p := ⟨gb315, 7, none⟩) (Kd.Q_far (p := ⟨gb315, 6, none⟩) (Kd.Q_far (p := ⟨gb315, 5, none⟩) (Kd.Q_far (p := ⟨gb315, 4, none⟩) (Kd.Q_far (p := ⟨gb315, 3, none⟩) (Kd.Q_far (p := ⟨gb315, 2, none⟩) (Kd.Q_far (p := ⟨gb315, 1, none⟩) (Kd.Q_far (p := ⟨gb315, 0, none⟩) (Kd.Q_types HO307.out BK315.out (by decide)) (fun _ hk => hk.2) (.int .i64 t301)) (fun _ hk => hk.2) (.int .i64 t302)) (fun _ hk => hk.2) (.bool t303)) (fun _ hk => hk.2) (.bool t304)) (fun _ hk => hk.2) (.slice Ao13 t305.length co13)) (fun _ hk => hk.2) (.slice Ao14 t308.length co14)) (fun _ hk => hk.2) (.int .i64 t311)) (fun _ hk => hk.2) (.int .i64 t312)) (fun _ h_ => h_.1))) (by decide)) hk (fun _ h => h.2)) (fun _ h => h.1)); have n2_ := QU (Kd.R_mono (Kd.R_keep (IsS123.apart (show IsS123 w _ g300 t297 t313 t314 from by repeat (first | (with_reducible first | exact HI300.out | apply IsS123.alloc | apply IsS123.drewN | apply IsS123.drew | apply IsS123.set_1 | apply IsS123.set_2 | refine IsS123.far ?_ NB300_296.out _ | refine IsS123.far ?_ NB300_315.out _) | exact HI300.out)) (by (with_reducible repeat (first | apply Kd.R_alloc | apply Kd.R_drewN | apply Kd.R_drew)); exact (Kd.R_mono (far_r (far_r (far_r (far_r (far_r (far_r (far_r (far_r (Kd.R_types HO310.out BK315.out (by decide)))))))))) (fun _ h_ => h_.1))) (by decide)) hk (fun _ h => h.2)) (fun _ h => h.1)); have n3_ := QU (KeepBut.blk hk (g' := gb315) (o := .cells #[.int .i64 t301, .int .i64 t302, .bool t303, .bool t304, .slice Ao13 t305.length co13, .slice Ao14 t308.length co14, .int .i64 t311, .int .i64 t312] 74 (0, 0)) (by (with_reducible repeat (first | refine QG ?_ _ | refine QL ?_ | refine QH ?_ _)); refine blk_put (cs := #[.int .i64 t301, .int .i64 t302, .bool t303, .bool t304, .slice Ao13 t305.length co13, .slice Ao14 t308.length co14, .int .i64 t311, .int .i64 0]) ?_ 7 _ rfl; (with_reducible repeat (first | refine QG ?_ _ | refine QL ?_ | refine QH ?_ _)); refine blk_put (cs := #[.int .i64 t301, .int .i64 t302, .bool t303, .bool t304, .slice Ao13 t305.length co13, .slice Ao14 t308.length co14, .int .i64 0, .int .i64 0]) ?_ 6 _ rfl; (with_reducible repeat (first | refine QG ?_ _ | refine QL ?_ | refine QH ?_ _)); refine blk_put (cs := #[.int .i64 t301, .int .i64 t302, .bool t303, .bool t304, .slice Ao13 t305.length co13, .slice none 0 0, .int .i64 0, .int .i64 0]) ?_ 5 _ rfl; (with_reducible repeat (first | refine QG ?_ _ | refine QL ?_ | refine QH ?_ _)); refine blk_put (cs := #[.int .i64 t301, .int .i64 t302, .bool t303, .bool t304, .slice none 0 0, .slice none 0 0, .int .i64 0, .int .i64 0]) ?_ 4 _ rfl; (with_reducible repeat (first | refine QG ?_ _ | refine QL ?_ | refine QH ?_ _)); refine blk_put (cs := #[.int .i64 t301, .int .i64 t302, .bool t303, .bool false, .slice none 0 0, .slice none 0 0, .int .i64 0, .int .i64 0]) ?_ 3 _ rfl; (with_reducible repeat (first | refine QG ?_ _ | refine QL ?_ | refine QH ?_ _)); refine blk_put (cs := #[.int .i64 t301, .int .i64 t302, .bool false, .bool false, .slice none 0 0, .slice none 0 0, .int .i64 0, .int .i64 0]) ?_ 2 _ rfl; (with_reducible repeat (first | refine QG ?_ _ | refine QL ?_ | refine QH ?_ _)); refine blk_put (cs := #[.int .i64 t301, .int .i64 0, .bool false, .bool false, .slice none 0 0, .slice none 0 0, .int .i64 0, .int .i64 0]) ?_ 1 _ rfl; (with_reducible repeat (first | refine QG ?_ _ | refine QL ?_ | refine QH ?_ _)); refine blk_put (cs := #[.int .i64 0, .int .i64 0, .bool false, .bool false, .slice none 0 0, .slice none 0 0, .int .i64 0, .int .i64 0]) ?_ 0 _ rfl; (with_reducible repeat (first | refine QG ?_ _ | refine QL ?_ | refine QH ?_ _)); exact BK315.out) NB315_300.out (by simp)); have n4_ := QU (hb); have n5_ := QU (hi); clear BK296; clear HO307; clear HO310; clear BK315; clear HB; clear HI300; have BK296 := n0_; have HO307 := n1_; have HO310 := n2_; have BK315 := n3_; have HB := n4_; have HI300 := n5_; clear n0_ n1_ n2_ n3_ n4_ n5_; (try clear hb); (try clear hb2); (try clear hk); (try clear hi)))
  have n0_ := QU (Kd.Q_drew HO307.out)
  have n1_ := QU (Kd.R_drew HO310.out)
  have n2_ := QU (QL BK296.out)
  have n3_ := QU (QL BK315.out)
  have n4_ := QU (IsS123.drew HI300.out)
  have n5_ := QU (QC HB.out)
  clear HO307
  clear HO310
  clear BK296
  clear BK315
  clear HI300
  clear HB
  have HO307 := n0_
  have HO310 := n1_
  have BK296 := n2_
  have BK315 := n3_
  have HI300 := n4_
  have HB := n5_
  clear n0_ n1_ n2_ n3_ n4_ n5_
  refine start_ (n := 7) (S := fun w' => w'.cell? ⟨gb315, 0, none⟩ = some (.int .i64 t301) ∧ w'.cell? ⟨gb315, 1, none⟩ = some (.int .i64 t302) ∧ w'.cell? ⟨gb315, 2, none⟩ = some (.bool t303) ∧ w'.cell? ⟨gb315, 3, none⟩ = some (.bool t304) ∧ w'.cell? ⟨gb315, 4, none⟩ = some (.slice Ao13 t305.length co13) ∧ w'.cell? ⟨gb315, 5, none⟩ = some (.slice Ao14 t308.length co14) ∧ w'.cell? ⟨gb315, 6, none⟩ = some (.int .i64 t311) ∧ w'.cell? ⟨gb315, 7, none⟩ = some (.int .i64 t312)) (ds := []) #[Y0,Y0,Y0,Y0,Y0,Y0,Y0] (by kernel_rfl) rfl rfl ⟨(QK BK315.out 0).trans rfl, (QK BK315.out 1).trans rfl, (QK BK315.out 2).trans rfl, (QK BK315.out 3).trans rfl, (QK BK315.out 4).trans rfl, (QK BK315.out 5).trans rfl, (QK BK315.out 6).trans rfl, (QK BK315.out 7).trans rfl⟩ (fun hHeld => ?_)
  generalize w15.drew = w16 at HO307 HO310 BK296 BK315 HI300 HB hHeld ⊢
  refine QN (i := 1) (N := some 15) (v := ?_) (a' := ?_) #[Y0,Y1,Y0,Y0,Y0,Y0,Y0] rfl rfl (by kernel_rfl) (fun _ _ _ h => h) (Or.inl ⟨by rfl, ?_⟩) ?_ ?_
  rotate_left
  · intro w'
    go_simp
    with_reducible rfl
  rotate_left
  · simp only [Act.put, QR, QS, QT, QF, QI]
    rfl
  refine QN (i := 2) (N := some 16) (v := ?_) (a' := ?_) #[Y0,Y1,Y1,Y0,Y0,Y0,Y0] rfl rfl (by kernel_rfl) (fun _ _ _ h => h) (Or.inl ⟨by rfl, ?_⟩) ?_ ?_
  rotate_left
  · intro w'
    go_simp
    with_reducible rfl
  rotate_left
  · simp only [Act.put, QR, QS, QT, QF, QI]
    rfl
  refine take_ (i := 0) (N := some 14) (v := ?_) (a' := ?_) #[Y1,Y1,Y1,Y0,Y0,Y0,Y0] rfl rfl (by kernel_rfl) (fun _ _ _ h => h) (Or.inl ⟨by rfl, ?_⟩) hHeld ?_ ?_
  rotate_left
  · rintro w' ⟨s0, s1, s2, s3, s4, s5, s6, s7⟩
    go_simp
    with_reducible rfl
  rotate_left
  · simp only [Act.put, QR, QS, QT, QF, QI]
    rfl
  refine one_ (i := 3) (N := some 17) #[Y1,Y1,Y1,Y1,Y0,Y0,Y0] rfl rfl (by kernel_rfl) (by decide) (fun K hK => ?_)
  refine goes_ Try.func124 (by kernel_rfl) rfl #[.pointer (some ⟨g300, 0, none⟩)] (by rfl) rfl rfl (by (try simp only [List.map_toArray, List.map_cons, List.map_nil]); first | done | rfl | (simp only [List.length_drop, List.length_take]; rfl)) ?_
  with_reducible refine (spec_l4Card.calls g300 t297 t317 t318 t319 t320 t321 w _ ?side1 ?side2 A5.out).mono ?_
  (case side1 => repeat (first | (with_reducible first | exact HI300.out | apply IsS123.alloc | apply IsS123.drewN | apply IsS123.drew | apply IsS123.set_1 | apply IsS123.set_2 | refine IsS123.far ?_ NB300_296.out _ | refine IsS123.far ?_ NB300_315.out _) | exact HI300.out))
  (case side2 => repeat (first | (with_reducible first | exact HB.out | apply QE | apply QB | apply QC | refine QP ?_ (IsS123.ge HI300.out) | refine QP ?_ GE296.out | refine QP ?_ GE315.out) | exact HB.out))
  rintro e w17 ⟨rfl, hi, hb, hk⟩
  refine ⟨_, rfl, ?_⟩
  have n0_ := QU (KeepBut.blk hk (g' := gb296) (o := .cells #[.int .i64 0, .int .i64 0, .bool false, .bool false, .slice none 0 0, .slice none 0 0, .int .i64 0, .int .i64 0] 74 (0, 0)) (by (with_reducible repeat (first | refine QG ?_ _ | refine QL ?_ | refine QH ?_ _)); exact BK296.out) NB296_300.out (by simp))
  have n1_ := QU (Kd.Q_mono (Kd.Q_keep (IsS123.apartQ (show IsS123 w _ g300 t297 t317 t318 from by repeat (first | (with_reducible first | exact HI300.out | apply IsS123.alloc | apply IsS123.drewN | apply IsS123.drew | apply IsS123.set_1 | apply IsS123.set_2 | refine IsS123.far ?_ NB300_296.out _ | refine IsS123.far ?_ NB300_315.out _) | exact HI300.out)) (by (with_reducible repeat (first | apply Kd.Q_alloc | apply Kd.Q_drewN | apply Kd.Q_drew)); exact HO307.out) (by decide)) hk (fun _ h => h.2)) (fun _ h => h.1))
  have n2_ := QU (Kd.R_mono (Kd.R_keep (IsS123.apart (show IsS123 w _ g300 t297 t317 t318 from by repeat (first | (with_reducible first | exact HI300.out | apply IsS123.alloc | apply IsS123.drewN | apply IsS123.drew | apply IsS123.set_1 | apply IsS123.set_2 | refine IsS123.far ?_ NB300_296.out _ | refine IsS123.far ?_ NB300_315.out _) | exact HI300.out)) (by (with_reducible repeat (first | apply Kd.R_alloc | apply Kd.R_drewN | apply Kd.R_drew)); exact HO310.out) (by decide)) hk (fun _ h => h.2)) (fun _ h => h.1))
  have n3_ := QU (KeepBut.blk hk (g' := gb315) (o := .cells #[.int .i64 t301, .int .i64 t302, .bool t303, .bool t304, .slice Ao13 t305.length co13, .slice Ao14 t308.length co14, .int .i64 t311, .int .i64 t312] 74 (0, 0)) (by (with_reducible repeat (first | refine QG ?_ _ | refine QL ?_ | refine QH ?_ _)); exact BK315.out) NB315_300.out (by simp))
  have n4_ := QU (hb)
  have n5_ := QU (hi)
  clear BK296
  clear HO307
  clear HO310
  clear BK315
  clear HB
  clear HI300
  have BK296 := n0_
  have HO307 := n1_
  have HO310 := n2_
  have BK315 := n3_
  have HB := n4_
  have HI300 := n5_
  clear n0_ n1_ n2_ n3_ n4_ n5_
  (try clear hb)
  (try clear hb2)
  (try clear hk)
  (try clear hi)
  refine hK.out _ _ ⟨(QK BK315.out 0).trans rfl, (QK BK315.out 1).trans rfl, (QK BK315.out 2).trans rfl, (QK BK315.out 3).trans rfl, (QK BK315.out 4).trans rfl, (QK BK315.out 5).trans rfl, (QK BK315.out 6).trans rfl, (QK BK315.out 7).trans rfl⟩ (fun hHeld => ?_)
  clear hK K
  refine norm_ (a' := ?_) ?_ ?_
  rotate_left
  · show Act.put _ (some 17) _ = _
    simp only [Act.put, QR, QS, QT, QF, QI]
    rfl
  refine one_ (i := 4) (N := none) #[Y1,Y1,Y1,Y1,Y1,Y0,Y0] rfl rfl (by kernel_rfl) (by decide) (fun K hK => ?_)
  have hs18 : w17.cell? ⟨gb296, 0, none⟩ = some (.int .i64 0) := (QK BK296.out 0).trans rfl
  have hfs18 := QO BK296.out 0
  have hns18_1 := NB315_296.out
  have hms18_1 := NB296_315.out
  have hs19 : w17.cell? ⟨gb296, 1, none⟩ = some (.int .i64 0) := (QK BK296.out 1).trans rfl
  have hfs19 := QO BK296.out 1
  have hns19_1 := NB315_296.out
  have hms19_1 := NB296_315.out
  have hs20 : w17.cell? ⟨gb296, 2, none⟩ = some (.bool false) := (QK BK296.out 2).trans rfl
  have hfs20 := QO BK296.out 2
  have hns20_1 := NB315_296.out
  have hms20_1 := NB296_315.out
  have hs21 : w17.cell? ⟨gb296, 3, none⟩ = some (.bool false) := (QK BK296.out 3).trans rfl
  have hfs21 := QO BK296.out 3
  have hns21_1 := NB315_296.out
  have hms21_1 := NB296_315.out
  have hs22 : w17.cell? ⟨gb296, 4, none⟩ = some (.slice none 0 0) := (QK BK296.out 4).trans rfl
  have hfs22 := QO BK296.out 4
  have hns22_1 := NB315_296.out
  have hms22_1 := NB296_315.out
  have hs23 : w17.cell? ⟨gb296, 5, none⟩ = some (.slice none 0 0) := (QK BK296.out 5).trans rfl
  have hfs23 := QO BK296.out 5
  have hns23_1 := NB315_296.out
  have hms23_1 := NB296_315.out
  have hs24 : w17.cell? ⟨gb296, 6, none⟩ = some (.int .i64 0) := (QK BK296.out 6).trans rfl
  have hfs24 := QO BK296.out 6
  have hns24_1 := NB315_296.out
  have hms24_1 := NB296_315.out
  have hs25 : w17.cell? ⟨gb296, 7, none⟩ = some (.int .i64 0) := (QK BK296.out 7).trans rfl
  have hfs25 := QO BK296.out 7
  have hns25_1 := NB315_296.out
  have hms25_1 := NB296_315.out
  refine skip_ (w1 := ?_) (by rfl) rfl ?_ ?_
  rotate_left
  · go_simp
    rfl
  refine hK.out _ _ ⟨((QD (p := ⟨gb296, _, none⟩) NB315_296.out _).trans (((QD (p := ⟨gb296, _, none⟩) NB315_296.out _).trans (((QD (p := ⟨gb296, _, none⟩) NB315_296.out _).trans (((QD (p := ⟨gb296, _, none⟩) NB315_296.out _).trans (((QD (p := ⟨gb296, _, none⟩) NB315_296.out _).trans (((QD (p := ⟨gb296, _, none⟩) NB315_296.out _).trans (((QD (p := ⟨gb296, _, none⟩) NB315_296.out _).trans (((QD (p := ⟨gb296, _, none⟩) NB315_296.out _).trans (hHeld.1)))))))))))))))), ((QD (p := ⟨gb296, _, none⟩) NB315_296.out _).trans (((QD (p := ⟨gb296, _, none⟩) NB315_296.out _).trans (((QD (p := ⟨gb296, _, none⟩) NB315_296.out _).trans (((QD (p := ⟨gb296, _, none⟩) NB315_296.out _).trans (((QD (p := ⟨gb296, _, none⟩) NB315_296.out _).trans (((QD (p := ⟨gb296, _, none⟩) NB315_296.out _).trans (((QD (p := ⟨gb296, _, none⟩) NB315_296.out _).trans (((QD (p := ⟨gb296, _, none⟩) NB315_296.out _).trans (hHeld.2.1)))))))))))))))), ((QD (p := ⟨gb296, _, none⟩) NB315_296.out _).trans (((QD (p := ⟨gb296, _, none⟩) NB315_296.out _).trans (((QD (p := ⟨gb296, _, none⟩) NB315_296.out _).trans (((QD (p := ⟨gb296, _, none⟩) NB315_296.out _).trans (((QD (p := ⟨gb296, _, none⟩) NB315_296.out _).trans (((QD (p := ⟨gb296, _, none⟩) NB315_296.out _).trans (((QD (p := ⟨gb296, _, none⟩) NB315_296.out _).trans (((QD (p := ⟨gb296, _, none⟩) NB315_296.out _).trans (hHeld.2.2.1)))))))))))))))), ((QD (p := ⟨gb296, _, none⟩) NB315_296.out _).trans (((QD (p := ⟨gb296, _, none⟩) NB315_296.out _).trans (((QD (p := ⟨gb296, _, none⟩) NB315_296.out _).trans (((QD (p := ⟨gb296, _, none⟩) NB315_296.out _).trans (((QD (p := ⟨gb296, _, none⟩) NB315_296.out _).trans (((QD (p := ⟨gb296, _, none⟩) NB315_296.out _).trans (((QD (p := ⟨gb296, _, none⟩) NB315_296.out _).trans (((QD (p := ⟨gb296, _, none⟩) NB315_296.out _).trans (hHeld.2.2.2.1)))))))))))))))), ((QD (p := ⟨gb296, _, none⟩) NB315_296.out _).trans (((QD (p := ⟨gb296, _, none⟩) NB315_296.out _).trans (((QD (p := ⟨gb296, _, none⟩) NB315_296.out _).trans (((QD (p := ⟨gb296, _, none⟩) NB315_296.out _).trans (((QD (p := ⟨gb296, _, none⟩) NB315_296.out _).trans (((QD (p := ⟨gb296, _, none⟩) NB315_296.out _).trans (((QD (p := ⟨gb296, _, none⟩) NB315_296.out _).trans (((QD (p := ⟨gb296, _, none⟩) NB315_296.out _).trans (hHeld.2.2.2.2.1)))))))))))))))), ((QD (p := ⟨gb296, _, none⟩) NB315_296.out _).trans (((QD (p := ⟨gb296, _, none⟩) NB315_296.out _).trans (((QD (p := ⟨gb296, _, none⟩) NB315_296.out _).trans (((QD (p := ⟨gb296, _, none⟩) NB315_296.out _).trans (((QD (p := ⟨gb296, _, none⟩) NB315_296.out _).trans (((QD (p := ⟨gb296, _, none⟩) NB315_296.out _).trans (((QD (p := ⟨gb296, _, none⟩) NB315_296.out _).trans (((QD (p := ⟨gb296, _, none⟩) NB315_296.out _).trans (hHeld.2.2.2.2.2.1)))))))))))))))), ((QD (p := ⟨gb296, _, none⟩) NB315_296.out _).trans (((QD (p := ⟨gb296, _, none⟩) NB315_296.out _).trans (((QD (p := ⟨gb296, _, none⟩) NB315_296.out _).trans (((QD (p := ⟨gb296, _, none⟩) NB315_296.out _).trans (((QD (p := ⟨gb296, _, none⟩) NB315_296.out _).trans (((QD (p := ⟨gb296, _, none⟩) NB315_296.out _).trans (((QD (p := ⟨gb296, _, none⟩) NB315_296.out _).trans (((QD (p := ⟨gb296, _, none⟩) NB315_296.out _).trans (hHeld.2.2.2.2.2.2.1)))))))))))))))), ((QD (p := ⟨gb296, _, none⟩) NB315_296.out _).trans (((QD (p := ⟨gb296, _, none⟩) NB315_296.out _).trans (((QD (p := ⟨gb296, _, none⟩) NB315_296.out _).trans (((QD (p := ⟨gb296, _, none⟩) NB315_296.out _).trans (((QD (p := ⟨gb296, _, none⟩) NB315_296.out _).trans (((QD (p := ⟨gb296, _, none⟩) NB315_296.out _).trans (((QD (p := ⟨gb296, _, none⟩) NB315_296.out _).trans (((QD (p := ⟨gb296, _, none⟩) NB315_296.out _).trans (hHeld.2.2.2.2.2.2.2))))))))))))))))⟩ (fun hHeld => ?_)
  clear hK K
  refine QN (i := 5) (N := some 3) (v := ?_) (a' := ?_) #[Y1,Y1,Y1,Y1,Y1,Y1,Y0] rfl rfl (by kernel_rfl) (fun _ _ _ h => h) (Or.inl ⟨by rfl, ?_⟩) ?_ ?_
  rotate_left
  · intro w'
    go_simp
    with_reducible rfl
  rotate_left
  · simp only [Act.put, QR, QS, QT, QF, QI]
    rfl
  refine QN (i := 6) (N := some 4) (v := ?_) (a' := ?_) #[Y1,Y1,Y1,Y1,Y1,Y1,Y1] rfl rfl (by kernel_rfl) (fun _ _ _ h => h) (Or.inl ⟨by rfl, ?_⟩) ?_ ?_
  rotate_left
  · intro w'
    go_simp
    with_reducible rfl
  rotate_left
  · simp only [Act.put, QR, QS, QT, QF, QI]
    rfl
  refine done_ (by kernel_rfl) ?_
  try go_wp2
  refine bodyPost_ret (results_ctt rfl _ _ gb296 74 #[.int .i64 t301, .int .i64 t302, .bool t303, .bool t304, .slice Ao13 t305.length co13, .slice Ao14 t308.length co14, .int .i64 t311, .int .i64 t312] (0, 0) _ rfl (by (with_reducible repeat (first | refine QG ?_ _ | refine QL ?_ | refine QH ?_ _)); refine blk_put (cs := #[.int .i64 t301, .int .i64 t302, .bool t303, .bool t304, .slice Ao13 t305.length co13, .slice Ao14 t308.length co14, .int .i64 t311, .int .i64 0]) ?_ 7 _ rfl; (with_reducible repeat (first | refine QG ?_ _ | refine QL ?_ | refine QH ?_ _)); refine blk_put (cs := #[.int .i64 t301, .int .i64 t302, .bool t303, .bool t304, .slice Ao13 t305.length co13, .slice Ao14 t308.length co14, .int .i64 0, .int .i64 0]) ?_ 6 _ rfl; (with_reducible repeat (first | refine QG ?_ _ | refine QL ?_ | refine QH ?_ _)); refine blk_put (cs := #[.int .i64 t301, .int .i64 t302, .bool t303, .bool t304, .slice Ao13 t305.length co13, .slice none 0 0, .int .i64 0, .int .i64 0]) ?_ 5 _ rfl; (with_reducible repeat (first | refine QG ?_ _ | refine QL ?_ | refine QH ?_ _)); refine blk_put (cs := #[.int .i64 t301, .int .i64 t302, .bool t303, .bool t304, .slice none 0 0, .slice none 0 0, .int .i64 0, .int .i64 0]) ?_ 4 _ rfl; (with_reducible repeat (first | refine QG ?_ _ | refine QL ?_ | refine QH ?_ _)); refine blk_put (cs := #[.int .i64 t301, .int .i64 t302, .bool t303, .bool false, .slice none 0 0, .slice none 0 0, .int .i64 0, .int .i64 0]) ?_ 3 _ rfl; (with_reducible repeat (first | refine QG ?_ _ | refine QL ?_ | refine QH ?_ _)); refine blk_put (cs := #[.int .i64 t301, .int .i64 t302, .bool false, .bool false, .slice none 0 0, .slice none 0 0, .int .i64 0, .int .i64 0]) ?_ 2 _ rfl; (with_reducible repeat (first | refine QG ?_ _ | refine QL ?_ | refine QH ?_ _)); refine blk_put (cs := #[.int .i64 t301, .int .i64 0, .bool false, .bool false, .slice none 0 0, .slice none 0 0, .int .i64 0, .int .i64 0]) ?_ 1 _ rfl; (with_reducible repeat (first | refine QG ?_ _ | refine QL ?_ | refine QH ?_ _)); refine blk_put (cs := #[.int .i64 0, .int .i64 0, .bool false, .bool false, .slice none 0 0, .slice none 0 0, .int .i64 0, .int .i64 0]) ?_ 0 _ rfl; (with_reducible repeat (first | refine QG ?_ _ | refine QL ?_ | refine QH ?_ _)); exact BK296.out) Try.underlying74 rfl (by kernel_rfl)) rfl ?_
  exact ⟨_, _, by first | rfl | (simp [errW_none, errW_some] <;> rfl) | (simp [*, errW_none, errW_some] <;> rfl), by (with_reducible repeat (first | apply Kd.Q_alloc | apply Kd.Q_drewN | apply Kd.Q_drew)); exact Kd.Q_mono (Kd.Q_far (p := ⟨gb296, 7, none⟩) (Kd.Q_far (p := ⟨gb296, 6, none⟩) (Kd.Q_far (p := ⟨gb296, 5, none⟩) (Kd.Q_far (p := ⟨gb296, 4, none⟩) (Kd.Q_far (p := ⟨gb296, 3, none⟩) (Kd.Q_far (p := ⟨gb296, 2, none⟩) (Kd.Q_far (p := ⟨gb296, 1, none⟩) (Kd.Q_far (p := ⟨gb296, 0, none⟩) (Kd.Q_types HO307.out BK296.out (by decide)) (fun _ hk => hk.2) (.int .i64 t301)) (fun _ hk => hk.2) (.int .i64 t302)) (fun _ hk => hk.2) (.bool t303)) (fun _ hk => hk.2) (.bool t304)) (fun _ hk => hk.2) (.slice Ao13 t305.length co13)) (fun _ hk => hk.2) (.slice Ao14 t308.length co14)) (fun _ hk => hk.2) (.int .i64 t311)) (fun _ hk => hk.2) (.int .i64 t312)) (fun _ hk => hk.1), by (with_reducible repeat (first | apply Kd.R_alloc | apply Kd.R_drewN | apply Kd.R_drew)); exact Kd.R_mono (far_r (far_r (far_r (far_r (far_r (far_r (far_r (far_r (Kd.R_types HO310.out BK296.out (by decide)))))))))) (fun _ hk => hk.1), by repeat (first | (with_reducible first | exact HB.out | apply QE | apply QB | apply QC | refine QP ?_ (IsS123.ge HI300.out) | refine QP ?_ GE296.out | refine QP ?_ GE315.out) | exact HB.out)⟩

/-! ### impl_isTest: function 150 -/
def impl_isTest.f (a0 : Int) : Option (Bool) := (impl_InRange.f a0 100 103).bind fun t322 => (if t322 = true then (some true) else ((impl_InRange.f a0 200 212).bind fun t323 => (if t323 = true then (some true) else ((impl_InRange.f a0 300 312).bind fun t324 => (if t324 = true then (some true) else (some (a0 == 400)))))))
set_option maxHeartbeats 8000000 in
set_option maxRecDepth 100000 in
theorem impl_isTest.calls (a0 : Int) (r : Bool) (w : World) (h : impl_isTest.f a0 = some r) :
    Calls Try.prog 150 #[.int .i64 a0] w fun e w' => e = .returned (.bool r) ∧ Drawn0 w w' := by
  have H : ((impl_InRange.f a0 100 103).bind fun t322 => (if t322 = true then (some true) else ((impl_InRange.f a0 200 212).bind fun t323 => (if t323 = true then (some true) else ((impl_InRange.f a0 300 312).bind fun t324 => (if t324 = true then (some true) else (some (a0 == 400)))))))) = some r := h
  clear h
  replace H := QV.mp H
  obtain ⟨t322, A20, H⟩ := H
  have A2 := QU A20
  clear A20
  by_cases c3 : t322 = true
  · subst c3
    rw [if_pos rfl] at H
    obtain rfl := Option.some.inj H
    go_enter Try.func150, Try.ntmps150
    go_wp2_with (first | ((with_reducible refine QM (f := 99) rfl ?_); refine goesL_ (some 4) rfl rfl Try.func99 (by kernel_rfl) rfl #[.int .i64 a0, .int .i64 100, .int .i64 103] rfl (by (try simp only [List.map_toArray, List.map_cons, List.map_nil]); first | done | rfl | (simp only [List.length_drop, List.length_take]; rfl)) ?_; (with_reducible refine (impl_InRange.calls a0 100 103 true _ A2.out).mono ?_); rintro e w' ⟨rfl, ⟨nd, rfl⟩⟩; refine ⟨_, rfl, ?_⟩))
    go_ret
    exact ⟨by first | rfl | (simp; done) | (simp [*]; done), by repeat (first | exact Drawn0.refl _ | apply Drawn0.step)⟩
  · replace c3 := Bool.eq_false_iff.mpr c3
    subst c3
    rw [if_neg (show ¬ (false = true) by decide)] at H
    replace H := QV.mp H
    obtain ⟨t323, A40, H⟩ := H
    have A4 := QU A40
    clear A40
    by_cases c5 : t323 = true
    · subst c5
      rw [if_pos rfl] at H
      obtain rfl := Option.some.inj H
      go_enter Try.func150, Try.ntmps150
      go_wp2_with (first | ((with_reducible refine QM (f := 99) rfl ?_); refine goesL_ (some 4) rfl rfl Try.func99 (by kernel_rfl) rfl #[.int .i64 a0, .int .i64 100, .int .i64 103] rfl (by (try simp only [List.map_toArray, List.map_cons, List.map_nil]); first | done | rfl | (simp only [List.length_drop, List.length_take]; rfl)) ?_; (with_reducible refine (impl_InRange.calls a0 100 103 false _ A2.out).mono ?_); rintro e w' ⟨rfl, ⟨nd, rfl⟩⟩; refine ⟨_, rfl, ?_⟩) | (go_at_call 99; (with_reducible refine (impl_InRange.calls a0 200 212 true _ A4.out).mono ?_); rintro e w' ⟨rfl, ⟨nd, rfl⟩⟩))
      go_ret
      exact ⟨by first | rfl | (simp; done) | (simp [*]; done), by repeat (first | exact Drawn0.refl _ | apply Drawn0.step)⟩
    · replace c5 := Bool.eq_false_iff.mpr c5
      subst c5
      rw [if_neg (show ¬ (false = true) by decide)] at H
      replace H := QV.mp H
      obtain ⟨t324, A60, H⟩ := H
      have A6 := QU A60
      clear A60
      by_cases c7 : t324 = true
      · subst c7
        rw [if_pos rfl] at H
        obtain rfl := Option.some.inj H
        go_enter Try.func150, Try.ntmps150
        go_wp2_with (first | ((with_reducible refine QM (f := 99) rfl ?_); refine goesL_ (some 4) rfl rfl Try.func99 (by kernel_rfl) rfl #[.int .i64 a0, .int .i64 100, .int .i64 103] rfl (by (try simp only [List.map_toArray, List.map_cons, List.map_nil]); first | done | rfl | (simp only [List.length_drop, List.length_take]; rfl)) ?_; (with_reducible refine (impl_InRange.calls a0 100 103 false _ A2.out).mono ?_); rintro e w' ⟨rfl, ⟨nd, rfl⟩⟩; refine ⟨_, rfl, ?_⟩) | (go_at_call 99; (with_reducible refine (impl_InRange.calls a0 200 212 false _ A4.out).mono ?_); rintro e w' ⟨rfl, ⟨nd, rfl⟩⟩) | (go_at_call 99; (with_reducible refine (impl_InRange.calls a0 300 312 true _ A6.out).mono ?_); rintro e w' ⟨rfl, ⟨nd, rfl⟩⟩))
        go_ret
        exact ⟨by first | rfl | (simp; done) | (simp [*]; done), by repeat (first | exact Drawn0.refl _ | apply Drawn0.step)⟩
      · replace c7 := Bool.eq_false_iff.mpr c7
        subst c7
        rw [if_neg (show ¬ (false = true) by decide)] at H
        obtain rfl := Option.some.inj H
        go_enter Try.func150, Try.ntmps150
        go_wp2_with (first | ((with_reducible refine QM (f := 99) rfl ?_); refine goesL_ (some 4) rfl rfl Try.func99 (by kernel_rfl) rfl #[.int .i64 a0, .int .i64 100, .int .i64 103] rfl (by (try simp only [List.map_toArray, List.map_cons, List.map_nil]); first | done | rfl | (simp only [List.length_drop, List.length_take]; rfl)) ?_; (with_reducible refine (impl_InRange.calls a0 100 103 false _ A2.out).mono ?_); rintro e w' ⟨rfl, ⟨nd, rfl⟩⟩; refine ⟨_, rfl, ?_⟩) | (go_at_call 99; (with_reducible refine (impl_InRange.calls a0 200 212 false _ A4.out).mono ?_); rintro e w' ⟨rfl, ⟨nd, rfl⟩⟩) | (go_at_call 99; (with_reducible refine (impl_InRange.calls a0 300 312 false _ A6.out).mono ?_); rintro e w' ⟨rfl, ⟨nd, rfl⟩⟩))
        go_ret
        exact ⟨by first | rfl | (simp; done) | (simp [*]; done), by repeat (first | exact Drawn0.refl _ | apply Drawn0.step)⟩

/-! ### impl_IsPattern: function 126 -/
mutual
def impl_IsPattern.l0 : Nat → List Int → Int → List Int → Int → Int → Option (Bool)
  | 0, _, _, _, _, _ => none
  | k + 1, x0, x3, x6, x7, x8 => if x8 < x7 then (if 0 ≤ x8 then (if x8 < (x6.length : Int) then ((impl_isTest.f (rd x6 x8)).bind fun t327 => (if t327 = true then (impl_IsPattern.l0 k x0 (wrap64 (x3 + 1)) x6 x7 (wrap64 (x8 + 1))) else (if (rd x6 x8) = (-1) then (impl_IsPattern.j1 k x0 x3 (rd x6 x8) x6 x7 x8 (decide (x3 ≥ 1))) else (impl_IsPattern.j1 k x0 x3 (rd x6 x8) x6 x7 x8 false)))) else (none)) else (none)) else ((impl_InRange.f (x0.length : Int) 1 20).bind fun t325 => (if t325 = true then (some (x3 == 1)) else (some false)))
def impl_IsPattern.j1 : Nat → List Int → Int → Int → List Int → Int → Int → Bool → Option (Bool)
  | 0, _, _, _, _, _, _, _ => none
  | k + 1, x0, x3, x5, x6, x7, x8, x17 => if x17 = true then (impl_IsPattern.l0 k x0 x3 x6 x7 (wrap64 (x8 + 1))) else (if x5 = (-2) then (if x3 ≥ 2 then (impl_IsPattern.l0 k x0 (wrap64 (x3 - 1)) x6 x7 (wrap64 (x8 + 1))) else (some false)) else (if x5 = (-3) then (if x3 ≥ 2 then (impl_IsPattern.l0 k x0 (wrap64 (x3 - 1)) x6 x7 (wrap64 (x8 + 1))) else (some false)) else (some false)))
end
def impl_IsPattern.f (k : Nat) (l0 : List Int) : Option (Bool) := impl_IsPattern.l0 k l0 0 l0 (l0.length : Int) 0
theorem impl_IsPattern.mono_l : ∀ k, (∀ y0 y1 y2 y3 y4, LeO (impl_IsPattern.l0 k y0 y1 y2 y3 y4) (impl_IsPattern.l0 (k + 1) y0 y1 y2 y3 y4)) ∧ (∀ y0 y1 y2 y3 y4 y5 y6, LeO (impl_IsPattern.j1 k y0 y1 y2 y3 y4 y5 y6) (impl_IsPattern.j1 (k + 1) y0 y1 y2 y3 y4 y5 y6))
  | 0 => ⟨fun _ _ _ _ _ r h => by simp [impl_IsPattern.l0] at h, fun _ _ _ _ _ _ _ r h => by simp [impl_IsPattern.j1] at h⟩
  | k + 1 => by
    obtain ⟨ih0, ih1⟩ := impl_IsPattern.mono_l k
    refine ⟨?_, ?_⟩
    · intro y0 y1 y2 y3 y4
      unfold impl_IsPattern.l0
      repeat' first
      | (with_reducible exact ih0 _ _ _ _ _)
      | (with_reducible exact ih1 _ _ _ _ _ _ _)
      | (with_reducible exact LeO.refl _)
      | (with_reducible exact LeO.none _)
      | (with_reducible refine LeO.ite ?_ ?_)
      | (with_reducible refine LeO.bind ?_ (fun _ => ?_))
      | exact ih0 _ _ _ _ _
      | exact ih1 _ _ _ _ _ _ _
      | exact LeO.none _
      | refine LeO.ite ?_ ?_
      | refine LeO.bind ?_ (fun _ => ?_)
    · intro y0 y1 y2 y3 y4 y5 y6
      unfold impl_IsPattern.j1
      repeat' first
      | (with_reducible exact ih0 _ _ _ _ _)
      | (with_reducible exact ih1 _ _ _ _ _ _ _)
      | (with_reducible exact LeO.refl _)
      | (with_reducible exact LeO.none _)
      | (with_reducible refine LeO.ite ?_ ?_)
      | (with_reducible refine LeO.bind ?_ (fun _ => ?_))
      | exact ih0 _ _ _ _ _
      | exact ih1 _ _ _ _ _ _ _
      | exact LeO.none _
      | refine LeO.ite ?_ ?_
      | refine LeO.bind ?_ (fun _ => ?_)
theorem impl_IsPattern.mono : ∀ a0 k, LeO (impl_IsPattern.f k a0) (impl_IsPattern.f (k + 1) a0) := by
  intro a0 k
  obtain ⟨ih0, ih1⟩ := impl_IsPattern.mono_l k
  unfold impl_IsPattern.f
  repeat' first
      | (with_reducible exact ih0 _ _ _ _ _)
      | (with_reducible exact ih1 _ _ _ _ _ _ _)
      | (with_reducible exact LeO.refl _)
      | (with_reducible exact LeO.none _)
      | (with_reducible refine LeO.ite ?_ ?_)
      | (with_reducible refine LeO.bind ?_ (fun _ => ?_))
      | exact ih0 _ _ _ _ _
      | exact ih1 _ _ _ _ _ _ _
      | exact LeO.none _
      | refine LeO.ite ?_ ?_
      | refine LeO.bind ?_ (fun _ => ?_)
set_option maxHeartbeats 8000000 in
set_option maxRecDepth 100000 in
theorem impl_IsPattern.calls (k : Nat) (A0 : Option Addr) (c0 : Nat) (l0 : List Int) (r : Bool) (w : World) (hr0 : Kd.C (Kd.int .i64) w A0 l0.length l0) (hc0 : l0.length ≤ c0) (h : impl_IsPattern.f k l0 = some r) :
    Calls Try.prog 126 #[.slice A0 l0.length c0] w fun e w' => e = .returned (.bool r) ∧ Drawn0 w w' := by
  have HR0 := QU hr0
  have HC0 := QU hc0
  clear hr0 hc0
  have H : (impl_IsPattern.l0 k l0 0 l0 (l0.length : Int) 0) = some r := h
  clear h
  have H' := QU H
  clear H
  go_enter Try.func126, Try.ntmps126
  go_wp2
  go_loopg [3, 8] k (fun kq v3 v8 w' => ∃ (x3_1 : Int) (x8_1 : Int), v3 = .int .i64 x3_1 ∧ v8 = .int .i64 x8_1 ∧ Aside0 (impl_IsPattern.l0 kq l0 x3_1 l0 (l0.length : Int) x8_1 = some r) ∧ Aside0 (kq ≤ k) ∧ Drawn0 w w')
  case atStart => exact ⟨(0), (0), (by first | rfl | (simp; done) | (simp [*]; done)), (by first | rfl | (simp; done) | (simp [*]; done)), H', ⟨Nat.le_refl _⟩, by repeat (first | exact Drawn0.refl _ | apply Drawn0.step)⟩
  case round =>
    clear H'
    try clear c1
    obtain ⟨x3_1, x8_1, rfl, rfl, HA, HK1, ⟨m1, rfl⟩⟩ := hrel
    cases gk with
    | zero => exact absurd HA.out (by simp [impl_IsPattern.l0])
    | succ k1 =>
      have H := HA.out
      clear HA
      simp only [impl_IsPattern.l0] at H
      by_cases c2 : x8_1 < (l0.length : Int)
      · rw [if_pos c2] at H
        have c2b0 : decide (x8_1 < (l0.length : Int)) = true := decide_eq_true c2
        clear c2
        by_cases c3 : 0 ≤ x8_1
        · rw [if_pos c3] at H
          have c3b0 : decide (0 ≤ x8_1) = true := decide_eq_true c3
          clear c3
          by_cases c4 : x8_1 < (l0.length : Int)
          · rw [if_pos c4] at H
            have c4b0 : decide (x8_1 < (l0.length : Int)) = true := decide_eq_true c4
            clear c4
            replace H := QV.mp H
            obtain ⟨t327, A50, H⟩ := H
            have A5 := QU A50
            clear A50
            by_cases c6 : t327 = true
            · subst c6
              rw [if_pos rfl] at H
              have H' := QU H
              clear H
              have p326 : 0 ≤ (x8_1 : Int) := of_decide_eq_true (by first | (with_reducible assumption) | assumption)
              have q326 : x8_1 < (l0.length : Int) := of_decide_eq_true (by first | (with_reducible assumption) | assumption)
              obtain ⟨ad326, e326, hx326_0⟩ := Kd.at_int HR0.out x8_1 p326 q326
              cases e326
              replace p326 := eq_true p326
              replace q326 := eq_true q326
              go_wp2_with (first | ((with_reducible refine QM (f := 150) rfl ?_); refine goesL_ (some 14) rfl rfl Try.func150 (by kernel_rfl) rfl #[.int .i64 (rd l0 x8_1)] rfl (by (try simp only [List.map_toArray, List.map_cons, List.map_nil]); first | done | rfl | (simp only [List.length_drop, List.length_take]; rfl)) ?_; (with_reducible refine (impl_isTest.calls (rd l0 x8_1) true _ A5.out).mono ?_); rintro e w' ⟨rfl, ⟨nd, rfl⟩⟩; refine ⟨_, rfl, ?_⟩))
              go_roundg k1
              case measure => have := HK1.out; omega
              case rel => exact ⟨(wrap64 (x3_1 + 1)), (wrap64 (x8_1 + 1)), (by first | rfl | (simp; done) | (simp [*]; done)), (by first | rfl | (simp; done) | (simp [*]; done)), H', ⟨by have := HK1.out; omega⟩, by repeat (first | exact Drawn0.refl _ | apply Drawn0.step)⟩
            · replace c6 := Bool.eq_false_iff.mpr c6
              subst c6
              rw [if_neg (show ¬ (false = true) by decide)] at H
              have HC7 := QU H
              clear H
              have p326 : 0 ≤ (x8_1 : Int) := of_decide_eq_true (by first | (with_reducible assumption) | assumption)
              have q326 : x8_1 < (l0.length : Int) := of_decide_eq_true (by first | (with_reducible assumption) | assumption)
              obtain ⟨ad326, e326, hx326_0⟩ := Kd.at_int HR0.out x8_1 p326 q326
              cases e326
              replace p326 := eq_true p326
              replace q326 := eq_true q326
              go_upto_region 8 with (first | ((with_reducible refine QM (f := 150) rfl ?_); refine goesL_ (some 14) rfl rfl Try.func150 (by kernel_rfl) rfl #[.int .i64 (rd l0 x8_1)] rfl (by (try simp only [List.map_toArray, List.map_cons, List.map_nil]); first | done | rfl | (simp only [List.length_drop, List.length_take]; rfl)) ?_; (with_reducible refine (impl_isTest.calls (rd l0 x8_1) false _ A5.out).mono ?_); rintro e w' ⟨rfl, ⟨nd, rfl⟩⟩; refine ⟨_, rfl, ?_⟩))
              (try simp only [Act.put, QR, QS, QT])
              go_cut [17] (fun v17 wc => ∃ (kq : Nat) (x17_6 : Bool), v17 = .bool x17_6 ∧ Aside0 (impl_IsPattern.j1 kq l0 x3_1 (rd l0 x8_1) l0 (l0.length : Int) x8_1 x17_6 = some r) ∧ Aside0 (kq ≤ k1) ∧ Drawn0 w wc)
              case first =>
                have H := HC7.out
                clear HC7
                by_cases c8 : (rd l0 x8_1) = (-1)
                · rw [if_pos c8] at H
                  have c8b0 : ((rd l0 x8_1) == (-1)) = true := beq_iff_eq.mpr c8
                  have c8b1 : ((rd l0 x8_1) != (-1)) = false := bne_eq_false_iff_eq.mpr c8
                  clear c8
                  (first | rw [c8b0] | (simp only [QF, QI]; rw [c8b0]) | skip)
                  have H' := QU H
                  clear H
                  go_wp2
                  go_meet
                  case rel => exact ⟨_, (decide (x3_1 ≥ 1)), (by first | rfl | (simp; done) | (simp [*]; done)), H', ⟨by have := HK1.out; first | omega | exact Nat.le_refl _⟩, by repeat (first | exact Drawn0.refl _ | apply Drawn0.step)⟩
                · rw [if_neg c8] at H
                  have c8b0 : ((rd l0 x8_1) == (-1)) = false := beq_eq_false_iff_ne.mpr c8
                  have c8b1 : ((rd l0 x8_1) != (-1)) = true := bne_iff_ne.mpr c8
                  (first | rw [c8b0] | (simp only [QF, QI]; rw [c8b0]) | skip)
                  have H' := QU H
                  clear H
                  go_wp2
                  go_meet
                  case rel => exact ⟨_, (false), (by first | rfl | (simp; done) | (simp [*]; done)), H', ⟨by have := HK1.out; first | omega | exact Nat.le_refl _⟩, by repeat (first | exact Drawn0.refl _ | apply Drawn0.step)⟩
              case rest =>
                clear HC7
                try clear c1
                try clear c2
                try clear c2b0
                try clear p2
                try clear c3
                try clear c3b0
                try clear p3
                try clear q3
                try clear hx3
                try clear c4
                try clear c4b0
                try clear c6
                try clear p6
                try clear c8
                try clear c8b0
                try clear c8b1
                try clear hx326_0
                try clear p326
                try clear q326
                obtain ⟨kq, x17_6, rfl, HA, HJ6, ⟨mc6, rfl⟩⟩ := hcut
                cases kq with
                | zero => exact absurd HA.out (by simp [impl_IsPattern.j1])
                | succ kj6 =>
                  have H := HA.out
                  clear HA
                  simp only [impl_IsPattern.j1] at H
                  by_cases c9 : x17_6 = true
                  · subst c9
                    rw [if_pos rfl] at H
                    have H' := QU H
                    clear H
                    go_wp2
                    go_roundg kj6
                    case measure => have := HK1.out; have := HJ6.out; omega
                    case rel => exact ⟨(x3_1), (wrap64 (x8_1 + 1)), (by first | rfl | (simp; done) | (simp [*]; done)), (by first | rfl | (simp; done) | (simp [*]; done)), H', ⟨by have := HK1.out; have := HJ6.out; omega⟩, by repeat (first | exact Drawn0.refl _ | apply Drawn0.step)⟩
                  · replace c9 := Bool.eq_false_iff.mpr c9
                    subst c9
                    rw [if_neg (show ¬ (false = true) by decide)] at H
                    by_cases c10 : (rd l0 x8_1) = (-2)
                    · rw [if_pos c10] at H
                      have c10b0 : ((rd l0 x8_1) == (-2)) = true := beq_iff_eq.mpr c10
                      have c10b1 : ((rd l0 x8_1) != (-2)) = false := bne_eq_false_iff_eq.mpr c10
                      clear c10
                      by_cases c11 : x3_1 ≥ 2
                      · rw [if_pos c11] at H
                        have c11b0 : decide (2 ≤ x3_1) = true := decide_eq_true c11
                        clear c11
                        have H' := QU H
                        clear H
                        go_wp2
                        go_roundg kj6
                        case measure => have := HK1.out; have := HJ6.out; omega
                        case rel => exact ⟨(wrap64 (x3_1 - 1)), (wrap64 (x8_1 + 1)), (by first | rfl | (simp; done) | (simp [*]; done)), (by first | rfl | (simp; done) | (simp [*]; done)), H', ⟨by have := HK1.out; have := HJ6.out; omega⟩, by repeat (first | exact Drawn0.refl _ | apply Drawn0.step)⟩
                      · rw [if_neg c11] at H
                        have c11b0 : decide (2 ≤ x3_1) = false := decide_eq_false c11
                        clear c11
                        obtain rfl := Option.some.inj H
                        go_wp2
                        go_ret
                        exact ⟨by first | rfl | (simp; done) | (simp [*]; done), by repeat (first | exact Drawn0.refl _ | apply Drawn0.step)⟩
                    · rw [if_neg c10] at H
                      have c10b0 : ((rd l0 x8_1) == (-2)) = false := beq_eq_false_iff_ne.mpr c10
                      have c10b1 : ((rd l0 x8_1) != (-2)) = true := bne_iff_ne.mpr c10
                      by_cases c12 : (rd l0 x8_1) = (-3)
                      · rw [if_pos c12] at H
                        have c12b0 : ((rd l0 x8_1) == (-3)) = true := beq_iff_eq.mpr c12
                        have c12b1 : ((rd l0 x8_1) != (-3)) = false := bne_eq_false_iff_eq.mpr c12
                        clear c12
                        by_cases c13 : x3_1 ≥ 2
                        · rw [if_pos c13] at H
                          have c13b0 : decide (2 ≤ x3_1) = true := decide_eq_true c13
                          clear c13
                          have H' := QU H
                          clear H
                          go_wp2
                          go_roundg kj6
                          case measure => have := HK1.out; have := HJ6.out; omega
                          case rel => exact ⟨(wrap64 (x3_1 - 1)), (wrap64 (x8_1 + 1)), (by first | rfl | (simp; done) | (simp [*]; done)), (by first | rfl | (simp; done) | (simp [*]; done)), H', ⟨by have := HK1.out; have := HJ6.out; omega⟩, by repeat (first | exact Drawn0.refl _ | apply Drawn0.step)⟩
                        · rw [if_neg c13] at H
                          have c13b0 : decide (2 ≤ x3_1) = false := decide_eq_false c13
                          clear c13
                          obtain rfl := Option.some.inj H
                          go_wp2
                          go_ret
                          exact ⟨by first | rfl | (simp; done) | (simp [*]; done), by repeat (first | exact Drawn0.refl _ | apply Drawn0.step)⟩
                      · rw [if_neg c12] at H
                        have c12b0 : ((rd l0 x8_1) == (-3)) = false := beq_eq_false_iff_ne.mpr c12
                        have c12b1 : ((rd l0 x8_1) != (-3)) = true := bne_iff_ne.mpr c12
                        obtain rfl := Option.some.inj H
                        go_wp2
                        go_ret
                        exact ⟨by first | rfl | (simp; done) | (simp [*]; done), by repeat (first | exact Drawn0.refl _ | apply Drawn0.step)⟩
          · rw [if_neg c4] at H
            exact absurd H (by simp)
        · rw [if_neg c3] at H
          exact absurd H (by simp)
      · rw [if_neg c2] at H
        have c2b0 : decide (x8_1 < (l0.length : Int)) = false := decide_eq_false c2
        clear c2
        replace H := QV.mp H
        obtain ⟨t325, A140, H⟩ := H
        have A14 := QU A140
        clear A140
        by_cases c15 : t325 = true
        · subst c15
          rw [if_pos rfl] at H
          obtain rfl := Option.some.inj H
          go_wp2_with (first | ((with_reducible refine QM (f := 99) rfl ?_); refine goesL_ (some 40) rfl rfl Try.func99 (by kernel_rfl) rfl #[.int .i64 (l0.length : Int), .int .i64 1, .int .i64 20] rfl (by (try simp only [List.map_toArray, List.map_cons, List.map_nil]); first | done | rfl | (simp only [List.length_drop, List.length_take]; rfl)) ?_; (with_reducible refine (impl_InRange.calls (l0.length : Int) 1 20 true _ A14.out).mono ?_); rintro e w' ⟨rfl, ⟨nd, rfl⟩⟩; refine ⟨_, rfl, ?_⟩))
          go_ret
          exact ⟨by first | rfl | (simp; done) | (simp [*]; done), by repeat (first | exact Drawn0.refl _ | apply Drawn0.step)⟩
        · replace c15 := Bool.eq_false_iff.mpr c15
          subst c15
          rw [if_neg (show ¬ (false = true) by decide)] at H
          obtain rfl := Option.some.inj H
          go_wp2_with (first | ((with_reducible refine QM (f := 99) rfl ?_); refine goesL_ (some 40) rfl rfl Try.func99 (by kernel_rfl) rfl #[.int .i64 (l0.length : Int), .int .i64 1, .int .i64 20] rfl (by (try simp only [List.map_toArray, List.map_cons, List.map_nil]); first | done | rfl | (simp only [List.length_drop, List.length_take]; rfl)) ?_; (with_reducible refine (impl_InRange.calls (l0.length : Int) 1 20 false _ A14.out).mono ?_); rintro e w' ⟨rfl, ⟨nd, rfl⟩⟩; refine ⟨_, rfl, ?_⟩))
          go_ret
          exact ⟨by first | rfl | (simp; done) | (simp [*]; done), by repeat (first | exact Drawn0.refl _ | apply Drawn0.step)⟩

/-! ### impl_isMaybe: function 125 -/
def impl_isMaybe.f (k : Nat) (l0 : List Int) : Option (Bool) := if (l0.length : Int) = 0 then (some true) else ((impl_IsPattern.f k l0).bind fun t328 => (some t328))
theorem impl_isMaybe.mono : ∀ a0 k, LeO (impl_isMaybe.f k a0) (impl_isMaybe.f (k + 1) a0) := by
  intro a0 k
  unfold impl_isMaybe.f
  repeat' first
      | (with_reducible exact impl_IsPattern.mono _ _)
      | (with_reducible exact LeO.refl _)
      | (with_reducible exact LeO.none _)
      | (with_reducible refine LeO.ite ?_ ?_)
      | (with_reducible refine LeO.bind ?_ (fun _ => ?_))
      | exact impl_IsPattern.mono _ _
      | exact LeO.none _
      | refine LeO.ite ?_ ?_
      | refine LeO.bind ?_ (fun _ => ?_)
set_option maxHeartbeats 8000000 in
set_option maxRecDepth 100000 in
theorem impl_isMaybe.calls (k : Nat) (A0 : Option Addr) (c0 : Nat) (l0 : List Int) (r : Bool) (w : World) (hr0 : Kd.C (Kd.int .i64) w A0 l0.length l0) (hc0 : l0.length ≤ c0) (h : impl_isMaybe.f k l0 = some r) :
    Calls Try.prog 125 #[.slice A0 l0.length c0] w fun e w' => e = .returned (.bool r) ∧ Drawn0 w w' := by
  have HR0 := QU hr0
  have HC0 := QU hc0
  clear hr0 hc0
  have H : (if (l0.length : Int) = 0 then (some true) else ((impl_IsPattern.f k l0).bind fun t328 => (some t328))) = some r := h
  clear h
  by_cases c2 : (l0.length : Int) = 0
  · rw [if_pos c2] at H
    have c2b0 : ((l0.length : Int) == 0) = true := beq_iff_eq.mpr c2
    have c2b1 : ((l0.length : Int) != 0) = false := bne_eq_false_iff_eq.mpr c2
    clear c2
    obtain rfl := Option.some.inj H
    go_enter Try.func125, Try.ntmps125
    go_wp2
    go_ret
    exact ⟨by first | rfl | (simp; done) | (simp [*]; done), by repeat (first | exact Drawn0.refl _ | apply Drawn0.step)⟩
  · rw [if_neg c2] at H
    have c2b0 : ((l0.length : Int) == 0) = false := beq_eq_false_iff_ne.mpr c2
    have c2b1 : ((l0.length : Int) != 0) = true := bne_iff_ne.mpr c2
    have c2b2 : ¬ (l0 = []) := fun h_ => c2 (by rw [h_]; rfl)
    replace H := QV.mp H
    obtain ⟨t328, A30, H⟩ := H
    have A3 := QU A30
    clear A30
    obtain rfl := Option.some.inj H
    go_enter Try.func125, Try.ntmps125
    go_wp2_with (first | (go_at_call 126; (with_reducible refine (impl_IsPattern.calls k _ _ l0 t328 _ ?side1 ?side2 A3.out).mono ?_); (case side1 => repeat (first | exact HR0.out | (with_reducible refine Kd.C_alloc ?_ _) | (with_reducible refine Kd.C_drewN ?_ _) | (with_reducible refine Kd.C_drew ?_))); (case side2 => exact HC0.out); rintro e w' ⟨rfl, ⟨nd, rfl⟩⟩))
    go_ret
    exact ⟨by first | rfl | (simp; done) | (simp [*]; done), by repeat (first | exact Drawn0.refl _ | apply Drawn0.step)⟩

/-! ### impl_IsRules: function 64 -/
def impl_IsRules.f (k : Nat) (a0_0 : Int) (a0_1 : Int) (a0_2 : Bool) (a0_3 : Bool) (l0_4 : List Int) (l0_5 : List Int) (a0_6 : Int) (a0_7 : Int) : Option (Bool) := (impl_InRange.f a0_0 2 6).bind fun t330 => (if t330 = true then ((impl_InRange.f a0_1 1 8).bind fun t331 => (if t331 = true then (if a0_2 = true then ((impl_isMaybe.f k l0_4).bind fun t332 => (if t332 = true then ((impl_isMaybe.f k l0_5).bind fun t333 => (if t333 = true then ((impl_InRange.f a0_6 1 4).bind fun t334 => (if t334 = true then ((impl_InRange.f a0_7 1 400).bind fun t335 => (some t335)) else (some false))) else (some false))) else (some false))) else (if a0_3 = true then ((impl_isMaybe.f k l0_4).bind fun t336 => (if t336 = true then ((impl_isMaybe.f k l0_5).bind fun t337 => (if t337 = true then ((impl_InRange.f a0_6 1 4).bind fun t338 => (if t338 = true then ((impl_InRange.f a0_7 1 400).bind fun t339 => (some t339)) else (some false))) else (some false))) else (some false))) else (some false))) else (some false))) else (some false))
theorem impl_IsRules.mono : ∀ a0 a1 a2 a3 a4 a5 a6 a7 k, LeO (impl_IsRules.f k a0 a1 a2 a3 a4 a5 a6 a7) (impl_IsRules.f (k + 1) a0 a1 a2 a3 a4 a5 a6 a7) := by
  intro a0 a1 a2 a3 a4 a5 a6 a7 k
  unfold impl_IsRules.f
  repeat' first
      | (with_reducible exact impl_isMaybe.mono _ _)
      | (with_reducible exact LeO.refl _)
      | (with_reducible exact LeO.none _)
      | (with_reducible refine LeO.ite ?_ ?_)
      | (with_reducible refine LeO.bind ?_ (fun _ => ?_))
      | exact impl_isMaybe.mono _ _
      | exact LeO.none _
      | refine LeO.ite ?_ ?_
      | refine LeO.bind ?_ (fun _ => ?_)
set_option maxHeartbeats 8000000 in
set_option maxRecDepth 100000 in
theorem impl_IsRules.calls (k : Nat) (a0_0 : Int) (a0_1 : Int) (a0_2 : Bool) (a0_3 : Bool) (A0_4 : Option Addr) (c0_4 : Nat) (l0_4 : List Int) (A0_5 : Option Addr) (c0_5 : Nat) (l0_5 : List Int) (a0_6 : Int) (a0_7 : Int) (r : Bool) (w : World) (hr0_4 : Kd.C (Kd.int .i64) w A0_4 l0_4.length l0_4) (hc0_4 : l0_4.length ≤ c0_4) (hr0_5 : Kd.C (Kd.int .i64) w A0_5 l0_5.length l0_5) (hc0_5 : l0_5.length ≤ c0_5) (h : impl_IsRules.f k a0_0 a0_1 a0_2 a0_3 l0_4 l0_5 a0_6 a0_7 = some r) :
    Calls Try.prog 64 #[.agg #[.int .i64 a0_0, .int .i64 a0_1, .bool a0_2, .bool a0_3, .slice A0_4 l0_4.length c0_4, .slice A0_5 l0_5.length c0_5, .int .i64 a0_6, .int .i64 a0_7]] w fun e w' => e = .returned (.bool r) ∧ Below w.heap.size w w' := by
  have hu74 := Try.underlying74
  have HR0_4 := QU hr0_4
  have HC0_4 := QU hc0_4
  clear hr0_4 hc0_4
  have HR0_5 := QU hr0_5
  have HC0_5 := QU hc0_5
  clear hr0_5 hc0_5
  have HB := QU (Below.refl w.heap.size w)
  have H : ((impl_InRange.f a0_0 2 6).bind fun t330 => (if t330 = true then ((impl_InRange.f a0_1 1 8).bind fun t331 => (if t331 = true then (if a0_2 = true then ((impl_isMaybe.f k l0_4).bind fun t332 => (if t332 = true then ((impl_isMaybe.f k l0_5).bind fun t333 => (if t333 = true then ((impl_InRange.f a0_6 1 4).bind fun t334 => (if t334 = true then ((impl_InRange.f a0_7 1 400).bind fun t335 => (some t335)) else (some false))) else (some false))) else (some false))) else (if a0_3 = true then ((impl_isMaybe.f k l0_4).bind fun t336 => (if t336 = true then ((impl_isMaybe.f k l0_5).bind fun t337 => (if t337 = true then ((impl_InRange.f a0_6 1 4).bind fun t338 => (if t338 = true then ((impl_InRange.f a0_7 1 400).bind fun t339 => (some t339)) else (some false))) else (some false))) else (some false))) else (some false))) else (some false))) else (some false))) = some r := h
  clear h
  replace H := QV.mp H
  obtain ⟨t330, A20, H⟩ := H
  have A2 := QU A20
  clear A20
  by_cases c3 : t330 = true
  rotate_left
  replace c3 := Bool.eq_false_iff.mpr c3
  subst c3
  rw [if_neg (show ¬ (false = true) by decide)] at H
  obtain rfl := Option.some.inj H
  rotate_right
  subst c3
  rw [if_pos rfl] at H
  replace H := QV.mp H
  obtain ⟨t331, A40, H⟩ := H
  have A4 := QU A40
  clear A40
  by_cases c5 : t331 = true
  rotate_left
  replace c5 := Bool.eq_false_iff.mpr c5
  subst c5
  rw [if_neg (show ¬ (false = true) by decide)] at H
  obtain rfl := Option.some.inj H
  rotate_right
  subst c5
  rw [if_pos rfl] at H
  by_cases c6 : a0_2 = true
  rotate_left
  replace c6 := Bool.eq_false_iff.mpr c6
  subst c6
  rw [if_neg (show ¬ (false = true) by decide)] at H
  by_cases c22 : a0_3 = true
  rotate_left
  replace c22 := Bool.eq_false_iff.mpr c22
  subst c22
  rw [if_neg (show ¬ (false = true) by decide)] at H
  obtain rfl := Option.some.inj H
  rotate_right
  subst c22
  rw [if_pos rfl] at H
  replace H := QV.mp H
  obtain ⟨t332, A70, H⟩ := H
  have A7 := QU A70
  clear A70
  try (obtain rfl := Option.some.inj (A7.out.symm.trans A7.out))
  by_cases c8 : t332 = true
  rotate_left
  replace c8 := Bool.eq_false_iff.mpr c8
  subst c8
  rw [if_neg (show ¬ (false = true) by decide)] at H
  obtain rfl := Option.some.inj H
  rotate_right
  subst c8
  rw [if_pos rfl] at H
  replace H := QV.mp H
  obtain ⟨t333, A90, H⟩ := H
  have A9 := QU A90
  clear A90
  try (obtain rfl := Option.some.inj (A9.out.symm.trans A9.out))
  by_cases c10 : t333 = true
  rotate_left
  replace c10 := Bool.eq_false_iff.mpr c10
  subst c10
  rw [if_neg (show ¬ (false = true) by decide)] at H
  obtain rfl := Option.some.inj H
  rotate_right
  subst c10
  rw [if_pos rfl] at H
  replace H := QV.mp H
  obtain ⟨t334, A110, H⟩ := H
  have A11 := QU A110
  clear A110
  try (obtain rfl := Option.some.inj (A11.out.symm.trans A11.out))
  by_cases c12 : t334 = true
  rotate_left
  replace c12 := Bool.eq_false_iff.mpr c12
  subst c12
  rw [if_neg (show ¬ (false = true) by decide)] at H
  obtain rfl := Option.some.inj H
  rotate_right
  subst c12
  rw [if_pos rfl] at H
  replace H := QV.mp H
  obtain ⟨t335, A130, H⟩ := H
  have A13 := QU A130
  clear A130
  try (obtain rfl := Option.some.inj (A13.out.symm.trans A13.out))
  obtain rfl := Option.some.inj H
  rotate_right
  subst c6
  rw [if_pos rfl] at H
  replace H := QV.mp H
  obtain ⟨t332, A70, H⟩ := H
  have A7 := QU A70
  clear A70
  by_cases c8 : t332 = true
  rotate_left
  replace c8 := Bool.eq_false_iff.mpr c8
  subst c8
  rw [if_neg (show ¬ (false = true) by decide)] at H
  obtain rfl := Option.some.inj H
  rotate_right
  subst c8
  rw [if_pos rfl] at H
  replace H := QV.mp H
  obtain ⟨t333, A90, H⟩ := H
  have A9 := QU A90
  clear A90
  by_cases c10 : t333 = true
  rotate_left
  replace c10 := Bool.eq_false_iff.mpr c10
  subst c10
  rw [if_neg (show ¬ (false = true) by decide)] at H
  obtain rfl := Option.some.inj H
  rotate_right
  subst c10
  rw [if_pos rfl] at H
  replace H := QV.mp H
  obtain ⟨t334, A110, H⟩ := H
  have A11 := QU A110
  clear A110
  by_cases c12 : t334 = true
  rotate_left
  replace c12 := Bool.eq_false_iff.mpr c12
  subst c12
  rw [if_neg (show ¬ (false = true) by decide)] at H
  obtain rfl := Option.some.inj H
  rotate_right
  subst c12
  rw [if_pos rfl] at H
  replace H := QV.mp H
  obtain ⟨t335, A130, H⟩ := H
  have A13 := QU A130
  clear A130
  obtain rfl := Option.some.inj H
  all_goals
    go_enter Try.func64, Try.ntmps64
    go_wp2_with (first | ((with_reducible refine gate_dst (N := 1) rfl ?_); refine box_event ?hg (N := 1) ?hd (cs := #[.int .i64 a0_0, .int .i64 a0_1, .bool _, .bool _, .slice A0_4 l0_4.length c0_4, .slice A0_5 l0_5.length c0_5, .int .i64 a0_6, .int .i64 a0_7]) (t := 74) ?hr ?_; (case hd => rfl); (case hg => rfl); (case hr => first | (go_simp; done) | (go_simp; rfl)); intro gb329 hg w30 hbox hb; have n0_ := QU (below_step (by repeat (first | (with_reducible first | exact HB.out | apply QE | apply QB | apply QC) | exact HB.out)) hb); have n1_ := QU (hbox); have n2_ := QU ((by rw [hg]; exact (below_size (by repeat (first | (with_reducible first | exact HB.out | apply QE | apply QB | apply QC) | exact HB.out))) : w.heap.size ≤ gb329)); have n3_ := QU ((by rw [hg]; exact (below_size (by repeat (first | (with_reducible first | exact HB.out | apply QE | apply QB | apply QC) | exact HB.out))) : w.heap.size ≤ gb329)); clear HB; have HB := n0_; have BK329 := n1_; have GW329 := n2_; have GE329 := n3_; clear n0_ n1_ n2_ n3_; clear hb hbox hg; have hcz31_0 : w30.cell? ⟨gb329, 0, none⟩ = some (.int .i64 a0_0) := (QK BK329.out 0).trans rfl; have hcz31_1 : w30.cell? ⟨gb329, 1, none⟩ = some (.int .i64 a0_1) := (QK BK329.out 1).trans rfl; have hcz31_2 : w30.cell? ⟨gb329, 2, none⟩ = some (.bool _) := (QK BK329.out 2).trans rfl; have hcz31_3 : w30.cell? ⟨gb329, 3, none⟩ = some (.bool _) := (QK BK329.out 3).trans rfl; have hcz31_4 : w30.cell? ⟨gb329, 4, none⟩ = some (.slice A0_4 l0_4.length c0_4) := (QK BK329.out 4).trans rfl; have hcz31_5 : w30.cell? ⟨gb329, 5, none⟩ = some (.slice A0_5 l0_5.length c0_5) := (QK BK329.out 5).trans rfl; have hcz31_6 : w30.cell? ⟨gb329, 6, none⟩ = some (.int .i64 a0_6) := (QK BK329.out 6).trans rfl; have hcz31_7 : w30.cell? ⟨gb329, 7, none⟩ = some (.int .i64 a0_7) := (QK BK329.out 7).trans rfl; have hfz31_0 := QO BK329.out 0; have hfz31_1 := QO BK329.out 1; have hfz31_2 := QO BK329.out 2; have hfz31_3 := QO BK329.out 3; have hfz31_4 := QO BK329.out 4; have hfz31_5 := QO BK329.out 5; have hfz31_6 := QO BK329.out 6; have hfz31_7 := QO BK329.out 7) | ((with_reducible refine QM (f := 99) rfl ?_); refine goesL_ (some 5) rfl rfl Try.func99 (by kernel_rfl) rfl #[.int .i64 a0_0, .int .i64 2, .int .i64 6] rfl (by (try simp only [List.map_toArray, List.map_cons, List.map_nil]); first | done | rfl | (simp only [List.length_drop, List.length_take]; rfl)) ?_; (with_reducible refine (impl_InRange.calls a0_0 2 6 _ _ A2.out).mono ?_); rintro e w' ⟨rfl, ⟨nd, rfl⟩⟩; refine ⟨_, rfl, ?_⟩) | (go_at_call 99; (with_reducible refine (impl_InRange.calls a0_1 1 8 _ _ A4.out).mono ?_); rintro e w' ⟨rfl, ⟨nd, rfl⟩⟩) | (go_at_call 125; (with_reducible refine (impl_isMaybe.calls k _ _ l0_4 _ _ ?side1 ?side2 A7.out).mono ?_); (case side1 => repeat (first | exact (Kd.C_below HR0_4.out (by repeat (first | (with_reducible first | exact HB.out | apply QE | apply QB | apply QC | refine QP ?_ GE329.out) | exact HB.out))) | (with_reducible refine Kd.C_alloc ?_ _) | (with_reducible refine Kd.C_drewN ?_ _) | (with_reducible refine Kd.C_drew ?_))); (case side2 => exact HC0_4.out); rintro e w' ⟨rfl, ⟨nd, rfl⟩⟩) | (go_at_call 125; (with_reducible refine (impl_isMaybe.calls k _ _ l0_5 _ _ ?side1 ?side2 A9.out).mono ?_); (case side1 => repeat (first | exact (Kd.C_below HR0_5.out (by repeat (first | (with_reducible first | exact HB.out | apply QE | apply QB | apply QC | refine QP ?_ GE329.out) | exact HB.out))) | (with_reducible refine Kd.C_alloc ?_ _) | (with_reducible refine Kd.C_drewN ?_ _) | (with_reducible refine Kd.C_drew ?_))); (case side2 => exact HC0_5.out); rintro e w' ⟨rfl, ⟨nd, rfl⟩⟩) | (go_at_call 99; (with_reducible refine (impl_InRange.calls a0_6 1 4 _ _ A11.out).mono ?_); rintro e w' ⟨rfl, ⟨nd, rfl⟩⟩) | (go_at_call 99; (with_reducible refine (impl_InRange.calls a0_7 1 400 t335 _ A13.out).mono ?_); rintro e w' ⟨rfl, ⟨nd, rfl⟩⟩))
    go_ret
    exact ⟨by first | rfl | (simp [errW_none, errW_some] <;> rfl) | (simp [*, errW_none, errW_some] <;> rfl), by repeat (first | (with_reducible first | exact HB.out | apply QE | apply QB | apply QC | refine QP ?_ GE329.out) | exact HB.out)⟩

/-! ### impl_RankOf: function 91 -/
def impl_RankOf.f (a0 : Int) : Option (Int) := (impl_IsCard.f a0).bind fun t340 => (if t340 = true then (some (Int.tmod a0 13)) else (some (-1)))
set_option maxHeartbeats 8000000 in
set_option maxRecDepth 100000 in
theorem impl_RankOf.calls (a0 : Int) (r : Int) (w : World) (h : impl_RankOf.f a0 = some r) :
    Calls Try.prog 91 #[.int .i64 a0] w fun e w' => e = .returned (.int .i64 r) ∧ Drawn0 w w' := by
  have H : ((impl_IsCard.f a0).bind fun t340 => (if t340 = true then (some (Int.tmod a0 13)) else (some (-1)))) = some r := h
  clear h
  replace H := QV.mp H
  obtain ⟨t340, A20, H⟩ := H
  have A2 := QU A20
  clear A20
  by_cases c3 : t340 = true
  · subst c3
    rw [if_pos rfl] at H
    obtain rfl := Option.some.inj H
    go_enter Try.func91, Try.ntmps91
    go_wp2_with (first | ((with_reducible refine QM (f := 46) rfl ?_); refine goesL_ (some 4) rfl rfl Try.func46 (by kernel_rfl) rfl #[.int .i64 a0] rfl (by (try simp only [List.map_toArray, List.map_cons, List.map_nil]); first | done | rfl | (simp only [List.length_drop, List.length_take]; rfl)) ?_; (with_reducible refine (impl_IsCard.calls a0 true _ A2.out).mono ?_); rintro e w' ⟨rfl, ⟨nd, rfl⟩⟩; refine ⟨_, rfl, ?_⟩))
    go_ret
    exact ⟨by first | rfl | (simp; done) | (simp [*]; done), by repeat (first | exact Drawn0.refl _ | apply Drawn0.step)⟩
  · replace c3 := Bool.eq_false_iff.mpr c3
    subst c3
    rw [if_neg (show ¬ (false = true) by decide)] at H
    obtain rfl := Option.some.inj H
    go_enter Try.func91, Try.ntmps91
    go_wp2_with (first | ((with_reducible refine QM (f := 46) rfl ?_); refine goesL_ (some 4) rfl rfl Try.func46 (by kernel_rfl) rfl #[.int .i64 a0] rfl (by (try simp only [List.map_toArray, List.map_cons, List.map_nil]); first | done | rfl | (simp only [List.length_drop, List.length_take]; rfl)) ?_; (with_reducible refine (impl_IsCard.calls a0 false _ A2.out).mono ?_); rintro e w' ⟨rfl, ⟨nd, rfl⟩⟩; refine ⟨_, rfl, ?_⟩))
    go_ret
    exact ⟨by first | rfl | (simp; done) | (simp [*]; done), by repeat (first | exact Drawn0.refl _ | apply Drawn0.step)⟩

/-! ### impl_SuitOf: function 95 -/
def impl_SuitOf.f (a0 : Int) : Option (Int) := (impl_IsCard.f a0).bind fun t341 => (if t341 = true then (some (wrap64 (Int.tdiv a0 13))) else (some (-1)))
set_option maxHeartbeats 8000000 in
set_option maxRecDepth 100000 in
theorem impl_SuitOf.calls (a0 : Int) (r : Int) (w : World) (h : impl_SuitOf.f a0 = some r) :
    Calls Try.prog 95 #[.int .i64 a0] w fun e w' => e = .returned (.int .i64 r) ∧ Drawn0 w w' := by
  have H : ((impl_IsCard.f a0).bind fun t341 => (if t341 = true then (some (wrap64 (Int.tdiv a0 13))) else (some (-1)))) = some r := h
  clear h
  replace H := QV.mp H
  obtain ⟨t341, A20, H⟩ := H
  have A2 := QU A20
  clear A20
  by_cases c3 : t341 = true
  · subst c3
    rw [if_pos rfl] at H
    obtain rfl := Option.some.inj H
    go_enter Try.func95, Try.ntmps95
    go_wp2_with (first | ((with_reducible refine QM (f := 46) rfl ?_); refine goesL_ (some 4) rfl rfl Try.func46 (by kernel_rfl) rfl #[.int .i64 a0] rfl (by (try simp only [List.map_toArray, List.map_cons, List.map_nil]); first | done | rfl | (simp only [List.length_drop, List.length_take]; rfl)) ?_; (with_reducible refine (impl_IsCard.calls a0 true _ A2.out).mono ?_); rintro e w' ⟨rfl, ⟨nd, rfl⟩⟩; refine ⟨_, rfl, ?_⟩))
    go_ret
    exact ⟨by first | rfl | (simp; done) | (simp [*]; done), by repeat (first | exact Drawn0.refl _ | apply Drawn0.step)⟩
  · replace c3 := Bool.eq_false_iff.mpr c3
    subst c3
    rw [if_neg (show ¬ (false = true) by decide)] at H
    obtain rfl := Option.some.inj H
    go_enter Try.func95, Try.ntmps95
    go_wp2_with (first | ((with_reducible refine QM (f := 46) rfl ?_); refine goesL_ (some 4) rfl rfl Try.func46 (by kernel_rfl) rfl #[.int .i64 a0] rfl (by (try simp only [List.map_toArray, List.map_cons, List.map_nil]); first | done | rfl | (simp only [List.length_drop, List.length_take]; rfl)) ?_; (with_reducible refine (impl_IsCard.calls a0 false _ A2.out).mono ?_); rintro e w' ⟨rfl, ⟨nd, rfl⟩⟩; refine ⟨_, rfl, ?_⟩))
    go_ret
    exact ⟨by first | rfl | (simp; done) | (simp [*]; done), by repeat (first | exact Drawn0.refl _ | apply Drawn0.step)⟩

/-! ### impl_IsRed: function 98 -/
def impl_IsRed.f (a0 : Int) : Option (Bool) := (impl_SuitOf.f a0).bind fun t342 => (if t342 = 1 then (some true) else ((impl_SuitOf.f a0).bind fun t343 => (some (t343 == 2))))
set_option maxHeartbeats 8000000 in
set_option maxRecDepth 100000 in
theorem impl_IsRed.calls (a0 : Int) (r : Bool) (w : World) (h : impl_IsRed.f a0 = some r) :
    Calls Try.prog 98 #[.int .i64 a0] w fun e w' => e = .returned (.bool r) ∧ Drawn0 w w' := by
  have H : ((impl_SuitOf.f a0).bind fun t342 => (if t342 = 1 then (some true) else ((impl_SuitOf.f a0).bind fun t343 => (some (t343 == 2))))) = some r := h
  clear h
  replace H := QV.mp H
  obtain ⟨t342, A20, H⟩ := H
  have A2 := QU A20
  clear A20
  by_cases c3 : t342 = 1
  · rw [if_pos c3] at H
    have c3b0 : (t342 == 1) = true := beq_iff_eq.mpr c3
    have c3b1 : (t342 != 1) = false := bne_eq_false_iff_eq.mpr c3
    clear c3
    obtain rfl := Option.some.inj H
    go_enter Try.func98, Try.ntmps98
    go_wp2_with (first | ((with_reducible refine QM (f := 95) rfl ?_); refine goesL_ (some 4) rfl rfl Try.func95 (by kernel_rfl) rfl #[.int .i64 a0] rfl (by (try simp only [List.map_toArray, List.map_cons, List.map_nil]); first | done | rfl | (simp only [List.length_drop, List.length_take]; rfl)) ?_; (with_reducible refine (impl_SuitOf.calls a0 t342 _ A2.out).mono ?_); rintro e w' ⟨rfl, ⟨nd, rfl⟩⟩; refine ⟨_, rfl, ?_⟩))
    go_ret
    exact ⟨by first | rfl | (simp; done) | (simp [*]; done), by repeat (first | exact Drawn0.refl _ | apply Drawn0.step)⟩
  · rw [if_neg c3] at H
    have c3b0 : (t342 == 1) = false := beq_eq_false_iff_ne.mpr c3
    have c3b1 : (t342 != 1) = true := bne_iff_ne.mpr c3
    replace H := QV.mp H
    obtain ⟨t343, A40, H⟩ := H
    have A4 := QU A40
    clear A40
    try (obtain rfl := Option.some.inj (A4.out.symm.trans A2.out))
    obtain rfl := Option.some.inj H
    go_enter Try.func98, Try.ntmps98
    go_wp2_with (first | ((with_reducible refine QM (f := 95) rfl ?_); refine goesL_ (some 4) rfl rfl Try.func95 (by kernel_rfl) rfl #[.int .i64 a0] rfl (by (try simp only [List.map_toArray, List.map_cons, List.map_nil]); first | done | rfl | (simp only [List.length_drop, List.length_take]; rfl)) ?_; (with_reducible refine (impl_SuitOf.calls a0 t342 _ A2.out).mono ?_); rintro e w' ⟨rfl, ⟨nd, rfl⟩⟩; refine ⟨_, rfl, ?_⟩) | (go_at_call 95; (with_reducible refine (impl_SuitOf.calls a0 t343 _ A4.out).mono ?_); rintro e w' ⟨rfl, ⟨nd, rfl⟩⟩))
    go_ret
    exact ⟨by first | rfl | (simp; done) | (simp [*]; done), by repeat (first | exact Drawn0.refl _ | apply Drawn0.step)⟩

/-! ### impl_asks: function 127 -/
def impl_asks.f (a0 : Int) (a1 : Int) : Option (Bool) := if a0 = 400 then ((impl_IsRed.f a1).bind fun t344 => (some t344)) else (if a0 ≥ 300 then ((impl_RankOf.f a1).bind fun t345 => (some (decide (t345 ≥ (wrap64 (a0 - 300)))))) else (if a0 ≥ 200 then ((impl_RankOf.f a1).bind fun t346 => (some (t346 == (wrap64 (a0 - 200))))) else ((impl_SuitOf.f a1).bind fun t347 => (some (t347 == (wrap64 (a0 - 100)))))))
set_option maxHeartbeats 8000000 in
set_option maxRecDepth 100000 in
theorem impl_asks.calls (a0 : Int) (a1 : Int) (r : Bool) (w : World) (h : impl_asks.f a0 a1 = some r) :
    Calls Try.prog 127 #[.int .i64 a0, .int .i64 a1] w fun e w' => e = .returned (.bool r) ∧ Drawn0 w w' := by
  have H : (if a0 = 400 then ((impl_IsRed.f a1).bind fun t344 => (some t344)) else (if a0 ≥ 300 then ((impl_RankOf.f a1).bind fun t345 => (some (decide (t345 ≥ (wrap64 (a0 - 300)))))) else (if a0 ≥ 200 then ((impl_RankOf.f a1).bind fun t346 => (some (t346 == (wrap64 (a0 - 200))))) else ((impl_SuitOf.f a1).bind fun t347 => (some (t347 == (wrap64 (a0 - 100)))))))) = some r := h
  clear h
  by_cases c3 : a0 = 400
  · rw [if_pos c3] at H
    have c3b0 : (a0 == 400) = true := beq_iff_eq.mpr c3
    have c3b1 : (a0 != 400) = false := bne_eq_false_iff_eq.mpr c3
    clear c3
    replace H := QV.mp H
    obtain ⟨t344, A40, H⟩ := H
    have A4 := QU A40
    clear A40
    obtain rfl := Option.some.inj H
    go_enter Try.func127, Try.ntmps127
    go_wp2_with (first | ((with_reducible refine QM (f := 98) rfl ?_); refine goesL_ (some 9) rfl rfl Try.func98 (by kernel_rfl) rfl #[.int .i64 a1] rfl (by (try simp only [List.map_toArray, List.map_cons, List.map_nil]); first | done | rfl | (simp only [List.length_drop, List.length_take]; rfl)) ?_; (with_reducible refine (impl_IsRed.calls a1 t344 _ A4.out).mono ?_); rintro e w' ⟨rfl, ⟨nd, rfl⟩⟩; refine ⟨_, rfl, ?_⟩))
    go_ret
    exact ⟨by first | rfl | (simp; done) | (simp [*]; done), by repeat (first | exact Drawn0.refl _ | apply Drawn0.step)⟩
  · rw [if_neg c3] at H
    have c3b0 : (a0 == 400) = false := beq_eq_false_iff_ne.mpr c3
    have c3b1 : (a0 != 400) = true := bne_iff_ne.mpr c3
    by_cases c5 : a0 ≥ 300
    · rw [if_pos c5] at H
      have c5b0 : decide (300 ≤ a0) = true := decide_eq_true c5
      clear c5
      replace H := QV.mp H
      obtain ⟨t345, A60, H⟩ := H
      have A6 := QU A60
      clear A60
      obtain rfl := Option.some.inj H
      go_enter Try.func127, Try.ntmps127
      go_wp2_with (first | ((with_reducible refine QM (f := 91) rfl ?_); refine goesL_ (some 14) rfl rfl Try.func91 (by kernel_rfl) rfl #[.int .i64 a1] rfl (by (try simp only [List.map_toArray, List.map_cons, List.map_nil]); first | done | rfl | (simp only [List.length_drop, List.length_take]; rfl)) ?_; (with_reducible refine (impl_RankOf.calls a1 t345 _ A6.out).mono ?_); rintro e w' ⟨rfl, ⟨nd, rfl⟩⟩; refine ⟨_, rfl, ?_⟩))
      go_ret
      exact ⟨by first | rfl | (simp; done) | (simp [*]; done), by repeat (first | exact Drawn0.refl _ | apply Drawn0.step)⟩
    · rw [if_neg c5] at H
      have c5b0 : decide (300 ≤ a0) = false := decide_eq_false c5
      clear c5
      by_cases c7 : a0 ≥ 200
      · rw [if_pos c7] at H
        have c7b0 : decide (200 ≤ a0) = true := decide_eq_true c7
        clear c7
        replace H := QV.mp H
        obtain ⟨t346, A80, H⟩ := H
        have A8 := QU A80
        clear A80
        try (obtain rfl := Option.some.inj (A8.out.symm.trans A6.out))
        obtain rfl := Option.some.inj H
        go_enter Try.func127, Try.ntmps127
        go_wp2_with (first | ((with_reducible refine QM (f := 91) rfl ?_); refine goesL_ (some 22) rfl rfl Try.func91 (by kernel_rfl) rfl #[.int .i64 a1] rfl (by (try simp only [List.map_toArray, List.map_cons, List.map_nil]); first | done | rfl | (simp only [List.length_drop, List.length_take]; rfl)) ?_; (with_reducible refine (impl_RankOf.calls a1 t346 _ A8.out).mono ?_); rintro e w' ⟨rfl, ⟨nd, rfl⟩⟩; refine ⟨_, rfl, ?_⟩))
        go_ret
        exact ⟨by first | rfl | (simp; done) | (simp [*]; done), by repeat (first | exact Drawn0.refl _ | apply Drawn0.step)⟩
      · rw [if_neg c7] at H
        have c7b0 : decide (200 ≤ a0) = false := decide_eq_false c7
        clear c7
        replace H := QV.mp H
        obtain ⟨t347, A90, H⟩ := H
        have A9 := QU A90
        clear A90
        obtain rfl := Option.some.inj H
        go_enter Try.func127, Try.ntmps127
        go_wp2_with (first | ((with_reducible refine QM (f := 95) rfl ?_); refine goesL_ (some 27) rfl rfl Try.func95 (by kernel_rfl) rfl #[.int .i64 a1] rfl (by (try simp only [List.map_toArray, List.map_cons, List.map_nil]); first | done | rfl | (simp only [List.length_drop, List.length_take]; rfl)) ?_; (with_reducible refine (impl_SuitOf.calls a1 t347 _ A9.out).mono ?_); rintro e w' ⟨rfl, ⟨nd, rfl⟩⟩; refine ⟨_, rfl, ?_⟩))
        go_ret
        exact ⟨by first | rfl | (simp; done) | (simp [*]; done), by repeat (first | exact Drawn0.refl _ | apply Drawn0.step)⟩

/-! ### impl_Matches: function 65 -/
mutual
def impl_Matches.j0 : Nat → List Int → Int → Bool → Option (Bool)
  | 0, _, _, _ => none
  | k + 1, x0, x1, x16 => if x16 = true then (some false) else (impl_Matches.l0 k x1 (([] : List Bool)) x0 (x0.length : Int) 0)
def impl_Matches.l0 : Nat → Int → List Bool → List Int → Int → Int → Option (Bool)
  | 0, _, _, _, _, _ => none
  | k + 1, x1, x5, x18, x19, x20 => if x20 < x19 then (if 0 ≤ x20 then (if x20 < (x18.length : Int) then (if (rd x18 x20) = (-1) then (if 0 ≤ (wrap64 ((x5.length : Int) - 1)) then (if (wrap64 ((x5.length : Int) - 1)) < (x5.length : Int) then (impl_Matches.l0 k x1 (x5.set ((wrap64 ((x5.length : Int) - 1)) : Int).toNat (!(rdOf false x5 (wrap64 ((x5.length : Int) - 1))))) x18 x19 (wrap64 (x20 + 1))) else (none)) else (none)) else (if (rd x18 x20) = (-2) then (if 0 ≤ (wrap64 ((x5.length : Int) - 2)) then (if (wrap64 ((x5.length : Int) - 2)) < (x5.length : Int) then (if rdOf false x5 (wrap64 ((x5.length : Int) - 2)) = true then (if 0 ≤ (wrap64 ((x5.length : Int) - 1)) then (if (wrap64 ((x5.length : Int) - 1)) < (x5.length : Int) then (if (wrap64 ((x5.length : Int) - 2)) ≤ (x5.length : Int) then ((some (x5.take ((wrap64 ((x5.length : Int) - 2)) : Int).toNat : List Bool)).bind fun y359 => (if y359.length < 140737488355328 then (impl_Matches.l0 k x1 (y359 ++ [rdOf false x5 (wrap64 ((x5.length : Int) - 1))]) x18 x19 (wrap64 (x20 + 1))) else (none))) else (none)) else (none)) else (none)) else (if (wrap64 ((x5.length : Int) - 2)) ≤ (x5.length : Int) then ((some (x5.take ((wrap64 ((x5.length : Int) - 2)) : Int).toNat : List Bool)).bind fun y365 => (if y365.length < 140737488355328 then (impl_Matches.l0 k x1 (y365 ++ [false]) x18 x19 (wrap64 (x20 + 1))) else (none))) else (none))) else (none)) else (none)) else (if (rd x18 x20) = (-3) then (if 0 ≤ (wrap64 ((x5.length : Int) - 2)) then (if (wrap64 ((x5.length : Int) - 2)) < (x5.length : Int) then (if rdOf false x5 (wrap64 ((x5.length : Int) - 2)) = true then (if (wrap64 ((x5.length : Int) - 2)) ≤ (x5.length : Int) then ((some (x5.take ((wrap64 ((x5.length : Int) - 2)) : Int).toNat : List Bool)).bind fun y372 => (if y372.length < 140737488355328 then (impl_Matches.l0 k x1 (y372 ++ [true]) x18 x19 (wrap64 (x20 + 1))) else (none))) else (none)) else (if 0 ≤ (wrap64 ((x5.length : Int) - 1)) then (if (wrap64 ((x5.length : Int) - 1)) < (x5.length : Int) then (if (wrap64 ((x5.length : Int) - 2)) ≤ (x5.length : Int) then ((some (x5.take ((wrap64 ((x5.length : Int) - 2)) : Int).toNat : List Bool)).bind fun y379 => (if y379.length < 140737488355328 then (impl_Matches.l0 k x1 (y379 ++ [rdOf false x5 (wrap64 ((x5.length : Int) - 1))]) x18 x19 (wrap64 (x20 + 1))) else (none))) else (none)) else (none)) else (none))) else (none)) else (none)) else ((impl_asks.f (rd x18 x20) x1).bind fun t385 => (if x5.length < 140737488355328 then (impl_Matches.l0 k x1 (x5 ++ [t385]) x18 x19 (wrap64 (x20 + 1))) else (none)))))) else (none)) else (none)) else (if 0 < (x5.length : Int) then (some (rdOf false x5 0)) else (none))
end
def impl_Matches.f (k : Nat) (l0 : List Int) (a1 : Int) : Option (Bool) := (impl_IsPattern.f k l0).bind fun t348 => (if t348 = true then ((impl_IsCard.f a1).bind fun t349 => (impl_Matches.j0 k l0 a1 (!t349))) else (impl_Matches.j0 k l0 a1 true))
theorem impl_Matches.mono_l : ∀ k, (∀ y0 y1 y2, LeO (impl_Matches.j0 k y0 y1 y2) (impl_Matches.j0 (k + 1) y0 y1 y2)) ∧ (∀ y0 y1 y2 y3 y4, LeO (impl_Matches.l0 k y0 y1 y2 y3 y4) (impl_Matches.l0 (k + 1) y0 y1 y2 y3 y4))
  | 0 => ⟨fun _ _ _ r h => by simp [impl_Matches.j0] at h, fun _ _ _ _ _ r h => by simp [impl_Matches.l0] at h⟩
  | k + 1 => by
    obtain ⟨ih0, ih1⟩ := impl_Matches.mono_l k
    refine ⟨?_, ?_⟩
    · intro y0 y1 y2
      unfold impl_Matches.j0
      repeat' first
      | (with_reducible exact ih0 _ _ _)
      | (with_reducible exact ih1 _ _ _ _ _)
      | (with_reducible exact impl_IsPattern.mono _ _)
      | (with_reducible exact LeO.refl _)
      | (with_reducible exact LeO.none _)
      | (with_reducible refine LeO.ite ?_ ?_)
      | (with_reducible refine LeO.bind ?_ (fun _ => ?_))
      | exact ih0 _ _ _
      | exact ih1 _ _ _ _ _
      | exact impl_IsPattern.mono _ _
      | exact LeO.none _
      | refine LeO.ite ?_ ?_
      | refine LeO.bind ?_ (fun _ => ?_)
    · intro y0 y1 y2 y3 y4
      unfold impl_Matches.l0
      repeat' first
      | (with_reducible exact ih0 _ _ _)
      | (with_reducible exact ih1 _ _ _ _ _)
      | (with_reducible exact impl_IsPattern.mono _ _)
      | (with_reducible exact LeO.refl _)
      | (with_reducible exact LeO.none _)
      | (with_reducible refine LeO.ite ?_ ?_)
      | (with_reducible refine LeO.bind ?_ (fun _ => ?_))
      | exact ih0 _ _ _
      | exact ih1 _ _ _ _ _
      | exact impl_IsPattern.mono _ _
      | exact LeO.none _
      | refine LeO.ite ?_ ?_
      | refine LeO.bind ?_ (fun _ => ?_)
theorem impl_Matches.mono : ∀ a0 a1 k, LeO (impl_Matches.f k a0 a1) (impl_Matches.f (k + 1) a0 a1) := by
  intro a0 a1 k
  obtain ⟨ih0, ih1⟩ := impl_Matches.mono_l k
  unfold impl_Matches.f
  repeat' first
      | (with_reducible exact ih0 _ _ _)
      | (with_reducible exact ih1 _ _ _ _ _)
      | (with_reducible exact impl_IsPattern.mono _ _)
      | (with_reducible exact LeO.refl _)
      | (with_reducible exact LeO.none _)
      | (with_reducible refine LeO.ite ?_ ?_)
      | (with_reducible refine LeO.bind ?_ (fun _ => ?_))
      | exact ih0 _ _ _
      | exact ih1 _ _ _ _ _
      | exact impl_IsPattern.mono _ _
      | exact LeO.none _
      | refine LeO.ite ?_ ?_
      | refine LeO.bind ?_ (fun _ => ?_)
def impl_Matches.T13 : Bool × List (List Nat × List Nat) := (true, [([], []), ([], []), ([1], [1]), ([0, 2], [0, 2]), ([], []), ([], []), ([5], [5]), ([4, 6], [4, 6]), ([7], [7]), ([8], [8]), ([9], [9]), ([9], [9]), ([11, 9], [9, 11]), ([10, 12, 9], [9, 10, 12]), ([13, 9], [9, 13]), ([9, 14], [9, 14]), ([15], [15]), ([3, 16, 9], [3, 16]), ([17, 17, 0, 1, 2, 3, 4, 5, 6, 7, 8, 9, 10, 11, 12, 13, 14, 15, 16, 17], [0, 4, 10, 17])])
def impl_Matches.B13 : List Nat := [0, 0, 2, 7, 0, 0, 32, 112, 240, 496, 1008, 1008, 3056, 8176, 16368, 32752, 65520, 131071, 262143]
theorem impl_Matches.tab13 : rtab .any (opsOf Try.f65 13) = impl_Matches.T13 := by kernel_rfl
theorem impl_Matches.bits13 : waitsOk impl_Matches.T13.2 impl_Matches.B13 = true := by kernel_rfl
def impl_Matches.T15 : Bool × List (List Nat × List Nat) := (true, [([], []), ([], []), ([1], [1]), ([0, 2], [0, 2]), ([], []), ([], []), ([5], [5]), ([4, 6], [4, 6]), ([7], [7]), ([8], [8]), ([9], [9]), ([9], [9]), ([11, 9], [9, 11]), ([10, 12, 9], [9, 10, 12]), ([13, 9], [9, 13]), ([9, 14], [9, 14]), ([15], [15]), ([3, 16, 9], [3, 16]), ([17, 17, 0, 1, 2, 3, 4, 5, 6, 7, 8, 9, 10, 11, 12, 13, 14, 15, 16, 17], [0, 4, 10, 17])])
def impl_Matches.B15 : List Nat := [0, 0, 2, 7, 0, 0, 32, 112, 240, 496, 1008, 1008, 3056, 8176, 16368, 32752, 65520, 131071, 262143]
theorem impl_Matches.tab15 : rtab .any (opsOf Try.f65 15) = impl_Matches.T15 := by kernel_rfl
theorem impl_Matches.bits15 : waitsOk impl_Matches.T15.2 impl_Matches.B15 = true := by kernel_rfl
set_option maxHeartbeats 8000000 in
set_option maxRecDepth 100000 in
theorem impl_Matches.calls (k : Nat) (A0 : Option Addr) (c0 : Nat) (l0 : List Int) (a1 : Int) (r : Bool) (w : World) (hr0 : Kd.C (Kd.int .i64) w A0 l0.length l0) (hc0 : l0.length ≤ c0) (h : impl_Matches.f k l0 a1 = some r) :
    Calls Try.prog 65 #[.slice A0 l0.length c0, .int .i64 a1] w fun e w' => e = .returned (.bool r) ∧ Below w.heap.size w w' := by
  have HR0 := QU hr0
  have HC0 := QU hc0
  clear hr0 hc0
  have HB := QU (Below.refl w.heap.size w)
  have H : ((impl_IsPattern.f k l0).bind fun t348 => (if t348 = true then ((impl_IsCard.f a1).bind fun t349 => (impl_Matches.j0 k l0 a1 (!t349))) else (impl_Matches.j0 k l0 a1 true))) = some r := h
  clear h
  have HC3 := QU H
  clear H
  go_enter Try.func65, Try.ntmps65
  go_upto_region 1 with (fail)
  go_cut [16] (fun v16 wc => ∃ (kq : Nat) (x16_2 : Bool), v16 = .bool x16_2 ∧ Aside0 (impl_Matches.j0 kq l0 a1 x16_2 = some r) ∧ Aside0 (kq ≤ k) ∧ Aside0 (Below w.heap.size w wc))
  case first =>
    have H := HC3.out
    clear HC3
    replace H := QV.mp H
    obtain ⟨t348, A40, H⟩ := H
    have A4 := QU A40
    clear A40
    by_cases c5 : t348 = true
    · subst c5
      rw [if_pos rfl] at H
      replace H := QV.mp H
      obtain ⟨t349, A60, H⟩ := H
      have A6 := QU A60
      clear A60
      have H' := QU H
      clear H
      go_wp2_with (first | ((with_reducible refine QM (f := 126) rfl ?_); refine goesL_ (some 10) rfl rfl Try.func126 (by kernel_rfl) rfl #[.slice A0 l0.length c0] rfl (by (try simp only [List.map_toArray, List.map_cons, List.map_nil]); first | done | rfl | (simp only [List.length_drop, List.length_take]; rfl)) ?_; (with_reducible refine (impl_IsPattern.calls k _ _ l0 true _ ?side1 ?side2 A4.out).mono ?_); (case side1 => repeat (first | exact (Kd.C_below HR0.out HB.out) | (with_reducible refine Kd.C_alloc ?_ _) | (with_reducible refine Kd.C_drewN ?_ _) | (with_reducible refine Kd.C_drew ?_))); (case side2 => exact HC0.out); rintro e w' ⟨rfl, ⟨nd, rfl⟩⟩; refine ⟨_, rfl, ?_⟩) | (go_at_call 46; (with_reducible refine (impl_IsCard.calls a1 t349 _ A6.out).mono ?_); rintro e w' ⟨rfl, ⟨nd, rfl⟩⟩))
      go_meet
      case rel => exact ⟨_, (!t349), (by first | rfl | (simp; done) | (simp [*]; done)), H', ⟨by first | omega | exact Nat.le_refl _⟩, ⟨by repeat (first | (with_reducible first | exact HB.out | apply QE | apply QB | apply QC) | exact HB.out)⟩⟩
    · replace c5 := Bool.eq_false_iff.mpr c5
      subst c5
      rw [if_neg (show ¬ (false = true) by decide)] at H
      have H' := QU H
      clear H
      go_wp2_with (first | ((with_reducible refine QM (f := 126) rfl ?_); refine goesL_ (some 10) rfl rfl Try.func126 (by kernel_rfl) rfl #[.slice A0 l0.length c0] rfl (by (try simp only [List.map_toArray, List.map_cons, List.map_nil]); first | done | rfl | (simp only [List.length_drop, List.length_take]; rfl)) ?_; (with_reducible refine (impl_IsPattern.calls k _ _ l0 false _ ?side1 ?side2 A4.out).mono ?_); (case side1 => repeat (first | exact (Kd.C_below HR0.out HB.out) | (with_reducible refine Kd.C_alloc ?_ _) | (with_reducible refine Kd.C_drewN ?_ _) | (with_reducible refine Kd.C_drew ?_))); (case side2 => exact HC0.out); rintro e w' ⟨rfl, ⟨nd, rfl⟩⟩; refine ⟨_, rfl, ?_⟩))
      go_meet
      case rel => exact ⟨_, (true), (by first | rfl | (simp; done) | (simp [*]; done)), H', ⟨by first | omega | exact Nat.le_refl _⟩, ⟨by repeat (first | (with_reducible first | exact HB.out | apply QE | apply QB | apply QC) | exact HB.out)⟩⟩
  case rest =>
    clear HC3
    try clear c1
    try clear p2
    try clear c5
    try clear c6
    obtain ⟨kq, x16_2, rfl, HA, HJ2, HB⟩ := hcut
    cases kq with
    | zero => exact absurd HA.out (by simp [impl_Matches.j0])
    | succ kj2 =>
      have H := HA.out
      clear HA
      simp only [impl_Matches.j0] at H
      by_cases c7 : x16_2 = true
      · subst c7
        rw [if_pos rfl] at H
        obtain rfl := Option.some.inj H
        go_wp2
        go_ret
        exact ⟨by first | rfl | (simp [errW_none, errW_some] <;> rfl) | (simp [*, errW_none, errW_some] <;> rfl), by repeat (first | (with_reducible first | exact HB.out | apply QE | apply QB | apply QC) | exact HB.out)⟩
      · replace c7 := Bool.eq_false_iff.mpr c7
        subst c7
        rw [if_neg (show ¬ (false = true) by decide)] at H
        obtain ⟨y350, hy350⟩ : ∃ y_ : List Bool, y_ = (([] : List Bool)) := ⟨_, rfl⟩
        replace H : (impl_Matches.l0 kj2 a1 y350 l0 (l0.length : Int) 0) = some r := by first | (rw [hy350]; with_reducible exact H) | (have H2_ := (Option.bind_some _ _).symm.trans H; rw [hy350]; with_reducible exact H2_) | (have H2_ := (Option.bind_some _ _).symm.trans H; with_reducible exact H2_) | with_reducible exact H | (rw [hy350]; exact H) | exact H
        have Ny350 := QU hy350
        clear hy350
        have H' := QU H
        clear H
        go_wp2_with (first | ((with_reducible refine gate_dst (N := 17) rfl ?_); refine Kd.R_lit Kd.bool _ 4 ?hg (N := 17) ?hd (xs := ([] : List Bool)) (inner := []) (ok := fun _ => True) (okp := fun _ => True) ?hr ?hp (fun _ hk => hk) trivial (Below.refl _ _) (Nat.le_refl _) (by simp) ?_; (case hd => rfl); (case hg => rfl); (case hr => first | (go_simp; done) | (go_simp; rfl)); (case hp => exact (Reps.none _ _)); intro v351 w8 ho9 hb hg_ hnew_; clear hg_ hnew_; (first | rw [← Ny350.out] at ho9 | (simp only [Int.reduceToNat] at ho9; rw [← Ny350.out] at ho9)); have n0_ := QU (Kd.R_lower ho9 (below_size (by repeat (first | (with_reducible first | exact HB.out | apply QE | apply QB | apply QC) | exact HB.out)))); have n1_ := QU (below_step (by repeat (first | (with_reducible first | exact HB.out | apply QE | apply QB | apply QC) | exact HB.out)) hb); clear HB; have HO352 := n0_; have HB := n1_; clear n0_ n1_; clear hb ho9))
        go_loopg [5, 20] kj2 (fun kq v5 v20 w' => ∃ (x5_2 : List Bool) (x20_2 : Int), v20 = .int .i64 x20_2 ∧ Aside0 (impl_Matches.l0 kq a1 x5_2 l0 (l0.length : Int) x20_2 = some r) ∧ Aside0 (kq ≤ kj2) ∧ Aside0 (Kd.R Kd.bool 4 w' w.heap.size (fun _ => True) v5 x5_2) ∧ Aside0 (Below w.heap.size w w'))
        case atStart => exact ⟨(y350), (0), (by first | rfl | (simp; done) | (simp [*]; done)), H', ⟨Nat.le_refl _⟩, ⟨by (with_reducible repeat (first | apply Kd.R_alloc | apply Kd.R_drewN | apply Kd.R_drew)); exact HO352.out⟩, ⟨by repeat (first | (with_reducible first | exact HB.out | apply QE | apply QB | apply QC) | exact HB.out)⟩⟩
        case round =>
          clear H'
          try clear c1
          try clear p2
          try clear c5
          try clear c6
          try clear c7
          try clear p2
          obtain ⟨x5_2, x20_2, rfl, HA, HK2, HO_5, HB⟩ := hrel
          cases gk with
          | zero => exact absurd HA.out (by simp [impl_Matches.l0])
          | succ k2 =>
            have H := HA.out
            clear HA
            simp only [impl_Matches.l0] at H
            by_cases c10 : x20_2 < (l0.length : Int)
            · rw [if_pos c10] at H
              have c10b0 : decide (x20_2 < (l0.length : Int)) = true := decide_eq_true c10
              clear c10
              by_cases c11 : 0 ≤ x20_2
              · rw [if_pos c11] at H
                have c11b0 : decide (0 ≤ x20_2) = true := decide_eq_true c11
                clear c11
                by_cases c12 : x20_2 < (l0.length : Int)
                · rw [if_pos c12] at H
                  have c12b0 : decide (x20_2 < (l0.length : Int)) = true := decide_eq_true c12
                  clear c12
                  by_cases c13 : (rd l0 x20_2) = (-1)
                  · rw [if_pos c13] at H
                    have c13b0 : ((rd l0 x20_2) == (-1)) = true := beq_iff_eq.mpr c13
                    have c13b1 : ((rd l0 x20_2) != (-1)) = false := bne_eq_false_iff_eq.mpr c13
                    clear c13
                    obtain ⟨ji14, hji14⟩ : ∃ j_ : Int, (wrap64 ((x5_2.length : Int) - 1)) = j_ := ⟨_, rfl⟩
                    replace H : (if 0 ≤ (ji14) then (if (ji14) < (x5_2.length : Int) then (impl_Matches.l0 k2 a1 (x5_2.set ((ji14) : Int).toNat (!(rdOf false x5_2 (ji14)))) l0 (l0.length : Int) (wrap64 (x20_2 + 1))) else (none)) else (none)) = some r := by first | (rw [hji14] at H; exact H) | (simp only [hji14] at H ⊢; exact H)
                    have hji14w : (IntKind.i64.wrap ((x5_2.length : Int) - 1)) = ji14 := (QF _).trans hji14
                    by_cases c15 : 0 ≤ (ji14)
                    · rw [if_pos c15] at H
                      have c15b0 : decide (0 ≤ (ji14)) = true := decide_eq_true c15
                      clear c15
                      by_cases c16 : (ji14) < (x5_2.length : Int)
                      · rw [if_pos c16] at H
                        have c16b0 : decide ((ji14) < (x5_2.length : Int)) = true := decide_eq_true c16
                        clear c16
                        obtain ⟨y356, hy356⟩ : ∃ y_ : List Bool, y_ = (x5_2.set ((ji14) : Int).toNat (!(rdOf false x5_2 (ji14)))) := ⟨_, rfl⟩
                        replace H : (impl_Matches.l0 k2 a1 y356 l0 (l0.length : Int) (wrap64 (x20_2 + 1))) = some r := by first | (rw [hy356]; with_reducible exact H) | (have H2_ := (Option.bind_some _ _).symm.trans H; rw [hy356]; with_reducible exact H2_) | (have H2_ := (Option.bind_some _ _).symm.trans H; with_reducible exact H2_) | with_reducible exact H | (rw [hy356]; exact H) | exact H
                        have Ny356 := QU hy356
                        clear hy356
                        have H' := QU H
                        clear H
                        have p354 : 0 ≤ (x20_2 : Int) := of_decide_eq_true (by first | (with_reducible assumption) | assumption)
                        have q354 : x20_2 < (l0.length : Int) := of_decide_eq_true (by first | (with_reducible assumption) | assumption)
                        obtain ⟨ad354, e354, hx354_0⟩ := Kd.at_int HR0.out x20_2 p354 q354
                        cases e354
                        replace hx354_0 := (HB.out.cell (World.block_lt_of_cell? w _ hx354_0)).trans hx354_0
                        replace p354 := eq_true p354
                        replace q354 := eq_true q354
                        obtain ⟨Ao18, co18, eo18⟩ := Kd.R_slice HO_5.out
                        subst eo18
                        have p355 : 0 ≤ ((ji14) : Int) := of_decide_eq_true (by first | (with_reducible assumption) | assumption)
                        have q355 : (ji14) < (x5_2.length : Int) := of_decide_eq_true (by first | (with_reducible assumption) | assumption)
                        obtain ⟨ad355, e355, hx355_0⟩ := Kd.at_bool (Kd.R_reads' HO_5.out).2.2 (ji14) p355 q355
                        cases e355
                        replace p355 := eq_true p355
                        replace q355 := eq_true q355
                        have p17 : 0 ≤ ((ji14) : Int) := of_decide_eq_true (by first | (with_reducible assumption) | assumption)
                        have q17 : ((ji14) : Int) < ((x5_2.length : Int) : Int) := of_decide_eq_true (by first | (with_reducible assumption) | assumption)
                        obtain ⟨go17, co17, eo17, gb17, gl17, cl17, HG17⟩ := Kd.R_form HO_5.out (by omega)
                        (first | cases eo17 | (injection eo17 with ea_ en_ ec_; (first | subst ea_ | (injection ea_ with ea_; subst ea_)); subst ec_; clear en_))
                        have GB17 := QU gb17
                        have GG17 := QU HG17
                        clear gb17 gl17 HG17
                        (first | simp only [add_plain] at hx355_0 | skip)
                        obtain ⟨hx17_0, hf17_0⟩ := Kd.R_celln false HO_5.out ((ji14) : Int) p17 q17
                        replace p17 := eq_true p17
                        replace q17 := eq_true q17
                        have HP19 := Kd.R_putg HO_5.out ((ji14) : Int) (!(rdOf false x5_2 (ji14)))
                        go_wp2_with (first | ((with_reducible refine gate_store (t := 4) (p := 44) rfl ?_); refine store_event (t := 4) (p := 44) (v := ?vo_w20) (w1 := (wr.setCell ⟨go17, ((ji14) : Int).toNat, none⟩ (.bool (!(rdOf false x5_2 (ji14)))))) ?hg ?ho ?hn ?hr ?_; (case ho => rfl); (case hg => rfl); (case hn => rfl); (case hr => first | (go_simp; done) | (go_simp; rfl)); intro w20 hw; have hg : wr.grownBy w20 (some go17) := (by rw [hw]; exact HP19.2); have hp_ : Kd.R Kd.bool 4 w20 w.heap.size (fun _ => True) (.slice (some ⟨go17, 0, none⟩) x5_2.length co18) y356 := (by rw [hw, Ny356.out]; exact HP19.1); clear HP19; have n0_ := QU (hp_); have n1_ := QU ((by rw [hw]; exact QP (HB.out) GB17.out : Below w.heap.size w w20)); clear HO_5; clear HB; have HO_5 := n0_; have HB := n1_; clear n0_ n1_; clear hg hw hp_))
                        go_roundg k2
                        case measure => have := HJ2.out; have := HK2.out; omega
                        case rel => exact ⟨(y356), (wrap64 (x20_2 + 1)), (by first | rfl | (simp; done) | (simp [*]; done)), H', ⟨by have := HJ2.out; have := HK2.out; omega⟩, ⟨by (with_reducible repeat (first | apply Kd.R_alloc | apply Kd.R_drewN | apply Kd.R_drew)); exact HO_5.out⟩, ⟨by repeat (first | (with_reducible first | exact HB.out | apply QE | apply QB | apply QC) | exact HB.out)⟩⟩
                      · rw [if_neg c16] at H
                        exact absurd H (by simp)
                    · rw [if_neg c15] at H
                      exact absurd H (by simp)
                  · rw [if_neg c13] at H
                    have c13b0 : ((rd l0 x20_2) == (-1)) = false := beq_eq_false_iff_ne.mpr c13
                    have c13b1 : ((rd l0 x20_2) != (-1)) = true := bne_iff_ne.mpr c13
                    by_cases c21 : (rd l0 x20_2) = (-2)
                    · rw [if_pos c21] at H
                      have c21b0 : ((rd l0 x20_2) == (-2)) = true := beq_iff_eq.mpr c21
                      have c21b1 : ((rd l0 x20_2) != (-2)) = false := bne_eq_false_iff_eq.mpr c21
                      clear c21
                      obtain ⟨ji22, hji22⟩ : ∃ j_ : Int, (wrap64 ((x5_2.length : Int) - 2)) = j_ := ⟨_, rfl⟩
                      replace H : (if 0 ≤ (ji22) then (if (ji22) < (x5_2.length : Int) then (if rdOf false x5_2 (ji22) = true then (if 0 ≤ (wrap64 ((x5_2.length : Int) - 1)) then (if (wrap64 ((x5_2.length : Int) - 1)) < (x5_2.length : Int) then (if (ji22) ≤ (x5_2.length : Int) then ((some (x5_2.take ((ji22) : Int).toNat : List Bool)).bind fun y359 => (if y359.length < 140737488355328 then (impl_Matches.l0 k2 a1 (y359 ++ [rdOf false x5_2 (wrap64 ((x5_2.length : Int) - 1))]) l0 (l0.length : Int) (wrap64 (x20_2 + 1))) else (none))) else (none)) else (none)) else (none)) else (if (ji22) ≤ (x5_2.length : Int) then ((some (x5_2.take ((ji22) : Int).toNat : List Bool)).bind fun y365 => (if y365.length < 140737488355328 then (impl_Matches.l0 k2 a1 (y365 ++ [false]) l0 (l0.length : Int) (wrap64 (x20_2 + 1))) else (none))) else (none))) else (none)) else (none)) = some r := by first | (rw [hji22] at H; exact H) | (simp only [hji22] at H ⊢; exact H)
                      have hji22w : (IntKind.i64.wrap ((x5_2.length : Int) - 2)) = ji22 := (QF _).trans hji22
                      by_cases c23 : 0 ≤ (ji22)
                      · rw [if_pos c23] at H
                        have c23b0 : decide (0 ≤ (ji22)) = true := decide_eq_true c23
                        clear c23
                        by_cases c24 : (ji22) < (x5_2.length : Int)
                        · rw [if_pos c24] at H
                          have c24b0 : decide ((ji22) < (x5_2.length : Int)) = true := decide_eq_true c24
                          clear c24
                          obtain ⟨bq25, hbq25⟩ : ∃ b_ : Bool, b_ = (rdOf false x5_2 (ji22)) := ⟨_, rfl⟩
                          replace H : (if bq25 = true then (if 0 ≤ (wrap64 ((x5_2.length : Int) - 1)) then (if (wrap64 ((x5_2.length : Int) - 1)) < (x5_2.length : Int) then (if (ji22) ≤ (x5_2.length : Int) then ((some (x5_2.take ((ji22) : Int).toNat : List Bool)).bind fun y359 => (if y359.length < 140737488355328 then (impl_Matches.l0 k2 a1 (y359 ++ [rdOf false x5_2 (wrap64 ((x5_2.length : Int) - 1))]) l0 (l0.length : Int) (wrap64 (x20_2 + 1))) else (none))) else (none)) else (none)) else (none)) else (if (ji22) ≤ (x5_2.length : Int) then ((some (x5_2.take ((ji22) : Int).toNat : List Bool)).bind fun y365 => (if y365.length < 140737488355328 then (impl_Matches.l0 k2 a1 (y365 ++ [false]) l0 (l0.length : Int) (wrap64 (x20_2 + 1))) else (none))) else (none))) = some r := by rw [← hbq25] at H; exact H
                          have Nbq25 := QU hbq25
                          clear hbq25
                          by_cases c26 : bq25 = true
                          · subst c26
                            rw [if_pos rfl] at H
                            obtain ⟨ji27, hji27⟩ : ∃ j_ : Int, (wrap64 ((x5_2.length : Int) - 1)) = j_ := ⟨_, rfl⟩
                            replace H : (if 0 ≤ (ji27) then (if (ji27) < (x5_2.length : Int) then (if (ji22) ≤ (x5_2.length : Int) then ((some (x5_2.take ((ji22) : Int).toNat : List Bool)).bind fun y359 => (if y359.length < 140737488355328 then (impl_Matches.l0 k2 a1 (y359 ++ [rdOf false x5_2 (ji27)]) l0 (l0.length : Int) (wrap64 (x20_2 + 1))) else (none))) else (none)) else (none)) else (none)) = some r := by first | (rw [hji27] at H; exact H) | (simp only [hji27] at H ⊢; exact H)
                            have hji27w : (IntKind.i64.wrap ((x5_2.length : Int) - 1)) = ji27 := (QF _).trans hji27
                            by_cases c28 : 0 ≤ (ji27)
                            · rw [if_pos c28] at H
                              have c28b0 : decide (0 ≤ (ji27)) = true := decide_eq_true c28
                              clear c28
                              by_cases c29 : (ji27) < (x5_2.length : Int)
                              · rw [if_pos c29] at H
                                have c29b0 : decide ((ji27) < (x5_2.length : Int)) = true := decide_eq_true c29
                                clear c29
                                by_cases c30 : (ji22) ≤ (x5_2.length : Int)
                                · rw [if_pos c30] at H
                                  have c30b0 := eq_true c30
                                  have c30b1 : decide ((ji22) ≤ (x5_2.length : Int)) = true := decide_eq_true c30
                                  clear c30
                                  obtain ⟨y359, hy359⟩ : ∃ y_ : List Bool, y_ = (x5_2.take ((ji22) : Int).toNat) := ⟨_, rfl⟩
                                  replace H : (if y359.length < 140737488355328 then (impl_Matches.l0 k2 a1 (y359 ++ [rdOf false x5_2 (ji27)]) l0 (l0.length : Int) (wrap64 (x20_2 + 1))) else (none)) = some r := by first | (rw [hy359]; with_reducible exact H) | (have H2_ := (Option.bind_some _ _).symm.trans H; rw [hy359]; with_reducible exact H2_) | (have H2_ := (Option.bind_some _ _).symm.trans H; with_reducible exact H2_) | with_reducible exact H | (rw [hy359]; exact H) | exact H
                                  have Ny359 := QU hy359
                                  clear hy359
                                  by_cases c31 : y359.length < 140737488355328
                                  · rw [if_pos c31] at H
                                    have LMc31 := QU c31
                                    clear c31
                                    obtain ⟨y362, hy362⟩ : ∃ y_ : List Bool, y_ = (y359 ++ [rdOf false x5_2 (ji27)]) := ⟨_, rfl⟩
                                    replace H : (impl_Matches.l0 k2 a1 y362 l0 (l0.length : Int) (wrap64 (x20_2 + 1))) = some r := by first | (rw [hy362]; with_reducible exact H) | (have H2_ := (Option.bind_some _ _).symm.trans H; rw [hy362]; with_reducible exact H2_) | (have H2_ := (Option.bind_some _ _).symm.trans H; with_reducible exact H2_) | with_reducible exact H | (rw [hy362]; exact H) | exact H
                                    have Ny362 := QU hy362
                                    clear hy362
                                    have H' := QU H
                                    clear H
                                    have p354 : 0 ≤ (x20_2 : Int) := of_decide_eq_true (by first | (with_reducible assumption) | assumption)
                                    have q354 : x20_2 < (l0.length : Int) := of_decide_eq_true (by first | (with_reducible assumption) | assumption)
                                    obtain ⟨ad354, e354, hx354_0⟩ := Kd.at_int HR0.out x20_2 p354 q354
                                    cases e354
                                    replace hx354_0 := (HB.out.cell (World.block_lt_of_cell? w _ hx354_0)).trans hx354_0
                                    replace p354 := eq_true p354
                                    replace q354 := eq_true q354
                                    obtain ⟨Ao32, co32, eo32⟩ := Kd.R_slice HO_5.out
                                    subst eo32
                                    try go_wp2
                                    have n0_ := QU (Kd.R_drew HO_5.out)
                                    have n1_ := QU (QC HB.out)
                                    clear HO_5
                                    clear HB
                                    have HO_5 := n0_
                                    have HB := n1_
                                    clear n0_ n1_
                                    have p357 : 0 ≤ ((ji22) : Int) := of_decide_eq_true (by first | (with_reducible assumption) | assumption)
                                    have q357 : (ji22) < (x5_2.length : Int) := of_decide_eq_true (by first | (with_reducible assumption) | assumption)
                                    obtain ⟨ad357, e357, hx357_0⟩ := Kd.at_bool (Kd.R_reads' HO_5.out).2.2 (ji22) p357 q357
                                    (try rw [← Nbq25.out] at hx357_0)
                                    cases e357
                                    replace p357 := eq_true p357
                                    replace q357 := eq_true q357
                                    have p358 : 0 ≤ ((ji27) : Int) := of_decide_eq_true (by first | (with_reducible assumption) | assumption)
                                    have q358 : (ji27) < (x5_2.length : Int) := of_decide_eq_true (by first | (with_reducible assumption) | assumption)
                                    obtain ⟨ad358, e358, hx358_0⟩ := Kd.at_bool (Kd.R_reads' HO_5.out).2.2 (ji27) p358 q358
                                    (try rw [← Nbq25.out] at hx358_0)
                                    obtain rfl : ad357 = ad358 := (by injection e358)
                                    replace p358 := eq_true p358
                                    replace q358 := eq_true q358
                                    have q34 : ((ji22) : Int) ≤ ((x5_2.length : Int) : Int) := of_decide_eq_true (by first | (with_reducible assumption) | assumption)
                                    obtain ⟨i034, hi034, _, hsz34, _⟩ := info_parts info4
                                    have hcut34 := cut_to (P := Try.prog) 114 4 .i64 Try.underlying114 hi034 (some ad357) x5_2.length co32 (ji22) (of_decide_eq_true (by first | (with_reducible assumption) | assumption)) q34 (Kd.R_reads' HO_5.out).2.1
                                    have hr34 := Kd.R_take (m := ((ji22) : Int).toNat) HO_5.out (by omega)
                                    have hy34 : y359.length = ((ji22) : Int).toNat := (by rw [Ny359.out, List.length_take]; omega)
                                    rw [← Ny359.out] at hr34
                                    rw [← hy34] at hr34 hcut34
                                    clear hy34 hi034 hsz34 HO_5
                                    have HO361 := QU hr34
                                    clear hr34
                                    replace q34 := eq_true q34
                                    refine start_ (n := 19) (S := fun w' => w'.cell? (ad357.add ((ji22)).toNat) = some (.bool true) ∧ w'.cell? (ad357.add ((ji27)).toNat) = some (.bool (rdOf false x5_2 (ji27)))) (ds := [16, 17]) #[Y0,Y0,Y0,Y0,Y0,Y0,Y0,Y0,Y0,Y0,Y0,Y0,Y0,Y0,Y0,Y0,Y0,Y0,Y0] (by kernel_rfl) rfl rfl ⟨hx357_0, hx358_0⟩ (fun hHeld => ?_); refine with_tabW impl_Matches.tab13 impl_Matches.bits13 (fun HT_ HW_ => ?_)
                                    generalize wr.drew = w33 at HB HO361 hx357_0 hx358_0 hHeld ⊢
                                    refine QN (i := 0) (N := some 47) (v := ?_) (a' := ?_) #[Y1,Y0,Y0,Y0,Y0,Y0,Y0,Y0,Y0,Y0,Y0,Y0,Y0,Y0,Y0,Y0,Y0,Y0,Y0] rfl rfl (QJ HT_.out (by kernel_rfl)) (fun _ _ _ h => h) (Or.inl ⟨by rfl, ?_⟩) ?_ ?_
                                    rotate_left
                                    · intro w'
                                      go_simp
                                      with_reducible rfl
                                    rotate_left
                                    · simp only [Act.put, QR, QS, QT, QF, QI]
                                      rfl
                                    refine QN (i := 1) (N := some 48) (v := ?_) (a' := ?_) #[Y1,Y1,Y0,Y0,Y0,Y0,Y0,Y0,Y0,Y0,Y0,Y0,Y0,Y0,Y0,Y0,Y0,Y0,Y0] rfl rfl (QJ HT_.out (by kernel_rfl)) (fun _ _ _ h => h) (Or.inl ⟨by rfl, ?_⟩) ?_ ?_
                                    rotate_left
                                    · intro w'
                                      go_simp
                                      with_reducible rfl
                                    rotate_left
                                    · simp only [Act.put, QR, QS, QT, QF, QI]
                                      rfl
                                    refine QN (i := 2) (N := some 49) (v := ?_) (a' := ?_) #[Y1,Y1,Y1,Y0,Y0,Y0,Y0,Y0,Y0,Y0,Y0,Y0,Y0,Y0,Y0,Y0,Y0,Y0,Y0] rfl rfl (QJ HT_.out (by kernel_rfl)) (fun _ _ _ h => h) (Or.inl ⟨by rfl, ?_⟩) ?_ ?_
                                    rotate_left
                                    · intro w'
                                      go_simp
                                      with_reducible rfl
                                    rotate_left
                                    · simp only [Act.put, QR, QS, QT, QF, QI]
                                      rfl
                                    refine QN (i := 4) (N := some 51) (v := ?_) (a' := ?_) #[Y1,Y1,Y1,Y0,Y1,Y0,Y0,Y0,Y0,Y0,Y0,Y0,Y0,Y0,Y0,Y0,Y0,Y0,Y0] rfl rfl (QJ HT_.out (by kernel_rfl)) (fun _ _ _ h => h) (Or.inl ⟨by rfl, ?_⟩) ?_ ?_
                                    rotate_left
                                    · intro w'
                                      go_simp
                                      with_reducible rfl
                                    rotate_left
                                    · simp only [Act.put, QR, QS, QT, QF, QI]
                                      rfl
                                    refine QN (i := 5) (N := some 52) (v := ?_) (a' := ?_) #[Y1,Y1,Y1,Y0,Y1,Y1,Y0,Y0,Y0,Y0,Y0,Y0,Y0,Y0,Y0,Y0,Y0,Y0,Y0] rfl rfl (QJ HT_.out (by kernel_rfl)) (fun _ _ _ h => h) (Or.inl ⟨by rfl, ?_⟩) ?_ ?_
                                    rotate_left
                                    · intro w'
                                      go_simp
                                      with_reducible rfl
                                    rotate_left
                                    · simp only [Act.put, QR, QS, QT, QF, QI]
                                      rfl
                                    refine QN (i := 6) (N := some 53) (v := ?_) (a' := ?_) #[Y1,Y1,Y1,Y0,Y1,Y1,Y1,Y0,Y0,Y0,Y0,Y0,Y0,Y0,Y0,Y0,Y0,Y0,Y0] rfl rfl (QJ HT_.out (by kernel_rfl)) (fun _ _ _ h => h) (Or.inl ⟨by rfl, ?_⟩) ?_ ?_
                                    rotate_left
                                    · intro w'
                                      go_simp
                                      with_reducible rfl
                                    rotate_left
                                    · simp only [Act.put, QR, QS, QT, QF, QI]
                                      rfl
                                    refine QN (i := 7) (N := some 54) (v := ?_) (a' := ?_) #[Y1,Y1,Y1,Y0,Y1,Y1,Y1,Y1,Y0,Y0,Y0,Y0,Y0,Y0,Y0,Y0,Y0,Y0,Y0] rfl rfl (QJ HT_.out (by kernel_rfl)) (fun _ _ _ h => h) (Or.inl ⟨by rfl, ?_⟩) ?_ ?_
                                    rotate_left
                                    · intro w'
                                      go_simp
                                      with_reducible rfl
                                    rotate_left
                                    · simp only [Act.put, QR, QS, QT, QF, QI]
                                      rfl
                                    refine QN (i := 3) (N := some 50) (v := ?_) (a' := ?_) #[Y1,Y1,Y1,Y1,Y1,Y1,Y1,Y1,Y0,Y0,Y0,Y0,Y0,Y0,Y0,Y0,Y0,Y0,Y0] rfl rfl (QJ HT_.out (by kernel_rfl)) (fun _ _ _ h => h) (Or.inl ⟨by rfl, ?_⟩) ?_ ?_
                                    rotate_left
                                    · intro w'
                                      go_simp
                                      with_reducible rfl
                                    rotate_left
                                    · simp only [Act.put, QR, QS, QT, QF, QI]
                                      rfl
                                    refine take_ (i := 8) (N := some 55) (v := ?_) (a' := ?_) #[Y1,Y1,Y1,Y1,Y1,Y1,Y1,Y1,Y1,Y0,Y0,Y0,Y0,Y0,Y0,Y0,Y0,Y0,Y0] rfl rfl (take_ofW HT_.out HW_.out (by kernel_rfl)) (fun _ _ _ h => h) (Or.inl ⟨by rfl, ?_⟩) hHeld ?_ ?_
                                    rotate_left
                                    · rintro w' ⟨s0, s1⟩
                                      go_simp
                                      with_reducible rfl
                                    rotate_left
                                    · simp only [Act.put, QR, QS, QT, QF, QI]
                                      rfl
                                    refine QN (i := 9) (N := some 56) (v := ?_) (a' := ?_) #[Y1,Y1,Y1,Y1,Y1,Y1,Y1,Y1,Y1,Y1,Y0,Y0,Y0,Y0,Y0,Y0,Y0,Y0,Y0] rfl rfl (QJ HT_.out (by kernel_rfl)) (fun _ _ _ h => h) (Or.inl ⟨by rfl, ?_⟩) ?_ ?_
                                    rotate_left
                                    · intro w'
                                      go_simp
                                      with_reducible rfl
                                    rotate_left
                                    · simp only [Act.put, QR, QS, QT, QF, QI]
                                      rfl
                                    refine QN (i := 10) (N := some 57) (v := ?_) (a' := ?_) #[Y1,Y1,Y1,Y1,Y1,Y1,Y1,Y1,Y1,Y1,Y1,Y0,Y0,Y0,Y0,Y0,Y0,Y0,Y0] rfl rfl (QJ HT_.out (by kernel_rfl)) (fun _ _ _ h => h) (Or.inl ⟨by rfl, ?_⟩) ?_ ?_
                                    rotate_left
                                    · intro w'
                                      go_simp
                                      with_reducible rfl
                                    rotate_left
                                    · simp only [Act.put, QR, QS, QT, QF, QI]
                                      rfl
                                    refine QN (i := 11) (N := some 58) (v := ?_) (a' := ?_) #[Y1,Y1,Y1,Y1,Y1,Y1,Y1,Y1,Y1,Y1,Y1,Y1,Y0,Y0,Y0,Y0,Y0,Y0,Y0] rfl rfl (QJ HT_.out (by kernel_rfl)) (fun _ _ _ h => h) (Or.inl ⟨by rfl, ?_⟩) ?_ ?_
                                    rotate_left
                                    · intro w'
                                      go_simp
                                      with_reducible rfl
                                    rotate_left
                                    · simp only [Act.put, QR, QS, QT, QF, QI]
                                      rfl
                                    refine QN (i := 12) (N := some 59) (v := ?_) (a' := ?_) #[Y1,Y1,Y1,Y1,Y1,Y1,Y1,Y1,Y1,Y1,Y1,Y1,Y1,Y0,Y0,Y0,Y0,Y0,Y0] rfl rfl (QJ HT_.out (by kernel_rfl)) (fun _ _ _ h => h) (Or.inl ⟨by rfl, ?_⟩) ?_ ?_
                                    rotate_left
                                    · intro w'
                                      go_simp
                                      with_reducible rfl
                                    rotate_left
                                    · simp only [Act.put, QR, QS, QT, QF, QI]
                                      rfl
                                    refine QN (i := 13) (N := some 60) (v := ?_) (a' := ?_) #[Y1,Y1,Y1,Y1,Y1,Y1,Y1,Y1,Y1,Y1,Y1,Y1,Y1,Y1,Y0,Y0,Y0,Y0,Y0] rfl rfl (QJ HT_.out (by kernel_rfl)) (fun _ _ _ h => h) (Or.inl ⟨by rfl, ?_⟩) ?_ ?_
                                    rotate_left
                                    · intro w'
                                      go_simp
                                      with_reducible rfl
                                    rotate_left
                                    · simp only [Act.put, QR, QS, QT, QF, QI]
                                      rfl
                                    refine take_ (i := 14) (N := some 61) (v := ?_) (a' := ?_) #[Y1,Y1,Y1,Y1,Y1,Y1,Y1,Y1,Y1,Y1,Y1,Y1,Y1,Y1,Y1,Y0,Y0,Y0,Y0] rfl rfl (take_ofW HT_.out HW_.out (by kernel_rfl)) (fun _ _ _ h => h) (Or.inl ⟨by rfl, ?_⟩) hHeld ?_ ?_
                                    rotate_left
                                    · rintro w' ⟨s0, s1⟩
                                      go_simp
                                      with_reducible rfl
                                    rotate_left
                                    · simp only [Act.put, QR, QS, QT, QF, QI]
                                      rfl
                                    refine QN (i := 15) (N := some 62) (v := ?_) (a' := ?_) #[Y1,Y1,Y1,Y1,Y1,Y1,Y1,Y1,Y1,Y1,Y1,Y1,Y1,Y1,Y1,Y1,Y0,Y0,Y0] rfl rfl (QJ HT_.out (by kernel_rfl)) (fun _ _ _ h => h) (Or.inl ⟨by rfl, ?_⟩) ?_ ?_
                                    rotate_left
                                    · intro w'
                                      go_simp
                                      with_reducible rfl
                                    rotate_left
                                    · simp only [Act.put, QR, QS, QT, QF, QI]
                                      rfl
                                    refine last_ (i := 16) (N := some 63) #[Y1,Y1,Y1,Y1,Y1,Y1,Y1,Y1,Y1,Y1,Y1,Y1,Y1,Y1,Y1,Y1,Y1,Y0,Y0] rfl rfl (one_of HT_.out (by kernel_rfl)) (by decide) (fun K hK => ?_)
                                    refine value_ (w1 := ?_) (v := ?_) (by rfl) rfl ?_ ?_
                                    rotate_left 2
                                    · go_simp
                                      constructor
                                      · rfl
                                      · rfl
                                    refine hK.out _ _ ?_
                                    clear hK K
                                    refine norm_ (a' := ?_) ?_ ?_
                                    rotate_left
                                    · show Act.put _ (some 63) _ = _
                                      simp only [Act.put, QR, QS, QT, QF, QI]
                                      rfl
                                    refine last_ (i := 17) (N := some 64) #[Y1,Y1,Y1,Y1,Y1,Y1,Y1,Y1,Y1,Y1,Y1,Y1,Y1,Y1,Y1,Y1,Y1,Y1,Y0] rfl rfl (one_of HT_.out (by kernel_rfl)) (by decide) (fun K hK => ?_)
                                    refine Kd.R_append_step Kd.bool (w0 := w) w.heap.size (by rfl) (.tmp 50) (.tmp 63) 114 4 (.bool false) 1 rfl Try.underlying114 info4 rfl (by decide) (by omega) (.slice (some ad357) y359.length co32) y359 (rdOf false x5_2 (ji27)) [.bool (rdOf false x5_2 (ji27))] (fun _ => True) (fun _ => False) rfl rfl ?aP (fun _ hk => hk.elim) ?aF ?aO ?aB ?aS ?aL ?_
                                    (case aP => exact rfl)
                                    (case aB => exact (by repeat (first | (with_reducible first | exact HB.out | apply QE | apply QB | apply QC) | exact HB.out)))
                                    (case aF => exact (fun _ _ => trivial))
                                    (case aO => exact (by (with_reducible repeat (first | apply Kd.R_alloc | apply Kd.R_drewN | apply Kd.R_drew)); exact HO361.out))
                                    (case aS => exact (below_size (by repeat (first | (with_reducible first | exact HB.out | apply QE | apply QB | apply QC) | exact HB.out))))
                                    (case aL => have := LMc31.out; omega)
                                    intro v363 w35 ho hb hg hat
                                    rw [← Ny362.out] at ho
                                    have n0_ := QU (hb)
                                    have n1_ := QU (ho)
                                    clear HB
                                    clear HO361
                                    have HB := n0_
                                    have HO364 := n1_
                                    clear n0_ n1_
                                    clear ho hb hg hat
                                    refine hK.out _ _ ?_
                                    clear hK K
                                    refine norm_ (a' := ?_) ?_ ?_
                                    rotate_left
                                    · show Act.put _ (some 64) _ = _
                                      simp only [Act.put, QR, QS, QT, QF, QI]
                                      rfl
                                    refine QN (i := 18) (N := some 5) (v := ?_) (a' := ?_) #[Y1,Y1,Y1,Y1,Y1,Y1,Y1,Y1,Y1,Y1,Y1,Y1,Y1,Y1,Y1,Y1,Y1,Y1,Y1] rfl rfl (QJ HT_.out (by kernel_rfl)) (fun _ _ _ h => h) (Or.inl ⟨by rfl, ?_⟩) ?_ ?_
                                    rotate_left
                                    · intro w'
                                      go_simp
                                      with_reducible rfl
                                    rotate_left
                                    · simp only [Act.put, QR, QS, QT, QF, QI]
                                      rfl
                                    refine done_ (done_of HT_.out (by kernel_rfl)) ?_
                                    try go_wp2
                                    go_roundg k2
                                    case measure => have := HJ2.out; have := HK2.out; omega
                                    case rel => exact ⟨(y362), (wrap64 (x20_2 + 1)), (by first | rfl | (simp; done) | (simp [*]; done)), H', ⟨by have := HJ2.out; have := HK2.out; omega⟩, ⟨by (with_reducible repeat (first | apply Kd.R_alloc | apply Kd.R_drewN | apply Kd.R_drew)); exact HO364.out⟩, ⟨by repeat (first | (with_reducible first | exact HB.out | apply QE | apply QB | apply QC) | exact HB.out)⟩⟩
                                  · rw [if_neg c31] at H
                                    exact absurd H (by simp)
                                · rw [if_neg c30] at H
                                  exact absurd H (by simp)
                              · rw [if_neg c29] at H
                                exact absurd H (by simp)
                            · rw [if_neg c28] at H
                              exact absurd H (by simp)
                          · replace c26 := Bool.eq_false_iff.mpr c26
                            subst c26
                            rw [if_neg (show ¬ (false = true) by decide)] at H
                            by_cases c36 : (ji22) ≤ (x5_2.length : Int)
                            · rw [if_pos c36] at H
                              have c36b0 := eq_true c36
                              have c36b1 : decide ((ji22) ≤ (x5_2.length : Int)) = true := decide_eq_true c36
                              clear c36
                              obtain ⟨y365, hy365⟩ : ∃ y_ : List Bool, y_ = (x5_2.take ((ji22) : Int).toNat) := ⟨_, rfl⟩
                              replace H : (if y365.length < 140737488355328 then (impl_Matches.l0 k2 a1 (y365 ++ [false]) l0 (l0.length : Int) (wrap64 (x20_2 + 1))) else (none)) = some r := by first | (rw [hy365]; with_reducible exact H) | (have H2_ := (Option.bind_some _ _).symm.trans H; rw [hy365]; with_reducible exact H2_) | (have H2_ := (Option.bind_some _ _).symm.trans H; with_reducible exact H2_) | with_reducible exact H | (rw [hy365]; exact H) | exact H
                              have Ny365 := QU hy365
                              clear hy365
                              by_cases c37 : y365.length < 140737488355328
                              · rw [if_pos c37] at H
                                have LMc37 := QU c37
                                clear c37
                                obtain ⟨y368, hy368⟩ : ∃ y_ : List Bool, y_ = (y365 ++ [false]) := ⟨_, rfl⟩
                                replace H : (impl_Matches.l0 k2 a1 y368 l0 (l0.length : Int) (wrap64 (x20_2 + 1))) = some r := by first | (rw [hy368]; with_reducible exact H) | (have H2_ := (Option.bind_some _ _).symm.trans H; rw [hy368]; with_reducible exact H2_) | (have H2_ := (Option.bind_some _ _).symm.trans H; with_reducible exact H2_) | with_reducible exact H | (rw [hy368]; exact H) | exact H
                                have Ny368 := QU hy368
                                clear hy368
                                have H' := QU H
                                clear H
                                have p354 : 0 ≤ (x20_2 : Int) := of_decide_eq_true (by first | (with_reducible assumption) | assumption)
                                have q354 : x20_2 < (l0.length : Int) := of_decide_eq_true (by first | (with_reducible assumption) | assumption)
                                obtain ⟨ad354, e354, hx354_0⟩ := Kd.at_int HR0.out x20_2 p354 q354
                                cases e354
                                replace hx354_0 := (HB.out.cell (World.block_lt_of_cell? w _ hx354_0)).trans hx354_0
                                replace p354 := eq_true p354
                                replace q354 := eq_true q354
                                obtain ⟨Ao38, co38, eo38⟩ := Kd.R_slice HO_5.out
                                subst eo38
                                try go_wp2
                                have n0_ := QU (Kd.R_drew HO_5.out)
                                have n1_ := QU (QC HB.out)
                                clear HO_5
                                clear HB
                                have HO_5 := n0_
                                have HB := n1_
                                clear n0_ n1_
                                have p357 : 0 ≤ ((ji22) : Int) := of_decide_eq_true (by first | (with_reducible assumption) | assumption)
                                have q357 : (ji22) < (x5_2.length : Int) := of_decide_eq_true (by first | (with_reducible assumption) | assumption)
                                obtain ⟨ad357, e357, hx357_0⟩ := Kd.at_bool (Kd.R_reads' HO_5.out).2.2 (ji22) p357 q357
                                (try rw [← Nbq25.out] at hx357_0)
                                cases e357
                                replace p357 := eq_true p357
                                replace q357 := eq_true q357
                                have q40 : ((ji22) : Int) ≤ ((x5_2.length : Int) : Int) := of_decide_eq_true (by first | (with_reducible assumption) | assumption)
                                obtain ⟨i040, hi040, _, hsz40, _⟩ := info_parts info4
                                have hcut40 := cut_to (P := Try.prog) 114 4 .i64 Try.underlying114 hi040 (some ad357) x5_2.length co38 (ji22) (of_decide_eq_true (by first | (with_reducible assumption) | assumption)) q40 (Kd.R_reads' HO_5.out).2.1
                                have hr40 := Kd.R_take (m := ((ji22) : Int).toNat) HO_5.out (by omega)
                                have hy40 : y365.length = ((ji22) : Int).toNat := (by rw [Ny365.out, List.length_take]; omega)
                                rw [← Ny365.out] at hr40
                                rw [← hy40] at hr40 hcut40
                                clear hy40 hi040 hsz40 HO_5
                                have HO367 := QU hr40
                                clear hr40
                                replace q40 := eq_true q40
                                refine start_ (n := 19) (S := fun w' => w'.cell? (ad357.add ((ji22)).toNat) = some (.bool false)) (ds := [16, 17]) #[Y0,Y0,Y0,Y0,Y0,Y0,Y0,Y0,Y0,Y0,Y0,Y0,Y0,Y0,Y0,Y0,Y0,Y0,Y0] (by kernel_rfl) rfl rfl (hx357_0) (fun hHeld => ?_); refine with_tabW impl_Matches.tab13 impl_Matches.bits13 (fun HT_ HW_ => ?_)
                                generalize wr.drew = w39 at HB HO367 hx357_0 hHeld ⊢
                                refine QN (i := 0) (N := some 47) (v := ?_) (a' := ?_) #[Y1,Y0,Y0,Y0,Y0,Y0,Y0,Y0,Y0,Y0,Y0,Y0,Y0,Y0,Y0,Y0,Y0,Y0,Y0] rfl rfl (QJ HT_.out (by kernel_rfl)) (fun _ _ _ h => h) (Or.inl ⟨by rfl, ?_⟩) ?_ ?_
                                rotate_left
                                · intro w'
                                  go_simp
                                  with_reducible rfl
                                rotate_left
                                · simp only [Act.put, QR, QS, QT, QF, QI]
                                  rfl
                                refine QN (i := 1) (N := some 48) (v := ?_) (a' := ?_) #[Y1,Y1,Y0,Y0,Y0,Y0,Y0,Y0,Y0,Y0,Y0,Y0,Y0,Y0,Y0,Y0,Y0,Y0,Y0] rfl rfl (QJ HT_.out (by kernel_rfl)) (fun _ _ _ h => h) (Or.inl ⟨by rfl, ?_⟩) ?_ ?_
                                rotate_left
                                · intro w'
                                  go_simp
                                  with_reducible rfl
                                rotate_left
                                · simp only [Act.put, QR, QS, QT, QF, QI]
                                  rfl
                                refine QN (i := 2) (N := some 49) (v := ?_) (a' := ?_) #[Y1,Y1,Y1,Y0,Y0,Y0,Y0,Y0,Y0,Y0,Y0,Y0,Y0,Y0,Y0,Y0,Y0,Y0,Y0] rfl rfl (QJ HT_.out (by kernel_rfl)) (fun _ _ _ h => h) (Or.inl ⟨by rfl, ?_⟩) ?_ ?_
                                rotate_left
                                · intro w'
                                  go_simp
                                  with_reducible rfl
                                rotate_left
                                · simp only [Act.put, QR, QS, QT, QF, QI]
                                  rfl
                                refine QN (i := 4) (N := some 51) (v := ?_) (a' := ?_) #[Y1,Y1,Y1,Y0,Y1,Y0,Y0,Y0,Y0,Y0,Y0,Y0,Y0,Y0,Y0,Y0,Y0,Y0,Y0] rfl rfl (QJ HT_.out (by kernel_rfl)) (fun _ _ _ h => h) (Or.inl ⟨by rfl, ?_⟩) ?_ ?_
                                rotate_left
                                · intro w'
                                  go_simp
                                  with_reducible rfl
                                rotate_left
                                · simp only [Act.put, QR, QS, QT, QF, QI]
                                  rfl
                                refine QN (i := 5) (N := some 52) (v := ?_) (a' := ?_) #[Y1,Y1,Y1,Y0,Y1,Y1,Y0,Y0,Y0,Y0,Y0,Y0,Y0,Y0,Y0,Y0,Y0,Y0,Y0] rfl rfl (QJ HT_.out (by kernel_rfl)) (fun _ _ _ h => h) (Or.inl ⟨by rfl, ?_⟩) ?_ ?_
                                rotate_left
                                · intro w'
                                  go_simp
                                  with_reducible rfl
                                rotate_left
                                · simp only [Act.put, QR, QS, QT, QF, QI]
                                  rfl
                                refine QN (i := 6) (N := some 53) (v := ?_) (a' := ?_) #[Y1,Y1,Y1,Y0,Y1,Y1,Y1,Y0,Y0,Y0,Y0,Y0,Y0,Y0,Y0,Y0,Y0,Y0,Y0] rfl rfl (QJ HT_.out (by kernel_rfl)) (fun _ _ _ h => h) (Or.inl ⟨by rfl, ?_⟩) ?_ ?_
                                rotate_left
                                · intro w'
                                  go_simp
                                  with_reducible rfl
                                rotate_left
                                · simp only [Act.put, QR, QS, QT, QF, QI]
                                  rfl
                                refine QN (i := 7) (N := some 54) (v := ?_) (a' := ?_) #[Y1,Y1,Y1,Y0,Y1,Y1,Y1,Y1,Y0,Y0,Y0,Y0,Y0,Y0,Y0,Y0,Y0,Y0,Y0] rfl rfl (QJ HT_.out (by kernel_rfl)) (fun _ _ _ h => h) (Or.inl ⟨by rfl, ?_⟩) ?_ ?_
                                rotate_left
                                · intro w'
                                  go_simp
                                  with_reducible rfl
                                rotate_left
                                · simp only [Act.put, QR, QS, QT, QF, QI]
                                  rfl
                                refine QN (i := 3) (N := some 50) (v := ?_) (a' := ?_) #[Y1,Y1,Y1,Y1,Y1,Y1,Y1,Y1,Y0,Y0,Y0,Y0,Y0,Y0,Y0,Y0,Y0,Y0,Y0] rfl rfl (QJ HT_.out (by kernel_rfl)) (fun _ _ _ h => h) (Or.inl ⟨by rfl, ?_⟩) ?_ ?_
                                rotate_left
                                · intro w'
                                  go_simp
                                  with_reducible rfl
                                rotate_left
                                · simp only [Act.put, QR, QS, QT, QF, QI]
                                  rfl
                                refine take_ (i := 8) (N := some 55) (v := ?_) (a' := ?_) #[Y1,Y1,Y1,Y1,Y1,Y1,Y1,Y1,Y1,Y0,Y0,Y0,Y0,Y0,Y0,Y0,Y0,Y0,Y0] rfl rfl (take_ofW HT_.out HW_.out (by kernel_rfl)) (fun _ _ _ h => h) (Or.inl ⟨by rfl, ?_⟩) hHeld ?_ ?_
                                rotate_left
                                · intro w' s0
                                  go_simp
                                  with_reducible rfl
                                rotate_left
                                · simp only [Act.put, QR, QS, QT, QF, QI]
                                  rfl
                                refine QN (i := 9) (N := some 56) (v := ?_) (a' := ?_) #[Y1,Y1,Y1,Y1,Y1,Y1,Y1,Y1,Y1,Y1,Y0,Y0,Y0,Y0,Y0,Y0,Y0,Y0,Y0] rfl rfl (QJ HT_.out (by kernel_rfl)) (fun _ _ _ h => h) (Or.inl ⟨by rfl, ?_⟩) ?_ ?_
                                rotate_left
                                · intro w'
                                  go_simp
                                  with_reducible rfl
                                rotate_left
                                · simp only [Act.put, QR, QS, QT, QF, QI]
                                  rfl
                                refine QN (i := 10) (N := some 57) (v := undef) (a' := ?_) #[Y1,Y1,Y1,Y1,Y1,Y1,Y1,Y1,Y1,Y1,Y1,Y0,Y0,Y0,Y0,Y0,Y0,Y0,Y0] rfl rfl (QJ HT_.out (by kernel_rfl)) (fun _ _ _ h => h) (Or.inr ⟨by rfl, rfl⟩) ?_ ?_
                                rotate_left
                                · simp only [Act.put, QR, QS, QT, QF, QI]
                                  rfl
                                refine QN (i := 11) (N := some 58) (v := undef) (a' := ?_) #[Y1,Y1,Y1,Y1,Y1,Y1,Y1,Y1,Y1,Y1,Y1,Y1,Y0,Y0,Y0,Y0,Y0,Y0,Y0] rfl rfl (QJ HT_.out (by kernel_rfl)) (fun _ _ _ h => h) (Or.inr ⟨by rfl, rfl⟩) ?_ ?_
                                rotate_left
                                · simp only [Act.put, QR, QS, QT, QF, QI]
                                  rfl
                                refine QN (i := 12) (N := some 59) (v := undef) (a' := ?_) #[Y1,Y1,Y1,Y1,Y1,Y1,Y1,Y1,Y1,Y1,Y1,Y1,Y1,Y0,Y0,Y0,Y0,Y0,Y0] rfl rfl (QJ HT_.out (by kernel_rfl)) (fun _ _ _ h => h) (Or.inr ⟨by rfl, rfl⟩) ?_ ?_
                                rotate_left
                                · simp only [Act.put, QR, QS, QT, QF, QI]
                                  rfl
                                refine QN (i := 13) (N := some 60) (v := undef) (a' := ?_) #[Y1,Y1,Y1,Y1,Y1,Y1,Y1,Y1,Y1,Y1,Y1,Y1,Y1,Y1,Y0,Y0,Y0,Y0,Y0] rfl rfl (QJ HT_.out (by kernel_rfl)) (fun _ _ _ h => h) (Or.inr ⟨by rfl, rfl⟩) ?_ ?_
                                rotate_left
                                · simp only [Act.put, QR, QS, QT, QF, QI]
                                  rfl
                                refine QN (i := 14) (N := some 61) (v := undef) (a' := ?_) #[Y1,Y1,Y1,Y1,Y1,Y1,Y1,Y1,Y1,Y1,Y1,Y1,Y1,Y1,Y1,Y0,Y0,Y0,Y0] rfl rfl (QJ HT_.out (by kernel_rfl)) (fun _ _ _ h => h) (Or.inr ⟨by rfl, rfl⟩) ?_ ?_
                                rotate_left
                                · simp only [Act.put, QR, QS, QT, QF, QI]
                                  rfl
                                refine QN (i := 15) (N := some 62) (v := ?_) (a' := ?_) #[Y1,Y1,Y1,Y1,Y1,Y1,Y1,Y1,Y1,Y1,Y1,Y1,Y1,Y1,Y1,Y1,Y0,Y0,Y0] rfl rfl (QJ HT_.out (by kernel_rfl)) (fun _ _ _ h => h) (Or.inl ⟨by rfl, ?_⟩) ?_ ?_
                                rotate_left
                                · intro w'
                                  go_simp
                                  with_reducible rfl
                                rotate_left
                                · simp only [Act.put, QR, QS, QT, QF, QI]
                                  rfl
                                refine last_ (i := 16) (N := some 63) #[Y1,Y1,Y1,Y1,Y1,Y1,Y1,Y1,Y1,Y1,Y1,Y1,Y1,Y1,Y1,Y1,Y1,Y0,Y0] rfl rfl (one_of HT_.out (by kernel_rfl)) (by decide) (fun K hK => ?_)
                                refine value_ (w1 := ?_) (v := ?_) (by rfl) rfl ?_ ?_
                                rotate_left 2
                                · go_simp
                                  constructor
                                  · rfl
                                  · rfl
                                refine hK.out _ _ ?_
                                clear hK K
                                refine norm_ (a' := ?_) ?_ ?_
                                rotate_left
                                · show Act.put _ (some 63) _ = _
                                  simp only [Act.put, QR, QS, QT, QF, QI]
                                  rfl
                                refine last_ (i := 17) (N := some 64) #[Y1,Y1,Y1,Y1,Y1,Y1,Y1,Y1,Y1,Y1,Y1,Y1,Y1,Y1,Y1,Y1,Y1,Y1,Y0] rfl rfl (one_of HT_.out (by kernel_rfl)) (by decide) (fun K hK => ?_)
                                refine Kd.R_append_step Kd.bool (w0 := w) w.heap.size (by rfl) (.tmp 50) (.tmp 63) 114 4 (.bool false) 1 rfl Try.underlying114 info4 rfl (by decide) (by omega) (.slice (some ad357) y365.length co38) y365 false [.bool false] (fun _ => True) (fun _ => False) rfl rfl ?aP (fun _ hk => hk.elim) ?aF ?aO ?aB ?aS ?aL ?_
                                (case aP => exact rfl)
                                (case aB => exact (by repeat (first | (with_reducible first | exact HB.out | apply QE | apply QB | apply QC) | exact HB.out)))
                                (case aF => exact (fun _ _ => trivial))
                                (case aO => exact (by (with_reducible repeat (first | apply Kd.R_alloc | apply Kd.R_drewN | apply Kd.R_drew)); exact HO367.out))
                                (case aS => exact (below_size (by repeat (first | (with_reducible first | exact HB.out | apply QE | apply QB | apply QC) | exact HB.out))))
                                (case aL => have := LMc37.out; omega)
                                intro v369 w41 ho hb hg hat
                                rw [← Ny368.out] at ho
                                have n0_ := QU (hb)
                                have n1_ := QU (ho)
                                clear HB
                                clear HO367
                                have HB := n0_
                                have HO370 := n1_
                                clear n0_ n1_
                                clear ho hb hg hat
                                refine hK.out _ _ ?_
                                clear hK K
                                refine norm_ (a' := ?_) ?_ ?_
                                rotate_left
                                · show Act.put _ (some 64) _ = _
                                  simp only [Act.put, QR, QS, QT, QF, QI]
                                  rfl
                                refine QN (i := 18) (N := some 5) (v := ?_) (a' := ?_) #[Y1,Y1,Y1,Y1,Y1,Y1,Y1,Y1,Y1,Y1,Y1,Y1,Y1,Y1,Y1,Y1,Y1,Y1,Y1] rfl rfl (QJ HT_.out (by kernel_rfl)) (fun _ _ _ h => h) (Or.inl ⟨by rfl, ?_⟩) ?_ ?_
                                rotate_left
                                · intro w'
                                  go_simp
                                  with_reducible rfl
                                rotate_left
                                · simp only [Act.put, QR, QS, QT, QF, QI]
                                  rfl
                                refine done_ (done_of HT_.out (by kernel_rfl)) ?_
                                try go_wp2
                                go_roundg k2
                                case measure => have := HJ2.out; have := HK2.out; omega
                                case rel => exact ⟨(y368), (wrap64 (x20_2 + 1)), (by first | rfl | (simp; done) | (simp [*]; done)), H', ⟨by have := HJ2.out; have := HK2.out; omega⟩, ⟨by (with_reducible repeat (first | apply Kd.R_alloc | apply Kd.R_drewN | apply Kd.R_drew)); exact HO370.out⟩, ⟨by repeat (first | (with_reducible first | exact HB.out | apply QE | apply QB | apply QC) | exact HB.out)⟩⟩
                              · rw [if_neg c37] at H
                                exact absurd H (by simp)
                            · rw [if_neg c36] at H
                              exact absurd H (by simp)
                        · rw [if_neg c24] at H
                          exact absurd H (by simp)
                      · rw [if_neg c23] at H
                        exact absurd H (by simp)
                    · rw [if_neg c21] at H
                      have c21b0 : ((rd l0 x20_2) == (-2)) = false := beq_eq_false_iff_ne.mpr c21
                      have c21b1 : ((rd l0 x20_2) != (-2)) = true := bne_iff_ne.mpr c21
                      by_cases c42 : (rd l0 x20_2) = (-3)
                      · rw [if_pos c42] at H
                        have c42b0 : ((rd l0 x20_2) == (-3)) = true := beq_iff_eq.mpr c42
                        have c42b1 : ((rd l0 x20_2) != (-3)) = false := bne_eq_false_iff_eq.mpr c42
                        clear c42
                        obtain ⟨ji43, hji43⟩ : ∃ j_ : Int, (wrap64 ((x5_2.length : Int) - 2)) = j_ := ⟨_, rfl⟩
                        replace H : (if 0 ≤ (ji43) then (if (ji43) < (x5_2.length : Int) then (if rdOf false x5_2 (ji43) = true then (if (ji43) ≤ (x5_2.length : Int) then ((some (x5_2.take ((ji43) : Int).toNat : List Bool)).bind fun y372 => (if y372.length < 140737488355328 then (impl_Matches.l0 k2 a1 (y372 ++ [true]) l0 (l0.length : Int) (wrap64 (x20_2 + 1))) else (none))) else (none)) else (if 0 ≤ (wrap64 ((x5_2.length : Int) - 1)) then (if (wrap64 ((x5_2.length : Int) - 1)) < (x5_2.length : Int) then (if (ji43) ≤ (x5_2.length : Int) then ((some (x5_2.take ((ji43) : Int).toNat : List Bool)).bind fun y379 => (if y379.length < 140737488355328 then (impl_Matches.l0 k2 a1 (y379 ++ [rdOf false x5_2 (wrap64 ((x5_2.length : Int) - 1))]) l0 (l0.length : Int) (wrap64 (x20_2 + 1))) else (none))) else (none)) else (none)) else (none))) else (none)) else (none)) = some r := by first | (rw [hji43] at H; exact H) | (simp only [hji43] at H ⊢; exact H)
                        have hji43w : (IntKind.i64.wrap ((x5_2.length : Int) - 2)) = ji43 := (QF _).trans hji43
                        by_cases c44 : 0 ≤ (ji43)
                        · rw [if_pos c44] at H
                          have c44b0 : decide (0 ≤ (ji43)) = true := decide_eq_true c44
                          clear c44
                          by_cases c45 : (ji43) < (x5_2.length : Int)
                          · rw [if_pos c45] at H
                            have c45b0 : decide ((ji43) < (x5_2.length : Int)) = true := decide_eq_true c45
                            clear c45
                            obtain ⟨bq46, hbq46⟩ : ∃ b_ : Bool, b_ = (rdOf false x5_2 (ji43)) := ⟨_, rfl⟩
                            replace H : (if bq46 = true then (if (ji43) ≤ (x5_2.length : Int) then ((some (x5_2.take ((ji43) : Int).toNat : List Bool)).bind fun y372 => (if y372.length < 140737488355328 then (impl_Matches.l0 k2 a1 (y372 ++ [true]) l0 (l0.length : Int) (wrap64 (x20_2 + 1))) else (none))) else (none)) else (if 0 ≤ (wrap64 ((x5_2.length : Int) - 1)) then (if (wrap64 ((x5_2.length : Int) - 1)) < (x5_2.length : Int) then (if (ji43) ≤ (x5_2.length : Int) then ((some (x5_2.take ((ji43) : Int).toNat : List Bool)).bind fun y379 => (if y379.length < 140737488355328 then (impl_Matches.l0 k2 a1 (y379 ++ [rdOf false x5_2 (wrap64 ((x5_2.length : Int) - 1))]) l0 (l0.length : Int) (wrap64 (x20_2 + 1))) else (none))) else (none)) else (none)) else (none))) = some r := by rw [← hbq46] at H; exact H
                            have Nbq46 := QU hbq46
                            clear hbq46
                            by_cases c47 : bq46 = true
                            · subst c47
                              rw [if_pos rfl] at H
                              by_cases c48 : (ji43) ≤ (x5_2.length : Int)
                              · rw [if_pos c48] at H
                                have c48b0 := eq_true c48
                                have c48b1 : decide ((ji43) ≤ (x5_2.length : Int)) = true := decide_eq_true c48
                                clear c48
                                obtain ⟨y372, hy372⟩ : ∃ y_ : List Bool, y_ = (x5_2.take ((ji43) : Int).toNat) := ⟨_, rfl⟩
                                replace H : (if y372.length < 140737488355328 then (impl_Matches.l0 k2 a1 (y372 ++ [true]) l0 (l0.length : Int) (wrap64 (x20_2 + 1))) else (none)) = some r := by first | (rw [hy372]; with_reducible exact H) | (have H2_ := (Option.bind_some _ _).symm.trans H; rw [hy372]; with_reducible exact H2_) | (have H2_ := (Option.bind_some _ _).symm.trans H; with_reducible exact H2_) | with_reducible exact H | (rw [hy372]; exact H) | exact H
                                have Ny372 := QU hy372
                                clear hy372
                                by_cases c49 : y372.length < 140737488355328
                                · rw [if_pos c49] at H
                                  have LMc49 := QU c49
                                  clear c49
                                  obtain ⟨y375, hy375⟩ : ∃ y_ : List Bool, y_ = (y372 ++ [true]) := ⟨_, rfl⟩
                                  replace H : (impl_Matches.l0 k2 a1 y375 l0 (l0.length : Int) (wrap64 (x20_2 + 1))) = some r := by first | (rw [hy375]; with_reducible exact H) | (have H2_ := (Option.bind_some _ _).symm.trans H; rw [hy375]; with_reducible exact H2_) | (have H2_ := (Option.bind_some _ _).symm.trans H; with_reducible exact H2_) | with_reducible exact H | (rw [hy375]; exact H) | exact H
                                  have Ny375 := QU hy375
                                  clear hy375
                                  have H' := QU H
                                  clear H
                                  have p354 : 0 ≤ (x20_2 : Int) := of_decide_eq_true (by first | (with_reducible assumption) | assumption)
                                  have q354 : x20_2 < (l0.length : Int) := of_decide_eq_true (by first | (with_reducible assumption) | assumption)
                                  obtain ⟨ad354, e354, hx354_0⟩ := Kd.at_int HR0.out x20_2 p354 q354
                                  cases e354
                                  replace hx354_0 := (HB.out.cell (World.block_lt_of_cell? w _ hx354_0)).trans hx354_0
                                  replace p354 := eq_true p354
                                  replace q354 := eq_true q354
                                  obtain ⟨Ao50, co50, eo50⟩ := Kd.R_slice HO_5.out
                                  subst eo50
                                  try go_wp2
                                  have n0_ := QU (Kd.R_drew HO_5.out)
                                  have n1_ := QU (QC HB.out)
                                  clear HO_5
                                  clear HB
                                  have HO_5 := n0_
                                  have HB := n1_
                                  clear n0_ n1_
                                  have p371 : 0 ≤ ((ji43) : Int) := of_decide_eq_true (by first | (with_reducible assumption) | assumption)
                                  have q371 : (ji43) < (x5_2.length : Int) := of_decide_eq_true (by first | (with_reducible assumption) | assumption)
                                  obtain ⟨ad371, e371, hx371_0⟩ := Kd.at_bool (Kd.R_reads' HO_5.out).2.2 (ji43) p371 q371
                                  (try rw [← Nbq46.out] at hx371_0)
                                  cases e371
                                  replace p371 := eq_true p371
                                  replace q371 := eq_true q371
                                  have q52 : ((ji43) : Int) ≤ ((x5_2.length : Int) : Int) := of_decide_eq_true (by first | (with_reducible assumption) | assumption)
                                  obtain ⟨i052, hi052, _, hsz52, _⟩ := info_parts info4
                                  have hcut52 := cut_to (P := Try.prog) 114 4 .i64 Try.underlying114 hi052 (some ad371) x5_2.length co50 (ji43) (of_decide_eq_true (by first | (with_reducible assumption) | assumption)) q52 (Kd.R_reads' HO_5.out).2.1
                                  have hr52 := Kd.R_take (m := ((ji43) : Int).toNat) HO_5.out (by omega)
                                  have hy52 : y372.length = ((ji43) : Int).toNat := (by rw [Ny372.out, List.length_take]; omega)
                                  rw [← Ny372.out] at hr52
                                  rw [← hy52] at hr52 hcut52
                                  clear hy52 hi052 hsz52 HO_5
                                  have HO374 := QU hr52
                                  clear hr52
                                  replace q52 := eq_true q52
                                  refine start_ (n := 19) (S := fun w' => w'.cell? (ad371.add ((ji43)).toNat) = some (.bool true)) (ds := [16, 17]) #[Y0,Y0,Y0,Y0,Y0,Y0,Y0,Y0,Y0,Y0,Y0,Y0,Y0,Y0,Y0,Y0,Y0,Y0,Y0] (by kernel_rfl) rfl rfl (hx371_0) (fun hHeld => ?_); refine with_tabW impl_Matches.tab15 impl_Matches.bits15 (fun HT_ HW_ => ?_)
                                  generalize wr.drew = w51 at HB HO374 hx371_0 hHeld ⊢
                                  refine QN (i := 0) (N := some 67) (v := ?_) (a' := ?_) #[Y1,Y0,Y0,Y0,Y0,Y0,Y0,Y0,Y0,Y0,Y0,Y0,Y0,Y0,Y0,Y0,Y0,Y0,Y0] rfl rfl (QJ HT_.out (by kernel_rfl)) (fun _ _ _ h => h) (Or.inl ⟨by rfl, ?_⟩) ?_ ?_
                                  rotate_left
                                  · intro w'
                                    go_simp
                                    with_reducible rfl
                                  rotate_left
                                  · simp only [Act.put, QR, QS, QT, QF, QI]
                                    rfl
                                  refine QN (i := 1) (N := some 68) (v := ?_) (a' := ?_) #[Y1,Y1,Y0,Y0,Y0,Y0,Y0,Y0,Y0,Y0,Y0,Y0,Y0,Y0,Y0,Y0,Y0,Y0,Y0] rfl rfl (QJ HT_.out (by kernel_rfl)) (fun _ _ _ h => h) (Or.inl ⟨by rfl, ?_⟩) ?_ ?_
                                  rotate_left
                                  · intro w'
                                    go_simp
                                    with_reducible rfl
                                  rotate_left
                                  · simp only [Act.put, QR, QS, QT, QF, QI]
                                    rfl
                                  refine QN (i := 2) (N := some 69) (v := ?_) (a' := ?_) #[Y1,Y1,Y1,Y0,Y0,Y0,Y0,Y0,Y0,Y0,Y0,Y0,Y0,Y0,Y0,Y0,Y0,Y0,Y0] rfl rfl (QJ HT_.out (by kernel_rfl)) (fun _ _ _ h => h) (Or.inl ⟨by rfl, ?_⟩) ?_ ?_
                                  rotate_left
                                  · intro w'
                                    go_simp
                                    with_reducible rfl
                                  rotate_left
                                  · simp only [Act.put, QR, QS, QT, QF, QI]
                                    rfl
                                  refine QN (i := 4) (N := some 71) (v := ?_) (a' := ?_) #[Y1,Y1,Y1,Y0,Y1,Y0,Y0,Y0,Y0,Y0,Y0,Y0,Y0,Y0,Y0,Y0,Y0,Y0,Y0] rfl rfl (QJ HT_.out (by kernel_rfl)) (fun _ _ _ h => h) (Or.inl ⟨by rfl, ?_⟩) ?_ ?_
                                  rotate_left
                                  · intro w'
                                    go_simp
                                    with_reducible rfl
                                  rotate_left
                                  · simp only [Act.put, QR, QS, QT, QF, QI]
                                    rfl
                                  refine QN (i := 5) (N := some 72) (v := ?_) (a' := ?_) #[Y1,Y1,Y1,Y0,Y1,Y1,Y0,Y0,Y0,Y0,Y0,Y0,Y0,Y0,Y0,Y0,Y0,Y0,Y0] rfl rfl (QJ HT_.out (by kernel_rfl)) (fun _ _ _ h => h) (Or.inl ⟨by rfl, ?_⟩) ?_ ?_
                                  rotate_left
                                  · intro w'
                                    go_simp
                                    with_reducible rfl
                                  rotate_left
                                  · simp only [Act.put, QR, QS, QT, QF, QI]
                                    rfl
                                  refine QN (i := 6) (N := some 73) (v := ?_) (a' := ?_) #[Y1,Y1,Y1,Y0,Y1,Y1,Y1,Y0,Y0,Y0,Y0,Y0,Y0,Y0,Y0,Y0,Y0,Y0,Y0] rfl rfl (QJ HT_.out (by kernel_rfl)) (fun _ _ _ h => h) (Or.inl ⟨by rfl, ?_⟩) ?_ ?_
                                  rotate_left
                                  · intro w'
                                    go_simp
                                    with_reducible rfl
                                  rotate_left
                                  · simp only [Act.put, QR, QS, QT, QF, QI]
                                    rfl
                                  refine QN (i := 7) (N := some 74) (v := ?_) (a' := ?_) #[Y1,Y1,Y1,Y0,Y1,Y1,Y1,Y1,Y0,Y0,Y0,Y0,Y0,Y0,Y0,Y0,Y0,Y0,Y0] rfl rfl (QJ HT_.out (by kernel_rfl)) (fun _ _ _ h => h) (Or.inl ⟨by rfl, ?_⟩) ?_ ?_
                                  rotate_left
                                  · intro w'
                                    go_simp
                                    with_reducible rfl
                                  rotate_left
                                  · simp only [Act.put, QR, QS, QT, QF, QI]
                                    rfl
                                  refine QN (i := 3) (N := some 70) (v := ?_) (a' := ?_) #[Y1,Y1,Y1,Y1,Y1,Y1,Y1,Y1,Y0,Y0,Y0,Y0,Y0,Y0,Y0,Y0,Y0,Y0,Y0] rfl rfl (QJ HT_.out (by kernel_rfl)) (fun _ _ _ h => h) (Or.inl ⟨by rfl, ?_⟩) ?_ ?_
                                  rotate_left
                                  · intro w'
                                    go_simp
                                    with_reducible rfl
                                  rotate_left
                                  · simp only [Act.put, QR, QS, QT, QF, QI]
                                    rfl
                                  refine take_ (i := 8) (N := some 75) (v := ?_) (a' := ?_) #[Y1,Y1,Y1,Y1,Y1,Y1,Y1,Y1,Y1,Y0,Y0,Y0,Y0,Y0,Y0,Y0,Y0,Y0,Y0] rfl rfl (take_ofW HT_.out HW_.out (by kernel_rfl)) (fun _ _ _ h => h) (Or.inl ⟨by rfl, ?_⟩) hHeld ?_ ?_
                                  rotate_left
                                  · intro w' s0
                                    go_simp
                                    with_reducible rfl
                                  rotate_left
                                  · simp only [Act.put, QR, QS, QT, QF, QI]
                                    rfl
                                  refine QN (i := 9) (N := some 76) (v := ?_) (a' := ?_) #[Y1,Y1,Y1,Y1,Y1,Y1,Y1,Y1,Y1,Y1,Y0,Y0,Y0,Y0,Y0,Y0,Y0,Y0,Y0] rfl rfl (QJ HT_.out (by kernel_rfl)) (fun _ _ _ h => h) (Or.inl ⟨by rfl, ?_⟩) ?_ ?_
                                  rotate_left
                                  · intro w'
                                    go_simp
                                    with_reducible rfl
                                  rotate_left
                                  · simp only [Act.put, QR, QS, QT, QF, QI]
                                    rfl
                                  refine QN (i := 10) (N := some 77) (v := undef) (a' := ?_) #[Y1,Y1,Y1,Y1,Y1,Y1,Y1,Y1,Y1,Y1,Y1,Y0,Y0,Y0,Y0,Y0,Y0,Y0,Y0] rfl rfl (QJ HT_.out (by kernel_rfl)) (fun _ _ _ h => h) (Or.inr ⟨by rfl, rfl⟩) ?_ ?_
                                  rotate_left
                                  · simp only [Act.put, QR, QS, QT, QF, QI]
                                    rfl
                                  refine QN (i := 11) (N := some 78) (v := undef) (a' := ?_) #[Y1,Y1,Y1,Y1,Y1,Y1,Y1,Y1,Y1,Y1,Y1,Y1,Y0,Y0,Y0,Y0,Y0,Y0,Y0] rfl rfl (QJ HT_.out (by kernel_rfl)) (fun _ _ _ h => h) (Or.inr ⟨by rfl, rfl⟩) ?_ ?_
                                  rotate_left
                                  · simp only [Act.put, QR, QS, QT, QF, QI]
                                    rfl
                                  refine QN (i := 12) (N := some 79) (v := undef) (a' := ?_) #[Y1,Y1,Y1,Y1,Y1,Y1,Y1,Y1,Y1,Y1,Y1,Y1,Y1,Y0,Y0,Y0,Y0,Y0,Y0] rfl rfl (QJ HT_.out (by kernel_rfl)) (fun _ _ _ h => h) (Or.inr ⟨by rfl, rfl⟩) ?_ ?_
                                  rotate_left
                                  · simp only [Act.put, QR, QS, QT, QF, QI]
                                    rfl
                                  refine QN (i := 13) (N := some 80) (v := undef) (a' := ?_) #[Y1,Y1,Y1,Y1,Y1,Y1,Y1,Y1,Y1,Y1,Y1,Y1,Y1,Y1,Y0,Y0,Y0,Y0,Y0] rfl rfl (QJ HT_.out (by kernel_rfl)) (fun _ _ _ h => h) (Or.inr ⟨by rfl, rfl⟩) ?_ ?_
                                  rotate_left
                                  · simp only [Act.put, QR, QS, QT, QF, QI]
                                    rfl
                                  refine QN (i := 14) (N := some 81) (v := undef) (a' := ?_) #[Y1,Y1,Y1,Y1,Y1,Y1,Y1,Y1,Y1,Y1,Y1,Y1,Y1,Y1,Y1,Y0,Y0,Y0,Y0] rfl rfl (QJ HT_.out (by kernel_rfl)) (fun _ _ _ h => h) (Or.inr ⟨by rfl, rfl⟩) ?_ ?_
                                  rotate_left
                                  · simp only [Act.put, QR, QS, QT, QF, QI]
                                    rfl
                                  refine QN (i := 15) (N := some 82) (v := ?_) (a' := ?_) #[Y1,Y1,Y1,Y1,Y1,Y1,Y1,Y1,Y1,Y1,Y1,Y1,Y1,Y1,Y1,Y1,Y0,Y0,Y0] rfl rfl (QJ HT_.out (by kernel_rfl)) (fun _ _ _ h => h) (Or.inl ⟨by rfl, ?_⟩) ?_ ?_
                                  rotate_left
                                  · intro w'
                                    go_simp
                                    with_reducible rfl
                                  rotate_left
                                  · simp only [Act.put, QR, QS, QT, QF, QI]
                                    rfl
                                  refine last_ (i := 16) (N := some 83) #[Y1,Y1,Y1,Y1,Y1,Y1,Y1,Y1,Y1,Y1,Y1,Y1,Y1,Y1,Y1,Y1,Y1,Y0,Y0] rfl rfl (one_of HT_.out (by kernel_rfl)) (by decide) (fun K hK => ?_)
                                  refine value_ (w1 := ?_) (v := ?_) (by rfl) rfl ?_ ?_
                                  rotate_left 2
                                  · go_simp
                                    constructor
                                    · rfl
                                    · rfl
                                  refine hK.out _ _ ?_
                                  clear hK K
                                  refine norm_ (a' := ?_) ?_ ?_
                                  rotate_left
                                  · show Act.put _ (some 83) _ = _
                                    simp only [Act.put, QR, QS, QT, QF, QI]
                                    rfl
                                  refine last_ (i := 17) (N := some 84) #[Y1,Y1,Y1,Y1,Y1,Y1,Y1,Y1,Y1,Y1,Y1,Y1,Y1,Y1,Y1,Y1,Y1,Y1,Y0] rfl rfl (one_of HT_.out (by kernel_rfl)) (by decide) (fun K hK => ?_)
                                  refine Kd.R_append_step Kd.bool (w0 := w) w.heap.size (by rfl) (.tmp 70) (.tmp 83) 114 4 (.bool false) 1 rfl Try.underlying114 info4 rfl (by decide) (by omega) (.slice (some ad371) y372.length co50) y372 true [.bool true] (fun _ => True) (fun _ => False) rfl rfl ?aP (fun _ hk => hk.elim) ?aF ?aO ?aB ?aS ?aL ?_
                                  (case aP => exact rfl)
                                  (case aB => exact (by repeat (first | (with_reducible first | exact HB.out | apply QE | apply QB | apply QC) | exact HB.out)))
                                  (case aF => exact (fun _ _ => trivial))
                                  (case aO => exact (by (with_reducible repeat (first | apply Kd.R_alloc | apply Kd.R_drewN | apply Kd.R_drew)); exact HO374.out))
                                  (case aS => exact (below_size (by repeat (first | (with_reducible first | exact HB.out | apply QE | apply QB | apply QC) | exact HB.out))))
                                  (case aL => have := LMc49.out; omega)
                                  intro v376 w53 ho hb hg hat
                                  rw [← Ny375.out] at ho
                                  have n0_ := QU (hb)
                                  have n1_ := QU (ho)
                                  clear HB
                                  clear HO374
                                  have HB := n0_
                                  have HO377 := n1_
                                  clear n0_ n1_
                                  clear ho hb hg hat
                                  refine hK.out _ _ ?_
                                  clear hK K
                                  refine norm_ (a' := ?_) ?_ ?_
                                  rotate_left
                                  · show Act.put _ (some 84) _ = _
                                    simp only [Act.put, QR, QS, QT, QF, QI]
                                    rfl
                                  refine QN (i := 18) (N := some 5) (v := ?_) (a' := ?_) #[Y1,Y1,Y1,Y1,Y1,Y1,Y1,Y1,Y1,Y1,Y1,Y1,Y1,Y1,Y1,Y1,Y1,Y1,Y1] rfl rfl (QJ HT_.out (by kernel_rfl)) (fun _ _ _ h => h) (Or.inl ⟨by rfl, ?_⟩) ?_ ?_
                                  rotate_left
                                  · intro w'
                                    go_simp
                                    with_reducible rfl
                                  rotate_left
                                  · simp only [Act.put, QR, QS, QT, QF, QI]
                                    rfl
                                  refine done_ (done_of HT_.out (by kernel_rfl)) ?_
                                  try go_wp2
                                  go_roundg k2
                                  case measure => have := HJ2.out; have := HK2.out; omega
                                  case rel => exact ⟨(y375), (wrap64 (x20_2 + 1)), (by first | rfl | (simp; done) | (simp [*]; done)), H', ⟨by have := HJ2.out; have := HK2.out; omega⟩, ⟨by (with_reducible repeat (first | apply Kd.R_alloc | apply Kd.R_drewN | apply Kd.R_drew)); exact HO377.out⟩, ⟨by repeat (first | (with_reducible first | exact HB.out | apply QE | apply QB | apply QC) | exact HB.out)⟩⟩
                                · rw [if_neg c49] at H
                                  exact absurd H (by simp)
                              · rw [if_neg c48] at H
                                exact absurd H (by simp)
                            · replace c47 := Bool.eq_false_iff.mpr c47
                              subst c47
                              rw [if_neg (show ¬ (false = true) by decide)] at H
                              obtain ⟨ji54, hji54⟩ : ∃ j_ : Int, (wrap64 ((x5_2.length : Int) - 1)) = j_ := ⟨_, rfl⟩
                              replace H : (if 0 ≤ (ji54) then (if (ji54) < (x5_2.length : Int) then (if (ji43) ≤ (x5_2.length : Int) then ((some (x5_2.take ((ji43) : Int).toNat : List Bool)).bind fun y379 => (if y379.length < 140737488355328 then (impl_Matches.l0 k2 a1 (y379 ++ [rdOf false x5_2 (ji54)]) l0 (l0.length : Int) (wrap64 (x20_2 + 1))) else (none))) else (none)) else (none)) else (none)) = some r := by first | (rw [hji54] at H; exact H) | (simp only [hji54] at H ⊢; exact H)
                              have hji54w : (IntKind.i64.wrap ((x5_2.length : Int) - 1)) = ji54 := (QF _).trans hji54
                              by_cases c55 : 0 ≤ (ji54)
                              · rw [if_pos c55] at H
                                have c55b0 : decide (0 ≤ (ji54)) = true := decide_eq_true c55
                                clear c55
                                by_cases c56 : (ji54) < (x5_2.length : Int)
                                · rw [if_pos c56] at H
                                  have c56b0 : decide ((ji54) < (x5_2.length : Int)) = true := decide_eq_true c56
                                  clear c56
                                  by_cases c57 : (ji43) ≤ (x5_2.length : Int)
                                  · rw [if_pos c57] at H
                                    have c57b0 := eq_true c57
                                    have c57b1 : decide ((ji43) ≤ (x5_2.length : Int)) = true := decide_eq_true c57
                                    clear c57
                                    obtain ⟨y379, hy379⟩ : ∃ y_ : List Bool, y_ = (x5_2.take ((ji43) : Int).toNat) := ⟨_, rfl⟩
                                    replace H : (if y379.length < 140737488355328 then (impl_Matches.l0 k2 a1 (y379 ++ [rdOf false x5_2 (ji54)]) l0 (l0.length : Int) (wrap64 (x20_2 + 1))) else (none)) = some r := by first | (rw [hy379]; with_reducible exact H) | (have H2_ := (Option.bind_some _ _).symm.trans H; rw [hy379]; with_reducible exact H2_) | (have H2_ := (Option.bind_some _ _).symm.trans H; with_reducible exact H2_) | with_reducible exact H | (rw [hy379]; exact H) | exact H
                                    have Ny379 := QU hy379
                                    clear hy379
                                    by_cases c58 : y379.length < 140737488355328
                                    · rw [if_pos c58] at H
                                      have LMc58 := QU c58
                                      clear c58
                                      obtain ⟨y382, hy382⟩ : ∃ y_ : List Bool, y_ = (y379 ++ [rdOf false x5_2 (ji54)]) := ⟨_, rfl⟩
                                      replace H : (impl_Matches.l0 k2 a1 y382 l0 (l0.length : Int) (wrap64 (x20_2 + 1))) = some r := by first | (rw [hy382]; with_reducible exact H) | (have H2_ := (Option.bind_some _ _).symm.trans H; rw [hy382]; with_reducible exact H2_) | (have H2_ := (Option.bind_some _ _).symm.trans H; with_reducible exact H2_) | with_reducible exact H | (rw [hy382]; exact H) | exact H
                                      have Ny382 := QU hy382
                                      clear hy382
                                      have H' := QU H
                                      clear H
                                      have p354 : 0 ≤ (x20_2 : Int) := of_decide_eq_true (by first | (with_reducible assumption) | assumption)
                                      have q354 : x20_2 < (l0.length : Int) := of_decide_eq_true (by first | (with_reducible assumption) | assumption)
                                      obtain ⟨ad354, e354, hx354_0⟩ := Kd.at_int HR0.out x20_2 p354 q354
                                      cases e354
                                      replace hx354_0 := (HB.out.cell (World.block_lt_of_cell? w _ hx354_0)).trans hx354_0
                                      replace p354 := eq_true p354
                                      replace q354 := eq_true q354
                                      obtain ⟨Ao59, co59, eo59⟩ := Kd.R_slice HO_5.out
                                      subst eo59
                                      try go_wp2
                                      have n0_ := QU (Kd.R_drew HO_5.out)
                                      have n1_ := QU (QC HB.out)
                                      clear HO_5
                                      clear HB
                                      have HO_5 := n0_
                                      have HB := n1_
                                      clear n0_ n1_
                                      have p371 : 0 ≤ ((ji43) : Int) := of_decide_eq_true (by first | (with_reducible assumption) | assumption)
                                      have q371 : (ji43) < (x5_2.length : Int) := of_decide_eq_true (by first | (with_reducible assumption) | assumption)
                                      obtain ⟨ad371, e371, hx371_0⟩ := Kd.at_bool (Kd.R_reads' HO_5.out).2.2 (ji43) p371 q371
                                      (try rw [← Nbq46.out] at hx371_0)
                                      cases e371
                                      replace p371 := eq_true p371
                                      replace q371 := eq_true q371
                                      have p378 : 0 ≤ ((ji54) : Int) := of_decide_eq_true (by first | (with_reducible assumption) | assumption)
                                      have q378 : (ji54) < (x5_2.length : Int) := of_decide_eq_true (by first | (with_reducible assumption) | assumption)
                                      obtain ⟨ad378, e378, hx378_0⟩ := Kd.at_bool (Kd.R_reads' HO_5.out).2.2 (ji54) p378 q378
                                      (try rw [← Nbq46.out] at hx378_0)
                                      obtain rfl : ad371 = ad378 := (by injection e378)
                                      replace p378 := eq_true p378
                                      replace q378 := eq_true q378
                                      have q61 : ((ji43) : Int) ≤ ((x5_2.length : Int) : Int) := of_decide_eq_true (by first | (with_reducible assumption) | assumption)
                                      obtain ⟨i061, hi061, _, hsz61, _⟩ := info_parts info4
                                      have hcut61 := cut_to (P := Try.prog) 114 4 .i64 Try.underlying114 hi061 (some ad371) x5_2.length co59 (ji43) (of_decide_eq_true (by first | (with_reducible assumption) | assumption)) q61 (Kd.R_reads' HO_5.out).2.1
                                      have hr61 := Kd.R_take (m := ((ji43) : Int).toNat) HO_5.out (by omega)
                                      have hy61 : y379.length = ((ji43) : Int).toNat := (by rw [Ny379.out, List.length_take]; omega)
                                      rw [← Ny379.out] at hr61
                                      rw [← hy61] at hr61 hcut61
                                      clear hy61 hi061 hsz61 HO_5
                                      have HO381 := QU hr61
                                      clear hr61
                                      replace q61 := eq_true q61
                                      refine start_ (n := 19) (S := fun w' => w'.cell? (ad371.add ((ji43)).toNat) = some (.bool false) ∧ w'.cell? (ad371.add ((ji54)).toNat) = some (.bool (rdOf false x5_2 (ji54)))) (ds := [16, 17]) #[Y0,Y0,Y0,Y0,Y0,Y0,Y0,Y0,Y0,Y0,Y0,Y0,Y0,Y0,Y0,Y0,Y0,Y0,Y0] (by kernel_rfl) rfl rfl ⟨hx371_0, hx378_0⟩ (fun hHeld => ?_); refine with_tabW impl_Matches.tab15 impl_Matches.bits15 (fun HT_ HW_ => ?_)
                                      generalize wr.drew = w60 at HB HO381 hx371_0 hx378_0 hHeld ⊢
                                      refine QN (i := 0) (N := some 67) (v := ?_) (a' := ?_) #[Y1,Y0,Y0,Y0,Y0,Y0,Y0,Y0,Y0,Y0,Y0,Y0,Y0,Y0,Y0,Y0,Y0,Y0,Y0] rfl rfl (QJ HT_.out (by kernel_rfl)) (fun _ _ _ h => h) (Or.inl ⟨by rfl, ?_⟩) ?_ ?_
                                      rotate_left
                                      · intro w'
                                        go_simp
                                        with_reducible rfl
                                      rotate_left
                                      · simp only [Act.put, QR, QS, QT, QF, QI]
                                        rfl
                                      refine QN (i := 1) (N := some 68) (v := ?_) (a' := ?_) #[Y1,Y1,Y0,Y0,Y0,Y0,Y0,Y0,Y0,Y0,Y0,Y0,Y0,Y0,Y0,Y0,Y0,Y0,Y0] rfl rfl (QJ HT_.out (by kernel_rfl)) (fun _ _ _ h => h) (Or.inl ⟨by rfl, ?_⟩) ?_ ?_
                                      rotate_left
                                      · intro w'
                                        go_simp
                                        with_reducible rfl
                                      rotate_left
                                      · simp only [Act.put, QR, QS, QT, QF, QI]
                                        rfl
                                      refine QN (i := 2) (N := some 69) (v := ?_) (a' := ?_) #[Y1,Y1,Y1,Y0,Y0,Y0,Y0,Y0,Y0,Y0,Y0,Y0,Y0,Y0,Y0,Y0,Y0,Y0,Y0] rfl rfl (QJ HT_.out (by kernel_rfl)) (fun _ _ _ h => h) (Or.inl ⟨by rfl, ?_⟩) ?_ ?_
                                      rotate_left
                                      · intro w'
                                        go_simp
                                        with_reducible rfl
                                      rotate_left
                                      · simp only [Act.put, QR, QS, QT, QF, QI]
                                        rfl
                                      refine QN (i := 4) (N := some 71) (v := ?_) (a' := ?_) #[Y1,Y1,Y1,Y0,Y1,Y0,Y0,Y0,Y0,Y0,Y0,Y0,Y0,Y0,Y0,Y0,Y0,Y0,Y0] rfl rfl (QJ HT_.out (by kernel_rfl)) (fun _ _ _ h => h) (Or.inl ⟨by rfl, ?_⟩) ?_ ?_
                                      rotate_left
                                      · intro w'
                                        go_simp
                                        with_reducible rfl
                                      rotate_left
                                      · simp only [Act.put, QR, QS, QT, QF, QI]
                                        rfl
                                      refine QN (i := 5) (N := some 72) (v := ?_) (a' := ?_) #[Y1,Y1,Y1,Y0,Y1,Y1,Y0,Y0,Y0,Y0,Y0,Y0,Y0,Y0,Y0,Y0,Y0,Y0,Y0] rfl rfl (QJ HT_.out (by kernel_rfl)) (fun _ _ _ h => h) (Or.inl ⟨by rfl, ?_⟩) ?_ ?_
                                      rotate_left
                                      · intro w'
                                        go_simp
                                        with_reducible rfl
                                      rotate_left
                                      · simp only [Act.put, QR, QS, QT, QF, QI]
                                        rfl
                                      refine QN (i := 6) (N := some 73) (v := ?_) (a' := ?_) #[Y1,Y1,Y1,Y0,Y1,Y1,Y1,Y0,Y0,Y0,Y0,Y0,Y0,Y0,Y0,Y0,Y0,Y0,Y0] rfl rfl (QJ HT_.out (by kernel_rfl)) (fun _ _ _ h => h) (Or.inl ⟨by rfl, ?_⟩) ?_ ?_
                                      rotate_left
                                      · intro w'
                                        go_simp
                                        with_reducible rfl
                                      rotate_left
                                      · simp only [Act.put, QR, QS, QT, QF, QI]
                                        rfl
                                      refine QN (i := 7) (N := some 74) (v := ?_) (a' := ?_) #[Y1,Y1,Y1,Y0,Y1,Y1,Y1,Y1,Y0,Y0,Y0,Y0,Y0,Y0,Y0,Y0,Y0,Y0,Y0] rfl rfl (QJ HT_.out (by kernel_rfl)) (fun _ _ _ h => h) (Or.inl ⟨by rfl, ?_⟩) ?_ ?_
                                      rotate_left
                                      · intro w'
                                        go_simp
                                        with_reducible rfl
                                      rotate_left
                                      · simp only [Act.put, QR, QS, QT, QF, QI]
                                        rfl
                                      refine QN (i := 3) (N := some 70) (v := ?_) (a' := ?_) #[Y1,Y1,Y1,Y1,Y1,Y1,Y1,Y1,Y0,Y0,Y0,Y0,Y0,Y0,Y0,Y0,Y0,Y0,Y0] rfl rfl (QJ HT_.out (by kernel_rfl)) (fun _ _ _ h => h) (Or.inl ⟨by rfl, ?_⟩) ?_ ?_
                                      rotate_left
                                      · intro w'
                                        go_simp
                                        with_reducible rfl
                                      rotate_left
                                      · simp only [Act.put, QR, QS, QT, QF, QI]
                                        rfl
                                      refine take_ (i := 8) (N := some 75) (v := ?_) (a' := ?_) #[Y1,Y1,Y1,Y1,Y1,Y1,Y1,Y1,Y1,Y0,Y0,Y0,Y0,Y0,Y0,Y0,Y0,Y0,Y0] rfl rfl (take_ofW HT_.out HW_.out (by kernel_rfl)) (fun _ _ _ h => h) (Or.inl ⟨by rfl, ?_⟩) hHeld ?_ ?_
                                      rotate_left
                                      · rintro w' ⟨s0, s1⟩
                                        go_simp
                                        with_reducible rfl
                                      rotate_left
                                      · simp only [Act.put, QR, QS, QT, QF, QI]
                                        rfl
                                      refine QN (i := 9) (N := some 76) (v := ?_) (a' := ?_) #[Y1,Y1,Y1,Y1,Y1,Y1,Y1,Y1,Y1,Y1,Y0,Y0,Y0,Y0,Y0,Y0,Y0,Y0,Y0] rfl rfl (QJ HT_.out (by kernel_rfl)) (fun _ _ _ h => h) (Or.inl ⟨by rfl, ?_⟩) ?_ ?_
                                      rotate_left
                                      · intro w'
                                        go_simp
                                        with_reducible rfl
                                      rotate_left
                                      · simp only [Act.put, QR, QS, QT, QF, QI]
                                        rfl
                                      refine QN (i := 10) (N := some 77) (v := ?_) (a' := ?_) #[Y1,Y1,Y1,Y1,Y1,Y1,Y1,Y1,Y1,Y1,Y1,Y0,Y0,Y0,Y0,Y0,Y0,Y0,Y0] rfl rfl (QJ HT_.out (by kernel_rfl)) (fun _ _ _ h => h) (Or.inl ⟨by rfl, ?_⟩) ?_ ?_
                                      rotate_left
                                      · intro w'
                                        go_simp
                                        with_reducible rfl
                                      rotate_left
                                      · simp only [Act.put, QR, QS, QT, QF, QI]
                                        rfl
                                      refine QN (i := 11) (N := some 78) (v := ?_) (a' := ?_) #[Y1,Y1,Y1,Y1,Y1,Y1,Y1,Y1,Y1,Y1,Y1,Y1,Y0,Y0,Y0,Y0,Y0,Y0,Y0] rfl rfl (QJ HT_.out (by kernel_rfl)) (fun _ _ _ h => h) (Or.inl ⟨by rfl, ?_⟩) ?_ ?_
                                      rotate_left
                                      · intro w'
                                        go_simp
                                        with_reducible rfl
                                      rotate_left
                                      · simp only [Act.put, QR, QS, QT, QF, QI]
                                        rfl
                                      refine QN (i := 12) (N := some 79) (v := ?_) (a' := ?_) #[Y1,Y1,Y1,Y1,Y1,Y1,Y1,Y1,Y1,Y1,Y1,Y1,Y1,Y0,Y0,Y0,Y0,Y0,Y0] rfl rfl (QJ HT_.out (by kernel_rfl)) (fun _ _ _ h => h) (Or.inl ⟨by rfl, ?_⟩) ?_ ?_
                                      rotate_left
                                      · intro w'
                                        go_simp
                                        with_reducible rfl
                                      rotate_left
                                      · simp only [Act.put, QR, QS, QT, QF, QI]
                                        rfl
                                      refine QN (i := 13) (N := some 80) (v := ?_) (a' := ?_) #[Y1,Y1,Y1,Y1,Y1,Y1,Y1,Y1,Y1,Y1,Y1,Y1,Y1,Y1,Y0,Y0,Y0,Y0,Y0] rfl rfl (QJ HT_.out (by kernel_rfl)) (fun _ _ _ h => h) (Or.inl ⟨by rfl, ?_⟩) ?_ ?_
                                      rotate_left
                                      · intro w'
                                        go_simp
                                        with_reducible rfl
                                      rotate_left
                                      · simp only [Act.put, QR, QS, QT, QF, QI]
                                        rfl
                                      refine take_ (i := 14) (N := some 81) (v := ?_) (a' := ?_) #[Y1,Y1,Y1,Y1,Y1,Y1,Y1,Y1,Y1,Y1,Y1,Y1,Y1,Y1,Y1,Y0,Y0,Y0,Y0] rfl rfl (take_ofW HT_.out HW_.out (by kernel_rfl)) (fun _ _ _ h => h) (Or.inl ⟨by rfl, ?_⟩) hHeld ?_ ?_
                                      rotate_left
                                      · rintro w' ⟨s0, s1⟩
                                        go_simp
                                        with_reducible rfl
                                      rotate_left
                                      · simp only [Act.put, QR, QS, QT, QF, QI]
                                        rfl
                                      refine QN (i := 15) (N := some 82) (v := ?_) (a' := ?_) #[Y1,Y1,Y1,Y1,Y1,Y1,Y1,Y1,Y1,Y1,Y1,Y1,Y1,Y1,Y1,Y1,Y0,Y0,Y0] rfl rfl (QJ HT_.out (by kernel_rfl)) (fun _ _ _ h => h) (Or.inl ⟨by rfl, ?_⟩) ?_ ?_
                                      rotate_left
                                      · intro w'
                                        go_simp
                                        with_reducible rfl
                                      rotate_left
                                      · simp only [Act.put, QR, QS, QT, QF, QI]
                                        rfl
                                      refine last_ (i := 16) (N := some 83) #[Y1,Y1,Y1,Y1,Y1,Y1,Y1,Y1,Y1,Y1,Y1,Y1,Y1,Y1,Y1,Y1,Y1,Y0,Y0] rfl rfl (one_of HT_.out (by kernel_rfl)) (by decide) (fun K hK => ?_)
                                      refine value_ (w1 := ?_) (v := ?_) (by rfl) rfl ?_ ?_
                                      rotate_left 2
                                      · go_simp
                                        constructor
                                        · rfl
                                        · rfl
                                      refine hK.out _ _ ?_
                                      clear hK K
                                      refine norm_ (a' := ?_) ?_ ?_
                                      rotate_left
                                      · show Act.put _ (some 83) _ = _
                                        simp only [Act.put, QR, QS, QT, QF, QI]
                                        rfl
                                      refine last_ (i := 17) (N := some 84) #[Y1,Y1,Y1,Y1,Y1,Y1,Y1,Y1,Y1,Y1,Y1,Y1,Y1,Y1,Y1,Y1,Y1,Y1,Y0] rfl rfl (one_of HT_.out (by kernel_rfl)) (by decide) (fun K hK => ?_)
                                      refine Kd.R_append_step Kd.bool (w0 := w) w.heap.size (by rfl) (.tmp 70) (.tmp 83) 114 4 (.bool false) 1 rfl Try.underlying114 info4 rfl (by decide) (by omega) (.slice (some ad371) y379.length co59) y379 (rdOf false x5_2 (ji54)) [.bool (rdOf false x5_2 (ji54))] (fun _ => True) (fun _ => False) rfl rfl ?aP (fun _ hk => hk.elim) ?aF ?aO ?aB ?aS ?aL ?_
                                      (case aP => exact rfl)
                                      (case aB => exact (by repeat (first | (with_reducible first | exact HB.out | apply QE | apply QB | apply QC) | exact HB.out)))
                                      (case aF => exact (fun _ _ => trivial))
                                      (case aO => exact (by (with_reducible repeat (first | apply Kd.R_alloc | apply Kd.R_drewN | apply Kd.R_drew)); exact HO381.out))
                                      (case aS => exact (below_size (by repeat (first | (with_reducible first | exact HB.out | apply QE | apply QB | apply QC) | exact HB.out))))
                                      (case aL => have := LMc58.out; omega)
                                      intro v383 w62 ho hb hg hat
                                      rw [← Ny382.out] at ho
                                      have n0_ := QU (hb)
                                      have n1_ := QU (ho)
                                      clear HB
                                      clear HO381
                                      have HB := n0_
                                      have HO384 := n1_
                                      clear n0_ n1_
                                      clear ho hb hg hat
                                      refine hK.out _ _ ?_
                                      clear hK K
                                      refine norm_ (a' := ?_) ?_ ?_
                                      rotate_left
                                      · show Act.put _ (some 84) _ = _
                                        simp only [Act.put, QR, QS, QT, QF, QI]
                                        rfl
                                      refine QN (i := 18) (N := some 5) (v := ?_) (a' := ?_) #[Y1,Y1,Y1,Y1,Y1,Y1,Y1,Y1,Y1,Y1,Y1,Y1,Y1,Y1,Y1,Y1,Y1,Y1,Y1] rfl rfl (QJ HT_.out (by kernel_rfl)) (fun _ _ _ h => h) (Or.inl ⟨by rfl, ?_⟩) ?_ ?_
                                      rotate_left
                                      · intro w'
                                        go_simp
                                        with_reducible rfl
                                      rotate_left
                                      · simp only [Act.put, QR, QS, QT, QF, QI]
                                        rfl
                                      refine done_ (done_of HT_.out (by kernel_rfl)) ?_
                                      try go_wp2
                                      go_roundg k2
                                      case measure => have := HJ2.out; have := HK2.out; omega
                                      case rel => exact ⟨(y382), (wrap64 (x20_2 + 1)), (by first | rfl | (simp; done) | (simp [*]; done)), H', ⟨by have := HJ2.out; have := HK2.out; omega⟩, ⟨by (with_reducible repeat (first | apply Kd.R_alloc | apply Kd.R_drewN | apply Kd.R_drew)); exact HO384.out⟩, ⟨by repeat (first | (with_reducible first | exact HB.out | apply QE | apply QB | apply QC) | exact HB.out)⟩⟩
                                    · rw [if_neg c58] at H
                                      exact absurd H (by simp)
                                  · rw [if_neg c57] at H
                                    exact absurd H (by simp)
                                · rw [if_neg c56] at H
                                  exact absurd H (by simp)
                              · rw [if_neg c55] at H
                                exact absurd H (by simp)
                          · rw [if_neg c45] at H
                            exact absurd H (by simp)
                        · rw [if_neg c44] at H
                          exact absurd H (by simp)
                      · rw [if_neg c42] at H
                        have c42b0 : ((rd l0 x20_2) == (-3)) = false := beq_eq_false_iff_ne.mpr c42
                        have c42b1 : ((rd l0 x20_2) != (-3)) = true := bne_iff_ne.mpr c42
                        replace H := QV.mp H
                        obtain ⟨t385, A630, H⟩ := H
                        have A63 := QU A630
                        clear A630
                        by_cases c64 : x5_2.length < 140737488355328
                        · rw [if_pos c64] at H
                          have LMc64 := QU c64
                          clear c64
                          obtain ⟨y386, hy386⟩ : ∃ y_ : List Bool, y_ = (x5_2 ++ [t385]) := ⟨_, rfl⟩
                          replace H : (impl_Matches.l0 k2 a1 y386 l0 (l0.length : Int) (wrap64 (x20_2 + 1))) = some r := by first | (rw [hy386]; with_reducible exact H) | (have H2_ := (Option.bind_some _ _).symm.trans H; rw [hy386]; with_reducible exact H2_) | (have H2_ := (Option.bind_some _ _).symm.trans H; with_reducible exact H2_) | with_reducible exact H | (rw [hy386]; exact H) | exact H
                          have Ny386 := QU hy386
                          clear hy386
                          have H' := QU H
                          clear H
                          have p354 : 0 ≤ (x20_2 : Int) := of_decide_eq_true (by first | (with_reducible assumption) | assumption)
                          have q354 : x20_2 < (l0.length : Int) := of_decide_eq_true (by first | (with_reducible assumption) | assumption)
                          obtain ⟨ad354, e354, hx354_0⟩ := Kd.at_int HR0.out x20_2 p354 q354
                          cases e354
                          replace hx354_0 := (HB.out.cell (World.block_lt_of_cell? w _ hx354_0)).trans hx354_0
                          replace p354 := eq_true p354
                          replace q354 := eq_true q354
                          obtain ⟨Ao65, co65, eo65⟩ := Kd.R_slice HO_5.out
                          subst eo65
                          go_wp2_with (first | ((with_reducible refine QM (f := 127) rfl ?_); refine goesL_ (some 30) rfl rfl Try.func127 (by kernel_rfl) rfl #[.int .i64 (rd l0 x20_2), .int .i64 a1] rfl (by (try simp only [List.map_toArray, List.map_cons, List.map_nil]); first | done | rfl | (simp only [List.length_drop, List.length_take]; rfl)) ?_; (with_reducible refine (impl_asks.calls (rd l0 x20_2) a1 t385 _ A63.out).mono ?_); rintro e w' ⟨rfl, ⟨nd, rfl⟩⟩; refine ⟨_, rfl, ?_⟩) | ((with_reducible refine gate_builtin (b := .append) (xs := #[.tmp 27, .tmp 31]) rfl ?_); at_builtin; refine Kd.R_append Kd.bool (w0 := w) w.heap.size rfl (.tmp 27) (.tmp 31) 114 4 (.bool false) 1 rfl Try.underlying114 info4 rfl (by decide) (by omega) (.slice Ao65 x5_2.length co65) x5_2 t385 [.bool t385] (fun _ => True) (fun _ => False) rfl rfl ?aP (fun _ hk => hk.elim) ?aF ?aO ?aB ?aS ?aL ?_; (case aP => exact rfl); (case aB => exact (by repeat (first | (with_reducible first | exact HB.out | apply QE | apply QB | apply QC) | exact HB.out))); (case aF => exact (fun _ _ => trivial)); (case aO => exact (by (with_reducible repeat (first | apply Kd.R_alloc | apply Kd.R_drewN | apply Kd.R_drew)); exact HO_5.out)); (case aS => exact (below_size (by repeat (first | (with_reducible first | exact HB.out | apply QE | apply QB | apply QC) | exact HB.out)))); (case aL => have := LMc64.out; omega); intro v387 w66 ho hb hg hat; rw [← Ny386.out] at ho; have n0_ := QU (hb); have n1_ := QU (ho); clear HB; clear HO_5; have HB := n0_; have HO388 := n1_; clear n0_ n1_; clear ho hb hg hat))
                          go_roundg k2
                          case measure => have := HJ2.out; have := HK2.out; omega
                          case rel => exact ⟨(y386), (wrap64 (x20_2 + 1)), (by first | rfl | (simp; done) | (simp [*]; done)), H', ⟨by have := HJ2.out; have := HK2.out; omega⟩, ⟨by (with_reducible repeat (first | apply Kd.R_alloc | apply Kd.R_drewN | apply Kd.R_drew)); exact HO388.out⟩, ⟨by repeat (first | (with_reducible first | exact HB.out | apply QE | apply QB | apply QC) | exact HB.out)⟩⟩
                        · rw [if_neg c64] at H
                          exact absurd H (by simp)
                · rw [if_neg c12] at H
                  exact absurd H (by simp)
              · rw [if_neg c11] at H
                exact absurd H (by simp)
            · rw [if_neg c10] at H
              have c10b0 : decide (x20_2 < (l0.length : Int)) = false := decide_eq_false c10
              clear c10
              by_cases c67 : 0 < (x5_2.length : Int)
              · rw [if_pos c67] at H
                have c67b0 : decide (0 < (x5_2.length : Int)) = true := decide_eq_true c67
                have c67b1 : decide (0 < x5_2.length) = true := decide_eq_true (by omega)
                clear c67
                obtain rfl := Option.some.inj H
                obtain ⟨Ao68, co68, eo68⟩ := Kd.R_slice HO_5.out
                subst eo68
                have p353 : 0 ≤ (0 : Int) := (by omega)
                have q353 : 0 < (x5_2.length : Int) := of_decide_eq_true (by first | (with_reducible assumption) | assumption)
                obtain ⟨ad353, e353, hx353_0⟩ := Kd.at_bool (Kd.R_reads' HO_5.out).2.2 0 p353 q353
                cases e353
                have qi353 : (0 < x5_2.length) = True := eq_true (by omega)
                (try rw [show ((0 : Int)).toNat = 0 from rfl] at hx353_0)
                (try rw [Addr.add_zero'] at hx353_0)
                replace p353 := eq_true p353
                replace q353 := eq_true q353
                go_wp2
                go_ret
                exact ⟨by first | rfl | (simp [errW_none, errW_some] <;> rfl) | (simp [*, errW_none, errW_some] <;> rfl), by repeat (first | (with_reducible first | exact HB.out | apply QE | apply QB | apply QC) | exact HB.out)⟩
              · rw [if_neg c67] at H
                exact absurd H (by simp)

end Go.Proofs.Ytdakhelapeojgaa.QFnRules
