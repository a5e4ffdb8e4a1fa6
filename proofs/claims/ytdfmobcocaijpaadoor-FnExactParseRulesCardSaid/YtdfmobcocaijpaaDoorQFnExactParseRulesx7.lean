/- What a call of each Go function that FnExactParseRules reaches comes to, as a Lean function: texts of the kit's print, turned by wip/remake.py. No condition beyond what each names. -/
import Derived.Test.YtdfmobcocaijpaaDoorQFnExactParseRulesx6
namespace Go.Proofs.YtdfmobcocaijpaaDoor.QFnExactParseRules
open Go.RowKit Go.Proofs.YtdfmobcocaijpaaDoorW.PrintWords Go.Proofs.YtdfmobcocaijpaaDoorW.PrintLast Go.Proofs.YtdfmobcocaijpaaDoorW.PrintMore
open Go.Proofs.YtdfmobcocaijpaaDoorW.PrintWords renaming blk_frozen → QB, blk_drewN → QF, blk_alloc → QG, blk_cell → QH, blk_drew → QJ, pw_below_drewN → QK, below_set → QM, below_alloc → QO, below_drew1 → QP
open Go.Proofs.YtdfmobcocaijpaaDoorW.PrintMore renaming far_r → QC
open Go.Proofs.YtdfmobcocaijpaaDoorW.PrintWords.Kd renaming R_alloc → QD, R_drewN → QE, R_drew → QI, R_mono → QL, R_reads' → QN, R_below → QR, R_types → QS
open Go.Proofs.YtdfmobcocaijpaaDoorW.PrintWords.Aside0 renaming mk → QT
attribute [local go_sem] max2_int min2_int max_two min_two max_three min_three max_four min_four   -- for this text's walks alone
set_option linter.unusedVariables false
set_option linter.unusedSimpArgs false

/-! ### laws_FnExactParseRules: function 4 -/
mutual
def laws_FnExactParseRules.j0 : Nat → ByteArray → Bool → Bool → Int → Int → Bool → Bool → List Int → List Int → Int → Int → Int → Int → Bool → Bool → List Int → List Int → Int → Int → Option (Bool)
 | 0, _, _, _, _, _, _, _, _, _, _, _, _, _, _, _, _, _, _, _ => none
 | k + 1, x0, x4, x32, x487000, x487001, x487002, x487003, x487004, x487005, x487006, x487007, x501000, x501001, x501002, x501003, x501004, x501005, x501006, x501007 => if x32 = true then (some false) else ((laws_markRules.f k x501000 x501001 x501002 x501003 x501004 x501005 x501006 x501007 1).bind fun bt502 => ((laws_heldRules.f k x501000 x501001 x501002 x501003 bt502.2.1 bt502.2.2 x501006 x501007 1).bind fun t505 => (if t505 < 0 then (some false) else (if t505 = bt502.1 then ((impl_ParseRules.f k x0).bind fun bt506 => ((laws_eqRules.f k bt506.1 bt506.2.1 bt506.2.2.1 bt506.2.2.2.1 bt506.2.2.2.2.1 bt506.2.2.2.2.2.1 bt506.2.2.2.2.2.2.1 bt506.2.2.2.2.2.2.2.1 x487000 x487001 x487002 x487003 x487004 x487005 x487006 x487007).bind fun t520 => (if t520 = true then (laws_FnExactParseRules.j1 k bt502.1 (bt506.2.2.2.2.2.2.2.2 != x4) x501000 x501001 x501002 x501003 bt502.2.1 bt502.2.2 x501006 x501007) else (laws_FnExactParseRules.j1 k bt502.1 true x501000 x501001 x501002 x501003 bt502.2.1 bt502.2.2 x501006 x501007)))) else (some false)))))
def laws_FnExactParseRules.j1 : Nat → Int → Bool → Int → Int → Bool → Bool → List Int → List Int → Int → Int → Option (Bool)
 | 0, _, _, _, _, _, _, _, _, _, _ => none
 | k + 1, x7, x57, x501000, x501001, x501002, x501003, x501004, x501005, x501006, x501007 => if x57 = true then (some false) else ((laws_heldRules.f k x501000 x501001 x501002 x501003 x501004 x501005 x501006 x501007 1).bind fun t521 => (if t521 < 0 then (some false) else (if t521 = x7 then (some true) else (some false))))
end
def laws_FnExactParseRules.f (k : Nat) (a0 : ByteArray) : Option (Bool) := if (a0.size : Int) > 1048576 then (some true) else ((spec_ParseRules.f k a0).bind fun bt473 => ((impl_ParseRules.f k a0).bind fun bt487 => ((laws_eqRules.f k bt487.1 bt487.2.1 bt487.2.2.1 bt487.2.2.2.1 bt487.2.2.2.2.1 bt487.2.2.2.2.2.1 bt487.2.2.2.2.2.2.1 bt487.2.2.2.2.2.2.2.1 bt473.1 bt473.2.1 bt473.2.2.1 bt473.2.2.2.1 bt473.2.2.2.2.1 bt473.2.2.2.2.2.1 bt473.2.2.2.2.2.2.1 bt473.2.2.2.2.2.2.2.1).bind fun t501 => (if t501 = true then (laws_FnExactParseRules.j0 k a0 bt473.2.2.2.2.2.2.2.2 (bt487.2.2.2.2.2.2.2.2 != bt473.2.2.2.2.2.2.2.2) bt473.1 bt473.2.1 bt473.2.2.1 bt473.2.2.2.1 bt473.2.2.2.2.1 bt473.2.2.2.2.2.1 bt473.2.2.2.2.2.2.1 bt473.2.2.2.2.2.2.2.1 bt487.1 bt487.2.1 bt487.2.2.1 bt487.2.2.2.1 bt487.2.2.2.2.1 bt487.2.2.2.2.2.1 bt487.2.2.2.2.2.2.1 bt487.2.2.2.2.2.2.2.1) else (laws_FnExactParseRules.j0 k a0 bt473.2.2.2.2.2.2.2.2 true bt473.1 bt473.2.1 bt473.2.2.1 bt473.2.2.2.1 bt473.2.2.2.2.1 bt473.2.2.2.2.2.1 bt473.2.2.2.2.2.2.1 bt473.2.2.2.2.2.2.2.1 bt487.1 bt487.2.1 bt487.2.2.1 bt487.2.2.2.1 bt487.2.2.2.2.1 bt487.2.2.2.2.2.1 bt487.2.2.2.2.2.2.1 bt487.2.2.2.2.2.2.2.1)))))
theorem laws_FnExactParseRules.mono_l : ∀ k, (∀ y0 y1 y2 y3 y4 y5 y6 y7 y8 y9 y10 y11 y12 y13 y14 y15 y16 y17 y18, LeO (laws_FnExactParseRules.j0 k y0 y1 y2 y3 y4 y5 y6 y7 y8 y9 y10 y11 y12 y13 y14 y15 y16 y17 y18) (laws_FnExactParseRules.j0 (k + 1) y0 y1 y2 y3 y4 y5 y6 y7 y8 y9 y10 y11 y12 y13 y14 y15 y16 y17 y18)) ∧ (∀ y0 y1 y2 y3 y4 y5 y6 y7 y8 y9, LeO (laws_FnExactParseRules.j1 k y0 y1 y2 y3 y4 y5 y6 y7 y8 y9) (laws_FnExactParseRules.j1 (k + 1) y0 y1 y2 y3 y4 y5 y6 y7 y8 y9))
 | 0 => ⟨fun _ _ _ _ _ _ _ _ _ _ _ _ _ _ _ _ _ _ _ r h => by simp [laws_FnExactParseRules.j0] at h, fun _ _ _ _ _ _ _ _ _ _ r h => by simp [laws_FnExactParseRules.j1] at h⟩
 | k + 1 => by
  obtain ⟨ih0, ih1⟩ := laws_FnExactParseRules.mono_l k
  refine ⟨?_, ?_⟩
  ·intro y0 y1 y2 y3 y4 y5 y6 y7 y8 y9 y10 y11 y12 y13 y14 y15 y16 y17 y18
   unfold laws_FnExactParseRules.j0
   repeat' first
   | (with_reducible exact ih0 _ _ _ _ _ _ _ _ _ _ _ _ _ _ _ _ _ _ _)
   | (with_reducible exact ih1 _ _ _ _ _ _ _ _ _ _)
   | (with_reducible exact impl_ParseRules.mono _ _)
   | (with_reducible exact laws_eqRules.mono _ _ _ _ _ _ _ _ _ _ _ _ _ _ _ _ _)
   | (with_reducible exact laws_heldRules.mono _ _ _ _ _ _ _ _ _ _)
   | (with_reducible exact laws_markRules.mono _ _ _ _ _ _ _ _ _ _)
   | (with_reducible exact spec_ParseRules.mono _ _)
   | (with_reducible exact LeO.refl _)
   | (with_reducible exact LeO.none _)
   | (with_reducible refine LeO.ite ?_ ?_)
   | (with_reducible refine LeO.bind ?_ (fun _ => ?_))
   | exact ih0 _ _ _ _ _ _ _ _ _ _ _ _ _ _ _ _ _ _ _
   | exact ih1 _ _ _ _ _ _ _ _ _ _
   | exact impl_ParseRules.mono _ _
   | exact laws_eqRules.mono _ _ _ _ _ _ _ _ _ _ _ _ _ _ _ _ _
   | exact laws_heldRules.mono _ _ _ _ _ _ _ _ _ _
   | exact laws_markRules.mono _ _ _ _ _ _ _ _ _ _
   | exact spec_ParseRules.mono _ _
   | exact LeO.none _
   | refine LeO.ite ?_ ?_
   | refine LeO.bind ?_ (fun _ => ?_)
  ·intro y0 y1 y2 y3 y4 y5 y6 y7 y8 y9
   unfold laws_FnExactParseRules.j1
   repeat' first
   | (with_reducible exact ih0 _ _ _ _ _ _ _ _ _ _ _ _ _ _ _ _ _ _ _)
   | (with_reducible exact ih1 _ _ _ _ _ _ _ _ _ _)
   | (with_reducible exact impl_ParseRules.mono _ _)
   | (with_reducible exact laws_eqRules.mono _ _ _ _ _ _ _ _ _ _ _ _ _ _ _ _ _)
   | (with_reducible exact laws_heldRules.mono _ _ _ _ _ _ _ _ _ _)
   | (with_reducible exact laws_markRules.mono _ _ _ _ _ _ _ _ _ _)
   | (with_reducible exact spec_ParseRules.mono _ _)
   | (with_reducible exact LeO.refl _)
   | (with_reducible exact LeO.none _)
   | (with_reducible refine LeO.ite ?_ ?_)
   | (with_reducible refine LeO.bind ?_ (fun _ => ?_))
   | exact ih0 _ _ _ _ _ _ _ _ _ _ _ _ _ _ _ _ _ _ _
   | exact ih1 _ _ _ _ _ _ _ _ _ _
   | exact impl_ParseRules.mono _ _
   | exact laws_eqRules.mono _ _ _ _ _ _ _ _ _ _ _ _ _ _ _ _ _
   | exact laws_heldRules.mono _ _ _ _ _ _ _ _ _ _
   | exact laws_markRules.mono _ _ _ _ _ _ _ _ _ _
   | exact spec_ParseRules.mono _ _
   | exact LeO.none _
   | refine LeO.ite ?_ ?_
   | refine LeO.bind ?_ (fun _ => ?_)
theorem laws_FnExactParseRules.mono : ∀ a0 k, LeO (laws_FnExactParseRules.f k a0) (laws_FnExactParseRules.f (k + 1) a0) := by
 intro a0 k
 obtain ⟨ih0, ih1⟩ := laws_FnExactParseRules.mono_l k
 unfold laws_FnExactParseRules.f
 repeat' first
   | (with_reducible exact ih0 _ _ _ _ _ _ _ _ _ _ _ _ _ _ _ _ _ _ _)
   | (with_reducible exact ih1 _ _ _ _ _ _ _ _ _ _)
   | (with_reducible exact impl_ParseRules.mono _ _)
   | (with_reducible exact laws_eqRules.mono _ _ _ _ _ _ _ _ _ _ _ _ _ _ _ _ _)
   | (with_reducible exact laws_heldRules.mono _ _ _ _ _ _ _ _ _ _)
   | (with_reducible exact laws_markRules.mono _ _ _ _ _ _ _ _ _ _)
   | (with_reducible exact spec_ParseRules.mono _ _)
   | (with_reducible exact LeO.refl _)
   | (with_reducible exact LeO.none _)
   | (with_reducible refine LeO.ite ?_ ?_)
   | (with_reducible refine LeO.bind ?_ (fun _ => ?_))
   | exact ih0 _ _ _ _ _ _ _ _ _ _ _ _ _ _ _ _ _ _ _
   | exact ih1 _ _ _ _ _ _ _ _ _ _
   | exact impl_ParseRules.mono _ _
   | exact laws_eqRules.mono _ _ _ _ _ _ _ _ _ _ _ _ _ _ _ _ _
   | exact laws_heldRules.mono _ _ _ _ _ _ _ _ _ _
   | exact laws_markRules.mono _ _ _ _ _ _ _ _ _ _
   | exact spec_ParseRules.mono _ _
   | exact LeO.none _
   | refine LeO.ite ?_ ?_
   | refine LeO.bind ?_ (fun _ => ?_)
set_option maxHeartbeats 8000000 in
set_option maxRecDepth 100000 in
theorem laws_FnExactParseRules.calls (k : Nat) (a0 : ByteArray) (r : Bool) (w : World) (ht : LaidE w) (h : laws_FnExactParseRules.f k a0 = some r) (hT : r = true) :
  Calls Tryd.prog 4 #[.string a0] w fun e w' => e = .returned (.bool r) ∧ Below w.heap.size w w' := by
 have HTAB := QT ht
 clear ht
 have HT := QT hT
 clear hT
 have hu26 := Tryd.underlying26
 have HB := QT (Below.refl w.heap.size w)
 have H : (if (a0.size : Int) > 1048576 then (some true) else ((spec_ParseRules.f k a0).bind fun bt473 => ((impl_ParseRules.f k a0).bind fun bt487 => ((laws_eqRules.f k bt487.1 bt487.2.1 bt487.2.2.1 bt487.2.2.2.1 bt487.2.2.2.2.1 bt487.2.2.2.2.2.1 bt487.2.2.2.2.2.2.1 bt487.2.2.2.2.2.2.2.1 bt473.1 bt473.2.1 bt473.2.2.1 bt473.2.2.2.1 bt473.2.2.2.2.1 bt473.2.2.2.2.2.1 bt473.2.2.2.2.2.2.1 bt473.2.2.2.2.2.2.2.1).bind fun t501 => (if t501 = true then (laws_FnExactParseRules.j0 k a0 bt473.2.2.2.2.2.2.2.2 (bt487.2.2.2.2.2.2.2.2 != bt473.2.2.2.2.2.2.2.2) bt473.1 bt473.2.1 bt473.2.2.1 bt473.2.2.2.1 bt473.2.2.2.2.1 bt473.2.2.2.2.2.1 bt473.2.2.2.2.2.2.1 bt473.2.2.2.2.2.2.2.1 bt487.1 bt487.2.1 bt487.2.2.1 bt487.2.2.2.1 bt487.2.2.2.2.1 bt487.2.2.2.2.2.1 bt487.2.2.2.2.2.2.1 bt487.2.2.2.2.2.2.2.1) else (laws_FnExactParseRules.j0 k a0 bt473.2.2.2.2.2.2.2.2 true bt473.1 bt473.2.1 bt473.2.2.1 bt473.2.2.2.1 bt473.2.2.2.2.1 bt473.2.2.2.2.2.1 bt473.2.2.2.2.2.2.1 bt473.2.2.2.2.2.2.2.1 bt487.1 bt487.2.1 bt487.2.2.1 bt487.2.2.2.1 bt487.2.2.2.2.1 bt487.2.2.2.2.2.1 bt487.2.2.2.2.2.2.1 bt487.2.2.2.2.2.2.2.1)))))) = some r := h
 clear h
 by_cases c2 : (a0.size : Int) > 1048576
 ·rw [if_pos c2] at H
  have c2b0 : decide (1048576 < (a0.size : Int)) = true := decide_eq_true c2
  have c2b1 : decide (1048576 < a0.size) = true := decide_eq_true (by omega)
  clear c2
  obtain rfl := Option.some.inj H
  go_enter Tryd.func4, Tryd.ntmps4
  go_wp2
  go_ret
  exact ⟨by first | rfl | (simp [errW_none, errW_some] <;> rfl) | (simp [*, errW_none, errW_some] <;> rfl), by repeat (first | (with_reducible first | exact HB.out | apply QO | apply QK | apply QP) | exact HB.out)⟩
 ·rw [if_neg c2] at H
  have c2b0 : decide (1048576 < (a0.size : Int)) = false := decide_eq_false c2
  have c2b1 : decide (1048576 < a0.size) = false := decide_eq_false (by omega)
  clear c2
  replace H := Option.bind_eq_some_iff.mp H
  obtain ⟨⟨t473, t474, t475, t476, t477, t480, t483, t484, t485⟩, A30, H⟩ := H
  replace H : ((impl_ParseRules.f k a0).bind fun bt487 => ((laws_eqRules.f k bt487.1 bt487.2.1 bt487.2.2.1 bt487.2.2.2.1 bt487.2.2.2.2.1 bt487.2.2.2.2.2.1 bt487.2.2.2.2.2.2.1 bt487.2.2.2.2.2.2.2.1 t473 t474 t475 t476 t477 t480 t483 t484).bind fun t501 => (if t501 = true then (laws_FnExactParseRules.j0 k a0 t485 (bt487.2.2.2.2.2.2.2.2 != t485) t473 t474 t475 t476 t477 t480 t483 t484 bt487.1 bt487.2.1 bt487.2.2.1 bt487.2.2.2.1 bt487.2.2.2.2.1 bt487.2.2.2.2.2.1 bt487.2.2.2.2.2.2.1 bt487.2.2.2.2.2.2.2.1) else (laws_FnExactParseRules.j0 k a0 t485 true t473 t474 t475 t476 t477 t480 t483 t484 bt487.1 bt487.2.1 bt487.2.2.1 bt487.2.2.2.1 bt487.2.2.2.2.1 bt487.2.2.2.2.2.1 bt487.2.2.2.2.2.2.1 bt487.2.2.2.2.2.2.2.1)))) = some r := H
  have A3 := QT A30
  clear A30
  replace H := Option.bind_eq_some_iff.mp H
  obtain ⟨⟨t487, t488, t489, t490, t491, t494, t497, t498, t499⟩, A40, H⟩ := H
  replace H : ((laws_eqRules.f k t487 t488 t489 t490 t491 t494 t497 t498 t473 t474 t475 t476 t477 t480 t483 t484).bind fun t501 => (if t501 = true then (laws_FnExactParseRules.j0 k a0 t485 (t499 != t485) t473 t474 t475 t476 t477 t480 t483 t484 t487 t488 t489 t490 t491 t494 t497 t498) else (laws_FnExactParseRules.j0 k a0 t485 true t473 t474 t475 t476 t477 t480 t483 t484 t487 t488 t489 t490 t491 t494 t497 t498))) = some r := H
  have A4 := QT A40
  clear A40
  have HC5 := QT H
  clear H
  go_enter Tryd.func4, Tryd.ntmps4
  go_upto_region 5 with (first | ((with_reducible refine gate_callee (f := 18) rfl ?_); refine goesL_ (some 16) rfl rfl Tryd.func18 (by kernel_rfl) rfl #[.string a0] rfl (by (try simp only [List.map_toArray, List.map_cons, List.map_nil]); first | done | rfl | (simp only [List.length_drop, List.length_take]; rfl)) ?_; (with_reducible refine (spec_ParseRules.calls k a0 t473 t474 t475 t476 t477 t480 t483 t484 t485 _ A3.out).mono ?_); rintro e w6 ⟨v478, v481, rfl, ho0, ho1, hb⟩; refine ⟨_, rfl, ?_⟩; have n0_ := QT (Kd.R_lower ho0 (below_size (by repeat (first | (with_reducible first | exact HB.out | apply QO | apply QK | apply QP) | exact HB.out)))); have n1_ := QT (Kd.R_lower ho1 (below_size (by repeat (first | (with_reducible first | exact HB.out | apply QO | apply QK | apply QP) | exact HB.out)))); have n2_ := QT (below_step (by repeat (first | (with_reducible first | exact HB.out | apply QO | apply QK | apply QP) | exact HB.out)) hb); clear HB; have HO479 := n0_; have HO482 := n1_; have HB := n2_; clear n0_ n1_ n2_; (try clear hb); (try clear hb2); (try clear hk); (try clear hi); (try clear ho0); (try clear ho1)) | ((with_reducible refine gate_dst (N := 3) rfl ?_); refine box_event ?hg (N := 3) ?hd (cs := #[.int .i64 0, .int .i64 0, .bool false, .bool false, .slice none 0 0, .slice none 0 0, .int .i64 0, .int .i64 0]) (t := 26) ?hr ?_; (case hd => rfl); (case hg => rfl); (case hr => first | (go_simp; done) | (go_simp; rfl)); intro gb486 hg w7 hbox hb; have n0_ := QT (QR (by (with_reducible repeat (first | apply QD | apply QE | apply QI)); exact HO479.out) hb); have n1_ := QT (QR (by (with_reducible repeat (first | apply QD | apply QE | apply QI)); exact HO482.out) hb); have n2_ := QT (below_step (by repeat (first | (with_reducible first | exact HB.out | apply QO | apply QK | apply QP) | exact HB.out)) hb); have n3_ := QT (hbox); have n4_ := QT ((by rw [hg]; exact (below_size (by repeat (first | (with_reducible first | exact HB.out | apply QO | apply QK | apply QP) | exact HB.out))) : w.heap.size ≤ gb486)); have n5_ := QT ((by rw [hg]; exact (below_size (by repeat (first | (with_reducible first | exact HB.out | apply QO | apply QK | apply QP) | exact HB.out))) : w.heap.size ≤ gb486)); clear HO479; clear HO482; clear HB; have HO479 := n0_; have HO482 := n1_; have HB := n2_; have BK486 := n3_; have GW486 := n4_; have GE486 := n5_; clear n0_ n1_ n2_ n3_ n4_ n5_; clear hb hbox hg; have hcz8_0 : w7.cell? ⟨gb486, 0, none⟩ = some (.int .i64 0) := (QH BK486.out 0).trans rfl; have hcz8_1 : w7.cell? ⟨gb486, 1, none⟩ = some (.int .i64 0) := (QH BK486.out 1).trans rfl; have hcz8_2 : w7.cell? ⟨gb486, 2, none⟩ = some (.bool false) := (QH BK486.out 2).trans rfl; have hcz8_3 : w7.cell? ⟨gb486, 3, none⟩ = some (.bool false) := (QH BK486.out 3).trans rfl; have hcz8_4 : w7.cell? ⟨gb486, 4, none⟩ = some (.slice none 0 0) := (QH BK486.out 4).trans rfl; have hcz8_5 : w7.cell? ⟨gb486, 5, none⟩ = some (.slice none 0 0) := (QH BK486.out 5).trans rfl; have hcz8_6 : w7.cell? ⟨gb486, 6, none⟩ = some (.int .i64 0) := (QH BK486.out 6).trans rfl; have hcz8_7 : w7.cell? ⟨gb486, 7, none⟩ = some (.int .i64 0) := (QH BK486.out 7).trans rfl; have hfz8_0 := QB BK486.out 0; have hfz8_1 := QB BK486.out 1; have hfz8_2 := QB BK486.out 2; have hfz8_3 := QB BK486.out 3; have hfz8_4 := QB BK486.out 4; have hfz8_5 := QB BK486.out 5; have hfz8_6 := QB BK486.out 6; have hfz8_7 := QB BK486.out 7; obtain ⟨Ao9, co9, eo9⟩ := Kd.R_slice HO479.out; subst eo9; obtain ⟨Ao10, co10, eo10⟩ := Kd.R_slice HO482.out; subst eo10) | ((with_reducible refine gate_callee (f := 8) rfl ?_); refine goesL_ (some 21) rfl rfl Tryd.func8 (by kernel_rfl) rfl #[.string a0] rfl (by (try simp only [List.map_toArray, List.map_cons, List.map_nil]); first | done | rfl | (simp only [List.length_drop, List.length_take]; rfl)) ?_; (with_reducible refine (impl_ParseRules.calls k a0 t487 t488 t489 t490 t491 t494 t497 t498 t499 _ ?ht_ A4.out).mono ?_); (case ht_ => exact HTAB.out.at (by repeat (first | (with_reducible first | exact HB.out | apply QO | apply QK | apply QP | refine QM ?_ GE486.out) | exact HB.out))); rintro e w11 ⟨v492, v495, rfl, ho0, ho1, hb⟩; refine ⟨_, rfl, ?_⟩; have n0_ := QT (QL (Kd.R_told (Kd.R_told (Kd.R_old (by (with_reducible repeat (first | apply QD | apply QE | apply QI)); exact (QL (QC (QC (QC (QC (QC (QC (QC (QC (QS HO479.out BK486.out (by decide)))))))))) (fun _ h_ => h_.1))) hb) (Kd.R_base ho0)) (Kd.R_base ho1)) (fun _ h_ => h_.1)); have n1_ := QT (QL (Kd.R_told (Kd.R_told (Kd.R_old (by (with_reducible repeat (first | apply QD | apply QE | apply QI)); exact (QL (QC (QC (QC (QC (QC (QC (QC (QC (QS HO482.out BK486.out (by decide)))))))))) (fun _ h_ => h_.1))) hb) (Kd.R_base ho0)) (Kd.R_base ho1)) (fun _ h_ => h_.1)); have n2_ := QT (Kd.R_lower (Kd.R_new' (Kd.R_new' ho0 (Kd.R_lt (by (with_reducible repeat (first | apply QD | apply QE | apply QI)); exact (QL (QC (QC (QC (QC (QC (QC (QC (QC (QS HO479.out BK486.out (by decide)))))))))) (fun _ h_ => h_.1))))) (Kd.R_lt (by (with_reducible repeat (first | apply QD | apply QE | apply QI)); exact (QL (QC (QC (QC (QC (QC (QC (QC (QC (QS HO482.out BK486.out (by decide)))))))))) (fun _ h_ => h_.1))))) (below_size (by repeat (first | (with_reducible first | exact HB.out | apply QO | apply QK | apply QP | refine QM ?_ GE486.out) | exact HB.out)))); have n3_ := QT (Kd.R_lower (Kd.R_new' (Kd.R_new' ho1 (Kd.R_lt (by (with_reducible repeat (first | apply QD | apply QE | apply QI)); exact (QL (QC (QC (QC (QC (QC (QC (QC (QC (QS HO479.out BK486.out (by decide)))))))))) (fun _ h_ => h_.1))))) (Kd.R_lt (by (with_reducible repeat (first | apply QD | apply QE | apply QI)); exact (QL (QC (QC (QC (QC (QC (QC (QC (QC (QS HO482.out BK486.out (by decide)))))))))) (fun _ h_ => h_.1))))) (below_size (by repeat (first | (with_reducible first | exact HB.out | apply QO | apply QK | apply QP | refine QM ?_ GE486.out) | exact HB.out)))); have n4_ := QT (blk_below (g := gb486) (o := .cells #[.int .i64 t473, .int .i64 t474, .bool t475, .bool t476, .slice Ao9 t477.length co9, .slice Ao10 t480.length co10, .int .i64 t483, .int .i64 t484] 26 (0, 0)) (by (with_reducible repeat (first | refine QF ?_ _ | refine QJ ?_ | refine QG ?_ _)); refine blk_put (cs := #[.int .i64 t473, .int .i64 t474, .bool t475, .bool t476, .slice Ao9 t477.length co9, .slice Ao10 t480.length co10, .int .i64 t483, .int .i64 0]) ?_ 7 _ rfl; (with_reducible repeat (first | refine QF ?_ _ | refine QJ ?_ | refine QG ?_ _)); refine blk_put (cs := #[.int .i64 t473, .int .i64 t474, .bool t475, .bool t476, .slice Ao9 t477.length co9, .slice Ao10 t480.length co10, .int .i64 0, .int .i64 0]) ?_ 6 _ rfl; (with_reducible repeat (first | refine QF ?_ _ | refine QJ ?_ | refine QG ?_ _)); refine blk_put (cs := #[.int .i64 t473, .int .i64 t474, .bool t475, .bool t476, .slice Ao9 t477.length co9, .slice none 0 0, .int .i64 0, .int .i64 0]) ?_ 5 _ rfl; (with_reducible repeat (first | refine QF ?_ _ | refine QJ ?_ | refine QG ?_ _)); refine blk_put (cs := #[.int .i64 t473, .int .i64 t474, .bool t475, .bool t476, .slice none 0 0, .slice none 0 0, .int .i64 0, .int .i64 0]) ?_ 4 _ rfl; (with_reducible repeat (first | refine QF ?_ _ | refine QJ ?_ | refine QG ?_ _)); refine blk_put (cs := #[.int .i64 t473, .int .i64 t474, .bool t475, .bool false, .slice none 0 0, .slice none 0 0, .int .i64 0, .int .i64 0]) ?_ 3 _ rfl; (with_reducible repeat (first | refine QF ?_ _ | refine QJ ?_ | refine QG ?_ _)); refine blk_put (cs := #[.int .i64 t473, .int .i64 t474, .bool false, .bool false, .slice none 0 0, .slice none 0 0, .int .i64 0, .int .i64 0]) ?_ 2 _ rfl; (with_reducible repeat (first | refine QF ?_ _ | refine QJ ?_ | refine QG ?_ _)); refine blk_put (cs := #[.int .i64 t473, .int .i64 0, .bool false, .bool false, .slice none 0 0, .slice none 0 0, .int .i64 0, .int .i64 0]) ?_ 1 _ rfl; (with_reducible repeat (first | refine QF ?_ _ | refine QJ ?_ | refine QG ?_ _)); refine blk_put (cs := #[.int .i64 0, .int .i64 0, .bool false, .bool false, .slice none 0 0, .slice none 0 0, .int .i64 0, .int .i64 0]) ?_ 0 _ rfl; (with_reducible repeat (first | refine QF ?_ _ | refine QJ ?_ | refine QG ?_ _)); exact BK486.out) hb); have n5_ := QT (below_step (by repeat (first | (with_reducible first | exact HB.out | apply QO | apply QK | apply QP | refine QM ?_ GE486.out) | exact HB.out)) hb); clear HO479; clear HO482; clear BK486; clear HB; have HO479 := n0_; have HO482 := n1_; have HO493 := n2_; have HO496 := n3_; have BK486 := n4_; have HB := n5_; clear n0_ n1_ n2_ n3_ n4_ n5_; (try clear hb); (try clear hb2); (try clear hk); (try clear hi); (try clear ho0); (try clear ho1)) | ((with_reducible refine gate_dst (N := 5) rfl ?_); refine box_event ?hg (N := 5) ?hd (cs := #[.int .i64 0, .int .i64 0, .bool false, .bool false, .slice none 0 0, .slice none 0 0, .int .i64 0, .int .i64 0]) (t := 26) ?hr ?_; (case hd => rfl); (case hg => rfl); (case hr => first | (go_simp; done) | (go_simp; rfl)); intro gb500 hg w12 hbox hb; have n0_ := QT (QR (by (with_reducible repeat (first | apply QD | apply QE | apply QI)); exact HO479.out) hb); have n1_ := QT (QR (by (with_reducible repeat (first | apply QD | apply QE | apply QI)); exact HO482.out) hb); have n2_ := QT (QR (by (with_reducible repeat (first | apply QD | apply QE | apply QI)); exact HO493.out) hb); have n3_ := QT (QR (by (with_reducible repeat (first | apply QD | apply QE | apply QI)); exact HO496.out) hb); have n4_ := QT (blk_below (g := gb486) (o := .cells #[.int .i64 t473, .int .i64 t474, .bool t475, .bool t476, .slice Ao9 t477.length co9, .slice Ao10 t480.length co10, .int .i64 t483, .int .i64 t484] 26 (0, 0)) (by (with_reducible repeat (first | refine QF ?_ _ | refine QJ ?_ | refine QG ?_ _)); exact BK486.out) hb); have n5_ := QT (below_step (by repeat (first | (with_reducible first | exact HB.out | apply QO | apply QK | apply QP | refine QM ?_ GE486.out) | exact HB.out)) hb); have n6_ := QT (hbox); have n7_ := QT ((by rw [hg]; exact (below_size (by repeat (first | (with_reducible first | exact HB.out | apply QO | apply QK | apply QP | refine QM ?_ GE486.out) | exact HB.out))) : w.heap.size ≤ gb500)); have n8_ := QT ((by rw [hg]; exact (below_size (by repeat (first | (with_reducible first | exact HB.out | apply QO | apply QK | apply QP | refine QM ?_ GE486.out) | exact HB.out))) : w.heap.size ≤ gb500)); have n9_ := QT ((by rw [hg]; exact Nat.ne_of_lt (blk_lt (g := gb486) (o := .cells #[.int .i64 t473, .int .i64 t474, .bool t475, .bool t476, .slice Ao9 t477.length co9, .slice Ao10 t480.length co10, .int .i64 t483, .int .i64 t484] 26 (0, 0)) (by (with_reducible repeat (first | refine QF ?_ _ | refine QJ ?_ | refine QG ?_ _)); exact BK486.out)) : gb486 ≠ gb500)); have n10_ := QT ((by rw [hg]; exact Nat.ne_of_gt (blk_lt (g := gb486) (o := .cells #[.int .i64 t473, .int .i64 t474, .bool t475, .bool t476, .slice Ao9 t477.length co9, .slice Ao10 t480.length co10, .int .i64 t483, .int .i64 t484] 26 (0, 0)) (by (with_reducible repeat (first | refine QF ?_ _ | refine QJ ?_ | refine QG ?_ _)); exact BK486.out)) : gb500 ≠ gb486)); clear HO479; clear HO482; clear HO493; clear HO496; clear BK486; clear HB; have HO479 := n0_; have HO482 := n1_; have HO493 := n2_; have HO496 := n3_; have BK486 := n4_; have HB := n5_; have BK500 := n6_; have GW500 := n7_; have GE500 := n8_; have NB486_500 := n9_; have NB500_486 := n10_; clear n0_ n1_ n2_ n3_ n4_ n5_ n6_ n7_ n8_ n9_ n10_; clear hb hbox hg; have hnb13 := NB500_486.out; have hnc13 := NB486_500.out; have hcz14_0 : w12.cell? ⟨gb500, 0, none⟩ = some (.int .i64 0) := (QH BK500.out 0).trans rfl; have hcz14_1 : w12.cell? ⟨gb500, 1, none⟩ = some (.int .i64 0) := (QH BK500.out 1).trans rfl; have hcz14_2 : w12.cell? ⟨gb500, 2, none⟩ = some (.bool false) := (QH BK500.out 2).trans rfl; have hcz14_3 : w12.cell? ⟨gb500, 3, none⟩ = some (.bool false) := (QH BK500.out 3).trans rfl; have hcz14_4 : w12.cell? ⟨gb500, 4, none⟩ = some (.slice none 0 0) := (QH BK500.out 4).trans rfl; have hcz14_5 : w12.cell? ⟨gb500, 5, none⟩ = some (.slice none 0 0) := (QH BK500.out 5).trans rfl; have hcz14_6 : w12.cell? ⟨gb500, 6, none⟩ = some (.int .i64 0) := (QH BK500.out 6).trans rfl; have hcz14_7 : w12.cell? ⟨gb500, 7, none⟩ = some (.int .i64 0) := (QH BK500.out 7).trans rfl; have hfz14_0 := QB BK500.out 0; have hfz14_1 := QB BK500.out 1; have hfz14_2 := QB BK500.out 2; have hfz14_3 := QB BK500.out 3; have hfz14_4 := QB BK500.out 4; have hfz14_5 := QB BK500.out 5; have hfz14_6 := QB BK500.out 6; have hfz14_7 := QB BK500.out 7; obtain ⟨Ao15, co15, eo15⟩ := Kd.R_slice HO493.out; subst eo15; obtain ⟨Ao16, co16, eo16⟩ := Kd.R_slice HO496.out; subst eo16))
  (try simp only [Act.put, List.setIfInBounds_toArray, List.set_cons_zero, List.set_cons_succ])
  go_cut [32] (fun v32 wc => ∃ (kq : Nat) (x32_4 : Bool), v32 = .bool x32_4 ∧ Aside0 (laws_FnExactParseRules.j0 kq a0 t485 x32_4 t473 t474 t475 t476 t477 t480 t483 t484 t487 t488 t489 t490 t491 t494 t497 t498 = some r) ∧ Aside0 (kq ≤ k) ∧ Aside0 (Kd.R (Kd.int .i64) 3 wc w.heap.size (fun k_ => some k_ ≠ ((.slice Ao10 t480.length co10) : Value).ownBlock ∧ some k_ ≠ ((.slice Ao15 t491.length co15) : Value).ownBlock ∧ some k_ ≠ ((.slice Ao16 t494.length co16) : Value).ownBlock) (.slice Ao9 t477.length co9) t477) ∧ Aside0 (Kd.R (Kd.int .i64) 3 wc w.heap.size (fun k_ => some k_ ≠ ((.slice Ao9 t477.length co9) : Value).ownBlock ∧ some k_ ≠ ((.slice Ao15 t491.length co15) : Value).ownBlock ∧ some k_ ≠ ((.slice Ao16 t494.length co16) : Value).ownBlock) (.slice Ao10 t480.length co10) t480) ∧ Aside0 (Kd.R (Kd.int .i64) 3 wc w.heap.size (fun k_ => some k_ ≠ ((.slice Ao9 t477.length co9) : Value).ownBlock ∧ some k_ ≠ ((.slice Ao10 t480.length co10) : Value).ownBlock ∧ some k_ ≠ ((.slice Ao16 t494.length co16) : Value).ownBlock) (.slice Ao15 t491.length co15) t491) ∧ Aside0 (Kd.R (Kd.int .i64) 3 wc w.heap.size (fun k_ => some k_ ≠ ((.slice Ao9 t477.length co9) : Value).ownBlock ∧ some k_ ≠ ((.slice Ao10 t480.length co10) : Value).ownBlock ∧ some k_ ≠ ((.slice Ao15 t491.length co15) : Value).ownBlock) (.slice Ao16 t494.length co16) t494) ∧ Aside0 (wc.heap[gb486]? = some (.cells #[.int .i64 t473, .int .i64 t474, .bool t475, .bool t476, (.slice Ao9 t477.length co9), (.slice Ao10 t480.length co10), .int .i64 t483, .int .i64 t484] 26 (0, 0))) ∧ Aside0 (wc.heap[gb500]? = some (.cells #[.int .i64 t487, .int .i64 t488, .bool t489, .bool t490, (.slice Ao15 t491.length co15), (.slice Ao16 t494.length co16), .int .i64 t497, .int .i64 t498] 26 (0, 0))) ∧ Aside0 (Below w.heap.size w wc))
  case first =>
   have H := HC5.out
   clear HC5
   replace H := Option.bind_eq_some_iff.mp H
   obtain ⟨t501, A170, H⟩ := H
   have A17 := QT A170
   clear A170
   by_cases c18 : t501 = true
   rotate_left
   replace c18 := Bool.eq_false_iff.mpr c18
   subst c18
   rw [if_neg (show ¬ (false = true) by decide)] at H
   have H' := QT H
   clear H
   rotate_right
   subst c18
   rw [if_pos rfl] at H
   have H' := QT H
   clear H
   all_goals
    have hnb19 := NB500_486.out
    have hnc19 := NB486_500.out
    have hcz20_0 : w12.cell? ⟨gb500, 0, none⟩ = some (.int .i64 0) := (QH BK500.out 0).trans rfl
    have hcz20_1 : w12.cell? ⟨gb500, 1, none⟩ = some (.int .i64 0) := (QH BK500.out 1).trans rfl
    have hcz20_2 : w12.cell? ⟨gb500, 2, none⟩ = some (.bool false) := (QH BK500.out 2).trans rfl
    have hcz20_3 : w12.cell? ⟨gb500, 3, none⟩ = some (.bool false) := (QH BK500.out 3).trans rfl
    have hcz20_4 : w12.cell? ⟨gb500, 4, none⟩ = some (.slice none 0 0) := (QH BK500.out 4).trans rfl
    have hcz20_5 : w12.cell? ⟨gb500, 5, none⟩ = some (.slice none 0 0) := (QH BK500.out 5).trans rfl
    have hcz20_6 : w12.cell? ⟨gb500, 6, none⟩ = some (.int .i64 0) := (QH BK500.out 6).trans rfl
    have hcz20_7 : w12.cell? ⟨gb500, 7, none⟩ = some (.int .i64 0) := (QH BK500.out 7).trans rfl
    have hfz20_0 := QB BK500.out 0
    have hfz20_1 := QB BK500.out 1
    have hfz20_2 := QB BK500.out 2
    have hfz20_3 := QB BK500.out 3
    have hfz20_4 := QB BK500.out 4
    have hfz20_5 := QB BK500.out 5
    have hfz20_6 := QB BK500.out 6
    have hfz20_7 := QB BK500.out 7
    have hcz21_0 : w12.cell? ⟨gb486, 0, none⟩ = some (.int .i64 t473) := (QH BK486.out 0).trans rfl
    have hcz21_1 : w12.cell? ⟨gb486, 1, none⟩ = some (.int .i64 t474) := (QH BK486.out 1).trans rfl
    have hcz21_2 : w12.cell? ⟨gb486, 2, none⟩ = some (.bool t475) := (QH BK486.out 2).trans rfl
    have hcz21_3 : w12.cell? ⟨gb486, 3, none⟩ = some (.bool t476) := (QH BK486.out 3).trans rfl
    have hcz21_4 : w12.cell? ⟨gb486, 4, none⟩ = some (.slice Ao9 t477.length co9) := (QH BK486.out 4).trans rfl
    have hcz21_5 : w12.cell? ⟨gb486, 5, none⟩ = some (.slice Ao10 t480.length co10) := (QH BK486.out 5).trans rfl
    have hcz21_6 : w12.cell? ⟨gb486, 6, none⟩ = some (.int .i64 t483) := (QH BK486.out 6).trans rfl
    have hcz21_7 : w12.cell? ⟨gb486, 7, none⟩ = some (.int .i64 t484) := (QH BK486.out 7).trans rfl
    have hfz21_0 := QB BK486.out 0
    have hfz21_1 := QB BK486.out 1
    have hfz21_2 := QB BK486.out 2
    have hfz21_3 := QB BK486.out 3
    have hfz21_4 := QB BK486.out 4
    have hfz21_5 := QB BK486.out 5
    have hfz21_6 := QB BK486.out 6
    have hfz21_7 := QB BK486.out 7
    go_wp2_with (first | ((with_reducible refine gate_callee (f := 19) rfl ?_); refine goesL_ (some 26) rfl rfl Tryd.func19 (by kernel_rfl) rfl #[.agg #[.int .i64 t487, .int .i64 t488, .bool t489, .bool t490, .slice Ao15 t491.length co15, .slice Ao16 t494.length co16, .int .i64 t497, .int .i64 t498], .agg #[.int .i64 t473, .int .i64 t474, .bool t475, .bool t476, .slice Ao9 t477.length co9, .slice Ao10 t480.length co10, .int .i64 t483, .int .i64 t484]] rfl (by (try simp only [List.map_toArray, List.map_cons, List.map_nil]); first | done | rfl | (simp only [List.length_drop, List.length_take]; rfl)) ?_; (with_reducible refine (laws_eqRules.calls k t487 t488 t489 t490 _ _ t491 _ _ t494 t497 t498 t473 t474 t475 t476 _ _ t477 _ _ t480 t483 t484 _ _ ?side1 ?side2 ?side3 ?side4 ?side5 ?side6 ?side7 ?side8 A17.out).mono ?_); (case side1 => refine (QN (e := 3) (base := w.heap.size) (ok := fun k_ => ((some k_ ≠ (.slice Ao16 t494.length co16 : Value).ownBlock ∧ some k_ ≠ (.slice Ao9 t477.length co9 : Value).ownBlock) ∧ some k_ ≠ (.slice Ao10 t480.length co10 : Value).ownBlock)) (n := t491.length) (c := co15) ?_).2.2; exact (by (with_reducible repeat (first | apply QD | apply QE | apply QI)); exact (QL (QC (QC (QC (QC (QC (QC (QC (QC (QS HO493.out BK500.out (by decide)))))))))) (fun _ h_ => h_.1)))); (case side2 => exact (QN HO493.out).2.1); (case side3 => refine (QN (e := 3) (base := w.heap.size) (ok := fun k_ => ((some k_ ≠ (.slice Ao15 t491.length co15 : Value).ownBlock ∧ some k_ ≠ (.slice Ao9 t477.length co9 : Value).ownBlock) ∧ some k_ ≠ (.slice Ao10 t480.length co10 : Value).ownBlock)) (n := t494.length) (c := co16) ?_).2.2; exact (by (with_reducible repeat (first | apply QD | apply QE | apply QI)); exact (QL (QC (QC (QC (QC (QC (QC (QC (QC (QS HO496.out BK500.out (by decide)))))))))) (fun _ h_ => h_.1)))); (case side4 => exact (QN HO496.out).2.1); (case side5 => refine (QN (e := 3) (base := w.heap.size) (ok := fun k_ => ((some k_ ≠ (.slice Ao10 t480.length co10 : Value).ownBlock ∧ some k_ ≠ (.slice Ao15 t491.length co15 : Value).ownBlock) ∧ some k_ ≠ (.slice Ao16 t494.length co16 : Value).ownBlock)) (n := t477.length) (c := co9) ?_).2.2; exact (by (with_reducible repeat (first | apply QD | apply QE | apply QI)); exact (QL (QC (QC (QC (QC (QC (QC (QC (QC (QS HO479.out BK500.out (by decide)))))))))) (fun _ h_ => h_.1)))); (case side6 => exact (QN HO479.out).2.1); (case side7 => refine (QN (e := 3) (base := w.heap.size) (ok := fun k_ => ((some k_ ≠ (.slice Ao9 t477.length co9 : Value).ownBlock ∧ some k_ ≠ (.slice Ao15 t491.length co15 : Value).ownBlock) ∧ some k_ ≠ (.slice Ao16 t494.length co16 : Value).ownBlock)) (n := t480.length) (c := co10) ?_).2.2; exact (by (with_reducible repeat (first | apply QD | apply QE | apply QI)); exact (QL (QC (QC (QC (QC (QC (QC (QC (QC (QS HO482.out BK500.out (by decide)))))))))) (fun _ h_ => h_.1)))); (case side8 => exact (QN HO482.out).2.1); rintro e w22 ⟨rfl, hb⟩; refine ⟨_, rfl, ?_⟩; have n0_ := QT (QR (by (with_reducible repeat (first | apply QD | apply QE | apply QI)); exact (QL (QC (QC (QC (QC (QC (QC (QC (QC (QS HO479.out BK500.out (by decide)))))))))) (fun _ h_ => h_.1))) hb); have n1_ := QT (QR (by (with_reducible repeat (first | apply QD | apply QE | apply QI)); exact (QL (QC (QC (QC (QC (QC (QC (QC (QC (QS HO482.out BK500.out (by decide)))))))))) (fun _ h_ => h_.1))) hb); have n2_ := QT (QR (by (with_reducible repeat (first | apply QD | apply QE | apply QI)); exact (QL (QC (QC (QC (QC (QC (QC (QC (QC (QS HO493.out BK500.out (by decide)))))))))) (fun _ h_ => h_.1))) hb); have n3_ := QT (QR (by (with_reducible repeat (first | apply QD | apply QE | apply QI)); exact (QL (QC (QC (QC (QC (QC (QC (QC (QC (QS HO496.out BK500.out (by decide)))))))))) (fun _ h_ => h_.1))) hb); have n4_ := QT (blk_below (g := gb486) (o := .cells #[.int .i64 t473, .int .i64 t474, .bool t475, .bool t476, .slice Ao9 t477.length co9, .slice Ao10 t480.length co10, .int .i64 t483, .int .i64 t484] 26 (0, 0)) (by (with_reducible repeat (first | refine QF ?_ _ | refine QJ ?_ | refine QG ?_ _)); refine blk_far ?_ NB486_500.out _; (with_reducible repeat (first | refine QF ?_ _ | refine QJ ?_ | refine QG ?_ _)); refine blk_far ?_ NB486_500.out _; (with_reducible repeat (first | refine QF ?_ _ | refine QJ ?_ | refine QG ?_ _)); refine blk_far ?_ NB486_500.out _; (with_reducible repeat (first | refine QF ?_ _ | refine QJ ?_ | refine QG ?_ _)); refine blk_far ?_ NB486_500.out _; (with_reducible repeat (first | refine QF ?_ _ | refine QJ ?_ | refine QG ?_ _)); refine blk_far ?_ NB486_500.out _; (with_reducible repeat (first | refine QF ?_ _ | refine QJ ?_ | refine QG ?_ _)); refine blk_far ?_ NB486_500.out _; (with_reducible repeat (first | refine QF ?_ _ | refine QJ ?_ | refine QG ?_ _)); refine blk_far ?_ NB486_500.out _; (with_reducible repeat (first | refine QF ?_ _ | refine QJ ?_ | refine QG ?_ _)); refine blk_far ?_ NB486_500.out _; (with_reducible repeat (first | refine QF ?_ _ | refine QJ ?_ | refine QG ?_ _)); exact BK486.out) hb); have n5_ := QT (blk_below (g := gb500) (o := .cells #[.int .i64 t487, .int .i64 t488, .bool t489, .bool t490, .slice Ao15 t491.length co15, .slice Ao16 t494.length co16, .int .i64 t497, .int .i64 t498] 26 (0, 0)) (by (with_reducible repeat (first | refine QF ?_ _ | refine QJ ?_ | refine QG ?_ _)); refine blk_put (cs := #[.int .i64 t487, .int .i64 t488, .bool t489, .bool t490, .slice Ao15 t491.length co15, .slice Ao16 t494.length co16, .int .i64 t497, .int .i64 0]) ?_ 7 _ rfl; (with_reducible repeat (first | refine QF ?_ _ | refine QJ ?_ | refine QG ?_ _)); refine blk_put (cs := #[.int .i64 t487, .int .i64 t488, .bool t489, .bool t490, .slice Ao15 t491.length co15, .slice Ao16 t494.length co16, .int .i64 0, .int .i64 0]) ?_ 6 _ rfl; (with_reducible repeat (first | refine QF ?_ _ | refine QJ ?_ | refine QG ?_ _)); refine blk_put (cs := #[.int .i64 t487, .int .i64 t488, .bool t489, .bool t490, .slice Ao15 t491.length co15, .slice none 0 0, .int .i64 0, .int .i64 0]) ?_ 5 _ rfl; (with_reducible repeat (first | refine QF ?_ _ | refine QJ ?_ | refine QG ?_ _)); refine blk_put (cs := #[.int .i64 t487, .int .i64 t488, .bool t489, .bool t490, .slice none 0 0, .slice none 0 0, .int .i64 0, .int .i64 0]) ?_ 4 _ rfl; (with_reducible repeat (first | refine QF ?_ _ | refine QJ ?_ | refine QG ?_ _)); refine blk_put (cs := #[.int .i64 t487, .int .i64 t488, .bool t489, .bool false, .slice none 0 0, .slice none 0 0, .int .i64 0, .int .i64 0]) ?_ 3 _ rfl; (with_reducible repeat (first | refine QF ?_ _ | refine QJ ?_ | refine QG ?_ _)); refine blk_put (cs := #[.int .i64 t487, .int .i64 t488, .bool false, .bool false, .slice none 0 0, .slice none 0 0, .int .i64 0, .int .i64 0]) ?_ 2 _ rfl; (with_reducible repeat (first | refine QF ?_ _ | refine QJ ?_ | refine QG ?_ _)); refine blk_put (cs := #[.int .i64 t487, .int .i64 0, .bool false, .bool false, .slice none 0 0, .slice none 0 0, .int .i64 0, .int .i64 0]) ?_ 1 _ rfl; (with_reducible repeat (first | refine QF ?_ _ | refine QJ ?_ | refine QG ?_ _)); refine blk_put (cs := #[.int .i64 0, .int .i64 0, .bool false, .bool false, .slice none 0 0, .slice none 0 0, .int .i64 0, .int .i64 0]) ?_ 0 _ rfl; (with_reducible repeat (first | refine QF ?_ _ | refine QJ ?_ | refine QG ?_ _)); exact BK500.out) hb); have n6_ := QT (below_step (by repeat (first | (with_reducible first | exact HB.out | apply QO | apply QK | apply QP | refine QM ?_ GE486.out | refine QM ?_ GE500.out) | exact HB.out)) hb); clear HO479; clear HO482; clear HO493; clear HO496; clear BK486; clear BK500; clear HB; have HO479 := n0_; have HO482 := n1_; have HO493 := n2_; have HO496 := n3_; have BK486 := n4_; have BK500 := n5_; have HB := n6_; clear n0_ n1_ n2_ n3_ n4_ n5_ n6_; (try clear hb); (try clear hb2); (try clear hk); (try clear hi)))
    go_meet
    case rel => exact ⟨_, _, (by first | rfl | (simp; done) | (simp [*]; done)), H', ⟨by first | omega | exact Nat.le_refl _⟩, ⟨by (with_reducible repeat (first | apply QD | apply QE | apply QI)); exact QL HO479.out (fun _ hk => ⟨hk.1.1, ⟨hk.1.2, hk.2⟩⟩)⟩, ⟨by (with_reducible repeat (first | apply QD | apply QE | apply QI)); exact QL HO482.out (fun _ hk => ⟨hk.1.1, ⟨hk.1.2, hk.2⟩⟩)⟩, ⟨by (with_reducible repeat (first | apply QD | apply QE | apply QI)); exact QL HO493.out (fun _ hk => ⟨hk.1.2, ⟨hk.2, hk.1.1⟩⟩)⟩, ⟨by (with_reducible repeat (first | apply QD | apply QE | apply QI)); exact QL HO496.out (fun _ hk => ⟨hk.1.2, ⟨hk.2, hk.1.1⟩⟩)⟩, ⟨by (with_reducible repeat (first | refine QF ?_ _ | refine QJ ?_ | refine QG ?_ _)); exact BK486.out⟩, ⟨by (with_reducible repeat (first | refine QF ?_ _ | refine QJ ?_ | refine QG ?_ _)); exact BK500.out⟩, ⟨by repeat (first | (with_reducible first | exact HB.out | apply QO | apply QK | apply QP | refine QM ?_ GE486.out | refine QM ?_ GE500.out) | exact HB.out)⟩⟩
  case rest =>
   clear HC5
   try clear c1
   try clear c2
   try clear c2b0
   try clear c2b1
   try clear p2
   try clear c4
   try clear c8
   try clear c13
   try clear c18
   try clear c19
   try clear c23
   try clear hcz14_0
   try clear hcz14_1
   try clear hcz14_2
   try clear hcz14_3
   try clear hcz14_4
   try clear hcz14_5
   try clear hcz14_6
   try clear hcz14_7
   try clear hcz20_0
   try clear hcz20_1
   try clear hcz20_2
   try clear hcz20_3
   try clear hcz20_4
   try clear hcz20_5
   try clear hcz20_6
   try clear hcz20_7
   try clear hcz21_0
   try clear hcz21_1
   try clear hcz21_2
   try clear hcz21_3
   try clear hcz21_4
   try clear hcz21_5
   try clear hcz21_6
   try clear hcz21_7
   try clear hcz24_0
   try clear hcz24_1
   try clear hcz24_2
   try clear hcz24_3
   try clear hcz24_4
   try clear hcz24_5
   try clear hcz24_6
   try clear hcz24_7
   try clear hcz25_0
   try clear hcz25_1
   try clear hcz25_2
   try clear hcz25_3
   try clear hcz25_4
   try clear hcz25_5
   try clear hcz25_6
   try clear hcz25_7
   try clear hcz8_0
   try clear hcz8_1
   try clear hcz8_2
   try clear hcz8_3
   try clear hcz8_4
   try clear hcz8_5
   try clear hcz8_6
   try clear hcz8_7
   try clear hfz14_0
   try clear hfz14_1
   try clear hfz14_2
   try clear hfz14_3
   try clear hfz14_4
   try clear hfz14_5
   try clear hfz14_6
   try clear hfz14_7
   try clear hfz20_0
   try clear hfz20_1
   try clear hfz20_2
   try clear hfz20_3
   try clear hfz20_4
   try clear hfz20_5
   try clear hfz20_6
   try clear hfz20_7
   try clear hfz21_0
   try clear hfz21_1
   try clear hfz21_2
   try clear hfz21_3
   try clear hfz21_4
   try clear hfz21_5
   try clear hfz21_6
   try clear hfz21_7
   try clear hfz24_0
   try clear hfz24_1
   try clear hfz24_2
   try clear hfz24_3
   try clear hfz24_4
   try clear hfz24_5
   try clear hfz24_6
   try clear hfz24_7
   try clear hfz25_0
   try clear hfz25_1
   try clear hfz25_2
   try clear hfz25_3
   try clear hfz25_4
   try clear hfz25_5
   try clear hfz25_6
   try clear hfz25_7
   try clear hfz8_0
   try clear hfz8_1
   try clear hfz8_2
   try clear hfz8_3
   try clear hfz8_4
   try clear hfz8_5
   try clear hfz8_6
   try clear hfz8_7
   obtain ⟨kq, x32_4, rfl, HA, HJ4, HO_487004, HO_487005, HO_501004, HO_501005, BK486, BK500, HB⟩ := hcut
   cases kq with
   | zero => exact absurd HA.out (by simp [laws_FnExactParseRules.j0])
   | succ kj4 =>
    have H := HA.out
    clear HA
    simp only [laws_FnExactParseRules.j0] at H
    by_cases c27 : x32_4 = true
    ·subst c27
     rw [if_pos rfl] at H
     exact absurd (Option.some.inj H) (by rw [HT.out]; decide)
    ·replace c27 := Bool.eq_false_iff.mpr c27
     subst c27
     rw [if_neg (show ¬ (false = true) by decide)] at H
     replace H := Option.bind_eq_some_iff.mp H
     obtain ⟨⟨t502, t503, t504⟩, A280, H⟩ := H
     replace H : ((laws_heldRules.f kj4 t487 t488 t489 t490 t503 t504 t497 t498 1).bind fun t505 => (if t505 < 0 then (some false) else (if t505 = t502 then ((impl_ParseRules.f kj4 a0).bind fun bt506 => ((laws_eqRules.f kj4 bt506.1 bt506.2.1 bt506.2.2.1 bt506.2.2.2.1 bt506.2.2.2.2.1 bt506.2.2.2.2.2.1 bt506.2.2.2.2.2.2.1 bt506.2.2.2.2.2.2.2.1 t473 t474 t475 t476 t477 t480 t483 t484).bind fun t520 => (if t520 = true then (laws_FnExactParseRules.j1 kj4 t502 (bt506.2.2.2.2.2.2.2.2 != t485) t487 t488 t489 t490 t503 t504 t497 t498) else (laws_FnExactParseRules.j1 kj4 t502 true t487 t488 t489 t490 t503 t504 t497 t498)))) else (some false)))) = some r := H
     have A28 := QT A280
     clear A280
     replace H := Option.bind_eq_some_iff.mp H
     obtain ⟨t505, A290, H⟩ := H
     have A29 := QT A290
     clear A290
     by_cases c30 : t505 < 0
     ·rw [if_pos c30] at H
      have c30b0 : decide (t505 < 0) = true := decide_eq_true c30
      clear c30
      exact absurd (Option.some.inj H) (by rw [HT.out]; decide)
     ·rw [if_neg c30] at H
      have c30b0 : decide (t505 < 0) = false := decide_eq_false c30
      clear c30
      by_cases c36 : t505 = t502
      ·rw [if_pos c36] at H
       have c36b0 : (t505 == t502) = true := beq_iff_eq.mpr c36
       have c36b1 : (t505 != t502) = false := bne_eq_false_iff_eq.mpr c36
       clear c36
       replace H := Option.bind_eq_some_iff.mp H
       obtain ⟨⟨t506, t507, t508, t509, t510, t513, t516, t517, t518⟩, A370, H⟩ := H
       replace H : ((laws_eqRules.f kj4 t506 t507 t508 t509 t510 t513 t516 t517 t473 t474 t475 t476 t477 t480 t483 t484).bind fun t520 => (if t520 = true then (laws_FnExactParseRules.j1 kj4 t502 (t518 != t485) t487 t488 t489 t490 t503 t504 t497 t498) else (laws_FnExactParseRules.j1 kj4 t502 true t487 t488 t489 t490 t503 t504 t497 t498))) = some r := H
       have A37 := QT A370
       clear A370
       have HC38 := QT H
       clear H
       have hnb39 := NB500_486.out
       have hnc39 := NB486_500.out
       have hcz40_0 : wc.cell? ⟨gb500, 0, none⟩ = some (.int .i64 t487) := (QH BK500.out 0).trans rfl
       have hcz40_1 : wc.cell? ⟨gb500, 1, none⟩ = some (.int .i64 t488) := (QH BK500.out 1).trans rfl
       have hcz40_2 : wc.cell? ⟨gb500, 2, none⟩ = some (.bool t489) := (QH BK500.out 2).trans rfl
       have hcz40_3 : wc.cell? ⟨gb500, 3, none⟩ = some (.bool t490) := (QH BK500.out 3).trans rfl
       have hcz40_4 : wc.cell? ⟨gb500, 4, none⟩ = some (.slice Ao15 t491.length co15) := (QH BK500.out 4).trans rfl
       have hcz40_5 : wc.cell? ⟨gb500, 5, none⟩ = some (.slice Ao16 t494.length co16) := (QH BK500.out 5).trans rfl
       have hcz40_6 : wc.cell? ⟨gb500, 6, none⟩ = some (.int .i64 t497) := (QH BK500.out 6).trans rfl
       have hcz40_7 : wc.cell? ⟨gb500, 7, none⟩ = some (.int .i64 t498) := (QH BK500.out 7).trans rfl
       have hfz40_0 := QB BK500.out 0
       have hfz40_1 := QB BK500.out 1
       have hfz40_2 := QB BK500.out 2
       have hfz40_3 := QB BK500.out 3
       have hfz40_4 := QB BK500.out 4
       have hfz40_5 := QB BK500.out 5
       have hfz40_6 := QB BK500.out 6
       have hfz40_7 := QB BK500.out 7
       go_upto_region 16 with (first | ((with_reducible refine gate_callee (f := 20) rfl ?_); refine goesL_ (some 35) rfl rfl Tryd.func20 (by kernel_rfl) rfl #[.agg #[.int .i64 t487, .int .i64 t488, .bool t489, .bool t490, .slice Ao15 t491.length co15, .slice Ao16 t494.length co16, .int .i64 t497, .int .i64 t498], .int .i64 1] rfl (by (try simp only [List.map_toArray, List.map_cons, List.map_nil]); first | done | rfl | (simp only [List.length_drop, List.length_take]; rfl)) ?_; (with_reducible refine (laws_markRules.calls kj4 t487 t488 t489 t490 (fun k_ => some k_ = (.slice Ao15 t491.length co15 : Value).ownBlock) (.slice Ao15 t491.length co15) t491 (fun k_ => some k_ = (.slice Ao16 t494.length co16 : Value).ownBlock) (.slice Ao16 t494.length co16) t494 t497 t498 1 t502 t503 t504 w _ ?side1 ?side2 ?side3 ?side4 ?side5 A28.out).mono ?_); (case side1 => repeat (first | (with_reducible first | exact HB.out | apply QO | apply QK | apply QP | refine QM ?_ GE486.out | refine QM ?_ GE500.out) | exact HB.out)); (case side2 => exact Kd.R_tight rfl HO_501004.out); (case side3 => exact fun k_ e_ => by first | exact (HO_501004.out.1 k_ e_.symm).2.2 | (have h_ := (HO_501004.out.1 k_ e_.symm); revert h_; (try simp only [and_imp]); intros; assumption)); (case side4 => exact Kd.R_tight rfl HO_501005.out); (case side5 => exact fun k_ e_ => by first | exact (HO_501005.out.1 k_ e_.symm).2.2 | (have h_ := (HO_501005.out.1 k_ e_.symm); revert h_; (try simp only [and_imp]); intros; assumption)); rintro e w41 ⟨rfl, hy0, hy1, hb, hkp⟩; refine ⟨_, rfl, ?_⟩; have n0_ := QT (QL (ok' := fun k_ => some k_ ≠ (.slice Ao10 t480.length co10 : Value).ownBlock ∧ some k_ ≠ (.slice Ao15 t491.length co15 : Value).ownBlock ∧ some k_ ≠ (.slice Ao16 t494.length co16 : Value).ownBlock) (Kd.R_keptB (HO_487004.out) hkp (fun k_ hk_ hs_ => Or.elim hs_ (fun e_ => (hk_.2.1) e_) (fun e_ => (hk_.2.2) e_))) (fun k_ hk_ => ⟨hk_.1.1, hk_.1.2.1, hk_.1.2.2⟩)); have n1_ := QT (QL (ok' := fun k_ => some k_ ≠ (.slice Ao9 t477.length co9 : Value).ownBlock ∧ some k_ ≠ (.slice Ao15 t491.length co15 : Value).ownBlock ∧ some k_ ≠ (.slice Ao16 t494.length co16 : Value).ownBlock) (Kd.R_keptB (HO_487005.out) hkp (fun k_ hk_ hs_ => Or.elim hs_ (fun e_ => (hk_.2.1) e_) (fun e_ => (hk_.2.2) e_))) (fun k_ hk_ => ⟨hk_.1.1, hk_.1.2.1, hk_.1.2.2⟩)); have n2_ := QT (Kd.R_reok rfl hy0 (fun k_ e_ => HO_501004.out.1 k_ e_)); have n3_ := QT (Kd.R_reok rfl hy1 (fun k_ e_ => HO_501005.out.1 k_ e_)); have n4_ := QT (blk_kept (by (with_reducible repeat (first | refine QF ?_ _ | refine QJ ?_ | refine QG ?_ _)); exact BK486.out) hkp (fun hs_ => Or.elim hs_ (fun e_ => (fun e_ => (Kd.R_ne HO_501004.out BK486.out (by decide)) e_) e_) (fun e_ => (fun e_ => (Kd.R_ne HO_501005.out BK486.out (by decide)) e_) e_))); have n5_ := QT (blk_kept (by (with_reducible repeat (first | refine QF ?_ _ | refine QJ ?_ | refine QG ?_ _)); exact BK500.out) hkp (fun hs_ => Or.elim hs_ (fun e_ => (fun e_ => (Kd.R_ne HO_501004.out BK500.out (by decide)) e_) e_) (fun e_ => (fun e_ => (Kd.R_ne HO_501005.out BK500.out (by decide)) e_) e_))); have n6_ := QT (hb); clear HO_487004; clear HO_487005; clear HO_501004; clear HO_501005; clear BK486; clear BK500; clear HB; have HO_487004 := n0_; have HO_487005 := n1_; have HO_501004 := n2_; have HO_501005 := n3_; have BK486 := n4_; have BK500 := n5_; have HB := n6_; clear n0_ n1_ n2_ n3_ n4_ n5_ n6_; (try clear hb); (try clear hkp); (try clear hy0); (try clear hy1); have hcz42_0 : w41.cell? ⟨gb500, 0, none⟩ = some (.int .i64 t487) := (QH BK500.out 0).trans rfl; have hcz42_1 : w41.cell? ⟨gb500, 1, none⟩ = some (.int .i64 t488) := (QH BK500.out 1).trans rfl; have hcz42_2 : w41.cell? ⟨gb500, 2, none⟩ = some (.bool t489) := (QH BK500.out 2).trans rfl; have hcz42_3 : w41.cell? ⟨gb500, 3, none⟩ = some (.bool t490) := (QH BK500.out 3).trans rfl; have hcz42_4 : w41.cell? ⟨gb500, 4, none⟩ = some (.slice Ao15 t491.length co15) := (QH BK500.out 4).trans rfl; have hcz42_5 : w41.cell? ⟨gb500, 5, none⟩ = some (.slice Ao16 t494.length co16) := (QH BK500.out 5).trans rfl; have hcz42_6 : w41.cell? ⟨gb500, 6, none⟩ = some (.int .i64 t497) := (QH BK500.out 6).trans rfl; have hcz42_7 : w41.cell? ⟨gb500, 7, none⟩ = some (.int .i64 t498) := (QH BK500.out 7).trans rfl; have hfz42_0 := QB BK500.out 0; have hfz42_1 := QB BK500.out 1; have hfz42_2 := QB BK500.out 2; have hfz42_3 := QB BK500.out 3; have hfz42_4 := QB BK500.out 4; have hfz42_5 := QB BK500.out 5; have hfz42_6 := QB BK500.out 6; have hfz42_7 := QB BK500.out 7) | ((with_reducible refine gate_callee (f := 21) rfl ?_); refine goesL_ (some 38) rfl rfl Tryd.func21 (by kernel_rfl) rfl #[.agg #[.int .i64 t487, .int .i64 t488, .bool t489, .bool t490, .slice Ao15 t503.length co15, .slice Ao16 t504.length co16, .int .i64 t497, .int .i64 t498], .int .i64 1] rfl (by (try simp only [List.map_toArray, List.map_cons, List.map_nil]); first | done | (rw [show t503.length = t491.length from (QN HO_501004.out).1.symm, show t504.length = t494.length from (QN HO_501005.out).1.symm] <;> rfl) | rfl | (simp only [List.length_drop, List.length_take]; rfl)) ?_; (with_reducible refine (laws_heldRules.calls kj4 t487 t488 t489 t490 _ _ t503 _ _ t504 t497 t498 1 t505 _ ?side1 ?side2 ?side3 ?side4 A29.out).mono ?_); (case side1 => repeat (first | exact (QN HO_501004.out).2.2 | (with_reducible refine Kd.C_alloc ?_ _) | (with_reducible refine Kd.C_drewN ?_ _) | (with_reducible refine Kd.C_drew ?_))); (case side2 => rw [show t503.length = t491.length from (QN HO_501004.out).1.symm]; exact (QN HO_501004.out).2.1); (case side3 => repeat (first | exact (QN HO_501005.out).2.2 | (with_reducible refine Kd.C_alloc ?_ _) | (with_reducible refine Kd.C_drewN ?_ _) | (with_reducible refine Kd.C_drew ?_))); (case side4 => rw [show t504.length = t494.length from (QN HO_501005.out).1.symm]; exact (QN HO_501005.out).2.1); rintro e w43 ⟨rfl, hb⟩; refine ⟨_, rfl, ?_⟩; have n0_ := QT (QR (by (with_reducible repeat (first | apply QD | apply QE | apply QI)); exact HO_487004.out) hb); have n1_ := QT (QR (by (with_reducible repeat (first | apply QD | apply QE | apply QI)); exact HO_487005.out) hb); have n2_ := QT (QR (by (with_reducible repeat (first | apply QD | apply QE | apply QI)); exact HO_501004.out) hb); have n3_ := QT (QR (by (with_reducible repeat (first | apply QD | apply QE | apply QI)); exact HO_501005.out) hb); have n4_ := QT (blk_below (g := gb486) (o := .cells #[.int .i64 t473, .int .i64 t474, .bool t475, .bool t476, .slice Ao9 t477.length co9, .slice Ao10 t480.length co10, .int .i64 t483, .int .i64 t484] 26 (0, 0)) (by (with_reducible repeat (first | refine QF ?_ _ | refine QJ ?_ | refine QG ?_ _)); exact BK486.out) hb); have n5_ := QT (blk_below (g := gb500) (o := .cells #[.int .i64 t487, .int .i64 t488, .bool t489, .bool t490, .slice Ao15 t491.length co15, .slice Ao16 t494.length co16, .int .i64 t497, .int .i64 t498] 26 (0, 0)) (by (with_reducible repeat (first | refine QF ?_ _ | refine QJ ?_ | refine QG ?_ _)); exact BK500.out) hb); have n6_ := QT (below_step (by repeat (first | (with_reducible first | exact HB.out | apply QO | apply QK | apply QP | refine QM ?_ GE486.out | refine QM ?_ GE500.out) | exact HB.out)) hb); clear HO_487004; clear HO_487005; clear HO_501004; clear HO_501005; clear BK486; clear BK500; clear HB; have HO_487004 := n0_; have HO_487005 := n1_; have HO_501004 := n2_; have HO_501005 := n3_; have BK486 := n4_; have BK500 := n5_; have HB := n6_; clear n0_ n1_ n2_ n3_ n4_ n5_ n6_; (try clear hb); (try clear hb2); (try clear hk); (try clear hi)) | ((with_reducible refine gate_callee (f := 8) rfl ?_); refine goesL_ (some 46) rfl rfl Tryd.func8 (by kernel_rfl) rfl #[.string a0] rfl (by (try simp only [List.map_toArray, List.map_cons, List.map_nil]); first | done | rfl | (simp only [List.length_drop, List.length_take]; rfl)) ?_; (with_reducible refine (impl_ParseRules.calls kj4 a0 t506 t507 t508 t509 t510 t513 t516 t517 t518 _ ?ht_ A37.out).mono ?_); (case ht_ => exact HTAB.out.at (by repeat (first | (with_reducible first | exact HB.out | apply QO | apply QK | apply QP | refine QM ?_ GE486.out | refine QM ?_ GE500.out) | exact HB.out))); rintro e w44 ⟨v511, v514, rfl, ho0, ho1, hb⟩; refine ⟨_, rfl, ?_⟩; have n0_ := QT (QL (Kd.R_told (Kd.R_told (Kd.R_old (by (with_reducible repeat (first | apply QD | apply QE | apply QI)); exact HO_487004.out) hb) (Kd.R_base ho0)) (Kd.R_base ho1)) (fun _ h_ => h_.1)); have n1_ := QT (QL (Kd.R_told (Kd.R_told (Kd.R_old (by (with_reducible repeat (first | apply QD | apply QE | apply QI)); exact HO_487005.out) hb) (Kd.R_base ho0)) (Kd.R_base ho1)) (fun _ h_ => h_.1)); have n2_ := QT (QL (Kd.R_told (Kd.R_told (Kd.R_old (by (with_reducible repeat (first | apply QD | apply QE | apply QI)); exact HO_501004.out) hb) (Kd.R_base ho0)) (Kd.R_base ho1)) (fun _ h_ => h_.1)); have n3_ := QT (QL (Kd.R_told (Kd.R_told (Kd.R_old (by (with_reducible repeat (first | apply QD | apply QE | apply QI)); exact HO_501005.out) hb) (Kd.R_base ho0)) (Kd.R_base ho1)) (fun _ h_ => h_.1)); have n4_ := QT (Kd.R_lower (Kd.R_new' (Kd.R_new' (Kd.R_new' (Kd.R_new' ho0 (Kd.R_lt (by (with_reducible repeat (first | apply QD | apply QE | apply QI)); exact HO_487004.out))) (Kd.R_lt (by (with_reducible repeat (first | apply QD | apply QE | apply QI)); exact HO_487005.out))) (Kd.R_lt (by (with_reducible repeat (first | apply QD | apply QE | apply QI)); exact HO_501004.out))) (Kd.R_lt (by (with_reducible repeat (first | apply QD | apply QE | apply QI)); exact HO_501005.out))) (below_size (by repeat (first | (with_reducible first | exact HB.out | apply QO | apply QK | apply QP | refine QM ?_ GE486.out | refine QM ?_ GE500.out) | exact HB.out)))); have n5_ := QT (Kd.R_lower (Kd.R_new' (Kd.R_new' (Kd.R_new' (Kd.R_new' ho1 (Kd.R_lt (by (with_reducible repeat (first | apply QD | apply QE | apply QI)); exact HO_487004.out))) (Kd.R_lt (by (with_reducible repeat (first | apply QD | apply QE | apply QI)); exact HO_487005.out))) (Kd.R_lt (by (with_reducible repeat (first | apply QD | apply QE | apply QI)); exact HO_501004.out))) (Kd.R_lt (by (with_reducible repeat (first | apply QD | apply QE | apply QI)); exact HO_501005.out))) (below_size (by repeat (first | (with_reducible first | exact HB.out | apply QO | apply QK | apply QP | refine QM ?_ GE486.out | refine QM ?_ GE500.out) | exact HB.out)))); have n6_ := QT (blk_below (g := gb486) (o := .cells #[.int .i64 t473, .int .i64 t474, .bool t475, .bool t476, .slice Ao9 t477.length co9, .slice Ao10 t480.length co10, .int .i64 t483, .int .i64 t484] 26 (0, 0)) (by (with_reducible repeat (first | refine QF ?_ _ | refine QJ ?_ | refine QG ?_ _)); exact BK486.out) hb); have n7_ := QT (blk_below (g := gb500) (o := .cells #[.int .i64 t487, .int .i64 t488, .bool t489, .bool t490, .slice Ao15 t491.length co15, .slice Ao16 t494.length co16, .int .i64 t497, .int .i64 t498] 26 (0, 0)) (by (with_reducible repeat (first | refine QF ?_ _ | refine QJ ?_ | refine QG ?_ _)); exact BK500.out) hb); have n8_ := QT (below_step (by repeat (first | (with_reducible first | exact HB.out | apply QO | apply QK | apply QP | refine QM ?_ GE486.out | refine QM ?_ GE500.out) | exact HB.out)) hb); clear HO_487004; clear HO_487005; clear HO_501004; clear HO_501005; clear BK486; clear BK500; clear HB; have HO_487004 := n0_; have HO_487005 := n1_; have HO_501004 := n2_; have HO_501005 := n3_; have HO512 := n4_; have HO515 := n5_; have BK486 := n6_; have BK500 := n7_; have HB := n8_; clear n0_ n1_ n2_ n3_ n4_ n5_ n6_ n7_ n8_; (try clear hb); (try clear hb2); (try clear hk); (try clear hi); (try clear ho0); (try clear ho1)) | ((with_reducible refine gate_dst (N := 9) rfl ?_); refine box_event ?hg (N := 9) ?hd (cs := #[.int .i64 0, .int .i64 0, .bool false, .bool false, .slice none 0 0, .slice none 0 0, .int .i64 0, .int .i64 0]) (t := 26) ?hr ?_; (case hd => rfl); (case hg => rfl); (case hr => first | (go_simp; done) | (go_simp; rfl)); intro gb519 hg w45 hbox hb; have n0_ := QT (QR (by (with_reducible repeat (first | apply QD | apply QE | apply QI)); exact HO_487004.out) hb); have n1_ := QT (QR (by (with_reducible repeat (first | apply QD | apply QE | apply QI)); exact HO_487005.out) hb); have n2_ := QT (QR (by (with_reducible repeat (first | apply QD | apply QE | apply QI)); exact HO_501004.out) hb); have n3_ := QT (QR (by (with_reducible repeat (first | apply QD | apply QE | apply QI)); exact HO_501005.out) hb); have n4_ := QT (QR (by (with_reducible repeat (first | apply QD | apply QE | apply QI)); exact HO512.out) hb); have n5_ := QT (QR (by (with_reducible repeat (first | apply QD | apply QE | apply QI)); exact HO515.out) hb); have n6_ := QT (blk_below (g := gb486) (o := .cells #[.int .i64 t473, .int .i64 t474, .bool t475, .bool t476, .slice Ao9 t477.length co9, .slice Ao10 t480.length co10, .int .i64 t483, .int .i64 t484] 26 (0, 0)) (by (with_reducible repeat (first | refine QF ?_ _ | refine QJ ?_ | refine QG ?_ _)); exact BK486.out) hb); have n7_ := QT (blk_below (g := gb500) (o := .cells #[.int .i64 t487, .int .i64 t488, .bool t489, .bool t490, .slice Ao15 t491.length co15, .slice Ao16 t494.length co16, .int .i64 t497, .int .i64 t498] 26 (0, 0)) (by (with_reducible repeat (first | refine QF ?_ _ | refine QJ ?_ | refine QG ?_ _)); exact BK500.out) hb); have n8_ := QT (below_step (by repeat (first | (with_reducible first | exact HB.out | apply QO | apply QK | apply QP | refine QM ?_ GE486.out | refine QM ?_ GE500.out) | exact HB.out)) hb); have n9_ := QT (hbox); have n10_ := QT ((by rw [hg]; exact (below_size (by repeat (first | (with_reducible first | exact HB.out | apply QO | apply QK | apply QP | refine QM ?_ GE486.out | refine QM ?_ GE500.out) | exact HB.out))) : w.heap.size ≤ gb519)); have n11_ := QT ((by rw [hg]; exact (below_size (by repeat (first | (with_reducible first | exact HB.out | apply QO | apply QK | apply QP | refine QM ?_ GE486.out | refine QM ?_ GE500.out) | exact HB.out))) : w.heap.size ≤ gb519)); have n12_ := QT ((by rw [hg]; exact Nat.ne_of_lt (blk_lt (g := gb486) (o := .cells #[.int .i64 t473, .int .i64 t474, .bool t475, .bool t476, .slice Ao9 t477.length co9, .slice Ao10 t480.length co10, .int .i64 t483, .int .i64 t484] 26 (0, 0)) (by (with_reducible repeat (first | refine QF ?_ _ | refine QJ ?_ | refine QG ?_ _)); exact BK486.out)) : gb486 ≠ gb519)); have n13_ := QT ((by rw [hg]; exact Nat.ne_of_gt (blk_lt (g := gb486) (o := .cells #[.int .i64 t473, .int .i64 t474, .bool t475, .bool t476, .slice Ao9 t477.length co9, .slice Ao10 t480.length co10, .int .i64 t483, .int .i64 t484] 26 (0, 0)) (by (with_reducible repeat (first | refine QF ?_ _ | refine QJ ?_ | refine QG ?_ _)); exact BK486.out)) : gb519 ≠ gb486)); have n14_ := QT ((by rw [hg]; exact Nat.ne_of_lt (blk_lt (g := gb500) (o := .cells #[.int .i64 t487, .int .i64 t488, .bool t489, .bool t490, .slice Ao15 t491.length co15, .slice Ao16 t494.length co16, .int .i64 t497, .int .i64 t498] 26 (0, 0)) (by (with_reducible repeat (first | refine QF ?_ _ | refine QJ ?_ | refine QG ?_ _)); exact BK500.out)) : gb500 ≠ gb519)); have n15_ := QT ((by rw [hg]; exact Nat.ne_of_gt (blk_lt (g := gb500) (o := .cells #[.int .i64 t487, .int .i64 t488, .bool t489, .bool t490, .slice Ao15 t491.length co15, .slice Ao16 t494.length co16, .int .i64 t497, .int .i64 t498] 26 (0, 0)) (by (with_reducible repeat (first | refine QF ?_ _ | refine QJ ?_ | refine QG ?_ _)); exact BK500.out)) : gb519 ≠ gb500)); clear HO_487004; clear HO_487005; clear HO_501004; clear HO_501005; clear HO512; clear HO515; clear BK486; clear BK500; clear HB; have HO_487004 := n0_; have HO_487005 := n1_; have HO_501004 := n2_; have HO_501005 := n3_; have HO512 := n4_; have HO515 := n5_; have BK486 := n6_; have BK500 := n7_; have HB := n8_; have BK519 := n9_; have GW519 := n10_; have GE519 := n11_; have NB486_519 := n12_; have NB519_486 := n13_; have NB500_519 := n14_; have NB519_500 := n15_; clear n0_ n1_ n2_ n3_ n4_ n5_ n6_ n7_ n8_ n9_ n10_ n11_ n12_ n13_ n14_ n15_; clear hb hbox hg; have hnb46 := NB519_486.out; have hnc46 := NB486_519.out; have hnb47 := NB519_500.out; have hnc47 := NB500_519.out; have hcz48_0 : w45.cell? ⟨gb519, 0, none⟩ = some (.int .i64 0) := (QH BK519.out 0).trans rfl; have hcz48_1 : w45.cell? ⟨gb519, 1, none⟩ = some (.int .i64 0) := (QH BK519.out 1).trans rfl; have hcz48_2 : w45.cell? ⟨gb519, 2, none⟩ = some (.bool false) := (QH BK519.out 2).trans rfl; have hcz48_3 : w45.cell? ⟨gb519, 3, none⟩ = some (.bool false) := (QH BK519.out 3).trans rfl; have hcz48_4 : w45.cell? ⟨gb519, 4, none⟩ = some (.slice none 0 0) := (QH BK519.out 4).trans rfl; have hcz48_5 : w45.cell? ⟨gb519, 5, none⟩ = some (.slice none 0 0) := (QH BK519.out 5).trans rfl; have hcz48_6 : w45.cell? ⟨gb519, 6, none⟩ = some (.int .i64 0) := (QH BK519.out 6).trans rfl; have hcz48_7 : w45.cell? ⟨gb519, 7, none⟩ = some (.int .i64 0) := (QH BK519.out 7).trans rfl; have hfz48_0 := QB BK519.out 0; have hfz48_1 := QB BK519.out 1; have hfz48_2 := QB BK519.out 2; have hfz48_3 := QB BK519.out 3; have hfz48_4 := QB BK519.out 4; have hfz48_5 := QB BK519.out 5; have hfz48_6 := QB BK519.out 6; have hfz48_7 := QB BK519.out 7; obtain ⟨Ao49, co49, eo49⟩ := Kd.R_slice HO512.out; subst eo49; obtain ⟨Ao50, co50, eo50⟩ := Kd.R_slice HO515.out; subst eo50))
       (try simp only [Act.put, List.setIfInBounds_toArray, List.set_cons_zero, List.set_cons_succ])
       go_cut [57] (fun v57 wc => ∃ (kq : Nat) (x57_37 : Bool), v57 = .bool x57_37 ∧ Aside0 (laws_FnExactParseRules.j1 kq t502 x57_37 t487 t488 t489 t490 t503 t504 t497 t498 = some r) ∧ Aside0 (kq ≤ kj4) ∧ Aside0 (Kd.R (Kd.int .i64) 3 wc w.heap.size (fun k_ => some k_ ≠ ((.slice Ao10 t480.length co10) : Value).ownBlock ∧ some k_ ≠ ((.slice Ao15 t491.length co15) : Value).ownBlock ∧ some k_ ≠ ((.slice Ao16 t494.length co16) : Value).ownBlock ∧ some k_ ≠ ((.slice Ao49 t510.length co49) : Value).ownBlock ∧ some k_ ≠ ((.slice Ao50 t513.length co50) : Value).ownBlock) (.slice Ao9 t477.length co9) t477) ∧ Aside0 (Kd.R (Kd.int .i64) 3 wc w.heap.size (fun k_ => some k_ ≠ ((.slice Ao9 t477.length co9) : Value).ownBlock ∧ some k_ ≠ ((.slice Ao15 t491.length co15) : Value).ownBlock ∧ some k_ ≠ ((.slice Ao16 t494.length co16) : Value).ownBlock ∧ some k_ ≠ ((.slice Ao49 t510.length co49) : Value).ownBlock ∧ some k_ ≠ ((.slice Ao50 t513.length co50) : Value).ownBlock) (.slice Ao10 t480.length co10) t480) ∧ Aside0 (Kd.R (Kd.int .i64) 3 wc w.heap.size (fun k_ => some k_ ≠ ((.slice Ao9 t477.length co9) : Value).ownBlock ∧ some k_ ≠ ((.slice Ao10 t480.length co10) : Value).ownBlock ∧ some k_ ≠ ((.slice Ao16 t494.length co16) : Value).ownBlock ∧ some k_ ≠ ((.slice Ao49 t510.length co49) : Value).ownBlock ∧ some k_ ≠ ((.slice Ao50 t513.length co50) : Value).ownBlock) (.slice Ao15 t491.length co15) t503) ∧ Aside0 (Kd.R (Kd.int .i64) 3 wc w.heap.size (fun k_ => some k_ ≠ ((.slice Ao9 t477.length co9) : Value).ownBlock ∧ some k_ ≠ ((.slice Ao10 t480.length co10) : Value).ownBlock ∧ some k_ ≠ ((.slice Ao15 t491.length co15) : Value).ownBlock ∧ some k_ ≠ ((.slice Ao49 t510.length co49) : Value).ownBlock ∧ some k_ ≠ ((.slice Ao50 t513.length co50) : Value).ownBlock) (.slice Ao16 t494.length co16) t504) ∧ Aside0 (Kd.R (Kd.int .i64) 3 wc w.heap.size (fun k_ => some k_ ≠ ((.slice Ao9 t477.length co9) : Value).ownBlock ∧ some k_ ≠ ((.slice Ao10 t480.length co10) : Value).ownBlock ∧ some k_ ≠ ((.slice Ao15 t491.length co15) : Value).ownBlock ∧ some k_ ≠ ((.slice Ao16 t494.length co16) : Value).ownBlock ∧ some k_ ≠ ((.slice Ao50 t513.length co50) : Value).ownBlock) (.slice Ao49 t510.length co49) t510) ∧ Aside0 (Kd.R (Kd.int .i64) 3 wc w.heap.size (fun k_ => some k_ ≠ ((.slice Ao9 t477.length co9) : Value).ownBlock ∧ some k_ ≠ ((.slice Ao10 t480.length co10) : Value).ownBlock ∧ some k_ ≠ ((.slice Ao15 t491.length co15) : Value).ownBlock ∧ some k_ ≠ ((.slice Ao16 t494.length co16) : Value).ownBlock ∧ some k_ ≠ ((.slice Ao49 t510.length co49) : Value).ownBlock) (.slice Ao50 t513.length co50) t513) ∧ Aside0 (wc.heap[gb486]? = some (.cells #[.int .i64 t473, .int .i64 t474, .bool t475, .bool t476, (.slice Ao9 t477.length co9), (.slice Ao10 t480.length co10), .int .i64 t483, .int .i64 t484] 26 (0, 0))) ∧ Aside0 (wc.heap[gb500]? = some (.cells #[.int .i64 t487, .int .i64 t488, .bool t489, .bool t490, (.slice Ao15 t491.length co15), (.slice Ao16 t494.length co16), .int .i64 t497, .int .i64 t498] 26 (0, 0))) ∧ Aside0 (wc.heap[gb519]? = some (.cells #[.int .i64 t506, .int .i64 t507, .bool t508, .bool t509, (.slice Ao49 t510.length co49), (.slice Ao50 t513.length co50), .int .i64 t516, .int .i64 t517] 26 (0, 0))) ∧ Aside0 (Below w.heap.size w wc))
       case first =>
        have H := HC38.out
        clear HC38
        replace H := Option.bind_eq_some_iff.mp H
        obtain ⟨t520, A510, H⟩ := H
        have A51 := QT A510
        clear A510
        by_cases c52 : t520 = true
        rotate_left
        replace c52 := Bool.eq_false_iff.mpr c52
        subst c52
        rw [if_neg (show ¬ (false = true) by decide)] at H
        have H' := QT H
        clear H
        rotate_right
        subst c52
        rw [if_pos rfl] at H
        have H' := QT H
        clear H
        all_goals
         have hnb53 := NB519_486.out
         have hnc53 := NB486_519.out
         have hnb54 := NB519_500.out
         have hnc54 := NB500_519.out
         have hcz55_0 : w45.cell? ⟨gb519, 0, none⟩ = some (.int .i64 0) := (QH BK519.out 0).trans rfl
         have hcz55_1 : w45.cell? ⟨gb519, 1, none⟩ = some (.int .i64 0) := (QH BK519.out 1).trans rfl
         have hcz55_2 : w45.cell? ⟨gb519, 2, none⟩ = some (.bool false) := (QH BK519.out 2).trans rfl
         have hcz55_3 : w45.cell? ⟨gb519, 3, none⟩ = some (.bool false) := (QH BK519.out 3).trans rfl
         have hcz55_4 : w45.cell? ⟨gb519, 4, none⟩ = some (.slice none 0 0) := (QH BK519.out 4).trans rfl
         have hcz55_5 : w45.cell? ⟨gb519, 5, none⟩ = some (.slice none 0 0) := (QH BK519.out 5).trans rfl
         have hcz55_6 : w45.cell? ⟨gb519, 6, none⟩ = some (.int .i64 0) := (QH BK519.out 6).trans rfl
         have hcz55_7 : w45.cell? ⟨gb519, 7, none⟩ = some (.int .i64 0) := (QH BK519.out 7).trans rfl
         have hfz55_0 := QB BK519.out 0
         have hfz55_1 := QB BK519.out 1
         have hfz55_2 := QB BK519.out 2
         have hfz55_3 := QB BK519.out 3
         have hfz55_4 := QB BK519.out 4
         have hfz55_5 := QB BK519.out 5
         have hfz55_6 := QB BK519.out 6
         have hfz55_7 := QB BK519.out 7
         have hnb56 := NB486_500.out
         have hnc56 := NB500_486.out
         have hcz57_0 : w45.cell? ⟨gb486, 0, none⟩ = some (.int .i64 t473) := (QH BK486.out 0).trans rfl
         have hcz57_1 : w45.cell? ⟨gb486, 1, none⟩ = some (.int .i64 t474) := (QH BK486.out 1).trans rfl
         have hcz57_2 : w45.cell? ⟨gb486, 2, none⟩ = some (.bool t475) := (QH BK486.out 2).trans rfl
         have hcz57_3 : w45.cell? ⟨gb486, 3, none⟩ = some (.bool t476) := (QH BK486.out 3).trans rfl
         have hcz57_4 : w45.cell? ⟨gb486, 4, none⟩ = some (.slice Ao9 t477.length co9) := (QH BK486.out 4).trans rfl
         have hcz57_5 : w45.cell? ⟨gb486, 5, none⟩ = some (.slice Ao10 t480.length co10) := (QH BK486.out 5).trans rfl
         have hcz57_6 : w45.cell? ⟨gb486, 6, none⟩ = some (.int .i64 t483) := (QH BK486.out 6).trans rfl
         have hcz57_7 : w45.cell? ⟨gb486, 7, none⟩ = some (.int .i64 t484) := (QH BK486.out 7).trans rfl
         have hfz57_0 := QB BK486.out 0
         have hfz57_1 := QB BK486.out 1
         have hfz57_2 := QB BK486.out 2
         have hfz57_3 := QB BK486.out 3
         have hfz57_4 := QB BK486.out 4
         have hfz57_5 := QB BK486.out 5
         have hfz57_6 := QB BK486.out 6
         have hfz57_7 := QB BK486.out 7
         go_wp2_with (first | ((with_reducible refine gate_callee (f := 19) rfl ?_); refine goesL_ (some 51) rfl rfl Tryd.func19 (by kernel_rfl) rfl #[.agg #[.int .i64 t506, .int .i64 t507, .bool t508, .bool t509, .slice Ao49 t510.length co49, .slice Ao50 t513.length co50, .int .i64 t516, .int .i64 t517], .agg #[.int .i64 t473, .int .i64 t474, .bool t475, .bool t476, .slice Ao9 t477.length co9, .slice Ao10 t480.length co10, .int .i64 t483, .int .i64 t484]] rfl (by (try simp only [List.map_toArray, List.map_cons, List.map_nil]); first | done | rfl | (simp only [List.length_drop, List.length_take]; rfl)) ?_; (with_reducible refine (laws_eqRules.calls kj4 t506 t507 t508 t509 _ _ t510 _ _ t513 t516 t517 t473 t474 t475 t476 _ _ t477 _ _ t480 t483 t484 _ _ ?side1 ?side2 ?side3 ?side4 ?side5 ?side6 ?side7 ?side8 A51.out).mono ?_); (case side1 => refine (QN (e := 3) (base := w.heap.size) (ok := fun k_ => ((((some k_ ≠ (.slice Ao50 t513.length co50 : Value).ownBlock ∧ some k_ ≠ (.slice Ao9 t477.length co9 : Value).ownBlock) ∧ some k_ ≠ (.slice Ao10 t480.length co10 : Value).ownBlock) ∧ some k_ ≠ (.slice Ao15 t491.length co15 : Value).ownBlock) ∧ some k_ ≠ (.slice Ao16 t494.length co16 : Value).ownBlock)) (n := t510.length) (c := co49) ?_).2.2; exact (by (with_reducible repeat (first | apply QD | apply QE | apply QI)); exact (QL (QC (QC (QC (QC (QC (QC (QC (QC (QS HO512.out BK519.out (by decide)))))))))) (fun _ h_ => h_.1)))); (case side2 => exact (QN HO512.out).2.1); (case side3 => refine (QN (e := 3) (base := w.heap.size) (ok := fun k_ => ((((some k_ ≠ (.slice Ao49 t510.length co49 : Value).ownBlock ∧ some k_ ≠ (.slice Ao9 t477.length co9 : Value).ownBlock) ∧ some k_ ≠ (.slice Ao10 t480.length co10 : Value).ownBlock) ∧ some k_ ≠ (.slice Ao15 t491.length co15 : Value).ownBlock) ∧ some k_ ≠ (.slice Ao16 t494.length co16 : Value).ownBlock)) (n := t513.length) (c := co50) ?_).2.2; exact (by (with_reducible repeat (first | apply QD | apply QE | apply QI)); exact (QL (QC (QC (QC (QC (QC (QC (QC (QC (QS HO515.out BK519.out (by decide)))))))))) (fun _ h_ => h_.1)))); (case side4 => exact (QN HO515.out).2.1); (case side5 => refine (QN (e := 3) (base := w.heap.size) (ok := fun k_ => (((some k_ ≠ (.slice Ao10 t480.length co10 : Value).ownBlock ∧ (some k_ ≠ (.slice Ao15 t491.length co15 : Value).ownBlock ∧ some k_ ≠ (.slice Ao16 t494.length co16 : Value).ownBlock)) ∧ some k_ ≠ (.slice Ao49 t510.length co49 : Value).ownBlock) ∧ some k_ ≠ (.slice Ao50 t513.length co50 : Value).ownBlock)) (n := t477.length) (c := co9) ?_).2.2; exact (by (with_reducible repeat (first | apply QD | apply QE | apply QI)); exact (QL (QC (QC (QC (QC (QC (QC (QC (QC (QS HO_487004.out BK519.out (by decide)))))))))) (fun _ h_ => h_.1)))); (case side6 => exact (QN HO_487004.out).2.1); (case side7 => refine (QN (e := 3) (base := w.heap.size) (ok := fun k_ => (((some k_ ≠ (.slice Ao9 t477.length co9 : Value).ownBlock ∧ (some k_ ≠ (.slice Ao15 t491.length co15 : Value).ownBlock ∧ some k_ ≠ (.slice Ao16 t494.length co16 : Value).ownBlock)) ∧ some k_ ≠ (.slice Ao49 t510.length co49 : Value).ownBlock) ∧ some k_ ≠ (.slice Ao50 t513.length co50 : Value).ownBlock)) (n := t480.length) (c := co10) ?_).2.2; exact (by (with_reducible repeat (first | apply QD | apply QE | apply QI)); exact (QL (QC (QC (QC (QC (QC (QC (QC (QC (QS HO_487005.out BK519.out (by decide)))))))))) (fun _ h_ => h_.1)))); (case side8 => exact (QN HO_487005.out).2.1); rintro e w58 ⟨rfl, hb⟩; refine ⟨_, rfl, ?_⟩; have n0_ := QT (QR (by (with_reducible repeat (first | apply QD | apply QE | apply QI)); exact (QL (QC (QC (QC (QC (QC (QC (QC (QC (QS HO_487004.out BK519.out (by decide)))))))))) (fun _ h_ => h_.1))) hb); have n1_ := QT (QR (by (with_reducible repeat (first | apply QD | apply QE | apply QI)); exact (QL (QC (QC (QC (QC (QC (QC (QC (QC (QS HO_487005.out BK519.out (by decide)))))))))) (fun _ h_ => h_.1))) hb); have n2_ := QT (QR (by (with_reducible repeat (first | apply QD | apply QE | apply QI)); exact (QL (QC (QC (QC (QC (QC (QC (QC (QC (QS HO_501004.out BK519.out (by decide)))))))))) (fun _ h_ => h_.1))) hb); have n3_ := QT (QR (by (with_reducible repeat (first | apply QD | apply QE | apply QI)); exact (QL (QC (QC (QC (QC (QC (QC (QC (QC (QS HO_501005.out BK519.out (by decide)))))))))) (fun _ h_ => h_.1))) hb); have n4_ := QT (QR (by (with_reducible repeat (first | apply QD | apply QE | apply QI)); exact (QL (QC (QC (QC (QC (QC (QC (QC (QC (QS HO512.out BK519.out (by decide)))))))))) (fun _ h_ => h_.1))) hb); have n5_ := QT (QR (by (with_reducible repeat (first | apply QD | apply QE | apply QI)); exact (QL (QC (QC (QC (QC (QC (QC (QC (QC (QS HO515.out BK519.out (by decide)))))))))) (fun _ h_ => h_.1))) hb); have n6_ := QT (blk_below (g := gb486) (o := .cells #[.int .i64 t473, .int .i64 t474, .bool t475, .bool t476, .slice Ao9 t477.length co9, .slice Ao10 t480.length co10, .int .i64 t483, .int .i64 t484] 26 (0, 0)) (by (with_reducible repeat (first | refine QF ?_ _ | refine QJ ?_ | refine QG ?_ _)); refine blk_far ?_ NB486_519.out _; (with_reducible repeat (first | refine QF ?_ _ | refine QJ ?_ | refine QG ?_ _)); refine blk_far ?_ NB486_519.out _; (with_reducible repeat (first | refine QF ?_ _ | refine QJ ?_ | refine QG ?_ _)); refine blk_far ?_ NB486_519.out _; (with_reducible repeat (first | refine QF ?_ _ | refine QJ ?_ | refine QG ?_ _)); refine blk_far ?_ NB486_519.out _; (with_reducible repeat (first | refine QF ?_ _ | refine QJ ?_ | refine QG ?_ _)); refine blk_far ?_ NB486_519.out _; (with_reducible repeat (first | refine QF ?_ _ | refine QJ ?_ | refine QG ?_ _)); refine blk_far ?_ NB486_519.out _; (with_reducible repeat (first | refine QF ?_ _ | refine QJ ?_ | refine QG ?_ _)); refine blk_far ?_ NB486_519.out _; (with_reducible repeat (first | refine QF ?_ _ | refine QJ ?_ | refine QG ?_ _)); refine blk_far ?_ NB486_519.out _; (with_reducible repeat (first | refine QF ?_ _ | refine QJ ?_ | refine QG ?_ _)); exact BK486.out) hb); have n7_ := QT (blk_below (g := gb500) (o := .cells #[.int .i64 t487, .int .i64 t488, .bool t489, .bool t490, .slice Ao15 t491.length co15, .slice Ao16 t494.length co16, .int .i64 t497, .int .i64 t498] 26 (0, 0)) (by (with_reducible repeat (first | refine QF ?_ _ | refine QJ ?_ | refine QG ?_ _)); refine blk_far ?_ NB500_519.out _; (with_reducible repeat (first | refine QF ?_ _ | refine QJ ?_ | refine QG ?_ _)); refine blk_far ?_ NB500_519.out _; (with_reducible repeat (first | refine QF ?_ _ | refine QJ ?_ | refine QG ?_ _)); refine blk_far ?_ NB500_519.out _; (with_reducible repeat (first | refine QF ?_ _ | refine QJ ?_ | refine QG ?_ _)); refine blk_far ?_ NB500_519.out _; (with_reducible repeat (first | refine QF ?_ _ | refine QJ ?_ | refine QG ?_ _)); refine blk_far ?_ NB500_519.out _; (with_reducible repeat (first | refine QF ?_ _ | refine QJ ?_ | refine QG ?_ _)); refine blk_far ?_ NB500_519.out _; (with_reducible repeat (first | refine QF ?_ _ | refine QJ ?_ | refine QG ?_ _)); refine blk_far ?_ NB500_519.out _; (with_reducible repeat (first | refine QF ?_ _ | refine QJ ?_ | refine QG ?_ _)); refine blk_far ?_ NB500_519.out _; (with_reducible repeat (first | refine QF ?_ _ | refine QJ ?_ | refine QG ?_ _)); exact BK500.out) hb); have n8_ := QT (blk_below (g := gb519) (o := .cells #[.int .i64 t506, .int .i64 t507, .bool t508, .bool t509, .slice Ao49 t510.length co49, .slice Ao50 t513.length co50, .int .i64 t516, .int .i64 t517] 26 (0, 0)) (by (with_reducible repeat (first | refine QF ?_ _ | refine QJ ?_ | refine QG ?_ _)); refine blk_put (cs := #[.int .i64 t506, .int .i64 t507, .bool t508, .bool t509, .slice Ao49 t510.length co49, .slice Ao50 t513.length co50, .int .i64 t516, .int .i64 0]) ?_ 7 _ rfl; (with_reducible repeat (first | refine QF ?_ _ | refine QJ ?_ | refine QG ?_ _)); refine blk_put (cs := #[.int .i64 t506, .int .i64 t507, .bool t508, .bool t509, .slice Ao49 t510.length co49, .slice Ao50 t513.length co50, .int .i64 0, .int .i64 0]) ?_ 6 _ rfl; (with_reducible repeat (first | refine QF ?_ _ | refine QJ ?_ | refine QG ?_ _)); refine blk_put (cs := #[.int .i64 t506, .int .i64 t507, .bool t508, .bool t509, .slice Ao49 t510.length co49, .slice none 0 0, .int .i64 0, .int .i64 0]) ?_ 5 _ rfl; (with_reducible repeat (first | refine QF ?_ _ | refine QJ ?_ | refine QG ?_ _)); refine blk_put (cs := #[.int .i64 t506, .int .i64 t507, .bool t508, .bool t509, .slice none 0 0, .slice none 0 0, .int .i64 0, .int .i64 0]) ?_ 4 _ rfl; (with_reducible repeat (first | refine QF ?_ _ | refine QJ ?_ | refine QG ?_ _)); refine blk_put (cs := #[.int .i64 t506, .int .i64 t507, .bool t508, .bool false, .slice none 0 0, .slice none 0 0, .int .i64 0, .int .i64 0]) ?_ 3 _ rfl; (with_reducible repeat (first | refine QF ?_ _ | refine QJ ?_ | refine QG ?_ _)); refine blk_put (cs := #[.int .i64 t506, .int .i64 t507, .bool false, .bool false, .slice none 0 0, .slice none 0 0, .int .i64 0, .int .i64 0]) ?_ 2 _ rfl; (with_reducible repeat (first | refine QF ?_ _ | refine QJ ?_ | refine QG ?_ _)); refine blk_put (cs := #[.int .i64 t506, .int .i64 0, .bool false, .bool false, .slice none 0 0, .slice none 0 0, .int .i64 0, .int .i64 0]) ?_ 1 _ rfl; (with_reducible repeat (first | refine QF ?_ _ | refine QJ ?_ | refine QG ?_ _)); refine blk_put (cs := #[.int .i64 0, .int .i64 0, .bool false, .bool false, .slice none 0 0, .slice none 0 0, .int .i64 0, .int .i64 0]) ?_ 0 _ rfl; (with_reducible repeat (first | refine QF ?_ _ | refine QJ ?_ | refine QG ?_ _)); exact BK519.out) hb); have n9_ := QT (below_step (by repeat (first | (with_reducible first | exact HB.out | apply QO | apply QK | apply QP | refine QM ?_ GE486.out | refine QM ?_ GE500.out | refine QM ?_ GE519.out) | exact HB.out)) hb); clear HO_487004; clear HO_487005; clear HO_501004; clear HO_501005; clear HO512; clear HO515; clear BK486; clear BK500; clear BK519; clear HB; have HO_487004 := n0_; have HO_487005 := n1_; have HO_501004 := n2_; have HO_501005 := n3_; have HO512 := n4_; have HO515 := n5_; have BK486 := n6_; have BK500 := n7_; have BK519 := n8_; have HB := n9_; clear n0_ n1_ n2_ n3_ n4_ n5_ n6_ n7_ n8_ n9_; (try clear hb); (try clear hb2); (try clear hk); (try clear hi)))
         go_meet
         case rel => exact ⟨_, _, (by first | rfl | (simp; done) | (simp [*]; done)), H', ⟨by have := HJ4.out; first | omega | exact Nat.le_refl _⟩, ⟨by (with_reducible repeat (first | apply QD | apply QE | apply QI)); exact QL HO_487004.out (fun _ hk => ⟨hk.1.1.1, ⟨hk.1.1.2.1, ⟨hk.1.1.2.2, ⟨hk.1.2, hk.2⟩⟩⟩⟩)⟩, ⟨by (with_reducible repeat (first | apply QD | apply QE | apply QI)); exact QL HO_487005.out (fun _ hk => ⟨hk.1.1.1, ⟨hk.1.1.2.1, ⟨hk.1.1.2.2, ⟨hk.1.2, hk.2⟩⟩⟩⟩)⟩, ⟨by (with_reducible repeat (first | apply QD | apply QE | apply QI)); exact QL HO_501004.out (fun _ hk => ⟨hk.1.1.1, ⟨hk.1.1.2.1, ⟨hk.1.1.2.2, ⟨hk.1.2, hk.2⟩⟩⟩⟩)⟩, ⟨by (with_reducible repeat (first | apply QD | apply QE | apply QI)); exact QL HO_501005.out (fun _ hk => ⟨hk.1.1.1, ⟨hk.1.1.2.1, ⟨hk.1.1.2.2, ⟨hk.1.2, hk.2⟩⟩⟩⟩)⟩, ⟨by (with_reducible repeat (first | apply QD | apply QE | apply QI)); exact QL HO512.out (fun _ hk => ⟨hk.1.1.1.2, ⟨hk.1.1.2, ⟨hk.1.2, ⟨hk.2, hk.1.1.1.1⟩⟩⟩⟩)⟩, ⟨by (with_reducible repeat (first | apply QD | apply QE | apply QI)); exact QL HO515.out (fun _ hk => ⟨hk.1.1.1.2, ⟨hk.1.1.2, ⟨hk.1.2, ⟨hk.2, hk.1.1.1.1⟩⟩⟩⟩)⟩, ⟨by (with_reducible repeat (first | refine QF ?_ _ | refine QJ ?_ | refine QG ?_ _)); exact BK486.out⟩, ⟨by (with_reducible repeat (first | refine QF ?_ _ | refine QJ ?_ | refine QG ?_ _)); exact BK500.out⟩, ⟨by (with_reducible repeat (first | refine QF ?_ _ | refine QJ ?_ | refine QG ?_ _)); exact BK519.out⟩, ⟨by repeat (first | (with_reducible first | exact HB.out | apply QO | apply QK | apply QP | refine QM ?_ GE486.out | refine QM ?_ GE500.out | refine QM ?_ GE519.out) | exact HB.out)⟩⟩
       case rest =>
        clear HC38
        try clear c1
        try clear c2
        try clear c2b0
        try clear c2b1
        try clear p2
        try clear c3
        try clear c4
        try clear c5
        try clear c6
        try clear c8
        try clear c13
        try clear c18
        try clear c19
        try clear c20
        try clear c21
        try clear c23
        try clear c27
        try clear c30
        try clear c30b0
        try clear c31
        try clear c36
        try clear c36b0
        try clear c36b1
        try clear c39
        try clear c46
        try clear c47
        try clear c52
        try clear c53
        try clear c54
        try clear c56
        try clear c59
        try clear c60
        try clear c62
        try clear hcz14_0
        try clear hcz14_1
        try clear hcz14_2
        try clear hcz14_3
        try clear hcz14_4
        try clear hcz14_5
        try clear hcz14_6
        try clear hcz14_7
        try clear hcz20_0
        try clear hcz20_1
        try clear hcz20_2
        try clear hcz20_3
        try clear hcz20_4
        try clear hcz20_5
        try clear hcz20_6
        try clear hcz20_7
        try clear hcz21_0
        try clear hcz21_1
        try clear hcz21_2
        try clear hcz21_3
        try clear hcz21_4
        try clear hcz21_5
        try clear hcz21_6
        try clear hcz21_7
        try clear hcz24_0
        try clear hcz24_1
        try clear hcz24_2
        try clear hcz24_3
        try clear hcz24_4
        try clear hcz24_5
        try clear hcz24_6
        try clear hcz24_7
        try clear hcz25_0
        try clear hcz25_1
        try clear hcz25_2
        try clear hcz25_3
        try clear hcz25_4
        try clear hcz25_5
        try clear hcz25_6
        try clear hcz25_7
        try clear hcz32_0
        try clear hcz32_1
        try clear hcz32_2
        try clear hcz32_3
        try clear hcz32_4
        try clear hcz32_5
        try clear hcz32_6
        try clear hcz32_7
        try clear hcz34_0
        try clear hcz34_1
        try clear hcz34_2
        try clear hcz34_3
        try clear hcz34_4
        try clear hcz34_5
        try clear hcz34_6
        try clear hcz34_7
        try clear hcz40_0
        try clear hcz40_1
        try clear hcz40_2
        try clear hcz40_3
        try clear hcz40_4
        try clear hcz40_5
        try clear hcz40_6
        try clear hcz40_7
        try clear hcz42_0
        try clear hcz42_1
        try clear hcz42_2
        try clear hcz42_3
        try clear hcz42_4
        try clear hcz42_5
        try clear hcz42_6
        try clear hcz42_7
        try clear hcz48_0
        try clear hcz48_1
        try clear hcz48_2
        try clear hcz48_3
        try clear hcz48_4
        try clear hcz48_5
        try clear hcz48_6
        try clear hcz48_7
        try clear hcz55_0
        try clear hcz55_1
        try clear hcz55_2
        try clear hcz55_3
        try clear hcz55_4
        try clear hcz55_5
        try clear hcz55_6
        try clear hcz55_7
        try clear hcz57_0
        try clear hcz57_1
        try clear hcz57_2
        try clear hcz57_3
        try clear hcz57_4
        try clear hcz57_5
        try clear hcz57_6
        try clear hcz57_7
        try clear hcz61_0
        try clear hcz61_1
        try clear hcz61_2
        try clear hcz61_3
        try clear hcz61_4
        try clear hcz61_5
        try clear hcz61_6
        try clear hcz61_7
        try clear hcz63_0
        try clear hcz63_1
        try clear hcz63_2
        try clear hcz63_3
        try clear hcz63_4
        try clear hcz63_5
        try clear hcz63_6
        try clear hcz63_7
        try clear hcz8_0
        try clear hcz8_1
        try clear hcz8_2
        try clear hcz8_3
        try clear hcz8_4
        try clear hcz8_5
        try clear hcz8_6
        try clear hcz8_7
        try clear hfz14_0
        try clear hfz14_1
        try clear hfz14_2
        try clear hfz14_3
        try clear hfz14_4
        try clear hfz14_5
        try clear hfz14_6
        try clear hfz14_7
        try clear hfz20_0
        try clear hfz20_1
        try clear hfz20_2
        try clear hfz20_3
        try clear hfz20_4
        try clear hfz20_5
        try clear hfz20_6
        try clear hfz20_7
        try clear hfz21_0
        try clear hfz21_1
        try clear hfz21_2
        try clear hfz21_3
        try clear hfz21_4
        try clear hfz21_5
        try clear hfz21_6
        try clear hfz21_7
        try clear hfz24_0
        try clear hfz24_1
        try clear hfz24_2
        try clear hfz24_3
        try clear hfz24_4
        try clear hfz24_5
        try clear hfz24_6
        try clear hfz24_7
        try clear hfz25_0
        try clear hfz25_1
        try clear hfz25_2
        try clear hfz25_3
        try clear hfz25_4
        try clear hfz25_5
        try clear hfz25_6
        try clear hfz25_7
        try clear hfz32_0
        try clear hfz32_1
        try clear hfz32_2
        try clear hfz32_3
        try clear hfz32_4
        try clear hfz32_5
        try clear hfz32_6
        try clear hfz32_7
        try clear hfz34_0
        try clear hfz34_1
        try clear hfz34_2
        try clear hfz34_3
        try clear hfz34_4
        try clear hfz34_5
        try clear hfz34_6
        try clear hfz34_7
        try clear hfz40_0
        try clear hfz40_1
        try clear hfz40_2
        try clear hfz40_3
        try clear hfz40_4
        try clear hfz40_5
        try clear hfz40_6
        try clear hfz40_7
        try clear hfz42_0
        try clear hfz42_1
        try clear hfz42_2
        try clear hfz42_3
        try clear hfz42_4
        try clear hfz42_5
        try clear hfz42_6
        try clear hfz42_7
        try clear hfz48_0
        try clear hfz48_1
        try clear hfz48_2
        try clear hfz48_3
        try clear hfz48_4
        try clear hfz48_5
        try clear hfz48_6
        try clear hfz48_7
        try clear hfz55_0
        try clear hfz55_1
        try clear hfz55_2
        try clear hfz55_3
        try clear hfz55_4
        try clear hfz55_5
        try clear hfz55_6
        try clear hfz55_7
        try clear hfz57_0
        try clear hfz57_1
        try clear hfz57_2
        try clear hfz57_3
        try clear hfz57_4
        try clear hfz57_5
        try clear hfz57_6
        try clear hfz57_7
        try clear hfz61_0
        try clear hfz61_1
        try clear hfz61_2
        try clear hfz61_3
        try clear hfz61_4
        try clear hfz61_5
        try clear hfz61_6
        try clear hfz61_7
        try clear hfz63_0
        try clear hfz63_1
        try clear hfz63_2
        try clear hfz63_3
        try clear hfz63_4
        try clear hfz63_5
        try clear hfz63_6
        try clear hfz63_7
        try clear hfz8_0
        try clear hfz8_1
        try clear hfz8_2
        try clear hfz8_3
        try clear hfz8_4
        try clear hfz8_5
        try clear hfz8_6
        try clear hfz8_7
        try clear p2
        obtain ⟨kq, x57_37, rfl, HA, HJ37, HO_487004, HO_487005, HO_501004, HO_501005, HO_520004, HO_520005, BK486, BK500, BK519, HB⟩ := hcut
        have hl501004_37 := (QN HO_501004.out).1
        rw [hl501004_37] at HO_501004
        (try simp only [hl501004_37])
        (try simp only [hl501004_37] at BK486)
        (try simp only [hl501004_37] at BK500)
        (try simp only [hl501004_37] at BK519)
        (try simp only [hl501004_37] at HO_487004)
        (try simp only [hl501004_37] at HO_487005)
        (try simp only [hl501004_37] at HO_501005)
        (try simp only [hl501004_37] at HO_520004)
        (try simp only [hl501004_37] at HO_520005)
        have hl501005_37 := (QN HO_501005.out).1
        rw [hl501005_37] at HO_501005
        (try simp only [hl501005_37])
        (try simp only [hl501005_37] at BK486)
        (try simp only [hl501005_37] at BK500)
        (try simp only [hl501005_37] at BK519)
        (try simp only [hl501005_37] at HO_487004)
        (try simp only [hl501005_37] at HO_487005)
        (try simp only [hl501005_37] at HO_501004)
        (try simp only [hl501005_37] at HO_520004)
        (try simp only [hl501005_37] at HO_520005)
        cases kq with
        | zero => exact absurd HA.out (by simp [laws_FnExactParseRules.j1])
        | succ kj37 =>
         have H := HA.out
         clear HA
         simp only [laws_FnExactParseRules.j1] at H
         by_cases c65 : x57_37 = true
         ·subst c65
          rw [if_pos rfl] at H
          exact absurd (Option.some.inj H) (by rw [HT.out]; decide)
         ·replace c65 := Bool.eq_false_iff.mpr c65
          subst c65
          rw [if_neg (show ¬ (false = true) by decide)] at H
          replace H := Option.bind_eq_some_iff.mp H
          obtain ⟨t521, A660, H⟩ := H
          have A66 := QT A660
          clear A660
          by_cases c67 : t521 < 0
          ·rw [if_pos c67] at H
           have c67b0 : decide (t521 < 0) = true := decide_eq_true c67
           clear c67
           exact absurd (Option.some.inj H) (by rw [HT.out]; decide)
          ·rw [if_neg c67] at H
           have c67b0 : decide (t521 < 0) = false := decide_eq_false c67
           clear c67
           by_cases c72 : t521 = t502
           ·rw [if_pos c72] at H
            have c72b0 : (t521 == t502) = true := beq_iff_eq.mpr c72
            have c72b1 : (t521 != t502) = false := bne_eq_false_iff_eq.mpr c72
            clear c72
            obtain rfl := Option.some.inj H
            have hnb73 := NB500_486.out
            have hnc73 := NB486_500.out
            have hnb74 := NB500_519.out
            have hnc74 := NB519_500.out
            have hcz75_0 : wc.cell? ⟨gb500, 0, none⟩ = some (.int .i64 t487) := (QH BK500.out 0).trans rfl
            have hcz75_1 : wc.cell? ⟨gb500, 1, none⟩ = some (.int .i64 t488) := (QH BK500.out 1).trans rfl
            have hcz75_2 : wc.cell? ⟨gb500, 2, none⟩ = some (.bool t489) := (QH BK500.out 2).trans rfl
            have hcz75_3 : wc.cell? ⟨gb500, 3, none⟩ = some (.bool t490) := (QH BK500.out 3).trans rfl
            have hcz75_4 : wc.cell? ⟨gb500, 4, none⟩ = some (.slice Ao15 t503.length co15) := (QH BK500.out 4).trans rfl
            have hcz75_5 : wc.cell? ⟨gb500, 5, none⟩ = some (.slice Ao16 t504.length co16) := (QH BK500.out 5).trans rfl
            have hcz75_6 : wc.cell? ⟨gb500, 6, none⟩ = some (.int .i64 t497) := (QH BK500.out 6).trans rfl
            have hcz75_7 : wc.cell? ⟨gb500, 7, none⟩ = some (.int .i64 t498) := (QH BK500.out 7).trans rfl
            have hfz75_0 := QB BK500.out 0
            have hfz75_1 := QB BK500.out 1
            have hfz75_2 := QB BK500.out 2
            have hfz75_3 := QB BK500.out 3
            have hfz75_4 := QB BK500.out 4
            have hfz75_5 := QB BK500.out 5
            have hfz75_6 := QB BK500.out 6
            have hfz75_7 := QB BK500.out 7
            go_wp2_with (first | ((with_reducible refine gate_callee (f := 21) rfl ?_); refine goesL_ (some 60) rfl rfl Tryd.func21 (by kernel_rfl) rfl #[.agg #[.int .i64 t487, .int .i64 t488, .bool t489, .bool t490, .slice Ao15 t503.length co15, .slice Ao16 t504.length co16, .int .i64 t497, .int .i64 t498], .int .i64 1] rfl (by (try simp only [List.map_toArray, List.map_cons, List.map_nil]); first | done | rfl | (simp only [List.length_drop, List.length_take]; rfl)) ?_; (with_reducible refine (laws_heldRules.calls kj37 t487 t488 t489 t490 _ _ t503 _ _ t504 t497 t498 1 t521 _ ?side1 ?side2 ?side3 ?side4 A66.out).mono ?_); (case side1 => repeat (first | exact (QN HO_501004.out).2.2 | (with_reducible refine Kd.C_alloc ?_ _) | (with_reducible refine Kd.C_drewN ?_ _) | (with_reducible refine Kd.C_drew ?_))); (case side2 => exact (QN HO_501004.out).2.1); (case side3 => repeat (first | exact (QN HO_501005.out).2.2 | (with_reducible refine Kd.C_alloc ?_ _) | (with_reducible refine Kd.C_drewN ?_ _) | (with_reducible refine Kd.C_drew ?_))); (case side4 => exact (QN HO_501005.out).2.1); rintro e w76 ⟨rfl, hb⟩; refine ⟨_, rfl, ?_⟩; have n0_ := QT (QR (by (with_reducible repeat (first | apply QD | apply QE | apply QI)); exact HO_487004.out) hb); have n1_ := QT (QR (by (with_reducible repeat (first | apply QD | apply QE | apply QI)); exact HO_487005.out) hb); have n2_ := QT (QR (by (with_reducible repeat (first | apply QD | apply QE | apply QI)); exact HO_501004.out) hb); have n3_ := QT (QR (by (with_reducible repeat (first | apply QD | apply QE | apply QI)); exact HO_501005.out) hb); have n4_ := QT (QR (by (with_reducible repeat (first | apply QD | apply QE | apply QI)); exact HO_520004.out) hb); have n5_ := QT (QR (by (with_reducible repeat (first | apply QD | apply QE | apply QI)); exact HO_520005.out) hb); have n6_ := QT (blk_below (g := gb486) (o := .cells #[.int .i64 t473, .int .i64 t474, .bool t475, .bool t476, .slice Ao9 t477.length co9, .slice Ao10 t480.length co10, .int .i64 t483, .int .i64 t484] 26 (0, 0)) (by (with_reducible repeat (first | refine QF ?_ _ | refine QJ ?_ | refine QG ?_ _)); exact BK486.out) hb); have n7_ := QT (blk_below (g := gb500) (o := .cells #[.int .i64 t487, .int .i64 t488, .bool t489, .bool t490, .slice Ao15 t503.length co15, .slice Ao16 t504.length co16, .int .i64 t497, .int .i64 t498] 26 (0, 0)) (by (with_reducible repeat (first | refine QF ?_ _ | refine QJ ?_ | refine QG ?_ _)); exact BK500.out) hb); have n8_ := QT (blk_below (g := gb519) (o := .cells #[.int .i64 t506, .int .i64 t507, .bool t508, .bool t509, .slice Ao49 t510.length co49, .slice Ao50 t513.length co50, .int .i64 t516, .int .i64 t517] 26 (0, 0)) (by (with_reducible repeat (first | refine QF ?_ _ | refine QJ ?_ | refine QG ?_ _)); exact BK519.out) hb); have n9_ := QT (below_step (by repeat (first | (with_reducible first | exact HB.out | apply QO | apply QK | apply QP | refine QM ?_ GE486.out | refine QM ?_ GE500.out | refine QM ?_ GE519.out) | exact HB.out)) hb); clear HO_487004; clear HO_487005; clear HO_501004; clear HO_501005; clear HO_520004; clear HO_520005; clear BK486; clear BK500; clear BK519; clear HB; have HO_487004 := n0_; have HO_487005 := n1_; have HO_501004 := n2_; have HO_501005 := n3_; have HO_520004 := n4_; have HO_520005 := n5_; have BK486 := n6_; have BK500 := n7_; have BK519 := n8_; have HB := n9_; clear n0_ n1_ n2_ n3_ n4_ n5_ n6_ n7_ n8_ n9_; (try clear hb); (try clear hb2); (try clear hk); (try clear hi)))
            go_ret
            exact ⟨by first | rfl | (simp [errW_none, errW_some] <;> rfl) | (simp [*, errW_none, errW_some] <;> rfl), by repeat (first | (with_reducible first | exact HB.out | apply QO | apply QK | apply QP | refine QM ?_ GE486.out | refine QM ?_ GE500.out | refine QM ?_ GE519.out) | exact HB.out)⟩
           ·rw [if_neg c72] at H
            have c72b0 : (t521 == t502) = false := beq_eq_false_iff_ne.mpr c72
            have c72b1 : (t521 != t502) = true := bne_iff_ne.mpr c72
            exact absurd (Option.some.inj H) (by rw [HT.out]; decide)
      ·rw [if_neg c36] at H
       have c36b0 : (t505 == t502) = false := beq_eq_false_iff_ne.mpr c36
       have c36b1 : (t505 != t502) = true := bne_iff_ne.mpr c36
       exact absurd (Option.some.inj H) (by rw [HT.out]; decide)

/-- THE ONE PURE STATEMENT of laws_FnExactParseRules: yours. -/
def laws_FnExactParseRules.Pure : Prop := ∀ (a0 : ByteArray), a0.size ≤ 140737488351232 → ∃ k, laws_FnExactParseRules.f k a0 = some true
theorem laws_FnExactParseRules.walk (P : laws_FnExactParseRules.Pure) (a0 : ByteArray) (w : World) (ht : LaidE w) (w0 : a0.size ≤ 140737488351232) :
  Calls Tryd.prog 4 #[.string a0] w fun e w' => e = .returned (.bool true) ∧ Below w.heap.size w w' := by
 obtain ⟨k, h⟩ := P a0 w0
 refine (laws_FnExactParseRules.calls k a0 true w ht h rfl).mono ?_
 rintro e w' ⟨rfl, hd⟩
 exact ⟨rfl, hd⟩

end Go.Proofs.YtdfmobcocaijpaaDoor.QFnExactParseRules
