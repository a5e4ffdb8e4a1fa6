/- What a call of each Go function that FnExactChoiceOf reaches comes to, as a Lean function: texts of the kit's print, turned by wip/remake.py. No condition beyond what each names. -/
import Derived.Test.YtdfmobcocaijpaaQFnExactChoiceOfx6
namespace Go.Proofs.Ytdfmobcocaijpaa.QFnExactChoiceOf
open Go.RowKit Go.Proofs.YtdfmobcocaijpaaW.PrintWords Go.Proofs.YtdfmobcocaijpaaW.PrintLast Go.Proofs.YtdfmobcocaijpaaW.PrintMore
open Go.Proofs.YtdfmobcocaijpaaW.PrintWords renaming blk_frozen → QB, blk_cell → QC, pw_below_drewN → QD, below_drew1 → QE, below_alloc → QF, below_set → QK, below_size → QL
open Go.Proofs.YtdfmobcocaijpaaW.PrintWords.Kd renaming C_alloc → QG, C_drewN → QH, C_drew → QI, C_below → QJ
open List renaming setIfInBounds_toArray → QM, set_cons_zero → QN, set_cons_succ → QO
open Go.Proofs.YtdfmobcocaijpaaW.PrintWords.Aside0 renaming mk → QP
attribute [local go_sem] max2_int min2_int max_two min_two max_three min_three max_four min_four   -- for this text's walks alone
set_option linter.unusedVariables false
set_option linter.unusedSimpArgs false

/-! ### impl_ChoiceOf: function 7 -/
def impl_ChoiceOf.l0 : Nat → List Int → Int → List Int → Int → Int → Option (Int)
 | 0,_,_,_,_,_ => none
 | k + 1,x6,x7,x41,x42,x43 => if x43 < x42 then (if 0 ≤ x43 then (if x43 < (x41.length : Int) then ((impl_SuitOf.f (rd x41 x43)).bind fun t502 => (if 0 ≤ t502 then (if t502 < (x6.length : Int) then ((impl_SuitOf.f x7).bind fun t504 => (if 0 ≤ t504 then (if t504 < (x6.length : Int) then (if (rd x6 t502) > (rd x6 t504) then (impl_ChoiceOf.l0 k x6 (rd x41 x43) x41 x42 (wrap64 (x43 + 1))) else (impl_ChoiceOf.l0 k x6 x7 x41 x42 (wrap64 (x43 + 1)))) else (none)) else (none))) else (none)) else (none))) else (none)) else (none)) else (some x7)
def impl_ChoiceOf.f (k : Nat) (a0_0 : Int) (a0_1 : Int) (a0_2 : Bool) (a0_3 : Bool) (l0_4 : List Int) (l0_5 : List Int) (a0_6 : Int) (a0_7 : Int) (l0_8 : List (List Int)) (l0_9 : List Int) (l0_10 : List Int) (a0_11 : Int) (a0_12 : Int) (a0_13 : Int) (a1 : Int) : Option (Int) := (impl_Playable.f k a0_0 a0_1 a0_2 a0_3 l0_4 l0_5 a0_6 a0_7 l0_8 l0_9 l0_10 a0_11 a0_12 a0_13).bind fun t491 => (if (t491.length : Int) = 0 then (some (-1)) else (if a1 = 0 then (if 0 < (t491.length : Int) then (some (rd t491 0)) else (none)) else (if a1 = 1 then (if 0 ≤ (wrap64 ((t491.length : Int) - 1)) then (if (wrap64 ((t491.length : Int) - 1)) < (t491.length : Int) then (some (rd t491 (wrap64 ((t491.length : Int) - 1)))) else (none)) else (none)) else (if a1 = 2 then (if 0 ≤ a0_11 then (if a0_11 < (l0_8.length : Int) then ((impl_SuitCounts.f k (rd_L1 l0_8 a0_11)).bind fun t497 => (if 0 < (t491.length : Int) then (impl_ChoiceOf.l0 k t497 (rd t491 0) t491 (t491.length : Int) 0) else (none))) else (none)) else (none)) else (some (-1))))))
theorem impl_ChoiceOf.mono_l : ∀ k, (∀ y0 y1 y2 y3 y4, LeO (impl_ChoiceOf.l0 k y0 y1 y2 y3 y4) (impl_ChoiceOf.l0 (k + 1) y0 y1 y2 y3 y4))
 | 0 => fun _ _ _ _ _ r h => by simp [impl_ChoiceOf.l0] at h
 | k + 1 => by
  have ih0 := impl_ChoiceOf.mono_l k
  ·intro y0 y1 y2 y3 y4
   unfold impl_ChoiceOf.l0
   repeat' first
   | (with_reducible exact ih0 _ _ _ _ _)
   | (with_reducible exact impl_Playable.mono _ _ _ _ _ _ _ _ _ _ _ _ _ _ _)
   | (with_reducible exact impl_SuitCounts.mono _ _)
   | (with_reducible exact LeO.refl _)
   | (with_reducible exact LeO.none _)
   | (with_reducible refine LeO.ite ?_ ?_)
   | (with_reducible refine LeO.bind ?_ (fun _ => ?_))
   | exact ih0 _ _ _ _ _
   | exact impl_Playable.mono _ _ _ _ _ _ _ _ _ _ _ _ _ _ _
   | exact impl_SuitCounts.mono _ _
   | exact LeO.none _
   | refine LeO.ite ?_ ?_
   | refine LeO.bind ?_ (fun _ => ?_)
theorem impl_ChoiceOf.mono : ∀ a0 a1 a2 a3 a4 a5 a6 a7 a8 a9 a10 a11 a12 a13 a14 k, LeO (impl_ChoiceOf.f k a0 a1 a2 a3 a4 a5 a6 a7 a8 a9 a10 a11 a12 a13 a14) (impl_ChoiceOf.f (k + 1) a0 a1 a2 a3 a4 a5 a6 a7 a8 a9 a10 a11 a12 a13 a14) := by
 intro a0 a1 a2 a3 a4 a5 a6 a7 a8 a9 a10 a11 a12 a13 a14 k
 have ih0 := impl_ChoiceOf.mono_l k
 unfold impl_ChoiceOf.f
 repeat' first
   | (with_reducible exact ih0 _ _ _ _ _)
   | (with_reducible exact impl_Playable.mono _ _ _ _ _ _ _ _ _ _ _ _ _ _ _)
   | (with_reducible exact impl_SuitCounts.mono _ _)
   | (with_reducible exact LeO.refl _)
   | (with_reducible exact LeO.none _)
   | (with_reducible refine LeO.ite ?_ ?_)
   | (with_reducible refine LeO.bind ?_ (fun _ => ?_))
   | exact ih0 _ _ _ _ _
   | exact impl_Playable.mono _ _ _ _ _ _ _ _ _ _ _ _ _ _ _
   | exact impl_SuitCounts.mono _ _
   | exact LeO.none _
   | refine LeO.ite ?_ ?_
   | refine LeO.bind ?_ (fun _ => ?_)
def impl_ChoiceOf.T10 : Bool × List (List Nat × List Nat) := (true, [([], []), ([0], [0]), ([], []), ([2], [2]), ([1, 3], [1, 3]), ([4], [4]), ([5], [5]), ([], []), ([7], [7]), ([8], [8]), ([6, 6, 0, 1, 2, 3, 4, 5, 6], [6]), ([9, 10, 0, 1, 2, 3, 4, 5, 6, 7, 8, 9, 10], [9])])
def impl_ChoiceOf.B10 : List Nat := [0, 1, 0, 4, 15, 31, 63, 0, 128, 384, 127, 2047]
theorem impl_ChoiceOf.tab10 : rtab .any (opsOf Try.f7 10) = impl_ChoiceOf.T10 := by kernel_rfl
theorem impl_ChoiceOf.bits10 : waitsOk impl_ChoiceOf.T10.2 impl_ChoiceOf.B10 = true := by kernel_rfl
def impl_ChoiceOf.T14 : Bool × List (List Nat × List Nat) := (true, [([], []), ([], []), ([1], [1]), ([0, 2], [0, 2]), ([3], [3]), ([], []), ([], []), ([6, 2], [6]), ([5, 7], [5, 7]), ([8], [8]), ([4, 9], [4, 9])])
def impl_ChoiceOf.B14 : List Nat := [0, 0, 2, 7, 15, 0, 0, 70, 230, 486, 1023]
theorem impl_ChoiceOf.tab14 : rtab .any (opsOf Try.f7 14) = impl_ChoiceOf.T14 := by kernel_rfl
theorem impl_ChoiceOf.bits14 : waitsOk impl_ChoiceOf.T14.2 impl_ChoiceOf.B14 = true := by kernel_rfl
set_option maxHeartbeats 8000000 in
set_option maxRecDepth 100000 in
theorem impl_ChoiceOf.calls (k : Nat) (a0_0 : Int) (a0_1 : Int) (a0_2 : Bool) (a0_3 : Bool) (A0_4 : Option Addr) (c0_4 : Nat) (l0_4 : List Int) (A0_5 : Option Addr) (c0_5 : Nat) (l0_5 : List Int) (a0_6 : Int) (a0_7 : Int) (A0_8 : Option Addr) (c0_8 : Nat) (l0_8 : List (List Int)) (A0_9 : Option Addr) (c0_9 : Nat) (l0_9 : List Int) (A0_10 : Option Addr) (c0_10 : Nat) (l0_10 : List Int) (a0_11 : Int) (a0_12 : Int) (a0_13 : Int) (a1 : Int) (r : Int) (w : World) (hr0_4 : Kd.C (Kd.int .i64) w A0_4 l0_4.length l0_4) (hc0_4 : l0_4.length ≤ c0_4) (hr0_5 : Kd.C (Kd.int .i64) w A0_5 l0_5.length l0_5) (hc0_5 : l0_5.length ≤ c0_5) (hr0_8 : Kd.C (Kd.slice 3 (Kd.int .i64)) w A0_8 l0_8.length l0_8) (hc0_8 : l0_8.length ≤ c0_8) (hr0_9 : Kd.C (Kd.int .i64) w A0_9 l0_9.length l0_9) (hc0_9 : l0_9.length ≤ c0_9) (hr0_10 : Kd.C (Kd.int .i64) w A0_10 l0_10.length l0_10) (hc0_10 : l0_10.length ≤ c0_10) (h : impl_ChoiceOf.f k a0_0 a0_1 a0_2 a0_3 l0_4 l0_5 a0_6 a0_7 l0_8 l0_9 l0_10 a0_11 a0_12 a0_13 a1 = some r) :
  Calls Try.prog 7 #[.agg #[.int .i64 a0_0,.int .i64 a0_1,.bool a0_2,.bool a0_3,.slice A0_4 l0_4.length c0_4,.slice A0_5 l0_5.length c0_5,.int .i64 a0_6,.int .i64 a0_7,.slice A0_8 l0_8.length c0_8,.slice A0_9 l0_9.length c0_9,.slice A0_10 l0_10.length c0_10,.int .i64 a0_11,.int .i64 a0_12,.int .i64 a0_13],.int .i64 a1] w fun e w' => e = .returned (.int .i64 r) ∧ Below w.heap.size w w' := by
 have hu32 := Try.underlying32
 have HR0_4 := QP hr0_4
 have HC0_4 := QP hc0_4
 clear hr0_4 hc0_4
 have HR0_5 := QP hr0_5
 have HC0_5 := QP hc0_5
 clear hr0_5 hc0_5
 have HR0_8 := QP hr0_8
 have HC0_8 := QP hc0_8
 clear hr0_8 hc0_8
 have HR0_9 := QP hr0_9
 have HC0_9 := QP hc0_9
 clear hr0_9 hc0_9
 have HR0_10 := QP hr0_10
 have HC0_10 := QP hc0_10
 clear hr0_10 hc0_10
 have HB := QP (Below.refl w.heap.size w)
 have H : ((impl_Playable.f k a0_0 a0_1 a0_2 a0_3 l0_4 l0_5 a0_6 a0_7 l0_8 l0_9 l0_10 a0_11 a0_12 a0_13).bind fun t491 => (if (t491.length : Int) = 0 then (some (-1)) else (if a1 = 0 then (if 0 < (t491.length : Int) then (some (rd t491 0)) else (none)) else (if a1 = 1 then (if 0 ≤ (wrap64 ((t491.length : Int) - 1)) then (if (wrap64 ((t491.length : Int) - 1)) < (t491.length : Int) then (some (rd t491 (wrap64 ((t491.length : Int) - 1)))) else (none)) else (none)) else (if a1 = 2 then (if 0 ≤ a0_11 then (if a0_11 < (l0_8.length : Int) then ((impl_SuitCounts.f k (rd_L1 l0_8 a0_11)).bind fun t497 => (if 0 < (t491.length : Int) then (impl_ChoiceOf.l0 k t497 (rd t491 0) t491 (t491.length : Int) 0) else (none))) else (none)) else (none)) else (some (-1))))))) = some r := h
 clear h
 replace H := Option.bind_eq_some_iff.mp H
 obtain ⟨t491,A30,H⟩ := H
 have A3 := QP A30
 clear A30
 by_cases c4 : (t491.length : Int) = 0
 ·rw [if_pos c4] at H
  have c4b0 : ((t491.length : Int) == 0) = true := beq_iff_eq.mpr c4
  have c4b1 : ((t491.length : Int) != 0) = false := bne_eq_false_iff_eq.mpr c4
  clear c4
  obtain rfl := Option.some.inj H
  go_enter Try.func7,Try.ntmps7
  go_wp2_with (first | ((with_reducible refine gate_dst (N := 2) rfl ?_); refine box_event ?hg (N := 2) ?hd (cs := #[.int .i64 a0_0,.int .i64 a0_1,.bool a0_2,.bool a0_3,.slice A0_4 l0_4.length c0_4,.slice A0_5 l0_5.length c0_5,.int .i64 a0_6,.int .i64 a0_7,.slice A0_8 l0_8.length c0_8,.slice A0_9 l0_9.length c0_9,.slice A0_10 l0_10.length c0_10,.int .i64 a0_11,.int .i64 a0_12,.int .i64 a0_13]) (t := 32) ?hr ?_; (case hd => rfl); (case hg => rfl); (case hr => first | (go_simp; done) | (go_simp; rfl)); intro gb490 hg w5 hbox hb; have n0_ := QP (below_step (by repeat (first | (with_reducible first | exact HB.out | apply QF | apply QD | apply QE) | exact HB.out)) hb); have n1_ := QP (hbox); have n2_ := QP ((by rw [hg]; exact (QL (by repeat (first | (with_reducible first | exact HB.out | apply QF | apply QD | apply QE) | exact HB.out))) : w.heap.size ≤ gb490)); have n3_ := QP ((by rw [hg]; exact (QL (by repeat (first | (with_reducible first | exact HB.out | apply QF | apply QD | apply QE) | exact HB.out))) : w.heap.size ≤ gb490)); clear HB; revert n0_ n1_ n2_ n3_; intro HB BK490 GW490 GE490; clear hb hbox hg; have hcz6_0 : w5.cell? ⟨gb490,0,none⟩ = some (.int .i64 a0_0) := (QC BK490.out 0).trans rfl; have hcz6_1 : w5.cell? ⟨gb490,1,none⟩ = some (.int .i64 a0_1) := (QC BK490.out 1).trans rfl; have hcz6_2 : w5.cell? ⟨gb490,2,none⟩ = some (.bool a0_2) := (QC BK490.out 2).trans rfl; have hcz6_3 : w5.cell? ⟨gb490,3,none⟩ = some (.bool a0_3) := (QC BK490.out 3).trans rfl; have hcz6_4 : w5.cell? ⟨gb490,4,none⟩ = some (.slice A0_4 l0_4.length c0_4) := (QC BK490.out 4).trans rfl; have hcz6_5 : w5.cell? ⟨gb490,5,none⟩ = some (.slice A0_5 l0_5.length c0_5) := (QC BK490.out 5).trans rfl; have hcz6_6 : w5.cell? ⟨gb490,6,none⟩ = some (.int .i64 a0_6) := (QC BK490.out 6).trans rfl; have hcz6_7 : w5.cell? ⟨gb490,7,none⟩ = some (.int .i64 a0_7) := (QC BK490.out 7).trans rfl; have hcz6_8 : w5.cell? ⟨gb490,8,none⟩ = some (.slice A0_8 l0_8.length c0_8) := (QC BK490.out 8).trans rfl; have hcz6_9 : w5.cell? ⟨gb490,9,none⟩ = some (.slice A0_9 l0_9.length c0_9) := (QC BK490.out 9).trans rfl; have hcz6_10 : w5.cell? ⟨gb490,10,none⟩ = some (.slice A0_10 l0_10.length c0_10) := (QC BK490.out 10).trans rfl; have hcz6_11 : w5.cell? ⟨gb490,11,none⟩ = some (.int .i64 a0_11) := (QC BK490.out 11).trans rfl; have hcz6_12 : w5.cell? ⟨gb490,12,none⟩ = some (.int .i64 a0_12) := (QC BK490.out 12).trans rfl; have hcz6_13 : w5.cell? ⟨gb490,13,none⟩ = some (.int .i64 a0_13) := (QC BK490.out 13).trans rfl; have hfz6_0 := QB BK490.out 0; have hfz6_1 := QB BK490.out 1; have hfz6_2 := QB BK490.out 2; have hfz6_3 := QB BK490.out 3; have hfz6_4 := QB BK490.out 4; have hfz6_5 := QB BK490.out 5; have hfz6_6 := QB BK490.out 6; have hfz6_7 := QB BK490.out 7; have hfz6_8 := QB BK490.out 8; have hfz6_9 := QB BK490.out 9; have hfz6_10 := QB BK490.out 10; have hfz6_11 := QB BK490.out 11; have hfz6_12 := QB BK490.out 12; have hfz6_13 := QB BK490.out 13) | ((with_reducible refine gate_callee (f := 19) rfl ?_); refine goesL_ (some 11) rfl rfl Try.func19 (by kernel_rfl) rfl #[.agg #[.int .i64 a0_0,.int .i64 a0_1,.bool a0_2,.bool a0_3,.slice A0_4 l0_4.length c0_4,.slice A0_5 l0_5.length c0_5,.int .i64 a0_6,.int .i64 a0_7,.slice A0_8 l0_8.length c0_8,.slice A0_9 l0_9.length c0_9,.slice A0_10 l0_10.length c0_10,.int .i64 a0_11,.int .i64 a0_12,.int .i64 a0_13]] rfl (by (try simp only [List.map_toArray,List.map_cons,List.map_nil]); first | done | rfl | (simp only [List.length_drop,List.length_take]; rfl)) ?_; (with_reducible refine (impl_Playable.calls k a0_0 a0_1 a0_2 a0_3 _ _ l0_4 _ _ l0_5 a0_6 a0_7 _ _ l0_8 _ _ l0_9 _ _ l0_10 a0_11 a0_12 a0_13 t491 _ ?side1 ?side2 ?side3 ?side4 ?side5 ?side6 ?side7 ?side8 ?side9 ?side10 A3.out).mono ?_); (case side1 => repeat (first | exact (QJ HR0_4.out HB.out) | (with_reducible refine QG ?_ _) | (with_reducible refine QH ?_ _) | (with_reducible refine QI ?_))); (case side2 => exact HC0_4.out); (case side3 => repeat (first | exact (QJ HR0_5.out HB.out) | (with_reducible refine QG ?_ _) | (with_reducible refine QH ?_ _) | (with_reducible refine QI ?_))); (case side4 => exact HC0_5.out); (case side5 => repeat (first | exact (QJ HR0_8.out HB.out) | (with_reducible refine QG ?_ _) | (with_reducible refine QH ?_ _) | (with_reducible refine QI ?_))); (case side6 => exact HC0_8.out); (case side7 => repeat (first | exact (QJ HR0_9.out HB.out) | (with_reducible refine QG ?_ _) | (with_reducible refine QH ?_ _) | (with_reducible refine QI ?_))); (case side8 => exact HC0_9.out); (case side9 => repeat (first | exact (QJ HR0_10.out HB.out) | (with_reducible refine QG ?_ _) | (with_reducible refine QH ?_ _) | (with_reducible refine QI ?_))); (case side10 => exact HC0_10.out); rintro e w7 ⟨v492,rfl,ho0,hb⟩; refine ⟨_,rfl,?_⟩; have n0_ := QP (Kd.R_lower ho0 (QL (by repeat (first | (with_reducible first | exact HB.out | apply QF | apply QD | apply QE | refine QK ?_ GE490.out) | exact HB.out)))); have n1_ := QP (blk_below (g := gb490) (o := .cells #[.int .i64 a0_0,.int .i64 a0_1,.bool a0_2,.bool a0_3,.slice A0_4 l0_4.length c0_4,.slice A0_5 l0_5.length c0_5,.int .i64 a0_6,.int .i64 a0_7,.slice A0_8 l0_8.length c0_8,.slice A0_9 l0_9.length c0_9,.slice A0_10 l0_10.length c0_10,.int .i64 a0_11,.int .i64 a0_12,.int .i64 a0_13] 32 (0,0)) (by (with_reducible repeat (first | refine blk_drewN ?_ _ | refine blk_drew ?_ | refine blk_alloc ?_ _)); exact BK490.out) hb); have n2_ := QP (below_step (by repeat (first | (with_reducible first | exact HB.out | apply QF | apply QD | apply QE | refine QK ?_ GE490.out) | exact HB.out)) hb); clear BK490; clear HB; revert n0_ n1_ n2_; intro HO493 BK490 HB; (try clear hb); (try clear hb2); (try clear hk); (try clear hi); (try clear ho0); obtain ⟨Ao8,co8,eo8⟩ := Kd.R_slice HO493.out; subst eo8))
  go_ret
  exact ⟨by first | rfl | (simp [errW_none,errW_some] <;> rfl) | (simp [*,errW_none,errW_some] <;> rfl),by repeat (first | (with_reducible first | exact HB.out | apply QF | apply QD | apply QE | refine QK ?_ GE490.out) | exact HB.out)⟩
 ·rw [if_neg c4] at H
  have c4b0 : ((t491.length : Int) == 0) = false := beq_eq_false_iff_ne.mpr c4
  have c4b1 : ((t491.length : Int) != 0) = true := bne_iff_ne.mpr c4
  have c4b2 : ¬ (t491 = []) := fun h_ => c4 (by rw [h_]; rfl)
  by_cases c9 : a1 = 0
  ·rw [if_pos c9] at H
   have c9b0 : (a1 == 0) = true := beq_iff_eq.mpr c9
   have c9b1 : (a1 != 0) = false := bne_eq_false_iff_eq.mpr c9
   clear c9
   by_cases c10 : 0 < (t491.length : Int)
   ·rw [if_pos c10] at H
    have c10b0 : decide (0 < (t491.length : Int)) = true := decide_eq_true c10
    have c10b1 : decide (0 < t491.length) = true := decide_eq_true (by omega)
    clear c10
    obtain rfl := Option.some.inj H
    go_enter Try.func7,Try.ntmps7
    go_wp2_with (first | ((with_reducible refine gate_dst (N := 2) rfl ?_); refine box_event ?hg (N := 2) ?hd (cs := #[.int .i64 a0_0,.int .i64 a0_1,.bool a0_2,.bool a0_3,.slice A0_4 l0_4.length c0_4,.slice A0_5 l0_5.length c0_5,.int .i64 a0_6,.int .i64 a0_7,.slice A0_8 l0_8.length c0_8,.slice A0_9 l0_9.length c0_9,.slice A0_10 l0_10.length c0_10,.int .i64 a0_11,.int .i64 a0_12,.int .i64 a0_13]) (t := 32) ?hr ?_; (case hd => rfl); (case hg => rfl); (case hr => first | (go_simp; done) | (go_simp; rfl)); intro gb490 hg w11 hbox hb; have n0_ := QP (below_step (by repeat (first | (with_reducible first | exact HB.out | apply QF | apply QD | apply QE) | exact HB.out)) hb); have n1_ := QP (hbox); have n2_ := QP ((by rw [hg]; exact (QL (by repeat (first | (with_reducible first | exact HB.out | apply QF | apply QD | apply QE) | exact HB.out))) : w.heap.size ≤ gb490)); have n3_ := QP ((by rw [hg]; exact (QL (by repeat (first | (with_reducible first | exact HB.out | apply QF | apply QD | apply QE) | exact HB.out))) : w.heap.size ≤ gb490)); clear HB; revert n0_ n1_ n2_ n3_; intro HB BK490 GW490 GE490; clear hb hbox hg; have hcz12_0 : w11.cell? ⟨gb490,0,none⟩ = some (.int .i64 a0_0) := (QC BK490.out 0).trans rfl; have hcz12_1 : w11.cell? ⟨gb490,1,none⟩ = some (.int .i64 a0_1) := (QC BK490.out 1).trans rfl; have hcz12_2 : w11.cell? ⟨gb490,2,none⟩ = some (.bool a0_2) := (QC BK490.out 2).trans rfl; have hcz12_3 : w11.cell? ⟨gb490,3,none⟩ = some (.bool a0_3) := (QC BK490.out 3).trans rfl; have hcz12_4 : w11.cell? ⟨gb490,4,none⟩ = some (.slice A0_4 l0_4.length c0_4) := (QC BK490.out 4).trans rfl; have hcz12_5 : w11.cell? ⟨gb490,5,none⟩ = some (.slice A0_5 l0_5.length c0_5) := (QC BK490.out 5).trans rfl; have hcz12_6 : w11.cell? ⟨gb490,6,none⟩ = some (.int .i64 a0_6) := (QC BK490.out 6).trans rfl; have hcz12_7 : w11.cell? ⟨gb490,7,none⟩ = some (.int .i64 a0_7) := (QC BK490.out 7).trans rfl; have hcz12_8 : w11.cell? ⟨gb490,8,none⟩ = some (.slice A0_8 l0_8.length c0_8) := (QC BK490.out 8).trans rfl; have hcz12_9 : w11.cell? ⟨gb490,9,none⟩ = some (.slice A0_9 l0_9.length c0_9) := (QC BK490.out 9).trans rfl; have hcz12_10 : w11.cell? ⟨gb490,10,none⟩ = some (.slice A0_10 l0_10.length c0_10) := (QC BK490.out 10).trans rfl; have hcz12_11 : w11.cell? ⟨gb490,11,none⟩ = some (.int .i64 a0_11) := (QC BK490.out 11).trans rfl; have hcz12_12 : w11.cell? ⟨gb490,12,none⟩ = some (.int .i64 a0_12) := (QC BK490.out 12).trans rfl; have hcz12_13 : w11.cell? ⟨gb490,13,none⟩ = some (.int .i64 a0_13) := (QC BK490.out 13).trans rfl; have hfz12_0 := QB BK490.out 0; have hfz12_1 := QB BK490.out 1; have hfz12_2 := QB BK490.out 2; have hfz12_3 := QB BK490.out 3; have hfz12_4 := QB BK490.out 4; have hfz12_5 := QB BK490.out 5; have hfz12_6 := QB BK490.out 6; have hfz12_7 := QB BK490.out 7; have hfz12_8 := QB BK490.out 8; have hfz12_9 := QB BK490.out 9; have hfz12_10 := QB BK490.out 10; have hfz12_11 := QB BK490.out 11; have hfz12_12 := QB BK490.out 12; have hfz12_13 := QB BK490.out 13) | ((with_reducible refine gate_callee (f := 19) rfl ?_); refine goesL_ (some 11) rfl rfl Try.func19 (by kernel_rfl) rfl #[.agg #[.int .i64 a0_0,.int .i64 a0_1,.bool a0_2,.bool a0_3,.slice A0_4 l0_4.length c0_4,.slice A0_5 l0_5.length c0_5,.int .i64 a0_6,.int .i64 a0_7,.slice A0_8 l0_8.length c0_8,.slice A0_9 l0_9.length c0_9,.slice A0_10 l0_10.length c0_10,.int .i64 a0_11,.int .i64 a0_12,.int .i64 a0_13]] rfl (by (try simp only [List.map_toArray,List.map_cons,List.map_nil]); first | done | rfl | (simp only [List.length_drop,List.length_take]; rfl)) ?_; (with_reducible refine (impl_Playable.calls k a0_0 a0_1 a0_2 a0_3 _ _ l0_4 _ _ l0_5 a0_6 a0_7 _ _ l0_8 _ _ l0_9 _ _ l0_10 a0_11 a0_12 a0_13 t491 _ ?side1 ?side2 ?side3 ?side4 ?side5 ?side6 ?side7 ?side8 ?side9 ?side10 A3.out).mono ?_); (case side1 => repeat (first | exact (QJ HR0_4.out HB.out) | (with_reducible refine QG ?_ _) | (with_reducible refine QH ?_ _) | (with_reducible refine QI ?_))); (case side2 => exact HC0_4.out); (case side3 => repeat (first | exact (QJ HR0_5.out HB.out) | (with_reducible refine QG ?_ _) | (with_reducible refine QH ?_ _) | (with_reducible refine QI ?_))); (case side4 => exact HC0_5.out); (case side5 => repeat (first | exact (QJ HR0_8.out HB.out) | (with_reducible refine QG ?_ _) | (with_reducible refine QH ?_ _) | (with_reducible refine QI ?_))); (case side6 => exact HC0_8.out); (case side7 => repeat (first | exact (QJ HR0_9.out HB.out) | (with_reducible refine QG ?_ _) | (with_reducible refine QH ?_ _) | (with_reducible refine QI ?_))); (case side8 => exact HC0_9.out); (case side9 => repeat (first | exact (QJ HR0_10.out HB.out) | (with_reducible refine QG ?_ _) | (with_reducible refine QH ?_ _) | (with_reducible refine QI ?_))); (case side10 => exact HC0_10.out); rintro e w13 ⟨v492,rfl,ho0,hb⟩; refine ⟨_,rfl,?_⟩; have n0_ := QP (Kd.R_lower ho0 (QL (by repeat (first | (with_reducible first | exact HB.out | apply QF | apply QD | apply QE | refine QK ?_ GE490.out) | exact HB.out)))); have n1_ := QP (blk_below (g := gb490) (o := .cells #[.int .i64 a0_0,.int .i64 a0_1,.bool a0_2,.bool a0_3,.slice A0_4 l0_4.length c0_4,.slice A0_5 l0_5.length c0_5,.int .i64 a0_6,.int .i64 a0_7,.slice A0_8 l0_8.length c0_8,.slice A0_9 l0_9.length c0_9,.slice A0_10 l0_10.length c0_10,.int .i64 a0_11,.int .i64 a0_12,.int .i64 a0_13] 32 (0,0)) (by (with_reducible repeat (first | refine blk_drewN ?_ _ | refine blk_drew ?_ | refine blk_alloc ?_ _)); exact BK490.out) hb); have n2_ := QP (below_step (by repeat (first | (with_reducible first | exact HB.out | apply QF | apply QD | apply QE | refine QK ?_ GE490.out) | exact HB.out)) hb); clear BK490; clear HB; revert n0_ n1_ n2_; intro HO493 BK490 HB; (try clear hb); (try clear hb2); (try clear hk); (try clear hi); (try clear ho0); obtain ⟨Ao14,co14,eo14⟩ := Kd.R_slice HO493.out; subst eo14; have p494 : 0 ≤ (0 : Int) := (by omega); have q494 : 0 < (t491.length : Int) := of_decide_eq_true (by first | (with_reducible assumption) | assumption); obtain ⟨ad494,e494,hx494_0⟩ := Kd.at_int (Kd.R_reads' HO493.out).2.2 0 p494 q494; cases e494; have qi494 : (0 < t491.length) = True := eq_true (by omega); (try rw [show ((0 : Int)).toNat = 0 from rfl] at hx494_0); (try rw [Addr.add_zero'] at hx494_0); replace p494 := eq_true p494; replace q494 := eq_true q494))
    go_ret
    exact ⟨by first | rfl | (simp [errW_none,errW_some] <;> rfl) | (simp [*,errW_none,errW_some] <;> rfl),by repeat (first | (with_reducible first | exact HB.out | apply QF | apply QD | apply QE | refine QK ?_ GE490.out) | exact HB.out)⟩
   ·rw [if_neg c10] at H
    exact absurd H (by simp)
  ·rw [if_neg c9] at H
   have c9b0 : (a1 == 0) = false := beq_eq_false_iff_ne.mpr c9
   have c9b1 : (a1 != 0) = true := bne_iff_ne.mpr c9
   by_cases c15 : a1 = 1
   ·rw [if_pos c15] at H
    have c15b0 : (a1 == 1) = true := beq_iff_eq.mpr c15
    have c15b1 : (a1 != 1) = false := bne_eq_false_iff_eq.mpr c15
    clear c15
    obtain ⟨ji16,hji16⟩ : ∃ j_ : Int,(wrap64 ((t491.length : Int) - 1)) = j_ := ⟨_,rfl⟩
    replace H : (if 0 ≤ (ji16) then (if (ji16) < (t491.length : Int) then (some (rd t491 (ji16))) else (none)) else (none)) = some r := by first | (rw [hji16] at H; exact H) | (simp only [hji16] at H ⊢; exact H)
    (try rw [hji16] at A3)
    have hji16w : (IntKind.i64.wrap ((t491.length : Int) - 1)) = ji16 := (i64_w _).trans hji16
    by_cases c17 : 0 ≤ (ji16)
    ·rw [if_pos c17] at H
     have c17b0 : decide (0 ≤ (ji16)) = true := decide_eq_true c17
     clear c17
     by_cases c18 : (ji16) < (t491.length : Int)
     ·rw [if_pos c18] at H
      have c18b0 : decide ((ji16) < (t491.length : Int)) = true := decide_eq_true c18
      clear c18
      obtain rfl := Option.some.inj H
      go_enter Try.func7,Try.ntmps7
      go_wp2_with (first | ((with_reducible refine gate_dst (N := 2) rfl ?_); refine box_event ?hg (N := 2) ?hd (cs := #[.int .i64 a0_0,.int .i64 a0_1,.bool a0_2,.bool a0_3,.slice A0_4 l0_4.length c0_4,.slice A0_5 l0_5.length c0_5,.int .i64 a0_6,.int .i64 a0_7,.slice A0_8 l0_8.length c0_8,.slice A0_9 l0_9.length c0_9,.slice A0_10 l0_10.length c0_10,.int .i64 a0_11,.int .i64 a0_12,.int .i64 a0_13]) (t := 32) ?hr ?_; (case hd => rfl); (case hg => rfl); (case hr => first | (go_simp; done) | (go_simp; rfl)); intro gb490 hg w19 hbox hb; have n0_ := QP (below_step (by repeat (first | (with_reducible first | exact HB.out | apply QF | apply QD | apply QE) | exact HB.out)) hb); have n1_ := QP (hbox); have n2_ := QP ((by rw [hg]; exact (QL (by repeat (first | (with_reducible first | exact HB.out | apply QF | apply QD | apply QE) | exact HB.out))) : w.heap.size ≤ gb490)); have n3_ := QP ((by rw [hg]; exact (QL (by repeat (first | (with_reducible first | exact HB.out | apply QF | apply QD | apply QE) | exact HB.out))) : w.heap.size ≤ gb490)); clear HB; revert n0_ n1_ n2_ n3_; intro HB BK490 GW490 GE490; clear hb hbox hg; have hcz20_0 : w19.cell? ⟨gb490,0,none⟩ = some (.int .i64 a0_0) := (QC BK490.out 0).trans rfl; have hcz20_1 : w19.cell? ⟨gb490,1,none⟩ = some (.int .i64 a0_1) := (QC BK490.out 1).trans rfl; have hcz20_2 : w19.cell? ⟨gb490,2,none⟩ = some (.bool a0_2) := (QC BK490.out 2).trans rfl; have hcz20_3 : w19.cell? ⟨gb490,3,none⟩ = some (.bool a0_3) := (QC BK490.out 3).trans rfl; have hcz20_4 : w19.cell? ⟨gb490,4,none⟩ = some (.slice A0_4 l0_4.length c0_4) := (QC BK490.out 4).trans rfl; have hcz20_5 : w19.cell? ⟨gb490,5,none⟩ = some (.slice A0_5 l0_5.length c0_5) := (QC BK490.out 5).trans rfl; have hcz20_6 : w19.cell? ⟨gb490,6,none⟩ = some (.int .i64 a0_6) := (QC BK490.out 6).trans rfl; have hcz20_7 : w19.cell? ⟨gb490,7,none⟩ = some (.int .i64 a0_7) := (QC BK490.out 7).trans rfl; have hcz20_8 : w19.cell? ⟨gb490,8,none⟩ = some (.slice A0_8 l0_8.length c0_8) := (QC BK490.out 8).trans rfl; have hcz20_9 : w19.cell? ⟨gb490,9,none⟩ = some (.slice A0_9 l0_9.length c0_9) := (QC BK490.out 9).trans rfl; have hcz20_10 : w19.cell? ⟨gb490,10,none⟩ = some (.slice A0_10 l0_10.length c0_10) := (QC BK490.out 10).trans rfl; have hcz20_11 : w19.cell? ⟨gb490,11,none⟩ = some (.int .i64 a0_11) := (QC BK490.out 11).trans rfl; have hcz20_12 : w19.cell? ⟨gb490,12,none⟩ = some (.int .i64 a0_12) := (QC BK490.out 12).trans rfl; have hcz20_13 : w19.cell? ⟨gb490,13,none⟩ = some (.int .i64 a0_13) := (QC BK490.out 13).trans rfl; have hfz20_0 := QB BK490.out 0; have hfz20_1 := QB BK490.out 1; have hfz20_2 := QB BK490.out 2; have hfz20_3 := QB BK490.out 3; have hfz20_4 := QB BK490.out 4; have hfz20_5 := QB BK490.out 5; have hfz20_6 := QB BK490.out 6; have hfz20_7 := QB BK490.out 7; have hfz20_8 := QB BK490.out 8; have hfz20_9 := QB BK490.out 9; have hfz20_10 := QB BK490.out 10; have hfz20_11 := QB BK490.out 11; have hfz20_12 := QB BK490.out 12; have hfz20_13 := QB BK490.out 13) | ((with_reducible refine gate_callee (f := 19) rfl ?_); refine goesL_ (some 11) rfl rfl Try.func19 (by kernel_rfl) rfl #[.agg #[.int .i64 a0_0,.int .i64 a0_1,.bool a0_2,.bool a0_3,.slice A0_4 l0_4.length c0_4,.slice A0_5 l0_5.length c0_5,.int .i64 a0_6,.int .i64 a0_7,.slice A0_8 l0_8.length c0_8,.slice A0_9 l0_9.length c0_9,.slice A0_10 l0_10.length c0_10,.int .i64 a0_11,.int .i64 a0_12,.int .i64 a0_13]] rfl (by (try simp only [List.map_toArray,List.map_cons,List.map_nil]); first | done | rfl | (simp only [List.length_drop,List.length_take]; rfl)) ?_; (with_reducible refine (impl_Playable.calls k a0_0 a0_1 a0_2 a0_3 _ _ l0_4 _ _ l0_5 a0_6 a0_7 _ _ l0_8 _ _ l0_9 _ _ l0_10 a0_11 a0_12 a0_13 t491 _ ?side1 ?side2 ?side3 ?side4 ?side5 ?side6 ?side7 ?side8 ?side9 ?side10 A3.out).mono ?_); (case side1 => repeat (first | exact (QJ HR0_4.out HB.out) | (with_reducible refine QG ?_ _) | (with_reducible refine QH ?_ _) | (with_reducible refine QI ?_))); (case side2 => exact HC0_4.out); (case side3 => repeat (first | exact (QJ HR0_5.out HB.out) | (with_reducible refine QG ?_ _) | (with_reducible refine QH ?_ _) | (with_reducible refine QI ?_))); (case side4 => exact HC0_5.out); (case side5 => repeat (first | exact (QJ HR0_8.out HB.out) | (with_reducible refine QG ?_ _) | (with_reducible refine QH ?_ _) | (with_reducible refine QI ?_))); (case side6 => exact HC0_8.out); (case side7 => repeat (first | exact (QJ HR0_9.out HB.out) | (with_reducible refine QG ?_ _) | (with_reducible refine QH ?_ _) | (with_reducible refine QI ?_))); (case side8 => exact HC0_9.out); (case side9 => repeat (first | exact (QJ HR0_10.out HB.out) | (with_reducible refine QG ?_ _) | (with_reducible refine QH ?_ _) | (with_reducible refine QI ?_))); (case side10 => exact HC0_10.out); rintro e w21 ⟨v492,rfl,ho0,hb⟩; refine ⟨_,rfl,?_⟩; have n0_ := QP (Kd.R_lower ho0 (QL (by repeat (first | (with_reducible first | exact HB.out | apply QF | apply QD | apply QE | refine QK ?_ GE490.out) | exact HB.out)))); have n1_ := QP (blk_below (g := gb490) (o := .cells #[.int .i64 a0_0,.int .i64 a0_1,.bool a0_2,.bool a0_3,.slice A0_4 l0_4.length c0_4,.slice A0_5 l0_5.length c0_5,.int .i64 a0_6,.int .i64 a0_7,.slice A0_8 l0_8.length c0_8,.slice A0_9 l0_9.length c0_9,.slice A0_10 l0_10.length c0_10,.int .i64 a0_11,.int .i64 a0_12,.int .i64 a0_13] 32 (0,0)) (by (with_reducible repeat (first | refine blk_drewN ?_ _ | refine blk_drew ?_ | refine blk_alloc ?_ _)); exact BK490.out) hb); have n2_ := QP (below_step (by repeat (first | (with_reducible first | exact HB.out | apply QF | apply QD | apply QE | refine QK ?_ GE490.out) | exact HB.out)) hb); clear BK490; clear HB; revert n0_ n1_ n2_; intro HO493 BK490 HB; (try clear hb); (try clear hb2); (try clear hk); (try clear hi); (try clear ho0); obtain ⟨Ao22,co22,eo22⟩ := Kd.R_slice HO493.out; subst eo22; have p495 : 0 ≤ ((ji16) : Int) := of_decide_eq_true (by first | (with_reducible assumption) | assumption); have q495 : (ji16) < (t491.length : Int) := of_decide_eq_true (by first | (with_reducible assumption) | assumption); obtain ⟨ad495,e495,hx495_0⟩ := Kd.at_int (Kd.R_reads' HO493.out).2.2 (ji16) p495 q495; cases e495; replace p495 := eq_true p495; replace q495 := eq_true q495))
      go_ret
      exact ⟨by first | rfl | (simp [errW_none,errW_some] <;> rfl) | (simp only [← hji16]; first | rfl | (simp [errW_none,errW_some] <;> rfl)) | (simp [*,errW_none,errW_some] <;> rfl),by repeat (first | (with_reducible first | exact HB.out | apply QF | apply QD | apply QE | refine QK ?_ GE490.out) | exact HB.out)⟩
     ·rw [if_neg c18] at H
      exact absurd H (by simp)
    ·rw [if_neg c17] at H
     exact absurd H (by simp)
   ·rw [if_neg c15] at H
    have c15b0 : (a1 == 1) = false := beq_eq_false_iff_ne.mpr c15
    have c15b1 : (a1 != 1) = true := bne_iff_ne.mpr c15
    by_cases c23 : a1 = 2
    ·rw [if_pos c23] at H
     have c23b0 : (a1 == 2) = true := beq_iff_eq.mpr c23
     have c23b1 : (a1 != 2) = false := bne_eq_false_iff_eq.mpr c23
     clear c23
     by_cases c24 : 0 ≤ a0_11
     ·rw [if_pos c24] at H
      have c24b0 : decide (0 ≤ a0_11) = true := decide_eq_true c24
      clear c24
      by_cases c25 : a0_11 < (l0_8.length : Int)
      ·rw [if_pos c25] at H
       have c25b0 : decide (a0_11 < (l0_8.length : Int)) = true := decide_eq_true c25
       clear c25
       replace H := Option.bind_eq_some_iff.mp H
       obtain ⟨t497,A260,H⟩ := H
       have A26 := QP A260
       clear A260
       by_cases c27 : 0 < (t491.length : Int)
       ·rw [if_pos c27] at H
        have c27b0 : decide (0 < (t491.length : Int)) = true := decide_eq_true c27
        have c27b1 : decide (0 < t491.length) = true := decide_eq_true (by omega)
        clear c27
        have H' := QP H
        clear H
        go_enter Try.func7,Try.ntmps7
        try go_wp2_with (first | ((with_reducible refine gate_dst (N := 2) rfl ?_); refine box_event ?hg (N := 2) ?hd (cs := #[.int .i64 a0_0,.int .i64 a0_1,.bool a0_2,.bool a0_3,.slice A0_4 l0_4.length c0_4,.slice A0_5 l0_5.length c0_5,.int .i64 a0_6,.int .i64 a0_7,.slice A0_8 l0_8.length c0_8,.slice A0_9 l0_9.length c0_9,.slice A0_10 l0_10.length c0_10,.int .i64 a0_11,.int .i64 a0_12,.int .i64 a0_13]) (t := 32) ?hr ?_; (case hd => rfl); (case hg => rfl); (case hr => first | (go_simp; done) | (go_simp; rfl)); intro gb490 hg w28 hbox hb; have n0_ := QP (below_step (by repeat (first | (with_reducible first | exact HB.out | apply QF | apply QD | apply QE) | exact HB.out)) hb); have n1_ := QP (hbox); have n2_ := QP ((by rw [hg]; exact (QL (by repeat (first | (with_reducible first | exact HB.out | apply QF | apply QD | apply QE) | exact HB.out))) : w.heap.size ≤ gb490)); have n3_ := QP ((by rw [hg]; exact (QL (by repeat (first | (with_reducible first | exact HB.out | apply QF | apply QD | apply QE) | exact HB.out))) : w.heap.size ≤ gb490)); clear HB; revert n0_ n1_ n2_ n3_; intro HB BK490 GW490 GE490; clear hb hbox hg; have hcz29_0 : w28.cell? ⟨gb490,0,none⟩ = some (.int .i64 a0_0) := (QC BK490.out 0).trans rfl; have hcz29_1 : w28.cell? ⟨gb490,1,none⟩ = some (.int .i64 a0_1) := (QC BK490.out 1).trans rfl; have hcz29_2 : w28.cell? ⟨gb490,2,none⟩ = some (.bool a0_2) := (QC BK490.out 2).trans rfl; have hcz29_3 : w28.cell? ⟨gb490,3,none⟩ = some (.bool a0_3) := (QC BK490.out 3).trans rfl; have hcz29_4 : w28.cell? ⟨gb490,4,none⟩ = some (.slice A0_4 l0_4.length c0_4) := (QC BK490.out 4).trans rfl; have hcz29_5 : w28.cell? ⟨gb490,5,none⟩ = some (.slice A0_5 l0_5.length c0_5) := (QC BK490.out 5).trans rfl; have hcz29_6 : w28.cell? ⟨gb490,6,none⟩ = some (.int .i64 a0_6) := (QC BK490.out 6).trans rfl; have hcz29_7 : w28.cell? ⟨gb490,7,none⟩ = some (.int .i64 a0_7) := (QC BK490.out 7).trans rfl; have hcz29_8 : w28.cell? ⟨gb490,8,none⟩ = some (.slice A0_8 l0_8.length c0_8) := (QC BK490.out 8).trans rfl; have hcz29_9 : w28.cell? ⟨gb490,9,none⟩ = some (.slice A0_9 l0_9.length c0_9) := (QC BK490.out 9).trans rfl; have hcz29_10 : w28.cell? ⟨gb490,10,none⟩ = some (.slice A0_10 l0_10.length c0_10) := (QC BK490.out 10).trans rfl; have hcz29_11 : w28.cell? ⟨gb490,11,none⟩ = some (.int .i64 a0_11) := (QC BK490.out 11).trans rfl; have hcz29_12 : w28.cell? ⟨gb490,12,none⟩ = some (.int .i64 a0_12) := (QC BK490.out 12).trans rfl; have hcz29_13 : w28.cell? ⟨gb490,13,none⟩ = some (.int .i64 a0_13) := (QC BK490.out 13).trans rfl; have hfz29_0 := QB BK490.out 0; have hfz29_1 := QB BK490.out 1; have hfz29_2 := QB BK490.out 2; have hfz29_3 := QB BK490.out 3; have hfz29_4 := QB BK490.out 4; have hfz29_5 := QB BK490.out 5; have hfz29_6 := QB BK490.out 6; have hfz29_7 := QB BK490.out 7; have hfz29_8 := QB BK490.out 8; have hfz29_9 := QB BK490.out 9; have hfz29_10 := QB BK490.out 10; have hfz29_11 := QB BK490.out 11; have hfz29_12 := QB BK490.out 12; have hfz29_13 := QB BK490.out 13) | ((with_reducible refine gate_callee (f := 19) rfl ?_); refine goesL_ (some 11) rfl rfl Try.func19 (by kernel_rfl) rfl #[.agg #[.int .i64 a0_0,.int .i64 a0_1,.bool a0_2,.bool a0_3,.slice A0_4 l0_4.length c0_4,.slice A0_5 l0_5.length c0_5,.int .i64 a0_6,.int .i64 a0_7,.slice A0_8 l0_8.length c0_8,.slice A0_9 l0_9.length c0_9,.slice A0_10 l0_10.length c0_10,.int .i64 a0_11,.int .i64 a0_12,.int .i64 a0_13]] rfl (by (try simp only [List.map_toArray,List.map_cons,List.map_nil]); first | done | rfl | (simp only [List.length_drop,List.length_take]; rfl)) ?_; (with_reducible refine (impl_Playable.calls k a0_0 a0_1 a0_2 a0_3 _ _ l0_4 _ _ l0_5 a0_6 a0_7 _ _ l0_8 _ _ l0_9 _ _ l0_10 a0_11 a0_12 a0_13 t491 _ ?side1 ?side2 ?side3 ?side4 ?side5 ?side6 ?side7 ?side8 ?side9 ?side10 A3.out).mono ?_); (case side1 => repeat (first | exact (QJ HR0_4.out HB.out) | (with_reducible refine QG ?_ _) | (with_reducible refine QH ?_ _) | (with_reducible refine QI ?_))); (case side2 => exact HC0_4.out); (case side3 => repeat (first | exact (QJ HR0_5.out HB.out) | (with_reducible refine QG ?_ _) | (with_reducible refine QH ?_ _) | (with_reducible refine QI ?_))); (case side4 => exact HC0_5.out); (case side5 => repeat (first | exact (QJ HR0_8.out HB.out) | (with_reducible refine QG ?_ _) | (with_reducible refine QH ?_ _) | (with_reducible refine QI ?_))); (case side6 => exact HC0_8.out); (case side7 => repeat (first | exact (QJ HR0_9.out HB.out) | (with_reducible refine QG ?_ _) | (with_reducible refine QH ?_ _) | (with_reducible refine QI ?_))); (case side8 => exact HC0_9.out); (case side9 => repeat (first | exact (QJ HR0_10.out HB.out) | (with_reducible refine QG ?_ _) | (with_reducible refine QH ?_ _) | (with_reducible refine QI ?_))); (case side10 => exact HC0_10.out); rintro e w30 ⟨v492,rfl,ho0,hb⟩; refine ⟨_,rfl,?_⟩; have n0_ := QP (Kd.R_lower ho0 (QL (by repeat (first | (with_reducible first | exact HB.out | apply QF | apply QD | apply QE | refine QK ?_ GE490.out) | exact HB.out)))); have n1_ := QP (blk_below (g := gb490) (o := .cells #[.int .i64 a0_0,.int .i64 a0_1,.bool a0_2,.bool a0_3,.slice A0_4 l0_4.length c0_4,.slice A0_5 l0_5.length c0_5,.int .i64 a0_6,.int .i64 a0_7,.slice A0_8 l0_8.length c0_8,.slice A0_9 l0_9.length c0_9,.slice A0_10 l0_10.length c0_10,.int .i64 a0_11,.int .i64 a0_12,.int .i64 a0_13] 32 (0,0)) (by (with_reducible repeat (first | refine blk_drewN ?_ _ | refine blk_drew ?_ | refine blk_alloc ?_ _)); exact BK490.out) hb); have n2_ := QP (below_step (by repeat (first | (with_reducible first | exact HB.out | apply QF | apply QD | apply QE | refine QK ?_ GE490.out) | exact HB.out)) hb); clear BK490; clear HB; revert n0_ n1_ n2_; intro HO493 BK490 HB; (try clear hb); (try clear hb2); (try clear hk); (try clear hi); (try clear ho0); obtain ⟨Ao31,co31,eo31⟩ := Kd.R_slice HO493.out; subst eo31))
        have n0_ := QP (Kd.R_drew HO493.out)
        have n1_ := QP (blk_drew BK490.out)
        have n2_ := QP (QE HB.out)
        clear HO493
        clear BK490
        clear HB
        revert n0_ n1_ n2_
        intro HO493 BK490 HB
        have p496 : 0 ≤ (a0_11 : Int) := of_decide_eq_true (by first | (with_reducible assumption) | assumption)
        have q496 : a0_11 < (l0_8.length : Int) := of_decide_eq_true (by first | (with_reducible assumption) | assumption)
        obtain ⟨ad496,A496_0,c496_0,e496,hx496_0,hl496_0,hi496_0⟩ := at_L1 HR0_8.out a0_11 p496 q496
        have hw496_0 := hx496_0
        cases e496
        replace hx496_0 := (HB.out.cell (World.block_lt_of_cell? w _ hx496_0)).trans hx496_0
        have HR496_0 := QP hi496_0
        have HC496_0 := QP hl496_0
        clear hi496_0 hl496_0
        replace p496 := eq_true p496
        replace q496 := eq_true q496
        have p500 : 0 ≤ (0 : Int) := (by omega)
        have q500 : 0 < (t491.length : Int) := of_decide_eq_true (by first | (with_reducible assumption) | assumption)
        obtain ⟨ad500,e500,hx500_0⟩ := Kd.at_int (Kd.R_reads' HO493.out).2.2 0 p500 q500
        cases e500
        have qi500 : (0 < t491.length) = True := eq_true (by omega)
        (try rw [show ((0 : Int)).toNat = 0 from rfl] at hx500_0)
        (try rw [Addr.add_zero'] at hx500_0)
        replace p500 := eq_true p500
        replace q500 := eq_true q500
        refine start_ (n := 12) (S := fun w' => w'.cell? ⟨gb490,0,none⟩ = some (.int .i64 a0_0) ∧ w'.cell? ⟨gb490,1,none⟩ = some (.int .i64 a0_1) ∧ w'.cell? ⟨gb490,2,none⟩ = some (.bool a0_2) ∧ w'.cell? ⟨gb490,3,none⟩ = some (.bool a0_3) ∧ w'.cell? ⟨gb490,4,none⟩ = some (.slice A0_4 l0_4.length c0_4) ∧ w'.cell? ⟨gb490,5,none⟩ = some (.slice A0_5 l0_5.length c0_5) ∧ w'.cell? ⟨gb490,6,none⟩ = some (.int .i64 a0_6) ∧ w'.cell? ⟨gb490,7,none⟩ = some (.int .i64 a0_7) ∧ w'.cell? ⟨gb490,8,none⟩ = some (.slice (some ad496) l0_8.length c0_8) ∧ w'.cell? ⟨gb490,9,none⟩ = some (.slice A0_9 l0_9.length c0_9) ∧ w'.cell? ⟨gb490,10,none⟩ = some (.slice A0_10 l0_10.length c0_10) ∧ w'.cell? ⟨gb490,11,none⟩ = some (.int .i64 a0_11) ∧ w'.cell? ⟨gb490,12,none⟩ = some (.int .i64 a0_12) ∧ w'.cell? ⟨gb490,13,none⟩ = some (.int .i64 a0_13) ∧ w'.cell? (ad496.add (a0_11).toNat) = some (.slice A496_0 (rd_L1 l0_8 a0_11).length c496_0) ∧ w'.cell? ad500 = some (.int .i64 (rd t491 0))) (ds := []) #[false,false,false,false,false,false,false,false,false,false,false,false] (by kernel_rfl) rfl rfl ⟨(QC BK490.out 0).trans rfl,(QC BK490.out 1).trans rfl,(QC BK490.out 2).trans rfl,(QC BK490.out 3).trans rfl,(QC BK490.out 4).trans rfl,(QC BK490.out 5).trans rfl,(QC BK490.out 6).trans rfl,(QC BK490.out 7).trans rfl,(QC BK490.out 8).trans rfl,(QC BK490.out 9).trans rfl,(QC BK490.out 10).trans rfl,(QC BK490.out 11).trans rfl,(QC BK490.out 12).trans rfl,(QC BK490.out 13).trans rfl,((HB.out.cell (World.block_lt_of_cell? w _ hw496_0)).trans hw496_0),hx500_0⟩ (fun hHeld => ?_); refine with_tabW impl_ChoiceOf.tab10 impl_ChoiceOf.bits10 (fun HT_ HW_ => ?_)
        generalize w30.drew = w32 at HO493 BK490 HB HR496_0 hx496_0 hx500_0 hHeld ⊢
        refine pure_ (i := 0) (N := some 31) (v := ?_) (a' := ?_) #[true,false,false,false,false,false,false,false,false,false,false,false] rfl rfl (any_of HT_.out (by kernel_rfl)) (fun _ _ _ h => h) (Or.inl ⟨by rfl,?_⟩) ?_ ?_
        rotate_left
        ·intro w'
         go_simp
         with_reducible rfl
        rotate_left
        ·simp only [Act.put,QM,QN,QO,i64_w,i32_w]
         rfl
        refine pure_ (i := 2) (N := some 33) (v := ?_) (a' := ?_) #[true,false,true,false,false,false,false,false,false,false,false,false] rfl rfl (any_of HT_.out (by kernel_rfl)) (fun _ _ _ h => h) (Or.inl ⟨by rfl,?_⟩) ?_ ?_
        rotate_left
        ·intro w'
         go_simp
         with_reducible rfl
        rotate_left
        ·simp only [Act.put,QM,QN,QO,i64_w,i32_w]
         rfl
        refine pure_ (i := 7) (N := some 38) (v := ?_) (a' := ?_) #[true,false,true,false,false,false,false,true,false,false,false,false] rfl rfl (any_of HT_.out (by kernel_rfl)) (fun _ _ _ h => h) (Or.inl ⟨by rfl,?_⟩) ?_ ?_
        rotate_left
        ·intro w'
         go_simp
         with_reducible rfl
        rotate_left
        ·simp only [Act.put,QM,QN,QO,i64_w,i32_w]
         rfl
        refine pure_ (i := 8) (N := some 39) (v := ?_) (a' := ?_) #[true,false,true,false,false,false,false,true,true,false,false,false] rfl rfl (any_of HT_.out (by kernel_rfl)) (fun _ _ _ h => h) (Or.inl ⟨by rfl,?_⟩) ?_ ?_
        rotate_left
        ·intro w'
         go_simp
         with_reducible rfl
        rotate_left
        ·simp only [Act.put,QM,QN,QO,i64_w,i32_w]
         rfl
        refine take_ (i := 1) (N := some 32) (v := ?_) (a' := ?_) #[true,true,true,false,false,false,false,true,true,false,false,false] rfl rfl (take_ofW HT_.out HW_.out (by kernel_rfl)) (fun _ _ _ h => h) (Or.inl ⟨by rfl,?_⟩) hHeld ?_ ?_
        rotate_left
        ·rintro w' ⟨s0,s1,s2,s3,s4,s5,s6,s7,s8,s9,s10,s11,s12,s13,s14,s15⟩
         go_simp
         with_reducible rfl
        rotate_left
        ·simp only [Act.put,QM,QN,QO,i64_w,i32_w]
         rfl
        refine take_ (i := 3) (N := some 34) (v := ?_) (a' := ?_) #[true,true,true,true,false,false,false,true,true,false,false,false] rfl rfl (take_ofW HT_.out HW_.out (by kernel_rfl)) (fun _ _ _ h => h) (Or.inl ⟨by rfl,?_⟩) hHeld ?_ ?_
        rotate_left
        ·rintro w' ⟨s0,s1,s2,s3,s4,s5,s6,s7,s8,s9,s10,s11,s12,s13,s14,s15⟩
         go_simp
         with_reducible rfl
        rotate_left
        ·simp only [Act.put,QM,QN,QO,i64_w,i32_w]
         rfl
        refine pure_ (i := 4) (N := some 35) (v := ?_) (a' := ?_) #[true,true,true,true,true,false,false,true,true,false,false,false] rfl rfl (any_of HT_.out (by kernel_rfl)) (fun _ _ _ h => h) (Or.inl ⟨by rfl,?_⟩) ?_ ?_
        rotate_left
        ·intro w'
         go_simp
         with_reducible rfl
        rotate_left
        ·simp only [Act.put,QM,QN,QO,i64_w,i32_w]
         rfl
        refine take_ (i := 5) (N := some 36) (v := ?_) (a' := ?_) #[true,true,true,true,true,true,false,true,true,false,false,false] rfl rfl (take_ofW HT_.out HW_.out (by kernel_rfl)) (fun _ _ _ h => h) (Or.inl ⟨by rfl,?_⟩) hHeld ?_ ?_
        rotate_left
        ·rintro w' ⟨s0,s1,s2,s3,s4,s5,s6,s7,s8,s9,s10,s11,s12,s13,s14,s15⟩
         go_simp
         with_reducible rfl
        rotate_left
        ·simp only [Act.put,QM,QN,QO,i64_w,i32_w]
         rfl
        refine take_ (i := 9) (N := some 40) (v := ?_) (a' := ?_) #[true,true,true,true,true,true,false,true,true,true,false,false] rfl rfl (take_ofW HT_.out HW_.out (by kernel_rfl)) (fun _ _ _ h => h) (Or.inl ⟨by rfl,?_⟩) hHeld ?_ ?_
        rotate_left
        ·rintro w' ⟨s0,s1,s2,s3,s4,s5,s6,s7,s8,s9,s10,s11,s12,s13,s14,s15⟩
         go_simp
         with_reducible rfl
        rotate_left
        ·simp only [Act.put,QM,QN,QO,i64_w,i32_w]
         rfl
        refine one_ (i := 6) (N := some 37) #[true,true,true,true,true,true,true,true,true,true,false,false] rfl rfl (one_of HT_.out (by kernel_rfl)) (by decide) (fun K hK => ?_)
        refine goes_ Try.func20 (by kernel_rfl) rfl #[.slice A496_0 (rd_L1 l0_8 a0_11).length c496_0] (by rfl) rfl rfl (by (try simp only [List.map_toArray,List.map_cons,List.map_nil]); first | done | rfl | (simp only [List.length_drop,List.length_take]; rfl)) ?_
        with_reducible refine (impl_SuitCounts.calls k _ _ (rd_L1 l0_8 a0_11) t497 _ ?side1 ?side2 A26.out).mono ?_
        (case side1 => repeat (first | exact (QJ HR496_0.out HB.out) | (with_reducible refine QG ?_ _) | (with_reducible refine QH ?_ _) | (with_reducible refine QI ?_)))
        (case side2 => exact HC496_0.out)
        rintro e w33 ⟨v498,rfl,ho0,hb⟩
        have HS15_ := (hb.cell (World.block_lt_of_cell? _ _ (hHeld.2.2.2.2.2.2.2.2.2.2.2.2.2.2.2))).trans (hHeld.2.2.2.2.2.2.2.2.2.2.2.2.2.2.2)
        refine ⟨_,rfl,?_⟩
        have n0_ := QP (Kd.R_elder' (by (with_reducible repeat (first | apply Kd.R_alloc | apply Kd.R_drewN | apply Kd.R_drew)); exact HO493.out) (Kd.R_base ho0) hb)
        have n1_ := QP (Kd.R_lower (Kd.R_new' ho0 (Kd.R_lt (by (with_reducible repeat (first | apply Kd.R_alloc | apply Kd.R_drewN | apply Kd.R_drew)); exact HO493.out))) (QL (by repeat (first | (with_reducible first | exact HB.out | apply QF | apply QD | apply QE | refine QK ?_ GE490.out) | exact HB.out))))
        have n2_ := QP (blk_below (g := gb490) (o := .cells #[.int .i64 a0_0,.int .i64 a0_1,.bool a0_2,.bool a0_3,.slice A0_4 l0_4.length c0_4,.slice A0_5 l0_5.length c0_5,.int .i64 a0_6,.int .i64 a0_7,.slice (some ad496) l0_8.length c0_8,.slice A0_9 l0_9.length c0_9,.slice A0_10 l0_10.length c0_10,.int .i64 a0_11,.int .i64 a0_12,.int .i64 a0_13] 32 (0,0)) (by (with_reducible repeat (first | refine blk_drewN ?_ _ | refine blk_drew ?_ | refine blk_alloc ?_ _)); exact BK490.out) hb)
        have n3_ := QP (below_step (by repeat (first | (with_reducible first | exact HB.out | apply QF | apply QD | apply QE | refine QK ?_ GE490.out) | exact HB.out)) hb)
        clear HO493
        clear BK490
        clear HB
        revert n0_ n1_ n2_ n3_
        intro HO493 HO499 BK490 HB
        (try clear hb)
        (try clear hb2)
        (try clear hk)
        (try clear hi)
        (try clear ho0)
        refine hK.out _ _ ⟨(QC BK490.out 0).trans rfl,(QC BK490.out 1).trans rfl,(QC BK490.out 2).trans rfl,(QC BK490.out 3).trans rfl,(QC BK490.out 4).trans rfl,(QC BK490.out 5).trans rfl,(QC BK490.out 6).trans rfl,(QC BK490.out 7).trans rfl,(QC BK490.out 8).trans rfl,(QC BK490.out 9).trans rfl,(QC BK490.out 10).trans rfl,(QC BK490.out 11).trans rfl,(QC BK490.out 12).trans rfl,(QC BK490.out 13).trans rfl,((HB.out.cell (World.block_lt_of_cell? w _ hw496_0)).trans hw496_0),HS15_⟩ (fun hHeld => ?_)
        clear hK K
        refine norm_ (a' := ?_) ?_ ?_
        rotate_left
        ·show Act.put _ (some 37) _ = _
         simp only [Act.put,QM,QN,QO,i64_w,i32_w]
         rfl
        refine pure_ (i := 10) (N := some 6) (v := ?_) (a' := ?_) #[true,true,true,true,true,true,true,true,true,true,true,false] rfl rfl (any_of HT_.out (by kernel_rfl)) (fun _ _ _ h => h) (Or.inl ⟨by rfl,?_⟩) ?_ ?_
        rotate_left
        ·intro w'
         go_simp
         with_reducible rfl
        rotate_left
        ·simp only [Act.put,QM,QN,QO,i64_w,i32_w]
         rfl
        refine pure_ (i := 11) (N := some 7) (v := ?_) (a' := ?_) #[true,true,true,true,true,true,true,true,true,true,true,true] rfl rfl (any_of HT_.out (by kernel_rfl)) (fun _ _ _ h => h) (Or.inl ⟨by rfl,?_⟩) ?_ ?_
        rotate_left
        ·intro w'
         go_simp
         with_reducible rfl
        rotate_left
        ·simp only [Act.put,QM,QN,QO,i64_w,i32_w]
         rfl
        refine done_ (done_of HT_.out (by kernel_rfl)) ?_
        try go_wp2
        go_loopg [7,43] k (fun kq v7 v43 w' => ∃ (x7_1 : Int) (x43_1 : Int),v7 = .int .i64 x7_1 ∧ v43 = .int .i64 x43_1 ∧ Aside0 (impl_ChoiceOf.l0 kq t497 x7_1 t491 (t491.length : Int) x43_1 = some r) ∧ Aside0 (kq ≤ k) ∧ Aside0 (Kd.R (Kd.int .i64) 3 w' w.heap.size (fun k_ => some k_ ≠ ((.slice (some ad500) t491.length co31) : Value).ownBlock) v498 t497) ∧ Aside0 (Kd.R (Kd.int .i64) 3 w' w.heap.size (fun k_ => some k_ ≠ (v498 : Value).ownBlock) (.slice (some ad500) t491.length co31) t491) ∧ Aside0 (w'.heap[gb490]? = some (.cells #[.int .i64 a0_0,.int .i64 a0_1,.bool a0_2,.bool a0_3,(.slice A0_4 l0_4.length c0_4),(.slice A0_5 l0_5.length c0_5),.int .i64 a0_6,.int .i64 a0_7,(.slice (some ad496) l0_8.length c0_8),(.slice A0_9 l0_9.length c0_9),(.slice A0_10 l0_10.length c0_10),.int .i64 a0_11,.int .i64 a0_12,.int .i64 a0_13] 32 (0,0))) ∧ Aside0 (Below w.heap.size w w'))
        case atStart => exact ⟨(rd t491 0),(0),(by first | rfl | (simp; done) | (simp [*]; done)),(by first | rfl | (simp; done) | (simp [*]; done)),H',⟨Nat.le_refl _⟩,⟨by (with_reducible repeat (first | apply Kd.R_alloc | apply Kd.R_drewN | apply Kd.R_drew)); exact Kd.R_mono HO499.out (by first | exact fun k_ hk => hk.2 | exact fun k_ hk => hk)⟩,⟨by (with_reducible repeat (first | apply Kd.R_alloc | apply Kd.R_drewN | apply Kd.R_drew)); exact Kd.R_mono HO493.out (by first | exact fun k_ hk => hk.2 | exact fun k_ hk => hk)⟩,⟨by (with_reducible repeat (first | refine blk_drewN ?_ _ | refine blk_drew ?_ | refine blk_alloc ?_ _)); exact BK490.out⟩,⟨by repeat (first | (with_reducible first | exact HB.out | apply QF | apply QD | apply QE | refine QK ?_ GE490.out) | exact HB.out)⟩⟩
        case round =>
         clear H'
         try clear c1
         try clear c2
         try clear p2
         try clear c4
         try clear c4b0
         try clear c4b1
         try clear c4b2
         try clear p4
         try clear q4
         try clear hx4
         try clear qi4
         try clear p5
         try clear q5
         try clear hx5
         try clear qi5
         try clear p6
         try clear c7
         try clear c9
         try clear c9b0
         try clear c9b1
         try clear c10
         try clear c10b0
         try clear c10b1
         try clear c15
         try clear c15b0
         try clear c15b1
         try clear c17
         try clear c17b0
         try clear c18
         try clear c18b0
         try clear c19
         try clear c20
         try clear c23
         try clear c23b0
         try clear c23b1
         try clear c24
         try clear c24b0
         try clear c25
         try clear c25b0
         try clear c27
         try clear c27b0
         try clear c27b1
         try clear hcz12_0 hcz12_1 hcz12_10 hcz12_11 hcz12_12 hcz12_13 hcz12_2 hcz12_3 hcz12_4 hcz12_5 hcz12_6 hcz12_7 hcz12_8 hcz12_9
         try clear hcz20_0 hcz20_1 hcz20_10 hcz20_11 hcz20_12 hcz20_13 hcz20_2 hcz20_3 hcz20_4 hcz20_5 hcz20_6 hcz20_7 hcz20_8 hcz20_9
         try clear hcz29_0 hcz29_1 hcz29_10 hcz29_11 hcz29_12 hcz29_13 hcz29_2 hcz29_3 hcz29_4 hcz29_5 hcz29_6 hcz29_7 hcz29_8 hcz29_9
         try clear hcz6_0 hcz6_1 hcz6_10 hcz6_11 hcz6_12 hcz6_13 hcz6_2 hcz6_3 hcz6_4 hcz6_5 hcz6_6 hcz6_7 hcz6_8 hcz6_9
         try clear hfz12_0 hfz12_1 hfz12_10 hfz12_11 hfz12_12 hfz12_13 hfz12_2 hfz12_3 hfz12_4 hfz12_5 hfz12_6 hfz12_7 hfz12_8 hfz12_9
         try clear hfz20_0 hfz20_1 hfz20_10 hfz20_11 hfz20_12 hfz20_13 hfz20_2 hfz20_3 hfz20_4 hfz20_5 hfz20_6 hfz20_7 hfz20_8 hfz20_9
         try clear hfz29_0 hfz29_1 hfz29_10 hfz29_11 hfz29_12 hfz29_13 hfz29_2 hfz29_3 hfz29_4 hfz29_5 hfz29_6 hfz29_7 hfz29_8 hfz29_9
         try clear hfz6_0 hfz6_1 hfz6_10 hfz6_11 hfz6_12 hfz6_13 hfz6_2 hfz6_3 hfz6_4 hfz6_5 hfz6_6 hfz6_7 hfz6_8 hfz6_9
         try clear hx494_0
         try clear hx495_0
         try clear hx496_0
         try clear hx500_0
         try clear p494
         try clear p495
         try clear p496
         try clear p500
         try clear q494
         try clear q495
         try clear q496
         try clear q500
         obtain ⟨x7_1,x43_1,rfl,rfl,HA,HK1,HO_6,HO_41,BK490,HB⟩ := hrel
         cases gk with
         | zero => exact absurd HA.out (by simp [impl_ChoiceOf.l0])
         | succ k1 =>
          have H := HA.out
          clear HA
          simp only [impl_ChoiceOf.l0] at H
          by_cases c34 : x43_1 < (t491.length : Int)
          ·rw [if_pos c34] at H
           have c34b0 : decide (x43_1 < (t491.length : Int)) = true := decide_eq_true c34
           clear c34
           by_cases c35 : 0 ≤ x43_1
           ·rw [if_pos c35] at H
            have c35b0 : decide (0 ≤ x43_1) = true := decide_eq_true c35
            clear c35
            by_cases c36 : x43_1 < (t491.length : Int)
            ·rw [if_pos c36] at H
             have c36b0 : decide (x43_1 < (t491.length : Int)) = true := decide_eq_true c36
             clear c36
             replace H := Option.bind_eq_some_iff.mp H
             obtain ⟨t502,A370,H⟩ := H
             have A37 := QP A370
             clear A370
             by_cases c38 : 0 ≤ t502
             ·rw [if_pos c38] at H
              have c38b0 : decide (0 ≤ t502) = true := decide_eq_true c38
              clear c38
              by_cases c39 : t502 < (t497.length : Int)
              ·rw [if_pos c39] at H
               have c39b0 : decide (t502 < (t497.length : Int)) = true := decide_eq_true c39
               clear c39
               replace H := Option.bind_eq_some_iff.mp H
               obtain ⟨t504,A400,H⟩ := H
               have A40 := QP A400
               clear A400
               by_cases c41 : 0 ≤ t504
               ·rw [if_pos c41] at H
                have c41b0 : decide (0 ≤ t504) = true := decide_eq_true c41
                clear c41
                by_cases c42 : t504 < (t497.length : Int)
                ·rw [if_pos c42] at H
                 have c42b0 : decide (t504 < (t497.length : Int)) = true := decide_eq_true c42
                 clear c42
                 by_cases c43 : (rd t497 t502) > (rd t497 t504)
                 ·rw [if_pos c43] at H
                  have c43b0 : decide ((rd t497 t504) < (rd t497 t502)) = true := decide_eq_true c43
                  clear c43
                  have H' := QP H
                  clear H
                  have p501 : 0 ≤ (x43_1 : Int) := of_decide_eq_true (by first | (with_reducible assumption) | assumption)
                  have q501 : x43_1 < (t491.length : Int) := of_decide_eq_true (by first | (with_reducible assumption) | assumption)
                  obtain ⟨ad501,e501,hx501_0⟩ := Kd.at_int (Kd.R_reads' HO_41.out).2.2 x43_1 p501 q501
                  obtain rfl : ad500 = ad501 := (by injection e501)
                  replace p501 := eq_true p501
                  replace q501 := eq_true q501
                  try go_wp2
                  have n0_ := QP (Kd.R_drew HO_6.out)
                  have n1_ := QP (Kd.R_drew HO_41.out)
                  have n2_ := QP (blk_drew BK490.out)
                  have n3_ := QP (QE HB.out)
                  clear HO_6
                  clear HO_41
                  clear BK490
                  clear HB
                  revert n0_ n1_ n2_ n3_
                  intro HO_6 HO_41 BK490 HB
                  have p503 : 0 ≤ (t502 : Int) := of_decide_eq_true (by first | (with_reducible assumption) | assumption)
                  have q503 : t502 < (t497.length : Int) := of_decide_eq_true (by first | (with_reducible assumption) | assumption)
                  (try (obtain ⟨Ao503,co503,eo503⟩ := Kd.R_slice HO_6.out; subst eo503))
                  obtain ⟨ad503,e503,hx503_0⟩ := Kd.at_int (Kd.R_reads' HO_6.out).2.2 t502 p503 q503
                  cases e503
                  replace p503 := eq_true p503
                  replace q503 := eq_true q503
                  have p505 : 0 ≤ (t504 : Int) := of_decide_eq_true (by first | (with_reducible assumption) | assumption)
                  have q505 : t504 < (t497.length : Int) := of_decide_eq_true (by first | (with_reducible assumption) | assumption)
                  (try (obtain ⟨Ao505,co505,eo505⟩ := Kd.R_slice HO_6.out; subst eo505))
                  obtain ⟨ad505,e505,hx505_0⟩ := Kd.at_int (Kd.R_reads' HO_6.out).2.2 t504 p505 q505
                  obtain rfl : ad503 = ad505 := (by injection e505)
                  replace p505 := eq_true p505
                  replace q505 := eq_true q505
                  refine start_ (n := 11) (S := fun w' => w'.cell? (ad503.add (t502).toNat) = some (.int .i64 (rd t497 t502)) ∧ w'.cell? (ad503.add (t504).toNat) = some (.int .i64 (rd t497 t504))) (ds := []) #[false,false,false,false,false,false,false,false,false,false,false] (by kernel_rfl) rfl rfl ⟨hx503_0,hx505_0⟩ (fun hHeld => ?_); refine with_tabW impl_ChoiceOf.tab14 impl_ChoiceOf.bits14 (fun HT_ HW_ => ?_)
                  generalize wr.drew = w44 at HO_6 HO_41 BK490 HB hx503_0 hx505_0 hHeld ⊢
                  refine pure_ (i := 0) (N := some 47) (v := ?_) (a' := ?_) #[true,false,false,false,false,false,false,false,false,false,false] rfl rfl (any_of HT_.out (by kernel_rfl)) (fun _ _ _ h => h) (Or.inl ⟨by rfl,?_⟩) ?_ ?_
                  rotate_left
                  ·intro w'
                   go_simp
                   with_reducible rfl
                  rotate_left
                  ·simp only [Act.put,QM,QN,QO,i64_w,i32_w]
                   rfl
                  refine pure_ (i := 1) (N := some 48) (v := ?_) (a' := ?_) #[true,true,false,false,false,false,false,false,false,false,false] rfl rfl (any_of HT_.out (by kernel_rfl)) (fun _ _ _ h => h) (Or.inl ⟨by rfl,?_⟩) ?_ ?_
                  rotate_left
                  ·intro w'
                   go_simp
                   with_reducible rfl
                  rotate_left
                  ·simp only [Act.put,QM,QN,QO,i64_w,i32_w]
                   rfl
                  refine pure_ (i := 5) (N := some 52) (v := ?_) (a' := ?_) #[true,true,false,false,false,true,false,false,false,false,false] rfl rfl (any_of HT_.out (by kernel_rfl)) (fun _ _ _ h => h) (Or.inl ⟨by rfl,?_⟩) ?_ ?_
                  rotate_left
                  ·intro w'
                   go_simp
                   with_reducible rfl
                  rotate_left
                  ·simp only [Act.put,QM,QN,QO,i64_w,i32_w]
                   rfl
                  refine pure_ (i := 6) (N := some 53) (v := ?_) (a' := ?_) #[true,true,false,false,false,true,true,false,false,false,false] rfl rfl (any_of HT_.out (by kernel_rfl)) (fun _ _ _ h => h) (Or.inl ⟨by rfl,?_⟩) ?_ ?_
                  rotate_left
                  ·intro w'
                   go_simp
                   with_reducible rfl
                  rotate_left
                  ·simp only [Act.put,QM,QN,QO,i64_w,i32_w]
                   rfl
                  refine one_ (i := 2) (N := some 49) #[true,true,true,false,false,true,true,false,false,false,false] rfl rfl (one_of HT_.out (by kernel_rfl)) (by decide) (fun K hK => ?_)
                  refine goes_ Try.func21 (by kernel_rfl) rfl #[.int .i64 (rd t491 x43_1)] (by rfl) rfl rfl (by (try simp only [List.map_toArray,List.map_cons,List.map_nil]); first | done | rfl | (simp only [List.length_drop,List.length_take]; rfl)) ?_
                  with_reducible refine (impl_SuitOf.calls (rd t491 x43_1) t502 _ A37.out).mono ?_
                  rintro e w' ⟨rfl,⟨nd,rfl⟩⟩
                  refine ⟨_,rfl,?_⟩
                  obtain ⟨Ao45,co45,eo45⟩ := Kd.R_slice HO_6.out
                  (first | subst eo45 | (injection eo45 with f1_ f2_ f3_; have f4_ := f1_.symm; have f5_ := f3_.symm; clear f1_ f2_ f3_; subst f4_; subst f5_))
                  refine hK.out _ _ ⟨hHeld.1,hHeld.2⟩ (fun hHeld => ?_)
                  clear hK K
                  refine norm_ (a' := ?_) ?_ ?_
                  rotate_left
                  ·show Act.put _ (some 49) _ = _
                   simp only [Act.put,QM,QN,QO,i64_w,i32_w]
                   rfl
                  refine pure_ (i := 3) (N := some 50) (v := ?_) (a' := ?_) #[true,true,true,true,false,true,true,false,false,false,false] rfl rfl (any_of HT_.out (by kernel_rfl)) (fun _ _ _ h => h) (Or.inl ⟨by rfl,?_⟩) ?_ ?_
                  rotate_left
                  ·intro w'
                   go_simp
                   with_reducible rfl
                  rotate_left
                  ·simp only [Act.put,QM,QN,QO,i64_w,i32_w]
                   rfl
                  refine take_ (i := 4) (N := some 51) (v := ?_) (a' := ?_) #[true,true,true,true,true,true,true,false,false,false,false] rfl rfl (take_ofW HT_.out HW_.out (by kernel_rfl)) (fun _ _ _ h => h) (Or.inl ⟨by rfl,?_⟩) hHeld ?_ ?_
                  rotate_left
                  ·rintro w' ⟨s0,s1⟩
                   go_simp
                   with_reducible rfl
                  rotate_left
                  ·simp only [Act.put,QM,QN,QO,i64_w,i32_w]
                   rfl
                  refine one_ (i := 7) (N := some 54) #[true,true,true,true,true,true,true,true,false,false,false] rfl rfl (one_of HT_.out (by kernel_rfl)) (by decide) (fun K hK => ?_)
                  refine goes_ Try.func21 (by kernel_rfl) rfl #[.int .i64 x7_1] (by rfl) rfl rfl (by (try simp only [List.map_toArray,List.map_cons,List.map_nil]); first | done | rfl | (simp only [List.length_drop,List.length_take]; rfl)) ?_
                  with_reducible refine (impl_SuitOf.calls x7_1 t504 _ A40.out).mono ?_
                  rintro e w' ⟨rfl,⟨nd,rfl⟩⟩
                  refine ⟨_,rfl,?_⟩
                  refine hK.out _ _ ⟨hHeld.1,hHeld.2⟩ (fun hHeld => ?_)
                  clear hK K
                  refine norm_ (a' := ?_) ?_ ?_
                  rotate_left
                  ·show Act.put _ (some 54) _ = _
                   simp only [Act.put,QM,QN,QO,i64_w,i32_w]
                   rfl
                  refine pure_ (i := 8) (N := some 55) (v := ?_) (a' := ?_) #[true,true,true,true,true,true,true,true,true,false,false] rfl rfl (any_of HT_.out (by kernel_rfl)) (fun _ _ _ h => h) (Or.inl ⟨by rfl,?_⟩) ?_ ?_
                  rotate_left
                  ·intro w'
                   go_simp
                   with_reducible rfl
                  rotate_left
                  ·simp only [Act.put,QM,QN,QO,i64_w,i32_w]
                   rfl
                  refine take_ (i := 9) (N := some 56) (v := ?_) (a' := ?_) #[true,true,true,true,true,true,true,true,true,true,false] rfl rfl (take_ofW HT_.out HW_.out (by kernel_rfl)) (fun _ _ _ h => h) (Or.inl ⟨by rfl,?_⟩) hHeld ?_ ?_
                  rotate_left
                  ·rintro w' ⟨s0,s1⟩
                   go_simp
                   with_reducible rfl
                  rotate_left
                  ·simp only [Act.put,QM,QN,QO,i64_w,i32_w]
                   rfl
                  refine pure_ (i := 10) (N := some 57) (v := ?_) (a' := ?_) #[true,true,true,true,true,true,true,true,true,true,true] rfl rfl (any_of HT_.out (by kernel_rfl)) (fun _ _ _ h => h) (Or.inl ⟨by rfl,?_⟩) ?_ ?_
                  rotate_left
                  ·intro w'
                   go_simp
                   with_reducible rfl
                  rotate_left
                  ·simp only [Act.put,QM,QN,QO,i64_w,i32_w]
                   rfl
                  refine done_ (done_of HT_.out (by kernel_rfl)) ?_
                  try go_wp2
                  go_roundg k1
                  case measure => have := HK1.out; omega
                  case rel => exact ⟨(rd t491 x43_1),(wrap64 (x43_1 + 1)),(by first | rfl | (simp; done) | (simp [*]; done)),(by first | rfl | (simp; done) | (simp [*]; done)),H',⟨by have := HK1.out; omega⟩,⟨by (with_reducible repeat (first | apply Kd.R_alloc | apply Kd.R_drewN | apply Kd.R_drew)); exact HO_6.out⟩,⟨by (with_reducible repeat (first | apply Kd.R_alloc | apply Kd.R_drewN | apply Kd.R_drew)); exact HO_41.out⟩,⟨by (with_reducible repeat (first | refine blk_drewN ?_ _ | refine blk_drew ?_ | refine blk_alloc ?_ _)); exact BK490.out⟩,⟨by repeat (first | (with_reducible first | exact HB.out | apply QF | apply QD | apply QE | refine QK ?_ GE490.out) | exact HB.out)⟩⟩
                 ·rw [if_neg c43] at H
                  have c43b0 : decide ((rd t497 t504) < (rd t497 t502)) = false := decide_eq_false c43
                  clear c43
                  have H' := QP H
                  clear H
                  have p501 : 0 ≤ (x43_1 : Int) := of_decide_eq_true (by first | (with_reducible assumption) | assumption)
                  have q501 : x43_1 < (t491.length : Int) := of_decide_eq_true (by first | (with_reducible assumption) | assumption)
                  obtain ⟨ad501,e501,hx501_0⟩ := Kd.at_int (Kd.R_reads' HO_41.out).2.2 x43_1 p501 q501
                  obtain rfl : ad500 = ad501 := (by injection e501)
                  replace p501 := eq_true p501
                  replace q501 := eq_true q501
                  try go_wp2
                  have n0_ := QP (Kd.R_drew HO_6.out)
                  have n1_ := QP (Kd.R_drew HO_41.out)
                  have n2_ := QP (blk_drew BK490.out)
                  have n3_ := QP (QE HB.out)
                  clear HO_6
                  clear HO_41
                  clear BK490
                  clear HB
                  revert n0_ n1_ n2_ n3_
                  intro HO_6 HO_41 BK490 HB
                  have p503 : 0 ≤ (t502 : Int) := of_decide_eq_true (by first | (with_reducible assumption) | assumption)
                  have q503 : t502 < (t497.length : Int) := of_decide_eq_true (by first | (with_reducible assumption) | assumption)
                  (try (obtain ⟨Ao503,co503,eo503⟩ := Kd.R_slice HO_6.out; subst eo503))
                  obtain ⟨ad503,e503,hx503_0⟩ := Kd.at_int (Kd.R_reads' HO_6.out).2.2 t502 p503 q503
                  cases e503
                  replace p503 := eq_true p503
                  replace q503 := eq_true q503
                  have p505 : 0 ≤ (t504 : Int) := of_decide_eq_true (by first | (with_reducible assumption) | assumption)
                  have q505 : t504 < (t497.length : Int) := of_decide_eq_true (by first | (with_reducible assumption) | assumption)
                  (try (obtain ⟨Ao505,co505,eo505⟩ := Kd.R_slice HO_6.out; subst eo505))
                  obtain ⟨ad505,e505,hx505_0⟩ := Kd.at_int (Kd.R_reads' HO_6.out).2.2 t504 p505 q505
                  obtain rfl : ad503 = ad505 := (by injection e505)
                  replace p505 := eq_true p505
                  replace q505 := eq_true q505
                  refine start_ (n := 11) (S := fun w' => w'.cell? (ad503.add (t502).toNat) = some (.int .i64 (rd t497 t502)) ∧ w'.cell? (ad503.add (t504).toNat) = some (.int .i64 (rd t497 t504))) (ds := []) #[false,false,false,false,false,false,false,false,false,false,false] (by kernel_rfl) rfl rfl ⟨hx503_0,hx505_0⟩ (fun hHeld => ?_); refine with_tabW impl_ChoiceOf.tab14 impl_ChoiceOf.bits14 (fun HT_ HW_ => ?_)
                  generalize wr.drew = w46 at HO_6 HO_41 BK490 HB hx503_0 hx505_0 hHeld ⊢
                  refine pure_ (i := 0) (N := some 47) (v := ?_) (a' := ?_) #[true,false,false,false,false,false,false,false,false,false,false] rfl rfl (any_of HT_.out (by kernel_rfl)) (fun _ _ _ h => h) (Or.inl ⟨by rfl,?_⟩) ?_ ?_
                  rotate_left
                  ·intro w'
                   go_simp
                   with_reducible rfl
                  rotate_left
                  ·simp only [Act.put,QM,QN,QO,i64_w,i32_w]
                   rfl
                  refine pure_ (i := 1) (N := some 48) (v := ?_) (a' := ?_) #[true,true,false,false,false,false,false,false,false,false,false] rfl rfl (any_of HT_.out (by kernel_rfl)) (fun _ _ _ h => h) (Or.inl ⟨by rfl,?_⟩) ?_ ?_
                  rotate_left
                  ·intro w'
                   go_simp
                   with_reducible rfl
                  rotate_left
                  ·simp only [Act.put,QM,QN,QO,i64_w,i32_w]
                   rfl
                  refine pure_ (i := 5) (N := some 52) (v := ?_) (a' := ?_) #[true,true,false,false,false,true,false,false,false,false,false] rfl rfl (any_of HT_.out (by kernel_rfl)) (fun _ _ _ h => h) (Or.inl ⟨by rfl,?_⟩) ?_ ?_
                  rotate_left
                  ·intro w'
                   go_simp
                   with_reducible rfl
                  rotate_left
                  ·simp only [Act.put,QM,QN,QO,i64_w,i32_w]
                   rfl
                  refine pure_ (i := 6) (N := some 53) (v := ?_) (a' := ?_) #[true,true,false,false,false,true,true,false,false,false,false] rfl rfl (any_of HT_.out (by kernel_rfl)) (fun _ _ _ h => h) (Or.inl ⟨by rfl,?_⟩) ?_ ?_
                  rotate_left
                  ·intro w'
                   go_simp
                   with_reducible rfl
                  rotate_left
                  ·simp only [Act.put,QM,QN,QO,i64_w,i32_w]
                   rfl
                  refine one_ (i := 2) (N := some 49) #[true,true,true,false,false,true,true,false,false,false,false] rfl rfl (one_of HT_.out (by kernel_rfl)) (by decide) (fun K hK => ?_)
                  refine goes_ Try.func21 (by kernel_rfl) rfl #[.int .i64 (rd t491 x43_1)] (by rfl) rfl rfl (by (try simp only [List.map_toArray,List.map_cons,List.map_nil]); first | done | rfl | (simp only [List.length_drop,List.length_take]; rfl)) ?_
                  with_reducible refine (impl_SuitOf.calls (rd t491 x43_1) t502 _ A37.out).mono ?_
                  rintro e w' ⟨rfl,⟨nd,rfl⟩⟩
                  refine ⟨_,rfl,?_⟩
                  obtain ⟨Ao47,co47,eo47⟩ := Kd.R_slice HO_6.out
                  (first | subst eo47 | (injection eo47 with f1_ f2_ f3_; have f4_ := f1_.symm; have f5_ := f3_.symm; clear f1_ f2_ f3_; subst f4_; subst f5_))
                  refine hK.out _ _ ⟨hHeld.1,hHeld.2⟩ (fun hHeld => ?_)
                  clear hK K
                  refine norm_ (a' := ?_) ?_ ?_
                  rotate_left
                  ·show Act.put _ (some 49) _ = _
                   simp only [Act.put,QM,QN,QO,i64_w,i32_w]
                   rfl
                  refine pure_ (i := 3) (N := some 50) (v := ?_) (a' := ?_) #[true,true,true,true,false,true,true,false,false,false,false] rfl rfl (any_of HT_.out (by kernel_rfl)) (fun _ _ _ h => h) (Or.inl ⟨by rfl,?_⟩) ?_ ?_
                  rotate_left
                  ·intro w'
                   go_simp
                   with_reducible rfl
                  rotate_left
                  ·simp only [Act.put,QM,QN,QO,i64_w,i32_w]
                   rfl
                  refine take_ (i := 4) (N := some 51) (v := ?_) (a' := ?_) #[true,true,true,true,true,true,true,false,false,false,false] rfl rfl (take_ofW HT_.out HW_.out (by kernel_rfl)) (fun _ _ _ h => h) (Or.inl ⟨by rfl,?_⟩) hHeld ?_ ?_
                  rotate_left
                  ·rintro w' ⟨s0,s1⟩
                   go_simp
                   with_reducible rfl
                  rotate_left
                  ·simp only [Act.put,QM,QN,QO,i64_w,i32_w]
                   rfl
                  refine one_ (i := 7) (N := some 54) #[true,true,true,true,true,true,true,true,false,false,false] rfl rfl (one_of HT_.out (by kernel_rfl)) (by decide) (fun K hK => ?_)
                  refine goes_ Try.func21 (by kernel_rfl) rfl #[.int .i64 x7_1] (by rfl) rfl rfl (by (try simp only [List.map_toArray,List.map_cons,List.map_nil]); first | done | rfl | (simp only [List.length_drop,List.length_take]; rfl)) ?_
                  with_reducible refine (impl_SuitOf.calls x7_1 t504 _ A40.out).mono ?_
                  rintro e w' ⟨rfl,⟨nd,rfl⟩⟩
                  refine ⟨_,rfl,?_⟩
                  refine hK.out _ _ ⟨hHeld.1,hHeld.2⟩ (fun hHeld => ?_)
                  clear hK K
                  refine norm_ (a' := ?_) ?_ ?_
                  rotate_left
                  ·show Act.put _ (some 54) _ = _
                   simp only [Act.put,QM,QN,QO,i64_w,i32_w]
                   rfl
                  refine pure_ (i := 8) (N := some 55) (v := ?_) (a' := ?_) #[true,true,true,true,true,true,true,true,true,false,false] rfl rfl (any_of HT_.out (by kernel_rfl)) (fun _ _ _ h => h) (Or.inl ⟨by rfl,?_⟩) ?_ ?_
                  rotate_left
                  ·intro w'
                   go_simp
                   with_reducible rfl
                  rotate_left
                  ·simp only [Act.put,QM,QN,QO,i64_w,i32_w]
                   rfl
                  refine take_ (i := 9) (N := some 56) (v := ?_) (a' := ?_) #[true,true,true,true,true,true,true,true,true,true,false] rfl rfl (take_ofW HT_.out HW_.out (by kernel_rfl)) (fun _ _ _ h => h) (Or.inl ⟨by rfl,?_⟩) hHeld ?_ ?_
                  rotate_left
                  ·rintro w' ⟨s0,s1⟩
                   go_simp
                   with_reducible rfl
                  rotate_left
                  ·simp only [Act.put,QM,QN,QO,i64_w,i32_w]
                   rfl
                  refine pure_ (i := 10) (N := some 57) (v := ?_) (a' := ?_) #[true,true,true,true,true,true,true,true,true,true,true] rfl rfl (any_of HT_.out (by kernel_rfl)) (fun _ _ _ h => h) (Or.inl ⟨by rfl,?_⟩) ?_ ?_
                  rotate_left
                  ·intro w'
                   go_simp
                   with_reducible rfl
                  rotate_left
                  ·simp only [Act.put,QM,QN,QO,i64_w,i32_w]
                   rfl
                  refine done_ (done_of HT_.out (by kernel_rfl)) ?_
                  try go_wp2
                  go_roundg k1
                  case measure => have := HK1.out; omega
                  case rel => exact ⟨(x7_1),(wrap64 (x43_1 + 1)),(by first | rfl | (simp; done) | (simp [*]; done)),(by first | rfl | (simp; done) | (simp [*]; done)),H',⟨by have := HK1.out; omega⟩,⟨by (with_reducible repeat (first | apply Kd.R_alloc | apply Kd.R_drewN | apply Kd.R_drew)); exact HO_6.out⟩,⟨by (with_reducible repeat (first | apply Kd.R_alloc | apply Kd.R_drewN | apply Kd.R_drew)); exact HO_41.out⟩,⟨by (with_reducible repeat (first | refine blk_drewN ?_ _ | refine blk_drew ?_ | refine blk_alloc ?_ _)); exact BK490.out⟩,⟨by repeat (first | (with_reducible first | exact HB.out | apply QF | apply QD | apply QE | refine QK ?_ GE490.out) | exact HB.out)⟩⟩
                ·rw [if_neg c42] at H
                 exact absurd H (by simp)
               ·rw [if_neg c41] at H
                exact absurd H (by simp)
              ·rw [if_neg c39] at H
               exact absurd H (by simp)
             ·rw [if_neg c38] at H
              exact absurd H (by simp)
            ·rw [if_neg c36] at H
             exact absurd H (by simp)
           ·rw [if_neg c35] at H
            exact absurd H (by simp)
          ·rw [if_neg c34] at H
           have c34b0 : decide (x43_1 < (t491.length : Int)) = false := decide_eq_false c34
           clear c34
           obtain rfl := Option.some.inj H
           go_wp2
           go_ret
           exact ⟨by first | rfl | (simp [errW_none,errW_some] <;> rfl) | (simp [*,errW_none,errW_some] <;> rfl),by repeat (first | (with_reducible first | exact HB.out | apply QF | apply QD | apply QE | refine QK ?_ GE490.out) | exact HB.out)⟩
       ·rw [if_neg c27] at H
        exact absurd H (by simp)
      ·rw [if_neg c25] at H
       exact absurd H (by simp)
     ·rw [if_neg c24] at H
      exact absurd H (by simp)
    ·rw [if_neg c23] at H
     have c23b0 : (a1 == 2) = false := beq_eq_false_iff_ne.mpr c23
     have c23b1 : (a1 != 2) = true := bne_iff_ne.mpr c23
     obtain rfl := Option.some.inj H
     go_enter Try.func7,Try.ntmps7
     go_wp2_with (first | ((with_reducible refine gate_dst (N := 2) rfl ?_); refine box_event ?hg (N := 2) ?hd (cs := #[.int .i64 a0_0,.int .i64 a0_1,.bool a0_2,.bool a0_3,.slice A0_4 l0_4.length c0_4,.slice A0_5 l0_5.length c0_5,.int .i64 a0_6,.int .i64 a0_7,.slice A0_8 l0_8.length c0_8,.slice A0_9 l0_9.length c0_9,.slice A0_10 l0_10.length c0_10,.int .i64 a0_11,.int .i64 a0_12,.int .i64 a0_13]) (t := 32) ?hr ?_; (case hd => rfl); (case hg => rfl); (case hr => first | (go_simp; done) | (go_simp; rfl)); intro gb490 hg w48 hbox hb; have n0_ := QP (below_step (by repeat (first | (with_reducible first | exact HB.out | apply QF | apply QD | apply QE) | exact HB.out)) hb); have n1_ := QP (hbox); have n2_ := QP ((by rw [hg]; exact (QL (by repeat (first | (with_reducible first | exact HB.out | apply QF | apply QD | apply QE) | exact HB.out))) : w.heap.size ≤ gb490)); have n3_ := QP ((by rw [hg]; exact (QL (by repeat (first | (with_reducible first | exact HB.out | apply QF | apply QD | apply QE) | exact HB.out))) : w.heap.size ≤ gb490)); clear HB; revert n0_ n1_ n2_ n3_; intro HB BK490 GW490 GE490; clear hb hbox hg; have hcz49_0 : w48.cell? ⟨gb490,0,none⟩ = some (.int .i64 a0_0) := (QC BK490.out 0).trans rfl; have hcz49_1 : w48.cell? ⟨gb490,1,none⟩ = some (.int .i64 a0_1) := (QC BK490.out 1).trans rfl; have hcz49_2 : w48.cell? ⟨gb490,2,none⟩ = some (.bool a0_2) := (QC BK490.out 2).trans rfl; have hcz49_3 : w48.cell? ⟨gb490,3,none⟩ = some (.bool a0_3) := (QC BK490.out 3).trans rfl; have hcz49_4 : w48.cell? ⟨gb490,4,none⟩ = some (.slice A0_4 l0_4.length c0_4) := (QC BK490.out 4).trans rfl; have hcz49_5 : w48.cell? ⟨gb490,5,none⟩ = some (.slice A0_5 l0_5.length c0_5) := (QC BK490.out 5).trans rfl; have hcz49_6 : w48.cell? ⟨gb490,6,none⟩ = some (.int .i64 a0_6) := (QC BK490.out 6).trans rfl; have hcz49_7 : w48.cell? ⟨gb490,7,none⟩ = some (.int .i64 a0_7) := (QC BK490.out 7).trans rfl; have hcz49_8 : w48.cell? ⟨gb490,8,none⟩ = some (.slice A0_8 l0_8.length c0_8) := (QC BK490.out 8).trans rfl; have hcz49_9 : w48.cell? ⟨gb490,9,none⟩ = some (.slice A0_9 l0_9.length c0_9) := (QC BK490.out 9).trans rfl; have hcz49_10 : w48.cell? ⟨gb490,10,none⟩ = some (.slice A0_10 l0_10.length c0_10) := (QC BK490.out 10).trans rfl; have hcz49_11 : w48.cell? ⟨gb490,11,none⟩ = some (.int .i64 a0_11) := (QC BK490.out 11).trans rfl; have hcz49_12 : w48.cell? ⟨gb490,12,none⟩ = some (.int .i64 a0_12) := (QC BK490.out 12).trans rfl; have hcz49_13 : w48.cell? ⟨gb490,13,none⟩ = some (.int .i64 a0_13) := (QC BK490.out 13).trans rfl; have hfz49_0 := QB BK490.out 0; have hfz49_1 := QB BK490.out 1; have hfz49_2 := QB BK490.out 2; have hfz49_3 := QB BK490.out 3; have hfz49_4 := QB BK490.out 4; have hfz49_5 := QB BK490.out 5; have hfz49_6 := QB BK490.out 6; have hfz49_7 := QB BK490.out 7; have hfz49_8 := QB BK490.out 8; have hfz49_9 := QB BK490.out 9; have hfz49_10 := QB BK490.out 10; have hfz49_11 := QB BK490.out 11; have hfz49_12 := QB BK490.out 12; have hfz49_13 := QB BK490.out 13) | ((with_reducible refine gate_callee (f := 19) rfl ?_); refine goesL_ (some 11) rfl rfl Try.func19 (by kernel_rfl) rfl #[.agg #[.int .i64 a0_0,.int .i64 a0_1,.bool a0_2,.bool a0_3,.slice A0_4 l0_4.length c0_4,.slice A0_5 l0_5.length c0_5,.int .i64 a0_6,.int .i64 a0_7,.slice A0_8 l0_8.length c0_8,.slice A0_9 l0_9.length c0_9,.slice A0_10 l0_10.length c0_10,.int .i64 a0_11,.int .i64 a0_12,.int .i64 a0_13]] rfl (by (try simp only [List.map_toArray,List.map_cons,List.map_nil]); first | done | rfl | (simp only [List.length_drop,List.length_take]; rfl)) ?_; (with_reducible refine (impl_Playable.calls k a0_0 a0_1 a0_2 a0_3 _ _ l0_4 _ _ l0_5 a0_6 a0_7 _ _ l0_8 _ _ l0_9 _ _ l0_10 a0_11 a0_12 a0_13 t491 _ ?side1 ?side2 ?side3 ?side4 ?side5 ?side6 ?side7 ?side8 ?side9 ?side10 A3.out).mono ?_); (case side1 => repeat (first | exact (QJ HR0_4.out HB.out) | (with_reducible refine QG ?_ _) | (with_reducible refine QH ?_ _) | (with_reducible refine QI ?_))); (case side2 => exact HC0_4.out); (case side3 => repeat (first | exact (QJ HR0_5.out HB.out) | (with_reducible refine QG ?_ _) | (with_reducible refine QH ?_ _) | (with_reducible refine QI ?_))); (case side4 => exact HC0_5.out); (case side5 => repeat (first | exact (QJ HR0_8.out HB.out) | (with_reducible refine QG ?_ _) | (with_reducible refine QH ?_ _) | (with_reducible refine QI ?_))); (case side6 => exact HC0_8.out); (case side7 => repeat (first | exact (QJ HR0_9.out HB.out) | (with_reducible refine QG ?_ _) | (with_reducible refine QH ?_ _) | (with_reducible refine QI ?_))); (case side8 => exact HC0_9.out); (case side9 => repeat (first | exact (QJ HR0_10.out HB.out) | (with_reducible refine QG ?_ _) | (with_reducible refine QH ?_ _) | (with_reducible refine QI ?_))); (case side10 => exact HC0_10.out); rintro e w50 ⟨v492,rfl,ho0,hb⟩; refine ⟨_,rfl,?_⟩; have n0_ := QP (Kd.R_lower ho0 (QL (by repeat (first | (with_reducible first | exact HB.out | apply QF | apply QD | apply QE | refine QK ?_ GE490.out) | exact HB.out)))); have n1_ := QP (blk_below (g := gb490) (o := .cells #[.int .i64 a0_0,.int .i64 a0_1,.bool a0_2,.bool a0_3,.slice A0_4 l0_4.length c0_4,.slice A0_5 l0_5.length c0_5,.int .i64 a0_6,.int .i64 a0_7,.slice A0_8 l0_8.length c0_8,.slice A0_9 l0_9.length c0_9,.slice A0_10 l0_10.length c0_10,.int .i64 a0_11,.int .i64 a0_12,.int .i64 a0_13] 32 (0,0)) (by (with_reducible repeat (first | refine blk_drewN ?_ _ | refine blk_drew ?_ | refine blk_alloc ?_ _)); exact BK490.out) hb); have n2_ := QP (below_step (by repeat (first | (with_reducible first | exact HB.out | apply QF | apply QD | apply QE | refine QK ?_ GE490.out) | exact HB.out)) hb); clear BK490; clear HB; revert n0_ n1_ n2_; intro HO493 BK490 HB; (try clear hb); (try clear hb2); (try clear hk); (try clear hi); (try clear ho0); obtain ⟨Ao51,co51,eo51⟩ := Kd.R_slice HO493.out; subst eo51))
     go_ret
     exact ⟨by first | rfl | (simp [errW_none,errW_some] <;> rfl) | (simp [*,errW_none,errW_some] <;> rfl),by repeat (first | (with_reducible first | exact HB.out | apply QF | apply QD | apply QE | refine QK ?_ GE490.out) | exact HB.out)⟩

/-! ### laws_eqIntS: function 24 -/
def laws_eqIntS.l0 : Nat → List Int → List Int → Int → Option (Bool)
 | 0,_,_,_ => none
 | k + 1,x0,x1,x5 => if x5 < (x0.length : Int) then (if 0 ≤ x5 then (if x5 < (x1.length : Int) then (if (rd x0 x5) = (rd x1 x5) then (laws_eqIntS.l0 k x0 x1 (wrap64 (x5 + 1))) else (some false)) else (none)) else (none)) else (some true)
def laws_eqIntS.f (k : Nat) (l0 : List Int) (l1 : List Int) : Option (Bool) := if (l0.length : Int) = (l1.length : Int) then (laws_eqIntS.l0 k l0 l1 0) else (some false)
theorem laws_eqIntS.mono_l : ∀ k, (∀ y0 y1 y2, LeO (laws_eqIntS.l0 k y0 y1 y2) (laws_eqIntS.l0 (k + 1) y0 y1 y2))
 | 0 => fun _ _ _ r h => by simp [laws_eqIntS.l0] at h
 | k + 1 => by
  have ih0 := laws_eqIntS.mono_l k
  ·intro y0 y1 y2
   unfold laws_eqIntS.l0
   repeat' first
   | (with_reducible exact ih0 _ _ _)
   | (with_reducible exact LeO.refl _)
   | (with_reducible exact LeO.none _)
   | (with_reducible refine LeO.ite ?_ ?_)
   | (with_reducible refine LeO.bind ?_ (fun _ => ?_))
   | exact ih0 _ _ _
   | exact LeO.none _
   | refine LeO.ite ?_ ?_
   | refine LeO.bind ?_ (fun _ => ?_)
theorem laws_eqIntS.mono : ∀ a0 a1 k, LeO (laws_eqIntS.f k a0 a1) (laws_eqIntS.f (k + 1) a0 a1) := by
 intro a0 a1 k
 have ih0 := laws_eqIntS.mono_l k
 unfold laws_eqIntS.f
 repeat' first
   | (with_reducible exact ih0 _ _ _)
   | (with_reducible exact LeO.refl _)
   | (with_reducible exact LeO.none _)
   | (with_reducible refine LeO.ite ?_ ?_)
   | (with_reducible refine LeO.bind ?_ (fun _ => ?_))
   | exact ih0 _ _ _
   | exact LeO.none _
   | refine LeO.ite ?_ ?_
   | refine LeO.bind ?_ (fun _ => ?_)
set_option maxHeartbeats 8000000 in
set_option maxRecDepth 100000 in
theorem laws_eqIntS.calls (k : Nat) (A0 : Option Addr) (c0 : Nat) (l0 : List Int) (A1 : Option Addr) (c1 : Nat) (l1 : List Int) (r : Bool) (w : World) (hr0 : Kd.C (Kd.int .i64) w A0 l0.length l0) (hc0 : l0.length ≤ c0) (hr1 : Kd.C (Kd.int .i64) w A1 l1.length l1) (hc1 : l1.length ≤ c1) (h : laws_eqIntS.f k l0 l1 = some r) :
  Calls Try.prog 24 #[.slice A0 l0.length c0,.slice A1 l1.length c1] w fun e w' => e = .returned (.bool r) ∧ Drawn0 w w' := by
 have HR0 := QP hr0
 have HC0 := QP hc0
 clear hr0 hc0
 have HR1 := QP hr1
 have HC1 := QP hc1
 clear hr1 hc1
 have H : (if (l0.length : Int) = (l1.length : Int) then (laws_eqIntS.l0 k l0 l1 0) else (some false)) = some r := h
 clear h
 by_cases c3 : (l0.length : Int) = (l1.length : Int)
 ·rw [if_pos c3] at H
  have c3b0 : ((l0.length : Int) == (l1.length : Int)) = true := beq_iff_eq.mpr c3
  have c3b1 : ((l0.length : Int) != (l1.length : Int)) = false := bne_eq_false_iff_eq.mpr c3
  have c3b2 : (l0.length == l1.length) = true := by first | simpa using c3 | (simp at c3 ⊢; omega)
  clear c3
  have H' := QP H
  clear H
  go_enter Try.func24,Try.ntmps24
  go_wp2
  repeat (go_quiet (fail); try go_wp2)
  go_loopg [5] k (fun kq v5 w' => ∃ (x5_1 : Int),v5 = .int .i64 x5_1 ∧ Aside0 (laws_eqIntS.l0 kq l0 l1 x5_1 = some r) ∧ Aside0 (kq ≤ k) ∧ Drawn0 w w')
  case atStart => exact ⟨(0),(by first | rfl | (simp; done) | (simp [*]; done)),H',⟨Nat.le_refl _⟩,by repeat (first | exact Drawn0.refl _ | apply Drawn0.step)⟩
  case round =>
   clear H'
   try clear c1
   try clear c2
   try clear p2
   try clear c3
   try clear c3b0
   try clear c3b1
   try clear c3b2
   obtain ⟨x5_1,rfl,HA,HK1,⟨m1,rfl⟩⟩ := hrel
   cases gk with
   | zero => exact absurd HA.out (by simp [laws_eqIntS.l0])
   | succ k1 =>
    have H := HA.out
    clear HA
    simp only [laws_eqIntS.l0] at H
    by_cases c4 : x5_1 < (l0.length : Int)
    ·rw [if_pos c4] at H
     have c4b0 : decide (x5_1 < (l0.length : Int)) = true := decide_eq_true c4
     clear c4
     by_cases c5 : 0 ≤ x5_1
     ·rw [if_pos c5] at H
      have c5b0 : decide (0 ≤ x5_1) = true := decide_eq_true c5
      clear c5
      by_cases c6 : x5_1 < (l1.length : Int)
      ·rw [if_pos c6] at H
       have c6b0 : decide (x5_1 < (l1.length : Int)) = true := decide_eq_true c6
       clear c6
       by_cases c7 : (rd l0 x5_1) = (rd l1 x5_1)
       ·rw [if_pos c7] at H
        have c7b0 : ((rd l0 x5_1) == (rd l1 x5_1)) = true := beq_iff_eq.mpr c7
        have c7b1 : ((rd l0 x5_1) != (rd l1 x5_1)) = false := bne_eq_false_iff_eq.mpr c7
        clear c7
        have H' := QP H
        clear H
        have p506 : 0 ≤ (x5_1 : Int) := of_decide_eq_true (by first | (with_reducible assumption) | assumption)
        have q506 : x5_1 < (l0.length : Int) := of_decide_eq_true (by first | (with_reducible assumption) | assumption)
        obtain ⟨ad506,e506,hx506_0⟩ := Kd.at_int HR0.out x5_1 p506 q506
        cases e506
        replace p506 := eq_true p506
        replace q506 := eq_true q506
        have p507 : 0 ≤ (x5_1 : Int) := of_decide_eq_true (by first | (with_reducible assumption) | assumption)
        have q507 : x5_1 < (l1.length : Int) := of_decide_eq_true (by first | (with_reducible assumption) | assumption)
        obtain ⟨ad507,e507,hx507_0⟩ := Kd.at_int HR1.out x5_1 p507 q507
        cases e507
        replace p507 := eq_true p507
        replace q507 := eq_true q507
        go_wp2
        repeat (go_quiet (fail); try go_wp2)
        go_roundg k1
        case measure => have := HK1.out; omega
        case rel => exact ⟨(wrap64 (x5_1 + 1)),(by first | rfl | (simp; done) | (simp [*]; done)),H',⟨by have := HK1.out; omega⟩,by repeat (first | exact Drawn0.refl _ | apply Drawn0.step)⟩
       ·rw [if_neg c7] at H
        have c7b0 : ((rd l0 x5_1) == (rd l1 x5_1)) = false := beq_eq_false_iff_ne.mpr c7
        have c7b1 : ((rd l0 x5_1) != (rd l1 x5_1)) = true := bne_iff_ne.mpr c7
        obtain rfl := Option.some.inj H
        have p506 : 0 ≤ (x5_1 : Int) := of_decide_eq_true (by first | (with_reducible assumption) | assumption)
        have q506 : x5_1 < (l0.length : Int) := of_decide_eq_true (by first | (with_reducible assumption) | assumption)
        obtain ⟨ad506,e506,hx506_0⟩ := Kd.at_int HR0.out x5_1 p506 q506
        cases e506
        replace p506 := eq_true p506
        replace q506 := eq_true q506
        have p507 : 0 ≤ (x5_1 : Int) := of_decide_eq_true (by first | (with_reducible assumption) | assumption)
        have q507 : x5_1 < (l1.length : Int) := of_decide_eq_true (by first | (with_reducible assumption) | assumption)
        obtain ⟨ad507,e507,hx507_0⟩ := Kd.at_int HR1.out x5_1 p507 q507
        cases e507
        replace p507 := eq_true p507
        replace q507 := eq_true q507
        go_wp2
        repeat (go_quiet (fail); try go_wp2)
        go_ret
        exact ⟨by first | rfl | (simp; done) | (simp [*]; done),by repeat (first | exact Drawn0.refl _ | apply Drawn0.step)⟩
      ·rw [if_neg c6] at H
       exact absurd H (by simp)
     ·rw [if_neg c5] at H
      exact absurd H (by simp)
    ·rw [if_neg c4] at H
     have c4b0 : decide (x5_1 < (l0.length : Int)) = false := decide_eq_false c4
     clear c4
     obtain rfl := Option.some.inj H
     go_wp2
     repeat (go_quiet (fail); try go_wp2)
     go_ret
     exact ⟨by first | rfl | (simp; done) | (simp [*]; done),by repeat (first | exact Drawn0.refl _ | apply Drawn0.step)⟩
 ·rw [if_neg c3] at H
  have c3b0 : ((l0.length : Int) == (l1.length : Int)) = false := beq_eq_false_iff_ne.mpr c3
  have c3b1 : ((l0.length : Int) != (l1.length : Int)) = true := bne_iff_ne.mpr c3
  have c3b2 : (l0.length == l1.length) = false := by first | simpa using c3 | (simp at c3 ⊢; omega)
  obtain rfl := Option.some.inj H
  go_enter Try.func24,Try.ntmps24
  go_wp2
  repeat (go_quiet (fail); try go_wp2)
  go_ret
  exact ⟨by first | rfl | (simp; done) | (simp [*]; done),by repeat (first | exact Drawn0.refl _ | apply Drawn0.step)⟩

/-! ### laws_eqRules: function 22 -/
def laws_eqRules.f (k : Nat) (a0_0 : Int) (a0_1 : Int) (a0_2 : Bool) (a0_3 : Bool) (l0_4 : List Int) (l0_5 : List Int) (a0_6 : Int) (a0_7 : Int) (a1_0 : Int) (a1_1 : Int) (a1_2 : Bool) (a1_3 : Bool) (l1_4 : List Int) (l1_5 : List Int) (a1_6 : Int) (a1_7 : Int) : Option (Bool) := if a0_0 = a1_0 then (if a0_1 = a1_1 then (if (a0_2 != a1_2) = true then (some false) else (if (a0_3 != a1_3) = true then (some false) else ((laws_eqIntS.f k l0_4 l1_4).bind fun t510 => (if t510 = true then ((laws_eqIntS.f k l0_5 l1_5).bind fun t511 => (if t511 = true then (if a0_6 = a1_6 then (if a0_7 = a1_7 then (some true) else (some false)) else (some false)) else (some false))) else (some false))))) else (some false)) else (some false)
theorem laws_eqRules.mono : ∀ a0 a1 a2 a3 a4 a5 a6 a7 a8 a9 a10 a11 a12 a13 a14 a15 k, LeO (laws_eqRules.f k a0 a1 a2 a3 a4 a5 a6 a7 a8 a9 a10 a11 a12 a13 a14 a15) (laws_eqRules.f (k + 1) a0 a1 a2 a3 a4 a5 a6 a7 a8 a9 a10 a11 a12 a13 a14 a15) := by
 intro a0 a1 a2 a3 a4 a5 a6 a7 a8 a9 a10 a11 a12 a13 a14 a15 k
 unfold laws_eqRules.f
 repeat' first
   | (with_reducible exact laws_eqIntS.mono _ _ _)
   | (with_reducible exact LeO.refl _)
   | (with_reducible exact LeO.none _)
   | (with_reducible refine LeO.ite ?_ ?_)
   | (with_reducible refine LeO.bind ?_ (fun _ => ?_))
   | exact laws_eqIntS.mono _ _ _
   | exact LeO.none _
   | refine LeO.ite ?_ ?_
   | refine LeO.bind ?_ (fun _ => ?_)
set_option maxHeartbeats 8000000 in
set_option maxRecDepth 100000 in
theorem laws_eqRules.calls (k : Nat) (a0_0 : Int) (a0_1 : Int) (a0_2 : Bool) (a0_3 : Bool) (A0_4 : Option Addr) (c0_4 : Nat) (l0_4 : List Int) (A0_5 : Option Addr) (c0_5 : Nat) (l0_5 : List Int) (a0_6 : Int) (a0_7 : Int) (a1_0 : Int) (a1_1 : Int) (a1_2 : Bool) (a1_3 : Bool) (A1_4 : Option Addr) (c1_4 : Nat) (l1_4 : List Int) (A1_5 : Option Addr) (c1_5 : Nat) (l1_5 : List Int) (a1_6 : Int) (a1_7 : Int) (r : Bool) (w : World) (hr0_4 : Kd.C (Kd.int .i64) w A0_4 l0_4.length l0_4) (hc0_4 : l0_4.length ≤ c0_4) (hr0_5 : Kd.C (Kd.int .i64) w A0_5 l0_5.length l0_5) (hc0_5 : l0_5.length ≤ c0_5) (hr1_4 : Kd.C (Kd.int .i64) w A1_4 l1_4.length l1_4) (hc1_4 : l1_4.length ≤ c1_4) (hr1_5 : Kd.C (Kd.int .i64) w A1_5 l1_5.length l1_5) (hc1_5 : l1_5.length ≤ c1_5) (h : laws_eqRules.f k a0_0 a0_1 a0_2 a0_3 l0_4 l0_5 a0_6 a0_7 a1_0 a1_1 a1_2 a1_3 l1_4 l1_5 a1_6 a1_7 = some r) :
  Calls Try.prog 22 #[.agg #[.int .i64 a0_0,.int .i64 a0_1,.bool a0_2,.bool a0_3,.slice A0_4 l0_4.length c0_4,.slice A0_5 l0_5.length c0_5,.int .i64 a0_6,.int .i64 a0_7],.agg #[.int .i64 a1_0,.int .i64 a1_1,.bool a1_2,.bool a1_3,.slice A1_4 l1_4.length c1_4,.slice A1_5 l1_5.length c1_5,.int .i64 a1_6,.int .i64 a1_7]] w fun e w' => e = .returned (.bool r) ∧ Below w.heap.size w w' := by
 have hu30 := Try.underlying30
 have HR0_4 := QP hr0_4
 have HC0_4 := QP hc0_4
 clear hr0_4 hc0_4
 have HR0_5 := QP hr0_5
 have HC0_5 := QP hc0_5
 clear hr0_5 hc0_5
 have HR1_4 := QP hr1_4
 have HC1_4 := QP hc1_4
 clear hr1_4 hc1_4
 have HR1_5 := QP hr1_5
 have HC1_5 := QP hc1_5
 clear hr1_5 hc1_5
 have HB := QP (Below.refl w.heap.size w)
 have H : (if a0_0 = a1_0 then (if a0_1 = a1_1 then (if (a0_2 != a1_2) = true then (some false) else (if (a0_3 != a1_3) = true then (some false) else ((laws_eqIntS.f k l0_4 l1_4).bind fun t510 => (if t510 = true then ((laws_eqIntS.f k l0_5 l1_5).bind fun t511 => (if t511 = true then (if a0_6 = a1_6 then (if a0_7 = a1_7 then (some true) else (some false)) else (some false)) else (some false))) else (some false))))) else (some false)) else (some false)) = some r := h
 clear h
 by_cases c3 : a0_0 = a1_0
 rotate_left
 rw [if_neg c3] at H
 have c3b0 : (a0_0 == a1_0) = false := beq_eq_false_iff_ne.mpr c3
 have c3b1 : (a0_0 != a1_0) = true := bne_iff_ne.mpr c3
 obtain rfl := Option.some.inj H
 rotate_right
 rw [if_pos c3] at H
 have c3b0 : (a0_0 == a1_0) = true := beq_iff_eq.mpr c3
 have c3b1 : (a0_0 != a1_0) = false := bne_eq_false_iff_eq.mpr c3
 clear c3
 by_cases c4 : a0_1 = a1_1
 rotate_left
 rw [if_neg c4] at H
 have c4b0 : (a0_1 == a1_1) = false := beq_eq_false_iff_ne.mpr c4
 have c4b1 : (a0_1 != a1_1) = true := bne_iff_ne.mpr c4
 obtain rfl := Option.some.inj H
 rotate_right
 rw [if_pos c4] at H
 have c4b0 : (a0_1 == a1_1) = true := beq_iff_eq.mpr c4
 have c4b1 : (a0_1 != a1_1) = false := bne_eq_false_iff_eq.mpr c4
 clear c4
 by_cases c5 : (a0_2 != a1_2) = true
 rotate_left
 rw [if_neg c5] at H
 have c5b0 : (a0_2 != a1_2) = false := by simpa using c5
 (try (have c5b1 : decide (a0_2 = a1_2) = true := by simpa using c5))
 (try (have c5b2 : (a0_2 == a1_2) = true := by simpa using c5))
 clear c5
 by_cases c11 : (a0_3 != a1_3) = true
 rotate_left
 rw [if_neg c11] at H
 have c11b0 : (a0_3 != a1_3) = false := by simpa using c11
 (try (have c11b1 : decide (a0_3 = a1_3) = true := by simpa using c11))
 (try (have c11b2 : (a0_3 == a1_3) = true := by simpa using c11))
 clear c11
 replace H := Option.bind_eq_some_iff.mp H
 obtain ⟨t510,A170,H⟩ := H
 have A17 := QP A170
 clear A170
 by_cases c18 : t510 = true
 rotate_left
 replace c18 := Bool.eq_false_iff.mpr c18
 subst c18
 rw [if_neg (show ¬ (false = true) by decide)] at H
 obtain rfl := Option.some.inj H
 rotate_right
 subst c18
 rw [if_pos rfl] at H
 replace H := Option.bind_eq_some_iff.mp H
 obtain ⟨t511,A190,H⟩ := H
 have A19 := QP A190
 clear A190
 by_cases c20 : t511 = true
 rotate_left
 replace c20 := Bool.eq_false_iff.mpr c20
 subst c20
 rw [if_neg (show ¬ (false = true) by decide)] at H
 obtain rfl := Option.some.inj H
 rotate_right
 subst c20
 rw [if_pos rfl] at H
 by_cases c21 : a0_6 = a1_6
 rotate_left
 rw [if_neg c21] at H
 have c21b0 : (a0_6 == a1_6) = false := beq_eq_false_iff_ne.mpr c21
 have c21b1 : (a0_6 != a1_6) = true := bne_iff_ne.mpr c21
 obtain rfl := Option.some.inj H
 rotate_right
 rw [if_pos c21] at H
 have c21b0 : (a0_6 == a1_6) = true := beq_iff_eq.mpr c21
 have c21b1 : (a0_6 != a1_6) = false := bne_eq_false_iff_eq.mpr c21
 clear c21
 by_cases c22 : a0_7 = a1_7
 rotate_left
 rw [if_neg c22] at H
 have c22b0 : (a0_7 == a1_7) = false := beq_eq_false_iff_ne.mpr c22
 have c22b1 : (a0_7 != a1_7) = true := bne_iff_ne.mpr c22
 obtain rfl := Option.some.inj H
 rotate_right
 rw [if_pos c22] at H
 have c22b0 : (a0_7 == a1_7) = true := beq_iff_eq.mpr c22
 have c22b1 : (a0_7 != a1_7) = false := bne_eq_false_iff_eq.mpr c22
 clear c22
 obtain rfl := Option.some.inj H
 rotate_right
 rw [if_pos c11] at H
 have c11b0 : (a0_3 != a1_3) = true := c11
 (try (have c11b1 : decide (a0_3 = a1_3) = false := by simpa using c11))
 (try (have c11b2 : (a0_3 == a1_3) = false := by simpa using c11))
 (try (have c11b3 : ¬ (a0_3 = a1_3) := by simpa using c11))
 clear c11
 obtain rfl := Option.some.inj H
 rotate_right
 rw [if_pos c5] at H
 have c5b0 : (a0_2 != a1_2) = true := c5
 (try (have c5b1 : decide (a0_2 = a1_2) = false := by simpa using c5))
 (try (have c5b2 : (a0_2 == a1_2) = false := by simpa using c5))
 (try (have c5b3 : ¬ (a0_2 = a1_2) := by simpa using c5))
 clear c5
 obtain rfl := Option.some.inj H
 all_goals
  go_enter Try.func22,Try.ntmps22
  go_wp2_with (first | ((with_reducible refine gate_dst (N := 2) rfl ?_); refine box_event ?hg (N := 2) ?hd (cs := #[.int .i64 a0_0,.int .i64 a0_1,.bool a0_2,.bool a0_3,.slice A0_4 l0_4.length c0_4,.slice A0_5 l0_5.length c0_5,.int .i64 a0_6,.int .i64 a0_7]) (t := 30) ?hr ?_; (case hd => rfl); (case hg => rfl); (case hr => first | (go_simp; done) | (go_simp; rfl)); intro gb508 hg w38 hbox hb; have n0_ := QP (below_step (by repeat (first | (with_reducible first | exact HB.out | apply QF | apply QD | apply QE) | exact HB.out)) hb); have n1_ := QP (hbox); have n2_ := QP ((by rw [hg]; exact (QL (by repeat (first | (with_reducible first | exact HB.out | apply QF | apply QD | apply QE) | exact HB.out))) : w.heap.size ≤ gb508)); have n3_ := QP ((by rw [hg]; exact (QL (by repeat (first | (with_reducible first | exact HB.out | apply QF | apply QD | apply QE) | exact HB.out))) : w.heap.size ≤ gb508)); clear HB; revert n0_ n1_ n2_ n3_; intro HB BK508 GW508 GE508; clear hb hbox hg) | ((with_reducible refine gate_dst (N := 3) rfl ?_); refine box_event ?hg (N := 3) ?hd (cs := #[.int .i64 a1_0,.int .i64 a1_1,.bool a1_2,.bool a1_3,.slice A1_4 l1_4.length c1_4,.slice A1_5 l1_5.length c1_5,.int .i64 a1_6,.int .i64 a1_7]) (t := 30) ?hr ?_; (case hd => rfl); (case hg => rfl); (case hr => first | (go_simp; done) | (go_simp; rfl)); intro gb509 hg w39 hbox hb; have n0_ := QP (blk_below (g := gb508) (o := _) (by (with_reducible repeat (first | refine blk_drewN ?_ _ | refine blk_drew ?_ | refine blk_alloc ?_ _)); exact BK508.out) hb); have n1_ := QP (below_step (by repeat (first | (with_reducible first | exact HB.out | apply QF | apply QD | apply QE | refine QK ?_ GE508.out) | exact HB.out)) hb); have n2_ := QP (hbox); have n3_ := QP ((by rw [hg]; exact (QL (by repeat (first | (with_reducible first | exact HB.out | apply QF | apply QD | apply QE | refine QK ?_ GE508.out) | exact HB.out))) : w.heap.size ≤ gb509)); have n4_ := QP ((by rw [hg]; exact (QL (by repeat (first | (with_reducible first | exact HB.out | apply QF | apply QD | apply QE | refine QK ?_ GE508.out) | exact HB.out))) : w.heap.size ≤ gb509)); have n5_ := QP ((by rw [hg]; exact Nat.ne_of_lt (blk_lt (g := gb508) (o := _) (by (with_reducible repeat (first | refine blk_drewN ?_ _ | refine blk_drew ?_ | refine blk_alloc ?_ _)); exact BK508.out)) : gb508 ≠ gb509)); have n6_ := QP ((by rw [hg]; exact Nat.ne_of_gt (blk_lt (g := gb508) (o := _) (by (with_reducible repeat (first | refine blk_drewN ?_ _ | refine blk_drew ?_ | refine blk_alloc ?_ _)); exact BK508.out)) : gb509 ≠ gb508)); clear BK508; clear HB; revert n0_ n1_ n2_ n3_ n4_ n5_ n6_; intro BK508 HB BK509 GW509 GE509 NB508_509 NB509_508; clear hb hbox hg; have hnb40 := NB508_509.out; have hnc40 := NB509_508.out; have hcz41_0 : w39.cell? ⟨gb508,0,none⟩ = some (.int .i64 a0_0) := (QC BK508.out 0).trans rfl; have hcz41_1 : w39.cell? ⟨gb508,1,none⟩ = some (.int .i64 a0_1) := (QC BK508.out 1).trans rfl; have hcz41_2 : w39.cell? ⟨gb508,2,none⟩ = some (.bool a0_2) := (QC BK508.out 2).trans rfl; have hcz41_3 : w39.cell? ⟨gb508,3,none⟩ = some (.bool a0_3) := (QC BK508.out 3).trans rfl; have hcz41_4 : w39.cell? ⟨gb508,4,none⟩ = some (.slice A0_4 l0_4.length c0_4) := (QC BK508.out 4).trans rfl; have hcz41_5 : w39.cell? ⟨gb508,5,none⟩ = some (.slice A0_5 l0_5.length c0_5) := (QC BK508.out 5).trans rfl; have hcz41_6 : w39.cell? ⟨gb508,6,none⟩ = some (.int .i64 a0_6) := (QC BK508.out 6).trans rfl; have hcz41_7 : w39.cell? ⟨gb508,7,none⟩ = some (.int .i64 a0_7) := (QC BK508.out 7).trans rfl; have hfz41_0 := QB BK508.out 0; have hfz41_1 := QB BK508.out 1; have hfz41_2 := QB BK508.out 2; have hfz41_3 := QB BK508.out 3; have hfz41_4 := QB BK508.out 4; have hfz41_5 := QB BK508.out 5; have hfz41_6 := QB BK508.out 6; have hfz41_7 := QB BK508.out 7; have hcz42_0 : w39.cell? ⟨gb509,0,none⟩ = some (.int .i64 a1_0) := (QC BK509.out 0).trans rfl; have hcz42_1 : w39.cell? ⟨gb509,1,none⟩ = some (.int .i64 a1_1) := (QC BK509.out 1).trans rfl; have hcz42_2 : w39.cell? ⟨gb509,2,none⟩ = some (.bool a1_2) := (QC BK509.out 2).trans rfl; have hcz42_3 : w39.cell? ⟨gb509,3,none⟩ = some (.bool a1_3) := (QC BK509.out 3).trans rfl; have hcz42_4 : w39.cell? ⟨gb509,4,none⟩ = some (.slice A1_4 l1_4.length c1_4) := (QC BK509.out 4).trans rfl; have hcz42_5 : w39.cell? ⟨gb509,5,none⟩ = some (.slice A1_5 l1_5.length c1_5) := (QC BK509.out 5).trans rfl; have hcz42_6 : w39.cell? ⟨gb509,6,none⟩ = some (.int .i64 a1_6) := (QC BK509.out 6).trans rfl; have hcz42_7 : w39.cell? ⟨gb509,7,none⟩ = some (.int .i64 a1_7) := (QC BK509.out 7).trans rfl; have hfz42_0 := QB BK509.out 0; have hfz42_1 := QB BK509.out 1; have hfz42_2 := QB BK509.out 2; have hfz42_3 := QB BK509.out 3; have hfz42_4 := QB BK509.out 4; have hfz42_5 := QB BK509.out 5; have hfz42_6 := QB BK509.out 6; have hfz42_7 := QB BK509.out 7) | ((with_reducible refine gate_callee (f := 24) rfl ?_); refine goesL_ (some 29) rfl rfl Try.func24 (by kernel_rfl) rfl #[.slice A0_4 l0_4.length c0_4,.slice A1_4 l1_4.length c1_4] rfl (by (try simp only [List.map_toArray,List.map_cons,List.map_nil]); first | done | rfl | (simp only [List.length_drop,List.length_take]; rfl)) ?_; (with_reducible refine (laws_eqIntS.calls k _ _ l0_4 _ _ l1_4 _ _ ?side1 ?side2 ?side3 ?side4 A17.out).mono ?_); (case side1 => repeat (first | exact (QJ HR0_4.out HB.out) | (with_reducible refine QG ?_ _) | (with_reducible refine QH ?_ _) | (with_reducible refine QI ?_))); (case side2 => exact HC0_4.out); (case side3 => repeat (first | exact (QJ HR1_4.out HB.out) | (with_reducible refine QG ?_ _) | (with_reducible refine QH ?_ _) | (with_reducible refine QI ?_))); (case side4 => exact HC1_4.out); rintro e w' ⟨rfl,⟨nd,rfl⟩⟩; refine ⟨_,rfl,?_⟩) | ((with_reducible refine gate_callee (f := 24) rfl ?_); refine goesL_ (some 35) rfl rfl Try.func24 (by kernel_rfl) rfl #[.slice A0_5 l0_5.length c0_5,.slice A1_5 l1_5.length c1_5] rfl (by (try simp only [List.map_toArray,List.map_cons,List.map_nil]); first | done | rfl | (simp only [List.length_drop,List.length_take]; rfl)) ?_; (with_reducible refine (laws_eqIntS.calls k _ _ l0_5 _ _ l1_5 _ _ ?side1 ?side2 ?side3 ?side4 A19.out).mono ?_); (case side1 => repeat (first | exact (QJ HR0_5.out (by repeat (first | (with_reducible first | exact HB.out | apply QF | apply QD | apply QE | refine QK ?_ GE508.out | refine QK ?_ GE509.out) | exact HB.out))) | (with_reducible refine QG ?_ _) | (with_reducible refine QH ?_ _) | (with_reducible refine QI ?_))); (case side2 => exact HC0_5.out); (case side3 => repeat (first | exact (QJ HR1_5.out (by repeat (first | (with_reducible first | exact HB.out | apply QF | apply QD | apply QE | refine QK ?_ GE508.out | refine QK ?_ GE509.out) | exact HB.out))) | (with_reducible refine QG ?_ _) | (with_reducible refine QH ?_ _) | (with_reducible refine QI ?_))); (case side4 => exact HC1_5.out); rintro e w' ⟨rfl,⟨nd,rfl⟩⟩; refine ⟨_,rfl,?_⟩))
  go_ret
  exact ⟨by first | rfl | (simp [errW_none,errW_some] <;> rfl) | (simp [*,errW_none,errW_some] <;> rfl),by repeat (first | (with_reducible first | exact HB.out | apply QF | apply QD | apply QE | refine QK ?_ GE508.out | refine QK ?_ GE509.out) | exact HB.out)⟩

/-! ### laws_eqIntSS: function 23 -/
def laws_eqIntSS.l0 : Nat → List (List Int) → List (List Int) → Int → Option (Bool)
 | 0,_,_,_ => none
 | k + 1,x0,x1,x5 => if x5 < (x0.length : Int) then (if 0 ≤ x5 then (if x5 < (x1.length : Int) then ((laws_eqIntS.f k (rd_L1 x0 x5) (rd_L1 x1 x5)).bind fun t514 => (if t514 = true then (laws_eqIntSS.l0 k x0 x1 (wrap64 (x5 + 1))) else (some false))) else (none)) else (none)) else (some true)
def laws_eqIntSS.f (k : Nat) (l0 : List (List Int)) (l1 : List (List Int)) : Option (Bool) := if (l0.length : Int) = (l1.length : Int) then (laws_eqIntSS.l0 k l0 l1 0) else (some false)
theorem laws_eqIntSS.mono_l : ∀ k, (∀ y0 y1 y2, LeO (laws_eqIntSS.l0 k y0 y1 y2) (laws_eqIntSS.l0 (k + 1) y0 y1 y2))
 | 0 => fun _ _ _ r h => by simp [laws_eqIntSS.l0] at h
 | k + 1 => by
  have ih0 := laws_eqIntSS.mono_l k
  ·intro y0 y1 y2
   unfold laws_eqIntSS.l0
   repeat' first
   | (with_reducible exact ih0 _ _ _)
   | (with_reducible exact laws_eqIntS.mono _ _ _)
   | (with_reducible exact LeO.refl _)
   | (with_reducible exact LeO.none _)
   | (with_reducible refine LeO.ite ?_ ?_)
   | (with_reducible refine LeO.bind ?_ (fun _ => ?_))
   | exact ih0 _ _ _
   | exact laws_eqIntS.mono _ _ _
   | exact LeO.none _
   | refine LeO.ite ?_ ?_
   | refine LeO.bind ?_ (fun _ => ?_)
theorem laws_eqIntSS.mono : ∀ a0 a1 k, LeO (laws_eqIntSS.f k a0 a1) (laws_eqIntSS.f (k + 1) a0 a1) := by
 intro a0 a1 k
 have ih0 := laws_eqIntSS.mono_l k
 unfold laws_eqIntSS.f
 repeat' first
   | (with_reducible exact ih0 _ _ _)
   | (with_reducible exact laws_eqIntS.mono _ _ _)
   | (with_reducible exact LeO.refl _)
   | (with_reducible exact LeO.none _)
   | (with_reducible refine LeO.ite ?_ ?_)
   | (with_reducible refine LeO.bind ?_ (fun _ => ?_))
   | exact ih0 _ _ _
   | exact laws_eqIntS.mono _ _ _
   | exact LeO.none _
   | refine LeO.ite ?_ ?_
   | refine LeO.bind ?_ (fun _ => ?_)
set_option maxHeartbeats 8000000 in
set_option maxRecDepth 100000 in
theorem laws_eqIntSS.calls (k : Nat) (A0 : Option Addr) (c0 : Nat) (l0 : List (List Int)) (A1 : Option Addr) (c1 : Nat) (l1 : List (List Int)) (r : Bool) (w : World) (hr0 : Kd.C (Kd.slice 3 (Kd.int .i64)) w A0 l0.length l0) (hc0 : l0.length ≤ c0) (hr1 : Kd.C (Kd.slice 3 (Kd.int .i64)) w A1 l1.length l1) (hc1 : l1.length ≤ c1) (h : laws_eqIntSS.f k l0 l1 = some r) :
  Calls Try.prog 23 #[.slice A0 l0.length c0,.slice A1 l1.length c1] w fun e w' => e = .returned (.bool r) ∧ Drawn0 w w' := by
 have HR0 := QP hr0
 have HC0 := QP hc0
 clear hr0 hc0
 have HR1 := QP hr1
 have HC1 := QP hc1
 clear hr1 hc1
 have H : (if (l0.length : Int) = (l1.length : Int) then (laws_eqIntSS.l0 k l0 l1 0) else (some false)) = some r := h
 clear h
 by_cases c3 : (l0.length : Int) = (l1.length : Int)
 ·rw [if_pos c3] at H
  have c3b0 : ((l0.length : Int) == (l1.length : Int)) = true := beq_iff_eq.mpr c3
  have c3b1 : ((l0.length : Int) != (l1.length : Int)) = false := bne_eq_false_iff_eq.mpr c3
  have c3b2 : (l0.length == l1.length) = true := by first | simpa using c3 | (simp at c3 ⊢; omega)
  clear c3
  have H' := QP H
  clear H
  go_enter Try.func23,Try.ntmps23
  go_wp2
  repeat (go_quiet (fail); try go_wp2)
  go_loopg [5] k (fun kq v5 w' => ∃ (x5_1 : Int),v5 = .int .i64 x5_1 ∧ Aside0 (laws_eqIntSS.l0 kq l0 l1 x5_1 = some r) ∧ Aside0 (kq ≤ k) ∧ Drawn0 w w')
  case atStart => exact ⟨(0),(by first | rfl | (simp; done) | (simp [*]; done)),H',⟨Nat.le_refl _⟩,by repeat (first | exact Drawn0.refl _ | apply Drawn0.step)⟩
  case round =>
   clear H'
   try clear c1
   try clear c2
   try clear p2
   try clear c3
   try clear c3b0
   try clear c3b1
   try clear c3b2
   obtain ⟨x5_1,rfl,HA,HK1,⟨m1,rfl⟩⟩ := hrel
   cases gk with
   | zero => exact absurd HA.out (by simp [laws_eqIntSS.l0])
   | succ k1 =>
    have H := HA.out
    clear HA
    simp only [laws_eqIntSS.l0] at H
    by_cases c4 : x5_1 < (l0.length : Int)
    ·rw [if_pos c4] at H
     have c4b0 : decide (x5_1 < (l0.length : Int)) = true := decide_eq_true c4
     clear c4
     by_cases c5 : 0 ≤ x5_1
     ·rw [if_pos c5] at H
      have c5b0 : decide (0 ≤ x5_1) = true := decide_eq_true c5
      clear c5
      by_cases c6 : x5_1 < (l1.length : Int)
      ·rw [if_pos c6] at H
       have c6b0 : decide (x5_1 < (l1.length : Int)) = true := decide_eq_true c6
       clear c6
       replace H := Option.bind_eq_some_iff.mp H
       obtain ⟨t514,A70,H⟩ := H
       have A7 := QP A70
       clear A70
       by_cases c8 : t514 = true
       ·subst c8
        rw [if_pos rfl] at H
        have H' := QP H
        clear H
        have p512 : 0 ≤ (x5_1 : Int) := of_decide_eq_true (by first | (with_reducible assumption) | assumption)
        have q512 : x5_1 < (l0.length : Int) := of_decide_eq_true (by first | (with_reducible assumption) | assumption)
        obtain ⟨ad512,A512_0,c512_0,e512,hx512_0,hl512_0,hi512_0⟩ := at_L1 HR0.out x5_1 p512 q512
        cases e512
        have HR512_0 := QP hi512_0
        have HC512_0 := QP hl512_0
        clear hi512_0 hl512_0
        replace p512 := eq_true p512
        replace q512 := eq_true q512
        have p513 : 0 ≤ (x5_1 : Int) := of_decide_eq_true (by first | (with_reducible assumption) | assumption)
        have q513 : x5_1 < (l1.length : Int) := of_decide_eq_true (by first | (with_reducible assumption) | assumption)
        obtain ⟨ad513,A513_0,c513_0,e513,hx513_0,hl513_0,hi513_0⟩ := at_L1 HR1.out x5_1 p513 q513
        cases e513
        have HR513_0 := QP hi513_0
        have HC513_0 := QP hl513_0
        clear hi513_0 hl513_0
        replace p513 := eq_true p513
        replace q513 := eq_true q513
        go_wp2_with (first | (go_at_call 24; (with_reducible refine (laws_eqIntS.calls k1 _ _ (rd_L1 l0 x5_1) _ _ (rd_L1 l1 x5_1) true _ ?side1 ?side2 ?side3 ?side4 A7.out).mono ?_); (case side1 => repeat (first | exact HR512_0.out | (with_reducible refine QG ?_ _) | (with_reducible refine QH ?_ _) | (with_reducible refine QI ?_))); (case side2 => exact HC512_0.out); (case side3 => repeat (first | exact HR513_0.out | (with_reducible refine QG ?_ _) | (with_reducible refine QH ?_ _) | (with_reducible refine QI ?_))); (case side4 => exact HC513_0.out); rintro e w' ⟨rfl,⟨nd,rfl⟩⟩; (try first | exact ⟨rfl,_,World.drewN_drewN _ _ _⟩ | exact ⟨rfl,_,Eq.trans (World.drewN_drewN _ _ _) (congrArg (World.drewN _) (Nat.add_assoc _ _ _))⟩)))
        repeat (go_quiet (first | (go_at_call 24; (with_reducible refine (laws_eqIntS.calls k1 _ _ (rd_L1 l0 x5_1) _ _ (rd_L1 l1 x5_1) true _ ?side1 ?side2 ?side3 ?side4 A7.out).mono ?_); (case side1 => repeat (first | exact HR512_0.out | (with_reducible refine QG ?_ _) | (with_reducible refine QH ?_ _) | (with_reducible refine QI ?_))); (case side2 => exact HC512_0.out); (case side3 => repeat (first | exact HR513_0.out | (with_reducible refine QG ?_ _) | (with_reducible refine QH ?_ _) | (with_reducible refine QI ?_))); (case side4 => exact HC513_0.out); rintro e w' ⟨rfl,⟨nd,rfl⟩⟩; (try first | exact ⟨rfl,_,World.drewN_drewN _ _ _⟩ | exact ⟨rfl,_,Eq.trans (World.drewN_drewN _ _ _) (congrArg (World.drewN _) (Nat.add_assoc _ _ _))⟩))); try go_wp2_with (first | (go_at_call 24; (with_reducible refine (laws_eqIntS.calls k1 _ _ (rd_L1 l0 x5_1) _ _ (rd_L1 l1 x5_1) true _ ?side1 ?side2 ?side3 ?side4 A7.out).mono ?_); (case side1 => repeat (first | exact HR512_0.out | (with_reducible refine QG ?_ _) | (with_reducible refine QH ?_ _) | (with_reducible refine QI ?_))); (case side2 => exact HC512_0.out); (case side3 => repeat (first | exact HR513_0.out | (with_reducible refine QG ?_ _) | (with_reducible refine QH ?_ _) | (with_reducible refine QI ?_))); (case side4 => exact HC513_0.out); rintro e w' ⟨rfl,⟨nd,rfl⟩⟩; (try first | exact ⟨rfl,_,World.drewN_drewN _ _ _⟩ | exact ⟨rfl,_,Eq.trans (World.drewN_drewN _ _ _) (congrArg (World.drewN _) (Nat.add_assoc _ _ _))⟩))))
        go_roundg k1
        case measure => have := HK1.out; omega
        case rel => exact ⟨(wrap64 (x5_1 + 1)),(by first | rfl | (simp; done) | (simp [*]; done)),H',⟨by have := HK1.out; omega⟩,by repeat (first | exact Drawn0.refl _ | apply Drawn0.step)⟩
       ·replace c8 := Bool.eq_false_iff.mpr c8
        subst c8
        rw [if_neg (show ¬ (false = true) by decide)] at H
        obtain rfl := Option.some.inj H
        have p512 : 0 ≤ (x5_1 : Int) := of_decide_eq_true (by first | (with_reducible assumption) | assumption)
        have q512 : x5_1 < (l0.length : Int) := of_decide_eq_true (by first | (with_reducible assumption) | assumption)
        obtain ⟨ad512,A512_0,c512_0,e512,hx512_0,hl512_0,hi512_0⟩ := at_L1 HR0.out x5_1 p512 q512
        cases e512
        have HR512_0 := QP hi512_0
        have HC512_0 := QP hl512_0
        clear hi512_0 hl512_0
        replace p512 := eq_true p512
        replace q512 := eq_true q512
        have p513 : 0 ≤ (x5_1 : Int) := of_decide_eq_true (by first | (with_reducible assumption) | assumption)
        have q513 : x5_1 < (l1.length : Int) := of_decide_eq_true (by first | (with_reducible assumption) | assumption)
        obtain ⟨ad513,A513_0,c513_0,e513,hx513_0,hl513_0,hi513_0⟩ := at_L1 HR1.out x5_1 p513 q513
        cases e513
        have HR513_0 := QP hi513_0
        have HC513_0 := QP hl513_0
        clear hi513_0 hl513_0
        replace p513 := eq_true p513
        replace q513 := eq_true q513
        go_wp2_with (first | (go_at_call 24; (with_reducible refine (laws_eqIntS.calls k1 _ _ (rd_L1 l0 x5_1) _ _ (rd_L1 l1 x5_1) false _ ?side1 ?side2 ?side3 ?side4 A7.out).mono ?_); (case side1 => repeat (first | exact HR512_0.out | (with_reducible refine QG ?_ _) | (with_reducible refine QH ?_ _) | (with_reducible refine QI ?_))); (case side2 => exact HC512_0.out); (case side3 => repeat (first | exact HR513_0.out | (with_reducible refine QG ?_ _) | (with_reducible refine QH ?_ _) | (with_reducible refine QI ?_))); (case side4 => exact HC513_0.out); rintro e w' ⟨rfl,⟨nd,rfl⟩⟩; (try first | exact ⟨rfl,_,World.drewN_drewN _ _ _⟩ | exact ⟨rfl,_,Eq.trans (World.drewN_drewN _ _ _) (congrArg (World.drewN _) (Nat.add_assoc _ _ _))⟩)))
        repeat (go_quiet (first | (go_at_call 24; (with_reducible refine (laws_eqIntS.calls k1 _ _ (rd_L1 l0 x5_1) _ _ (rd_L1 l1 x5_1) false _ ?side1 ?side2 ?side3 ?side4 A7.out).mono ?_); (case side1 => repeat (first | exact HR512_0.out | (with_reducible refine QG ?_ _) | (with_reducible refine QH ?_ _) | (with_reducible refine QI ?_))); (case side2 => exact HC512_0.out); (case side3 => repeat (first | exact HR513_0.out | (with_reducible refine QG ?_ _) | (with_reducible refine QH ?_ _) | (with_reducible refine QI ?_))); (case side4 => exact HC513_0.out); rintro e w' ⟨rfl,⟨nd,rfl⟩⟩; (try first | exact ⟨rfl,_,World.drewN_drewN _ _ _⟩ | exact ⟨rfl,_,Eq.trans (World.drewN_drewN _ _ _) (congrArg (World.drewN _) (Nat.add_assoc _ _ _))⟩))); try go_wp2_with (first | (go_at_call 24; (with_reducible refine (laws_eqIntS.calls k1 _ _ (rd_L1 l0 x5_1) _ _ (rd_L1 l1 x5_1) false _ ?side1 ?side2 ?side3 ?side4 A7.out).mono ?_); (case side1 => repeat (first | exact HR512_0.out | (with_reducible refine QG ?_ _) | (with_reducible refine QH ?_ _) | (with_reducible refine QI ?_))); (case side2 => exact HC512_0.out); (case side3 => repeat (first | exact HR513_0.out | (with_reducible refine QG ?_ _) | (with_reducible refine QH ?_ _) | (with_reducible refine QI ?_))); (case side4 => exact HC513_0.out); rintro e w' ⟨rfl,⟨nd,rfl⟩⟩; (try first | exact ⟨rfl,_,World.drewN_drewN _ _ _⟩ | exact ⟨rfl,_,Eq.trans (World.drewN_drewN _ _ _) (congrArg (World.drewN _) (Nat.add_assoc _ _ _))⟩))))
        go_ret
        exact ⟨by first | rfl | (simp; done) | (simp [*]; done),by repeat (first | exact Drawn0.refl _ | apply Drawn0.step)⟩
      ·rw [if_neg c6] at H
       exact absurd H (by simp)
     ·rw [if_neg c5] at H
      exact absurd H (by simp)
    ·rw [if_neg c4] at H
     have c4b0 : decide (x5_1 < (l0.length : Int)) = false := decide_eq_false c4
     clear c4
     obtain rfl := Option.some.inj H
     go_wp2
     repeat (go_quiet (fail); try go_wp2)
     go_ret
     exact ⟨by first | rfl | (simp; done) | (simp [*]; done),by repeat (first | exact Drawn0.refl _ | apply Drawn0.step)⟩
 ·rw [if_neg c3] at H
  have c3b0 : ((l0.length : Int) == (l1.length : Int)) = false := beq_eq_false_iff_ne.mpr c3
  have c3b1 : ((l0.length : Int) != (l1.length : Int)) = true := bne_iff_ne.mpr c3
  have c3b2 : (l0.length == l1.length) = false := by first | simpa using c3 | (simp at c3 ⊢; omega)
  obtain rfl := Option.some.inj H
  go_enter Try.func23,Try.ntmps23
  go_wp2
  repeat (go_quiet (fail); try go_wp2)
  go_ret
  exact ⟨by first | rfl | (simp; done) | (simp [*]; done),by repeat (first | exact Drawn0.refl _ | apply Drawn0.step)⟩

/-! ### laws_eqGame: function 8 -/
def laws_eqGame.f (k : Nat) (a0_0 : Int) (a0_1 : Int) (a0_2 : Bool) (a0_3 : Bool) (l0_4 : List Int) (l0_5 : List Int) (a0_6 : Int) (a0_7 : Int) (l0_8 : List (List Int)) (l0_9 : List Int) (l0_10 : List Int) (a0_11 : Int) (a0_12 : Int) (a0_13 : Int) (a1_0 : Int) (a1_1 : Int) (a1_2 : Bool) (a1_3 : Bool) (l1_4 : List Int) (l1_5 : List Int) (a1_6 : Int) (a1_7 : Int) (l1_8 : List (List Int)) (l1_9 : List Int) (l1_10 : List Int) (a1_11 : Int) (a1_12 : Int) (a1_13 : Int) : Option (Bool) := (laws_eqRules.f k a0_0 a0_1 a0_2 a0_3 l0_4 l0_5 a0_6 a0_7 a1_0 a1_1 a1_2 a1_3 l1_4 l1_5 a1_6 a1_7).bind fun t517 => (if t517 = true then ((laws_eqIntSS.f k l0_8 l1_8).bind fun t518 => (if t518 = true then ((laws_eqIntS.f k l0_9 l1_9).bind fun t519 => (if t519 = true then ((laws_eqIntS.f k l0_10 l1_10).bind fun t520 => (if t520 = true then (if a0_11 = a1_11 then (if a0_12 = a1_12 then (if a0_13 = a1_13 then (some true) else (some false)) else (some false)) else (some false)) else (some false))) else (some false))) else (some false))) else (some false))
theorem laws_eqGame.mono : ∀ a0 a1 a2 a3 a4 a5 a6 a7 a8 a9 a10 a11 a12 a13 a14 a15 a16 a17 a18 a19 a20 a21 a22 a23 a24 a25 a26 a27 k, LeO (laws_eqGame.f k a0 a1 a2 a3 a4 a5 a6 a7 a8 a9 a10 a11 a12 a13 a14 a15 a16 a17 a18 a19 a20 a21 a22 a23 a24 a25 a26 a27) (laws_eqGame.f (k + 1) a0 a1 a2 a3 a4 a5 a6 a7 a8 a9 a10 a11 a12 a13 a14 a15 a16 a17 a18 a19 a20 a21 a22 a23 a24 a25 a26 a27) := by
 intro a0 a1 a2 a3 a4 a5 a6 a7 a8 a9 a10 a11 a12 a13 a14 a15 a16 a17 a18 a19 a20 a21 a22 a23 a24 a25 a26 a27 k
 unfold laws_eqGame.f
 repeat' first
   | (with_reducible exact laws_eqIntS.mono _ _ _)
   | (with_reducible exact laws_eqIntSS.mono _ _ _)
   | (with_reducible exact laws_eqRules.mono _ _ _ _ _ _ _ _ _ _ _ _ _ _ _ _ _)
   | (with_reducible exact LeO.refl _)
   | (with_reducible exact LeO.none _)
   | (with_reducible refine LeO.ite ?_ ?_)
   | (with_reducible refine LeO.bind ?_ (fun _ => ?_))
   | exact laws_eqIntS.mono _ _ _
   | exact laws_eqIntSS.mono _ _ _
   | exact laws_eqRules.mono _ _ _ _ _ _ _ _ _ _ _ _ _ _ _ _ _
   | exact LeO.none _
   | refine LeO.ite ?_ ?_
   | refine LeO.bind ?_ (fun _ => ?_)
set_option maxHeartbeats 8000000 in
set_option maxRecDepth 100000 in
theorem laws_eqGame.calls (k : Nat) (a0_0 : Int) (a0_1 : Int) (a0_2 : Bool) (a0_3 : Bool) (A0_4 : Option Addr) (c0_4 : Nat) (l0_4 : List Int) (A0_5 : Option Addr) (c0_5 : Nat) (l0_5 : List Int) (a0_6 : Int) (a0_7 : Int) (A0_8 : Option Addr) (c0_8 : Nat) (l0_8 : List (List Int)) (A0_9 : Option Addr) (c0_9 : Nat) (l0_9 : List Int) (A0_10 : Option Addr) (c0_10 : Nat) (l0_10 : List Int) (a0_11 : Int) (a0_12 : Int) (a0_13 : Int) (a1_0 : Int) (a1_1 : Int) (a1_2 : Bool) (a1_3 : Bool) (A1_4 : Option Addr) (c1_4 : Nat) (l1_4 : List Int) (A1_5 : Option Addr) (c1_5 : Nat) (l1_5 : List Int) (a1_6 : Int) (a1_7 : Int) (A1_8 : Option Addr) (c1_8 : Nat) (l1_8 : List (List Int)) (A1_9 : Option Addr) (c1_9 : Nat) (l1_9 : List Int) (A1_10 : Option Addr) (c1_10 : Nat) (l1_10 : List Int) (a1_11 : Int) (a1_12 : Int) (a1_13 : Int) (r : Bool) (w : World) (hr0_4 : Kd.C (Kd.int .i64) w A0_4 l0_4.length l0_4) (hc0_4 : l0_4.length ≤ c0_4) (hr0_5 : Kd.C (Kd.int .i64) w A0_5 l0_5.length l0_5) (hc0_5 : l0_5.length ≤ c0_5) (hr0_8 : Kd.C (Kd.slice 3 (Kd.int .i64)) w A0_8 l0_8.length l0_8) (hc0_8 : l0_8.length ≤ c0_8) (hr0_9 : Kd.C (Kd.int .i64) w A0_9 l0_9.length l0_9) (hc0_9 : l0_9.length ≤ c0_9) (hr0_10 : Kd.C (Kd.int .i64) w A0_10 l0_10.length l0_10) (hc0_10 : l0_10.length ≤ c0_10) (hr1_4 : Kd.C (Kd.int .i64) w A1_4 l1_4.length l1_4) (hc1_4 : l1_4.length ≤ c1_4) (hr1_5 : Kd.C (Kd.int .i64) w A1_5 l1_5.length l1_5) (hc1_5 : l1_5.length ≤ c1_5) (hr1_8 : Kd.C (Kd.slice 3 (Kd.int .i64)) w A1_8 l1_8.length l1_8) (hc1_8 : l1_8.length ≤ c1_8) (hr1_9 : Kd.C (Kd.int .i64) w A1_9 l1_9.length l1_9) (hc1_9 : l1_9.length ≤ c1_9) (hr1_10 : Kd.C (Kd.int .i64) w A1_10 l1_10.length l1_10) (hc1_10 : l1_10.length ≤ c1_10) (h : laws_eqGame.f k a0_0 a0_1 a0_2 a0_3 l0_4 l0_5 a0_6 a0_7 l0_8 l0_9 l0_10 a0_11 a0_12 a0_13 a1_0 a1_1 a1_2 a1_3 l1_4 l1_5 a1_6 a1_7 l1_8 l1_9 l1_10 a1_11 a1_12 a1_13 = some r) :
  Calls Try.prog 8 #[.agg #[.int .i64 a0_0,.int .i64 a0_1,.bool a0_2,.bool a0_3,.slice A0_4 l0_4.length c0_4,.slice A0_5 l0_5.length c0_5,.int .i64 a0_6,.int .i64 a0_7,.slice A0_8 l0_8.length c0_8,.slice A0_9 l0_9.length c0_9,.slice A0_10 l0_10.length c0_10,.int .i64 a0_11,.int .i64 a0_12,.int .i64 a0_13],.agg #[.int .i64 a1_0,.int .i64 a1_1,.bool a1_2,.bool a1_3,.slice A1_4 l1_4.length c1_4,.slice A1_5 l1_5.length c1_5,.int .i64 a1_6,.int .i64 a1_7,.slice A1_8 l1_8.length c1_8,.slice A1_9 l1_9.length c1_9,.slice A1_10 l1_10.length c1_10,.int .i64 a1_11,.int .i64 a1_12,.int .i64 a1_13]] w fun e w' => e = .returned (.bool r) ∧ Below w.heap.size w w' := by
 have hu32 := Try.underlying32
 have hu30 := Try.underlying30
 have HR0_4 := QP hr0_4
 have HC0_4 := QP hc0_4
 clear hr0_4 hc0_4
 have HR0_5 := QP hr0_5
 have HC0_5 := QP hc0_5
 clear hr0_5 hc0_5
 have HR0_8 := QP hr0_8
 have HC0_8 := QP hc0_8
 clear hr0_8 hc0_8
 have HR0_9 := QP hr0_9
 have HC0_9 := QP hc0_9
 clear hr0_9 hc0_9
 have HR0_10 := QP hr0_10
 have HC0_10 := QP hc0_10
 clear hr0_10 hc0_10
 have HR1_4 := QP hr1_4
 have HC1_4 := QP hc1_4
 clear hr1_4 hc1_4
 have HR1_5 := QP hr1_5
 have HC1_5 := QP hc1_5
 clear hr1_5 hc1_5
 have HR1_8 := QP hr1_8
 have HC1_8 := QP hc1_8
 clear hr1_8 hc1_8
 have HR1_9 := QP hr1_9
 have HC1_9 := QP hc1_9
 clear hr1_9 hc1_9
 have HR1_10 := QP hr1_10
 have HC1_10 := QP hc1_10
 clear hr1_10 hc1_10
 have HB := QP (Below.refl w.heap.size w)
 have H : ((laws_eqRules.f k a0_0 a0_1 a0_2 a0_3 l0_4 l0_5 a0_6 a0_7 a1_0 a1_1 a1_2 a1_3 l1_4 l1_5 a1_6 a1_7).bind fun t517 => (if t517 = true then ((laws_eqIntSS.f k l0_8 l1_8).bind fun t518 => (if t518 = true then ((laws_eqIntS.f k l0_9 l1_9).bind fun t519 => (if t519 = true then ((laws_eqIntS.f k l0_10 l1_10).bind fun t520 => (if t520 = true then (if a0_11 = a1_11 then (if a0_12 = a1_12 then (if a0_13 = a1_13 then (some true) else (some false)) else (some false)) else (some false)) else (some false))) else (some false))) else (some false))) else (some false))) = some r := h
 clear h
 replace H := Option.bind_eq_some_iff.mp H
 obtain ⟨t517,A30,H⟩ := H
 have A3 := QP A30
 clear A30
 by_cases c4 : t517 = true
 rotate_left
 replace c4 := Bool.eq_false_iff.mpr c4
 subst c4
 rw [if_neg (show ¬ (false = true) by decide)] at H
 obtain rfl := Option.some.inj H
 rotate_right
 subst c4
 rw [if_pos rfl] at H
 replace H := Option.bind_eq_some_iff.mp H
 obtain ⟨t518,A50,H⟩ := H
 have A5 := QP A50
 clear A50
 by_cases c6 : t518 = true
 rotate_left
 replace c6 := Bool.eq_false_iff.mpr c6
 subst c6
 rw [if_neg (show ¬ (false = true) by decide)] at H
 obtain rfl := Option.some.inj H
 rotate_right
 subst c6
 rw [if_pos rfl] at H
 replace H := Option.bind_eq_some_iff.mp H
 obtain ⟨t519,A70,H⟩ := H
 have A7 := QP A70
 clear A70
 by_cases c8 : t519 = true
 rotate_left
 replace c8 := Bool.eq_false_iff.mpr c8
 subst c8
 rw [if_neg (show ¬ (false = true) by decide)] at H
 obtain rfl := Option.some.inj H
 rotate_right
 subst c8
 rw [if_pos rfl] at H
 replace H := Option.bind_eq_some_iff.mp H
 obtain ⟨t520,A90,H⟩ := H
 have A9 := QP A90
 clear A90
 by_cases c10 : t520 = true
 rotate_left
 replace c10 := Bool.eq_false_iff.mpr c10
 subst c10
 rw [if_neg (show ¬ (false = true) by decide)] at H
 obtain rfl := Option.some.inj H
 rotate_right
 subst c10
 rw [if_pos rfl] at H
 by_cases c11 : a0_11 = a1_11
 rotate_left
 rw [if_neg c11] at H
 have c11b0 : (a0_11 == a1_11) = false := beq_eq_false_iff_ne.mpr c11
 have c11b1 : (a0_11 != a1_11) = true := bne_iff_ne.mpr c11
 obtain rfl := Option.some.inj H
 rotate_right
 rw [if_pos c11] at H
 have c11b0 : (a0_11 == a1_11) = true := beq_iff_eq.mpr c11
 have c11b1 : (a0_11 != a1_11) = false := bne_eq_false_iff_eq.mpr c11
 clear c11
 by_cases c12 : a0_12 = a1_12
 rotate_left
 rw [if_neg c12] at H
 have c12b0 : (a0_12 == a1_12) = false := beq_eq_false_iff_ne.mpr c12
 have c12b1 : (a0_12 != a1_12) = true := bne_iff_ne.mpr c12
 obtain rfl := Option.some.inj H
 rotate_right
 rw [if_pos c12] at H
 have c12b0 : (a0_12 == a1_12) = true := beq_iff_eq.mpr c12
 have c12b1 : (a0_12 != a1_12) = false := bne_eq_false_iff_eq.mpr c12
 clear c12
 by_cases c13 : a0_13 = a1_13
 rotate_left
 rw [if_neg c13] at H
 have c13b0 : (a0_13 == a1_13) = false := beq_eq_false_iff_ne.mpr c13
 have c13b1 : (a0_13 != a1_13) = true := bne_iff_ne.mpr c13
 obtain rfl := Option.some.inj H
 rotate_right
 rw [if_pos c13] at H
 have c13b0 : (a0_13 == a1_13) = true := beq_iff_eq.mpr c13
 have c13b1 : (a0_13 != a1_13) = false := bne_eq_false_iff_eq.mpr c13
 clear c13
 obtain rfl := Option.some.inj H
 all_goals
  go_enter Try.func8,Try.ntmps8
  go_wp2_with (first | ((with_reducible refine gate_dst (N := 2) rfl ?_); refine box_event ?hg (N := 2) ?hd (cs := #[.int .i64 a0_0,.int .i64 a0_1,.bool a0_2,.bool a0_3,.slice A0_4 l0_4.length c0_4,.slice A0_5 l0_5.length c0_5,.int .i64 a0_6,.int .i64 a0_7,.slice A0_8 l0_8.length c0_8,.slice A0_9 l0_9.length c0_9,.slice A0_10 l0_10.length c0_10,.int .i64 a0_11,.int .i64 a0_12,.int .i64 a0_13]) (t := 32) ?hr ?_; (case hd => rfl); (case hg => rfl); (case hr => first | (go_simp; done) | (go_simp; rfl)); intro gb515 hg w46 hbox hb; have n0_ := QP (below_step (by repeat (first | (with_reducible first | exact HB.out | apply QF | apply QD | apply QE) | exact HB.out)) hb); have n1_ := QP (hbox); have n2_ := QP ((by rw [hg]; exact (QL (by repeat (first | (with_reducible first | exact HB.out | apply QF | apply QD | apply QE) | exact HB.out))) : w.heap.size ≤ gb515)); have n3_ := QP ((by rw [hg]; exact (QL (by repeat (first | (with_reducible first | exact HB.out | apply QF | apply QD | apply QE) | exact HB.out))) : w.heap.size ≤ gb515)); clear HB; revert n0_ n1_ n2_ n3_; intro HB BK515 GW515 GE515; clear hb hbox hg) | ((with_reducible refine gate_dst (N := 3) rfl ?_); refine box_event ?hg (N := 3) ?hd (cs := #[.int .i64 a1_0,.int .i64 a1_1,.bool a1_2,.bool a1_3,.slice A1_4 l1_4.length c1_4,.slice A1_5 l1_5.length c1_5,.int .i64 a1_6,.int .i64 a1_7,.slice A1_8 l1_8.length c1_8,.slice A1_9 l1_9.length c1_9,.slice A1_10 l1_10.length c1_10,.int .i64 a1_11,.int .i64 a1_12,.int .i64 a1_13]) (t := 32) ?hr ?_; (case hd => rfl); (case hg => rfl); (case hr => first | (go_simp; done) | (go_simp; rfl)); intro gb516 hg w47 hbox hb; have n0_ := QP (blk_below (g := gb515) (o := _) (by (with_reducible repeat (first | refine blk_drewN ?_ _ | refine blk_drew ?_ | refine blk_alloc ?_ _)); exact BK515.out) hb); have n1_ := QP (below_step (by repeat (first | (with_reducible first | exact HB.out | apply QF | apply QD | apply QE | refine QK ?_ GE515.out) | exact HB.out)) hb); have n2_ := QP (hbox); have n3_ := QP ((by rw [hg]; exact (QL (by repeat (first | (with_reducible first | exact HB.out | apply QF | apply QD | apply QE | refine QK ?_ GE515.out) | exact HB.out))) : w.heap.size ≤ gb516)); have n4_ := QP ((by rw [hg]; exact (QL (by repeat (first | (with_reducible first | exact HB.out | apply QF | apply QD | apply QE | refine QK ?_ GE515.out) | exact HB.out))) : w.heap.size ≤ gb516)); have n5_ := QP ((by rw [hg]; exact Nat.ne_of_lt (blk_lt (g := gb515) (o := _) (by (with_reducible repeat (first | refine blk_drewN ?_ _ | refine blk_drew ?_ | refine blk_alloc ?_ _)); exact BK515.out)) : gb515 ≠ gb516)); have n6_ := QP ((by rw [hg]; exact Nat.ne_of_gt (blk_lt (g := gb515) (o := _) (by (with_reducible repeat (first | refine blk_drewN ?_ _ | refine blk_drew ?_ | refine blk_alloc ?_ _)); exact BK515.out)) : gb516 ≠ gb515)); clear BK515; clear HB; revert n0_ n1_ n2_ n3_ n4_ n5_ n6_; intro BK515 HB BK516 GW516 GE516 NB515_516 NB516_515; clear hb hbox hg; have hnb48 := NB515_516.out; have hnc48 := NB516_515.out; have hcz49_0 : w47.cell? ⟨gb515,0,none⟩ = some (.int .i64 a0_0) := (QC BK515.out 0).trans rfl; have hcz49_1 : w47.cell? ⟨gb515,1,none⟩ = some (.int .i64 a0_1) := (QC BK515.out 1).trans rfl; have hcz49_2 : w47.cell? ⟨gb515,2,none⟩ = some (.bool a0_2) := (QC BK515.out 2).trans rfl; have hcz49_3 : w47.cell? ⟨gb515,3,none⟩ = some (.bool a0_3) := (QC BK515.out 3).trans rfl; have hcz49_4 : w47.cell? ⟨gb515,4,none⟩ = some (.slice A0_4 l0_4.length c0_4) := (QC BK515.out 4).trans rfl; have hcz49_5 : w47.cell? ⟨gb515,5,none⟩ = some (.slice A0_5 l0_5.length c0_5) := (QC BK515.out 5).trans rfl; have hcz49_6 : w47.cell? ⟨gb515,6,none⟩ = some (.int .i64 a0_6) := (QC BK515.out 6).trans rfl; have hcz49_7 : w47.cell? ⟨gb515,7,none⟩ = some (.int .i64 a0_7) := (QC BK515.out 7).trans rfl; have hcz49_8 : w47.cell? ⟨gb515,8,none⟩ = some (.slice A0_8 l0_8.length c0_8) := (QC BK515.out 8).trans rfl; have hcz49_9 : w47.cell? ⟨gb515,9,none⟩ = some (.slice A0_9 l0_9.length c0_9) := (QC BK515.out 9).trans rfl; have hcz49_10 : w47.cell? ⟨gb515,10,none⟩ = some (.slice A0_10 l0_10.length c0_10) := (QC BK515.out 10).trans rfl; have hcz49_11 : w47.cell? ⟨gb515,11,none⟩ = some (.int .i64 a0_11) := (QC BK515.out 11).trans rfl; have hcz49_12 : w47.cell? ⟨gb515,12,none⟩ = some (.int .i64 a0_12) := (QC BK515.out 12).trans rfl; have hcz49_13 : w47.cell? ⟨gb515,13,none⟩ = some (.int .i64 a0_13) := (QC BK515.out 13).trans rfl; have hfz49_0 := QB BK515.out 0; have hfz49_1 := QB BK515.out 1; have hfz49_2 := QB BK515.out 2; have hfz49_3 := QB BK515.out 3; have hfz49_4 := QB BK515.out 4; have hfz49_5 := QB BK515.out 5; have hfz49_6 := QB BK515.out 6; have hfz49_7 := QB BK515.out 7; have hfz49_8 := QB BK515.out 8; have hfz49_9 := QB BK515.out 9; have hfz49_10 := QB BK515.out 10; have hfz49_11 := QB BK515.out 11; have hfz49_12 := QB BK515.out 12; have hfz49_13 := QB BK515.out 13; have hcz50_0 : w47.cell? ⟨gb516,0,none⟩ = some (.int .i64 a1_0) := (QC BK516.out 0).trans rfl; have hcz50_1 : w47.cell? ⟨gb516,1,none⟩ = some (.int .i64 a1_1) := (QC BK516.out 1).trans rfl; have hcz50_2 : w47.cell? ⟨gb516,2,none⟩ = some (.bool a1_2) := (QC BK516.out 2).trans rfl; have hcz50_3 : w47.cell? ⟨gb516,3,none⟩ = some (.bool a1_3) := (QC BK516.out 3).trans rfl; have hcz50_4 : w47.cell? ⟨gb516,4,none⟩ = some (.slice A1_4 l1_4.length c1_4) := (QC BK516.out 4).trans rfl; have hcz50_5 : w47.cell? ⟨gb516,5,none⟩ = some (.slice A1_5 l1_5.length c1_5) := (QC BK516.out 5).trans rfl; have hcz50_6 : w47.cell? ⟨gb516,6,none⟩ = some (.int .i64 a1_6) := (QC BK516.out 6).trans rfl; have hcz50_7 : w47.cell? ⟨gb516,7,none⟩ = some (.int .i64 a1_7) := (QC BK516.out 7).trans rfl; have hcz50_8 : w47.cell? ⟨gb516,8,none⟩ = some (.slice A1_8 l1_8.length c1_8) := (QC BK516.out 8).trans rfl; have hcz50_9 : w47.cell? ⟨gb516,9,none⟩ = some (.slice A1_9 l1_9.length c1_9) := (QC BK516.out 9).trans rfl; have hcz50_10 : w47.cell? ⟨gb516,10,none⟩ = some (.slice A1_10 l1_10.length c1_10) := (QC BK516.out 10).trans rfl; have hcz50_11 : w47.cell? ⟨gb516,11,none⟩ = some (.int .i64 a1_11) := (QC BK516.out 11).trans rfl; have hcz50_12 : w47.cell? ⟨gb516,12,none⟩ = some (.int .i64 a1_12) := (QC BK516.out 12).trans rfl; have hcz50_13 : w47.cell? ⟨gb516,13,none⟩ = some (.int .i64 a1_13) := (QC BK516.out 13).trans rfl; have hfz50_0 := QB BK516.out 0; have hfz50_1 := QB BK516.out 1; have hfz50_2 := QB BK516.out 2; have hfz50_3 := QB BK516.out 3; have hfz50_4 := QB BK516.out 4; have hfz50_5 := QB BK516.out 5; have hfz50_6 := QB BK516.out 6; have hfz50_7 := QB BK516.out 7; have hfz50_8 := QB BK516.out 8; have hfz50_9 := QB BK516.out 9; have hfz50_10 := QB BK516.out 10; have hfz50_11 := QB BK516.out 11; have hfz50_12 := QB BK516.out 12; have hfz50_13 := QB BK516.out 13) | ((with_reducible refine gate_callee (f := 22) rfl ?_); refine goesL_ (some 9) rfl rfl Try.func22 (by kernel_rfl) rfl #[.agg #[.int .i64 a0_0,.int .i64 a0_1,.bool a0_2,.bool a0_3,.slice A0_4 l0_4.length c0_4,.slice A0_5 l0_5.length c0_5,.int .i64 a0_6,.int .i64 a0_7],.agg #[.int .i64 a1_0,.int .i64 a1_1,.bool a1_2,.bool a1_3,.slice A1_4 l1_4.length c1_4,.slice A1_5 l1_5.length c1_5,.int .i64 a1_6,.int .i64 a1_7]] rfl (by (try simp only [List.map_toArray,List.map_cons,List.map_nil]); first | done | rfl | (simp only [List.length_drop,List.length_take]; rfl)) ?_; (with_reducible refine (laws_eqRules.calls k a0_0 a0_1 a0_2 a0_3 _ _ l0_4 _ _ l0_5 a0_6 a0_7 a1_0 a1_1 a1_2 a1_3 _ _ l1_4 _ _ l1_5 a1_6 a1_7 _ _ ?side1 ?side2 ?side3 ?side4 ?side5 ?side6 ?side7 ?side8 A3.out).mono ?_); (case side1 => repeat (first | exact (QJ HR0_4.out HB.out) | (with_reducible refine QG ?_ _) | (with_reducible refine QH ?_ _) | (with_reducible refine QI ?_))); (case side2 => exact HC0_4.out); (case side3 => repeat (first | exact (QJ HR0_5.out HB.out) | (with_reducible refine QG ?_ _) | (with_reducible refine QH ?_ _) | (with_reducible refine QI ?_))); (case side4 => exact HC0_5.out); (case side5 => repeat (first | exact (QJ HR1_4.out HB.out) | (with_reducible refine QG ?_ _) | (with_reducible refine QH ?_ _) | (with_reducible refine QI ?_))); (case side6 => exact HC1_4.out); (case side7 => repeat (first | exact (QJ HR1_5.out HB.out) | (with_reducible refine QG ?_ _) | (with_reducible refine QH ?_ _) | (with_reducible refine QI ?_))); (case side8 => exact HC1_5.out); rintro e w51 ⟨rfl,hb⟩; refine ⟨_,rfl,?_⟩; have n0_ := QP (blk_below (g := gb515) (o := _) (by (with_reducible repeat (first | refine blk_drewN ?_ _ | refine blk_drew ?_ | refine blk_alloc ?_ _)); exact BK515.out) hb); have n1_ := QP (blk_below (g := gb516) (o := _) (by (with_reducible repeat (first | refine blk_drewN ?_ _ | refine blk_drew ?_ | refine blk_alloc ?_ _)); exact BK516.out) hb); have n2_ := QP (below_step (by repeat (first | (with_reducible first | exact HB.out | apply QF | apply QD | apply QE | refine QK ?_ GE515.out | refine QK ?_ GE516.out) | exact HB.out)) hb); clear BK515; clear BK516; clear HB; revert n0_ n1_ n2_; intro BK515 BK516 HB; (try clear hb); (try clear hb2); (try clear hk); (try clear hi); have hcz52_0 : w51.cell? ⟨gb515,0,none⟩ = some (.int .i64 a0_0) := (QC BK515.out 0).trans rfl; have hcz52_1 : w51.cell? ⟨gb515,1,none⟩ = some (.int .i64 a0_1) := (QC BK515.out 1).trans rfl; have hcz52_2 : w51.cell? ⟨gb515,2,none⟩ = some (.bool a0_2) := (QC BK515.out 2).trans rfl; have hcz52_3 : w51.cell? ⟨gb515,3,none⟩ = some (.bool a0_3) := (QC BK515.out 3).trans rfl; have hcz52_4 : w51.cell? ⟨gb515,4,none⟩ = some (.slice A0_4 l0_4.length c0_4) := (QC BK515.out 4).trans rfl; have hcz52_5 : w51.cell? ⟨gb515,5,none⟩ = some (.slice A0_5 l0_5.length c0_5) := (QC BK515.out 5).trans rfl; have hcz52_6 : w51.cell? ⟨gb515,6,none⟩ = some (.int .i64 a0_6) := (QC BK515.out 6).trans rfl; have hcz52_7 : w51.cell? ⟨gb515,7,none⟩ = some (.int .i64 a0_7) := (QC BK515.out 7).trans rfl; have hcz52_8 : w51.cell? ⟨gb515,8,none⟩ = some (.slice A0_8 l0_8.length c0_8) := (QC BK515.out 8).trans rfl; have hcz52_9 : w51.cell? ⟨gb515,9,none⟩ = some (.slice A0_9 l0_9.length c0_9) := (QC BK515.out 9).trans rfl; have hcz52_10 : w51.cell? ⟨gb515,10,none⟩ = some (.slice A0_10 l0_10.length c0_10) := (QC BK515.out 10).trans rfl; have hcz52_11 : w51.cell? ⟨gb515,11,none⟩ = some (.int .i64 a0_11) := (QC BK515.out 11).trans rfl; have hcz52_12 : w51.cell? ⟨gb515,12,none⟩ = some (.int .i64 a0_12) := (QC BK515.out 12).trans rfl; have hcz52_13 : w51.cell? ⟨gb515,13,none⟩ = some (.int .i64 a0_13) := (QC BK515.out 13).trans rfl; have hfz52_0 := QB BK515.out 0; have hfz52_1 := QB BK515.out 1; have hfz52_2 := QB BK515.out 2; have hfz52_3 := QB BK515.out 3; have hfz52_4 := QB BK515.out 4; have hfz52_5 := QB BK515.out 5; have hfz52_6 := QB BK515.out 6; have hfz52_7 := QB BK515.out 7; have hfz52_8 := QB BK515.out 8; have hfz52_9 := QB BK515.out 9; have hfz52_10 := QB BK515.out 10; have hfz52_11 := QB BK515.out 11; have hfz52_12 := QB BK515.out 12; have hfz52_13 := QB BK515.out 13; have hcz53_0 : w51.cell? ⟨gb516,0,none⟩ = some (.int .i64 a1_0) := (QC BK516.out 0).trans rfl; have hcz53_1 : w51.cell? ⟨gb516,1,none⟩ = some (.int .i64 a1_1) := (QC BK516.out 1).trans rfl; have hcz53_2 : w51.cell? ⟨gb516,2,none⟩ = some (.bool a1_2) := (QC BK516.out 2).trans rfl; have hcz53_3 : w51.cell? ⟨gb516,3,none⟩ = some (.bool a1_3) := (QC BK516.out 3).trans rfl; have hcz53_4 : w51.cell? ⟨gb516,4,none⟩ = some (.slice A1_4 l1_4.length c1_4) := (QC BK516.out 4).trans rfl; have hcz53_5 : w51.cell? ⟨gb516,5,none⟩ = some (.slice A1_5 l1_5.length c1_5) := (QC BK516.out 5).trans rfl; have hcz53_6 : w51.cell? ⟨gb516,6,none⟩ = some (.int .i64 a1_6) := (QC BK516.out 6).trans rfl; have hcz53_7 : w51.cell? ⟨gb516,7,none⟩ = some (.int .i64 a1_7) := (QC BK516.out 7).trans rfl; have hcz53_8 : w51.cell? ⟨gb516,8,none⟩ = some (.slice A1_8 l1_8.length c1_8) := (QC BK516.out 8).trans rfl; have hcz53_9 : w51.cell? ⟨gb516,9,none⟩ = some (.slice A1_9 l1_9.length c1_9) := (QC BK516.out 9).trans rfl; have hcz53_10 : w51.cell? ⟨gb516,10,none⟩ = some (.slice A1_10 l1_10.length c1_10) := (QC BK516.out 10).trans rfl; have hcz53_11 : w51.cell? ⟨gb516,11,none⟩ = some (.int .i64 a1_11) := (QC BK516.out 11).trans rfl; have hcz53_12 : w51.cell? ⟨gb516,12,none⟩ = some (.int .i64 a1_12) := (QC BK516.out 12).trans rfl; have hcz53_13 : w51.cell? ⟨gb516,13,none⟩ = some (.int .i64 a1_13) := (QC BK516.out 13).trans rfl; have hfz53_0 := QB BK516.out 0; have hfz53_1 := QB BK516.out 1; have hfz53_2 := QB BK516.out 2; have hfz53_3 := QB BK516.out 3; have hfz53_4 := QB BK516.out 4; have hfz53_5 := QB BK516.out 5; have hfz53_6 := QB BK516.out 6; have hfz53_7 := QB BK516.out 7; have hfz53_8 := QB BK516.out 8; have hfz53_9 := QB BK516.out 9; have hfz53_10 := QB BK516.out 10; have hfz53_11 := QB BK516.out 11; have hfz53_12 := QB BK516.out 12; have hfz53_13 := QB BK516.out 13) | ((with_reducible refine gate_callee (f := 23) rfl ?_); refine goesL_ (some 15) rfl rfl Try.func23 (by kernel_rfl) rfl #[.slice A0_8 l0_8.length c0_8,.slice A1_8 l1_8.length c1_8] rfl (by (try simp only [List.map_toArray,List.map_cons,List.map_nil]); first | done | rfl | (simp only [List.length_drop,List.length_take]; rfl)) ?_; (with_reducible refine (laws_eqIntSS.calls k _ _ l0_8 _ _ l1_8 _ _ ?side1 ?side2 ?side3 ?side4 A5.out).mono ?_); (case side1 => repeat (first | exact (QJ HR0_8.out HB.out) | (with_reducible refine QG ?_ _) | (with_reducible refine QH ?_ _) | (with_reducible refine QI ?_))); (case side2 => exact HC0_8.out); (case side3 => repeat (first | exact (QJ HR1_8.out HB.out) | (with_reducible refine QG ?_ _) | (with_reducible refine QH ?_ _) | (with_reducible refine QI ?_))); (case side4 => exact HC1_8.out); rintro e w' ⟨rfl,⟨nd,rfl⟩⟩; refine ⟨_,rfl,?_⟩) | ((with_reducible refine gate_callee (f := 24) rfl ?_); refine goesL_ (some 21) rfl rfl Try.func24 (by kernel_rfl) rfl #[.slice A0_9 l0_9.length c0_9,.slice A1_9 l1_9.length c1_9] rfl (by (try simp only [List.map_toArray,List.map_cons,List.map_nil]); first | done | rfl | (simp only [List.length_drop,List.length_take]; rfl)) ?_; (with_reducible refine (laws_eqIntS.calls k _ _ l0_9 _ _ l1_9 _ _ ?side1 ?side2 ?side3 ?side4 A7.out).mono ?_); (case side1 => repeat (first | exact (QJ HR0_9.out (by repeat (first | (with_reducible first | exact HB.out | apply QF | apply QD | apply QE | refine QK ?_ GE515.out | refine QK ?_ GE516.out) | exact HB.out))) | (with_reducible refine QG ?_ _) | (with_reducible refine QH ?_ _) | (with_reducible refine QI ?_))); (case side2 => exact HC0_9.out); (case side3 => repeat (first | exact (QJ HR1_9.out (by repeat (first | (with_reducible first | exact HB.out | apply QF | apply QD | apply QE | refine QK ?_ GE515.out | refine QK ?_ GE516.out) | exact HB.out))) | (with_reducible refine QG ?_ _) | (with_reducible refine QH ?_ _) | (with_reducible refine QI ?_))); (case side4 => exact HC1_9.out); rintro e w' ⟨rfl,⟨nd,rfl⟩⟩; refine ⟨_,rfl,?_⟩) | ((with_reducible refine gate_callee (f := 24) rfl ?_); refine goesL_ (some 27) rfl rfl Try.func24 (by kernel_rfl) rfl #[.slice A0_10 l0_10.length c0_10,.slice A1_10 l1_10.length c1_10] rfl (by (try simp only [List.map_toArray,List.map_cons,List.map_nil]); first | done | rfl | (simp only [List.length_drop,List.length_take]; rfl)) ?_; (with_reducible refine (laws_eqIntS.calls k _ _ l0_10 _ _ l1_10 _ _ ?side1 ?side2 ?side3 ?side4 A9.out).mono ?_); (case side1 => repeat (first | exact (QJ HR0_10.out (by repeat (first | (with_reducible first | exact HB.out | apply QF | apply QD | apply QE | refine QK ?_ GE515.out | refine QK ?_ GE516.out) | exact HB.out))) | (with_reducible refine QG ?_ _) | (with_reducible refine QH ?_ _) | (with_reducible refine QI ?_))); (case side2 => exact HC0_10.out); (case side3 => repeat (first | exact (QJ HR1_10.out (by repeat (first | (with_reducible first | exact HB.out | apply QF | apply QD | apply QE | refine QK ?_ GE515.out | refine QK ?_ GE516.out) | exact HB.out))) | (with_reducible refine QG ?_ _) | (with_reducible refine QH ?_ _) | (with_reducible refine QI ?_))); (case side4 => exact HC1_10.out); rintro e w' ⟨rfl,⟨nd,rfl⟩⟩; refine ⟨_,rfl,?_⟩))
  go_ret
  exact ⟨by first | rfl | (simp [errW_none,errW_some] <;> rfl) | (simp [*,errW_none,errW_some] <;> rfl),by repeat (first | (with_reducible first | exact HB.out | apply QF | apply QD | apply QE | refine QK ?_ GE515.out | refine QK ?_ GE516.out) | exact HB.out)⟩

end Go.Proofs.Ytdfmobcocaijpaa.QFnExactChoiceOf
