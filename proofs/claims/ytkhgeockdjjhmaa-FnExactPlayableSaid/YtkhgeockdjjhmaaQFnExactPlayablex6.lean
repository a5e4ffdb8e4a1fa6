/- What a call of each Go function that FnExactPlayable reaches comes to, as a Lean function: texts of the kit's print, turned by wip/remake.py. No condition beyond what each names. -/
import Derived.Test.YtkhgeockdjjhmaaQFnExactPlayablex5
namespace Go.Proofs.Ytkhgeockdjjhmaa.QFnExactPlayable
open Go.RowKit Go.Proofs.YtkhgeockdjjhmaaW.PrintWords Go.Proofs.YtkhgeockdjjhmaaW.PrintLast Go.Proofs.YtkhgeockdjjhmaaW.PrintMore
open Go.Proofs.YtkhgeockdjjhmaaW.PrintWords renaming blk_frozen → QB, pw_below_drewN → QC, blk_cell → QD, below_drew1 → QE, below_alloc → QF, below_set → QK, gate_callee → QO
open Go.Proofs.YtkhgeockdjjhmaaW.PrintLast renaming any_of → QG, i64_w → QH, i32_w → QI, pure_ → QJ
open Go.Proofs.YtkhgeockdjjhmaaW.PrintWords.Kd renaming C_below → QL, C_alloc → QM, C_drewN → QN
open List renaming setIfInBounds_toArray → QP, set_cons_zero → QR, set_cons_succ → QS
open Go.Proofs.YtkhgeockdjjhmaaW.PrintWords.Aside0 renaming mk → QT
open Option renaming bind_eq_some_iff → QU
open Bool renaming true → Y1, false → Y0
attribute [local go_sem] max2_int min2_int max_two min_two max_three min_three max_four min_four   -- for this text's walks alone
set_option linter.unusedVariables false
set_option linter.unusedSimpArgs false

/-! ### impl_Winner: function 54 -/
def impl_Winner.l0 : Nat → List (List Int) → Int → Int → Option (Int)
 | 0, _, _, _ => none
 | k + 1, x9, x10, x11 => if x11 < x10 then (if 0 ≤ x11 then (if x11 < (x9.length : Int) then (if ((rd_L1 x9 x11).length : Int) = 0 then (some x11) else (impl_Winner.l0 k x9 x10 (wrap64 (x11 + 1)))) else (none)) else (none)) else (some (-1))
def impl_Winner.f (k : Nat) (a0_0 : Int) (a0_1 : Int) (a0_2 : Bool) (a0_3 : Bool) (l0_4 : List Int) (l0_5 : List Int) (a0_6 : Int) (a0_7 : Int) (l0_8 : List (List Int)) (l0_9 : List Int) (l0_10 : List Int) (a0_11 : Int) (a0_12 : Int) (a0_13 : Int) : Option (Int) := (impl_IsGame.f k a0_0 a0_1 a0_2 a0_3 l0_4 l0_5 a0_6 a0_7 l0_8 l0_9 l0_10 a0_11 a0_12 a0_13).bind fun t377 => (if t377 = true then (impl_Winner.l0 k l0_8 (l0_8.length : Int) 0) else (some (-1)))
theorem impl_Winner.mono_l : ∀ k, (∀ y0 y1 y2, LeO (impl_Winner.l0 k y0 y1 y2) (impl_Winner.l0 (k + 1) y0 y1 y2))
 | 0 => fun _ _ _ r h => by simp [impl_Winner.l0] at h
 | k + 1 => by
  have ih0 := impl_Winner.mono_l k
  ·intro y0 y1 y2
   unfold impl_Winner.l0
   repeat' first
   | (with_reducible exact ih0 _ _ _)
   | (with_reducible exact impl_IsGame.mono _ _ _ _ _ _ _ _ _ _ _ _ _ _ _)
   | (with_reducible exact LeO.refl _)
   | (with_reducible exact LeO.none _)
   | (with_reducible refine LeO.ite ?_ ?_)
   | (with_reducible refine LeO.bind ?_ (fun _ => ?_))
   | exact ih0 _ _ _
   | exact impl_IsGame.mono _ _ _ _ _ _ _ _ _ _ _ _ _ _ _
   | exact LeO.none _
   | refine LeO.ite ?_ ?_
   | refine LeO.bind ?_ (fun _ => ?_)
theorem impl_Winner.mono : ∀ a0 a1 a2 a3 a4 a5 a6 a7 a8 a9 a10 a11 a12 a13 k, LeO (impl_Winner.f k a0 a1 a2 a3 a4 a5 a6 a7 a8 a9 a10 a11 a12 a13) (impl_Winner.f (k + 1) a0 a1 a2 a3 a4 a5 a6 a7 a8 a9 a10 a11 a12 a13) := by
 intro a0 a1 a2 a3 a4 a5 a6 a7 a8 a9 a10 a11 a12 a13 k
 have ih0 := impl_Winner.mono_l k
 unfold impl_Winner.f
 repeat' first
   | (with_reducible exact ih0 _ _ _)
   | (with_reducible exact impl_IsGame.mono _ _ _ _ _ _ _ _ _ _ _ _ _ _ _)
   | (with_reducible exact LeO.refl _)
   | (with_reducible exact LeO.none _)
   | (with_reducible refine LeO.ite ?_ ?_)
   | (with_reducible refine LeO.bind ?_ (fun _ => ?_))
   | exact ih0 _ _ _
   | exact impl_IsGame.mono _ _ _ _ _ _ _ _ _ _ _ _ _ _ _
   | exact LeO.none _
   | refine LeO.ite ?_ ?_
   | refine LeO.bind ?_ (fun _ => ?_)
set_option maxHeartbeats 8000000 in
set_option maxRecDepth 100000 in
theorem impl_Winner.calls (k : Nat) (a0_0 : Int) (a0_1 : Int) (a0_2 : Bool) (a0_3 : Bool) (A0_4 : Option Addr) (c0_4 : Nat) (l0_4 : List Int) (A0_5 : Option Addr) (c0_5 : Nat) (l0_5 : List Int) (a0_6 : Int) (a0_7 : Int) (A0_8 : Option Addr) (c0_8 : Nat) (l0_8 : List (List Int)) (A0_9 : Option Addr) (c0_9 : Nat) (l0_9 : List Int) (A0_10 : Option Addr) (c0_10 : Nat) (l0_10 : List Int) (a0_11 : Int) (a0_12 : Int) (a0_13 : Int) (r : Int) (w : World) (hr0_4 : Kd.C (Kd.int .i64) w A0_4 l0_4.length l0_4) (hc0_4 : l0_4.length ≤ c0_4) (hr0_5 : Kd.C (Kd.int .i64) w A0_5 l0_5.length l0_5) (hc0_5 : l0_5.length ≤ c0_5) (hr0_8 : Kd.C (Kd.slice 3 (Kd.int .i64)) w A0_8 l0_8.length l0_8) (hc0_8 : l0_8.length ≤ c0_8) (hr0_9 : Kd.C (Kd.int .i64) w A0_9 l0_9.length l0_9) (hc0_9 : l0_9.length ≤ c0_9) (hr0_10 : Kd.C (Kd.int .i64) w A0_10 l0_10.length l0_10) (hc0_10 : l0_10.length ≤ c0_10) (h : impl_Winner.f k a0_0 a0_1 a0_2 a0_3 l0_4 l0_5 a0_6 a0_7 l0_8 l0_9 l0_10 a0_11 a0_12 a0_13 = some r) :
  Calls Try.prog 54 #[.agg #[.int .i64 a0_0, .int .i64 a0_1, .bool a0_2, .bool a0_3, .slice A0_4 l0_4.length c0_4, .slice A0_5 l0_5.length c0_5, .int .i64 a0_6, .int .i64 a0_7, .slice A0_8 l0_8.length c0_8, .slice A0_9 l0_9.length c0_9, .slice A0_10 l0_10.length c0_10, .int .i64 a0_11, .int .i64 a0_12, .int .i64 a0_13]] w fun e w' => e = .returned (.int .i64 r) ∧ Below w.heap.size w w' := by
 have hu59 := Try.underlying59
 have HR0_4 := QT hr0_4
 have HC0_4 := QT hc0_4
 clear hr0_4 hc0_4
 have HR0_5 := QT hr0_5
 have HC0_5 := QT hc0_5
 clear hr0_5 hc0_5
 have HR0_8 := QT hr0_8
 have HC0_8 := QT hc0_8
 clear hr0_8 hc0_8
 have HR0_9 := QT hr0_9
 have HC0_9 := QT hc0_9
 clear hr0_9 hc0_9
 have HR0_10 := QT hr0_10
 have HC0_10 := QT hc0_10
 clear hr0_10 hc0_10
 have HB := QT (Below.refl w.heap.size w)
 have H : ((impl_IsGame.f k a0_0 a0_1 a0_2 a0_3 l0_4 l0_5 a0_6 a0_7 l0_8 l0_9 l0_10 a0_11 a0_12 a0_13).bind fun t377 => (if t377 = true then (impl_Winner.l0 k l0_8 (l0_8.length : Int) 0) else (some (-1)))) = some r := h
 clear h
 replace H := QU.mp H
 obtain ⟨t377, A20, H⟩ := H
 have A2 := QT A20
 clear A20
 by_cases c3 : t377 = true
 ·subst c3
  rw [if_pos rfl] at H
  have H' := QT H
  clear H
  go_enter Try.func54, Try.ntmps54
  go_wp2_with (first | ((with_reducible refine gate_dst (N := 1) rfl ?_); refine box_event ?hg (N := 1) ?hd (cs := #[.int .i64 a0_0, .int .i64 a0_1, .bool a0_2, .bool a0_3, .slice A0_4 l0_4.length c0_4, .slice A0_5 l0_5.length c0_5, .int .i64 a0_6, .int .i64 a0_7, .slice A0_8 l0_8.length c0_8, .slice A0_9 l0_9.length c0_9, .slice A0_10 l0_10.length c0_10, .int .i64 a0_11, .int .i64 a0_12, .int .i64 a0_13]) (t := 59) ?hr ?_; (case hd => rfl); (case hg => rfl); (case hr => first | (go_simp; done) | (go_simp; rfl)); intro gb376 hg w4 hbox hb; have n0_ := QT (below_step (by repeat (first | (with_reducible first | exact HB.out | apply QF | apply QC | apply QE) | exact HB.out)) hb); have n1_ := QT (hbox); have n2_ := QT ((by rw [hg]; exact (below_size (by repeat (first | (with_reducible first | exact HB.out | apply QF | apply QC | apply QE) | exact HB.out))) : w.heap.size ≤ gb376)); have n3_ := QT ((by rw [hg]; exact (below_size (by repeat (first | (with_reducible first | exact HB.out | apply QF | apply QC | apply QE) | exact HB.out))) : w.heap.size ≤ gb376)); clear HB; have HB := n0_; have BK376 := n1_; have GW376 := n2_; have GE376 := n3_; clear n0_ n1_ n2_ n3_; clear hb hbox hg; have hcz5_0 : w4.cell? ⟨gb376, 0, none⟩ = some (.int .i64 a0_0) := (QD BK376.out 0).trans rfl; have hcz5_1 : w4.cell? ⟨gb376, 1, none⟩ = some (.int .i64 a0_1) := (QD BK376.out 1).trans rfl; have hcz5_2 : w4.cell? ⟨gb376, 2, none⟩ = some (.bool a0_2) := (QD BK376.out 2).trans rfl; have hcz5_3 : w4.cell? ⟨gb376, 3, none⟩ = some (.bool a0_3) := (QD BK376.out 3).trans rfl; have hcz5_4 : w4.cell? ⟨gb376, 4, none⟩ = some (.slice A0_4 l0_4.length c0_4) := (QD BK376.out 4).trans rfl; have hcz5_5 : w4.cell? ⟨gb376, 5, none⟩ = some (.slice A0_5 l0_5.length c0_5) := (QD BK376.out 5).trans rfl; have hcz5_6 : w4.cell? ⟨gb376, 6, none⟩ = some (.int .i64 a0_6) := (QD BK376.out 6).trans rfl; have hcz5_7 : w4.cell? ⟨gb376, 7, none⟩ = some (.int .i64 a0_7) := (QD BK376.out 7).trans rfl; have hcz5_8 : w4.cell? ⟨gb376, 8, none⟩ = some (.slice A0_8 l0_8.length c0_8) := (QD BK376.out 8).trans rfl; have hcz5_9 : w4.cell? ⟨gb376, 9, none⟩ = some (.slice A0_9 l0_9.length c0_9) := (QD BK376.out 9).trans rfl; have hcz5_10 : w4.cell? ⟨gb376, 10, none⟩ = some (.slice A0_10 l0_10.length c0_10) := (QD BK376.out 10).trans rfl; have hcz5_11 : w4.cell? ⟨gb376, 11, none⟩ = some (.int .i64 a0_11) := (QD BK376.out 11).trans rfl; have hcz5_12 : w4.cell? ⟨gb376, 12, none⟩ = some (.int .i64 a0_12) := (QD BK376.out 12).trans rfl; have hcz5_13 : w4.cell? ⟨gb376, 13, none⟩ = some (.int .i64 a0_13) := (QD BK376.out 13).trans rfl; have hfz5_0 := QB BK376.out 0; have hfz5_1 := QB BK376.out 1; have hfz5_2 := QB BK376.out 2; have hfz5_3 := QB BK376.out 3; have hfz5_4 := QB BK376.out 4; have hfz5_5 := QB BK376.out 5; have hfz5_6 := QB BK376.out 6; have hfz5_7 := QB BK376.out 7; have hfz5_8 := QB BK376.out 8; have hfz5_9 := QB BK376.out 9; have hfz5_10 := QB BK376.out 10; have hfz5_11 := QB BK376.out 11; have hfz5_12 := QB BK376.out 12; have hfz5_13 := QB BK376.out 13) | ((with_reducible refine QO (f := 46) rfl ?_); refine goesL_ (some 6) rfl rfl Try.func46 (by kernel_rfl) rfl #[.agg #[.int .i64 a0_0, .int .i64 a0_1, .bool a0_2, .bool a0_3, .slice A0_4 l0_4.length c0_4, .slice A0_5 l0_5.length c0_5, .int .i64 a0_6, .int .i64 a0_7, .slice A0_8 l0_8.length c0_8, .slice A0_9 l0_9.length c0_9, .slice A0_10 l0_10.length c0_10, .int .i64 a0_11, .int .i64 a0_12, .int .i64 a0_13]] rfl (by (try simp only [List.map_toArray, List.map_cons, List.map_nil]); first | done | rfl | (simp only [List.length_drop, List.length_take]; rfl)) ?_; (with_reducible refine (impl_IsGame.calls k a0_0 a0_1 a0_2 a0_3 _ _ l0_4 _ _ l0_5 a0_6 a0_7 _ _ l0_8 (fun k_ => k_ < w.heap.size) _ _ l0_9 (fun k_ => k_ < w.heap.size) _ _ l0_10 a0_11 a0_12 a0_13 true _ ?side1 ?side2 ?side3 ?side4 ?side5 ?side6 ?side7 ?side8 A2.out).mono ?_); (case side1 => repeat (first | exact (QL HR0_4.out HB.out) | (with_reducible refine QM ?_ _) | (with_reducible refine QN ?_ _) | (with_reducible refine Kd.C_drew ?_))); (case side2 => exact HC0_4.out); (case side3 => repeat (first | exact (QL HR0_5.out HB.out) | (with_reducible refine QM ?_ _) | (with_reducible refine QN ?_ _) | (with_reducible refine Kd.C_drew ?_))); (case side4 => exact HC0_5.out); (case side5 => repeat (first | exact (QL HR0_8.out HB.out) | (with_reducible refine QM ?_ _) | (with_reducible refine QN ?_ _) | (with_reducible refine Kd.C_drew ?_))); (case side6 => exact HC0_8.out); (case side7 => exact Kd.V_mk HC0_9.out (Kd.F_below (Kd.C_F (Kd.heap_int .i64) HR0_9.out) (by repeat (first | (with_reducible first | exact HB.out | apply QF | apply QC | apply QE | refine QK ?_ GE376.out) | exact HB.out)))); (case side8 => exact Kd.V_mk HC0_10.out (Kd.F_below (Kd.C_F (Kd.heap_int .i64) HR0_10.out) (by repeat (first | (with_reducible first | exact HB.out | apply QF | apply QC | apply QE | refine QK ?_ GE376.out) | exact HB.out)))); rintro e w6 ⟨rfl, hb⟩; refine ⟨_, rfl, ?_⟩; have n0_ := QT (blk_below (g := gb376) (o := _) (by (with_reducible repeat (first | refine blk_drewN ?_ _ | refine blk_drew ?_ | refine blk_alloc ?_ _)); exact BK376.out) hb); have n1_ := QT (below_step (by repeat (first | (with_reducible first | exact HB.out | apply QF | apply QC | apply QE | refine QK ?_ GE376.out) | exact HB.out)) hb); clear BK376; clear HB; have BK376 := n0_; have HB := n1_; clear n0_ n1_; (try clear hb); (try clear hb2); (try clear hk); (try clear hi); have hcz7_0 : w6.cell? ⟨gb376, 0, none⟩ = some (.int .i64 a0_0) := (QD BK376.out 0).trans rfl; have hcz7_1 : w6.cell? ⟨gb376, 1, none⟩ = some (.int .i64 a0_1) := (QD BK376.out 1).trans rfl; have hcz7_2 : w6.cell? ⟨gb376, 2, none⟩ = some (.bool a0_2) := (QD BK376.out 2).trans rfl; have hcz7_3 : w6.cell? ⟨gb376, 3, none⟩ = some (.bool a0_3) := (QD BK376.out 3).trans rfl; have hcz7_4 : w6.cell? ⟨gb376, 4, none⟩ = some (.slice A0_4 l0_4.length c0_4) := (QD BK376.out 4).trans rfl; have hcz7_5 : w6.cell? ⟨gb376, 5, none⟩ = some (.slice A0_5 l0_5.length c0_5) := (QD BK376.out 5).trans rfl; have hcz7_6 : w6.cell? ⟨gb376, 6, none⟩ = some (.int .i64 a0_6) := (QD BK376.out 6).trans rfl; have hcz7_7 : w6.cell? ⟨gb376, 7, none⟩ = some (.int .i64 a0_7) := (QD BK376.out 7).trans rfl; have hcz7_8 : w6.cell? ⟨gb376, 8, none⟩ = some (.slice A0_8 l0_8.length c0_8) := (QD BK376.out 8).trans rfl; have hcz7_9 : w6.cell? ⟨gb376, 9, none⟩ = some (.slice A0_9 l0_9.length c0_9) := (QD BK376.out 9).trans rfl; have hcz7_10 : w6.cell? ⟨gb376, 10, none⟩ = some (.slice A0_10 l0_10.length c0_10) := (QD BK376.out 10).trans rfl; have hcz7_11 : w6.cell? ⟨gb376, 11, none⟩ = some (.int .i64 a0_11) := (QD BK376.out 11).trans rfl; have hcz7_12 : w6.cell? ⟨gb376, 12, none⟩ = some (.int .i64 a0_12) := (QD BK376.out 12).trans rfl; have hcz7_13 : w6.cell? ⟨gb376, 13, none⟩ = some (.int .i64 a0_13) := (QD BK376.out 13).trans rfl; have hfz7_0 := QB BK376.out 0; have hfz7_1 := QB BK376.out 1; have hfz7_2 := QB BK376.out 2; have hfz7_3 := QB BK376.out 3; have hfz7_4 := QB BK376.out 4; have hfz7_5 := QB BK376.out 5; have hfz7_6 := QB BK376.out 6; have hfz7_7 := QB BK376.out 7; have hfz7_8 := QB BK376.out 8; have hfz7_9 := QB BK376.out 9; have hfz7_10 := QB BK376.out 10; have hfz7_11 := QB BK376.out 11; have hfz7_12 := QB BK376.out 12; have hfz7_13 := QB BK376.out 13))
  go_loopg [11] k (fun kq v11 w' => ∃ (x11_1 : Int), v11 = .int .i64 x11_1 ∧ Aside0 (impl_Winner.l0 kq l0_8 (l0_8.length : Int) x11_1 = some r) ∧ Aside0 (kq ≤ k) ∧ Aside0 (w'.heap[gb376]? = some (.cells #[.int .i64 a0_0, .int .i64 a0_1, .bool a0_2, .bool a0_3, (.slice A0_4 l0_4.length c0_4), (.slice A0_5 l0_5.length c0_5), .int .i64 a0_6, .int .i64 a0_7, (.slice A0_8 l0_8.length c0_8), (.slice A0_9 l0_9.length c0_9), (.slice A0_10 l0_10.length c0_10), .int .i64 a0_11, .int .i64 a0_12, .int .i64 a0_13] 59 (0, 0))) ∧ Aside0 (Below w.heap.size w w'))
  case atStart => exact ⟨(0), (by first | rfl | (simp; done) | (simp [*]; done)), H', ⟨Nat.le_refl _⟩, ⟨by (with_reducible repeat (first | refine blk_drewN ?_ _ | refine blk_drew ?_ | refine blk_alloc ?_ _)); exact BK376.out⟩, ⟨by repeat (first | (with_reducible first | exact HB.out | apply QF | apply QC | apply QE | refine QK ?_ GE376.out) | exact HB.out)⟩⟩
  case round =>
   clear H'
   try clear p2
   try clear c3
   try clear c4
   try clear c5
   try clear hcz5_0
   try clear hcz5_1
   try clear hcz5_10
   try clear hcz5_11
   try clear hcz5_12
   try clear hcz5_13
   try clear hcz5_2
   try clear hcz5_3
   try clear hcz5_4
   try clear hcz5_5
   try clear hcz5_6
   try clear hcz5_7
   try clear hcz5_8
   try clear hcz5_9
   try clear hcz7_0
   try clear hcz7_1
   try clear hcz7_10
   try clear hcz7_11
   try clear hcz7_12
   try clear hcz7_13
   try clear hcz7_2
   try clear hcz7_3
   try clear hcz7_4
   try clear hcz7_5
   try clear hcz7_6
   try clear hcz7_7
   try clear hcz7_8
   try clear hcz7_9
   try clear hfz5_0
   try clear hfz5_1
   try clear hfz5_10
   try clear hfz5_11
   try clear hfz5_12
   try clear hfz5_13
   try clear hfz5_2
   try clear hfz5_3
   try clear hfz5_4
   try clear hfz5_5
   try clear hfz5_6
   try clear hfz5_7
   try clear hfz5_8
   try clear hfz5_9
   try clear hfz7_0
   try clear hfz7_1
   try clear hfz7_10
   try clear hfz7_11
   try clear hfz7_12
   try clear hfz7_13
   try clear hfz7_2
   try clear hfz7_3
   try clear hfz7_4
   try clear hfz7_5
   try clear hfz7_6
   try clear hfz7_7
   try clear hfz7_8
   try clear hfz7_9
   obtain ⟨x11_1, rfl, HA, HK1, BK376, HB⟩ := hrel
   cases gk with
   | zero => exact absurd HA.out (by simp [impl_Winner.l0])
   | succ k1 =>
    have H := HA.out
    clear HA
    simp only [impl_Winner.l0] at H
    by_cases c8 : x11_1 < (l0_8.length : Int)
    ·rw [if_pos c8] at H
     have c8b0 : decide (x11_1 < (l0_8.length : Int)) = true := decide_eq_true c8
     clear c8
     by_cases c9 : 0 ≤ x11_1
     ·rw [if_pos c9] at H
      have c9b0 : decide (0 ≤ x11_1) = true := decide_eq_true c9
      clear c9
      by_cases c10 : x11_1 < (l0_8.length : Int)
      ·rw [if_pos c10] at H
       have c10b0 : decide (x11_1 < (l0_8.length : Int)) = true := decide_eq_true c10
       clear c10
       by_cases c11 : ((rd_L1 l0_8 x11_1).length : Int) = 0
       ·rw [if_pos c11] at H
        have c11b0 : (((rd_L1 l0_8 x11_1).length : Int) == 0) = true := beq_iff_eq.mpr c11
        have c11b1 : (((rd_L1 l0_8 x11_1).length : Int) != 0) = false := bne_eq_false_iff_eq.mpr c11
        clear c11
        obtain rfl := Option.some.inj H
        have p378 : 0 ≤ (x11_1 : Int) := of_decide_eq_true (by first | (with_reducible assumption) | assumption)
        have q378 : x11_1 < (l0_8.length : Int) := of_decide_eq_true (by first | (with_reducible assumption) | assumption)
        obtain ⟨ad378, A378_0, c378_0, e378, hx378_0, hl378_0, hi378_0⟩ := at_L1 HR0_8.out x11_1 p378 q378
        cases e378
        replace hx378_0 := (HB.out.cell (World.block_lt_of_cell? w _ hx378_0)).trans hx378_0
        have HR378_0 := QT hi378_0
        have HC378_0 := QT hl378_0
        clear hi378_0 hl378_0
        replace p378 := eq_true p378
        replace q378 := eq_true q378
        go_wp2
        go_ret
        exact ⟨by first | rfl | (simp [errW_none, errW_some] <;> rfl) | (simp [*, errW_none, errW_some] <;> rfl), by repeat (first | (with_reducible first | exact HB.out | apply QF | apply QC | apply QE | refine QK ?_ GE376.out) | exact HB.out)⟩
       ·rw [if_neg c11] at H
        have c11b0 : (((rd_L1 l0_8 x11_1).length : Int) == 0) = false := beq_eq_false_iff_ne.mpr c11
        have c11b1 : (((rd_L1 l0_8 x11_1).length : Int) != 0) = true := bne_iff_ne.mpr c11
        have c11b2 : ¬ ((rd_L1 l0_8 x11_1) = []) := fun h_ => c11 (by rw [h_]; rfl)
        have H' := QT H
        clear H
        have p378 : 0 ≤ (x11_1 : Int) := of_decide_eq_true (by first | (with_reducible assumption) | assumption)
        have q378 : x11_1 < (l0_8.length : Int) := of_decide_eq_true (by first | (with_reducible assumption) | assumption)
        obtain ⟨ad378, A378_0, c378_0, e378, hx378_0, hl378_0, hi378_0⟩ := at_L1 HR0_8.out x11_1 p378 q378
        cases e378
        replace hx378_0 := (HB.out.cell (World.block_lt_of_cell? w _ hx378_0)).trans hx378_0
        have HR378_0 := QT hi378_0
        have HC378_0 := QT hl378_0
        clear hi378_0 hl378_0
        replace p378 := eq_true p378
        replace q378 := eq_true q378
        go_wp2
        go_roundg k1
        case measure => have := HK1.out; omega
        case rel => exact ⟨(wrap64 (x11_1 + 1)), (by first | rfl | (simp; done) | (simp [*]; done)), H', ⟨by have := HK1.out; omega⟩, ⟨by (with_reducible repeat (first | refine blk_drewN ?_ _ | refine blk_drew ?_ | refine blk_alloc ?_ _)); exact BK376.out⟩, ⟨by repeat (first | (with_reducible first | exact HB.out | apply QF | apply QC | apply QE | refine QK ?_ GE376.out) | exact HB.out)⟩⟩
      ·rw [if_neg c10] at H
       exact absurd H (by simp)
     ·rw [if_neg c9] at H
      exact absurd H (by simp)
    ·rw [if_neg c8] at H
     have c8b0 : decide (x11_1 < (l0_8.length : Int)) = false := decide_eq_false c8
     clear c8
     obtain rfl := Option.some.inj H
     go_wp2
     go_ret
     exact ⟨by first | rfl | (simp [errW_none, errW_some] <;> rfl) | (simp [*, errW_none, errW_some] <;> rfl), by repeat (first | (with_reducible first | exact HB.out | apply QF | apply QC | apply QE | refine QK ?_ GE376.out) | exact HB.out)⟩
 ·replace c3 := Bool.eq_false_iff.mpr c3
  subst c3
  rw [if_neg (show ¬ (false = true) by decide)] at H
  obtain rfl := Option.some.inj H
  go_enter Try.func54, Try.ntmps54
  go_wp2_with (first | ((with_reducible refine gate_dst (N := 1) rfl ?_); refine box_event ?hg (N := 1) ?hd (cs := #[.int .i64 a0_0, .int .i64 a0_1, .bool a0_2, .bool a0_3, .slice A0_4 l0_4.length c0_4, .slice A0_5 l0_5.length c0_5, .int .i64 a0_6, .int .i64 a0_7, .slice A0_8 l0_8.length c0_8, .slice A0_9 l0_9.length c0_9, .slice A0_10 l0_10.length c0_10, .int .i64 a0_11, .int .i64 a0_12, .int .i64 a0_13]) (t := 59) ?hr ?_; (case hd => rfl); (case hg => rfl); (case hr => first | (go_simp; done) | (go_simp; rfl)); intro gb376 hg w12 hbox hb; have n0_ := QT (below_step (by repeat (first | (with_reducible first | exact HB.out | apply QF | apply QC | apply QE) | exact HB.out)) hb); have n1_ := QT (hbox); have n2_ := QT ((by rw [hg]; exact (below_size (by repeat (first | (with_reducible first | exact HB.out | apply QF | apply QC | apply QE) | exact HB.out))) : w.heap.size ≤ gb376)); have n3_ := QT ((by rw [hg]; exact (below_size (by repeat (first | (with_reducible first | exact HB.out | apply QF | apply QC | apply QE) | exact HB.out))) : w.heap.size ≤ gb376)); clear HB; have HB := n0_; have BK376 := n1_; have GW376 := n2_; have GE376 := n3_; clear n0_ n1_ n2_ n3_; clear hb hbox hg; have hcz13_0 : w12.cell? ⟨gb376, 0, none⟩ = some (.int .i64 a0_0) := (QD BK376.out 0).trans rfl; have hcz13_1 : w12.cell? ⟨gb376, 1, none⟩ = some (.int .i64 a0_1) := (QD BK376.out 1).trans rfl; have hcz13_2 : w12.cell? ⟨gb376, 2, none⟩ = some (.bool a0_2) := (QD BK376.out 2).trans rfl; have hcz13_3 : w12.cell? ⟨gb376, 3, none⟩ = some (.bool a0_3) := (QD BK376.out 3).trans rfl; have hcz13_4 : w12.cell? ⟨gb376, 4, none⟩ = some (.slice A0_4 l0_4.length c0_4) := (QD BK376.out 4).trans rfl; have hcz13_5 : w12.cell? ⟨gb376, 5, none⟩ = some (.slice A0_5 l0_5.length c0_5) := (QD BK376.out 5).trans rfl; have hcz13_6 : w12.cell? ⟨gb376, 6, none⟩ = some (.int .i64 a0_6) := (QD BK376.out 6).trans rfl; have hcz13_7 : w12.cell? ⟨gb376, 7, none⟩ = some (.int .i64 a0_7) := (QD BK376.out 7).trans rfl; have hcz13_8 : w12.cell? ⟨gb376, 8, none⟩ = some (.slice A0_8 l0_8.length c0_8) := (QD BK376.out 8).trans rfl; have hcz13_9 : w12.cell? ⟨gb376, 9, none⟩ = some (.slice A0_9 l0_9.length c0_9) := (QD BK376.out 9).trans rfl; have hcz13_10 : w12.cell? ⟨gb376, 10, none⟩ = some (.slice A0_10 l0_10.length c0_10) := (QD BK376.out 10).trans rfl; have hcz13_11 : w12.cell? ⟨gb376, 11, none⟩ = some (.int .i64 a0_11) := (QD BK376.out 11).trans rfl; have hcz13_12 : w12.cell? ⟨gb376, 12, none⟩ = some (.int .i64 a0_12) := (QD BK376.out 12).trans rfl; have hcz13_13 : w12.cell? ⟨gb376, 13, none⟩ = some (.int .i64 a0_13) := (QD BK376.out 13).trans rfl; have hfz13_0 := QB BK376.out 0; have hfz13_1 := QB BK376.out 1; have hfz13_2 := QB BK376.out 2; have hfz13_3 := QB BK376.out 3; have hfz13_4 := QB BK376.out 4; have hfz13_5 := QB BK376.out 5; have hfz13_6 := QB BK376.out 6; have hfz13_7 := QB BK376.out 7; have hfz13_8 := QB BK376.out 8; have hfz13_9 := QB BK376.out 9; have hfz13_10 := QB BK376.out 10; have hfz13_11 := QB BK376.out 11; have hfz13_12 := QB BK376.out 12; have hfz13_13 := QB BK376.out 13) | ((with_reducible refine QO (f := 46) rfl ?_); refine goesL_ (some 6) rfl rfl Try.func46 (by kernel_rfl) rfl #[.agg #[.int .i64 a0_0, .int .i64 a0_1, .bool a0_2, .bool a0_3, .slice A0_4 l0_4.length c0_4, .slice A0_5 l0_5.length c0_5, .int .i64 a0_6, .int .i64 a0_7, .slice A0_8 l0_8.length c0_8, .slice A0_9 l0_9.length c0_9, .slice A0_10 l0_10.length c0_10, .int .i64 a0_11, .int .i64 a0_12, .int .i64 a0_13]] rfl (by (try simp only [List.map_toArray, List.map_cons, List.map_nil]); first | done | rfl | (simp only [List.length_drop, List.length_take]; rfl)) ?_; (with_reducible refine (impl_IsGame.calls k a0_0 a0_1 a0_2 a0_3 _ _ l0_4 _ _ l0_5 a0_6 a0_7 _ _ l0_8 (fun k_ => k_ < w.heap.size) _ _ l0_9 (fun k_ => k_ < w.heap.size) _ _ l0_10 a0_11 a0_12 a0_13 false _ ?side1 ?side2 ?side3 ?side4 ?side5 ?side6 ?side7 ?side8 A2.out).mono ?_); (case side1 => repeat (first | exact (QL HR0_4.out HB.out) | (with_reducible refine QM ?_ _) | (with_reducible refine QN ?_ _) | (with_reducible refine Kd.C_drew ?_))); (case side2 => exact HC0_4.out); (case side3 => repeat (first | exact (QL HR0_5.out HB.out) | (with_reducible refine QM ?_ _) | (with_reducible refine QN ?_ _) | (with_reducible refine Kd.C_drew ?_))); (case side4 => exact HC0_5.out); (case side5 => repeat (first | exact (QL HR0_8.out HB.out) | (with_reducible refine QM ?_ _) | (with_reducible refine QN ?_ _) | (with_reducible refine Kd.C_drew ?_))); (case side6 => exact HC0_8.out); (case side7 => exact Kd.V_mk HC0_9.out (Kd.F_below (Kd.C_F (Kd.heap_int .i64) HR0_9.out) (by repeat (first | (with_reducible first | exact HB.out | apply QF | apply QC | apply QE | refine QK ?_ GE376.out) | exact HB.out)))); (case side8 => exact Kd.V_mk HC0_10.out (Kd.F_below (Kd.C_F (Kd.heap_int .i64) HR0_10.out) (by repeat (first | (with_reducible first | exact HB.out | apply QF | apply QC | apply QE | refine QK ?_ GE376.out) | exact HB.out)))); rintro e w14 ⟨rfl, hb⟩; refine ⟨_, rfl, ?_⟩; have n0_ := QT (blk_below (g := gb376) (o := _) (by (with_reducible repeat (first | refine blk_drewN ?_ _ | refine blk_drew ?_ | refine blk_alloc ?_ _)); exact BK376.out) hb); have n1_ := QT (below_step (by repeat (first | (with_reducible first | exact HB.out | apply QF | apply QC | apply QE | refine QK ?_ GE376.out) | exact HB.out)) hb); clear BK376; clear HB; have BK376 := n0_; have HB := n1_; clear n0_ n1_; (try clear hb); (try clear hb2); (try clear hk); (try clear hi)))
  go_ret
  exact ⟨by first | rfl | (simp [errW_none, errW_some] <;> rfl) | (simp [*, errW_none, errW_some] <;> rfl), by repeat (first | (with_reducible first | exact HB.out | apply QF | apply QC | apply QE | refine QK ?_ GE376.out) | exact HB.out)⟩

/-! ### impl_IsEnded: function 56 -/
def impl_IsEnded.f (k : Nat) (a0_0 : Int) (a0_1 : Int) (a0_2 : Bool) (a0_3 : Bool) (l0_4 : List Int) (l0_5 : List Int) (a0_6 : Int) (a0_7 : Int) (l0_8 : List (List Int)) (l0_9 : List Int) (l0_10 : List Int) (a0_11 : Int) (a0_12 : Int) (a0_13 : Int) : Option (Bool) := (impl_IsGame.f k a0_0 a0_1 a0_2 a0_3 l0_4 l0_5 a0_6 a0_7 l0_8 l0_9 l0_10 a0_11 a0_12 a0_13).bind fun t380 => (if t380 = true then ((impl_Winner.f k a0_0 a0_1 a0_2 a0_3 l0_4 l0_5 a0_6 a0_7 l0_8 l0_9 l0_10 a0_11 a0_12 a0_13).bind fun t381 => (if t381 ≥ 0 then (some true) else (if a0_12 = a0_7 then (some true) else (some (decide (a0_13 ≥ a0_0)))))) else (some false))
theorem impl_IsEnded.mono : ∀ a0 a1 a2 a3 a4 a5 a6 a7 a8 a9 a10 a11 a12 a13 k, LeO (impl_IsEnded.f k a0 a1 a2 a3 a4 a5 a6 a7 a8 a9 a10 a11 a12 a13) (impl_IsEnded.f (k + 1) a0 a1 a2 a3 a4 a5 a6 a7 a8 a9 a10 a11 a12 a13) := by
 intro a0 a1 a2 a3 a4 a5 a6 a7 a8 a9 a10 a11 a12 a13 k
 unfold impl_IsEnded.f
 repeat' first
   | (with_reducible exact impl_IsGame.mono _ _ _ _ _ _ _ _ _ _ _ _ _ _ _)
   | (with_reducible exact impl_Winner.mono _ _ _ _ _ _ _ _ _ _ _ _ _ _ _)
   | (with_reducible exact LeO.refl _)
   | (with_reducible exact LeO.none _)
   | (with_reducible refine LeO.ite ?_ ?_)
   | (with_reducible refine LeO.bind ?_ (fun _ => ?_))
   | exact impl_IsGame.mono _ _ _ _ _ _ _ _ _ _ _ _ _ _ _
   | exact impl_Winner.mono _ _ _ _ _ _ _ _ _ _ _ _ _ _ _
   | exact LeO.none _
   | refine LeO.ite ?_ ?_
   | refine LeO.bind ?_ (fun _ => ?_)
set_option maxHeartbeats 8000000 in
set_option maxRecDepth 100000 in
theorem impl_IsEnded.calls (k : Nat) (a0_0 : Int) (a0_1 : Int) (a0_2 : Bool) (a0_3 : Bool) (A0_4 : Option Addr) (c0_4 : Nat) (l0_4 : List Int) (A0_5 : Option Addr) (c0_5 : Nat) (l0_5 : List Int) (a0_6 : Int) (a0_7 : Int) (A0_8 : Option Addr) (c0_8 : Nat) (l0_8 : List (List Int)) (A0_9 : Option Addr) (c0_9 : Nat) (l0_9 : List Int) (A0_10 : Option Addr) (c0_10 : Nat) (l0_10 : List Int) (a0_11 : Int) (a0_12 : Int) (a0_13 : Int) (r : Bool) (w : World) (hr0_4 : Kd.C (Kd.int .i64) w A0_4 l0_4.length l0_4) (hc0_4 : l0_4.length ≤ c0_4) (hr0_5 : Kd.C (Kd.int .i64) w A0_5 l0_5.length l0_5) (hc0_5 : l0_5.length ≤ c0_5) (hr0_8 : Kd.C (Kd.slice 3 (Kd.int .i64)) w A0_8 l0_8.length l0_8) (hc0_8 : l0_8.length ≤ c0_8) (hr0_9 : Kd.C (Kd.int .i64) w A0_9 l0_9.length l0_9) (hc0_9 : l0_9.length ≤ c0_9) (hr0_10 : Kd.C (Kd.int .i64) w A0_10 l0_10.length l0_10) (hc0_10 : l0_10.length ≤ c0_10) (h : impl_IsEnded.f k a0_0 a0_1 a0_2 a0_3 l0_4 l0_5 a0_6 a0_7 l0_8 l0_9 l0_10 a0_11 a0_12 a0_13 = some r) :
  Calls Try.prog 56 #[.agg #[.int .i64 a0_0, .int .i64 a0_1, .bool a0_2, .bool a0_3, .slice A0_4 l0_4.length c0_4, .slice A0_5 l0_5.length c0_5, .int .i64 a0_6, .int .i64 a0_7, .slice A0_8 l0_8.length c0_8, .slice A0_9 l0_9.length c0_9, .slice A0_10 l0_10.length c0_10, .int .i64 a0_11, .int .i64 a0_12, .int .i64 a0_13]] w fun e w' => e = .returned (.bool r) ∧ Below w.heap.size w w' := by
 have hu59 := Try.underlying59
 have HR0_4 := QT hr0_4
 have HC0_4 := QT hc0_4
 clear hr0_4 hc0_4
 have HR0_5 := QT hr0_5
 have HC0_5 := QT hc0_5
 clear hr0_5 hc0_5
 have HR0_8 := QT hr0_8
 have HC0_8 := QT hc0_8
 clear hr0_8 hc0_8
 have HR0_9 := QT hr0_9
 have HC0_9 := QT hc0_9
 clear hr0_9 hc0_9
 have HR0_10 := QT hr0_10
 have HC0_10 := QT hc0_10
 clear hr0_10 hc0_10
 have HB := QT (Below.refl w.heap.size w)
 have H : ((impl_IsGame.f k a0_0 a0_1 a0_2 a0_3 l0_4 l0_5 a0_6 a0_7 l0_8 l0_9 l0_10 a0_11 a0_12 a0_13).bind fun t380 => (if t380 = true then ((impl_Winner.f k a0_0 a0_1 a0_2 a0_3 l0_4 l0_5 a0_6 a0_7 l0_8 l0_9 l0_10 a0_11 a0_12 a0_13).bind fun t381 => (if t381 ≥ 0 then (some true) else (if a0_12 = a0_7 then (some true) else (some (decide (a0_13 ≥ a0_0)))))) else (some false))) = some r := h
 clear h
 replace H := QU.mp H
 obtain ⟨t380, A20, H⟩ := H
 have A2 := QT A20
 clear A20
 by_cases c3 : t380 = true
 rotate_left
 replace c3 := Bool.eq_false_iff.mpr c3
 subst c3
 rw [if_neg (show ¬ (false = true) by decide)] at H
 obtain rfl := Option.some.inj H
 rotate_right
 subst c3
 rw [if_pos rfl] at H
 replace H := QU.mp H
 obtain ⟨t381, A40, H⟩ := H
 have A4 := QT A40
 clear A40
 by_cases c5 : t381 ≥ 0
 rotate_left
 rw [if_neg c5] at H
 have c5b0 : decide (0 ≤ t381) = false := decide_eq_false c5
 clear c5
 by_cases c11 : a0_12 = a0_7
 rotate_left
 rw [if_neg c11] at H
 have c11b0 : (a0_12 == a0_7) = false := beq_eq_false_iff_ne.mpr c11
 have c11b1 : (a0_12 != a0_7) = true := bne_iff_ne.mpr c11
 obtain rfl := Option.some.inj H
 rotate_right
 rw [if_pos c11] at H
 have c11b0 : (a0_12 == a0_7) = true := beq_iff_eq.mpr c11
 have c11b1 : (a0_12 != a0_7) = false := bne_eq_false_iff_eq.mpr c11
 clear c11
 obtain rfl := Option.some.inj H
 rotate_right
 rw [if_pos c5] at H
 have c5b0 : decide (0 ≤ t381) = true := decide_eq_true c5
 clear c5
 obtain rfl := Option.some.inj H
 all_goals
  go_enter Try.func56, Try.ntmps56
  go_wp2_with (first | ((with_reducible refine gate_dst (N := 1) rfl ?_); refine box_event ?hg (N := 1) ?hd (cs := #[.int .i64 a0_0, .int .i64 a0_1, .bool a0_2, .bool a0_3, .slice A0_4 l0_4.length c0_4, .slice A0_5 l0_5.length c0_5, .int .i64 a0_6, .int .i64 a0_7, .slice A0_8 l0_8.length c0_8, .slice A0_9 l0_9.length c0_9, .slice A0_10 l0_10.length c0_10, .int .i64 a0_11, .int .i64 a0_12, .int .i64 a0_13]) (t := 59) ?hr ?_; (case hd => rfl); (case hg => rfl); (case hr => first | (go_simp; done) | (go_simp; rfl)); intro gb379 hg w12 hbox hb; have n0_ := QT (below_step (by repeat (first | (with_reducible first | exact HB.out | apply QF | apply QC | apply QE) | exact HB.out)) hb); have n1_ := QT (hbox); have n2_ := QT ((by rw [hg]; exact (below_size (by repeat (first | (with_reducible first | exact HB.out | apply QF | apply QC | apply QE) | exact HB.out))) : w.heap.size ≤ gb379)); have n3_ := QT ((by rw [hg]; exact (below_size (by repeat (first | (with_reducible first | exact HB.out | apply QF | apply QC | apply QE) | exact HB.out))) : w.heap.size ≤ gb379)); clear HB; have HB := n0_; have BK379 := n1_; have GW379 := n2_; have GE379 := n3_; clear n0_ n1_ n2_ n3_; clear hb hbox hg; have hcz13_0 : w12.cell? ⟨gb379, 0, none⟩ = some (.int .i64 a0_0) := (QD BK379.out 0).trans rfl; have hcz13_1 : w12.cell? ⟨gb379, 1, none⟩ = some (.int .i64 a0_1) := (QD BK379.out 1).trans rfl; have hcz13_2 : w12.cell? ⟨gb379, 2, none⟩ = some (.bool a0_2) := (QD BK379.out 2).trans rfl; have hcz13_3 : w12.cell? ⟨gb379, 3, none⟩ = some (.bool a0_3) := (QD BK379.out 3).trans rfl; have hcz13_4 : w12.cell? ⟨gb379, 4, none⟩ = some (.slice A0_4 l0_4.length c0_4) := (QD BK379.out 4).trans rfl; have hcz13_5 : w12.cell? ⟨gb379, 5, none⟩ = some (.slice A0_5 l0_5.length c0_5) := (QD BK379.out 5).trans rfl; have hcz13_6 : w12.cell? ⟨gb379, 6, none⟩ = some (.int .i64 a0_6) := (QD BK379.out 6).trans rfl; have hcz13_7 : w12.cell? ⟨gb379, 7, none⟩ = some (.int .i64 a0_7) := (QD BK379.out 7).trans rfl; have hcz13_8 : w12.cell? ⟨gb379, 8, none⟩ = some (.slice A0_8 l0_8.length c0_8) := (QD BK379.out 8).trans rfl; have hcz13_9 : w12.cell? ⟨gb379, 9, none⟩ = some (.slice A0_9 l0_9.length c0_9) := (QD BK379.out 9).trans rfl; have hcz13_10 : w12.cell? ⟨gb379, 10, none⟩ = some (.slice A0_10 l0_10.length c0_10) := (QD BK379.out 10).trans rfl; have hcz13_11 : w12.cell? ⟨gb379, 11, none⟩ = some (.int .i64 a0_11) := (QD BK379.out 11).trans rfl; have hcz13_12 : w12.cell? ⟨gb379, 12, none⟩ = some (.int .i64 a0_12) := (QD BK379.out 12).trans rfl; have hcz13_13 : w12.cell? ⟨gb379, 13, none⟩ = some (.int .i64 a0_13) := (QD BK379.out 13).trans rfl; have hfz13_0 := QB BK379.out 0; have hfz13_1 := QB BK379.out 1; have hfz13_2 := QB BK379.out 2; have hfz13_3 := QB BK379.out 3; have hfz13_4 := QB BK379.out 4; have hfz13_5 := QB BK379.out 5; have hfz13_6 := QB BK379.out 6; have hfz13_7 := QB BK379.out 7; have hfz13_8 := QB BK379.out 8; have hfz13_9 := QB BK379.out 9; have hfz13_10 := QB BK379.out 10; have hfz13_11 := QB BK379.out 11; have hfz13_12 := QB BK379.out 12; have hfz13_13 := QB BK379.out 13) | ((with_reducible refine QO (f := 46) rfl ?_); refine goesL_ (some 4) rfl rfl Try.func46 (by kernel_rfl) rfl #[.agg #[.int .i64 a0_0, .int .i64 a0_1, .bool a0_2, .bool a0_3, .slice A0_4 l0_4.length c0_4, .slice A0_5 l0_5.length c0_5, .int .i64 a0_6, .int .i64 a0_7, .slice A0_8 l0_8.length c0_8, .slice A0_9 l0_9.length c0_9, .slice A0_10 l0_10.length c0_10, .int .i64 a0_11, .int .i64 a0_12, .int .i64 a0_13]] rfl (by (try simp only [List.map_toArray, List.map_cons, List.map_nil]); first | done | rfl | (simp only [List.length_drop, List.length_take]; rfl)) ?_; (with_reducible refine (impl_IsGame.calls k a0_0 a0_1 a0_2 a0_3 _ _ l0_4 _ _ l0_5 a0_6 a0_7 _ _ l0_8 (fun k_ => k_ < w.heap.size) _ _ l0_9 (fun k_ => k_ < w.heap.size) _ _ l0_10 a0_11 a0_12 a0_13 _ _ ?side1 ?side2 ?side3 ?side4 ?side5 ?side6 ?side7 ?side8 A2.out).mono ?_); (case side1 => repeat (first | exact (QL HR0_4.out HB.out) | (with_reducible refine QM ?_ _) | (with_reducible refine QN ?_ _) | (with_reducible refine Kd.C_drew ?_))); (case side2 => exact HC0_4.out); (case side3 => repeat (first | exact (QL HR0_5.out HB.out) | (with_reducible refine QM ?_ _) | (with_reducible refine QN ?_ _) | (with_reducible refine Kd.C_drew ?_))); (case side4 => exact HC0_5.out); (case side5 => repeat (first | exact (QL HR0_8.out HB.out) | (with_reducible refine QM ?_ _) | (with_reducible refine QN ?_ _) | (with_reducible refine Kd.C_drew ?_))); (case side6 => exact HC0_8.out); (case side7 => exact Kd.V_mk HC0_9.out (Kd.F_below (Kd.C_F (Kd.heap_int .i64) HR0_9.out) (by repeat (first | (with_reducible first | exact HB.out | apply QF | apply QC | apply QE | refine QK ?_ GE379.out) | exact HB.out)))); (case side8 => exact Kd.V_mk HC0_10.out (Kd.F_below (Kd.C_F (Kd.heap_int .i64) HR0_10.out) (by repeat (first | (with_reducible first | exact HB.out | apply QF | apply QC | apply QE | refine QK ?_ GE379.out) | exact HB.out)))); rintro e w14 ⟨rfl, hb⟩; refine ⟨_, rfl, ?_⟩; have n0_ := QT (blk_below (g := gb379) (o := _) (by (with_reducible repeat (first | refine blk_drewN ?_ _ | refine blk_drew ?_ | refine blk_alloc ?_ _)); exact BK379.out) hb); have n1_ := QT (below_step (by repeat (first | (with_reducible first | exact HB.out | apply QF | apply QC | apply QE | refine QK ?_ GE379.out) | exact HB.out)) hb); clear BK379; clear HB; have BK379 := n0_; have HB := n1_; clear n0_ n1_; (try clear hb); (try clear hb2); (try clear hk); (try clear hi); have hcz15_0 : w14.cell? ⟨gb379, 0, none⟩ = some (.int .i64 a0_0) := (QD BK379.out 0).trans rfl; have hcz15_1 : w14.cell? ⟨gb379, 1, none⟩ = some (.int .i64 a0_1) := (QD BK379.out 1).trans rfl; have hcz15_2 : w14.cell? ⟨gb379, 2, none⟩ = some (.bool a0_2) := (QD BK379.out 2).trans rfl; have hcz15_3 : w14.cell? ⟨gb379, 3, none⟩ = some (.bool a0_3) := (QD BK379.out 3).trans rfl; have hcz15_4 : w14.cell? ⟨gb379, 4, none⟩ = some (.slice A0_4 l0_4.length c0_4) := (QD BK379.out 4).trans rfl; have hcz15_5 : w14.cell? ⟨gb379, 5, none⟩ = some (.slice A0_5 l0_5.length c0_5) := (QD BK379.out 5).trans rfl; have hcz15_6 : w14.cell? ⟨gb379, 6, none⟩ = some (.int .i64 a0_6) := (QD BK379.out 6).trans rfl; have hcz15_7 : w14.cell? ⟨gb379, 7, none⟩ = some (.int .i64 a0_7) := (QD BK379.out 7).trans rfl; have hcz15_8 : w14.cell? ⟨gb379, 8, none⟩ = some (.slice A0_8 l0_8.length c0_8) := (QD BK379.out 8).trans rfl; have hcz15_9 : w14.cell? ⟨gb379, 9, none⟩ = some (.slice A0_9 l0_9.length c0_9) := (QD BK379.out 9).trans rfl; have hcz15_10 : w14.cell? ⟨gb379, 10, none⟩ = some (.slice A0_10 l0_10.length c0_10) := (QD BK379.out 10).trans rfl; have hcz15_11 : w14.cell? ⟨gb379, 11, none⟩ = some (.int .i64 a0_11) := (QD BK379.out 11).trans rfl; have hcz15_12 : w14.cell? ⟨gb379, 12, none⟩ = some (.int .i64 a0_12) := (QD BK379.out 12).trans rfl; have hcz15_13 : w14.cell? ⟨gb379, 13, none⟩ = some (.int .i64 a0_13) := (QD BK379.out 13).trans rfl; have hfz15_0 := QB BK379.out 0; have hfz15_1 := QB BK379.out 1; have hfz15_2 := QB BK379.out 2; have hfz15_3 := QB BK379.out 3; have hfz15_4 := QB BK379.out 4; have hfz15_5 := QB BK379.out 5; have hfz15_6 := QB BK379.out 6; have hfz15_7 := QB BK379.out 7; have hfz15_8 := QB BK379.out 8; have hfz15_9 := QB BK379.out 9; have hfz15_10 := QB BK379.out 10; have hfz15_11 := QB BK379.out 11; have hfz15_12 := QB BK379.out 12; have hfz15_13 := QB BK379.out 13) | (go_at_call 54; (with_reducible refine (impl_Winner.calls k a0_0 a0_1 a0_2 a0_3 _ _ l0_4 _ _ l0_5 a0_6 a0_7 _ _ l0_8 _ _ l0_9 _ _ l0_10 a0_11 a0_12 a0_13 t381 _ ?side1 ?side2 ?side3 ?side4 ?side5 ?side6 ?side7 ?side8 ?side9 ?side10 A4.out).mono ?_); (case side1 => repeat (first | exact (QL HR0_4.out HB.out) | (with_reducible refine QM ?_ _) | (with_reducible refine QN ?_ _) | (with_reducible refine Kd.C_drew ?_))); (case side2 => exact HC0_4.out); (case side3 => repeat (first | exact (QL HR0_5.out HB.out) | (with_reducible refine QM ?_ _) | (with_reducible refine QN ?_ _) | (with_reducible refine Kd.C_drew ?_))); (case side4 => exact HC0_5.out); (case side5 => repeat (first | exact (QL HR0_8.out HB.out) | (with_reducible refine QM ?_ _) | (with_reducible refine QN ?_ _) | (with_reducible refine Kd.C_drew ?_))); (case side6 => exact HC0_8.out); (case side7 => repeat (first | exact (QL HR0_9.out HB.out) | (with_reducible refine QM ?_ _) | (with_reducible refine QN ?_ _) | (with_reducible refine Kd.C_drew ?_))); (case side8 => exact HC0_9.out); (case side9 => repeat (first | exact (QL HR0_10.out HB.out) | (with_reducible refine QM ?_ _) | (with_reducible refine QN ?_ _) | (with_reducible refine Kd.C_drew ?_))); (case side10 => exact HC0_10.out); rintro e w16 ⟨rfl, hb⟩; have n0_ := QT (blk_below (g := gb379) (o := _) (by (with_reducible repeat (first | refine blk_drewN ?_ _ | refine blk_drew ?_ | refine blk_alloc ?_ _)); exact BK379.out) hb); have n1_ := QT (below_step (by repeat (first | (with_reducible first | exact HB.out | apply QF | apply QC | apply QE | refine QK ?_ GE379.out) | exact HB.out)) hb); clear BK379; clear HB; have BK379 := n0_; have HB := n1_; clear n0_ n1_; (try clear hb); (try clear hb2); (try clear hk); (try clear hi); have hcz17_0 : w16.cell? ⟨gb379, 0, none⟩ = some (.int .i64 a0_0) := (QD BK379.out 0).trans rfl; have hcz17_1 : w16.cell? ⟨gb379, 1, none⟩ = some (.int .i64 a0_1) := (QD BK379.out 1).trans rfl; have hcz17_2 : w16.cell? ⟨gb379, 2, none⟩ = some (.bool a0_2) := (QD BK379.out 2).trans rfl; have hcz17_3 : w16.cell? ⟨gb379, 3, none⟩ = some (.bool a0_3) := (QD BK379.out 3).trans rfl; have hcz17_4 : w16.cell? ⟨gb379, 4, none⟩ = some (.slice A0_4 l0_4.length c0_4) := (QD BK379.out 4).trans rfl; have hcz17_5 : w16.cell? ⟨gb379, 5, none⟩ = some (.slice A0_5 l0_5.length c0_5) := (QD BK379.out 5).trans rfl; have hcz17_6 : w16.cell? ⟨gb379, 6, none⟩ = some (.int .i64 a0_6) := (QD BK379.out 6).trans rfl; have hcz17_7 : w16.cell? ⟨gb379, 7, none⟩ = some (.int .i64 a0_7) := (QD BK379.out 7).trans rfl; have hcz17_8 : w16.cell? ⟨gb379, 8, none⟩ = some (.slice A0_8 l0_8.length c0_8) := (QD BK379.out 8).trans rfl; have hcz17_9 : w16.cell? ⟨gb379, 9, none⟩ = some (.slice A0_9 l0_9.length c0_9) := (QD BK379.out 9).trans rfl; have hcz17_10 : w16.cell? ⟨gb379, 10, none⟩ = some (.slice A0_10 l0_10.length c0_10) := (QD BK379.out 10).trans rfl; have hcz17_11 : w16.cell? ⟨gb379, 11, none⟩ = some (.int .i64 a0_11) := (QD BK379.out 11).trans rfl; have hcz17_12 : w16.cell? ⟨gb379, 12, none⟩ = some (.int .i64 a0_12) := (QD BK379.out 12).trans rfl; have hcz17_13 : w16.cell? ⟨gb379, 13, none⟩ = some (.int .i64 a0_13) := (QD BK379.out 13).trans rfl; have hfz17_0 := QB BK379.out 0; have hfz17_1 := QB BK379.out 1; have hfz17_2 := QB BK379.out 2; have hfz17_3 := QB BK379.out 3; have hfz17_4 := QB BK379.out 4; have hfz17_5 := QB BK379.out 5; have hfz17_6 := QB BK379.out 6; have hfz17_7 := QB BK379.out 7; have hfz17_8 := QB BK379.out 8; have hfz17_9 := QB BK379.out 9; have hfz17_10 := QB BK379.out 10; have hfz17_11 := QB BK379.out 11; have hfz17_12 := QB BK379.out 12; have hfz17_13 := QB BK379.out 13))
  go_ret
  exact ⟨by first | rfl | (simp [errW_none, errW_some] <;> rfl) | (simp [*, errW_none, errW_some] <;> rfl), by repeat (first | (with_reducible first | exact HB.out | apply QF | apply QC | apply QE | refine QK ?_ GE379.out) | exact HB.out)⟩

/-! ### impl_SuitOf: function 117 -/
def impl_SuitOf.f (a0 : Int) : Option (Int) := (impl_IsCard.f a0).bind fun t382 => (if t382 = true then (some (wrap64 (Int.tdiv a0 13))) else (some (-1)))
set_option maxHeartbeats 8000000 in
set_option maxRecDepth 100000 in
theorem impl_SuitOf.calls (a0 : Int) (r : Int) (w : World) (h : impl_SuitOf.f a0 = some r) :
  Calls Try.prog 117 #[.int .i64 a0] w fun e w' => e = .returned (.int .i64 r) ∧ Drawn0 w w' := by
 have H : ((impl_IsCard.f a0).bind fun t382 => (if t382 = true then (some (wrap64 (Int.tdiv a0 13))) else (some (-1)))) = some r := h
 clear h
 replace H := QU.mp H
 obtain ⟨t382, A20, H⟩ := H
 have A2 := QT A20
 clear A20
 by_cases c3 : t382 = true
 ·subst c3
  rw [if_pos rfl] at H
  obtain rfl := Option.some.inj H
  go_enter Try.func117, Try.ntmps117
  go_wp2_with (first | ((with_reducible refine QO (f := 86) rfl ?_); refine goesL_ (some 4) rfl rfl Try.func86 (by kernel_rfl) rfl #[.int .i64 a0] rfl (by (try simp only [List.map_toArray, List.map_cons, List.map_nil]); first | done | rfl | (simp only [List.length_drop, List.length_take]; rfl)) ?_; (with_reducible refine (impl_IsCard.calls a0 true _ A2.out).mono ?_); rintro e w' ⟨rfl, ⟨nd, rfl⟩⟩; refine ⟨_, rfl, ?_⟩))
  go_ret
  exact ⟨by first | rfl | (simp; done) | (simp [*]; done), by repeat (first | exact Drawn0.refl _ | apply Drawn0.step)⟩
 ·replace c3 := Bool.eq_false_iff.mpr c3
  subst c3
  rw [if_neg (show ¬ (false = true) by decide)] at H
  obtain rfl := Option.some.inj H
  go_enter Try.func117, Try.ntmps117
  go_wp2_with (first | ((with_reducible refine QO (f := 86) rfl ?_); refine goesL_ (some 4) rfl rfl Try.func86 (by kernel_rfl) rfl #[.int .i64 a0] rfl (by (try simp only [List.map_toArray, List.map_cons, List.map_nil]); first | done | rfl | (simp only [List.length_drop, List.length_take]; rfl)) ?_; (with_reducible refine (impl_IsCard.calls a0 false _ A2.out).mono ?_); rintro e w' ⟨rfl, ⟨nd, rfl⟩⟩; refine ⟨_, rfl, ?_⟩))
  go_ret
  exact ⟨by first | rfl | (simp; done) | (simp [*]; done), by repeat (first | exact Drawn0.refl _ | apply Drawn0.step)⟩

/-! ### impl_RankOf: function 144 -/
def impl_RankOf.f (a0 : Int) : Option (Int) := (impl_IsCard.f a0).bind fun t383 => (if t383 = true then (some (Int.tmod a0 13)) else (some (-1)))
set_option maxHeartbeats 8000000 in
set_option maxRecDepth 100000 in
theorem impl_RankOf.calls (a0 : Int) (r : Int) (w : World) (h : impl_RankOf.f a0 = some r) :
  Calls Try.prog 144 #[.int .i64 a0] w fun e w' => e = .returned (.int .i64 r) ∧ Drawn0 w w' := by
 have H : ((impl_IsCard.f a0).bind fun t383 => (if t383 = true then (some (Int.tmod a0 13)) else (some (-1)))) = some r := h
 clear h
 replace H := QU.mp H
 obtain ⟨t383, A20, H⟩ := H
 have A2 := QT A20
 clear A20
 by_cases c3 : t383 = true
 ·subst c3
  rw [if_pos rfl] at H
  obtain rfl := Option.some.inj H
  go_enter Try.func144, Try.ntmps144
  go_wp2_with (first | ((with_reducible refine QO (f := 86) rfl ?_); refine goesL_ (some 4) rfl rfl Try.func86 (by kernel_rfl) rfl #[.int .i64 a0] rfl (by (try simp only [List.map_toArray, List.map_cons, List.map_nil]); first | done | rfl | (simp only [List.length_drop, List.length_take]; rfl)) ?_; (with_reducible refine (impl_IsCard.calls a0 true _ A2.out).mono ?_); rintro e w' ⟨rfl, ⟨nd, rfl⟩⟩; refine ⟨_, rfl, ?_⟩))
  go_ret
  exact ⟨by first | rfl | (simp; done) | (simp [*]; done), by repeat (first | exact Drawn0.refl _ | apply Drawn0.step)⟩
 ·replace c3 := Bool.eq_false_iff.mpr c3
  subst c3
  rw [if_neg (show ¬ (false = true) by decide)] at H
  obtain rfl := Option.some.inj H
  go_enter Try.func144, Try.ntmps144
  go_wp2_with (first | ((with_reducible refine QO (f := 86) rfl ?_); refine goesL_ (some 4) rfl rfl Try.func86 (by kernel_rfl) rfl #[.int .i64 a0] rfl (by (try simp only [List.map_toArray, List.map_cons, List.map_nil]); first | done | rfl | (simp only [List.length_drop, List.length_take]; rfl)) ?_; (with_reducible refine (impl_IsCard.calls a0 false _ A2.out).mono ?_); rintro e w' ⟨rfl, ⟨nd, rfl⟩⟩; refine ⟨_, rfl, ?_⟩))
  go_ret
  exact ⟨by first | rfl | (simp; done) | (simp [*]; done), by repeat (first | exact Drawn0.refl _ | apply Drawn0.step)⟩

/-! ### impl_IsRed: function 172 -/
def impl_IsRed.f (a0 : Int) : Option (Bool) := (impl_SuitOf.f a0).bind fun t384 => (if t384 = 1 then (some true) else ((impl_SuitOf.f a0).bind fun t385 => (some (t385 == 2))))
set_option maxHeartbeats 8000000 in
set_option maxRecDepth 100000 in
theorem impl_IsRed.calls (a0 : Int) (r : Bool) (w : World) (h : impl_IsRed.f a0 = some r) :
  Calls Try.prog 172 #[.int .i64 a0] w fun e w' => e = .returned (.bool r) ∧ Drawn0 w w' := by
 have H : ((impl_SuitOf.f a0).bind fun t384 => (if t384 = 1 then (some true) else ((impl_SuitOf.f a0).bind fun t385 => (some (t385 == 2))))) = some r := h
 clear h
 replace H := QU.mp H
 obtain ⟨t384, A20, H⟩ := H
 have A2 := QT A20
 clear A20
 by_cases c3 : t384 = 1
 ·rw [if_pos c3] at H
  have c3b0 : (t384 == 1) = true := beq_iff_eq.mpr c3
  have c3b1 : (t384 != 1) = false := bne_eq_false_iff_eq.mpr c3
  clear c3
  obtain rfl := Option.some.inj H
  go_enter Try.func172, Try.ntmps172
  go_wp2_with (first | ((with_reducible refine QO (f := 117) rfl ?_); refine goesL_ (some 4) rfl rfl Try.func117 (by kernel_rfl) rfl #[.int .i64 a0] rfl (by (try simp only [List.map_toArray, List.map_cons, List.map_nil]); first | done | rfl | (simp only [List.length_drop, List.length_take]; rfl)) ?_; (with_reducible refine (impl_SuitOf.calls a0 t384 _ A2.out).mono ?_); rintro e w' ⟨rfl, ⟨nd, rfl⟩⟩; refine ⟨_, rfl, ?_⟩))
  go_ret
  exact ⟨by first | rfl | (simp; done) | (simp [*]; done), by repeat (first | exact Drawn0.refl _ | apply Drawn0.step)⟩
 ·rw [if_neg c3] at H
  have c3b0 : (t384 == 1) = false := beq_eq_false_iff_ne.mpr c3
  have c3b1 : (t384 != 1) = true := bne_iff_ne.mpr c3
  replace H := QU.mp H
  obtain ⟨t385, A40, H⟩ := H
  have A4 := QT A40
  clear A40
  try (obtain rfl := Option.some.inj (A4.out.symm.trans A2.out))
  obtain rfl := Option.some.inj H
  go_enter Try.func172, Try.ntmps172
  go_wp2_with (first | ((with_reducible refine QO (f := 117) rfl ?_); refine goesL_ (some 4) rfl rfl Try.func117 (by kernel_rfl) rfl #[.int .i64 a0] rfl (by (try simp only [List.map_toArray, List.map_cons, List.map_nil]); first | done | rfl | (simp only [List.length_drop, List.length_take]; rfl)) ?_; (with_reducible refine (impl_SuitOf.calls a0 t384 _ A2.out).mono ?_); rintro e w' ⟨rfl, ⟨nd, rfl⟩⟩; refine ⟨_, rfl, ?_⟩) | (go_at_call 117; (with_reducible refine (impl_SuitOf.calls a0 t385 _ A4.out).mono ?_); rintro e w' ⟨rfl, ⟨nd, rfl⟩⟩))
  go_ret
  exact ⟨by first | rfl | (simp; done) | (simp [*]; done), by repeat (first | exact Drawn0.refl _ | apply Drawn0.step)⟩

/-! ### impl_asks: function 148 -/
def impl_asks.f (a0 : Int) (a1 : Int) : Option (Bool) := if a0 = 400 then ((impl_IsRed.f a1).bind fun t386 => (some t386)) else (if a0 ≥ 300 then ((impl_RankOf.f a1).bind fun t387 => (some (decide (t387 ≥ (wrap64 (a0 - 300)))))) else (if a0 ≥ 200 then ((impl_RankOf.f a1).bind fun t388 => (some (t388 == (wrap64 (a0 - 200))))) else ((impl_SuitOf.f a1).bind fun t389 => (some (t389 == (wrap64 (a0 - 100)))))))
set_option maxHeartbeats 8000000 in
set_option maxRecDepth 100000 in
theorem impl_asks.calls (a0 : Int) (a1 : Int) (r : Bool) (w : World) (h : impl_asks.f a0 a1 = some r) :
  Calls Try.prog 148 #[.int .i64 a0, .int .i64 a1] w fun e w' => e = .returned (.bool r) ∧ Drawn0 w w' := by
 have H : (if a0 = 400 then ((impl_IsRed.f a1).bind fun t386 => (some t386)) else (if a0 ≥ 300 then ((impl_RankOf.f a1).bind fun t387 => (some (decide (t387 ≥ (wrap64 (a0 - 300)))))) else (if a0 ≥ 200 then ((impl_RankOf.f a1).bind fun t388 => (some (t388 == (wrap64 (a0 - 200))))) else ((impl_SuitOf.f a1).bind fun t389 => (some (t389 == (wrap64 (a0 - 100)))))))) = some r := h
 clear h
 by_cases c3 : a0 = 400
 ·rw [if_pos c3] at H
  have c3b0 : (a0 == 400) = true := beq_iff_eq.mpr c3
  have c3b1 : (a0 != 400) = false := bne_eq_false_iff_eq.mpr c3
  clear c3
  replace H := QU.mp H
  obtain ⟨t386, A40, H⟩ := H
  have A4 := QT A40
  clear A40
  obtain rfl := Option.some.inj H
  go_enter Try.func148, Try.ntmps148
  go_wp2_with (first | ((with_reducible refine QO (f := 172) rfl ?_); refine goesL_ (some 9) rfl rfl Try.func172 (by kernel_rfl) rfl #[.int .i64 a1] rfl (by (try simp only [List.map_toArray, List.map_cons, List.map_nil]); first | done | rfl | (simp only [List.length_drop, List.length_take]; rfl)) ?_; (with_reducible refine (impl_IsRed.calls a1 t386 _ A4.out).mono ?_); rintro e w' ⟨rfl, ⟨nd, rfl⟩⟩; refine ⟨_, rfl, ?_⟩))
  go_ret
  exact ⟨by first | rfl | (simp; done) | (simp [*]; done), by repeat (first | exact Drawn0.refl _ | apply Drawn0.step)⟩
 ·rw [if_neg c3] at H
  have c3b0 : (a0 == 400) = false := beq_eq_false_iff_ne.mpr c3
  have c3b1 : (a0 != 400) = true := bne_iff_ne.mpr c3
  by_cases c5 : a0 ≥ 300
  ·rw [if_pos c5] at H
   have c5b0 : decide (300 ≤ a0) = true := decide_eq_true c5
   clear c5
   replace H := QU.mp H
   obtain ⟨t387, A60, H⟩ := H
   have A6 := QT A60
   clear A60
   obtain rfl := Option.some.inj H
   go_enter Try.func148, Try.ntmps148
   go_wp2_with (first | ((with_reducible refine QO (f := 144) rfl ?_); refine goesL_ (some 14) rfl rfl Try.func144 (by kernel_rfl) rfl #[.int .i64 a1] rfl (by (try simp only [List.map_toArray, List.map_cons, List.map_nil]); first | done | rfl | (simp only [List.length_drop, List.length_take]; rfl)) ?_; (with_reducible refine (impl_RankOf.calls a1 t387 _ A6.out).mono ?_); rintro e w' ⟨rfl, ⟨nd, rfl⟩⟩; refine ⟨_, rfl, ?_⟩))
   go_ret
   exact ⟨by first | rfl | (simp; done) | (simp [*]; done), by repeat (first | exact Drawn0.refl _ | apply Drawn0.step)⟩
  ·rw [if_neg c5] at H
   have c5b0 : decide (300 ≤ a0) = false := decide_eq_false c5
   clear c5
   by_cases c7 : a0 ≥ 200
   ·rw [if_pos c7] at H
    have c7b0 : decide (200 ≤ a0) = true := decide_eq_true c7
    clear c7
    replace H := QU.mp H
    obtain ⟨t388, A80, H⟩ := H
    have A8 := QT A80
    clear A80
    try (obtain rfl := Option.some.inj (A8.out.symm.trans A6.out))
    obtain rfl := Option.some.inj H
    go_enter Try.func148, Try.ntmps148
    go_wp2_with (first | ((with_reducible refine QO (f := 144) rfl ?_); refine goesL_ (some 22) rfl rfl Try.func144 (by kernel_rfl) rfl #[.int .i64 a1] rfl (by (try simp only [List.map_toArray, List.map_cons, List.map_nil]); first | done | rfl | (simp only [List.length_drop, List.length_take]; rfl)) ?_; (with_reducible refine (impl_RankOf.calls a1 t388 _ A8.out).mono ?_); rintro e w' ⟨rfl, ⟨nd, rfl⟩⟩; refine ⟨_, rfl, ?_⟩))
    go_ret
    exact ⟨by first | rfl | (simp; done) | (simp [*]; done), by repeat (first | exact Drawn0.refl _ | apply Drawn0.step)⟩
   ·rw [if_neg c7] at H
    have c7b0 : decide (200 ≤ a0) = false := decide_eq_false c7
    clear c7
    replace H := QU.mp H
    obtain ⟨t389, A90, H⟩ := H
    have A9 := QT A90
    clear A90
    obtain rfl := Option.some.inj H
    go_enter Try.func148, Try.ntmps148
    go_wp2_with (first | ((with_reducible refine QO (f := 117) rfl ?_); refine goesL_ (some 27) rfl rfl Try.func117 (by kernel_rfl) rfl #[.int .i64 a1] rfl (by (try simp only [List.map_toArray, List.map_cons, List.map_nil]); first | done | rfl | (simp only [List.length_drop, List.length_take]; rfl)) ?_; (with_reducible refine (impl_SuitOf.calls a1 t389 _ A9.out).mono ?_); rintro e w' ⟨rfl, ⟨nd, rfl⟩⟩; refine ⟨_, rfl, ?_⟩))
    go_ret
    exact ⟨by first | rfl | (simp; done) | (simp [*]; done), by repeat (first | exact Drawn0.refl _ | apply Drawn0.step)⟩

/-! ### impl_Matches: function 104 -/
mutual
def impl_Matches.j0 : Nat → List Int → Int → Bool → Option (Bool)
 | 0, _, _, _ => none
 | k + 1, x0, x1, x16 => if x16 = true then (some false) else (impl_Matches.l0 k x1 (([] : List Bool)) x0 (x0.length : Int) 0)
def impl_Matches.l0 : Nat → Int → List Bool → List Int → Int → Int → Option (Bool)
 | 0, _, _, _, _, _ => none
 | k + 1, x1, x5, x18, x19, x20 => if x20 < x19 then (if 0 ≤ x20 then (if x20 < (x18.length : Int) then (if (rd x18 x20) = (-1) then (if 0 ≤ (wrap64 ((x5.length : Int) - 1)) then (if (wrap64 ((x5.length : Int) - 1)) < (x5.length : Int) then (impl_Matches.l0 k x1 (x5.set ((wrap64 ((x5.length : Int) - 1)) : Int).toNat (!(rdOf false x5 (wrap64 ((x5.length : Int) - 1))))) x18 x19 (wrap64 (x20 + 1))) else (none)) else (none)) else (if (rd x18 x20) = (-2) then (if 0 ≤ (wrap64 ((x5.length : Int) - 2)) then (if (wrap64 ((x5.length : Int) - 2)) < (x5.length : Int) then (if rdOf false x5 (wrap64 ((x5.length : Int) - 2)) = true then (if 0 ≤ (wrap64 ((x5.length : Int) - 1)) then (if (wrap64 ((x5.length : Int) - 1)) < (x5.length : Int) then (if (wrap64 ((x5.length : Int) - 2)) ≤ (x5.length : Int) then ((some (x5.take ((wrap64 ((x5.length : Int) - 2)) : Int).toNat : List Bool)).bind fun y401 => (if y401.length < 140737488355328 then (impl_Matches.l0 k x1 (y401 ++ [rdOf false x5 (wrap64 ((x5.length : Int) - 1))]) x18 x19 (wrap64 (x20 + 1))) else (none))) else (none)) else (none)) else (none)) else (if (wrap64 ((x5.length : Int) - 2)) ≤ (x5.length : Int) then ((some (x5.take ((wrap64 ((x5.length : Int) - 2)) : Int).toNat : List Bool)).bind fun y407 => (if y407.length < 140737488355328 then (impl_Matches.l0 k x1 (y407 ++ [false]) x18 x19 (wrap64 (x20 + 1))) else (none))) else (none))) else (none)) else (none)) else (if (rd x18 x20) = (-3) then (if 0 ≤ (wrap64 ((x5.length : Int) - 2)) then (if (wrap64 ((x5.length : Int) - 2)) < (x5.length : Int) then (if rdOf false x5 (wrap64 ((x5.length : Int) - 2)) = true then (if (wrap64 ((x5.length : Int) - 2)) ≤ (x5.length : Int) then ((some (x5.take ((wrap64 ((x5.length : Int) - 2)) : Int).toNat : List Bool)).bind fun y414 => (if y414.length < 140737488355328 then (impl_Matches.l0 k x1 (y414 ++ [true]) x18 x19 (wrap64 (x20 + 1))) else (none))) else (none)) else (if 0 ≤ (wrap64 ((x5.length : Int) - 1)) then (if (wrap64 ((x5.length : Int) - 1)) < (x5.length : Int) then (if (wrap64 ((x5.length : Int) - 2)) ≤ (x5.length : Int) then ((some (x5.take ((wrap64 ((x5.length : Int) - 2)) : Int).toNat : List Bool)).bind fun y421 => (if y421.length < 140737488355328 then (impl_Matches.l0 k x1 (y421 ++ [rdOf false x5 (wrap64 ((x5.length : Int) - 1))]) x18 x19 (wrap64 (x20 + 1))) else (none))) else (none)) else (none)) else (none))) else (none)) else (none)) else ((impl_asks.f (rd x18 x20) x1).bind fun t427 => (if x5.length < 140737488355328 then (impl_Matches.l0 k x1 (x5 ++ [t427]) x18 x19 (wrap64 (x20 + 1))) else (none)))))) else (none)) else (none)) else (if 0 < (x5.length : Int) then (some (rdOf false x5 0)) else (none))
end
def impl_Matches.f (k : Nat) (l0 : List Int) (a1 : Int) : Option (Bool) := (impl_IsPattern.f k l0).bind fun t390 => (if t390 = true then ((impl_IsCard.f a1).bind fun t391 => (impl_Matches.j0 k l0 a1 (!t391))) else (impl_Matches.j0 k l0 a1 true))
theorem impl_Matches.mono_l : ∀ k, (∀ y0 y1 y2, LeO (impl_Matches.j0 k y0 y1 y2) (impl_Matches.j0 (k + 1) y0 y1 y2)) ∧ (∀ y0 y1 y2 y3 y4, LeO (impl_Matches.l0 k y0 y1 y2 y3 y4) (impl_Matches.l0 (k + 1) y0 y1 y2 y3 y4))
 | 0 => ⟨fun _ _ _ r h => by simp [impl_Matches.j0] at h, fun _ _ _ _ _ r h => by simp [impl_Matches.l0] at h⟩
 | k + 1 => by
  obtain ⟨ih0, ih1⟩ := impl_Matches.mono_l k
  refine ⟨?_, ?_⟩
  ·intro y0 y1 y2
   unfold impl_Matches.j0
   repeat' first
   | (with_reducible exact ih0 _ _ _)
   | (with_reducible exact ih1 _ _ _ _ _)
   | (with_reducible exact impl_IsPattern.mono _ _)
   | (with_reducible exact LeO.refl _)
   | (with_reducible exact LeO.none _)
   | (with_reducible refine LeO.ite ?_ ?_)
   | (with_reducible refine LeO.bind ?_ (fun _ => ?_))
   | exact ih0 _ _ _
   | exact ih1 _ _ _ _ _
   | exact impl_IsPattern.mono _ _
   | exact LeO.none _
   | refine LeO.ite ?_ ?_
   | refine LeO.bind ?_ (fun _ => ?_)
  ·intro y0 y1 y2 y3 y4
   unfold impl_Matches.l0
   repeat' first
   | (with_reducible exact ih0 _ _ _)
   | (with_reducible exact ih1 _ _ _ _ _)
   | (with_reducible exact impl_IsPattern.mono _ _)
   | (with_reducible exact LeO.refl _)
   | (with_reducible exact LeO.none _)
   | (with_reducible refine LeO.ite ?_ ?_)
   | (with_reducible refine LeO.bind ?_ (fun _ => ?_))
   | exact ih0 _ _ _
   | exact ih1 _ _ _ _ _
   | exact impl_IsPattern.mono _ _
   | exact LeO.none _
   | refine LeO.ite ?_ ?_
   | refine LeO.bind ?_ (fun _ => ?_)
theorem impl_Matches.mono : ∀ a0 a1 k, LeO (impl_Matches.f k a0 a1) (impl_Matches.f (k + 1) a0 a1) := by
 intro a0 a1 k
 obtain ⟨ih0, ih1⟩ := impl_Matches.mono_l k
 unfold impl_Matches.f
 repeat' first
   | (with_reducible exact ih0 _ _ _)
   | (with_reducible exact ih1 _ _ _ _ _)
   | (with_reducible exact impl_IsPattern.mono _ _)
   | (with_reducible exact LeO.refl _)
   | (with_reducible exact LeO.none _)
   | (with_reducible refine LeO.ite ?_ ?_)
   | (with_reducible refine LeO.bind ?_ (fun _ => ?_))
   | exact ih0 _ _ _
   | exact ih1 _ _ _ _ _
   | exact impl_IsPattern.mono _ _
   | exact LeO.none _
   | refine LeO.ite ?_ ?_
   | refine LeO.bind ?_ (fun _ => ?_)
def impl_Matches.T13 : Bool × List (List Nat × List Nat) := (true, [([], []), ([], []), ([1], [1]), ([0, 2], [0, 2]), ([], []), ([], []), ([5], [5]), ([4, 6], [4, 6]), ([7], [7]), ([8], [8]), ([9], [9]), ([9], [9]), ([11, 9], [9, 11]), ([10, 12, 9], [9, 10, 12]), ([13, 9], [9, 13]), ([9, 14], [9, 14]), ([15], [15]), ([3, 16, 9], [3, 16]), ([17, 17, 0, 1, 2, 3, 4, 5, 6, 7, 8, 9, 10, 11, 12, 13, 14, 15, 16, 17], [0, 4, 10, 17])])
def impl_Matches.B13 : List Nat := [0, 0, 2, 7, 0, 0, 32, 112, 240, 496, 1008, 1008, 3056, 8176, 16368, 32752, 65520, 131071, 262143]
theorem impl_Matches.tab13 : rtab .any (opsOf Try.f104 13) = impl_Matches.T13 := by kernel_rfl
theorem impl_Matches.bits13 : waitsOk impl_Matches.T13.2 impl_Matches.B13 = true := by kernel_rfl
def impl_Matches.T15 : Bool × List (List Nat × List Nat) := (true, [([], []), ([], []), ([1], [1]), ([0, 2], [0, 2]), ([], []), ([], []), ([5], [5]), ([4, 6], [4, 6]), ([7], [7]), ([8], [8]), ([9], [9]), ([9], [9]), ([11, 9], [9, 11]), ([10, 12, 9], [9, 10, 12]), ([13, 9], [9, 13]), ([9, 14], [9, 14]), ([15], [15]), ([3, 16, 9], [3, 16]), ([17, 17, 0, 1, 2, 3, 4, 5, 6, 7, 8, 9, 10, 11, 12, 13, 14, 15, 16, 17], [0, 4, 10, 17])])
def impl_Matches.B15 : List Nat := [0, 0, 2, 7, 0, 0, 32, 112, 240, 496, 1008, 1008, 3056, 8176, 16368, 32752, 65520, 131071, 262143]
theorem impl_Matches.tab15 : rtab .any (opsOf Try.f104 15) = impl_Matches.T15 := by kernel_rfl
theorem impl_Matches.bits15 : waitsOk impl_Matches.T15.2 impl_Matches.B15 = true := by kernel_rfl
set_option maxHeartbeats 8000000 in
set_option maxRecDepth 100000 in
theorem impl_Matches.calls (k : Nat) (A0 : Option Addr) (c0 : Nat) (l0 : List Int) (a1 : Int) (r : Bool) (w : World) (hr0 : Kd.C (Kd.int .i64) w A0 l0.length l0) (hc0 : l0.length ≤ c0) (h : impl_Matches.f k l0 a1 = some r) :
  Calls Try.prog 104 #[.slice A0 l0.length c0, .int .i64 a1] w fun e w' => e = .returned (.bool r) ∧ Below w.heap.size w w' := by
 have HR0 := QT hr0
 have HC0 := QT hc0
 clear hr0 hc0
 have HB := QT (Below.refl w.heap.size w)
 have H : ((impl_IsPattern.f k l0).bind fun t390 => (if t390 = true then ((impl_IsCard.f a1).bind fun t391 => (impl_Matches.j0 k l0 a1 (!t391))) else (impl_Matches.j0 k l0 a1 true))) = some r := h
 clear h
 have HC3 := QT H
 clear H
 go_enter Try.func104, Try.ntmps104
 go_upto_region 1 with (fail)
 go_cut [16] (fun v16 wc => ∃ (kq : Nat) (x16_2 : Bool), v16 = .bool x16_2 ∧ Aside0 (impl_Matches.j0 kq l0 a1 x16_2 = some r) ∧ Aside0 (kq ≤ k) ∧ Aside0 (Below w.heap.size w wc))
 case first =>
  have H := HC3.out
  clear HC3
  replace H := QU.mp H
  obtain ⟨t390, A40, H⟩ := H
  have A4 := QT A40
  clear A40
  by_cases c5 : t390 = true
  ·subst c5
   rw [if_pos rfl] at H
   replace H := QU.mp H
   obtain ⟨t391, A60, H⟩ := H
   have A6 := QT A60
   clear A60
   have H' := QT H
   clear H
   go_wp2_with (first | ((with_reducible refine QO (f := 147) rfl ?_); refine goesL_ (some 10) rfl rfl Try.func147 (by kernel_rfl) rfl #[.slice A0 l0.length c0] rfl (by (try simp only [List.map_toArray, List.map_cons, List.map_nil]); first | done | rfl | (simp only [List.length_drop, List.length_take]; rfl)) ?_; (with_reducible refine (impl_IsPattern.calls k _ _ l0 true _ ?side1 ?side2 A4.out).mono ?_); (case side1 => repeat (first | exact (QL HR0.out HB.out) | (with_reducible refine QM ?_ _) | (with_reducible refine QN ?_ _) | (with_reducible refine Kd.C_drew ?_))); (case side2 => exact HC0.out); rintro e w' ⟨rfl, ⟨nd, rfl⟩⟩; refine ⟨_, rfl, ?_⟩) | (go_at_call 86; (with_reducible refine (impl_IsCard.calls a1 t391 _ A6.out).mono ?_); rintro e w' ⟨rfl, ⟨nd, rfl⟩⟩))
   go_meet
   case rel => exact ⟨_, (!t391), (by first | rfl | (simp; done) | (simp [*]; done)), H', ⟨by first | omega | exact Nat.le_refl _⟩, ⟨by repeat (first | (with_reducible first | exact HB.out | apply QF | apply QC | apply QE) | exact HB.out)⟩⟩
  ·replace c5 := Bool.eq_false_iff.mpr c5
   subst c5
   rw [if_neg (show ¬ (false = true) by decide)] at H
   have H' := QT H
   clear H
   go_wp2_with (first | ((with_reducible refine QO (f := 147) rfl ?_); refine goesL_ (some 10) rfl rfl Try.func147 (by kernel_rfl) rfl #[.slice A0 l0.length c0] rfl (by (try simp only [List.map_toArray, List.map_cons, List.map_nil]); first | done | rfl | (simp only [List.length_drop, List.length_take]; rfl)) ?_; (with_reducible refine (impl_IsPattern.calls k _ _ l0 false _ ?side1 ?side2 A4.out).mono ?_); (case side1 => repeat (first | exact (QL HR0.out HB.out) | (with_reducible refine QM ?_ _) | (with_reducible refine QN ?_ _) | (with_reducible refine Kd.C_drew ?_))); (case side2 => exact HC0.out); rintro e w' ⟨rfl, ⟨nd, rfl⟩⟩; refine ⟨_, rfl, ?_⟩))
   go_meet
   case rel => exact ⟨_, (true), (by first | rfl | (simp; done) | (simp [*]; done)), H', ⟨by first | omega | exact Nat.le_refl _⟩, ⟨by repeat (first | (with_reducible first | exact HB.out | apply QF | apply QC | apply QE) | exact HB.out)⟩⟩
 case rest =>
  clear HC3
  try clear c1
  try clear p2
  try clear c5
  obtain ⟨kq, x16_2, rfl, HA, HJ2, HB⟩ := hcut
  cases kq with
  | zero => exact absurd HA.out (by simp [impl_Matches.j0])
  | succ kj2 =>
   have H := HA.out
   clear HA
   simp only [impl_Matches.j0] at H
   by_cases c7 : x16_2 = true
   ·subst c7
    rw [if_pos rfl] at H
    obtain rfl := Option.some.inj H
    go_wp2
    go_ret
    exact ⟨by first | rfl | (simp [errW_none, errW_some] <;> rfl) | (simp [*, errW_none, errW_some] <;> rfl), by repeat (first | (with_reducible first | exact HB.out | apply QF | apply QC | apply QE) | exact HB.out)⟩
   ·replace c7 := Bool.eq_false_iff.mpr c7
    subst c7
    rw [if_neg (show ¬ (false = true) by decide)] at H
    obtain ⟨y392, hy392⟩ : ∃ y_ : List Bool, y_ = (([] : List Bool)) := ⟨_, rfl⟩
    replace H : (impl_Matches.l0 kj2 a1 y392 l0 (l0.length : Int) 0) = some r := by first | (rw [hy392]; with_reducible exact H) | (have H2_ := (Option.bind_some _ _).symm.trans H; rw [hy392]; with_reducible exact H2_) | (have H2_ := (Option.bind_some _ _).symm.trans H; with_reducible exact H2_) | with_reducible exact H | (rw [hy392]; exact H) | exact H
    have Ny392 := QT hy392
    clear hy392
    have H' := QT H
    clear H
    go_wp2_with (first | ((with_reducible refine gate_dst (N := 17) rfl ?_); refine Kd.R_lit Kd.bool _ 4 ?hg (N := 17) ?hd (xs := ([] : List Bool)) (inner := []) (ok := fun _ => True) (okp := fun _ => True) ?hr ?hp (fun _ hk => hk) trivial (Below.refl _ _) (Nat.le_refl _) (by simp) ?_; (case hd => rfl); (case hg => rfl); (case hr => first | (go_simp; done) | (go_simp; rfl)); (case hp => exact (Reps.none _ _)); intro v393 w8 ho9 hb hg_ hnew_; clear hg_ hnew_; (first | rw [← Ny392.out] at ho9 | (simp only [Int.reduceToNat] at ho9; rw [← Ny392.out] at ho9)); have n0_ := QT (Kd.R_lower ho9 (below_size (by repeat (first | (with_reducible first | exact HB.out | apply QF | apply QC | apply QE) | exact HB.out)))); have n1_ := QT (below_step (by repeat (first | (with_reducible first | exact HB.out | apply QF | apply QC | apply QE) | exact HB.out)) hb); clear HB; have HO394 := n0_; have HB := n1_; clear n0_ n1_; clear hb ho9))
    go_loopg [5, 20] kj2 (fun kq v5 v20 w' => ∃ (x5_2 : List Bool) (x20_2 : Int), v20 = .int .i64 x20_2 ∧ Aside0 (impl_Matches.l0 kq a1 x5_2 l0 (l0.length : Int) x20_2 = some r) ∧ Aside0 (kq ≤ kj2) ∧ Aside0 (Kd.R Kd.bool 4 w' w.heap.size (fun _ => True) v5 x5_2) ∧ Aside0 (Below w.heap.size w w'))
    case atStart => exact ⟨(y392), (0), (by first | rfl | (simp; done) | (simp [*]; done)), H', ⟨Nat.le_refl _⟩, ⟨by (with_reducible repeat (first | apply Kd.R_alloc | apply Kd.R_drewN | apply Kd.R_drew)); exact HO394.out⟩, ⟨by repeat (first | (with_reducible first | exact HB.out | apply QF | apply QC | apply QE) | exact HB.out)⟩⟩
    case round =>
     clear H'
     try clear c1
     try clear p2
     try clear c5
     try clear c7
     try clear p2
     obtain ⟨x5_2, x20_2, rfl, HA, HK2, HO_5, HB⟩ := hrel
     cases gk with
     | zero => exact absurd HA.out (by simp [impl_Matches.l0])
     | succ k2 =>
      have H := HA.out
      clear HA
      simp only [impl_Matches.l0] at H
      by_cases c10 : x20_2 < (l0.length : Int)
      ·rw [if_pos c10] at H
       have c10b0 : decide (x20_2 < (l0.length : Int)) = true := decide_eq_true c10
       clear c10
       by_cases c11 : 0 ≤ x20_2
       ·rw [if_pos c11] at H
        have c11b0 : decide (0 ≤ x20_2) = true := decide_eq_true c11
        clear c11
        by_cases c12 : x20_2 < (l0.length : Int)
        ·rw [if_pos c12] at H
         have c12b0 : decide (x20_2 < (l0.length : Int)) = true := decide_eq_true c12
         clear c12
         by_cases c13 : (rd l0 x20_2) = (-1)
         ·rw [if_pos c13] at H
          have c13b0 : ((rd l0 x20_2) == (-1)) = true := beq_iff_eq.mpr c13
          have c13b1 : ((rd l0 x20_2) != (-1)) = false := bne_eq_false_iff_eq.mpr c13
          clear c13
          obtain ⟨ji14, hji14⟩ : ∃ j_ : Int, (wrap64 ((x5_2.length : Int) - 1)) = j_ := ⟨_, rfl⟩
          replace H : (if 0 ≤ (ji14) then (if (ji14) < (x5_2.length : Int) then (impl_Matches.l0 k2 a1 (x5_2.set ((ji14) : Int).toNat (!(rdOf false x5_2 (ji14)))) l0 (l0.length : Int) (wrap64 (x20_2 + 1))) else (none)) else (none)) = some r := by first | (rw [hji14] at H; exact H) | (simp only [hji14] at H ⊢; exact H)
          have hji14w : (IntKind.i64.wrap ((x5_2.length : Int) - 1)) = ji14 := (QH _).trans hji14
          by_cases c15 : 0 ≤ (ji14)
          ·rw [if_pos c15] at H
           have c15b0 : decide (0 ≤ (ji14)) = true := decide_eq_true c15
           clear c15
           by_cases c16 : (ji14) < (x5_2.length : Int)
           ·rw [if_pos c16] at H
            have c16b0 : decide ((ji14) < (x5_2.length : Int)) = true := decide_eq_true c16
            clear c16
            obtain ⟨y398, hy398⟩ : ∃ y_ : List Bool, y_ = (x5_2.set ((ji14) : Int).toNat (!(rdOf false x5_2 (ji14)))) := ⟨_, rfl⟩
            replace H : (impl_Matches.l0 k2 a1 y398 l0 (l0.length : Int) (wrap64 (x20_2 + 1))) = some r := by first | (rw [hy398]; with_reducible exact H) | (have H2_ := (Option.bind_some _ _).symm.trans H; rw [hy398]; with_reducible exact H2_) | (have H2_ := (Option.bind_some _ _).symm.trans H; with_reducible exact H2_) | with_reducible exact H | (rw [hy398]; exact H) | exact H
            have Ny398 := QT hy398
            clear hy398
            have H' := QT H
            clear H
            have p396 : 0 ≤ (x20_2 : Int) := of_decide_eq_true (by first | (with_reducible assumption) | assumption)
            have q396 : x20_2 < (l0.length : Int) := of_decide_eq_true (by first | (with_reducible assumption) | assumption)
            obtain ⟨ad396, e396, hx396_0⟩ := Kd.at_int HR0.out x20_2 p396 q396
            cases e396
            replace hx396_0 := (HB.out.cell (World.block_lt_of_cell? w _ hx396_0)).trans hx396_0
            replace p396 := eq_true p396
            replace q396 := eq_true q396
            obtain ⟨Ao18, co18, eo18⟩ := Kd.R_slice HO_5.out
            subst eo18
            have p397 : 0 ≤ ((ji14) : Int) := of_decide_eq_true (by first | (with_reducible assumption) | assumption)
            have q397 : (ji14) < (x5_2.length : Int) := of_decide_eq_true (by first | (with_reducible assumption) | assumption)
            obtain ⟨ad397, e397, hx397_0⟩ := Kd.at_bool (Kd.R_reads' HO_5.out).2.2 (ji14) p397 q397
            cases e397
            replace p397 := eq_true p397
            replace q397 := eq_true q397
            have p17 : 0 ≤ ((ji14) : Int) := of_decide_eq_true (by first | (with_reducible assumption) | assumption)
            have q17 : ((ji14) : Int) < ((x5_2.length : Int) : Int) := of_decide_eq_true (by first | (with_reducible assumption) | assumption)
            obtain ⟨go17, co17, eo17, gb17, gl17, cl17, HG17⟩ := Kd.R_form HO_5.out (by omega)
            (first | cases eo17 | (injection eo17 with ea_ en_ ec_; (first | subst ea_ | (injection ea_ with ea_; subst ea_)); subst ec_; clear en_))
            have GB17 := QT gb17
            have GG17 := QT HG17
            clear gb17 gl17 HG17
            (first | simp only [add_plain] at hx397_0 | skip)
            obtain ⟨hx17_0, hf17_0⟩ := Kd.R_celln false HO_5.out ((ji14) : Int) p17 q17
            replace p17 := eq_true p17
            replace q17 := eq_true q17
            have HP19 := Kd.R_putg HO_5.out ((ji14) : Int) (!(rdOf false x5_2 (ji14)))
            go_wp2_with (first | ((with_reducible refine gate_store (t := 4) (p := 44) rfl ?_); refine store_event (t := 4) (p := 44) (v := ?vo_w20) (w1 := (wr.setCell ⟨go17, ((ji14) : Int).toNat, none⟩ (.bool (!(rdOf false x5_2 (ji14)))))) ?hg ?ho ?hn ?hr ?_; (case ho => rfl); (case hg => rfl); (case hn => rfl); (case hr => first | (go_simp; done) | (go_simp; rfl)); intro w20 hw; have hg : wr.grownBy w20 (some go17) := (by rw [hw]; exact HP19.2); have hp_ : Kd.R Kd.bool 4 w20 w.heap.size (fun _ => True) (.slice (some ⟨go17, 0, none⟩) x5_2.length co18) y398 := (by rw [hw, Ny398.out]; exact HP19.1); clear HP19; have n0_ := QT (hp_); have n1_ := QT ((by rw [hw]; exact QK (HB.out) GB17.out : Below w.heap.size w w20)); clear HO_5; clear HB; have HO_5 := n0_; have HB := n1_; clear n0_ n1_; clear hg hw hp_))
            go_roundg k2
            case measure => have := HJ2.out; have := HK2.out; omega
            case rel => exact ⟨(y398), (wrap64 (x20_2 + 1)), (by first | rfl | (simp; done) | (simp [*]; done)), H', ⟨by have := HJ2.out; have := HK2.out; omega⟩, ⟨by (with_reducible repeat (first | apply Kd.R_alloc | apply Kd.R_drewN | apply Kd.R_drew)); exact HO_5.out⟩, ⟨by repeat (first | (with_reducible first | exact HB.out | apply QF | apply QC | apply QE) | exact HB.out)⟩⟩
           ·rw [if_neg c16] at H
            exact absurd H (by simp)
          ·rw [if_neg c15] at H
           exact absurd H (by simp)
         ·rw [if_neg c13] at H
          have c13b0 : ((rd l0 x20_2) == (-1)) = false := beq_eq_false_iff_ne.mpr c13
          have c13b1 : ((rd l0 x20_2) != (-1)) = true := bne_iff_ne.mpr c13
          by_cases c21 : (rd l0 x20_2) = (-2)
          ·rw [if_pos c21] at H
           have c21b0 : ((rd l0 x20_2) == (-2)) = true := beq_iff_eq.mpr c21
           have c21b1 : ((rd l0 x20_2) != (-2)) = false := bne_eq_false_iff_eq.mpr c21
           clear c21
           obtain ⟨ji22, hji22⟩ : ∃ j_ : Int, (wrap64 ((x5_2.length : Int) - 2)) = j_ := ⟨_, rfl⟩
           replace H : (if 0 ≤ (ji22) then (if (ji22) < (x5_2.length : Int) then (if rdOf false x5_2 (ji22) = true then (if 0 ≤ (wrap64 ((x5_2.length : Int) - 1)) then (if (wrap64 ((x5_2.length : Int) - 1)) < (x5_2.length : Int) then (if (ji22) ≤ (x5_2.length : Int) then ((some (x5_2.take ((ji22) : Int).toNat : List Bool)).bind fun y401 => (if y401.length < 140737488355328 then (impl_Matches.l0 k2 a1 (y401 ++ [rdOf false x5_2 (wrap64 ((x5_2.length : Int) - 1))]) l0 (l0.length : Int) (wrap64 (x20_2 + 1))) else (none))) else (none)) else (none)) else (none)) else (if (ji22) ≤ (x5_2.length : Int) then ((some (x5_2.take ((ji22) : Int).toNat : List Bool)).bind fun y407 => (if y407.length < 140737488355328 then (impl_Matches.l0 k2 a1 (y407 ++ [false]) l0 (l0.length : Int) (wrap64 (x20_2 + 1))) else (none))) else (none))) else (none)) else (none)) = some r := by first | (rw [hji22] at H; exact H) | (simp only [hji22] at H ⊢; exact H)
           have hji22w : (IntKind.i64.wrap ((x5_2.length : Int) - 2)) = ji22 := (QH _).trans hji22
           by_cases c23 : 0 ≤ (ji22)
           ·rw [if_pos c23] at H
            have c23b0 : decide (0 ≤ (ji22)) = true := decide_eq_true c23
            clear c23
            by_cases c24 : (ji22) < (x5_2.length : Int)
            ·rw [if_pos c24] at H
             have c24b0 : decide ((ji22) < (x5_2.length : Int)) = true := decide_eq_true c24
             clear c24
             obtain ⟨bq25, hbq25⟩ : ∃ b_ : Bool, b_ = (rdOf false x5_2 (ji22)) := ⟨_, rfl⟩
             replace H : (if bq25 = true then (if 0 ≤ (wrap64 ((x5_2.length : Int) - 1)) then (if (wrap64 ((x5_2.length : Int) - 1)) < (x5_2.length : Int) then (if (ji22) ≤ (x5_2.length : Int) then ((some (x5_2.take ((ji22) : Int).toNat : List Bool)).bind fun y401 => (if y401.length < 140737488355328 then (impl_Matches.l0 k2 a1 (y401 ++ [rdOf false x5_2 (wrap64 ((x5_2.length : Int) - 1))]) l0 (l0.length : Int) (wrap64 (x20_2 + 1))) else (none))) else (none)) else (none)) else (none)) else (if (ji22) ≤ (x5_2.length : Int) then ((some (x5_2.take ((ji22) : Int).toNat : List Bool)).bind fun y407 => (if y407.length < 140737488355328 then (impl_Matches.l0 k2 a1 (y407 ++ [false]) l0 (l0.length : Int) (wrap64 (x20_2 + 1))) else (none))) else (none))) = some r := by rw [← hbq25] at H; exact H
             have Nbq25 := QT hbq25
             clear hbq25
             by_cases c26 : bq25 = true
             ·subst c26
              rw [if_pos rfl] at H
              obtain ⟨ji27, hji27⟩ : ∃ j_ : Int, (wrap64 ((x5_2.length : Int) - 1)) = j_ := ⟨_, rfl⟩
              replace H : (if 0 ≤ (ji27) then (if (ji27) < (x5_2.length : Int) then (if (ji22) ≤ (x5_2.length : Int) then ((some (x5_2.take ((ji22) : Int).toNat : List Bool)).bind fun y401 => (if y401.length < 140737488355328 then (impl_Matches.l0 k2 a1 (y401 ++ [rdOf false x5_2 (ji27)]) l0 (l0.length : Int) (wrap64 (x20_2 + 1))) else (none))) else (none)) else (none)) else (none)) = some r := by first | (rw [hji27] at H; exact H) | (simp only [hji27] at H ⊢; exact H)
              have hji27w : (IntKind.i64.wrap ((x5_2.length : Int) - 1)) = ji27 := (QH _).trans hji27
              by_cases c28 : 0 ≤ (ji27)
              ·rw [if_pos c28] at H
               have c28b0 : decide (0 ≤ (ji27)) = true := decide_eq_true c28
               clear c28
               by_cases c29 : (ji27) < (x5_2.length : Int)
               ·rw [if_pos c29] at H
                have c29b0 : decide ((ji27) < (x5_2.length : Int)) = true := decide_eq_true c29
                clear c29
                by_cases c30 : (ji22) ≤ (x5_2.length : Int)
                ·rw [if_pos c30] at H
                 have c30b0 := eq_true c30
                 have c30b1 : decide ((ji22) ≤ (x5_2.length : Int)) = true := decide_eq_true c30
                 clear c30
                 obtain ⟨y401, hy401⟩ : ∃ y_ : List Bool, y_ = (x5_2.take ((ji22) : Int).toNat) := ⟨_, rfl⟩
                 replace H : (if y401.length < 140737488355328 then (impl_Matches.l0 k2 a1 (y401 ++ [rdOf false x5_2 (ji27)]) l0 (l0.length : Int) (wrap64 (x20_2 + 1))) else (none)) = some r := by first | (rw [hy401]; with_reducible exact H) | (have H2_ := (Option.bind_some _ _).symm.trans H; rw [hy401]; with_reducible exact H2_) | (have H2_ := (Option.bind_some _ _).symm.trans H; with_reducible exact H2_) | with_reducible exact H | (rw [hy401]; exact H) | exact H
                 have Ny401 := QT hy401
                 clear hy401
                 by_cases c31 : y401.length < 140737488355328
                 ·rw [if_pos c31] at H
                  have LMc31 := QT c31
                  clear c31
                  obtain ⟨y404, hy404⟩ : ∃ y_ : List Bool, y_ = (y401 ++ [rdOf false x5_2 (ji27)]) := ⟨_, rfl⟩
                  replace H : (impl_Matches.l0 k2 a1 y404 l0 (l0.length : Int) (wrap64 (x20_2 + 1))) = some r := by first | (rw [hy404]; with_reducible exact H) | (have H2_ := (Option.bind_some _ _).symm.trans H; rw [hy404]; with_reducible exact H2_) | (have H2_ := (Option.bind_some _ _).symm.trans H; with_reducible exact H2_) | with_reducible exact H | (rw [hy404]; exact H) | exact H
                  have Ny404 := QT hy404
                  clear hy404
                  have H' := QT H
                  clear H
                  have p396 : 0 ≤ (x20_2 : Int) := of_decide_eq_true (by first | (with_reducible assumption) | assumption)
                  have q396 : x20_2 < (l0.length : Int) := of_decide_eq_true (by first | (with_reducible assumption) | assumption)
                  obtain ⟨ad396, e396, hx396_0⟩ := Kd.at_int HR0.out x20_2 p396 q396
                  cases e396
                  replace hx396_0 := (HB.out.cell (World.block_lt_of_cell? w _ hx396_0)).trans hx396_0
                  replace p396 := eq_true p396
                  replace q396 := eq_true q396
                  obtain ⟨Ao32, co32, eo32⟩ := Kd.R_slice HO_5.out
                  subst eo32
                  try go_wp2
                  have n0_ := QT (Kd.R_drew HO_5.out)
                  have n1_ := QT (QE HB.out)
                  clear HO_5
                  clear HB
                  have HO_5 := n0_
                  have HB := n1_
                  clear n0_ n1_
                  have p399 : 0 ≤ ((ji22) : Int) := of_decide_eq_true (by first | (with_reducible assumption) | assumption)
                  have q399 : (ji22) < (x5_2.length : Int) := of_decide_eq_true (by first | (with_reducible assumption) | assumption)
                  obtain ⟨ad399, e399, hx399_0⟩ := Kd.at_bool (Kd.R_reads' HO_5.out).2.2 (ji22) p399 q399
                  (try rw [← Nbq25.out] at hx399_0)
                  cases e399
                  replace p399 := eq_true p399
                  replace q399 := eq_true q399
                  have p400 : 0 ≤ ((ji27) : Int) := of_decide_eq_true (by first | (with_reducible assumption) | assumption)
                  have q400 : (ji27) < (x5_2.length : Int) := of_decide_eq_true (by first | (with_reducible assumption) | assumption)
                  obtain ⟨ad400, e400, hx400_0⟩ := Kd.at_bool (Kd.R_reads' HO_5.out).2.2 (ji27) p400 q400
                  (try rw [← Nbq25.out] at hx400_0)
                  obtain rfl : ad399 = ad400 := (by injection e400)
                  replace p400 := eq_true p400
                  replace q400 := eq_true q400
                  have q34 : ((ji22) : Int) ≤ ((x5_2.length : Int) : Int) := of_decide_eq_true (by first | (with_reducible assumption) | assumption)
                  obtain ⟨i034, hi034, _, hsz34, _⟩ := info_parts info4
                  have hcut34 := cut_to (P := Try.prog) 126 4 .i64 Try.underlying126 hi034 (some ad399) x5_2.length co32 (ji22) (of_decide_eq_true (by first | (with_reducible assumption) | assumption)) q34 (Kd.R_reads' HO_5.out).2.1
                  have hr34 := Kd.R_take (m := ((ji22) : Int).toNat) HO_5.out (by omega)
                  have hy34 : y401.length = ((ji22) : Int).toNat := (by rw [Ny401.out, List.length_take]; omega)
                  rw [← Ny401.out] at hr34
                  rw [← hy34] at hr34 hcut34
                  clear hy34 hi034 hsz34 HO_5
                  have HO403 := QT hr34
                  clear hr34
                  replace q34 := eq_true q34
                  refine start_ (n := 19) (S := fun w' => w'.cell? (ad399.add ((ji22)).toNat) = some (.bool true) ∧ w'.cell? (ad399.add ((ji27)).toNat) = some (.bool (rdOf false x5_2 (ji27)))) (ds := [16, 17]) #[Y0,Y0,Y0,Y0,Y0,Y0,Y0,Y0,Y0,Y0,Y0,Y0,Y0,Y0,Y0,Y0,Y0,Y0,Y0] (by kernel_rfl) rfl rfl ⟨hx399_0, hx400_0⟩ (fun hHeld => ?_); refine with_tabW impl_Matches.tab13 impl_Matches.bits13 (fun HT_ HW_ => ?_)
                  generalize wr.drew = w33 at HB HO403 hx399_0 hx400_0 hHeld ⊢
                  refine QJ (i := 0) (N := some 47) (v := ?_) (a' := ?_) #[Y1,Y0,Y0,Y0,Y0,Y0,Y0,Y0,Y0,Y0,Y0,Y0,Y0,Y0,Y0,Y0,Y0,Y0,Y0] rfl rfl (QG HT_.out (by kernel_rfl)) (fun _ _ _ h => h) (Or.inl ⟨by rfl, ?_⟩) ?_ ?_
                  rotate_left
                  ·intro w'
                   go_simp
                   with_reducible rfl
                  rotate_left
                  ·simp only [Act.put, QP, QR, QS, QH, QI]
                   rfl
                  refine QJ (i := 1) (N := some 48) (v := ?_) (a' := ?_) #[Y1,Y1,Y0,Y0,Y0,Y0,Y0,Y0,Y0,Y0,Y0,Y0,Y0,Y0,Y0,Y0,Y0,Y0,Y0] rfl rfl (QG HT_.out (by kernel_rfl)) (fun _ _ _ h => h) (Or.inl ⟨by rfl, ?_⟩) ?_ ?_
                  rotate_left
                  ·intro w'
                   go_simp
                   with_reducible rfl
                  rotate_left
                  ·simp only [Act.put, QP, QR, QS, QH, QI]
                   rfl
                  refine QJ (i := 2) (N := some 49) (v := ?_) (a' := ?_) #[Y1,Y1,Y1,Y0,Y0,Y0,Y0,Y0,Y0,Y0,Y0,Y0,Y0,Y0,Y0,Y0,Y0,Y0,Y0] rfl rfl (QG HT_.out (by kernel_rfl)) (fun _ _ _ h => h) (Or.inl ⟨by rfl, ?_⟩) ?_ ?_
                  rotate_left
                  ·intro w'
                   go_simp
                   with_reducible rfl
                  rotate_left
                  ·simp only [Act.put, QP, QR, QS, QH, QI]
                   rfl
                  refine QJ (i := 4) (N := some 51) (v := ?_) (a' := ?_) #[Y1,Y1,Y1,Y0,Y1,Y0,Y0,Y0,Y0,Y0,Y0,Y0,Y0,Y0,Y0,Y0,Y0,Y0,Y0] rfl rfl (QG HT_.out (by kernel_rfl)) (fun _ _ _ h => h) (Or.inl ⟨by rfl, ?_⟩) ?_ ?_
                  rotate_left
                  ·intro w'
                   go_simp
                   with_reducible rfl
                  rotate_left
                  ·simp only [Act.put, QP, QR, QS, QH, QI]
                   rfl
                  refine QJ (i := 5) (N := some 52) (v := ?_) (a' := ?_) #[Y1,Y1,Y1,Y0,Y1,Y1,Y0,Y0,Y0,Y0,Y0,Y0,Y0,Y0,Y0,Y0,Y0,Y0,Y0] rfl rfl (QG HT_.out (by kernel_rfl)) (fun _ _ _ h => h) (Or.inl ⟨by rfl, ?_⟩) ?_ ?_
                  rotate_left
                  ·intro w'
                   go_simp
                   with_reducible rfl
                  rotate_left
                  ·simp only [Act.put, QP, QR, QS, QH, QI]
                   rfl
                  refine QJ (i := 6) (N := some 53) (v := ?_) (a' := ?_) #[Y1,Y1,Y1,Y0,Y1,Y1,Y1,Y0,Y0,Y0,Y0,Y0,Y0,Y0,Y0,Y0,Y0,Y0,Y0] rfl rfl (QG HT_.out (by kernel_rfl)) (fun _ _ _ h => h) (Or.inl ⟨by rfl, ?_⟩) ?_ ?_
                  rotate_left
                  ·intro w'
                   go_simp
                   with_reducible rfl
                  rotate_left
                  ·simp only [Act.put, QP, QR, QS, QH, QI]
                   rfl
                  refine QJ (i := 7) (N := some 54) (v := ?_) (a' := ?_) #[Y1,Y1,Y1,Y0,Y1,Y1,Y1,Y1,Y0,Y0,Y0,Y0,Y0,Y0,Y0,Y0,Y0,Y0,Y0] rfl rfl (QG HT_.out (by kernel_rfl)) (fun _ _ _ h => h) (Or.inl ⟨by rfl, ?_⟩) ?_ ?_
                  rotate_left
                  ·intro w'
                   go_simp
                   with_reducible rfl
                  rotate_left
                  ·simp only [Act.put, QP, QR, QS, QH, QI]
                   rfl
                  refine QJ (i := 3) (N := some 50) (v := ?_) (a' := ?_) #[Y1,Y1,Y1,Y1,Y1,Y1,Y1,Y1,Y0,Y0,Y0,Y0,Y0,Y0,Y0,Y0,Y0,Y0,Y0] rfl rfl (QG HT_.out (by kernel_rfl)) (fun _ _ _ h => h) (Or.inl ⟨by rfl, ?_⟩) ?_ ?_
                  rotate_left
                  ·intro w'
                   go_simp
                   with_reducible rfl
                  rotate_left
                  ·simp only [Act.put, QP, QR, QS, QH, QI]
                   rfl
                  refine take_ (i := 8) (N := some 55) (v := ?_) (a' := ?_) #[Y1,Y1,Y1,Y1,Y1,Y1,Y1,Y1,Y1,Y0,Y0,Y0,Y0,Y0,Y0,Y0,Y0,Y0,Y0] rfl rfl (take_ofW HT_.out HW_.out (by kernel_rfl)) (fun _ _ _ h => h) (Or.inl ⟨by rfl, ?_⟩) hHeld ?_ ?_
                  rotate_left
                  ·rintro w' ⟨s0, s1⟩
                   go_simp
                   with_reducible rfl
                  rotate_left
                  ·simp only [Act.put, QP, QR, QS, QH, QI]
                   rfl
                  refine QJ (i := 9) (N := some 56) (v := ?_) (a' := ?_) #[Y1,Y1,Y1,Y1,Y1,Y1,Y1,Y1,Y1,Y1,Y0,Y0,Y0,Y0,Y0,Y0,Y0,Y0,Y0] rfl rfl (QG HT_.out (by kernel_rfl)) (fun _ _ _ h => h) (Or.inl ⟨by rfl, ?_⟩) ?_ ?_
                  rotate_left
                  ·intro w'
                   go_simp
                   with_reducible rfl
                  rotate_left
                  ·simp only [Act.put, QP, QR, QS, QH, QI]
                   rfl
                  refine QJ (i := 10) (N := some 57) (v := ?_) (a' := ?_) #[Y1,Y1,Y1,Y1,Y1,Y1,Y1,Y1,Y1,Y1,Y1,Y0,Y0,Y0,Y0,Y0,Y0,Y0,Y0] rfl rfl (QG HT_.out (by kernel_rfl)) (fun _ _ _ h => h) (Or.inl ⟨by rfl, ?_⟩) ?_ ?_
                  rotate_left
                  ·intro w'
                   go_simp
                   with_reducible rfl
                  rotate_left
                  ·simp only [Act.put, QP, QR, QS, QH, QI]
                   rfl
                  refine QJ (i := 11) (N := some 58) (v := ?_) (a' := ?_) #[Y1,Y1,Y1,Y1,Y1,Y1,Y1,Y1,Y1,Y1,Y1,Y1,Y0,Y0,Y0,Y0,Y0,Y0,Y0] rfl rfl (QG HT_.out (by kernel_rfl)) (fun _ _ _ h => h) (Or.inl ⟨by rfl, ?_⟩) ?_ ?_
                  rotate_left
                  ·intro w'
                   go_simp
                   with_reducible rfl
                  rotate_left
                  ·simp only [Act.put, QP, QR, QS, QH, QI]
                   rfl
                  refine QJ (i := 12) (N := some 59) (v := ?_) (a' := ?_) #[Y1,Y1,Y1,Y1,Y1,Y1,Y1,Y1,Y1,Y1,Y1,Y1,Y1,Y0,Y0,Y0,Y0,Y0,Y0] rfl rfl (QG HT_.out (by kernel_rfl)) (fun _ _ _ h => h) (Or.inl ⟨by rfl, ?_⟩) ?_ ?_
                  rotate_left
                  ·intro w'
                   go_simp
                   with_reducible rfl
                  rotate_left
                  ·simp only [Act.put, QP, QR, QS, QH, QI]
                   rfl
                  refine QJ (i := 13) (N := some 60) (v := ?_) (a' := ?_) #[Y1,Y1,Y1,Y1,Y1,Y1,Y1,Y1,Y1,Y1,Y1,Y1,Y1,Y1,Y0,Y0,Y0,Y0,Y0] rfl rfl (QG HT_.out (by kernel_rfl)) (fun _ _ _ h => h) (Or.inl ⟨by rfl, ?_⟩) ?_ ?_
                  rotate_left
                  ·intro w'
                   go_simp
                   with_reducible rfl
                  rotate_left
                  ·simp only [Act.put, QP, QR, QS, QH, QI]
                   rfl
                  refine take_ (i := 14) (N := some 61) (v := ?_) (a' := ?_) #[Y1,Y1,Y1,Y1,Y1,Y1,Y1,Y1,Y1,Y1,Y1,Y1,Y1,Y1,Y1,Y0,Y0,Y0,Y0] rfl rfl (take_ofW HT_.out HW_.out (by kernel_rfl)) (fun _ _ _ h => h) (Or.inl ⟨by rfl, ?_⟩) hHeld ?_ ?_
                  rotate_left
                  ·rintro w' ⟨s0, s1⟩
                   go_simp
                   with_reducible rfl
                  rotate_left
                  ·simp only [Act.put, QP, QR, QS, QH, QI]
                   rfl
                  refine QJ (i := 15) (N := some 62) (v := ?_) (a' := ?_) #[Y1,Y1,Y1,Y1,Y1,Y1,Y1,Y1,Y1,Y1,Y1,Y1,Y1,Y1,Y1,Y1,Y0,Y0,Y0] rfl rfl (QG HT_.out (by kernel_rfl)) (fun _ _ _ h => h) (Or.inl ⟨by rfl, ?_⟩) ?_ ?_
                  rotate_left
                  ·intro w'
                   go_simp
                   with_reducible rfl
                  rotate_left
                  ·simp only [Act.put, QP, QR, QS, QH, QI]
                   rfl
                  refine last_ (i := 16) (N := some 63) #[Y1,Y1,Y1,Y1,Y1,Y1,Y1,Y1,Y1,Y1,Y1,Y1,Y1,Y1,Y1,Y1,Y1,Y0,Y0] rfl rfl (one_of HT_.out (by kernel_rfl)) (by decide) (fun K hK => ?_)
                  refine value_ (w1 := ?_) (v := ?_) (by rfl) rfl ?_ ?_
                  rotate_left 2
                  ·go_simp
                   constructor
                   ·rfl
                   ·rfl
                  refine hK.out _ _ ?_
                  clear hK K
                  refine norm_ (a' := ?_) ?_ ?_
                  rotate_left
                  ·show Act.put _ (some 63) _ = _
                   simp only [Act.put, QP, QR, QS, QH, QI]
                   rfl
                  refine last_ (i := 17) (N := some 64) #[Y1,Y1,Y1,Y1,Y1,Y1,Y1,Y1,Y1,Y1,Y1,Y1,Y1,Y1,Y1,Y1,Y1,Y1,Y0] rfl rfl (one_of HT_.out (by kernel_rfl)) (by decide) (fun K hK => ?_)
                  refine Kd.R_append_step Kd.bool (w0 := w) w.heap.size (by rfl) (.tmp 50) (.tmp 63) 126 4 (.bool false) 1 rfl Try.underlying126 info4 rfl (by decide) (by omega) (.slice (some ad399) y401.length co32) y401 (rdOf false x5_2 (ji27)) [.bool (rdOf false x5_2 (ji27))] (fun _ => True) (fun _ => False) rfl rfl ?aP (fun _ hk => hk.elim) ?aF ?aO ?aB ?aS ?aL ?_
                  (case aP => exact rfl)
                  (case aB => exact (by repeat (first | (with_reducible first | exact HB.out | apply QF | apply QC | apply QE) | exact HB.out)))
                  (case aF => exact (fun _ _ => trivial))
                  (case aO => exact (by (with_reducible repeat (first | apply Kd.R_alloc | apply Kd.R_drewN | apply Kd.R_drew)); exact HO403.out))
                  (case aS => exact (below_size (by repeat (first | (with_reducible first | exact HB.out | apply QF | apply QC | apply QE) | exact HB.out))))
                  (case aL => have := LMc31.out; omega)
                  intro v405 w35 ho hb hg hat
                  rw [← Ny404.out] at ho
                  have n0_ := QT (hb)
                  have n1_ := QT (ho)
                  clear HB
                  clear HO403
                  have HB := n0_
                  have HO406 := n1_
                  clear n0_ n1_
                  clear ho hb hg hat
                  refine hK.out _ _ ?_
                  clear hK K
                  refine norm_ (a' := ?_) ?_ ?_
                  rotate_left
                  ·show Act.put _ (some 64) _ = _
                   simp only [Act.put, QP, QR, QS, QH, QI]
                   rfl
                  refine QJ (i := 18) (N := some 5) (v := ?_) (a' := ?_) #[Y1,Y1,Y1,Y1,Y1,Y1,Y1,Y1,Y1,Y1,Y1,Y1,Y1,Y1,Y1,Y1,Y1,Y1,Y1] rfl rfl (QG HT_.out (by kernel_rfl)) (fun _ _ _ h => h) (Or.inl ⟨by rfl, ?_⟩) ?_ ?_
                  rotate_left
                  ·intro w'
                   go_simp
                   with_reducible rfl
                  rotate_left
                  ·simp only [Act.put, QP, QR, QS, QH, QI]
                   rfl
                  refine done_ (done_of HT_.out (by kernel_rfl)) ?_
                  try go_wp2
                  go_roundg k2
                  case measure => have := HJ2.out; have := HK2.out; omega
                  case rel => exact ⟨(y404), (wrap64 (x20_2 + 1)), (by first | rfl | (simp; done) | (simp [*]; done)), H', ⟨by have := HJ2.out; have := HK2.out; omega⟩, ⟨by (with_reducible repeat (first | apply Kd.R_alloc | apply Kd.R_drewN | apply Kd.R_drew)); exact HO406.out⟩, ⟨by repeat (first | (with_reducible first | exact HB.out | apply QF | apply QC | apply QE) | exact HB.out)⟩⟩
                 ·rw [if_neg c31] at H
                  exact absurd H (by simp)
                ·rw [if_neg c30] at H
                 exact absurd H (by simp)
               ·rw [if_neg c29] at H
                exact absurd H (by simp)
              ·rw [if_neg c28] at H
               exact absurd H (by simp)
             ·replace c26 := Bool.eq_false_iff.mpr c26
              subst c26
              rw [if_neg (show ¬ (false = true) by decide)] at H
              by_cases c36 : (ji22) ≤ (x5_2.length : Int)
              ·rw [if_pos c36] at H
               have c36b0 := eq_true c36
               have c36b1 : decide ((ji22) ≤ (x5_2.length : Int)) = true := decide_eq_true c36
               clear c36
               obtain ⟨y407, hy407⟩ : ∃ y_ : List Bool, y_ = (x5_2.take ((ji22) : Int).toNat) := ⟨_, rfl⟩
               replace H : (if y407.length < 140737488355328 then (impl_Matches.l0 k2 a1 (y407 ++ [false]) l0 (l0.length : Int) (wrap64 (x20_2 + 1))) else (none)) = some r := by first | (rw [hy407]; with_reducible exact H) | (have H2_ := (Option.bind_some _ _).symm.trans H; rw [hy407]; with_reducible exact H2_) | (have H2_ := (Option.bind_some _ _).symm.trans H; with_reducible exact H2_) | with_reducible exact H | (rw [hy407]; exact H) | exact H
               have Ny407 := QT hy407
               clear hy407
               by_cases c37 : y407.length < 140737488355328
               ·rw [if_pos c37] at H
                have LMc37 := QT c37
                clear c37
                obtain ⟨y410, hy410⟩ : ∃ y_ : List Bool, y_ = (y407 ++ [false]) := ⟨_, rfl⟩
                replace H : (impl_Matches.l0 k2 a1 y410 l0 (l0.length : Int) (wrap64 (x20_2 + 1))) = some r := by first | (rw [hy410]; with_reducible exact H) | (have H2_ := (Option.bind_some _ _).symm.trans H; rw [hy410]; with_reducible exact H2_) | (have H2_ := (Option.bind_some _ _).symm.trans H; with_reducible exact H2_) | with_reducible exact H | (rw [hy410]; exact H) | exact H
                have Ny410 := QT hy410
                clear hy410
                have H' := QT H
                clear H
                have p396 : 0 ≤ (x20_2 : Int) := of_decide_eq_true (by first | (with_reducible assumption) | assumption)
                have q396 : x20_2 < (l0.length : Int) := of_decide_eq_true (by first | (with_reducible assumption) | assumption)
                obtain ⟨ad396, e396, hx396_0⟩ := Kd.at_int HR0.out x20_2 p396 q396
                cases e396
                replace hx396_0 := (HB.out.cell (World.block_lt_of_cell? w _ hx396_0)).trans hx396_0
                replace p396 := eq_true p396
                replace q396 := eq_true q396
                obtain ⟨Ao38, co38, eo38⟩ := Kd.R_slice HO_5.out
                subst eo38
                try go_wp2
                have n0_ := QT (Kd.R_drew HO_5.out)
                have n1_ := QT (QE HB.out)
                clear HO_5
                clear HB
                have HO_5 := n0_
                have HB := n1_
                clear n0_ n1_
                have p399 : 0 ≤ ((ji22) : Int) := of_decide_eq_true (by first | (with_reducible assumption) | assumption)
                have q399 : (ji22) < (x5_2.length : Int) := of_decide_eq_true (by first | (with_reducible assumption) | assumption)
                obtain ⟨ad399, e399, hx399_0⟩ := Kd.at_bool (Kd.R_reads' HO_5.out).2.2 (ji22) p399 q399
                (try rw [← Nbq25.out] at hx399_0)
                cases e399
                replace p399 := eq_true p399
                replace q399 := eq_true q399
                have q40 : ((ji22) : Int) ≤ ((x5_2.length : Int) : Int) := of_decide_eq_true (by first | (with_reducible assumption) | assumption)
                obtain ⟨i040, hi040, _, hsz40, _⟩ := info_parts info4
                have hcut40 := cut_to (P := Try.prog) 126 4 .i64 Try.underlying126 hi040 (some ad399) x5_2.length co38 (ji22) (of_decide_eq_true (by first | (with_reducible assumption) | assumption)) q40 (Kd.R_reads' HO_5.out).2.1
                have hr40 := Kd.R_take (m := ((ji22) : Int).toNat) HO_5.out (by omega)
                have hy40 : y407.length = ((ji22) : Int).toNat := (by rw [Ny407.out, List.length_take]; omega)
                rw [← Ny407.out] at hr40
                rw [← hy40] at hr40 hcut40
                clear hy40 hi040 hsz40 HO_5
                have HO409 := QT hr40
                clear hr40
                replace q40 := eq_true q40
                refine start_ (n := 19) (S := fun w' => w'.cell? (ad399.add ((ji22)).toNat) = some (.bool false)) (ds := [16, 17]) #[Y0,Y0,Y0,Y0,Y0,Y0,Y0,Y0,Y0,Y0,Y0,Y0,Y0,Y0,Y0,Y0,Y0,Y0,Y0] (by kernel_rfl) rfl rfl (hx399_0) (fun hHeld => ?_); refine with_tabW impl_Matches.tab13 impl_Matches.bits13 (fun HT_ HW_ => ?_)
                generalize wr.drew = w39 at HB HO409 hx399_0 hHeld ⊢
                refine QJ (i := 0) (N := some 47) (v := ?_) (a' := ?_) #[Y1,Y0,Y0,Y0,Y0,Y0,Y0,Y0,Y0,Y0,Y0,Y0,Y0,Y0,Y0,Y0,Y0,Y0,Y0] rfl rfl (QG HT_.out (by kernel_rfl)) (fun _ _ _ h => h) (Or.inl ⟨by rfl, ?_⟩) ?_ ?_
                rotate_left
                ·intro w'
                 go_simp
                 with_reducible rfl
                rotate_left
                ·simp only [Act.put, QP, QR, QS, QH, QI]
                 rfl
                refine QJ (i := 1) (N := some 48) (v := ?_) (a' := ?_) #[Y1,Y1,Y0,Y0,Y0,Y0,Y0,Y0,Y0,Y0,Y0,Y0,Y0,Y0,Y0,Y0,Y0,Y0,Y0] rfl rfl (QG HT_.out (by kernel_rfl)) (fun _ _ _ h => h) (Or.inl ⟨by rfl, ?_⟩) ?_ ?_
                rotate_left
                ·intro w'
                 go_simp
                 with_reducible rfl
                rotate_left
                ·simp only [Act.put, QP, QR, QS, QH, QI]
                 rfl
                refine QJ (i := 2) (N := some 49) (v := ?_) (a' := ?_) #[Y1,Y1,Y1,Y0,Y0,Y0,Y0,Y0,Y0,Y0,Y0,Y0,Y0,Y0,Y0,Y0,Y0,Y0,Y0] rfl rfl (QG HT_.out (by kernel_rfl)) (fun _ _ _ h => h) (Or.inl ⟨by rfl, ?_⟩) ?_ ?_
                rotate_left
                ·intro w'
                 go_simp
                 with_reducible rfl
                rotate_left
                ·simp only [Act.put, QP, QR, QS, QH, QI]
                 rfl
                refine QJ (i := 4) (N := some 51) (v := ?_) (a' := ?_) #[Y1,Y1,Y1,Y0,Y1,Y0,Y0,Y0,Y0,Y0,Y0,Y0,Y0,Y0,Y0,Y0,Y0,Y0,Y0] rfl rfl (QG HT_.out (by kernel_rfl)) (fun _ _ _ h => h) (Or.inl ⟨by rfl, ?_⟩) ?_ ?_
                rotate_left
                ·intro w'
                 go_simp
                 with_reducible rfl
                rotate_left
                ·simp only [Act.put, QP, QR, QS, QH, QI]
                 rfl
                refine QJ (i := 5) (N := some 52) (v := ?_) (a' := ?_) #[Y1,Y1,Y1,Y0,Y1,Y1,Y0,Y0,Y0,Y0,Y0,Y0,Y0,Y0,Y0,Y0,Y0,Y0,Y0] rfl rfl (QG HT_.out (by kernel_rfl)) (fun _ _ _ h => h) (Or.inl ⟨by rfl, ?_⟩) ?_ ?_
                rotate_left
                ·intro w'
                 go_simp
                 with_reducible rfl
                rotate_left
                ·simp only [Act.put, QP, QR, QS, QH, QI]
                 rfl
                refine QJ (i := 6) (N := some 53) (v := ?_) (a' := ?_) #[Y1,Y1,Y1,Y0,Y1,Y1,Y1,Y0,Y0,Y0,Y0,Y0,Y0,Y0,Y0,Y0,Y0,Y0,Y0] rfl rfl (QG HT_.out (by kernel_rfl)) (fun _ _ _ h => h) (Or.inl ⟨by rfl, ?_⟩) ?_ ?_
                rotate_left
                ·intro w'
                 go_simp
                 with_reducible rfl
                rotate_left
                ·simp only [Act.put, QP, QR, QS, QH, QI]
                 rfl
                refine QJ (i := 7) (N := some 54) (v := ?_) (a' := ?_) #[Y1,Y1,Y1,Y0,Y1,Y1,Y1,Y1,Y0,Y0,Y0,Y0,Y0,Y0,Y0,Y0,Y0,Y0,Y0] rfl rfl (QG HT_.out (by kernel_rfl)) (fun _ _ _ h => h) (Or.inl ⟨by rfl, ?_⟩) ?_ ?_
                rotate_left
                ·intro w'
                 go_simp
                 with_reducible rfl
                rotate_left
                ·simp only [Act.put, QP, QR, QS, QH, QI]
                 rfl
                refine QJ (i := 3) (N := some 50) (v := ?_) (a' := ?_) #[Y1,Y1,Y1,Y1,Y1,Y1,Y1,Y1,Y0,Y0,Y0,Y0,Y0,Y0,Y0,Y0,Y0,Y0,Y0] rfl rfl (QG HT_.out (by kernel_rfl)) (fun _ _ _ h => h) (Or.inl ⟨by rfl, ?_⟩) ?_ ?_
                rotate_left
                ·intro w'
                 go_simp
                 with_reducible rfl
                rotate_left
                ·simp only [Act.put, QP, QR, QS, QH, QI]
                 rfl
                refine take_ (i := 8) (N := some 55) (v := ?_) (a' := ?_) #[Y1,Y1,Y1,Y1,Y1,Y1,Y1,Y1,Y1,Y0,Y0,Y0,Y0,Y0,Y0,Y0,Y0,Y0,Y0] rfl rfl (take_ofW HT_.out HW_.out (by kernel_rfl)) (fun _ _ _ h => h) (Or.inl ⟨by rfl, ?_⟩) hHeld ?_ ?_
                rotate_left
                ·intro w' s0
                 go_simp
                 with_reducible rfl
                rotate_left
                ·simp only [Act.put, QP, QR, QS, QH, QI]
                 rfl
                refine QJ (i := 9) (N := some 56) (v := ?_) (a' := ?_) #[Y1,Y1,Y1,Y1,Y1,Y1,Y1,Y1,Y1,Y1,Y0,Y0,Y0,Y0,Y0,Y0,Y0,Y0,Y0] rfl rfl (QG HT_.out (by kernel_rfl)) (fun _ _ _ h => h) (Or.inl ⟨by rfl, ?_⟩) ?_ ?_
                rotate_left
                ·intro w'
                 go_simp
                 with_reducible rfl
                rotate_left
                ·simp only [Act.put, QP, QR, QS, QH, QI]
                 rfl
                refine QJ (i := 10) (N := some 57) (v := undef) (a' := ?_) #[Y1,Y1,Y1,Y1,Y1,Y1,Y1,Y1,Y1,Y1,Y1,Y0,Y0,Y0,Y0,Y0,Y0,Y0,Y0] rfl rfl (QG HT_.out (by kernel_rfl)) (fun _ _ _ h => h) (Or.inr ⟨by rfl, rfl⟩) ?_ ?_
                rotate_left
                ·simp only [Act.put, QP, QR, QS, QH, QI]
                 rfl
                refine QJ (i := 11) (N := some 58) (v := undef) (a' := ?_) #[Y1,Y1,Y1,Y1,Y1,Y1,Y1,Y1,Y1,Y1,Y1,Y1,Y0,Y0,Y0,Y0,Y0,Y0,Y0] rfl rfl (QG HT_.out (by kernel_rfl)) (fun _ _ _ h => h) (Or.inr ⟨by rfl, rfl⟩) ?_ ?_
                rotate_left
                ·simp only [Act.put, QP, QR, QS, QH, QI]
                 rfl
                refine QJ (i := 12) (N := some 59) (v := undef) (a' := ?_) #[Y1,Y1,Y1,Y1,Y1,Y1,Y1,Y1,Y1,Y1,Y1,Y1,Y1,Y0,Y0,Y0,Y0,Y0,Y0] rfl rfl (QG HT_.out (by kernel_rfl)) (fun _ _ _ h => h) (Or.inr ⟨by rfl, rfl⟩) ?_ ?_
                rotate_left
                ·simp only [Act.put, QP, QR, QS, QH, QI]
                 rfl
                refine QJ (i := 13) (N := some 60) (v := undef) (a' := ?_) #[Y1,Y1,Y1,Y1,Y1,Y1,Y1,Y1,Y1,Y1,Y1,Y1,Y1,Y1,Y0,Y0,Y0,Y0,Y0] rfl rfl (QG HT_.out (by kernel_rfl)) (fun _ _ _ h => h) (Or.inr ⟨by rfl, rfl⟩) ?_ ?_
                rotate_left
                ·simp only [Act.put, QP, QR, QS, QH, QI]
                 rfl
                refine QJ (i := 14) (N := some 61) (v := undef) (a' := ?_) #[Y1,Y1,Y1,Y1,Y1,Y1,Y1,Y1,Y1,Y1,Y1,Y1,Y1,Y1,Y1,Y0,Y0,Y0,Y0] rfl rfl (QG HT_.out (by kernel_rfl)) (fun _ _ _ h => h) (Or.inr ⟨by rfl, rfl⟩) ?_ ?_
                rotate_left
                ·simp only [Act.put, QP, QR, QS, QH, QI]
                 rfl
                refine QJ (i := 15) (N := some 62) (v := ?_) (a' := ?_) #[Y1,Y1,Y1,Y1,Y1,Y1,Y1,Y1,Y1,Y1,Y1,Y1,Y1,Y1,Y1,Y1,Y0,Y0,Y0] rfl rfl (QG HT_.out (by kernel_rfl)) (fun _ _ _ h => h) (Or.inl ⟨by rfl, ?_⟩) ?_ ?_
                rotate_left
                ·intro w'
                 go_simp
                 with_reducible rfl
                rotate_left
                ·simp only [Act.put, QP, QR, QS, QH, QI]
                 rfl
                refine last_ (i := 16) (N := some 63) #[Y1,Y1,Y1,Y1,Y1,Y1,Y1,Y1,Y1,Y1,Y1,Y1,Y1,Y1,Y1,Y1,Y1,Y0,Y0] rfl rfl (one_of HT_.out (by kernel_rfl)) (by decide) (fun K hK => ?_)
                refine value_ (w1 := ?_) (v := ?_) (by rfl) rfl ?_ ?_
                rotate_left 2
                ·go_simp
                 constructor
                 ·rfl
                 ·rfl
                refine hK.out _ _ ?_
                clear hK K
                refine norm_ (a' := ?_) ?_ ?_
                rotate_left
                ·show Act.put _ (some 63) _ = _
                 simp only [Act.put, QP, QR, QS, QH, QI]
                 rfl
                refine last_ (i := 17) (N := some 64) #[Y1,Y1,Y1,Y1,Y1,Y1,Y1,Y1,Y1,Y1,Y1,Y1,Y1,Y1,Y1,Y1,Y1,Y1,Y0] rfl rfl (one_of HT_.out (by kernel_rfl)) (by decide) (fun K hK => ?_)
                refine Kd.R_append_step Kd.bool (w0 := w) w.heap.size (by rfl) (.tmp 50) (.tmp 63) 126 4 (.bool false) 1 rfl Try.underlying126 info4 rfl (by decide) (by omega) (.slice (some ad399) y407.length co38) y407 false [.bool false] (fun _ => True) (fun _ => False) rfl rfl ?aP (fun _ hk => hk.elim) ?aF ?aO ?aB ?aS ?aL ?_
                (case aP => exact rfl)
                (case aB => exact (by repeat (first | (with_reducible first | exact HB.out | apply QF | apply QC | apply QE) | exact HB.out)))
                (case aF => exact (fun _ _ => trivial))
                (case aO => exact (by (with_reducible repeat (first | apply Kd.R_alloc | apply Kd.R_drewN | apply Kd.R_drew)); exact HO409.out))
                (case aS => exact (below_size (by repeat (first | (with_reducible first | exact HB.out | apply QF | apply QC | apply QE) | exact HB.out))))
                (case aL => have := LMc37.out; omega)
                intro v411 w41 ho hb hg hat
                rw [← Ny410.out] at ho
                have n0_ := QT (hb)
                have n1_ := QT (ho)
                clear HB
                clear HO409
                have HB := n0_
                have HO412 := n1_
                clear n0_ n1_
                clear ho hb hg hat
                refine hK.out _ _ ?_
                clear hK K
                refine norm_ (a' := ?_) ?_ ?_
                rotate_left
                ·show Act.put _ (some 64) _ = _
                 simp only [Act.put, QP, QR, QS, QH, QI]
                 rfl
                refine QJ (i := 18) (N := some 5) (v := ?_) (a' := ?_) #[Y1,Y1,Y1,Y1,Y1,Y1,Y1,Y1,Y1,Y1,Y1,Y1,Y1,Y1,Y1,Y1,Y1,Y1,Y1] rfl rfl (QG HT_.out (by kernel_rfl)) (fun _ _ _ h => h) (Or.inl ⟨by rfl, ?_⟩) ?_ ?_
                rotate_left
                ·intro w'
                 go_simp
                 with_reducible rfl
                rotate_left
                ·simp only [Act.put, QP, QR, QS, QH, QI]
                 rfl
                refine done_ (done_of HT_.out (by kernel_rfl)) ?_
                try go_wp2
                go_roundg k2
                case measure => have := HJ2.out; have := HK2.out; omega
                case rel => exact ⟨(y410), (wrap64 (x20_2 + 1)), (by first | rfl | (simp; done) | (simp [*]; done)), H', ⟨by have := HJ2.out; have := HK2.out; omega⟩, ⟨by (with_reducible repeat (first | apply Kd.R_alloc | apply Kd.R_drewN | apply Kd.R_drew)); exact HO412.out⟩, ⟨by repeat (first | (with_reducible first | exact HB.out | apply QF | apply QC | apply QE) | exact HB.out)⟩⟩
               ·rw [if_neg c37] at H
                exact absurd H (by simp)
              ·rw [if_neg c36] at H
               exact absurd H (by simp)
            ·rw [if_neg c24] at H
             exact absurd H (by simp)
           ·rw [if_neg c23] at H
            exact absurd H (by simp)
          ·rw [if_neg c21] at H
           have c21b0 : ((rd l0 x20_2) == (-2)) = false := beq_eq_false_iff_ne.mpr c21
           have c21b1 : ((rd l0 x20_2) != (-2)) = true := bne_iff_ne.mpr c21
           by_cases c42 : (rd l0 x20_2) = (-3)
           ·rw [if_pos c42] at H
            have c42b0 : ((rd l0 x20_2) == (-3)) = true := beq_iff_eq.mpr c42
            have c42b1 : ((rd l0 x20_2) != (-3)) = false := bne_eq_false_iff_eq.mpr c42
            clear c42
            obtain ⟨ji43, hji43⟩ : ∃ j_ : Int, (wrap64 ((x5_2.length : Int) - 2)) = j_ := ⟨_, rfl⟩
            replace H : (if 0 ≤ (ji43) then (if (ji43) < (x5_2.length : Int) then (if rdOf false x5_2 (ji43) = true then (if (ji43) ≤ (x5_2.length : Int) then ((some (x5_2.take ((ji43) : Int).toNat : List Bool)).bind fun y414 => (if y414.length < 140737488355328 then (impl_Matches.l0 k2 a1 (y414 ++ [true]) l0 (l0.length : Int) (wrap64 (x20_2 + 1))) else (none))) else (none)) else (if 0 ≤ (wrap64 ((x5_2.length : Int) - 1)) then (if (wrap64 ((x5_2.length : Int) - 1)) < (x5_2.length : Int) then (if (ji43) ≤ (x5_2.length : Int) then ((some (x5_2.take ((ji43) : Int).toNat : List Bool)).bind fun y421 => (if y421.length < 140737488355328 then (impl_Matches.l0 k2 a1 (y421 ++ [rdOf false x5_2 (wrap64 ((x5_2.length : Int) - 1))]) l0 (l0.length : Int) (wrap64 (x20_2 + 1))) else (none))) else (none)) else (none)) else (none))) else (none)) else (none)) = some r := by first | (rw [hji43] at H; exact H) | (simp only [hji43] at H ⊢; exact H)
            have hji43w : (IntKind.i64.wrap ((x5_2.length : Int) - 2)) = ji43 := (QH _).trans hji43
            by_cases c44 : 0 ≤ (ji43)
            ·rw [if_pos c44] at H
             have c44b0 : decide (0 ≤ (ji43)) = true := decide_eq_true c44
             clear c44
             by_cases c45 : (ji43) < (x5_2.length : Int)
             ·rw [if_pos c45] at H
              have c45b0 : decide ((ji43) < (x5_2.length : Int)) = true := decide_eq_true c45
              clear c45
              obtain ⟨bq46, hbq46⟩ : ∃ b_ : Bool, b_ = (rdOf false x5_2 (ji43)) := ⟨_, rfl⟩
              replace H : (if bq46 = true then (if (ji43) ≤ (x5_2.length : Int) then ((some (x5_2.take ((ji43) : Int).toNat : List Bool)).bind fun y414 => (if y414.length < 140737488355328 then (impl_Matches.l0 k2 a1 (y414 ++ [true]) l0 (l0.length : Int) (wrap64 (x20_2 + 1))) else (none))) else (none)) else (if 0 ≤ (wrap64 ((x5_2.length : Int) - 1)) then (if (wrap64 ((x5_2.length : Int) - 1)) < (x5_2.length : Int) then (if (ji43) ≤ (x5_2.length : Int) then ((some (x5_2.take ((ji43) : Int).toNat : List Bool)).bind fun y421 => (if y421.length < 140737488355328 then (impl_Matches.l0 k2 a1 (y421 ++ [rdOf false x5_2 (wrap64 ((x5_2.length : Int) - 1))]) l0 (l0.length : Int) (wrap64 (x20_2 + 1))) else (none))) else (none)) else (none)) else (none))) = some r := by rw [← hbq46] at H; exact H
              have Nbq46 := QT hbq46
              clear hbq46
              by_cases c47 : bq46 = true
              ·subst c47
               rw [if_pos rfl] at H
               by_cases c48 : (ji43) ≤ (x5_2.length : Int)
               ·rw [if_pos c48] at H
                have c48b0 := eq_true c48
                have c48b1 : decide ((ji43) ≤ (x5_2.length : Int)) = true := decide_eq_true c48
                clear c48
                obtain ⟨y414, hy414⟩ : ∃ y_ : List Bool, y_ = (x5_2.take ((ji43) : Int).toNat) := ⟨_, rfl⟩
                replace H : (if y414.length < 140737488355328 then (impl_Matches.l0 k2 a1 (y414 ++ [true]) l0 (l0.length : Int) (wrap64 (x20_2 + 1))) else (none)) = some r := by first | (rw [hy414]; with_reducible exact H) | (have H2_ := (Option.bind_some _ _).symm.trans H; rw [hy414]; with_reducible exact H2_) | (have H2_ := (Option.bind_some _ _).symm.trans H; with_reducible exact H2_) | with_reducible exact H | (rw [hy414]; exact H) | exact H
                have Ny414 := QT hy414
                clear hy414
                by_cases c49 : y414.length < 140737488355328
                ·rw [if_pos c49] at H
                 have LMc49 := QT c49
                 clear c49
                 obtain ⟨y417, hy417⟩ : ∃ y_ : List Bool, y_ = (y414 ++ [true]) := ⟨_, rfl⟩
                 replace H : (impl_Matches.l0 k2 a1 y417 l0 (l0.length : Int) (wrap64 (x20_2 + 1))) = some r := by first | (rw [hy417]; with_reducible exact H) | (have H2_ := (Option.bind_some _ _).symm.trans H; rw [hy417]; with_reducible exact H2_) | (have H2_ := (Option.bind_some _ _).symm.trans H; with_reducible exact H2_) | with_reducible exact H | (rw [hy417]; exact H) | exact H
                 have Ny417 := QT hy417
                 clear hy417
                 have H' := QT H
                 clear H
                 have p396 : 0 ≤ (x20_2 : Int) := of_decide_eq_true (by first | (with_reducible assumption) | assumption)
                 have q396 : x20_2 < (l0.length : Int) := of_decide_eq_true (by first | (with_reducible assumption) | assumption)
                 obtain ⟨ad396, e396, hx396_0⟩ := Kd.at_int HR0.out x20_2 p396 q396
                 cases e396
                 replace hx396_0 := (HB.out.cell (World.block_lt_of_cell? w _ hx396_0)).trans hx396_0
                 replace p396 := eq_true p396
                 replace q396 := eq_true q396
                 obtain ⟨Ao50, co50, eo50⟩ := Kd.R_slice HO_5.out
                 subst eo50
                 try go_wp2
                 have n0_ := QT (Kd.R_drew HO_5.out)
                 have n1_ := QT (QE HB.out)
                 clear HO_5
                 clear HB
                 have HO_5 := n0_
                 have HB := n1_
                 clear n0_ n1_
                 have p413 : 0 ≤ ((ji43) : Int) := of_decide_eq_true (by first | (with_reducible assumption) | assumption)
                 have q413 : (ji43) < (x5_2.length : Int) := of_decide_eq_true (by first | (with_reducible assumption) | assumption)
                 obtain ⟨ad413, e413, hx413_0⟩ := Kd.at_bool (Kd.R_reads' HO_5.out).2.2 (ji43) p413 q413
                 (try rw [← Nbq46.out] at hx413_0)
                 cases e413
                 replace p413 := eq_true p413
                 replace q413 := eq_true q413
                 have q52 : ((ji43) : Int) ≤ ((x5_2.length : Int) : Int) := of_decide_eq_true (by first | (with_reducible assumption) | assumption)
                 obtain ⟨i052, hi052, _, hsz52, _⟩ := info_parts info4
                 have hcut52 := cut_to (P := Try.prog) 126 4 .i64 Try.underlying126 hi052 (some ad413) x5_2.length co50 (ji43) (of_decide_eq_true (by first | (with_reducible assumption) | assumption)) q52 (Kd.R_reads' HO_5.out).2.1
                 have hr52 := Kd.R_take (m := ((ji43) : Int).toNat) HO_5.out (by omega)
                 have hy52 : y414.length = ((ji43) : Int).toNat := (by rw [Ny414.out, List.length_take]; omega)
                 rw [← Ny414.out] at hr52
                 rw [← hy52] at hr52 hcut52
                 clear hy52 hi052 hsz52 HO_5
                 have HO416 := QT hr52
                 clear hr52
                 replace q52 := eq_true q52
                 refine start_ (n := 19) (S := fun w' => w'.cell? (ad413.add ((ji43)).toNat) = some (.bool true)) (ds := [16, 17]) #[Y0,Y0,Y0,Y0,Y0,Y0,Y0,Y0,Y0,Y0,Y0,Y0,Y0,Y0,Y0,Y0,Y0,Y0,Y0] (by kernel_rfl) rfl rfl (hx413_0) (fun hHeld => ?_); refine with_tabW impl_Matches.tab15 impl_Matches.bits15 (fun HT_ HW_ => ?_)
                 generalize wr.drew = w51 at HB HO416 hx413_0 hHeld ⊢
                 refine QJ (i := 0) (N := some 67) (v := ?_) (a' := ?_) #[Y1,Y0,Y0,Y0,Y0,Y0,Y0,Y0,Y0,Y0,Y0,Y0,Y0,Y0,Y0,Y0,Y0,Y0,Y0] rfl rfl (QG HT_.out (by kernel_rfl)) (fun _ _ _ h => h) (Or.inl ⟨by rfl, ?_⟩) ?_ ?_
                 rotate_left
                 ·intro w'
                  go_simp
                  with_reducible rfl
                 rotate_left
                 ·simp only [Act.put, QP, QR, QS, QH, QI]
                  rfl
                 refine QJ (i := 1) (N := some 68) (v := ?_) (a' := ?_) #[Y1,Y1,Y0,Y0,Y0,Y0,Y0,Y0,Y0,Y0,Y0,Y0,Y0,Y0,Y0,Y0,Y0,Y0,Y0] rfl rfl (QG HT_.out (by kernel_rfl)) (fun _ _ _ h => h) (Or.inl ⟨by rfl, ?_⟩) ?_ ?_
                 rotate_left
                 ·intro w'
                  go_simp
                  with_reducible rfl
                 rotate_left
                 ·simp only [Act.put, QP, QR, QS, QH, QI]
                  rfl
                 refine QJ (i := 2) (N := some 69) (v := ?_) (a' := ?_) #[Y1,Y1,Y1,Y0,Y0,Y0,Y0,Y0,Y0,Y0,Y0,Y0,Y0,Y0,Y0,Y0,Y0,Y0,Y0] rfl rfl (QG HT_.out (by kernel_rfl)) (fun _ _ _ h => h) (Or.inl ⟨by rfl, ?_⟩) ?_ ?_
                 rotate_left
                 ·intro w'
                  go_simp
                  with_reducible rfl
                 rotate_left
                 ·simp only [Act.put, QP, QR, QS, QH, QI]
                  rfl
                 refine QJ (i := 4) (N := some 71) (v := ?_) (a' := ?_) #[Y1,Y1,Y1,Y0,Y1,Y0,Y0,Y0,Y0,Y0,Y0,Y0,Y0,Y0,Y0,Y0,Y0,Y0,Y0] rfl rfl (QG HT_.out (by kernel_rfl)) (fun _ _ _ h => h) (Or.inl ⟨by rfl, ?_⟩) ?_ ?_
                 rotate_left
                 ·intro w'
                  go_simp
                  with_reducible rfl
                 rotate_left
                 ·simp only [Act.put, QP, QR, QS, QH, QI]
                  rfl
                 refine QJ (i := 5) (N := some 72) (v := ?_) (a' := ?_) #[Y1,Y1,Y1,Y0,Y1,Y1,Y0,Y0,Y0,Y0,Y0,Y0,Y0,Y0,Y0,Y0,Y0,Y0,Y0] rfl rfl (QG HT_.out (by kernel_rfl)) (fun _ _ _ h => h) (Or.inl ⟨by rfl, ?_⟩) ?_ ?_
                 rotate_left
                 ·intro w'
                  go_simp
                  with_reducible rfl
                 rotate_left
                 ·simp only [Act.put, QP, QR, QS, QH, QI]
                  rfl
                 refine QJ (i := 6) (N := some 73) (v := ?_) (a' := ?_) #[Y1,Y1,Y1,Y0,Y1,Y1,Y1,Y0,Y0,Y0,Y0,Y0,Y0,Y0,Y0,Y0,Y0,Y0,Y0] rfl rfl (QG HT_.out (by kernel_rfl)) (fun _ _ _ h => h) (Or.inl ⟨by rfl, ?_⟩) ?_ ?_
                 rotate_left
                 ·intro w'
                  go_simp
                  with_reducible rfl
                 rotate_left
                 ·simp only [Act.put, QP, QR, QS, QH, QI]
                  rfl
                 refine QJ (i := 7) (N := some 74) (v := ?_) (a' := ?_) #[Y1,Y1,Y1,Y0,Y1,Y1,Y1,Y1,Y0,Y0,Y0,Y0,Y0,Y0,Y0,Y0,Y0,Y0,Y0] rfl rfl (QG HT_.out (by kernel_rfl)) (fun _ _ _ h => h) (Or.inl ⟨by rfl, ?_⟩) ?_ ?_
                 rotate_left
                 ·intro w'
                  go_simp
                  with_reducible rfl
                 rotate_left
                 ·simp only [Act.put, QP, QR, QS, QH, QI]
                  rfl
                 refine QJ (i := 3) (N := some 70) (v := ?_) (a' := ?_) #[Y1,Y1,Y1,Y1,Y1,Y1,Y1,Y1,Y0,Y0,Y0,Y0,Y0,Y0,Y0,Y0,Y0,Y0,Y0] rfl rfl (QG HT_.out (by kernel_rfl)) (fun _ _ _ h => h) (Or.inl ⟨by rfl, ?_⟩) ?_ ?_
                 rotate_left
                 ·intro w'
                  go_simp
                  with_reducible rfl
                 rotate_left
                 ·simp only [Act.put, QP, QR, QS, QH, QI]
                  rfl
                 refine take_ (i := 8) (N := some 75) (v := ?_) (a' := ?_) #[Y1,Y1,Y1,Y1,Y1,Y1,Y1,Y1,Y1,Y0,Y0,Y0,Y0,Y0,Y0,Y0,Y0,Y0,Y0] rfl rfl (take_ofW HT_.out HW_.out (by kernel_rfl)) (fun _ _ _ h => h) (Or.inl ⟨by rfl, ?_⟩) hHeld ?_ ?_
                 rotate_left
                 ·intro w' s0
                  go_simp
                  with_reducible rfl
                 rotate_left
                 ·simp only [Act.put, QP, QR, QS, QH, QI]
                  rfl
                 refine QJ (i := 9) (N := some 76) (v := ?_) (a' := ?_) #[Y1,Y1,Y1,Y1,Y1,Y1,Y1,Y1,Y1,Y1,Y0,Y0,Y0,Y0,Y0,Y0,Y0,Y0,Y0] rfl rfl (QG HT_.out (by kernel_rfl)) (fun _ _ _ h => h) (Or.inl ⟨by rfl, ?_⟩) ?_ ?_
                 rotate_left
                 ·intro w'
                  go_simp
                  with_reducible rfl
                 rotate_left
                 ·simp only [Act.put, QP, QR, QS, QH, QI]
                  rfl
                 refine QJ (i := 10) (N := some 77) (v := undef) (a' := ?_) #[Y1,Y1,Y1,Y1,Y1,Y1,Y1,Y1,Y1,Y1,Y1,Y0,Y0,Y0,Y0,Y0,Y0,Y0,Y0] rfl rfl (QG HT_.out (by kernel_rfl)) (fun _ _ _ h => h) (Or.inr ⟨by rfl, rfl⟩) ?_ ?_
                 rotate_left
                 ·simp only [Act.put, QP, QR, QS, QH, QI]
                  rfl
                 refine QJ (i := 11) (N := some 78) (v := undef) (a' := ?_) #[Y1,Y1,Y1,Y1,Y1,Y1,Y1,Y1,Y1,Y1,Y1,Y1,Y0,Y0,Y0,Y0,Y0,Y0,Y0] rfl rfl (QG HT_.out (by kernel_rfl)) (fun _ _ _ h => h) (Or.inr ⟨by rfl, rfl⟩) ?_ ?_
                 rotate_left
                 ·simp only [Act.put, QP, QR, QS, QH, QI]
                  rfl
                 refine QJ (i := 12) (N := some 79) (v := undef) (a' := ?_) #[Y1,Y1,Y1,Y1,Y1,Y1,Y1,Y1,Y1,Y1,Y1,Y1,Y1,Y0,Y0,Y0,Y0,Y0,Y0] rfl rfl (QG HT_.out (by kernel_rfl)) (fun _ _ _ h => h) (Or.inr ⟨by rfl, rfl⟩) ?_ ?_
                 rotate_left
                 ·simp only [Act.put, QP, QR, QS, QH, QI]
                  rfl
                 refine QJ (i := 13) (N := some 80) (v := undef) (a' := ?_) #[Y1,Y1,Y1,Y1,Y1,Y1,Y1,Y1,Y1,Y1,Y1,Y1,Y1,Y1,Y0,Y0,Y0,Y0,Y0] rfl rfl (QG HT_.out (by kernel_rfl)) (fun _ _ _ h => h) (Or.inr ⟨by rfl, rfl⟩) ?_ ?_
                 rotate_left
                 ·simp only [Act.put, QP, QR, QS, QH, QI]
                  rfl
                 refine QJ (i := 14) (N := some 81) (v := undef) (a' := ?_) #[Y1,Y1,Y1,Y1,Y1,Y1,Y1,Y1,Y1,Y1,Y1,Y1,Y1,Y1,Y1,Y0,Y0,Y0,Y0] rfl rfl (QG HT_.out (by kernel_rfl)) (fun _ _ _ h => h) (Or.inr ⟨by rfl, rfl⟩) ?_ ?_
                 rotate_left
                 ·simp only [Act.put, QP, QR, QS, QH, QI]
                  rfl
                 refine QJ (i := 15) (N := some 82) (v := ?_) (a' := ?_) #[Y1,Y1,Y1,Y1,Y1,Y1,Y1,Y1,Y1,Y1,Y1,Y1,Y1,Y1,Y1,Y1,Y0,Y0,Y0] rfl rfl (QG HT_.out (by kernel_rfl)) (fun _ _ _ h => h) (Or.inl ⟨by rfl, ?_⟩) ?_ ?_
                 rotate_left
                 ·intro w'
                  go_simp
                  with_reducible rfl
                 rotate_left
                 ·simp only [Act.put, QP, QR, QS, QH, QI]
                  rfl
                 refine last_ (i := 16) (N := some 83) #[Y1,Y1,Y1,Y1,Y1,Y1,Y1,Y1,Y1,Y1,Y1,Y1,Y1,Y1,Y1,Y1,Y1,Y0,Y0] rfl rfl (one_of HT_.out (by kernel_rfl)) (by decide) (fun K hK => ?_)
                 refine value_ (w1 := ?_) (v := ?_) (by rfl) rfl ?_ ?_
                 rotate_left 2
                 ·go_simp
                  constructor
                  ·rfl
                  ·rfl
                 refine hK.out _ _ ?_
                 clear hK K
                 refine norm_ (a' := ?_) ?_ ?_
                 rotate_left
                 ·show Act.put _ (some 83) _ = _
                  simp only [Act.put, QP, QR, QS, QH, QI]
                  rfl
                 refine last_ (i := 17) (N := some 84) #[Y1,Y1,Y1,Y1,Y1,Y1,Y1,Y1,Y1,Y1,Y1,Y1,Y1,Y1,Y1,Y1,Y1,Y1,Y0] rfl rfl (one_of HT_.out (by kernel_rfl)) (by decide) (fun K hK => ?_)
                 refine Kd.R_append_step Kd.bool (w0 := w) w.heap.size (by rfl) (.tmp 70) (.tmp 83) 126 4 (.bool false) 1 rfl Try.underlying126 info4 rfl (by decide) (by omega) (.slice (some ad413) y414.length co50) y414 true [.bool true] (fun _ => True) (fun _ => False) rfl rfl ?aP (fun _ hk => hk.elim) ?aF ?aO ?aB ?aS ?aL ?_
                 (case aP => exact rfl)
                 (case aB => exact (by repeat (first | (with_reducible first | exact HB.out | apply QF | apply QC | apply QE) | exact HB.out)))
                 (case aF => exact (fun _ _ => trivial))
                 (case aO => exact (by (with_reducible repeat (first | apply Kd.R_alloc | apply Kd.R_drewN | apply Kd.R_drew)); exact HO416.out))
                 (case aS => exact (below_size (by repeat (first | (with_reducible first | exact HB.out | apply QF | apply QC | apply QE) | exact HB.out))))
                 (case aL => have := LMc49.out; omega)
                 intro v418 w53 ho hb hg hat
                 rw [← Ny417.out] at ho
                 have n0_ := QT (hb)
                 have n1_ := QT (ho)
                 clear HB
                 clear HO416
                 have HB := n0_
                 have HO419 := n1_
                 clear n0_ n1_
                 clear ho hb hg hat
                 refine hK.out _ _ ?_
                 clear hK K
                 refine norm_ (a' := ?_) ?_ ?_
                 rotate_left
                 ·show Act.put _ (some 84) _ = _
                  simp only [Act.put, QP, QR, QS, QH, QI]
                  rfl
                 refine QJ (i := 18) (N := some 5) (v := ?_) (a' := ?_) #[Y1,Y1,Y1,Y1,Y1,Y1,Y1,Y1,Y1,Y1,Y1,Y1,Y1,Y1,Y1,Y1,Y1,Y1,Y1] rfl rfl (QG HT_.out (by kernel_rfl)) (fun _ _ _ h => h) (Or.inl ⟨by rfl, ?_⟩) ?_ ?_
                 rotate_left
                 ·intro w'
                  go_simp
                  with_reducible rfl
                 rotate_left
                 ·simp only [Act.put, QP, QR, QS, QH, QI]
                  rfl
                 refine done_ (done_of HT_.out (by kernel_rfl)) ?_
                 try go_wp2
                 go_roundg k2
                 case measure => have := HJ2.out; have := HK2.out; omega
                 case rel => exact ⟨(y417), (wrap64 (x20_2 + 1)), (by first | rfl | (simp; done) | (simp [*]; done)), H', ⟨by have := HJ2.out; have := HK2.out; omega⟩, ⟨by (with_reducible repeat (first | apply Kd.R_alloc | apply Kd.R_drewN | apply Kd.R_drew)); exact HO419.out⟩, ⟨by repeat (first | (with_reducible first | exact HB.out | apply QF | apply QC | apply QE) | exact HB.out)⟩⟩
                ·rw [if_neg c49] at H
                 exact absurd H (by simp)
               ·rw [if_neg c48] at H
                exact absurd H (by simp)
              ·replace c47 := Bool.eq_false_iff.mpr c47
               subst c47
               rw [if_neg (show ¬ (false = true) by decide)] at H
               obtain ⟨ji54, hji54⟩ : ∃ j_ : Int, (wrap64 ((x5_2.length : Int) - 1)) = j_ := ⟨_, rfl⟩
               replace H : (if 0 ≤ (ji54) then (if (ji54) < (x5_2.length : Int) then (if (ji43) ≤ (x5_2.length : Int) then ((some (x5_2.take ((ji43) : Int).toNat : List Bool)).bind fun y421 => (if y421.length < 140737488355328 then (impl_Matches.l0 k2 a1 (y421 ++ [rdOf false x5_2 (ji54)]) l0 (l0.length : Int) (wrap64 (x20_2 + 1))) else (none))) else (none)) else (none)) else (none)) = some r := by first | (rw [hji54] at H; exact H) | (simp only [hji54] at H ⊢; exact H)
               have hji54w : (IntKind.i64.wrap ((x5_2.length : Int) - 1)) = ji54 := (QH _).trans hji54
               by_cases c55 : 0 ≤ (ji54)
               ·rw [if_pos c55] at H
                have c55b0 : decide (0 ≤ (ji54)) = true := decide_eq_true c55
                clear c55
                by_cases c56 : (ji54) < (x5_2.length : Int)
                ·rw [if_pos c56] at H
                 have c56b0 : decide ((ji54) < (x5_2.length : Int)) = true := decide_eq_true c56
                 clear c56
                 by_cases c57 : (ji43) ≤ (x5_2.length : Int)
                 ·rw [if_pos c57] at H
                  have c57b0 := eq_true c57
                  have c57b1 : decide ((ji43) ≤ (x5_2.length : Int)) = true := decide_eq_true c57
                  clear c57
                  obtain ⟨y421, hy421⟩ : ∃ y_ : List Bool, y_ = (x5_2.take ((ji43) : Int).toNat) := ⟨_, rfl⟩
                  replace H : (if y421.length < 140737488355328 then (impl_Matches.l0 k2 a1 (y421 ++ [rdOf false x5_2 (ji54)]) l0 (l0.length : Int) (wrap64 (x20_2 + 1))) else (none)) = some r := by first | (rw [hy421]; with_reducible exact H) | (have H2_ := (Option.bind_some _ _).symm.trans H; rw [hy421]; with_reducible exact H2_) | (have H2_ := (Option.bind_some _ _).symm.trans H; with_reducible exact H2_) | with_reducible exact H | (rw [hy421]; exact H) | exact H
                  have Ny421 := QT hy421
                  clear hy421
                  by_cases c58 : y421.length < 140737488355328
                  ·rw [if_pos c58] at H
                   have LMc58 := QT c58
                   clear c58
                   obtain ⟨y424, hy424⟩ : ∃ y_ : List Bool, y_ = (y421 ++ [rdOf false x5_2 (ji54)]) := ⟨_, rfl⟩
                   replace H : (impl_Matches.l0 k2 a1 y424 l0 (l0.length : Int) (wrap64 (x20_2 + 1))) = some r := by first | (rw [hy424]; with_reducible exact H) | (have H2_ := (Option.bind_some _ _).symm.trans H; rw [hy424]; with_reducible exact H2_) | (have H2_ := (Option.bind_some _ _).symm.trans H; with_reducible exact H2_) | with_reducible exact H | (rw [hy424]; exact H) | exact H
                   have Ny424 := QT hy424
                   clear hy424
                   have H' := QT H
                   clear H
                   have p396 : 0 ≤ (x20_2 : Int) := of_decide_eq_true (by first | (with_reducible assumption) | assumption)
                   have q396 : x20_2 < (l0.length : Int) := of_decide_eq_true (by first | (with_reducible assumption) | assumption)
                   obtain ⟨ad396, e396, hx396_0⟩ := Kd.at_int HR0.out x20_2 p396 q396
                   cases e396
                   replace hx396_0 := (HB.out.cell (World.block_lt_of_cell? w _ hx396_0)).trans hx396_0
                   replace p396 := eq_true p396
                   replace q396 := eq_true q396
                   obtain ⟨Ao59, co59, eo59⟩ := Kd.R_slice HO_5.out
                   subst eo59
                   try go_wp2
                   have n0_ := QT (Kd.R_drew HO_5.out)
                   have n1_ := QT (QE HB.out)
                   clear HO_5
                   clear HB
                   have HO_5 := n0_
                   have HB := n1_
                   clear n0_ n1_
                   have p413 : 0 ≤ ((ji43) : Int) := of_decide_eq_true (by first | (with_reducible assumption) | assumption)
                   have q413 : (ji43) < (x5_2.length : Int) := of_decide_eq_true (by first | (with_reducible assumption) | assumption)
                   obtain ⟨ad413, e413, hx413_0⟩ := Kd.at_bool (Kd.R_reads' HO_5.out).2.2 (ji43) p413 q413
                   (try rw [← Nbq46.out] at hx413_0)
                   cases e413
                   replace p413 := eq_true p413
                   replace q413 := eq_true q413
                   have p420 : 0 ≤ ((ji54) : Int) := of_decide_eq_true (by first | (with_reducible assumption) | assumption)
                   have q420 : (ji54) < (x5_2.length : Int) := of_decide_eq_true (by first | (with_reducible assumption) | assumption)
                   obtain ⟨ad420, e420, hx420_0⟩ := Kd.at_bool (Kd.R_reads' HO_5.out).2.2 (ji54) p420 q420
                   (try rw [← Nbq46.out] at hx420_0)
                   obtain rfl : ad413 = ad420 := (by injection e420)
                   replace p420 := eq_true p420
                   replace q420 := eq_true q420
                   have q61 : ((ji43) : Int) ≤ ((x5_2.length : Int) : Int) := of_decide_eq_true (by first | (with_reducible assumption) | assumption)
                   obtain ⟨i061, hi061, _, hsz61, _⟩ := info_parts info4
                   have hcut61 := cut_to (P := Try.prog) 126 4 .i64 Try.underlying126 hi061 (some ad413) x5_2.length co59 (ji43) (of_decide_eq_true (by first | (with_reducible assumption) | assumption)) q61 (Kd.R_reads' HO_5.out).2.1
                   have hr61 := Kd.R_take (m := ((ji43) : Int).toNat) HO_5.out (by omega)
                   have hy61 : y421.length = ((ji43) : Int).toNat := (by rw [Ny421.out, List.length_take]; omega)
                   rw [← Ny421.out] at hr61
                   rw [← hy61] at hr61 hcut61
                   clear hy61 hi061 hsz61 HO_5
                   have HO423 := QT hr61
                   clear hr61
                   replace q61 := eq_true q61
                   refine start_ (n := 19) (S := fun w' => w'.cell? (ad413.add ((ji43)).toNat) = some (.bool false) ∧ w'.cell? (ad413.add ((ji54)).toNat) = some (.bool (rdOf false x5_2 (ji54)))) (ds := [16, 17]) #[Y0,Y0,Y0,Y0,Y0,Y0,Y0,Y0,Y0,Y0,Y0,Y0,Y0,Y0,Y0,Y0,Y0,Y0,Y0] (by kernel_rfl) rfl rfl ⟨hx413_0, hx420_0⟩ (fun hHeld => ?_); refine with_tabW impl_Matches.tab15 impl_Matches.bits15 (fun HT_ HW_ => ?_)
                   generalize wr.drew = w60 at HB HO423 hx413_0 hx420_0 hHeld ⊢
                   refine QJ (i := 0) (N := some 67) (v := ?_) (a' := ?_) #[Y1,Y0,Y0,Y0,Y0,Y0,Y0,Y0,Y0,Y0,Y0,Y0,Y0,Y0,Y0,Y0,Y0,Y0,Y0] rfl rfl (QG HT_.out (by kernel_rfl)) (fun _ _ _ h => h) (Or.inl ⟨by rfl, ?_⟩) ?_ ?_
                   rotate_left
                   ·intro w'
                    go_simp
                    with_reducible rfl
                   rotate_left
                   ·simp only [Act.put, QP, QR, QS, QH, QI]
                    rfl
                   refine QJ (i := 1) (N := some 68) (v := ?_) (a' := ?_) #[Y1,Y1,Y0,Y0,Y0,Y0,Y0,Y0,Y0,Y0,Y0,Y0,Y0,Y0,Y0,Y0,Y0,Y0,Y0] rfl rfl (QG HT_.out (by kernel_rfl)) (fun _ _ _ h => h) (Or.inl ⟨by rfl, ?_⟩) ?_ ?_
                   rotate_left
                   ·intro w'
                    go_simp
                    with_reducible rfl
                   rotate_left
                   ·simp only [Act.put, QP, QR, QS, QH, QI]
                    rfl
                   refine QJ (i := 2) (N := some 69) (v := ?_) (a' := ?_) #[Y1,Y1,Y1,Y0,Y0,Y0,Y0,Y0,Y0,Y0,Y0,Y0,Y0,Y0,Y0,Y0,Y0,Y0,Y0] rfl rfl (QG HT_.out (by kernel_rfl)) (fun _ _ _ h => h) (Or.inl ⟨by rfl, ?_⟩) ?_ ?_
                   rotate_left
                   ·intro w'
                    go_simp
                    with_reducible rfl
                   rotate_left
                   ·simp only [Act.put, QP, QR, QS, QH, QI]
                    rfl
                   refine QJ (i := 4) (N := some 71) (v := ?_) (a' := ?_) #[Y1,Y1,Y1,Y0,Y1,Y0,Y0,Y0,Y0,Y0,Y0,Y0,Y0,Y0,Y0,Y0,Y0,Y0,Y0] rfl rfl (QG HT_.out (by kernel_rfl)) (fun _ _ _ h => h) (Or.inl ⟨by rfl, ?_⟩) ?_ ?_
                   rotate_left
                   ·intro w'
                    go_simp
                    with_reducible rfl
                   rotate_left
                   ·simp only [Act.put, QP, QR, QS, QH, QI]
                    rfl
                   refine QJ (i := 5) (N := some 72) (v := ?_) (a' := ?_) #[Y1,Y1,Y1,Y0,Y1,Y1,Y0,Y0,Y0,Y0,Y0,Y0,Y0,Y0,Y0,Y0,Y0,Y0,Y0] rfl rfl (QG HT_.out (by kernel_rfl)) (fun _ _ _ h => h) (Or.inl ⟨by rfl, ?_⟩) ?_ ?_
                   rotate_left
                   ·intro w'
                    go_simp
                    with_reducible rfl
                   rotate_left
                   ·simp only [Act.put, QP, QR, QS, QH, QI]
                    rfl
                   refine QJ (i := 6) (N := some 73) (v := ?_) (a' := ?_) #[Y1,Y1,Y1,Y0,Y1,Y1,Y1,Y0,Y0,Y0,Y0,Y0,Y0,Y0,Y0,Y0,Y0,Y0,Y0] rfl rfl (QG HT_.out (by kernel_rfl)) (fun _ _ _ h => h) (Or.inl ⟨by rfl, ?_⟩) ?_ ?_
                   rotate_left
                   ·intro w'
                    go_simp
                    with_reducible rfl
                   rotate_left
                   ·simp only [Act.put, QP, QR, QS, QH, QI]
                    rfl
                   refine QJ (i := 7) (N := some 74) (v := ?_) (a' := ?_) #[Y1,Y1,Y1,Y0,Y1,Y1,Y1,Y1,Y0,Y0,Y0,Y0,Y0,Y0,Y0,Y0,Y0,Y0,Y0] rfl rfl (QG HT_.out (by kernel_rfl)) (fun _ _ _ h => h) (Or.inl ⟨by rfl, ?_⟩) ?_ ?_
                   rotate_left
                   ·intro w'
                    go_simp
                    with_reducible rfl
                   rotate_left
                   ·simp only [Act.put, QP, QR, QS, QH, QI]
                    rfl
                   refine QJ (i := 3) (N := some 70) (v := ?_) (a' := ?_) #[Y1,Y1,Y1,Y1,Y1,Y1,Y1,Y1,Y0,Y0,Y0,Y0,Y0,Y0,Y0,Y0,Y0,Y0,Y0] rfl rfl (QG HT_.out (by kernel_rfl)) (fun _ _ _ h => h) (Or.inl ⟨by rfl, ?_⟩) ?_ ?_
                   rotate_left
                   ·intro w'
                    go_simp
                    with_reducible rfl
                   rotate_left
                   ·simp only [Act.put, QP, QR, QS, QH, QI]
                    rfl
                   refine take_ (i := 8) (N := some 75) (v := ?_) (a' := ?_) #[Y1,Y1,Y1,Y1,Y1,Y1,Y1,Y1,Y1,Y0,Y0,Y0,Y0,Y0,Y0,Y0,Y0,Y0,Y0] rfl rfl (take_ofW HT_.out HW_.out (by kernel_rfl)) (fun _ _ _ h => h) (Or.inl ⟨by rfl, ?_⟩) hHeld ?_ ?_
                   rotate_left
                   ·rintro w' ⟨s0, s1⟩
                    go_simp
                    with_reducible rfl
                   rotate_left
                   ·simp only [Act.put, QP, QR, QS, QH, QI]
                    rfl
                   refine QJ (i := 9) (N := some 76) (v := ?_) (a' := ?_) #[Y1,Y1,Y1,Y1,Y1,Y1,Y1,Y1,Y1,Y1,Y0,Y0,Y0,Y0,Y0,Y0,Y0,Y0,Y0] rfl rfl (QG HT_.out (by kernel_rfl)) (fun _ _ _ h => h) (Or.inl ⟨by rfl, ?_⟩) ?_ ?_
                   rotate_left
                   ·intro w'
                    go_simp
                    with_reducible rfl
                   rotate_left
                   ·simp only [Act.put, QP, QR, QS, QH, QI]
                    rfl
                   refine QJ (i := 10) (N := some 77) (v := ?_) (a' := ?_) #[Y1,Y1,Y1,Y1,Y1,Y1,Y1,Y1,Y1,Y1,Y1,Y0,Y0,Y0,Y0,Y0,Y0,Y0,Y0] rfl rfl (QG HT_.out (by kernel_rfl)) (fun _ _ _ h => h) (Or.inl ⟨by rfl, ?_⟩) ?_ ?_
                   rotate_left
                   ·intro w'
                    go_simp
                    with_reducible rfl
                   rotate_left
                   ·simp only [Act.put, QP, QR, QS, QH, QI]
                    rfl
                   refine QJ (i := 11) (N := some 78) (v := ?_) (a' := ?_) #[Y1,Y1,Y1,Y1,Y1,Y1,Y1,Y1,Y1,Y1,Y1,Y1,Y0,Y0,Y0,Y0,Y0,Y0,Y0] rfl rfl (QG HT_.out (by kernel_rfl)) (fun _ _ _ h => h) (Or.inl ⟨by rfl, ?_⟩) ?_ ?_
                   rotate_left
                   ·intro w'
                    go_simp
                    with_reducible rfl
                   rotate_left
                   ·simp only [Act.put, QP, QR, QS, QH, QI]
                    rfl
                   refine QJ (i := 12) (N := some 79) (v := ?_) (a' := ?_) #[Y1,Y1,Y1,Y1,Y1,Y1,Y1,Y1,Y1,Y1,Y1,Y1,Y1,Y0,Y0,Y0,Y0,Y0,Y0] rfl rfl (QG HT_.out (by kernel_rfl)) (fun _ _ _ h => h) (Or.inl ⟨by rfl, ?_⟩) ?_ ?_
                   rotate_left
                   ·intro w'
                    go_simp
                    with_reducible rfl
                   rotate_left
                   ·simp only [Act.put, QP, QR, QS, QH, QI]
                    rfl
                   refine QJ (i := 13) (N := some 80) (v := ?_) (a' := ?_) #[Y1,Y1,Y1,Y1,Y1,Y1,Y1,Y1,Y1,Y1,Y1,Y1,Y1,Y1,Y0,Y0,Y0,Y0,Y0] rfl rfl (QG HT_.out (by kernel_rfl)) (fun _ _ _ h => h) (Or.inl ⟨by rfl, ?_⟩) ?_ ?_
                   rotate_left
                   ·intro w'
                    go_simp
                    with_reducible rfl
                   rotate_left
                   ·simp only [Act.put, QP, QR, QS, QH, QI]
                    rfl
                   refine take_ (i := 14) (N := some 81) (v := ?_) (a' := ?_) #[Y1,Y1,Y1,Y1,Y1,Y1,Y1,Y1,Y1,Y1,Y1,Y1,Y1,Y1,Y1,Y0,Y0,Y0,Y0] rfl rfl (take_ofW HT_.out HW_.out (by kernel_rfl)) (fun _ _ _ h => h) (Or.inl ⟨by rfl, ?_⟩) hHeld ?_ ?_
                   rotate_left
                   ·rintro w' ⟨s0, s1⟩
                    go_simp
                    with_reducible rfl
                   rotate_left
                   ·simp only [Act.put, QP, QR, QS, QH, QI]
                    rfl
                   refine QJ (i := 15) (N := some 82) (v := ?_) (a' := ?_) #[Y1,Y1,Y1,Y1,Y1,Y1,Y1,Y1,Y1,Y1,Y1,Y1,Y1,Y1,Y1,Y1,Y0,Y0,Y0] rfl rfl (QG HT_.out (by kernel_rfl)) (fun _ _ _ h => h) (Or.inl ⟨by rfl, ?_⟩) ?_ ?_
                   rotate_left
                   ·intro w'
                    go_simp
                    with_reducible rfl
                   rotate_left
                   ·simp only [Act.put, QP, QR, QS, QH, QI]
                    rfl
                   refine last_ (i := 16) (N := some 83) #[Y1,Y1,Y1,Y1,Y1,Y1,Y1,Y1,Y1,Y1,Y1,Y1,Y1,Y1,Y1,Y1,Y1,Y0,Y0] rfl rfl (one_of HT_.out (by kernel_rfl)) (by decide) (fun K hK => ?_)
                   refine value_ (w1 := ?_) (v := ?_) (by rfl) rfl ?_ ?_
                   rotate_left 2
                   ·go_simp
                    constructor
                    ·rfl
                    ·rfl
                   refine hK.out _ _ ?_
                   clear hK K
                   refine norm_ (a' := ?_) ?_ ?_
                   rotate_left
                   ·show Act.put _ (some 83) _ = _
                    simp only [Act.put, QP, QR, QS, QH, QI]
                    rfl
                   refine last_ (i := 17) (N := some 84) #[Y1,Y1,Y1,Y1,Y1,Y1,Y1,Y1,Y1,Y1,Y1,Y1,Y1,Y1,Y1,Y1,Y1,Y1,Y0] rfl rfl (one_of HT_.out (by kernel_rfl)) (by decide) (fun K hK => ?_)
                   refine Kd.R_append_step Kd.bool (w0 := w) w.heap.size (by rfl) (.tmp 70) (.tmp 83) 126 4 (.bool false) 1 rfl Try.underlying126 info4 rfl (by decide) (by omega) (.slice (some ad413) y421.length co59) y421 (rdOf false x5_2 (ji54)) [.bool (rdOf false x5_2 (ji54))] (fun _ => True) (fun _ => False) rfl rfl ?aP (fun _ hk => hk.elim) ?aF ?aO ?aB ?aS ?aL ?_
                   (case aP => exact rfl)
                   (case aB => exact (by repeat (first | (with_reducible first | exact HB.out | apply QF | apply QC | apply QE) | exact HB.out)))
                   (case aF => exact (fun _ _ => trivial))
                   (case aO => exact (by (with_reducible repeat (first | apply Kd.R_alloc | apply Kd.R_drewN | apply Kd.R_drew)); exact HO423.out))
                   (case aS => exact (below_size (by repeat (first | (with_reducible first | exact HB.out | apply QF | apply QC | apply QE) | exact HB.out))))
                   (case aL => have := LMc58.out; omega)
                   intro v425 w62 ho hb hg hat
                   rw [← Ny424.out] at ho
                   have n0_ := QT (hb)
                   have n1_ := QT (ho)
                   clear HB
                   clear HO423
                   have HB := n0_
                   have HO426 := n1_
                   clear n0_ n1_
                   clear ho hb hg hat
                   refine hK.out _ _ ?_
                   clear hK K
                   refine norm_ (a' := ?_) ?_ ?_
                   rotate_left
                   ·show Act.put _ (some 84) _ = _
                    simp only [Act.put, QP, QR, QS, QH, QI]
                    rfl
                   refine QJ (i := 18) (N := some 5) (v := ?_) (a' := ?_) #[Y1,Y1,Y1,Y1,Y1,Y1,Y1,Y1,Y1,Y1,Y1,Y1,Y1,Y1,Y1,Y1,Y1,Y1,Y1] rfl rfl (QG HT_.out (by kernel_rfl)) (fun _ _ _ h => h) (Or.inl ⟨by rfl, ?_⟩) ?_ ?_
                   rotate_left
                   ·intro w'
                    go_simp
                    with_reducible rfl
                   rotate_left
                   ·simp only [Act.put, QP, QR, QS, QH, QI]
                    rfl
                   refine done_ (done_of HT_.out (by kernel_rfl)) ?_
                   try go_wp2
                   go_roundg k2
                   case measure => have := HJ2.out; have := HK2.out; omega
                   case rel => exact ⟨(y424), (wrap64 (x20_2 + 1)), (by first | rfl | (simp; done) | (simp [*]; done)), H', ⟨by have := HJ2.out; have := HK2.out; omega⟩, ⟨by (with_reducible repeat (first | apply Kd.R_alloc | apply Kd.R_drewN | apply Kd.R_drew)); exact HO426.out⟩, ⟨by repeat (first | (with_reducible first | exact HB.out | apply QF | apply QC | apply QE) | exact HB.out)⟩⟩
                  ·rw [if_neg c58] at H
                   exact absurd H (by simp)
                 ·rw [if_neg c57] at H
                  exact absurd H (by simp)
                ·rw [if_neg c56] at H
                 exact absurd H (by simp)
               ·rw [if_neg c55] at H
                exact absurd H (by simp)
             ·rw [if_neg c45] at H
              exact absurd H (by simp)
            ·rw [if_neg c44] at H
             exact absurd H (by simp)
           ·rw [if_neg c42] at H
            have c42b0 : ((rd l0 x20_2) == (-3)) = false := beq_eq_false_iff_ne.mpr c42
            have c42b1 : ((rd l0 x20_2) != (-3)) = true := bne_iff_ne.mpr c42
            replace H := QU.mp H
            obtain ⟨t427, A630, H⟩ := H
            have A63 := QT A630
            clear A630
            by_cases c64 : x5_2.length < 140737488355328
            ·rw [if_pos c64] at H
             have LMc64 := QT c64
             clear c64
             obtain ⟨y428, hy428⟩ : ∃ y_ : List Bool, y_ = (x5_2 ++ [t427]) := ⟨_, rfl⟩
             replace H : (impl_Matches.l0 k2 a1 y428 l0 (l0.length : Int) (wrap64 (x20_2 + 1))) = some r := by first | (rw [hy428]; with_reducible exact H) | (have H2_ := (Option.bind_some _ _).symm.trans H; rw [hy428]; with_reducible exact H2_) | (have H2_ := (Option.bind_some _ _).symm.trans H; with_reducible exact H2_) | with_reducible exact H | (rw [hy428]; exact H) | exact H
             have Ny428 := QT hy428
             clear hy428
             have H' := QT H
             clear H
             have p396 : 0 ≤ (x20_2 : Int) := of_decide_eq_true (by first | (with_reducible assumption) | assumption)
             have q396 : x20_2 < (l0.length : Int) := of_decide_eq_true (by first | (with_reducible assumption) | assumption)
             obtain ⟨ad396, e396, hx396_0⟩ := Kd.at_int HR0.out x20_2 p396 q396
             cases e396
             replace hx396_0 := (HB.out.cell (World.block_lt_of_cell? w _ hx396_0)).trans hx396_0
             replace p396 := eq_true p396
             replace q396 := eq_true q396
             obtain ⟨Ao65, co65, eo65⟩ := Kd.R_slice HO_5.out
             subst eo65
             go_wp2_with (first | ((with_reducible refine QO (f := 148) rfl ?_); refine goesL_ (some 30) rfl rfl Try.func148 (by kernel_rfl) rfl #[.int .i64 (rd l0 x20_2), .int .i64 a1] rfl (by (try simp only [List.map_toArray, List.map_cons, List.map_nil]); first | done | rfl | (simp only [List.length_drop, List.length_take]; rfl)) ?_; (with_reducible refine (impl_asks.calls (rd l0 x20_2) a1 t427 _ A63.out).mono ?_); rintro e w' ⟨rfl, ⟨nd, rfl⟩⟩; refine ⟨_, rfl, ?_⟩) | ((with_reducible refine gate_builtin (b := .append) (xs := #[.tmp 27, .tmp 31]) rfl ?_); at_builtin; refine Kd.R_append Kd.bool (w0 := w) w.heap.size rfl (.tmp 27) (.tmp 31) 126 4 (.bool false) 1 rfl Try.underlying126 info4 rfl (by decide) (by omega) (.slice Ao65 x5_2.length co65) x5_2 t427 [.bool t427] (fun _ => True) (fun _ => False) rfl rfl ?aP (fun _ hk => hk.elim) ?aF ?aO ?aB ?aS ?aL ?_; (case aP => exact rfl); (case aB => exact (by repeat (first | (with_reducible first | exact HB.out | apply QF | apply QC | apply QE) | exact HB.out))); (case aF => exact (fun _ _ => trivial)); (case aO => exact (by (with_reducible repeat (first | apply Kd.R_alloc | apply Kd.R_drewN | apply Kd.R_drew)); exact HO_5.out)); (case aS => exact (below_size (by repeat (first | (with_reducible first | exact HB.out | apply QF | apply QC | apply QE) | exact HB.out)))); (case aL => have := LMc64.out; omega); intro v429 w66 ho hb hg hat; rw [← Ny428.out] at ho; have n0_ := QT (hb); have n1_ := QT (ho); clear HB; clear HO_5; have HB := n0_; have HO430 := n1_; clear n0_ n1_; clear ho hb hg hat))
             go_roundg k2
             case measure => have := HJ2.out; have := HK2.out; omega
             case rel => exact ⟨(y428), (wrap64 (x20_2 + 1)), (by first | rfl | (simp; done) | (simp [*]; done)), H', ⟨by have := HJ2.out; have := HK2.out; omega⟩, ⟨by (with_reducible repeat (first | apply Kd.R_alloc | apply Kd.R_drewN | apply Kd.R_drew)); exact HO430.out⟩, ⟨by repeat (first | (with_reducible first | exact HB.out | apply QF | apply QC | apply QE) | exact HB.out)⟩⟩
            ·rw [if_neg c64] at H
             exact absurd H (by simp)
        ·rw [if_neg c12] at H
         exact absurd H (by simp)
       ·rw [if_neg c11] at H
        exact absurd H (by simp)
      ·rw [if_neg c10] at H
       have c10b0 : decide (x20_2 < (l0.length : Int)) = false := decide_eq_false c10
       clear c10
       by_cases c67 : 0 < (x5_2.length : Int)
       ·rw [if_pos c67] at H
        have c67b0 : decide (0 < (x5_2.length : Int)) = true := decide_eq_true c67
        have c67b1 : decide (0 < x5_2.length) = true := decide_eq_true (by omega)
        clear c67
        obtain rfl := Option.some.inj H
        obtain ⟨Ao68, co68, eo68⟩ := Kd.R_slice HO_5.out
        subst eo68
        have p395 : 0 ≤ (0 : Int) := (by omega)
        have q395 : 0 < (x5_2.length : Int) := of_decide_eq_true (by first | (with_reducible assumption) | assumption)
        obtain ⟨ad395, e395, hx395_0⟩ := Kd.at_bool (Kd.R_reads' HO_5.out).2.2 0 p395 q395
        cases e395
        have qi395 : (0 < x5_2.length) = True := eq_true (by omega)
        (try rw [show ((0 : Int)).toNat = 0 from rfl] at hx395_0)
        (try rw [Addr.add_zero'] at hx395_0)
        replace p395 := eq_true p395
        replace q395 := eq_true q395
        go_wp2
        go_ret
        exact ⟨by first | rfl | (simp [errW_none, errW_some] <;> rfl) | (simp [*, errW_none, errW_some] <;> rfl), by repeat (first | (with_reducible first | exact HB.out | apply QF | apply QC | apply QE) | exact HB.out)⟩
       ·rw [if_neg c67] at H
        exact absurd H (by simp)

/-! ### impl_FitsOn: function 97 -/
def impl_FitsOn.j0 : Nat → Int → Int → Bool → Int → Int → Bool → Bool → List Int → List Int → Int → Int → Option (Bool)
 | 0, _, _, _, _, _, _, _, _, _, _, _ => none
 | k + 1, x1, x2, x19, x432000, x432001, x432002, x432003, x432004, x432005, x432006, x432007 => if x19 = true then (some false) else (if x432002 = true then ((impl_SuitOf.f x2).bind fun t435 => ((impl_SuitOf.f x1).bind fun t436 => (if t435 = t436 then (some true) else (if x432003 = true then ((impl_RankOf.f x2).bind fun t437 => ((impl_RankOf.f x1).bind fun t438 => (if t437 = t438 then (some true) else ((impl_Matches.f k x432004 x2).bind fun t439 => (some t439))))) else ((impl_Matches.f k x432004 x2).bind fun t440 => (some t440)))))) else (if x432003 = true then ((impl_RankOf.f x2).bind fun t441 => ((impl_RankOf.f x1).bind fun t442 => (if t441 = t442 then (some true) else ((impl_Matches.f k x432004 x2).bind fun t443 => (some t443))))) else ((impl_Matches.f k x432004 x2).bind fun t444 => (some t444))))
def impl_FitsOn.f (k : Nat) (a0_0 : Int) (a0_1 : Int) (a0_2 : Bool) (a0_3 : Bool) (l0_4 : List Int) (l0_5 : List Int) (a0_6 : Int) (a0_7 : Int) (a1 : Int) (a2 : Int) : Option (Bool) := (impl_IsRules.f k a0_0 a0_1 a0_2 a0_3 l0_4 l0_5 a0_6 a0_7).bind fun t432 => (if t432 = true then ((impl_IsCard.f a1).bind fun t433 => (if t433 = true then ((impl_IsCard.f a2).bind fun t434 => (impl_FitsOn.j0 k a1 a2 (!t434) a0_0 a0_1 a0_2 a0_3 l0_4 l0_5 a0_6 a0_7)) else (impl_FitsOn.j0 k a1 a2 true a0_0 a0_1 a0_2 a0_3 l0_4 l0_5 a0_6 a0_7))) else (impl_FitsOn.j0 k a1 a2 true a0_0 a0_1 a0_2 a0_3 l0_4 l0_5 a0_6 a0_7))
theorem impl_FitsOn.mono_l : ∀ k, (∀ y0 y1 y2 y3 y4 y5 y6 y7 y8 y9 y10, LeO (impl_FitsOn.j0 k y0 y1 y2 y3 y4 y5 y6 y7 y8 y9 y10) (impl_FitsOn.j0 (k + 1) y0 y1 y2 y3 y4 y5 y6 y7 y8 y9 y10))
 | 0 => fun _ _ _ _ _ _ _ _ _ _ _ r h => by simp [impl_FitsOn.j0] at h
 | k + 1 => by
  have ih0 := impl_FitsOn.mono_l k
  ·intro y0 y1 y2 y3 y4 y5 y6 y7 y8 y9 y10
   unfold impl_FitsOn.j0
   repeat' first
   | (with_reducible exact ih0 _ _ _ _ _ _ _ _ _ _ _)
   | (with_reducible exact impl_IsRules.mono _ _ _ _ _ _ _ _ _)
   | (with_reducible exact impl_Matches.mono _ _ _)
   | (with_reducible exact LeO.refl _)
   | (with_reducible exact LeO.none _)
   | (with_reducible refine LeO.ite ?_ ?_)
   | (with_reducible refine LeO.bind ?_ (fun _ => ?_))
   | exact ih0 _ _ _ _ _ _ _ _ _ _ _
   | exact impl_IsRules.mono _ _ _ _ _ _ _ _ _
   | exact impl_Matches.mono _ _ _
   | exact LeO.none _
   | refine LeO.ite ?_ ?_
   | refine LeO.bind ?_ (fun _ => ?_)
theorem impl_FitsOn.mono : ∀ a0 a1 a2 a3 a4 a5 a6 a7 a8 a9 k, LeO (impl_FitsOn.f k a0 a1 a2 a3 a4 a5 a6 a7 a8 a9) (impl_FitsOn.f (k + 1) a0 a1 a2 a3 a4 a5 a6 a7 a8 a9) := by
 intro a0 a1 a2 a3 a4 a5 a6 a7 a8 a9 k
 have ih0 := impl_FitsOn.mono_l k
 unfold impl_FitsOn.f
 repeat' first
   | (with_reducible exact ih0 _ _ _ _ _ _ _ _ _ _ _)
   | (with_reducible exact impl_IsRules.mono _ _ _ _ _ _ _ _ _)
   | (with_reducible exact impl_Matches.mono _ _ _)
   | (with_reducible exact LeO.refl _)
   | (with_reducible exact LeO.none _)
   | (with_reducible refine LeO.ite ?_ ?_)
   | (with_reducible refine LeO.bind ?_ (fun _ => ?_))
   | exact ih0 _ _ _ _ _ _ _ _ _ _ _
   | exact impl_IsRules.mono _ _ _ _ _ _ _ _ _
   | exact impl_Matches.mono _ _ _
   | exact LeO.none _
   | refine LeO.ite ?_ ?_
   | refine LeO.bind ?_ (fun _ => ?_)
set_option maxHeartbeats 8000000 in
set_option maxRecDepth 100000 in
theorem impl_FitsOn.calls (k : Nat) (a0_0 : Int) (a0_1 : Int) (a0_2 : Bool) (a0_3 : Bool) (A0_4 : Option Addr) (c0_4 : Nat) (l0_4 : List Int) (A0_5 : Option Addr) (c0_5 : Nat) (l0_5 : List Int) (a0_6 : Int) (a0_7 : Int) (a1 : Int) (a2 : Int) (r : Bool) (w : World) (hr0_4 : Kd.C (Kd.int .i64) w A0_4 l0_4.length l0_4) (hc0_4 : l0_4.length ≤ c0_4) (hr0_5 : Kd.C (Kd.int .i64) w A0_5 l0_5.length l0_5) (hc0_5 : l0_5.length ≤ c0_5) (h : impl_FitsOn.f k a0_0 a0_1 a0_2 a0_3 l0_4 l0_5 a0_6 a0_7 a1 a2 = some r) :
  Calls Try.prog 97 #[.agg #[.int .i64 a0_0, .int .i64 a0_1, .bool a0_2, .bool a0_3, .slice A0_4 l0_4.length c0_4, .slice A0_5 l0_5.length c0_5, .int .i64 a0_6, .int .i64 a0_7], .int .i64 a1, .int .i64 a2] w fun e w' => e = .returned (.bool r) ∧ Below w.heap.size w w' := by
 have hu41 := Try.underlying41
 have HR0_4 := QT hr0_4
 have HC0_4 := QT hc0_4
 clear hr0_4 hc0_4
 have HR0_5 := QT hr0_5
 have HC0_5 := QT hc0_5
 clear hr0_5 hc0_5
 have HB := QT (Below.refl w.heap.size w)
 have H : ((impl_IsRules.f k a0_0 a0_1 a0_2 a0_3 l0_4 l0_5 a0_6 a0_7).bind fun t432 => (if t432 = true then ((impl_IsCard.f a1).bind fun t433 => (if t433 = true then ((impl_IsCard.f a2).bind fun t434 => (impl_FitsOn.j0 k a1 a2 (!t434) a0_0 a0_1 a0_2 a0_3 l0_4 l0_5 a0_6 a0_7)) else (impl_FitsOn.j0 k a1 a2 true a0_0 a0_1 a0_2 a0_3 l0_4 l0_5 a0_6 a0_7))) else (impl_FitsOn.j0 k a1 a2 true a0_0 a0_1 a0_2 a0_3 l0_4 l0_5 a0_6 a0_7))) = some r := h
 clear h
 have HC4 := QT H
 clear H
 go_enter Try.func97, Try.ntmps97
 go_upto_region 1 with (first | ((with_reducible refine gate_dst (N := 3) rfl ?_); refine box_event ?hg (N := 3) ?hd (cs := #[.int .i64 a0_0, .int .i64 a0_1, .bool a0_2, .bool a0_3, .slice A0_4 l0_4.length c0_4, .slice A0_5 l0_5.length c0_5, .int .i64 a0_6, .int .i64 a0_7]) (t := 41) ?hr ?_; (case hd => rfl); (case hg => rfl); (case hr => first | (go_simp; done) | (go_simp; rfl)); intro gb431 hg w5 hbox hb; have n0_ := QT (below_step (by repeat (first | (with_reducible first | exact HB.out | apply QF | apply QC | apply QE) | exact HB.out)) hb); have n1_ := QT (hbox); have n2_ := QT ((by rw [hg]; exact (below_size (by repeat (first | (with_reducible first | exact HB.out | apply QF | apply QC | apply QE) | exact HB.out))) : w.heap.size ≤ gb431)); have n3_ := QT ((by rw [hg]; exact (below_size (by repeat (first | (with_reducible first | exact HB.out | apply QF | apply QC | apply QE) | exact HB.out))) : w.heap.size ≤ gb431)); clear HB; have HB := n0_; have BK431 := n1_; have GW431 := n2_; have GE431 := n3_; clear n0_ n1_ n2_ n3_; clear hb hbox hg))
 (try simp only [Act.put, QP, QR, QS])
 go_cut [19] (fun v19 wc => ∃ (kq : Nat) (x19_3 : Bool), v19 = .bool x19_3 ∧ Aside0 (impl_FitsOn.j0 kq a1 a2 x19_3 a0_0 a0_1 a0_2 a0_3 l0_4 l0_5 a0_6 a0_7 = some r) ∧ Aside0 (kq ≤ k) ∧ Aside0 (wc.heap[gb431]? = some (.cells #[.int .i64 a0_0, .int .i64 a0_1, .bool a0_2, .bool a0_3, (.slice A0_4 l0_4.length c0_4), (.slice A0_5 l0_5.length c0_5), .int .i64 a0_6, .int .i64 a0_7] 41 (0, 0))) ∧ Aside0 (Below w.heap.size w wc))
 case first =>
  have H := HC4.out
  clear HC4
  replace H := QU.mp H
  obtain ⟨t432, A60, H⟩ := H
  have A6 := QT A60
  clear A60
  by_cases c7 : t432 = true
  rotate_left
  replace c7 := Bool.eq_false_iff.mpr c7
  subst c7
  rw [if_neg (show ¬ (false = true) by decide)] at H
  have H' := QT H
  clear H
  rotate_right
  subst c7
  rw [if_pos rfl] at H
  replace H := QU.mp H
  obtain ⟨t433, A80, H⟩ := H
  have A8 := QT A80
  clear A80
  by_cases c9 : t433 = true
  rotate_left
  replace c9 := Bool.eq_false_iff.mpr c9
  subst c9
  rw [if_neg (show ¬ (false = true) by decide)] at H
  have H' := QT H
  clear H
  rotate_right
  subst c9
  rw [if_pos rfl] at H
  replace H := QU.mp H
  obtain ⟨t434, A100, H⟩ := H
  have A10 := QT A100
  clear A100
  have H' := QT H
  clear H
  all_goals
   have hcz11_0 : w5.cell? ⟨gb431, 0, none⟩ = some (.int .i64 a0_0) := (QD BK431.out 0).trans rfl
   have hcz11_1 : w5.cell? ⟨gb431, 1, none⟩ = some (.int .i64 a0_1) := (QD BK431.out 1).trans rfl
   have hcz11_2 : w5.cell? ⟨gb431, 2, none⟩ = some (.bool a0_2) := (QD BK431.out 2).trans rfl
   have hcz11_3 : w5.cell? ⟨gb431, 3, none⟩ = some (.bool a0_3) := (QD BK431.out 3).trans rfl
   have hcz11_4 : w5.cell? ⟨gb431, 4, none⟩ = some (.slice A0_4 l0_4.length c0_4) := (QD BK431.out 4).trans rfl
   have hcz11_5 : w5.cell? ⟨gb431, 5, none⟩ = some (.slice A0_5 l0_5.length c0_5) := (QD BK431.out 5).trans rfl
   have hcz11_6 : w5.cell? ⟨gb431, 6, none⟩ = some (.int .i64 a0_6) := (QD BK431.out 6).trans rfl
   have hcz11_7 : w5.cell? ⟨gb431, 7, none⟩ = some (.int .i64 a0_7) := (QD BK431.out 7).trans rfl
   have hfz11_0 := QB BK431.out 0
   have hfz11_1 := QB BK431.out 1
   have hfz11_2 := QB BK431.out 2
   have hfz11_3 := QB BK431.out 3
   have hfz11_4 := QB BK431.out 4
   have hfz11_5 := QB BK431.out 5
   have hfz11_6 := QB BK431.out 6
   have hfz11_7 := QB BK431.out 7
   go_wp2_with (first | ((with_reducible refine QO (f := 110) rfl ?_); refine goesL_ (some 8) rfl rfl Try.func110 (by kernel_rfl) rfl #[.agg #[.int .i64 a0_0, .int .i64 a0_1, .bool a0_2, .bool a0_3, .slice A0_4 l0_4.length c0_4, .slice A0_5 l0_5.length c0_5, .int .i64 a0_6, .int .i64 a0_7]] rfl (by (try simp only [List.map_toArray, List.map_cons, List.map_nil]); first | done | rfl | (simp only [List.length_drop, List.length_take]; rfl)) ?_; (with_reducible refine (impl_IsRules.calls k a0_0 a0_1 a0_2 a0_3 _ _ l0_4 _ _ l0_5 a0_6 a0_7 _ _ ?side1 ?side2 ?side3 ?side4 A6.out).mono ?_); (case side1 => repeat (first | exact (QL HR0_4.out HB.out) | (with_reducible refine QM ?_ _) | (with_reducible refine QN ?_ _) | (with_reducible refine Kd.C_drew ?_))); (case side2 => exact HC0_4.out); (case side3 => repeat (first | exact (QL HR0_5.out HB.out) | (with_reducible refine QM ?_ _) | (with_reducible refine QN ?_ _) | (with_reducible refine Kd.C_drew ?_))); (case side4 => exact HC0_5.out); rintro e w12 ⟨rfl, hb⟩; refine ⟨_, rfl, ?_⟩; have n0_ := QT (blk_below (g := gb431) (o := .cells #[.int .i64 a0_0, .int .i64 a0_1, .bool a0_2, .bool a0_3, .slice A0_4 l0_4.length c0_4, .slice A0_5 l0_5.length c0_5, .int .i64 a0_6, .int .i64 a0_7] 41 (0, 0)) (by (with_reducible repeat (first | refine blk_drewN ?_ _ | refine blk_drew ?_ | refine blk_alloc ?_ _)); exact BK431.out) hb); have n1_ := QT (below_step (by repeat (first | (with_reducible first | exact HB.out | apply QF | apply QC | apply QE | refine QK ?_ GE431.out) | exact HB.out)) hb); clear BK431; clear HB; have BK431 := n0_; have HB := n1_; clear n0_ n1_; (try clear hb); (try clear hb2); (try clear hk); (try clear hi)) | (go_at_call 86; (with_reducible refine (impl_IsCard.calls a1 _ _ A8.out).mono ?_); rintro e w' ⟨rfl, ⟨nd, rfl⟩⟩) | (go_at_call 86; (with_reducible refine (impl_IsCard.calls a2 t434 _ A10.out).mono ?_); rintro e w' ⟨rfl, ⟨nd, rfl⟩⟩))
   go_meet
   case rel => exact ⟨_, _, (by first | rfl | (simp; done) | (simp [*]; done)), H', ⟨by first | omega | exact Nat.le_refl _⟩, ⟨by (with_reducible repeat (first | refine blk_drewN ?_ _ | refine blk_drew ?_ | refine blk_alloc ?_ _)); exact BK431.out⟩, ⟨by repeat (first | (with_reducible first | exact HB.out | apply QF | apply QC | apply QE | refine QK ?_ GE431.out) | exact HB.out)⟩⟩
 case rest =>
  clear HC4
  try clear c1
  try clear p2
  try clear c7
  try clear c9
  try clear c11
  try clear hcz11_0
  try clear hcz11_1
  try clear hcz11_2
  try clear hcz11_3
  try clear hcz11_4
  try clear hcz11_5
  try clear hcz11_6
  try clear hcz11_7
  try clear hcz13_0
  try clear hcz13_1
  try clear hcz13_2
  try clear hcz13_3
  try clear hcz13_4
  try clear hcz13_5
  try clear hcz13_6
  try clear hcz13_7
  try clear hcz15_0
  try clear hcz15_1
  try clear hcz15_2
  try clear hcz15_3
  try clear hcz15_4
  try clear hcz15_5
  try clear hcz15_6
  try clear hcz15_7
  try clear hfz11_0
  try clear hfz11_1
  try clear hfz11_2
  try clear hfz11_3
  try clear hfz11_4
  try clear hfz11_5
  try clear hfz11_6
  try clear hfz11_7
  try clear hfz13_0
  try clear hfz13_1
  try clear hfz13_2
  try clear hfz13_3
  try clear hfz13_4
  try clear hfz13_5
  try clear hfz13_6
  try clear hfz13_7
  try clear hfz15_0
  try clear hfz15_1
  try clear hfz15_2
  try clear hfz15_3
  try clear hfz15_4
  try clear hfz15_5
  try clear hfz15_6
  try clear hfz15_7
  obtain ⟨kq, x19_3, rfl, HA, HJ3, BK431, HB⟩ := hcut
  cases kq with
  | zero => exact absurd HA.out (by simp [impl_FitsOn.j0])
  | succ kj3 =>
   have H := HA.out
   clear HA
   simp only [impl_FitsOn.j0] at H
   by_cases c17 : x19_3 = true
   rotate_left
   replace c17 := Bool.eq_false_iff.mpr c17
   subst c17
   rw [if_neg (show ¬ (false = true) by decide)] at H
   by_cases c18 : a0_2 = true
   rotate_left
   replace c18 := Bool.eq_false_iff.mpr c18
   subst c18
   rw [if_neg (show ¬ (false = true) by decide)] at H
   by_cases c23 : a0_3 = true
   rotate_left
   ·replace c23 := Bool.eq_false_iff.mpr c23
    subst c23
    rw [if_neg (show ¬ (false = true) by decide)] at H
    replace H := QU.mp H
    obtain ⟨t439, A280, H⟩ := H
    have A28 := QT A280
    clear A280
    try (obtain rfl := Option.some.inj (A28.out.symm.trans A28.out))
    obtain rfl := Option.some.inj H
    have hcz43_0 : wc.cell? ⟨gb431, 0, none⟩ = some (.int .i64 a0_0) := (QD BK431.out 0).trans rfl
    have hcz43_1 : wc.cell? ⟨gb431, 1, none⟩ = some (.int .i64 a0_1) := (QD BK431.out 1).trans rfl
    have hcz43_2 : wc.cell? ⟨gb431, 2, none⟩ = some (.bool false) := (QD BK431.out 2).trans rfl
    have hcz43_3 : wc.cell? ⟨gb431, 3, none⟩ = some (.bool false) := (QD BK431.out 3).trans rfl
    have hcz43_4 : wc.cell? ⟨gb431, 4, none⟩ = some (.slice A0_4 l0_4.length c0_4) := (QD BK431.out 4).trans rfl
    have hcz43_5 : wc.cell? ⟨gb431, 5, none⟩ = some (.slice A0_5 l0_5.length c0_5) := (QD BK431.out 5).trans rfl
    have hcz43_6 : wc.cell? ⟨gb431, 6, none⟩ = some (.int .i64 a0_6) := (QD BK431.out 6).trans rfl
    have hcz43_7 : wc.cell? ⟨gb431, 7, none⟩ = some (.int .i64 a0_7) := (QD BK431.out 7).trans rfl
    have hfz43_0 := QB BK431.out 0
    have hfz43_1 := QB BK431.out 1
    have hfz43_2 := QB BK431.out 2
    have hfz43_3 := QB BK431.out 3
    have hfz43_4 := QB BK431.out 4
    have hfz43_5 := QB BK431.out 5
    have hfz43_6 := QB BK431.out 6
    have hfz43_7 := QB BK431.out 7
    go_wp2_with (first | (go_at_call 104; (with_reducible refine (impl_Matches.calls kj3 _ _ l0_4 a2 t439 _ ?side1 ?side2 A28.out).mono ?_); (case side1 => repeat (first | exact (QL HR0_4.out HB.out) | (with_reducible refine QM ?_ _) | (with_reducible refine QN ?_ _) | (with_reducible refine Kd.C_drew ?_))); (case side2 => exact HC0_4.out); rintro e w44 ⟨rfl, hb⟩; have n0_ := QT (blk_below (g := gb431) (o := .cells #[.int .i64 a0_0, .int .i64 a0_1, .bool false, .bool false, .slice A0_4 l0_4.length c0_4, .slice A0_5 l0_5.length c0_5, .int .i64 a0_6, .int .i64 a0_7] 41 (0, 0)) (by (with_reducible repeat (first | refine blk_drewN ?_ _ | refine blk_drew ?_ | refine blk_alloc ?_ _)); exact BK431.out) hb); have n1_ := QT (below_step (by repeat (first | (with_reducible first | exact HB.out | apply QF | apply QC | apply QE | refine QK ?_ GE431.out) | exact HB.out)) hb); clear BK431; clear HB; have BK431 := n0_; have HB := n1_; clear n0_ n1_; (try clear hb); (try clear hb2); (try clear hk); (try clear hi)))
    go_ret
    exact ⟨by first | rfl | (simp [errW_none, errW_some] <;> rfl) | (simp [*, errW_none, errW_some] <;> rfl), by repeat (first | (with_reducible first | exact HB.out | apply QF | apply QC | apply QE | refine QK ?_ GE431.out) | exact HB.out)⟩
   rotate_right
   subst c23
   rw [if_pos rfl] at H
   replace H := QU.mp H
   obtain ⟨t437, A240, H⟩ := H
   have A24 := QT A240
   clear A240
   try (obtain rfl := Option.some.inj (A24.out.symm.trans A24.out))
   replace H := QU.mp H
   obtain ⟨t438, A250, H⟩ := H
   have A25 := QT A250
   clear A250
   try (obtain rfl := Option.some.inj (A25.out.symm.trans A25.out))
   by_cases c26 : t437 = t438
   rotate_left
   rw [if_neg c26] at H
   have c26b0 : (t437 == t438) = false := beq_eq_false_iff_ne.mpr c26
   have c26b1 : (t437 != t438) = true := bne_iff_ne.mpr c26
   replace H := QU.mp H
   obtain ⟨t439, A280, H⟩ := H
   have A28 := QT A280
   clear A280
   try (obtain rfl := Option.some.inj (A28.out.symm.trans A31.out))
   obtain rfl := Option.some.inj H
   rotate_right
   rw [if_pos c26] at H
   have c26b0 : (t437 == t438) = true := beq_iff_eq.mpr c26
   have c26b1 : (t437 != t438) = false := bne_eq_false_iff_eq.mpr c26
   clear c26
   obtain rfl := Option.some.inj H
   rotate_right
   subst c18
   rw [if_pos rfl] at H
   replace H := QU.mp H
   obtain ⟨t435, A190, H⟩ := H
   have A19 := QT A190
   clear A190
   replace H := QU.mp H
   obtain ⟨t436, A200, H⟩ := H
   have A20 := QT A200
   clear A200
   by_cases c21 : t435 = t436
   rotate_left
   rw [if_neg c21] at H
   have c21b0 : (t435 == t436) = false := beq_eq_false_iff_ne.mpr c21
   have c21b1 : (t435 != t436) = true := bne_iff_ne.mpr c21
   by_cases c23 : a0_3 = true
   rotate_left
   replace c23 := Bool.eq_false_iff.mpr c23
   subst c23
   rw [if_neg (show ¬ (false = true) by decide)] at H
   replace H := QU.mp H
   obtain ⟨t439, A280, H⟩ := H
   have A28 := QT A280
   clear A280
   try (obtain rfl := Option.some.inj (A28.out.symm.trans A28.out))
   obtain rfl := Option.some.inj H
   rotate_right
   subst c23
   rw [if_pos rfl] at H
   replace H := QU.mp H
   obtain ⟨t437, A240, H⟩ := H
   have A24 := QT A240
   clear A240
   replace H := QU.mp H
   obtain ⟨t438, A250, H⟩ := H
   have A25 := QT A250
   clear A250
   by_cases c26 : t437 = t438
   rotate_left
   rw [if_neg c26] at H
   have c26b0 : (t437 == t438) = false := beq_eq_false_iff_ne.mpr c26
   have c26b1 : (t437 != t438) = true := bne_iff_ne.mpr c26
   replace H := QU.mp H
   obtain ⟨t439, A280, H⟩ := H
   have A28 := QT A280
   clear A280
   obtain rfl := Option.some.inj H
   rotate_right
   rw [if_pos c26] at H
   have c26b0 : (t437 == t438) = true := beq_iff_eq.mpr c26
   have c26b1 : (t437 != t438) = false := bne_eq_false_iff_eq.mpr c26
   clear c26
   obtain rfl := Option.some.inj H
   rotate_right
   rw [if_pos c21] at H
   have c21b0 : (t435 == t436) = true := beq_iff_eq.mpr c21
   have c21b1 : (t435 != t436) = false := bne_eq_false_iff_eq.mpr c21
   clear c21
   obtain rfl := Option.some.inj H
   rotate_right
   ·subst c17
    rw [if_pos rfl] at H
    obtain rfl := Option.some.inj H
    go_wp2
    go_ret
    exact ⟨by first | rfl | (simp [errW_none, errW_some] <;> rfl) | (simp [*, errW_none, errW_some] <;> rfl), by repeat (first | (with_reducible first | exact HB.out | apply QF | apply QC | apply QE | refine QK ?_ GE431.out) | exact HB.out)⟩
   all_goals
    have hcz29_0 : wc.cell? ⟨gb431, 0, none⟩ = some (.int .i64 a0_0) := (QD BK431.out 0).trans rfl
    have hcz29_1 : wc.cell? ⟨gb431, 1, none⟩ = some (.int .i64 a0_1) := (QD BK431.out 1).trans rfl
    have hcz29_2 : wc.cell? ⟨gb431, 2, none⟩ = some (.bool _) := (QD BK431.out 2).trans rfl
    have hcz29_3 : wc.cell? ⟨gb431, 3, none⟩ = some (.bool _) := (QD BK431.out 3).trans rfl
    have hcz29_4 : wc.cell? ⟨gb431, 4, none⟩ = some (.slice A0_4 l0_4.length c0_4) := (QD BK431.out 4).trans rfl
    have hcz29_5 : wc.cell? ⟨gb431, 5, none⟩ = some (.slice A0_5 l0_5.length c0_5) := (QD BK431.out 5).trans rfl
    have hcz29_6 : wc.cell? ⟨gb431, 6, none⟩ = some (.int .i64 a0_6) := (QD BK431.out 6).trans rfl
    have hcz29_7 : wc.cell? ⟨gb431, 7, none⟩ = some (.int .i64 a0_7) := (QD BK431.out 7).trans rfl
    have hfz29_0 := QB BK431.out 0
    have hfz29_1 := QB BK431.out 1
    have hfz29_2 := QB BK431.out 2
    have hfz29_3 := QB BK431.out 3
    have hfz29_4 := QB BK431.out 4
    have hfz29_5 := QB BK431.out 5
    have hfz29_6 := QB BK431.out 6
    have hfz29_7 := QB BK431.out 7
    go_wp2_with (first | (go_at_call 117; (with_reducible refine (impl_SuitOf.calls a2 t435 _ A19.out).mono ?_); rintro e w' ⟨rfl, ⟨nd, rfl⟩⟩) | (go_at_call 117; (with_reducible refine (impl_SuitOf.calls a1 t436 _ A20.out).mono ?_); rintro e w' ⟨rfl, ⟨nd, rfl⟩⟩) | (go_at_call 144; (with_reducible refine (impl_RankOf.calls a2 t437 _ A24.out).mono ?_); rintro e w' ⟨rfl, ⟨nd, rfl⟩⟩) | (go_at_call 144; (with_reducible refine (impl_RankOf.calls a1 t438 _ A25.out).mono ?_); rintro e w' ⟨rfl, ⟨nd, rfl⟩⟩) | (go_at_call 104; (with_reducible refine (impl_Matches.calls kj3 _ _ l0_4 a2 t439 _ ?side1 ?side2 A28.out).mono ?_); (case side1 => repeat (first | exact (QL HR0_4.out (by repeat (first | (with_reducible first | exact HB.out | apply QF | apply QC | apply QE | refine QK ?_ GE431.out) | exact HB.out))) | (with_reducible refine QM ?_ _) | (with_reducible refine QN ?_ _) | (with_reducible refine Kd.C_drew ?_))); (case side2 => exact HC0_4.out); rintro e w30 ⟨rfl, hb⟩; have n0_ := QT (blk_below (g := gb431) (o := .cells #[.int .i64 a0_0, .int .i64 a0_1, .bool _, .bool _, .slice A0_4 l0_4.length c0_4, .slice A0_5 l0_5.length c0_5, .int .i64 a0_6, .int .i64 a0_7] 41 (0, 0)) (by (with_reducible repeat (first | refine blk_drewN ?_ _ | refine blk_drew ?_ | refine blk_alloc ?_ _)); exact BK431.out) hb); have n1_ := QT (below_step (by repeat (first | (with_reducible first | exact HB.out | apply QF | apply QC | apply QE | refine QK ?_ GE431.out) | exact HB.out)) hb); clear BK431; clear HB; have BK431 := n0_; have HB := n1_; clear n0_ n1_; (try clear hb); (try clear hb2); (try clear hk); (try clear hi)))
    go_ret
    exact ⟨by first | rfl | (simp [errW_none, errW_some] <;> rfl) | (simp [*, errW_none, errW_some] <;> rfl), by repeat (first | (with_reducible first | exact HB.out | apply QF | apply QC | apply QE | refine QK ?_ GE431.out) | exact HB.out)⟩

/-! ### impl_Sorted: function 131 -/
-- impl.Sorted stands with spec.Sorted.

end Go.Proofs.Ytkhgeockdjjhmaa.QFnExactPlayable
