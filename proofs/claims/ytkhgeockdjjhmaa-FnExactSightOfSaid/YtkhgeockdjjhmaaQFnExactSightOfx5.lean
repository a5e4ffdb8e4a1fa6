/- What a call of each Go function that FnExactSightOf reaches comes to, as a Lean function: texts of the kit's print, turned by wip/remake.py. No condition beyond what each names. -/
import Derived.Test.YtkhgeockdjjhmaaQFnExactSightOfx4
namespace Go.Proofs.Ytkhgeockdjjhmaa.QFnExactSightOf
open Go.RowKit Go.Proofs.YtkhgeockdjjhmaaW.PrintWords Go.Proofs.YtkhgeockdjjhmaaW.PrintLast Go.Proofs.YtkhgeockdjjhmaaW.PrintMore
open Go.Proofs.YtkhgeockdjjhmaaW.PrintWords renaming blk_cell → QB, blk_frozen → QC, pw_below_drewN → QD, below_drew1 → QE, below_alloc → QF, below_set → QG, cell_far → QH, add_block → QI, blk_drewN → QJ, blk_alloc → QK, blk_drew → QL
open Go.Proofs.YtkhgeockdjjhmaaW.PrintWords.Kd renaming R_alloc → QM, R_drewN → QN, R_drew → QO, R_mono → QP, C_below → QR, C_alloc → QS, C_drewN → QT
open List renaming setIfInBounds_toArray → QU, set_cons_zero → QV, set_cons_succ → QW
open Go.Proofs.YtkhgeockdjjhmaaW.PrintWords.Aside0 renaming mk → QX
attribute [local go_sem] max2_int min2_int max_two min_two max_three min_three max_four min_four   -- for this text's walks alone
set_option linter.unusedVariables false
set_option linter.unusedSimpArgs false

/-! ### impl_SightOf: function 67 -/
def impl_SightOf.j0 : Nat → Int → Bool → List (List Int) → Int → Int → List Int → List Int → List Int → Int → Option (Int × List Int × List Int × Int × Int × List Int × List Int × Bool)
 | 0, _, _, _, _, _, _, _, _, _ => none
 | k + 1, x1, x17, x287000, x287001, x287002, x287003, x287004, x287005, x287006 => if x17 = true then (some (0, ([] : List Int), ([] : List Int), 0, 0, ([] : List Int), ([] : List Int), false)) else (if 0 ≤ x1 then (if x1 < (x287000.length : Int) then ((impl_Sorted.f (rd_L1 x287000 x1)).bind fun t291 => ((impl_copyOf.f x287003).bind fun t294 => ((impl_sizes.f k x287000).bind fun t297 => ((impl_copyOf.f x287004).bind fun t300 => (some (x1, t291, t294, x287001, x287002, t297, t300, true)))))) else (none)) else (none))
def impl_SightOf.f (k : Nat) (l0_0 : List (List Int)) (a0_1 : Int) (a0_2 : Int) (l0_3 : List Int) (l0_4 : List Int) (l0_5 : List Int) (a0_6 : Int) (a1 : Int) : Option (Int × List Int × List Int × Int × Int × List Int × List Int × Bool) := (impl_IsDeal.f k l0_0 a0_1 a0_2 l0_3 l0_4 l0_5 a0_6).bind fun t288 => (if t288 = true then ((impl_InRange.f a1 0 (wrap64 ((l0_0.length : Int) - 1))).bind fun t289 => (impl_SightOf.j0 k a1 (!t289) l0_0 a0_1 a0_2 l0_3 l0_4 l0_5 a0_6)) else (impl_SightOf.j0 k a1 true l0_0 a0_1 a0_2 l0_3 l0_4 l0_5 a0_6))
theorem impl_SightOf.mono_l : ∀ k, (∀ y0 y1 y2 y3 y4 y5 y6 y7 y8, LeO (impl_SightOf.j0 k y0 y1 y2 y3 y4 y5 y6 y7 y8) (impl_SightOf.j0 (k + 1) y0 y1 y2 y3 y4 y5 y6 y7 y8))
 | 0 => fun _ _ _ _ _ _ _ _ _ r h => by simp [impl_SightOf.j0] at h
 | k + 1 => by
  have ih0 := impl_SightOf.mono_l k
  ·intro y0 y1 y2 y3 y4 y5 y6 y7 y8
   unfold impl_SightOf.j0
   repeat' first
   | (with_reducible exact ih0 _ _ _ _ _ _ _ _ _)
   | (with_reducible exact impl_IsDeal.mono _ _ _ _ _ _ _ _)
   | (with_reducible exact impl_sizes.mono _ _)
   | (with_reducible exact LeO.refl _)
   | (with_reducible exact LeO.none _)
   | (with_reducible refine LeO.ite ?_ ?_)
   | (with_reducible refine LeO.bind ?_ (fun _ => ?_))
   | exact ih0 _ _ _ _ _ _ _ _ _
   | exact impl_IsDeal.mono _ _ _ _ _ _ _ _
   | exact impl_sizes.mono _ _
   | exact LeO.none _
   | refine LeO.ite ?_ ?_
   | refine LeO.bind ?_ (fun _ => ?_)
theorem impl_SightOf.mono : ∀ a0 a1 a2 a3 a4 a5 a6 a7 k, LeO (impl_SightOf.f k a0 a1 a2 a3 a4 a5 a6 a7) (impl_SightOf.f (k + 1) a0 a1 a2 a3 a4 a5 a6 a7) := by
 intro a0 a1 a2 a3 a4 a5 a6 a7 k
 have ih0 := impl_SightOf.mono_l k
 unfold impl_SightOf.f
 repeat' first
   | (with_reducible exact ih0 _ _ _ _ _ _ _ _ _)
   | (with_reducible exact impl_IsDeal.mono _ _ _ _ _ _ _ _)
   | (with_reducible exact impl_sizes.mono _ _)
   | (with_reducible exact LeO.refl _)
   | (with_reducible exact LeO.none _)
   | (with_reducible refine LeO.ite ?_ ?_)
   | (with_reducible refine LeO.bind ?_ (fun _ => ?_))
   | exact ih0 _ _ _ _ _ _ _ _ _
   | exact impl_IsDeal.mono _ _ _ _ _ _ _ _
   | exact impl_sizes.mono _ _
   | exact LeO.none _
   | refine LeO.ite ?_ ?_
   | refine LeO.bind ?_ (fun _ => ?_)
def impl_SightOf.T3 : Bool × List (List Nat × List Nat) := (true, [([], []), ([], []), ([1], [1]), ([], []), ([2, 3], [2, 3]), ([4], [4]), ([5], [5]), ([], []), ([7], [7]), ([8, 6], [8]), ([], []), ([10], [10]), ([], []), ([12], [12]), ([], []), ([14], [14]), ([15, 9], [15]), ([], []), ([17], [17]), ([18, 16], [18]), ([0, 6, 9, 11, 13, 16, 19], [0, 6, 9, 11, 13, 16, 19]), ([20, 19, 0, 1, 2, 3, 4, 5, 6, 7, 8, 9, 10, 11, 12, 13, 14, 15, 16, 17, 18, 19, 20], [20]), ([21, 0, 1, 2, 3, 4, 5, 6, 7, 8, 9, 10, 11, 12, 13, 14, 15, 16, 17, 18, 19, 20, 21], [])])
def impl_SightOf.B3 : List Nat := [0, 0, 2, 0, 14, 30, 62, 0, 128, 510, 0, 1024, 0, 4096, 0, 16384, 50174, 0, 131072, 508926, 1048575, 2097151, 4194303]
theorem impl_SightOf.tab3 : rtab .any (opsOf Try.f67 3) = impl_SightOf.T3 := by kernel_rfl
theorem impl_SightOf.bits3 : waitsOk impl_SightOf.T3.2 impl_SightOf.B3 = true := by kernel_rfl
set_option maxHeartbeats 8000000 in
set_option maxRecDepth 100000 in
theorem impl_SightOf.calls (k : Nat) (A0_0 : Option Addr) (c0_0 : Nat) (l0_0 : List (List Int)) (a0_1 : Int) (a0_2 : Int) (A0_3 : Option Addr) (c0_3 : Nat) (l0_3 : List Int) (A0_4 : Option Addr) (c0_4 : Nat) (l0_4 : List Int) (A0_5 : Option Addr) (c0_5 : Nat) (l0_5 : List Int) (a0_6 : Int) (a1 : Int) (r1 : Int) (r2 : List Int) (r3 : List Int) (r4 : Int) (r5 : Int) (r6 : List Int) (r7 : List Int) (r8 : Bool) (w : World) (hr0_0 : Kd.C (Kd.slice 3 (Kd.int .i64)) w A0_0 l0_0.length l0_0) (hc0_0 : l0_0.length ≤ c0_0) (hr0_3 : Kd.C (Kd.int .i64) w A0_3 l0_3.length l0_3) (hc0_3 : l0_3.length ≤ c0_3) (hr0_4 : Kd.C (Kd.int .i64) w A0_4 l0_4.length l0_4) (hc0_4 : l0_4.length ≤ c0_4) (hr0_5 : Kd.C (Kd.int .i64) w A0_5 l0_5.length l0_5) (hc0_5 : l0_5.length ≤ c0_5) (h : impl_SightOf.f k l0_0 a0_1 a0_2 l0_3 l0_4 l0_5 a0_6 a1 = some (r1, r2, r3, r4, r5, r6, r7, r8)) :
  Calls Try.prog 67 #[.agg #[.slice A0_0 l0_0.length c0_0, .int .i64 a0_1, .int .i64 a0_2, .slice A0_3 l0_3.length c0_3, .slice A0_4 l0_4.length c0_4, .slice A0_5 l0_5.length c0_5, .int .i64 a0_6], .int .i64 a1] w fun e w' => ∃ v1_ v2_ v5_ v6_ : Value, e = .returned (.tuple #[.agg #[.int .i64 r1, v1_, v2_, .int .i64 r4, .int .i64 r5, v5_, v6_], .bool r8]) ∧ Kd.R (Kd.int .i64) 3 w' w.heap.size (fun k_ => some k_ ≠ (v2_ : Value).ownBlock ∧ some k_ ≠ (v5_ : Value).ownBlock ∧ some k_ ≠ (v6_ : Value).ownBlock) v1_ r2 ∧ Kd.R (Kd.int .i64) 3 w' w.heap.size (fun k_ => some k_ ≠ (v1_ : Value).ownBlock ∧ some k_ ≠ (v5_ : Value).ownBlock ∧ some k_ ≠ (v6_ : Value).ownBlock) v2_ r3 ∧ Kd.R (Kd.int .i64) 3 w' w.heap.size (fun k_ => some k_ ≠ (v1_ : Value).ownBlock ∧ some k_ ≠ (v2_ : Value).ownBlock ∧ some k_ ≠ (v6_ : Value).ownBlock) v5_ r6 ∧ Kd.R (Kd.int .i64) 3 w' w.heap.size (fun k_ => some k_ ≠ (v1_ : Value).ownBlock ∧ some k_ ≠ (v2_ : Value).ownBlock ∧ some k_ ≠ (v5_ : Value).ownBlock) v6_ r7 ∧ Below w.heap.size w w' := by
 have hu67 := Try.underlying67
 have hu84 := Try.underlying84
 have HR0_0 := QX hr0_0
 have HC0_0 := QX hc0_0
 clear hr0_0 hc0_0
 have HR0_3 := QX hr0_3
 have HC0_3 := QX hc0_3
 clear hr0_3 hc0_3
 have HR0_4 := QX hr0_4
 have HC0_4 := QX hc0_4
 clear hr0_4 hc0_4
 have HR0_5 := QX hr0_5
 have HC0_5 := QX hc0_5
 clear hr0_5 hc0_5
 have HB := QX (Below.refl w.heap.size w)
 have H : ((impl_IsDeal.f k l0_0 a0_1 a0_2 l0_3 l0_4 l0_5 a0_6).bind fun t288 => (if t288 = true then ((impl_InRange.f a1 0 (wrap64 ((l0_0.length : Int) - 1))).bind fun t289 => (impl_SightOf.j0 k a1 (!t289) l0_0 a0_1 a0_2 l0_3 l0_4 l0_5 a0_6)) else (impl_SightOf.j0 k a1 true l0_0 a0_1 a0_2 l0_3 l0_4 l0_5 a0_6))) = some (r1, r2, r3, r4, r5, r6, r7, r8) := h
 clear h
 have HC3 := QX H
 clear H
 go_enter Try.func67, Try.ntmps67
 go_upto_region 1 with (first | ((with_reducible refine gate_dst (N := 2) rfl ?_); (try (refine gate_guard (by rfl) ?_; dsimp only)); refine box_event ?hg (N := 2) ?hd (cs := #[.slice A0_0 l0_0.length c0_0, .int .i64 a0_1, .int .i64 a0_2, .slice A0_3 l0_3.length c0_3, .slice A0_4 l0_4.length c0_4, .slice A0_5 l0_5.length c0_5, .int .i64 a0_6]) (t := 67) ?hr ?_; (case hd => rfl); (case hg => rfl); (case hr => first | (go_simp; done) | (go_simp; rfl)); intro gb286 hg w4 hbox hb; have n0_ := QX (below_step (by repeat (first | (with_reducible first | exact HB.out | apply QF | apply QD | apply QE) | exact HB.out)) hb); have n1_ := QX (hbox); have n2_ := QX ((by rw [hg]; exact (below_size (by repeat (first | (with_reducible first | exact HB.out | apply QF | apply QD | apply QE) | exact HB.out))) : w.heap.size ≤ gb286)); have n3_ := QX ((by rw [hg]; exact (below_size (by repeat (first | (with_reducible first | exact HB.out | apply QF | apply QD | apply QE) | exact HB.out))) : w.heap.size ≤ gb286)); clear HB; have HB := n0_; have BK286 := n1_; have GW286 := n2_; have GE286 := n3_; clear n0_ n1_ n2_ n3_; clear hb hbox hg) | ((with_reducible refine gate_dst (N := 4) rfl ?_); (try (refine gate_guard (by rfl) ?_; dsimp only)); refine box_event ?hg (N := 4) ?hd (cs := #[.int .i64 0, .slice none 0 0, .slice none 0 0, .int .i64 0, .int .i64 0, .slice none 0 0, .slice none 0 0]) (t := 84) ?hr ?_; (case hd => rfl); (case hg => rfl); (case hr => first | (go_simp; done) | (go_simp; rfl)); intro gb287 hg w5 hbox hb; have n0_ := QX (blk_below (g := gb286) (o := .cells #[.slice A0_0 l0_0.length c0_0, .int .i64 a0_1, .int .i64 a0_2, .slice A0_3 l0_3.length c0_3, .slice A0_4 l0_4.length c0_4, .slice A0_5 l0_5.length c0_5, .int .i64 a0_6] 67 (0, 0)) (by (with_reducible repeat (first | refine QJ ?_ _ | refine QL ?_ | refine QK ?_ _)); exact BK286.out) hb); have n1_ := QX (below_step (by repeat (first | (with_reducible first | exact HB.out | apply QF | apply QD | apply QE | refine QG ?_ GE286.out) | exact HB.out)) hb); have n2_ := QX (hbox); have n3_ := QX ((by rw [hg]; exact (below_size (by repeat (first | (with_reducible first | exact HB.out | apply QF | apply QD | apply QE | refine QG ?_ GE286.out) | exact HB.out))) : w.heap.size ≤ gb287)); have n4_ := QX ((by rw [hg]; exact (below_size (by repeat (first | (with_reducible first | exact HB.out | apply QF | apply QD | apply QE | refine QG ?_ GE286.out) | exact HB.out))) : w.heap.size ≤ gb287)); have n5_ := QX ((by rw [hg]; exact Nat.ne_of_lt (blk_lt (g := gb286) (o := .cells #[.slice A0_0 l0_0.length c0_0, .int .i64 a0_1, .int .i64 a0_2, .slice A0_3 l0_3.length c0_3, .slice A0_4 l0_4.length c0_4, .slice A0_5 l0_5.length c0_5, .int .i64 a0_6] 67 (0, 0)) (by (with_reducible repeat (first | refine QJ ?_ _ | refine QL ?_ | refine QK ?_ _)); exact BK286.out)) : gb286 ≠ gb287)); have n6_ := QX ((by rw [hg]; exact Nat.ne_of_gt (blk_lt (g := gb286) (o := .cells #[.slice A0_0 l0_0.length c0_0, .int .i64 a0_1, .int .i64 a0_2, .slice A0_3 l0_3.length c0_3, .slice A0_4 l0_4.length c0_4, .slice A0_5 l0_5.length c0_5, .int .i64 a0_6] 67 (0, 0)) (by (with_reducible repeat (first | refine QJ ?_ _ | refine QL ?_ | refine QK ?_ _)); exact BK286.out)) : gb287 ≠ gb286)); clear BK286; clear HB; have BK286 := n0_; have HB := n1_; have BK287 := n2_; have GW287 := n3_; have GE287 := n4_; have NB286_287 := n5_; have NB287_286 := n6_; clear n0_ n1_ n2_ n3_ n4_ n5_ n6_; clear hb hbox hg))
 (try simp only [Act.put, QU, QV, QW])
 go_cut [17] (fun v17 wc => ∃ (kq : Nat) (x17_2 : Bool), v17 = .bool x17_2 ∧ Aside0 (impl_SightOf.j0 kq a1 x17_2 l0_0 a0_1 a0_2 l0_3 l0_4 l0_5 a0_6 = some (r1, r2, r3, r4, r5, r6, r7, r8)) ∧ Aside0 (kq ≤ k) ∧ Aside0 (wc.heap[gb286]? = some (.cells #[(.slice A0_0 l0_0.length c0_0), .int .i64 a0_1, .int .i64 a0_2, (.slice A0_3 l0_3.length c0_3), (.slice A0_4 l0_4.length c0_4), (.slice A0_5 l0_5.length c0_5), .int .i64 a0_6] 67 (0, 0))) ∧ Aside0 (wc.heap[gb287]? = some (.cells #[.int .i64 0, (.slice none 0 0), (.slice none 0 0), .int .i64 0, .int .i64 0, (.slice none 0 0), (.slice none 0 0)] 84 (0, 0))) ∧ Aside0 (Below w.heap.size w wc))
 case first =>
  have H := HC3.out
  clear HC3
  replace H := Option.bind_eq_some_iff.mp H
  obtain ⟨t288, A60, H⟩ := H
  replace H : (if t288 = true then ((impl_InRange.f a1 0 (wrap64 ((l0_0.length : Int) - 1))).bind fun t289 => (impl_SightOf.j0 k a1 (!t289) l0_0 a0_1 a0_2 l0_3 l0_4 l0_5 a0_6)) else (impl_SightOf.j0 k a1 true l0_0 a0_1 a0_2 l0_3 l0_4 l0_5 a0_6)) = some (r1, r2, r3, r4, r5, r6, r7, r8) := H
  have A6 := QX A60
  clear A60
  by_cases c7 : t288 = true
  rotate_left
  replace c7 := Bool.eq_false_iff.mpr c7
  subst c7
  have H1 : (impl_SightOf.j0 k a1 true l0_0 a0_1 a0_2 l0_3 l0_4 l0_5 a0_6) = some (r1, r2, r3, r4, r5, r6, r7, r8) := by rw [if_neg (show ¬ (false = true) by decide)] at H; exact H
  clear H
  have H := H1
  clear H1
  have H' := QX H
  clear H
  rotate_right
  subst c7
  have H1 : ((impl_InRange.f a1 0 (wrap64 ((l0_0.length : Int) - 1))).bind fun t289 => (impl_SightOf.j0 k a1 (!t289) l0_0 a0_1 a0_2 l0_3 l0_4 l0_5 a0_6)) = some (r1, r2, r3, r4, r5, r6, r7, r8) := by rw [if_pos rfl] at H; exact H
  clear H
  have H := H1
  clear H1
  replace H := Option.bind_eq_some_iff.mp H
  obtain ⟨t289, A80, H⟩ := H
  replace H : (impl_SightOf.j0 k a1 (!t289) l0_0 a0_1 a0_2 l0_3 l0_4 l0_5 a0_6) = some (r1, r2, r3, r4, r5, r6, r7, r8) := H
  have A8 := QX A80
  clear A80
  have H' := QX H
  clear H
  all_goals
   have hnb9 := NB286_287.out
   have hnc9 := NB287_286.out
   have hcz10_0 : w5.cell? ⟨gb286, 0, none⟩ = some (.slice A0_0 l0_0.length c0_0) := (QB BK286.out 0).trans rfl
   have hcz10_1 : w5.cell? ⟨gb286, 1, none⟩ = some (.int .i64 a0_1) := (QB BK286.out 1).trans rfl
   have hcz10_2 : w5.cell? ⟨gb286, 2, none⟩ = some (.int .i64 a0_2) := (QB BK286.out 2).trans rfl
   have hcz10_3 : w5.cell? ⟨gb286, 3, none⟩ = some (.slice A0_3 l0_3.length c0_3) := (QB BK286.out 3).trans rfl
   have hcz10_4 : w5.cell? ⟨gb286, 4, none⟩ = some (.slice A0_4 l0_4.length c0_4) := (QB BK286.out 4).trans rfl
   have hcz10_5 : w5.cell? ⟨gb286, 5, none⟩ = some (.slice A0_5 l0_5.length c0_5) := (QB BK286.out 5).trans rfl
   have hcz10_6 : w5.cell? ⟨gb286, 6, none⟩ = some (.int .i64 a0_6) := (QB BK286.out 6).trans rfl
   have hfz10_0 := QC BK286.out 0
   have hfz10_1 := QC BK286.out 1
   have hfz10_2 := QC BK286.out 2
   have hfz10_3 := QC BK286.out 3
   have hfz10_4 := QC BK286.out 4
   have hfz10_5 := QC BK286.out 5
   have hfz10_6 := QC BK286.out 6
   go_wp2_with (first | ((with_reducible refine gate_callee (f := 116) rfl ?_); refine goesL_ (some 7) rfl rfl Try.func116 (by kernel_rfl) rfl #[.agg #[.slice A0_0 l0_0.length c0_0, .int .i64 a0_1, .int .i64 a0_2, .slice A0_3 l0_3.length c0_3, .slice A0_4 l0_4.length c0_4, .slice A0_5 l0_5.length c0_5, .int .i64 a0_6]] rfl (by (try simp only [List.map_toArray, List.map_cons, List.map_nil]); first | done | rfl | (simp only [List.length_drop, List.length_take]; rfl)) ?_; (with_reducible refine (impl_IsDeal.calls k _ _ l0_0 a0_1 a0_2 (fun k_ => k_ < w.heap.size) _ _ l0_3 _ _ l0_4 _ _ l0_5 a0_6 _ _ ?side1 ?side2 ?side3 ?side4 ?side5 ?side6 ?side7 A6.out).mono ?_); (case side1 => repeat (first | exact (QR HR0_0.out HB.out) | (with_reducible refine QS ?_ _) | (with_reducible refine QT ?_ _) | (with_reducible refine Kd.C_drew ?_))); (case side2 => exact HC0_0.out); (case side3 => exact Kd.V_mk HC0_3.out (Kd.F_below (Kd.C_F (Kd.heap_int .i64) HR0_3.out) (by repeat (first | (with_reducible first | exact HB.out | apply QF | apply QD | apply QE | refine QG ?_ GE286.out | refine QG ?_ GE287.out) | exact HB.out)))); (case side4 => repeat (first | exact (QR HR0_4.out HB.out) | (with_reducible refine QS ?_ _) | (with_reducible refine QT ?_ _) | (with_reducible refine Kd.C_drew ?_))); (case side5 => exact HC0_4.out); (case side6 => repeat (first | exact (QR HR0_5.out HB.out) | (with_reducible refine QS ?_ _) | (with_reducible refine QT ?_ _) | (with_reducible refine Kd.C_drew ?_))); (case side7 => exact HC0_5.out); rintro e w11 ⟨rfl, hb⟩; refine ⟨_, rfl, ?_⟩; have n0_ := QX (blk_below (g := gb286) (o := .cells #[.slice A0_0 l0_0.length c0_0, .int .i64 a0_1, .int .i64 a0_2, .slice A0_3 l0_3.length c0_3, .slice A0_4 l0_4.length c0_4, .slice A0_5 l0_5.length c0_5, .int .i64 a0_6] 67 (0, 0)) (by (with_reducible repeat (first | refine QJ ?_ _ | refine QL ?_ | refine QK ?_ _)); exact BK286.out) hb); have n1_ := QX (blk_below (g := gb287) (o := .cells #[.int .i64 0, .slice none 0 0, .slice none 0 0, .int .i64 0, .int .i64 0, .slice none 0 0, .slice none 0 0] 84 (0, 0)) (by (with_reducible repeat (first | refine QJ ?_ _ | refine QL ?_ | refine QK ?_ _)); exact BK287.out) hb); have n2_ := QX (below_step (by repeat (first | (with_reducible first | exact HB.out | apply QF | apply QD | apply QE | refine QG ?_ GE286.out | refine QG ?_ GE287.out) | exact HB.out)) hb); clear BK286; clear BK287; clear HB; have BK286 := n0_; have BK287 := n1_; have HB := n2_; clear n0_ n1_ n2_; (try clear hb); (try clear hb2); (try clear hk); (try clear hi); have hcz12_0 : w11.cell? ⟨gb286, 0, none⟩ = some (.slice A0_0 l0_0.length c0_0) := (QB BK286.out 0).trans rfl; have hcz12_1 : w11.cell? ⟨gb286, 1, none⟩ = some (.int .i64 a0_1) := (QB BK286.out 1).trans rfl; have hcz12_2 : w11.cell? ⟨gb286, 2, none⟩ = some (.int .i64 a0_2) := (QB BK286.out 2).trans rfl; have hcz12_3 : w11.cell? ⟨gb286, 3, none⟩ = some (.slice A0_3 l0_3.length c0_3) := (QB BK286.out 3).trans rfl; have hcz12_4 : w11.cell? ⟨gb286, 4, none⟩ = some (.slice A0_4 l0_4.length c0_4) := (QB BK286.out 4).trans rfl; have hcz12_5 : w11.cell? ⟨gb286, 5, none⟩ = some (.slice A0_5 l0_5.length c0_5) := (QB BK286.out 5).trans rfl; have hcz12_6 : w11.cell? ⟨gb286, 6, none⟩ = some (.int .i64 a0_6) := (QB BK286.out 6).trans rfl; have hfz12_0 := QC BK286.out 0; have hfz12_1 := QC BK286.out 1; have hfz12_2 := QC BK286.out 2; have hfz12_3 := QC BK286.out 3; have hfz12_4 := QC BK286.out 4; have hfz12_5 := QC BK286.out 5; have hfz12_6 := QC BK286.out 6) | (go_at_call 85; (with_reducible refine (impl_InRange.calls a1 0 (wrap64 ((l0_0.length : Int) - 1)) t289 _ A8.out).mono ?_); rintro e w' ⟨rfl, ⟨nd, rfl⟩⟩))
   go_meet
   case rel => exact ⟨_, _, (by first | rfl | (simp; done) | (simp [*]; done)), H', ⟨by first | omega | exact Nat.le_refl _⟩, ⟨by (with_reducible repeat (first | refine QJ ?_ _ | refine QL ?_ | refine QK ?_ _)); exact BK286.out⟩, ⟨by (with_reducible repeat (first | refine QJ ?_ _ | refine QL ?_ | refine QK ?_ _)); exact BK287.out⟩, ⟨by repeat (first | (with_reducible first | exact HB.out | apply QF | apply QD | apply QE | refine QG ?_ GE286.out | refine QG ?_ GE287.out) | exact HB.out)⟩⟩
 case rest =>
  clear HC3
  try clear c1
  try clear p2
  try clear c6
  try clear p6
  try clear c7
  try clear c9
  try clear c11
  try clear c13
  try clear hcz10_0
  try clear hcz10_1
  try clear hcz10_2
  try clear hcz10_3
  try clear hcz10_4
  try clear hcz10_5
  try clear hcz10_6
  try clear hcz12_0
  try clear hcz12_1
  try clear hcz12_2
  try clear hcz12_3
  try clear hcz12_4
  try clear hcz12_5
  try clear hcz12_6
  try clear hcz14_0
  try clear hcz14_1
  try clear hcz14_2
  try clear hcz14_3
  try clear hcz14_4
  try clear hcz14_5
  try clear hcz14_6
  try clear hfz10_0
  try clear hfz10_1
  try clear hfz10_2
  try clear hfz10_3
  try clear hfz10_4
  try clear hfz10_5
  try clear hfz10_6
  try clear hfz12_0
  try clear hfz12_1
  try clear hfz12_2
  try clear hfz12_3
  try clear hfz12_4
  try clear hfz12_5
  try clear hfz12_6
  try clear hfz14_0
  try clear hfz14_1
  try clear hfz14_2
  try clear hfz14_3
  try clear hfz14_4
  try clear hfz14_5
  try clear hfz14_6
  obtain ⟨kq, x17_2, rfl, HA, HJ2, BK286, BK287, HB⟩ := hcut
  cases kq with
  | zero => exact absurd HA.out (by simp [impl_SightOf.j0])
  | succ kj2 =>
   have H := HA.out
   clear HA
   simp only [impl_SightOf.j0] at H
   by_cases c16 : x17_2 = true
   ·subst c16
    have H1 : (some (0, ([] : List Int), ([] : List Int), 0, 0, ([] : List Int), ([] : List Int), false)) = some (r1, r2, r3, r4, r5, r6, r7, r8) := by rw [if_pos rfl] at H; exact H
    clear H
    have H := H1
    clear H1
    simp only [Option.some.injEq, Prod.mk.injEq] at H
    obtain ⟨rfl, rfl, rfl, rfl, rfl, rfl, rfl, rfl⟩ := H
    have hnb17 := NB287_286.out
    have hnc17 := NB286_287.out
    have hcz18_0 : wc.cell? ⟨gb287, 0, none⟩ = some (.int .i64 0) := (QB BK287.out 0).trans rfl
    have hcz18_1 : wc.cell? ⟨gb287, 1, none⟩ = some (.slice none 0 0) := (QB BK287.out 1).trans rfl
    have hcz18_2 : wc.cell? ⟨gb287, 2, none⟩ = some (.slice none 0 0) := (QB BK287.out 2).trans rfl
    have hcz18_3 : wc.cell? ⟨gb287, 3, none⟩ = some (.int .i64 0) := (QB BK287.out 3).trans rfl
    have hcz18_4 : wc.cell? ⟨gb287, 4, none⟩ = some (.int .i64 0) := (QB BK287.out 4).trans rfl
    have hcz18_5 : wc.cell? ⟨gb287, 5, none⟩ = some (.slice none 0 0) := (QB BK287.out 5).trans rfl
    have hcz18_6 : wc.cell? ⟨gb287, 6, none⟩ = some (.slice none 0 0) := (QB BK287.out 6).trans rfl
    have hfz18_0 := QC BK287.out 0
    have hfz18_1 := QC BK287.out 1
    have hfz18_2 := QC BK287.out 2
    have hfz18_3 := QC BK287.out 3
    have hfz18_4 := QC BK287.out 4
    have hfz18_5 := QC BK287.out 5
    have hfz18_6 := QC BK287.out 6
    go_wp2
    refine bodyPost_ret (results_ct rfl _ _ gb287 84 #[.int .i64 0, .slice none 0 0, .slice none 0 0, .int .i64 0, .int .i64 0, .slice none 0 0, .slice none 0 0] (0, 0) _ rfl (by (with_reducible repeat (first | refine QJ ?_ _ | refine QL ?_ | refine QK ?_ _)); refine blk_put (cs := #[.int .i64 0, .slice none 0 0, .slice none 0 0, .int .i64 0, .int .i64 0, .slice none 0 0, .slice none 0 0]) ?_ 6 _ rfl; (with_reducible repeat (first | refine QJ ?_ _ | refine QL ?_ | refine QK ?_ _)); refine blk_put (cs := #[.int .i64 0, .slice none 0 0, .slice none 0 0, .int .i64 0, .int .i64 0, .slice none 0 0, .slice none 0 0]) ?_ 5 _ rfl; (with_reducible repeat (first | refine QJ ?_ _ | refine QL ?_ | refine QK ?_ _)); refine blk_put (cs := #[.int .i64 0, .slice none 0 0, .slice none 0 0, .int .i64 0, .int .i64 0, .slice none 0 0, .slice none 0 0]) ?_ 4 _ rfl; (with_reducible repeat (first | refine QJ ?_ _ | refine QL ?_ | refine QK ?_ _)); refine blk_put (cs := #[.int .i64 0, .slice none 0 0, .slice none 0 0, .int .i64 0, .int .i64 0, .slice none 0 0, .slice none 0 0]) ?_ 3 _ rfl; (with_reducible repeat (first | refine QJ ?_ _ | refine QL ?_ | refine QK ?_ _)); refine blk_put (cs := #[.int .i64 0, .slice none 0 0, .slice none 0 0, .int .i64 0, .int .i64 0, .slice none 0 0, .slice none 0 0]) ?_ 2 _ rfl; (with_reducible repeat (first | refine QJ ?_ _ | refine QL ?_ | refine QK ?_ _)); refine blk_put (cs := #[.int .i64 0, .slice none 0 0, .slice none 0 0, .int .i64 0, .int .i64 0, .slice none 0 0, .slice none 0 0]) ?_ 1 _ rfl; (with_reducible repeat (first | refine QJ ?_ _ | refine QL ?_ | refine QK ?_ _)); refine blk_put (cs := #[.int .i64 0, .slice none 0 0, .slice none 0 0, .int .i64 0, .int .i64 0, .slice none 0 0, .slice none 0 0]) ?_ 0 _ rfl; (with_reducible repeat (first | refine QJ ?_ _ | refine QL ?_ | refine QK ?_ _)); exact BK287.out) Try.underlying84 rfl (by kernel_rfl)) rfl ?_
    exact ⟨_, _, _, _, by first | rfl | (simp [errW_none, errW_some] <;> rfl) | (simp [*, errW_none, errW_some] <;> rfl), by first | exact Kd.R_nil _ _ _ _ _ | exact Kd.N_nil _ _ _ _ _ | exact Kd.V_nil _ _ _ _ _ | exact Kd.Q_nil _ _ _ _ _ | exact Kd.S_nil _ _ _ _ _, by first | exact Kd.R_nil _ _ _ _ _ | exact Kd.N_nil _ _ _ _ _ | exact Kd.V_nil _ _ _ _ _ | exact Kd.Q_nil _ _ _ _ _ | exact Kd.S_nil _ _ _ _ _, by first | exact Kd.R_nil _ _ _ _ _ | exact Kd.N_nil _ _ _ _ _ | exact Kd.V_nil _ _ _ _ _ | exact Kd.Q_nil _ _ _ _ _ | exact Kd.S_nil _ _ _ _ _, by first | exact Kd.R_nil _ _ _ _ _ | exact Kd.N_nil _ _ _ _ _ | exact Kd.V_nil _ _ _ _ _ | exact Kd.Q_nil _ _ _ _ _ | exact Kd.S_nil _ _ _ _ _, by repeat (first | (with_reducible first | exact HB.out | apply QF | apply QD | apply QE | refine QG ?_ GE286.out | refine QG ?_ GE287.out) | exact HB.out)⟩
   ·replace c16 := Bool.eq_false_iff.mpr c16
    subst c16
    have H1 : (if 0 ≤ a1 then (if a1 < (l0_0.length : Int) then ((impl_Sorted.f (rd_L1 l0_0 a1)).bind fun t291 => ((impl_copyOf.f l0_3).bind fun t294 => ((impl_sizes.f kj2 l0_0).bind fun t297 => ((impl_copyOf.f l0_4).bind fun t300 => (some (a1, t291, t294, a0_1, a0_2, t297, t300, true)))))) else (none)) else (none)) = some (r1, r2, r3, r4, r5, r6, r7, r8) := by rw [if_neg (show ¬ (false = true) by decide)] at H; exact H
    clear H
    have H := H1
    clear H1
    by_cases c19 : 0 ≤ a1
    ·rw [if_pos c19] at H
     have c19b0 : decide (0 ≤ a1) = true := decide_eq_true c19
     clear c19
     by_cases c20 : a1 < (l0_0.length : Int)
     ·rw [if_pos c20] at H
      have c20b0 : decide (a1 < (l0_0.length : Int)) = true := decide_eq_true c20
      clear c20
      replace H := Option.bind_eq_some_iff.mp H
      obtain ⟨t291, A210, H⟩ := H
      replace H : ((impl_copyOf.f l0_3).bind fun t294 => ((impl_sizes.f kj2 l0_0).bind fun t297 => ((impl_copyOf.f l0_4).bind fun t300 => (some (a1, t291, t294, a0_1, a0_2, t297, t300, true))))) = some (r1, r2, r3, r4, r5, r6, r7, r8) := H
      have A21 := QX A210
      clear A210
      replace H := Option.bind_eq_some_iff.mp H
      obtain ⟨t294, A220, H⟩ := H
      replace H : ((impl_sizes.f kj2 l0_0).bind fun t297 => ((impl_copyOf.f l0_4).bind fun t300 => (some (a1, t291, t294, a0_1, a0_2, t297, t300, true)))) = some (r1, r2, r3, r4, r5, r6, r7, r8) := H
      have A22 := QX A220
      clear A220
      replace H := Option.bind_eq_some_iff.mp H
      obtain ⟨t297, A230, H⟩ := H
      replace H : ((impl_copyOf.f l0_4).bind fun t300 => (some (a1, t291, t294, a0_1, a0_2, t297, t300, true))) = some (r1, r2, r3, r4, r5, r6, r7, r8) := H
      have A23 := QX A230
      clear A230
      replace H := Option.bind_eq_some_iff.mp H
      obtain ⟨t300, A240, H⟩ := H
      replace H : (some (a1, t291, t294, a0_1, a0_2, t297, t300, true)) = some (r1, r2, r3, r4, r5, r6, r7, r8) := H
      have A24 := QX A240
      clear A240
      simp only [Option.some.injEq, Prod.mk.injEq] at H
      obtain ⟨rfl, rfl, rfl, rfl, rfl, rfl, rfl, rfl⟩ := H
      try go_wp2
      have n0_ := QX (QL BK286.out)
      have n1_ := QX (QL BK287.out)
      have n2_ := QX (QE HB.out)
      clear BK286
      clear BK287
      clear HB
      have BK286 := n0_
      have BK287 := n1_
      have HB := n2_
      clear n0_ n1_ n2_
      have p290 : 0 ≤ (a1 : Int) := of_decide_eq_true (by first | (with_reducible assumption) | assumption)
      have q290 : a1 < (l0_0.length : Int) := of_decide_eq_true (by first | (with_reducible assumption) | assumption)
      obtain ⟨ad290, A290_0, c290_0, e290, hx290_0, hl290_0, hi290_0⟩ := at_L1 HR0_0.out a1 p290 q290
      have hw290_0 := hx290_0
      cases e290
      replace hx290_0 := (HB.out.cell (World.block_lt_of_cell? w _ hx290_0)).trans hx290_0
      have HR290_0 := QX hi290_0
      have HC290_0 := QX hl290_0
      clear hi290_0 hl290_0
      replace p290 := eq_true p290
      replace q290 := eq_true q290
      refine start_ (n := 23) (S := fun w' => w'.cell? ⟨gb286, 0, none⟩ = some (.slice (some ad290) l0_0.length c0_0) ∧ w'.cell? ⟨gb286, 1, none⟩ = some (.int .i64 a0_1) ∧ w'.cell? ⟨gb286, 2, none⟩ = some (.int .i64 a0_2) ∧ w'.cell? ⟨gb286, 3, none⟩ = some (.slice A0_3 l0_3.length c0_3) ∧ w'.cell? ⟨gb286, 4, none⟩ = some (.slice A0_4 l0_4.length c0_4) ∧ w'.cell? ⟨gb286, 5, none⟩ = some (.slice A0_5 l0_5.length c0_5) ∧ w'.cell? ⟨gb286, 6, none⟩ = some (.int .i64 a0_6) ∧ w'.cell? (ad290.add (a1).toNat) = some (.slice A290_0 (rd_L1 l0_0 a1).length c290_0)) (ds := []) #[false, false, false, false, false, false, false, false, false, false, false, false, false, false, false, false, false, false, false, false, false, false, false] (by kernel_rfl) rfl rfl ⟨(QB BK286.out 0).trans rfl, (QB BK286.out 1).trans rfl, (QB BK286.out 2).trans rfl, (QB BK286.out 3).trans rfl, (QB BK286.out 4).trans rfl, (QB BK286.out 5).trans rfl, (QB BK286.out 6).trans rfl, ((HB.out.cell (World.block_lt_of_cell? w _ hw290_0)).trans hw290_0)⟩ (fun hHeld => ?_); refine with_tabW impl_SightOf.tab3 impl_SightOf.bits3 (fun HT_ HW_ => ?_)
      generalize wc.drew = w25 at BK286 BK287 HB HR290_0 hx290_0 hHeld ⊢
      refine pure_ (i := 0) (N := some 19) (v := ?_) (a' := ?_) #[true, false, false, false, false, false, false, false, false, false, false, false, false, false, false, false, false, false, false, false, false, false, false] rfl rfl (any_of HT_.out (by kernel_rfl)) (fun _ _ _ h => h) (Or.inl ⟨by rfl, ?_⟩) ?_ ?_
      rotate_left
      ·intro w'
       go_simp
       with_reducible rfl
      rotate_left
      ·simp only [Act.put, QU, QV, QW, i64_w, i32_w]
       rfl
      refine pure_ (i := 1) (N := some 20) (v := ?_) (a' := ?_) #[true, true, false, false, false, false, false, false, false, false, false, false, false, false, false, false, false, false, false, false, false, false, false] rfl rfl (any_of HT_.out (by kernel_rfl)) (fun _ _ _ h => h) (Or.inl ⟨by rfl, ?_⟩) ?_ ?_
      rotate_left
      ·intro w'
       go_simp
       with_reducible rfl
      rotate_left
      ·simp only [Act.put, QU, QV, QW, i64_w, i32_w]
       rfl
      refine pure_ (i := 3) (N := some 22) (v := ?_) (a' := ?_) #[true, true, false, true, false, false, false, false, false, false, false, false, false, false, false, false, false, false, false, false, false, false, false] rfl rfl (any_of HT_.out (by kernel_rfl)) (fun _ _ _ h => h) (Or.inl ⟨by rfl, ?_⟩) ?_ ?_
      rotate_left
      ·intro w'
       go_simp
       with_reducible rfl
      rotate_left
      ·simp only [Act.put, QU, QV, QW, i64_w, i32_w]
       rfl
      refine pure_ (i := 7) (N := some 26) (v := ?_) (a' := ?_) #[true, true, false, true, false, false, false, true, false, false, false, false, false, false, false, false, false, false, false, false, false, false, false] rfl rfl (any_of HT_.out (by kernel_rfl)) (fun _ _ _ h => h) (Or.inl ⟨by rfl, ?_⟩) ?_ ?_
      rotate_left
      ·intro w'
       go_simp
       with_reducible rfl
      rotate_left
      ·simp only [Act.put, QU, QV, QW, i64_w, i32_w]
       rfl
      refine pure_ (i := 10) (N := some 29) (v := ?_) (a' := ?_) #[true, true, false, true, false, false, false, true, false, false, true, false, false, false, false, false, false, false, false, false, false, false, false] rfl rfl (any_of HT_.out (by kernel_rfl)) (fun _ _ _ h => h) (Or.inl ⟨by rfl, ?_⟩) ?_ ?_
      rotate_left
      ·intro w'
       go_simp
       with_reducible rfl
      rotate_left
      ·simp only [Act.put, QU, QV, QW, i64_w, i32_w]
       rfl
      refine pure_ (i := 12) (N := some 31) (v := ?_) (a' := ?_) #[true, true, false, true, false, false, false, true, false, false, true, false, true, false, false, false, false, false, false, false, false, false, false] rfl rfl (any_of HT_.out (by kernel_rfl)) (fun _ _ _ h => h) (Or.inl ⟨by rfl, ?_⟩) ?_ ?_
      rotate_left
      ·intro w'
       go_simp
       with_reducible rfl
      rotate_left
      ·simp only [Act.put, QU, QV, QW, i64_w, i32_w]
       rfl
      refine pure_ (i := 14) (N := some 33) (v := ?_) (a' := ?_) #[true, true, false, true, false, false, false, true, false, false, true, false, true, false, true, false, false, false, false, false, false, false, false] rfl rfl (any_of HT_.out (by kernel_rfl)) (fun _ _ _ h => h) (Or.inl ⟨by rfl, ?_⟩) ?_ ?_
      rotate_left
      ·intro w'
       go_simp
       with_reducible rfl
      rotate_left
      ·simp only [Act.put, QU, QV, QW, i64_w, i32_w]
       rfl
      refine pure_ (i := 17) (N := some 36) (v := ?_) (a' := ?_) #[true, true, false, true, false, false, false, true, false, false, true, false, true, false, true, false, false, true, false, false, false, false, false] rfl rfl (any_of HT_.out (by kernel_rfl)) (fun _ _ _ h => h) (Or.inl ⟨by rfl, ?_⟩) ?_ ?_
      rotate_left
      ·intro w'
       go_simp
       with_reducible rfl
      rotate_left
      ·simp only [Act.put, QU, QV, QW, i64_w, i32_w]
       rfl
      refine take_ (i := 2) (N := some 21) (v := ?_) (a' := ?_) #[true, true, true, true, false, false, false, true, false, false, true, false, true, false, true, false, false, true, false, false, false, false, false] rfl rfl (take_ofW HT_.out HW_.out (by kernel_rfl)) (fun _ _ _ h => h) (Or.inl ⟨by rfl, ?_⟩) hHeld ?_ ?_
      rotate_left
      ·rintro w' ⟨s0, s1, s2, s3, s4, s5, s6, s7⟩
       go_simp
       with_reducible rfl
      rotate_left
      ·simp only [Act.put, QU, QV, QW, i64_w, i32_w]
       rfl
      refine pure_ (i := 4) (N := some 23) (v := ?_) (a' := ?_) #[true, true, true, true, true, false, false, true, false, false, true, false, true, false, true, false, false, true, false, false, false, false, false] rfl rfl (any_of HT_.out (by kernel_rfl)) (fun _ _ _ h => h) (Or.inl ⟨by rfl, ?_⟩) ?_ ?_
      rotate_left
      ·intro w'
       go_simp
       with_reducible rfl
      rotate_left
      ·simp only [Act.put, QU, QV, QW, i64_w, i32_w]
       rfl
      refine take_ (i := 5) (N := some 24) (v := ?_) (a' := ?_) #[true, true, true, true, true, true, false, true, false, false, true, false, true, false, true, false, false, true, false, false, false, false, false] rfl rfl (take_ofW HT_.out HW_.out (by kernel_rfl)) (fun _ _ _ h => h) (Or.inl ⟨by rfl, ?_⟩) hHeld ?_ ?_
      rotate_left
      ·rintro w' ⟨s0, s1, s2, s3, s4, s5, s6, s7⟩
       go_simp
       with_reducible rfl
      rotate_left
      ·simp only [Act.put, QU, QV, QW, i64_w, i32_w]
       rfl
      refine take_ (i := 8) (N := some 27) (v := ?_) (a' := ?_) #[true, true, true, true, true, true, false, true, true, false, true, false, true, false, true, false, false, true, false, false, false, false, false] rfl rfl (take_ofW HT_.out HW_.out (by kernel_rfl)) (fun _ _ _ h => h) (Or.inl ⟨by rfl, ?_⟩) hHeld ?_ ?_
      rotate_left
      ·rintro w' ⟨s0, s1, s2, s3, s4, s5, s6, s7⟩
       go_simp
       with_reducible rfl
      rotate_left
      ·simp only [Act.put, QU, QV, QW, i64_w, i32_w]
       rfl
      refine take_ (i := 11) (N := some 30) (v := ?_) (a' := ?_) #[true, true, true, true, true, true, false, true, true, false, true, true, true, false, true, false, false, true, false, false, false, false, false] rfl rfl (take_ofW HT_.out HW_.out (by kernel_rfl)) (fun _ _ _ h => h) (Or.inl ⟨by rfl, ?_⟩) hHeld ?_ ?_
      rotate_left
      ·rintro w' ⟨s0, s1, s2, s3, s4, s5, s6, s7⟩
       go_simp
       with_reducible rfl
      rotate_left
      ·simp only [Act.put, QU, QV, QW, i64_w, i32_w]
       rfl
      refine take_ (i := 13) (N := some 32) (v := ?_) (a' := ?_) #[true, true, true, true, true, true, false, true, true, false, true, true, true, true, true, false, false, true, false, false, false, false, false] rfl rfl (take_ofW HT_.out HW_.out (by kernel_rfl)) (fun _ _ _ h => h) (Or.inl ⟨by rfl, ?_⟩) hHeld ?_ ?_
      rotate_left
      ·rintro w' ⟨s0, s1, s2, s3, s4, s5, s6, s7⟩
       go_simp
       with_reducible rfl
      rotate_left
      ·simp only [Act.put, QU, QV, QW, i64_w, i32_w]
       rfl
      refine take_ (i := 15) (N := some 34) (v := ?_) (a' := ?_) #[true, true, true, true, true, true, false, true, true, false, true, true, true, true, true, true, false, true, false, false, false, false, false] rfl rfl (take_ofW HT_.out HW_.out (by kernel_rfl)) (fun _ _ _ h => h) (Or.inl ⟨by rfl, ?_⟩) hHeld ?_ ?_
      rotate_left
      ·rintro w' ⟨s0, s1, s2, s3, s4, s5, s6, s7⟩
       go_simp
       with_reducible rfl
      rotate_left
      ·simp only [Act.put, QU, QV, QW, i64_w, i32_w]
       rfl
      refine take_ (i := 18) (N := some 37) (v := ?_) (a' := ?_) #[true, true, true, true, true, true, false, true, true, false, true, true, true, true, true, true, false, true, true, false, false, false, false] rfl rfl (take_ofW HT_.out HW_.out (by kernel_rfl)) (fun _ _ _ h => h) (Or.inl ⟨by rfl, ?_⟩) hHeld ?_ ?_
      rotate_left
      ·rintro w' ⟨s0, s1, s2, s3, s4, s5, s6, s7⟩
       go_simp
       with_reducible rfl
      rotate_left
      ·simp only [Act.put, QU, QV, QW, i64_w, i32_w]
       rfl
      refine one_ (i := 6) (N := some 25) #[true, true, true, true, true, true, true, true, true, false, true, true, true, true, true, true, false, true, true, false, false, false, false] rfl rfl (one_of HT_.out (by kernel_rfl)) (by decide) (fun K hK => ?_)
      refine goes_ Try.func131 (by kernel_rfl) rfl #[.slice A290_0 (rd_L1 l0_0 a1).length c290_0] (by rfl) rfl rfl (by (try simp only [List.map_toArray, List.map_cons, List.map_nil]); first | done | rfl | (simp only [List.length_drop, List.length_take]; rfl)) ?_
      with_reducible refine (impl_Sorted.calls _ _ (rd_L1 l0_0 a1) t291 _ ?side1 ?side2 A21.out).mono ?_
      (case side1 => repeat (first | exact (QR HR290_0.out HB.out) | (with_reducible refine QS ?_ _) | (with_reducible refine QT ?_ _) | (with_reducible refine Kd.C_drew ?_)))
      (case side2 => exact HC290_0.out)
      rintro e w26 ⟨v292, rfl, ho0, hb⟩
      refine ⟨_, rfl, ?_⟩
      have n0_ := QX (Kd.R_lower ho0 (below_size (by repeat (first | (with_reducible first | exact HB.out | apply QF | apply QD | apply QE | refine QG ?_ GE286.out | refine QG ?_ GE287.out) | exact HB.out))))
      have n1_ := QX (blk_below (g := gb286) (o := .cells #[.slice (some ad290) l0_0.length c0_0, .int .i64 a0_1, .int .i64 a0_2, .slice A0_3 l0_3.length c0_3, .slice A0_4 l0_4.length c0_4, .slice A0_5 l0_5.length c0_5, .int .i64 a0_6] 67 (0, 0)) (by (with_reducible repeat (first | refine QJ ?_ _ | refine QL ?_ | refine QK ?_ _)); exact BK286.out) hb)
      have n2_ := QX (blk_below (g := gb287) (o := .cells #[.int .i64 0, .slice none 0 0, .slice none 0 0, .int .i64 0, .int .i64 0, .slice none 0 0, .slice none 0 0] 84 (0, 0)) (by (with_reducible repeat (first | refine QJ ?_ _ | refine QL ?_ | refine QK ?_ _)); exact BK287.out) hb)
      have n3_ := QX (below_step (by repeat (first | (with_reducible first | exact HB.out | apply QF | apply QD | apply QE | refine QG ?_ GE286.out | refine QG ?_ GE287.out) | exact HB.out)) hb)
      clear BK286
      clear BK287
      clear HB
      have HO293 := n0_
      have BK286 := n1_
      have BK287 := n2_
      have HB := n3_
      clear n0_ n1_ n2_ n3_
      (try clear hb)
      (try clear hb2)
      (try clear hk)
      (try clear hi)
      (try clear ho0)
      refine hK.out _ _ ⟨(QB BK286.out 0).trans rfl, (QB BK286.out 1).trans rfl, (QB BK286.out 2).trans rfl, (QB BK286.out 3).trans rfl, (QB BK286.out 4).trans rfl, (QB BK286.out 5).trans rfl, (QB BK286.out 6).trans rfl, ((HB.out.cell (World.block_lt_of_cell? w _ hw290_0)).trans hw290_0)⟩ (fun hHeld => ?_)
      clear hK K
      refine norm_ (a' := ?_) ?_ ?_
      rotate_left
      ·show Act.put _ (some 25) _ = _
       simp only [Act.put, QU, QV, QW, i64_w, i32_w]
       rfl
      refine one_ (i := 9) (N := some 28) #[true, true, true, true, true, true, true, true, true, true, true, true, true, true, true, true, false, true, true, false, false, false, false] rfl rfl (one_of HT_.out (by kernel_rfl)) (by decide) (fun K hK => ?_)
      refine goes_ Try.func132 (by kernel_rfl) rfl #[.slice A0_3 l0_3.length c0_3] (by rfl) rfl rfl (by (try simp only [List.map_toArray, List.map_cons, List.map_nil]); first | done | rfl | (simp only [List.length_drop, List.length_take]; rfl)) ?_
      with_reducible refine (impl_copyOf.calls _ _ l0_3 t294 _ ?side1 ?side2 A22.out).mono ?_
      (case side1 => repeat (first | exact (QR HR0_3.out HB.out) | (with_reducible refine QS ?_ _) | (with_reducible refine QT ?_ _) | (with_reducible refine Kd.C_drew ?_)))
      (case side2 => exact HC0_3.out)
      rintro e w27 ⟨v295, rfl, ho0, hb⟩
      refine ⟨_, rfl, ?_⟩
      have n0_ := QX (Kd.R_elder' (by (with_reducible repeat (first | apply QM | apply QN | apply QO)); exact HO293.out) (Kd.R_base ho0) hb)
      have n1_ := QX (Kd.R_lower (Kd.R_new' ho0 (Kd.R_lt (by (with_reducible repeat (first | apply QM | apply QN | apply QO)); exact HO293.out))) (below_size (by repeat (first | (with_reducible first | exact HB.out | apply QF | apply QD | apply QE | refine QG ?_ GE286.out | refine QG ?_ GE287.out) | exact HB.out))))
      have n2_ := QX (blk_below (g := gb286) (o := .cells #[.slice (some ad290) l0_0.length c0_0, .int .i64 a0_1, .int .i64 a0_2, .slice A0_3 l0_3.length c0_3, .slice A0_4 l0_4.length c0_4, .slice A0_5 l0_5.length c0_5, .int .i64 a0_6] 67 (0, 0)) (by (with_reducible repeat (first | refine QJ ?_ _ | refine QL ?_ | refine QK ?_ _)); exact BK286.out) hb)
      have n3_ := QX (blk_below (g := gb287) (o := .cells #[.int .i64 0, .slice none 0 0, .slice none 0 0, .int .i64 0, .int .i64 0, .slice none 0 0, .slice none 0 0] 84 (0, 0)) (by (with_reducible repeat (first | refine QJ ?_ _ | refine QL ?_ | refine QK ?_ _)); exact BK287.out) hb)
      have n4_ := QX (below_step (by repeat (first | (with_reducible first | exact HB.out | apply QF | apply QD | apply QE | refine QG ?_ GE286.out | refine QG ?_ GE287.out) | exact HB.out)) hb)
      clear HO293
      clear BK286
      clear BK287
      clear HB
      have HO293 := n0_
      have HO296 := n1_
      have BK286 := n2_
      have BK287 := n3_
      have HB := n4_
      clear n0_ n1_ n2_ n3_ n4_
      (try clear hb)
      (try clear hb2)
      (try clear hk)
      (try clear hi)
      (try clear ho0)
      refine hK.out _ _ ⟨(QB BK286.out 0).trans rfl, (QB BK286.out 1).trans rfl, (QB BK286.out 2).trans rfl, (QB BK286.out 3).trans rfl, (QB BK286.out 4).trans rfl, (QB BK286.out 5).trans rfl, (QB BK286.out 6).trans rfl, ((HB.out.cell (World.block_lt_of_cell? w _ hw290_0)).trans hw290_0)⟩ (fun hHeld => ?_)
      clear hK K
      refine norm_ (a' := ?_) ?_ ?_
      rotate_left
      ·show Act.put _ (some 28) _ = _
       simp only [Act.put, QU, QV, QW, i64_w, i32_w]
       rfl
      refine one_ (i := 16) (N := some 35) #[true, true, true, true, true, true, true, true, true, true, true, true, true, true, true, true, true, true, true, false, false, false, false] rfl rfl (one_of HT_.out (by kernel_rfl)) (by decide) (fun K hK => ?_)
      refine goes_ Try.func133 (by kernel_rfl) rfl #[.slice (some ad290) l0_0.length c0_0] (by rfl) rfl rfl (by (try simp only [List.map_toArray, List.map_cons, List.map_nil]); first | done | rfl | (simp only [List.length_drop, List.length_take]; rfl)) ?_
      with_reducible refine (impl_sizes.calls kj2 _ _ l0_0 t297 _ ?side1 ?side2 A23.out).mono ?_
      (case side1 => repeat (first | exact (QR HR0_0.out HB.out) | (with_reducible refine QS ?_ _) | (with_reducible refine QT ?_ _) | (with_reducible refine Kd.C_drew ?_)))
      (case side2 => exact HC0_0.out)
      rintro e w28 ⟨v298, rfl, ho0, hb⟩
      refine ⟨_, rfl, ?_⟩
      have n0_ := QX (Kd.R_elder' (by (with_reducible repeat (first | apply QM | apply QN | apply QO)); exact HO293.out) (Kd.R_base ho0) hb)
      have n1_ := QX (Kd.R_elder' (by (with_reducible repeat (first | apply QM | apply QN | apply QO)); exact HO296.out) (Kd.R_base ho0) hb)
      have n2_ := QX (Kd.R_lower (Kd.R_new' (Kd.R_new' ho0 (Kd.R_lt (by (with_reducible repeat (first | apply QM | apply QN | apply QO)); exact HO293.out))) (Kd.R_lt (by (with_reducible repeat (first | apply QM | apply QN | apply QO)); exact HO296.out))) (below_size (by repeat (first | (with_reducible first | exact HB.out | apply QF | apply QD | apply QE | refine QG ?_ GE286.out | refine QG ?_ GE287.out) | exact HB.out))))
      have n3_ := QX (blk_below (g := gb286) (o := .cells #[.slice (some ad290) l0_0.length c0_0, .int .i64 a0_1, .int .i64 a0_2, .slice A0_3 l0_3.length c0_3, .slice A0_4 l0_4.length c0_4, .slice A0_5 l0_5.length c0_5, .int .i64 a0_6] 67 (0, 0)) (by (with_reducible repeat (first | refine QJ ?_ _ | refine QL ?_ | refine QK ?_ _)); exact BK286.out) hb)
      have n4_ := QX (blk_below (g := gb287) (o := .cells #[.int .i64 0, .slice none 0 0, .slice none 0 0, .int .i64 0, .int .i64 0, .slice none 0 0, .slice none 0 0] 84 (0, 0)) (by (with_reducible repeat (first | refine QJ ?_ _ | refine QL ?_ | refine QK ?_ _)); exact BK287.out) hb)
      have n5_ := QX (below_step (by repeat (first | (with_reducible first | exact HB.out | apply QF | apply QD | apply QE | refine QG ?_ GE286.out | refine QG ?_ GE287.out) | exact HB.out)) hb)
      clear HO293
      clear HO296
      clear BK286
      clear BK287
      clear HB
      have HO293 := n0_
      have HO296 := n1_
      have HO299 := n2_
      have BK286 := n3_
      have BK287 := n4_
      have HB := n5_
      clear n0_ n1_ n2_ n3_ n4_ n5_
      (try clear hb)
      (try clear hb2)
      (try clear hk)
      (try clear hi)
      (try clear ho0)
      refine hK.out _ _ ⟨(QB BK286.out 0).trans rfl, (QB BK286.out 1).trans rfl, (QB BK286.out 2).trans rfl, (QB BK286.out 3).trans rfl, (QB BK286.out 4).trans rfl, (QB BK286.out 5).trans rfl, (QB BK286.out 6).trans rfl, ((HB.out.cell (World.block_lt_of_cell? w _ hw290_0)).trans hw290_0)⟩ (fun hHeld => ?_)
      clear hK K
      refine norm_ (a' := ?_) ?_ ?_
      rotate_left
      ·show Act.put _ (some 35) _ = _
       simp only [Act.put, QU, QV, QW, i64_w, i32_w]
       rfl
      refine one_ (i := 19) (N := some 38) #[true, true, true, true, true, true, true, true, true, true, true, true, true, true, true, true, true, true, true, true, false, false, false] rfl rfl (one_of HT_.out (by kernel_rfl)) (by decide) (fun K hK => ?_)
      refine goes_ Try.func132 (by kernel_rfl) rfl #[.slice A0_4 l0_4.length c0_4] (by rfl) rfl rfl (by (try simp only [List.map_toArray, List.map_cons, List.map_nil]); first | done | rfl | (simp only [List.length_drop, List.length_take]; rfl)) ?_
      with_reducible refine (impl_copyOf.calls _ _ l0_4 t300 _ ?side1 ?side2 A24.out).mono ?_
      (case side1 => repeat (first | exact (QR HR0_4.out HB.out) | (with_reducible refine QS ?_ _) | (with_reducible refine QT ?_ _) | (with_reducible refine Kd.C_drew ?_)))
      (case side2 => exact HC0_4.out)
      rintro e w29 ⟨v301, rfl, ho0, hb⟩
      refine ⟨_, rfl, ?_⟩
      have n0_ := QX (Kd.R_elder' (by (with_reducible repeat (first | apply QM | apply QN | apply QO)); exact HO293.out) (Kd.R_base ho0) hb)
      have n1_ := QX (Kd.R_elder' (by (with_reducible repeat (first | apply QM | apply QN | apply QO)); exact HO296.out) (Kd.R_base ho0) hb)
      have n2_ := QX (Kd.R_elder' (by (with_reducible repeat (first | apply QM | apply QN | apply QO)); exact HO299.out) (Kd.R_base ho0) hb)
      have n3_ := QX (Kd.R_lower (Kd.R_new' (Kd.R_new' (Kd.R_new' ho0 (Kd.R_lt (by (with_reducible repeat (first | apply QM | apply QN | apply QO)); exact HO293.out))) (Kd.R_lt (by (with_reducible repeat (first | apply QM | apply QN | apply QO)); exact HO296.out))) (Kd.R_lt (by (with_reducible repeat (first | apply QM | apply QN | apply QO)); exact HO299.out))) (below_size (by repeat (first | (with_reducible first | exact HB.out | apply QF | apply QD | apply QE | refine QG ?_ GE286.out | refine QG ?_ GE287.out) | exact HB.out))))
      have n4_ := QX (blk_below (g := gb286) (o := .cells #[.slice (some ad290) l0_0.length c0_0, .int .i64 a0_1, .int .i64 a0_2, .slice A0_3 l0_3.length c0_3, .slice A0_4 l0_4.length c0_4, .slice A0_5 l0_5.length c0_5, .int .i64 a0_6] 67 (0, 0)) (by (with_reducible repeat (first | refine QJ ?_ _ | refine QL ?_ | refine QK ?_ _)); exact BK286.out) hb)
      have n5_ := QX (blk_below (g := gb287) (o := .cells #[.int .i64 0, .slice none 0 0, .slice none 0 0, .int .i64 0, .int .i64 0, .slice none 0 0, .slice none 0 0] 84 (0, 0)) (by (with_reducible repeat (first | refine QJ ?_ _ | refine QL ?_ | refine QK ?_ _)); exact BK287.out) hb)
      have n6_ := QX (below_step (by repeat (first | (with_reducible first | exact HB.out | apply QF | apply QD | apply QE | refine QG ?_ GE286.out | refine QG ?_ GE287.out) | exact HB.out)) hb)
      clear HO293
      clear HO296
      clear HO299
      clear BK286
      clear BK287
      clear HB
      have HO293 := n0_
      have HO296 := n1_
      have HO299 := n2_
      have HO302 := n3_
      have BK286 := n4_
      have BK287 := n5_
      have HB := n6_
      clear n0_ n1_ n2_ n3_ n4_ n5_ n6_
      (try clear hb)
      (try clear hb2)
      (try clear hk)
      (try clear hi)
      (try clear ho0)
      obtain ⟨Ao30, co30, eo30⟩ := Kd.R_slice HO302.out
      (first | subst eo30 | (injection eo30 with f1_ f2_ f3_; have f4_ := f1_.symm; have f5_ := f3_.symm; clear f1_ f2_ f3_; subst f4_; subst f5_))
      obtain ⟨Ao31, co31, eo31⟩ := Kd.R_slice HO299.out
      (first | subst eo31 | (injection eo31 with f1_ f2_ f3_; have f4_ := f1_.symm; have f5_ := f3_.symm; clear f1_ f2_ f3_; subst f4_; subst f5_))
      obtain ⟨Ao32, co32, eo32⟩ := Kd.R_slice HO296.out
      (first | subst eo32 | (injection eo32 with f1_ f2_ f3_; have f4_ := f1_.symm; have f5_ := f3_.symm; clear f1_ f2_ f3_; subst f4_; subst f5_))
      obtain ⟨Ao33, co33, eo33⟩ := Kd.R_slice HO293.out
      (first | subst eo33 | (injection eo33 with f1_ f2_ f3_; have f4_ := f1_.symm; have f5_ := f3_.symm; clear f1_ f2_ f3_; subst f4_; subst f5_))
      refine hK.out _ _ ⟨(QB BK286.out 0).trans rfl, (QB BK286.out 1).trans rfl, (QB BK286.out 2).trans rfl, (QB BK286.out 3).trans rfl, (QB BK286.out 4).trans rfl, (QB BK286.out 5).trans rfl, (QB BK286.out 6).trans rfl, ((HB.out.cell (World.block_lt_of_cell? w _ hw290_0)).trans hw290_0)⟩ (fun hHeld => ?_)
      clear hK K
      refine norm_ (a' := ?_) ?_ ?_
      rotate_left
      ·show Act.put _ (some 38) _ = _
       simp only [Act.put, QU, QV, QW, i64_w, i32_w]
       rfl
      refine pure_ (i := 20) (N := some 39) (v := ?_) (a' := ?_) #[true, true, true, true, true, true, true, true, true, true, true, true, true, true, true, true, true, true, true, true, true, false, false] rfl rfl (any_of HT_.out (by kernel_rfl)) (fun _ _ _ h => h) (Or.inl ⟨by rfl, ?_⟩) ?_ ?_
      rotate_left
      ·intro w'
       go_simp
       with_reducible rfl
      rotate_left
      ·simp only [Act.put, QU, QV, QW, i64_w, i32_w]
       rfl
      refine one_ (i := 21) (N := none) #[true, true, true, true, true, true, true, true, true, true, true, true, true, true, true, true, true, true, true, true, true, true, false] rfl rfl (one_of HT_.out (by kernel_rfl)) (by decide) (fun K hK => ?_)
      have hs34 : w29.cell? ⟨gb287, 0, none⟩ = some (.int .i64 0) := (QB BK287.out 0).trans rfl
      have hfs34 := QC BK287.out 0
      have hns34_0 := NB286_287.out
      have hms34_0 := NB287_286.out
      have hs35 : w29.cell? ⟨gb287, 1, none⟩ = some (.slice none 0 0) := (QB BK287.out 1).trans rfl
      have hfs35 := QC BK287.out 1
      have hns35_0 := NB286_287.out
      have hms35_0 := NB287_286.out
      have hs36 : w29.cell? ⟨gb287, 2, none⟩ = some (.slice none 0 0) := (QB BK287.out 2).trans rfl
      have hfs36 := QC BK287.out 2
      have hns36_0 := NB286_287.out
      have hms36_0 := NB287_286.out
      have hs37 : w29.cell? ⟨gb287, 3, none⟩ = some (.int .i64 0) := (QB BK287.out 3).trans rfl
      have hfs37 := QC BK287.out 3
      have hns37_0 := NB286_287.out
      have hms37_0 := NB287_286.out
      have hs38 : w29.cell? ⟨gb287, 4, none⟩ = some (.int .i64 0) := (QB BK287.out 4).trans rfl
      have hfs38 := QC BK287.out 4
      have hns38_0 := NB286_287.out
      have hms38_0 := NB287_286.out
      have hs39 : w29.cell? ⟨gb287, 5, none⟩ = some (.slice none 0 0) := (QB BK287.out 5).trans rfl
      have hfs39 := QC BK287.out 5
      have hns39_0 := NB286_287.out
      have hms39_0 := NB287_286.out
      have hs40 : w29.cell? ⟨gb287, 6, none⟩ = some (.slice none 0 0) := (QB BK287.out 6).trans rfl
      have hfs40 := QC BK287.out 6
      have hns40_0 := NB286_287.out
      have hms40_0 := NB287_286.out
      refine skip_ (w1 := ?_) (by rfl) rfl ?_ ?_
      rotate_left
      ·go_simp
       rfl
      refine hK.out _ _ ⟨((QH (p := ⟨gb287, _, none⟩) NB286_287.out _).trans (((QH (p := ⟨gb287, _, none⟩) NB286_287.out _).trans (((QH (p := ⟨gb287, _, none⟩) NB286_287.out _).trans (((QH (p := ⟨gb287, _, none⟩) NB286_287.out _).trans (((QH (p := ⟨gb287, _, none⟩) NB286_287.out _).trans (((QH (p := ⟨gb287, _, none⟩) NB286_287.out _).trans (((QH (p := ⟨gb287, _, none⟩) NB286_287.out _).trans (hHeld.1)))))))))))))), ((QH (p := ⟨gb287, _, none⟩) NB286_287.out _).trans (((QH (p := ⟨gb287, _, none⟩) NB286_287.out _).trans (((QH (p := ⟨gb287, _, none⟩) NB286_287.out _).trans (((QH (p := ⟨gb287, _, none⟩) NB286_287.out _).trans (((QH (p := ⟨gb287, _, none⟩) NB286_287.out _).trans (((QH (p := ⟨gb287, _, none⟩) NB286_287.out _).trans (((QH (p := ⟨gb287, _, none⟩) NB286_287.out _).trans (hHeld.2.1)))))))))))))), ((QH (p := ⟨gb287, _, none⟩) NB286_287.out _).trans (((QH (p := ⟨gb287, _, none⟩) NB286_287.out _).trans (((QH (p := ⟨gb287, _, none⟩) NB286_287.out _).trans (((QH (p := ⟨gb287, _, none⟩) NB286_287.out _).trans (((QH (p := ⟨gb287, _, none⟩) NB286_287.out _).trans (((QH (p := ⟨gb287, _, none⟩) NB286_287.out _).trans (((QH (p := ⟨gb287, _, none⟩) NB286_287.out _).trans (hHeld.2.2.1)))))))))))))), ((QH (p := ⟨gb287, _, none⟩) NB286_287.out _).trans (((QH (p := ⟨gb287, _, none⟩) NB286_287.out _).trans (((QH (p := ⟨gb287, _, none⟩) NB286_287.out _).trans (((QH (p := ⟨gb287, _, none⟩) NB286_287.out _).trans (((QH (p := ⟨gb287, _, none⟩) NB286_287.out _).trans (((QH (p := ⟨gb287, _, none⟩) NB286_287.out _).trans (((QH (p := ⟨gb287, _, none⟩) NB286_287.out _).trans (hHeld.2.2.2.1)))))))))))))), ((QH (p := ⟨gb287, _, none⟩) NB286_287.out _).trans (((QH (p := ⟨gb287, _, none⟩) NB286_287.out _).trans (((QH (p := ⟨gb287, _, none⟩) NB286_287.out _).trans (((QH (p := ⟨gb287, _, none⟩) NB286_287.out _).trans (((QH (p := ⟨gb287, _, none⟩) NB286_287.out _).trans (((QH (p := ⟨gb287, _, none⟩) NB286_287.out _).trans (((QH (p := ⟨gb287, _, none⟩) NB286_287.out _).trans (hHeld.2.2.2.2.1)))))))))))))), ((QH (p := ⟨gb287, _, none⟩) NB286_287.out _).trans (((QH (p := ⟨gb287, _, none⟩) NB286_287.out _).trans (((QH (p := ⟨gb287, _, none⟩) NB286_287.out _).trans (((QH (p := ⟨gb287, _, none⟩) NB286_287.out _).trans (((QH (p := ⟨gb287, _, none⟩) NB286_287.out _).trans (((QH (p := ⟨gb287, _, none⟩) NB286_287.out _).trans (((QH (p := ⟨gb287, _, none⟩) NB286_287.out _).trans (hHeld.2.2.2.2.2.1)))))))))))))), ((QH (p := ⟨gb287, _, none⟩) NB286_287.out _).trans (((QH (p := ⟨gb287, _, none⟩) NB286_287.out _).trans (((QH (p := ⟨gb287, _, none⟩) NB286_287.out _).trans (((QH (p := ⟨gb287, _, none⟩) NB286_287.out _).trans (((QH (p := ⟨gb287, _, none⟩) NB286_287.out _).trans (((QH (p := ⟨gb287, _, none⟩) NB286_287.out _).trans (((QH (p := ⟨gb287, _, none⟩) NB286_287.out _).trans (hHeld.2.2.2.2.2.2.1)))))))))))))), ((QH (p := ⟨gb287, _, none⟩) (by first | exact Nat.ne_of_lt (Nat.lt_of_lt_of_le (by have := World.block_lt_of_cell? _ _ hw290_0; first | rwa [QI] at this | exact this) GW287.out) | (rw [QI]; exact Nat.ne_of_lt (Nat.lt_of_lt_of_le (by have := World.block_lt_of_cell? _ _ hw290_0; first | rwa [QI] at this | exact this) GW287.out)) | (show (Addr.add _ _).block ≠ _; rw [QI]; exact Nat.ne_of_lt (Nat.lt_of_lt_of_le (by have := World.block_lt_of_cell? _ _ hw290_0; first | rwa [QI] at this | exact this) GW287.out)) | (dsimp only; exact Nat.ne_of_lt (Nat.lt_of_lt_of_le (by have := World.block_lt_of_cell? _ _ hw290_0; first | rwa [QI] at this | exact this) GW287.out))) _).trans (((QH (p := ⟨gb287, _, none⟩) (by first | exact Nat.ne_of_lt (Nat.lt_of_lt_of_le (by have := World.block_lt_of_cell? _ _ hw290_0; first | rwa [QI] at this | exact this) GW287.out) | (rw [QI]; exact Nat.ne_of_lt (Nat.lt_of_lt_of_le (by have := World.block_lt_of_cell? _ _ hw290_0; first | rwa [QI] at this | exact this) GW287.out)) | (show (Addr.add _ _).block ≠ _; rw [QI]; exact Nat.ne_of_lt (Nat.lt_of_lt_of_le (by have := World.block_lt_of_cell? _ _ hw290_0; first | rwa [QI] at this | exact this) GW287.out)) | (dsimp only; exact Nat.ne_of_lt (Nat.lt_of_lt_of_le (by have := World.block_lt_of_cell? _ _ hw290_0; first | rwa [QI] at this | exact this) GW287.out))) _).trans (((QH (p := ⟨gb287, _, none⟩) (by first | exact Nat.ne_of_lt (Nat.lt_of_lt_of_le (by have := World.block_lt_of_cell? _ _ hw290_0; first | rwa [QI] at this | exact this) GW287.out) | (rw [QI]; exact Nat.ne_of_lt (Nat.lt_of_lt_of_le (by have := World.block_lt_of_cell? _ _ hw290_0; first | rwa [QI] at this | exact this) GW287.out)) | (show (Addr.add _ _).block ≠ _; rw [QI]; exact Nat.ne_of_lt (Nat.lt_of_lt_of_le (by have := World.block_lt_of_cell? _ _ hw290_0; first | rwa [QI] at this | exact this) GW287.out)) | (dsimp only; exact Nat.ne_of_lt (Nat.lt_of_lt_of_le (by have := World.block_lt_of_cell? _ _ hw290_0; first | rwa [QI] at this | exact this) GW287.out))) _).trans (((QH (p := ⟨gb287, _, none⟩) (by first | exact Nat.ne_of_lt (Nat.lt_of_lt_of_le (by have := World.block_lt_of_cell? _ _ hw290_0; first | rwa [QI] at this | exact this) GW287.out) | (rw [QI]; exact Nat.ne_of_lt (Nat.lt_of_lt_of_le (by have := World.block_lt_of_cell? _ _ hw290_0; first | rwa [QI] at this | exact this) GW287.out)) | (show (Addr.add _ _).block ≠ _; rw [QI]; exact Nat.ne_of_lt (Nat.lt_of_lt_of_le (by have := World.block_lt_of_cell? _ _ hw290_0; first | rwa [QI] at this | exact this) GW287.out)) | (dsimp only; exact Nat.ne_of_lt (Nat.lt_of_lt_of_le (by have := World.block_lt_of_cell? _ _ hw290_0; first | rwa [QI] at this | exact this) GW287.out))) _).trans (((QH (p := ⟨gb287, _, none⟩) (by first | exact Nat.ne_of_lt (Nat.lt_of_lt_of_le (by have := World.block_lt_of_cell? _ _ hw290_0; first | rwa [QI] at this | exact this) GW287.out) | (rw [QI]; exact Nat.ne_of_lt (Nat.lt_of_lt_of_le (by have := World.block_lt_of_cell? _ _ hw290_0; first | rwa [QI] at this | exact this) GW287.out)) | (show (Addr.add _ _).block ≠ _; rw [QI]; exact Nat.ne_of_lt (Nat.lt_of_lt_of_le (by have := World.block_lt_of_cell? _ _ hw290_0; first | rwa [QI] at this | exact this) GW287.out)) | (dsimp only; exact Nat.ne_of_lt (Nat.lt_of_lt_of_le (by have := World.block_lt_of_cell? _ _ hw290_0; first | rwa [QI] at this | exact this) GW287.out))) _).trans (((QH (p := ⟨gb287, _, none⟩) (by first | exact Nat.ne_of_lt (Nat.lt_of_lt_of_le (by have := World.block_lt_of_cell? _ _ hw290_0; first | rwa [QI] at this | exact this) GW287.out) | (rw [QI]; exact Nat.ne_of_lt (Nat.lt_of_lt_of_le (by have := World.block_lt_of_cell? _ _ hw290_0; first | rwa [QI] at this | exact this) GW287.out)) | (show (Addr.add _ _).block ≠ _; rw [QI]; exact Nat.ne_of_lt (Nat.lt_of_lt_of_le (by have := World.block_lt_of_cell? _ _ hw290_0; first | rwa [QI] at this | exact this) GW287.out)) | (dsimp only; exact Nat.ne_of_lt (Nat.lt_of_lt_of_le (by have := World.block_lt_of_cell? _ _ hw290_0; first | rwa [QI] at this | exact this) GW287.out))) _).trans (((QH (p := ⟨gb287, _, none⟩) (by first | exact Nat.ne_of_lt (Nat.lt_of_lt_of_le (by have := World.block_lt_of_cell? _ _ hw290_0; first | rwa [QI] at this | exact this) GW287.out) | (rw [QI]; exact Nat.ne_of_lt (Nat.lt_of_lt_of_le (by have := World.block_lt_of_cell? _ _ hw290_0; first | rwa [QI] at this | exact this) GW287.out)) | (show (Addr.add _ _).block ≠ _; rw [QI]; exact Nat.ne_of_lt (Nat.lt_of_lt_of_le (by have := World.block_lt_of_cell? _ _ hw290_0; first | rwa [QI] at this | exact this) GW287.out)) | (dsimp only; exact Nat.ne_of_lt (Nat.lt_of_lt_of_le (by have := World.block_lt_of_cell? _ _ hw290_0; first | rwa [QI] at this | exact this) GW287.out))) _).trans (hHeld.2.2.2.2.2.2.2))))))))))))))⟩ (fun hHeld => ?_)
      clear hK K
      refine pure_ (i := 22) (N := some 5) (v := ?_) (a' := ?_) #[true, true, true, true, true, true, true, true, true, true, true, true, true, true, true, true, true, true, true, true, true, true, true] rfl rfl (any_of HT_.out (by kernel_rfl)) (fun _ _ _ h => h) (Or.inl ⟨by rfl, ?_⟩) ?_ ?_
      rotate_left
      ·intro w'
       go_simp
       with_reducible rfl
      rotate_left
      ·simp only [Act.put, QU, QV, QW, i64_w, i32_w]
       rfl
      refine done_ (done_of HT_.out (by kernel_rfl)) ?_
      try go_wp2
      refine bodyPost_ret (results_ct rfl _ _ gb287 84 #[.int .i64 a1, .slice Ao33 t291.length co33, .slice Ao32 t294.length co32, .int .i64 a0_1, .int .i64 a0_2, .slice Ao31 t297.length co31, .slice Ao30 t300.length co30] (0, 0) _ rfl (by (with_reducible repeat (first | refine QJ ?_ _ | refine QL ?_ | refine QK ?_ _)); refine blk_put (cs := #[.int .i64 a1, .slice Ao33 t291.length co33, .slice Ao32 t294.length co32, .int .i64 a0_1, .int .i64 a0_2, .slice Ao31 t297.length co31, .slice none 0 0]) ?_ 6 _ rfl; (with_reducible repeat (first | refine QJ ?_ _ | refine QL ?_ | refine QK ?_ _)); refine blk_put (cs := #[.int .i64 a1, .slice Ao33 t291.length co33, .slice Ao32 t294.length co32, .int .i64 a0_1, .int .i64 a0_2, .slice none 0 0, .slice none 0 0]) ?_ 5 _ rfl; (with_reducible repeat (first | refine QJ ?_ _ | refine QL ?_ | refine QK ?_ _)); refine blk_put (cs := #[.int .i64 a1, .slice Ao33 t291.length co33, .slice Ao32 t294.length co32, .int .i64 a0_1, .int .i64 0, .slice none 0 0, .slice none 0 0]) ?_ 4 _ rfl; (with_reducible repeat (first | refine QJ ?_ _ | refine QL ?_ | refine QK ?_ _)); refine blk_put (cs := #[.int .i64 a1, .slice Ao33 t291.length co33, .slice Ao32 t294.length co32, .int .i64 0, .int .i64 0, .slice none 0 0, .slice none 0 0]) ?_ 3 _ rfl; (with_reducible repeat (first | refine QJ ?_ _ | refine QL ?_ | refine QK ?_ _)); refine blk_put (cs := #[.int .i64 a1, .slice Ao33 t291.length co33, .slice none 0 0, .int .i64 0, .int .i64 0, .slice none 0 0, .slice none 0 0]) ?_ 2 _ rfl; (with_reducible repeat (first | refine QJ ?_ _ | refine QL ?_ | refine QK ?_ _)); refine blk_put (cs := #[.int .i64 a1, .slice none 0 0, .slice none 0 0, .int .i64 0, .int .i64 0, .slice none 0 0, .slice none 0 0]) ?_ 1 _ rfl; (with_reducible repeat (first | refine QJ ?_ _ | refine QL ?_ | refine QK ?_ _)); refine blk_put (cs := #[.int .i64 0, .slice none 0 0, .slice none 0 0, .int .i64 0, .int .i64 0, .slice none 0 0, .slice none 0 0]) ?_ 0 _ rfl; (with_reducible repeat (first | refine QJ ?_ _ | refine QL ?_ | refine QK ?_ _)); exact BK287.out) Try.underlying84 rfl (by kernel_rfl)) rfl ?_
      exact ⟨_, _, _, _, by first | rfl | (simp [errW_none, errW_some] <;> rfl) | (simp [*, errW_none, errW_some] <;> rfl), by (with_reducible repeat (first | apply QM | apply QN | apply QO)); exact QP (far_r (far_r (far_r (far_r (far_r (far_r (far_r (Kd.R_types HO293.out BK287.out (by decide))))))))) (fun _ hk => ⟨hk.1.1.1.2, ⟨hk.1.1.2, hk.1.2⟩⟩), by (with_reducible repeat (first | apply QM | apply QN | apply QO)); exact QP (far_r (far_r (far_r (far_r (far_r (far_r (far_r (Kd.R_types HO296.out BK287.out (by decide))))))))) (fun _ hk => ⟨hk.1.1.1.2, ⟨hk.1.1.2, hk.1.2⟩⟩), by (with_reducible repeat (first | apply QM | apply QN | apply QO)); exact QP (far_r (far_r (far_r (far_r (far_r (far_r (far_r (Kd.R_types HO299.out BK287.out (by decide))))))))) (fun _ hk => ⟨hk.1.1.1.2, ⟨hk.1.1.2, hk.1.2⟩⟩), by (with_reducible repeat (first | apply QM | apply QN | apply QO)); exact QP (far_r (far_r (far_r (far_r (far_r (far_r (far_r (Kd.R_types HO302.out BK287.out (by decide))))))))) (fun _ hk => ⟨hk.1.1.1.2, ⟨hk.1.1.2, hk.1.2⟩⟩), by repeat (first | (with_reducible first | exact HB.out | apply QF | apply QD | apply QE | refine QG ?_ GE286.out | refine QG ?_ GE287.out) | exact HB.out)⟩
     ·rw [if_neg c20] at H
      exact absurd H (by simp)
    ·rw [if_neg c19] at H
     exact absurd H (by simp)

/-! ### laws_eqSight: function 68 -/
def laws_eqSight.f (k : Nat) (a0_0 : Int) (l0_1 : List Int) (l0_2 : List Int) (a0_3 : Int) (a0_4 : Int) (l0_5 : List Int) (l0_6 : List Int) (a1_0 : Int) (l1_1 : List Int) (l1_2 : List Int) (a1_3 : Int) (a1_4 : Int) (l1_5 : List Int) (l1_6 : List Int) : Option (Bool) := if a0_0 = a1_0 then ((laws_eqIntS.f k l0_1 l1_1).bind fun t305 => (if t305 = true then ((laws_eqIntS.f k l0_2 l1_2).bind fun t306 => (if t306 = true then (if a0_3 = a1_3 then (if a0_4 = a1_4 then ((laws_eqIntS.f k l0_5 l1_5).bind fun t307 => (if t307 = true then ((laws_eqIntS.f k l0_6 l1_6).bind fun t308 => (if t308 = true then (some true) else (some false))) else (some false))) else (some false)) else (some false)) else (some false))) else (some false))) else (some false)
theorem laws_eqSight.mono : ∀ a0 a1 a2 a3 a4 a5 a6 a7 a8 a9 a10 a11 a12 a13 k, LeO (laws_eqSight.f k a0 a1 a2 a3 a4 a5 a6 a7 a8 a9 a10 a11 a12 a13) (laws_eqSight.f (k + 1) a0 a1 a2 a3 a4 a5 a6 a7 a8 a9 a10 a11 a12 a13) := by
 intro a0 a1 a2 a3 a4 a5 a6 a7 a8 a9 a10 a11 a12 a13 k
 unfold laws_eqSight.f
 repeat' first
   | (with_reducible exact laws_eqIntS.mono _ _ _)
   | (with_reducible exact LeO.refl _)
   | (with_reducible exact LeO.none _)
   | (with_reducible refine LeO.ite ?_ ?_)
   | (with_reducible refine LeO.bind ?_ (fun _ => ?_))
   | exact laws_eqIntS.mono _ _ _
   | exact LeO.none _
   | refine LeO.ite ?_ ?_
   | refine LeO.bind ?_ (fun _ => ?_)
set_option maxHeartbeats 8000000 in
set_option maxRecDepth 100000 in
theorem laws_eqSight.calls (k : Nat) (a0_0 : Int) (A0_1 : Option Addr) (c0_1 : Nat) (l0_1 : List Int) (A0_2 : Option Addr) (c0_2 : Nat) (l0_2 : List Int) (a0_3 : Int) (a0_4 : Int) (A0_5 : Option Addr) (c0_5 : Nat) (l0_5 : List Int) (A0_6 : Option Addr) (c0_6 : Nat) (l0_6 : List Int) (a1_0 : Int) (A1_1 : Option Addr) (c1_1 : Nat) (l1_1 : List Int) (A1_2 : Option Addr) (c1_2 : Nat) (l1_2 : List Int) (a1_3 : Int) (a1_4 : Int) (A1_5 : Option Addr) (c1_5 : Nat) (l1_5 : List Int) (A1_6 : Option Addr) (c1_6 : Nat) (l1_6 : List Int) (r : Bool) (w : World) (hr0_1 : Kd.C (Kd.int .i64) w A0_1 l0_1.length l0_1) (hc0_1 : l0_1.length ≤ c0_1) (hr0_2 : Kd.C (Kd.int .i64) w A0_2 l0_2.length l0_2) (hc0_2 : l0_2.length ≤ c0_2) (hr0_5 : Kd.C (Kd.int .i64) w A0_5 l0_5.length l0_5) (hc0_5 : l0_5.length ≤ c0_5) (hr0_6 : Kd.C (Kd.int .i64) w A0_6 l0_6.length l0_6) (hc0_6 : l0_6.length ≤ c0_6) (hr1_1 : Kd.C (Kd.int .i64) w A1_1 l1_1.length l1_1) (hc1_1 : l1_1.length ≤ c1_1) (hr1_2 : Kd.C (Kd.int .i64) w A1_2 l1_2.length l1_2) (hc1_2 : l1_2.length ≤ c1_2) (hr1_5 : Kd.C (Kd.int .i64) w A1_5 l1_5.length l1_5) (hc1_5 : l1_5.length ≤ c1_5) (hr1_6 : Kd.C (Kd.int .i64) w A1_6 l1_6.length l1_6) (hc1_6 : l1_6.length ≤ c1_6) (h : laws_eqSight.f k a0_0 l0_1 l0_2 a0_3 a0_4 l0_5 l0_6 a1_0 l1_1 l1_2 a1_3 a1_4 l1_5 l1_6 = some r) :
  Calls Try.prog 68 #[.agg #[.int .i64 a0_0, .slice A0_1 l0_1.length c0_1, .slice A0_2 l0_2.length c0_2, .int .i64 a0_3, .int .i64 a0_4, .slice A0_5 l0_5.length c0_5, .slice A0_6 l0_6.length c0_6], .agg #[.int .i64 a1_0, .slice A1_1 l1_1.length c1_1, .slice A1_2 l1_2.length c1_2, .int .i64 a1_3, .int .i64 a1_4, .slice A1_5 l1_5.length c1_5, .slice A1_6 l1_6.length c1_6]] w fun e w' => e = .returned (.bool r) ∧ Below w.heap.size w w' := by
 have hu84 := Try.underlying84
 have HR0_1 := QX hr0_1
 have HC0_1 := QX hc0_1
 clear hr0_1 hc0_1
 have HR0_2 := QX hr0_2
 have HC0_2 := QX hc0_2
 clear hr0_2 hc0_2
 have HR0_5 := QX hr0_5
 have HC0_5 := QX hc0_5
 clear hr0_5 hc0_5
 have HR0_6 := QX hr0_6
 have HC0_6 := QX hc0_6
 clear hr0_6 hc0_6
 have HR1_1 := QX hr1_1
 have HC1_1 := QX hc1_1
 clear hr1_1 hc1_1
 have HR1_2 := QX hr1_2
 have HC1_2 := QX hc1_2
 clear hr1_2 hc1_2
 have HR1_5 := QX hr1_5
 have HC1_5 := QX hc1_5
 clear hr1_5 hc1_5
 have HR1_6 := QX hr1_6
 have HC1_6 := QX hc1_6
 clear hr1_6 hc1_6
 have HB := QX (Below.refl w.heap.size w)
 have H : (if a0_0 = a1_0 then ((laws_eqIntS.f k l0_1 l1_1).bind fun t305 => (if t305 = true then ((laws_eqIntS.f k l0_2 l1_2).bind fun t306 => (if t306 = true then (if a0_3 = a1_3 then (if a0_4 = a1_4 then ((laws_eqIntS.f k l0_5 l1_5).bind fun t307 => (if t307 = true then ((laws_eqIntS.f k l0_6 l1_6).bind fun t308 => (if t308 = true then (some true) else (some false))) else (some false))) else (some false)) else (some false)) else (some false))) else (some false))) else (some false)) = some r := h
 clear h
 by_cases c3 : a0_0 = a1_0
 rotate_left
 rw [if_neg c3] at H
 have c3b0 : (a0_0 == a1_0) = false := beq_eq_false_iff_ne.mpr c3
 have c3b1 : (a0_0 != a1_0) = true := bne_iff_ne.mpr c3
 obtain rfl := Option.some.inj H
 rotate_right
 rw [if_pos c3] at H
 have c3b0 : (a0_0 == a1_0) = true := beq_iff_eq.mpr c3
 have c3b1 : (a0_0 != a1_0) = false := bne_eq_false_iff_eq.mpr c3
 clear c3
 replace H := Option.bind_eq_some_iff.mp H
 obtain ⟨t305, A40, H⟩ := H
 have A4 := QX A40
 clear A40
 by_cases c5 : t305 = true
 rotate_left
 replace c5 := Bool.eq_false_iff.mpr c5
 subst c5
 rw [if_neg (show ¬ (false = true) by decide)] at H
 obtain rfl := Option.some.inj H
 rotate_right
 subst c5
 rw [if_pos rfl] at H
 replace H := Option.bind_eq_some_iff.mp H
 obtain ⟨t306, A60, H⟩ := H
 have A6 := QX A60
 clear A60
 by_cases c7 : t306 = true
 rotate_left
 replace c7 := Bool.eq_false_iff.mpr c7
 subst c7
 rw [if_neg (show ¬ (false = true) by decide)] at H
 obtain rfl := Option.some.inj H
 rotate_right
 subst c7
 rw [if_pos rfl] at H
 by_cases c8 : a0_3 = a1_3
 rotate_left
 rw [if_neg c8] at H
 have c8b0 : (a0_3 == a1_3) = false := beq_eq_false_iff_ne.mpr c8
 have c8b1 : (a0_3 != a1_3) = true := bne_iff_ne.mpr c8
 obtain rfl := Option.some.inj H
 rotate_right
 rw [if_pos c8] at H
 have c8b0 : (a0_3 == a1_3) = true := beq_iff_eq.mpr c8
 have c8b1 : (a0_3 != a1_3) = false := bne_eq_false_iff_eq.mpr c8
 clear c8
 by_cases c9 : a0_4 = a1_4
 rotate_left
 rw [if_neg c9] at H
 have c9b0 : (a0_4 == a1_4) = false := beq_eq_false_iff_ne.mpr c9
 have c9b1 : (a0_4 != a1_4) = true := bne_iff_ne.mpr c9
 obtain rfl := Option.some.inj H
 rotate_right
 rw [if_pos c9] at H
 have c9b0 : (a0_4 == a1_4) = true := beq_iff_eq.mpr c9
 have c9b1 : (a0_4 != a1_4) = false := bne_eq_false_iff_eq.mpr c9
 clear c9
 replace H := Option.bind_eq_some_iff.mp H
 obtain ⟨t307, A100, H⟩ := H
 have A10 := QX A100
 clear A100
 by_cases c11 : t307 = true
 rotate_left
 replace c11 := Bool.eq_false_iff.mpr c11
 subst c11
 rw [if_neg (show ¬ (false = true) by decide)] at H
 obtain rfl := Option.some.inj H
 rotate_right
 subst c11
 rw [if_pos rfl] at H
 replace H := Option.bind_eq_some_iff.mp H
 obtain ⟨t308, A120, H⟩ := H
 have A12 := QX A120
 clear A120
 by_cases c13 : t308 = true
 rotate_left
 replace c13 := Bool.eq_false_iff.mpr c13
 subst c13
 rw [if_neg (show ¬ (false = true) by decide)] at H
 obtain rfl := Option.some.inj H
 rotate_right
 subst c13
 rw [if_pos rfl] at H
 obtain rfl := Option.some.inj H
 all_goals
  go_enter Try.func68, Try.ntmps68
  go_wp2_with (first | ((with_reducible refine gate_dst (N := 2) rfl ?_); refine box_event ?hg (N := 2) ?hd (cs := #[.int .i64 a0_0, .slice A0_1 l0_1.length c0_1, .slice A0_2 l0_2.length c0_2, .int .i64 a0_3, .int .i64 a0_4, .slice A0_5 l0_5.length c0_5, .slice A0_6 l0_6.length c0_6]) (t := 84) ?hr ?_; (case hd => rfl); (case hg => rfl); (case hr => first | (go_simp; done) | (go_simp; rfl)); intro gb303 hg w19 hbox hb; have n0_ := QX (below_step (by repeat (first | (with_reducible first | exact HB.out | apply QF | apply QD | apply QE) | exact HB.out)) hb); have n1_ := QX (hbox); have n2_ := QX ((by rw [hg]; exact (below_size (by repeat (first | (with_reducible first | exact HB.out | apply QF | apply QD | apply QE) | exact HB.out))) : w.heap.size ≤ gb303)); have n3_ := QX ((by rw [hg]; exact (below_size (by repeat (first | (with_reducible first | exact HB.out | apply QF | apply QD | apply QE) | exact HB.out))) : w.heap.size ≤ gb303)); clear HB; have HB := n0_; have BK303 := n1_; have GW303 := n2_; have GE303 := n3_; clear n0_ n1_ n2_ n3_; clear hb hbox hg) | ((with_reducible refine gate_dst (N := 3) rfl ?_); refine box_event ?hg (N := 3) ?hd (cs := #[.int .i64 a1_0, .slice A1_1 l1_1.length c1_1, .slice A1_2 l1_2.length c1_2, .int .i64 a1_3, .int .i64 a1_4, .slice A1_5 l1_5.length c1_5, .slice A1_6 l1_6.length c1_6]) (t := 84) ?hr ?_; (case hd => rfl); (case hg => rfl); (case hr => first | (go_simp; done) | (go_simp; rfl)); intro gb304 hg w20 hbox hb; have n0_ := QX (blk_below (g := gb303) (o := _) (by (with_reducible repeat (first | refine QJ ?_ _ | refine QL ?_ | refine QK ?_ _)); exact BK303.out) hb); have n1_ := QX (below_step (by repeat (first | (with_reducible first | exact HB.out | apply QF | apply QD | apply QE | refine QG ?_ GE303.out) | exact HB.out)) hb); have n2_ := QX (hbox); have n3_ := QX ((by rw [hg]; exact (below_size (by repeat (first | (with_reducible first | exact HB.out | apply QF | apply QD | apply QE | refine QG ?_ GE303.out) | exact HB.out))) : w.heap.size ≤ gb304)); have n4_ := QX ((by rw [hg]; exact (below_size (by repeat (first | (with_reducible first | exact HB.out | apply QF | apply QD | apply QE | refine QG ?_ GE303.out) | exact HB.out))) : w.heap.size ≤ gb304)); have n5_ := QX ((by rw [hg]; exact Nat.ne_of_lt (blk_lt (g := gb303) (o := _) (by (with_reducible repeat (first | refine QJ ?_ _ | refine QL ?_ | refine QK ?_ _)); exact BK303.out)) : gb303 ≠ gb304)); have n6_ := QX ((by rw [hg]; exact Nat.ne_of_gt (blk_lt (g := gb303) (o := _) (by (with_reducible repeat (first | refine QJ ?_ _ | refine QL ?_ | refine QK ?_ _)); exact BK303.out)) : gb304 ≠ gb303)); clear BK303; clear HB; have BK303 := n0_; have HB := n1_; have BK304 := n2_; have GW304 := n3_; have GE304 := n4_; have NB303_304 := n5_; have NB304_303 := n6_; clear n0_ n1_ n2_ n3_ n4_ n5_ n6_; clear hb hbox hg; have hnb21 := NB303_304.out; have hnc21 := NB304_303.out; have hcz22_0 : w20.cell? ⟨gb303, 0, none⟩ = some (.int .i64 a0_0) := (QB BK303.out 0).trans rfl; have hcz22_1 : w20.cell? ⟨gb303, 1, none⟩ = some (.slice A0_1 l0_1.length c0_1) := (QB BK303.out 1).trans rfl; have hcz22_2 : w20.cell? ⟨gb303, 2, none⟩ = some (.slice A0_2 l0_2.length c0_2) := (QB BK303.out 2).trans rfl; have hcz22_3 : w20.cell? ⟨gb303, 3, none⟩ = some (.int .i64 a0_3) := (QB BK303.out 3).trans rfl; have hcz22_4 : w20.cell? ⟨gb303, 4, none⟩ = some (.int .i64 a0_4) := (QB BK303.out 4).trans rfl; have hcz22_5 : w20.cell? ⟨gb303, 5, none⟩ = some (.slice A0_5 l0_5.length c0_5) := (QB BK303.out 5).trans rfl; have hcz22_6 : w20.cell? ⟨gb303, 6, none⟩ = some (.slice A0_6 l0_6.length c0_6) := (QB BK303.out 6).trans rfl; have hfz22_0 := QC BK303.out 0; have hfz22_1 := QC BK303.out 1; have hfz22_2 := QC BK303.out 2; have hfz22_3 := QC BK303.out 3; have hfz22_4 := QC BK303.out 4; have hfz22_5 := QC BK303.out 5; have hfz22_6 := QC BK303.out 6; have hcz23_0 : w20.cell? ⟨gb304, 0, none⟩ = some (.int .i64 a1_0) := (QB BK304.out 0).trans rfl; have hcz23_1 : w20.cell? ⟨gb304, 1, none⟩ = some (.slice A1_1 l1_1.length c1_1) := (QB BK304.out 1).trans rfl; have hcz23_2 : w20.cell? ⟨gb304, 2, none⟩ = some (.slice A1_2 l1_2.length c1_2) := (QB BK304.out 2).trans rfl; have hcz23_3 : w20.cell? ⟨gb304, 3, none⟩ = some (.int .i64 a1_3) := (QB BK304.out 3).trans rfl; have hcz23_4 : w20.cell? ⟨gb304, 4, none⟩ = some (.int .i64 a1_4) := (QB BK304.out 4).trans rfl; have hcz23_5 : w20.cell? ⟨gb304, 5, none⟩ = some (.slice A1_5 l1_5.length c1_5) := (QB BK304.out 5).trans rfl; have hcz23_6 : w20.cell? ⟨gb304, 6, none⟩ = some (.slice A1_6 l1_6.length c1_6) := (QB BK304.out 6).trans rfl; have hfz23_0 := QC BK304.out 0; have hfz23_1 := QC BK304.out 1; have hfz23_2 := QC BK304.out 2; have hfz23_3 := QC BK304.out 3; have hfz23_4 := QC BK304.out 4; have hfz23_5 := QC BK304.out 5; have hfz23_6 := QC BK304.out 6) | ((with_reducible refine gate_callee (f := 74) rfl ?_); refine goesL_ (some 14) rfl rfl Try.func74 (by kernel_rfl) rfl #[.slice A0_1 l0_1.length c0_1, .slice A1_1 l1_1.length c1_1] rfl (by (try simp only [List.map_toArray, List.map_cons, List.map_nil]); first | done | rfl | (simp only [List.length_drop, List.length_take]; rfl)) ?_; (with_reducible refine (laws_eqIntS.calls k _ _ l0_1 _ _ l1_1 _ _ ?side1 ?side2 ?side3 ?side4 A4.out).mono ?_); (case side1 => repeat (first | exact (QR HR0_1.out HB.out) | (with_reducible refine QS ?_ _) | (with_reducible refine QT ?_ _) | (with_reducible refine Kd.C_drew ?_))); (case side2 => exact HC0_1.out); (case side3 => repeat (first | exact (QR HR1_1.out HB.out) | (with_reducible refine QS ?_ _) | (with_reducible refine QT ?_ _) | (with_reducible refine Kd.C_drew ?_))); (case side4 => exact HC1_1.out); rintro e w' ⟨rfl, ⟨nd, rfl⟩⟩; refine ⟨_, rfl, ?_⟩) | ((with_reducible refine gate_callee (f := 74) rfl ?_); refine goesL_ (some 20) rfl rfl Try.func74 (by kernel_rfl) rfl #[.slice A0_2 l0_2.length c0_2, .slice A1_2 l1_2.length c1_2] rfl (by (try simp only [List.map_toArray, List.map_cons, List.map_nil]); first | done | rfl | (simp only [List.length_drop, List.length_take]; rfl)) ?_; (with_reducible refine (laws_eqIntS.calls k _ _ l0_2 _ _ l1_2 _ _ ?side1 ?side2 ?side3 ?side4 A6.out).mono ?_); (case side1 => repeat (first | exact (QR HR0_2.out (by repeat (first | (with_reducible first | exact HB.out | apply QF | apply QD | apply QE | refine QG ?_ GE303.out | refine QG ?_ GE304.out) | exact HB.out))) | (with_reducible refine QS ?_ _) | (with_reducible refine QT ?_ _) | (with_reducible refine Kd.C_drew ?_))); (case side2 => exact HC0_2.out); (case side3 => repeat (first | exact (QR HR1_2.out (by repeat (first | (with_reducible first | exact HB.out | apply QF | apply QD | apply QE | refine QG ?_ GE303.out | refine QG ?_ GE304.out) | exact HB.out))) | (with_reducible refine QS ?_ _) | (with_reducible refine QT ?_ _) | (with_reducible refine Kd.C_drew ?_))); (case side4 => exact HC1_2.out); rintro e w' ⟨rfl, ⟨nd, rfl⟩⟩; refine ⟨_, rfl, ?_⟩) | ((with_reducible refine gate_callee (f := 74) rfl ?_); refine goesL_ (some 36) rfl rfl Try.func74 (by kernel_rfl) rfl #[.slice A0_5 l0_5.length c0_5, .slice A1_5 l1_5.length c1_5] rfl (by (try simp only [List.map_toArray, List.map_cons, List.map_nil]); first | done | rfl | (simp only [List.length_drop, List.length_take]; rfl)) ?_; (with_reducible refine (laws_eqIntS.calls k _ _ l0_5 _ _ l1_5 _ _ ?side1 ?side2 ?side3 ?side4 A10.out).mono ?_); (case side1 => repeat (first | exact (QR HR0_5.out (by repeat (first | (with_reducible first | exact HB.out | apply QF | apply QD | apply QE | refine QG ?_ GE303.out | refine QG ?_ GE304.out) | exact HB.out))) | (with_reducible refine QS ?_ _) | (with_reducible refine QT ?_ _) | (with_reducible refine Kd.C_drew ?_))); (case side2 => exact HC0_5.out); (case side3 => repeat (first | exact (QR HR1_5.out (by repeat (first | (with_reducible first | exact HB.out | apply QF | apply QD | apply QE | refine QG ?_ GE303.out | refine QG ?_ GE304.out) | exact HB.out))) | (with_reducible refine QS ?_ _) | (with_reducible refine QT ?_ _) | (with_reducible refine Kd.C_drew ?_))); (case side4 => exact HC1_5.out); rintro e w' ⟨rfl, ⟨nd, rfl⟩⟩; refine ⟨_, rfl, ?_⟩) | ((with_reducible refine gate_callee (f := 74) rfl ?_); refine goesL_ (some 42) rfl rfl Try.func74 (by kernel_rfl) rfl #[.slice A0_6 l0_6.length c0_6, .slice A1_6 l1_6.length c1_6] rfl (by (try simp only [List.map_toArray, List.map_cons, List.map_nil]); first | done | rfl | (simp only [List.length_drop, List.length_take]; rfl)) ?_; (with_reducible refine (laws_eqIntS.calls k _ _ l0_6 _ _ l1_6 _ _ ?side1 ?side2 ?side3 ?side4 A12.out).mono ?_); (case side1 => repeat (first | exact (QR HR0_6.out (by repeat (first | (with_reducible first | exact HB.out | apply QF | apply QD | apply QE | refine QG ?_ GE303.out | refine QG ?_ GE304.out) | exact HB.out))) | (with_reducible refine QS ?_ _) | (with_reducible refine QT ?_ _) | (with_reducible refine Kd.C_drew ?_))); (case side2 => exact HC0_6.out); (case side3 => repeat (first | exact (QR HR1_6.out (by repeat (first | (with_reducible first | exact HB.out | apply QF | apply QD | apply QE | refine QG ?_ GE303.out | refine QG ?_ GE304.out) | exact HB.out))) | (with_reducible refine QS ?_ _) | (with_reducible refine QT ?_ _) | (with_reducible refine Kd.C_drew ?_))); (case side4 => exact HC1_6.out); rintro e w' ⟨rfl, ⟨nd, rfl⟩⟩; refine ⟨_, rfl, ?_⟩))
  go_ret
  exact ⟨by first | rfl | (simp [errW_none, errW_some] <;> rfl) | (simp [*, errW_none, errW_some] <;> rfl), by repeat (first | (with_reducible first | exact HB.out | apply QF | apply QD | apply QE | refine QG ?_ GE303.out | refine QG ?_ GE304.out) | exact HB.out)⟩

/-! ### laws_markIntS: function 76 -/
def laws_markIntS.l0 : Nat → List Int → Int → Int → Option (Int × List Int)
 | 0, _, _, _ => none
 | k + 1, x0, x1, x5 => if x5 < (x0.length : Int) then (if 0 ≤ x5 then (laws_markIntS.l0 k (x0.set (x5 : Int).toNat x1) (wrap64 (x1 + 1)) (wrap64 (x5 + 1))) else (none)) else (some (x1, x0))
def laws_markIntS.f (k : Nat) (l0 : List Int) (a1 : Int) : Option (Int × List Int) := laws_markIntS.l0 k l0 a1 0
theorem laws_markIntS.mono_l : ∀ k, (∀ y0 y1 y2, LeO (laws_markIntS.l0 k y0 y1 y2) (laws_markIntS.l0 (k + 1) y0 y1 y2))
 | 0 => fun _ _ _ r h => by simp [laws_markIntS.l0] at h
 | k + 1 => by
  have ih0 := laws_markIntS.mono_l k
  ·intro y0 y1 y2
   unfold laws_markIntS.l0
   repeat' first
   | (with_reducible exact ih0 _ _ _)
   | (with_reducible exact LeO.refl _)
   | (with_reducible exact LeO.none _)
   | (with_reducible refine LeO.ite ?_ ?_)
   | (with_reducible refine LeO.bind ?_ (fun _ => ?_))
   | exact ih0 _ _ _
   | exact LeO.none _
   | refine LeO.ite ?_ ?_
   | refine LeO.bind ?_ (fun _ => ?_)
theorem laws_markIntS.mono : ∀ a0 a1 k, LeO (laws_markIntS.f k a0 a1) (laws_markIntS.f (k + 1) a0 a1) := by
 intro a0 a1 k
 have ih0 := laws_markIntS.mono_l k
 unfold laws_markIntS.f
 repeat' first
   | (with_reducible exact ih0 _ _ _)
   | (with_reducible exact LeO.refl _)
   | (with_reducible exact LeO.none _)
   | (with_reducible refine LeO.ite ?_ ?_)
   | (with_reducible refine LeO.bind ?_ (fun _ => ?_))
   | exact ih0 _ _ _
   | exact LeO.none _
   | refine LeO.ite ?_ ?_
   | refine LeO.bind ?_ (fun _ => ?_)
set_option maxHeartbeats 8000000 in
set_option maxRecDepth 100000 in
theorem laws_markIntS.calls (k : Nat) (P0_ : Nat → Prop) (u9000_ : Value) (l0 : List Int) (a1 : Int) (r1 : Int) (r2 : List Int) (w0 w : World) (hB : Below w0.heap.size w0 w) (ho0 : Kd.R (Kd.int .i64) 3 w w0.heap.size P0_ u9000_ l0) (h : laws_markIntS.f k l0 a1 = some (r1, r2)) :
  Calls Try.prog 76 #[u9000_, .int .i64 a1] w fun e w' => e = .returned (.int .i64 r1) ∧ Kd.R (Kd.int .i64) 3 w' w0.heap.size (fun k_ => (P0_ k_ ∨ w.heap.size ≤ k_)) u9000_ r2 ∧ Below w0.heap.size w0 w' ∧ Kept w w' (fun k_ => P0_ k_) := by
 have HO0 := QX (show Kd.R (Kd.int .i64) 3 w w0.heap.size (fun k_ => (P0_ k_ ∨ w.heap.size ≤ k_)) u9000_ l0 from QP ho0 (fun k_ hk => (.inl hk)))
 have HK := QX (Kept.refl w (fun k_ => P0_ k_))
 have HW0 := QX hB.size
 have HB := QX hB
 clear hB
 have H : (laws_markIntS.l0 k l0 a1 0) = some (r1, r2) := h
 clear h
 have H' := QX H
 clear H
 go_enter Try.func76, Try.ntmps76
 go_wp2
 go_loopg [1, 5] k (fun kq v1 v5 w' => ∃ (x0_1 : List Int) (x1_1 : Int) (x5_1 : Int), v1 = .int .i64 x1_1 ∧ v5 = .int .i64 x5_1 ∧ Aside0 (laws_markIntS.l0 kq x0_1 x1_1 x5_1 = some (r1, r2)) ∧ Aside0 (kq ≤ k) ∧ Aside0 (Kd.R (Kd.int .i64) 3 w' w0.heap.size (fun k_ => (P0_ k_ ∨ w.heap.size ≤ k_)) u9000_ x0_1) ∧ Aside0 (Kept w w' (fun k_ => P0_ k_)) ∧ Aside0 (Below w0.heap.size w0 w'))
 case atStart => exact ⟨(l0), (a1), (0), (by first | rfl | (simp; done) | (simp [*]; done)), (by first | rfl | (simp; done) | (simp [*]; done)), H', ⟨Nat.le_refl _⟩, ⟨by (with_reducible repeat (first | apply QM | apply QN | apply QO)); exact HO0.out⟩, ⟨by repeat (first | (with_reducible first | exact HK.out | apply Kept.alloc | apply Kept.drewN | apply Kept.drew) | exact HK.out)⟩, ⟨by repeat (first | (with_reducible first | exact HB.out | apply QF | apply QD | apply QE) | exact HB.out)⟩⟩
 case round =>
  clear H'
  try clear p2
  obtain ⟨x0_1, x1_1, x5_1, rfl, rfl, HA, HK1, HO_0, HK, HB⟩ := hrel
  cases gk with
  | zero => exact absurd HA.out (by simp [laws_markIntS.l0])
  | succ k1 =>
   have H := HA.out
   clear HA
   simp only [laws_markIntS.l0] at H
   by_cases c3 : x5_1 < (x0_1.length : Int)
   ·rw [if_pos c3] at H
    have c3b0 : decide (x5_1 < (x0_1.length : Int)) = true := decide_eq_true c3
    clear c3
    by_cases c4 : 0 ≤ x5_1
    ·rw [if_pos c4] at H
     have c4b0 : decide (0 ≤ x5_1) = true := decide_eq_true c4
     clear c4
     obtain ⟨y309, hy309⟩ : ∃ y_ : List Int, y_ = (x0_1.set (x5_1 : Int).toNat x1_1) := ⟨_, rfl⟩
     replace H : (laws_markIntS.l0 k1 y309 (wrap64 (x1_1 + 1)) (wrap64 (x5_1 + 1))) = some (r1, r2) := by first | (rw [hy309]; with_reducible exact H) | (have H2_ := (Option.bind_some _ _).symm.trans H; rw [hy309]; with_reducible exact H2_) | (have H2_ := (Option.bind_some _ _).symm.trans H; with_reducible exact H2_) | with_reducible exact H | (rw [hy309]; exact H) | exact H
     have Ny309 := QX hy309
     clear hy309
     have H' := QX H
     clear H
     obtain ⟨Ao6, co6, eo6⟩ := Kd.R_slice HO_0.out
     subst eo6
     have p5 : 0 ≤ (x5_1 : Int) := of_decide_eq_true (by first | (with_reducible assumption) | assumption)
     have q5 : (x5_1 : Int) < ((x0_1.length : Int) : Int) := of_decide_eq_true (by first | (with_reducible assumption) | assumption)
     obtain ⟨go5, co5, eo5, gb5, gl5, cl5, HG5⟩ := Kd.R_form HO_0.out (by omega)
     (first | cases eo5 | (injection eo5 with ea_ en_ ec_; (first | subst ea_ | (injection ea_ with ea_; subst ea_)); subst ec_; clear en_))
     have GB5 := QX gb5
     have GG5 := QX HG5
     clear gb5 gl5 HG5
     have HMgo5 := QX (show (P0_ go5 ∨ w.heap.size ≤ go5) from (HO_0.out.1 _ rfl))
     obtain ⟨hx5_0, hf5_0⟩ := Kd.R_celln 0 HO_0.out (x5_1 : Int) p5 q5
     replace p5 := eq_true p5
     replace q5 := eq_true q5
     have HP7 := Kd.R_putg HO_0.out (x5_1 : Int) x1_1
     go_wp2_with (first | ((with_reducible refine gate_store (t := 3) (p := 15) rfl ?_); refine store_event (t := 3) (p := 15) (v := ?vo_w8) (w1 := (wr.setCell ⟨go5, (x5_1 : Int).toNat, none⟩ (.int .i64 x1_1))) ?hg ?ho ?hn ?hr ?_; (case ho => rfl); (case hg => rfl); (case hn => rfl); (case hr => first | (go_simp; done) | (go_simp; rfl)); intro w8 hw; have hg : wr.grownBy w8 (some go5) := (by rw [hw]; exact HP7.2); have hp_ : Kd.R (Kd.int .i64) 3 w8 w0.heap.size (fun k_ => (P0_ k_ ∨ w.heap.size ≤ k_)) (.slice (some ⟨go5, 0, none⟩) x0_1.length co6) y309 := (by rw [hw, Ny309.out]; exact HP7.1); clear HP7; have n0_ := QX (hp_); have n1_ := QX ((by rw [hw]; exact QG (HB.out) GB5.out : Below w0.heap.size w0 w8)); have n2_ := QX (Kept.of_grown (S := (fun k_ => P0_ k_)) hg (by repeat (first | (with_reducible first | exact HK.out | apply Kept.alloc | apply Kept.drewN | apply Kept.drew) | exact HK.out)) (fun k_ e_ => (HO_0.out.1 k_ e_))); clear HO_0; clear HB; clear HK; have HO_0 := n0_; have HB := n1_; have HK := n2_; clear n0_ n1_ n2_; clear hg hw hp_))
     go_roundg k1
     case measure => have := HK1.out; omega
     case rel => exact ⟨(y309), (wrap64 (x1_1 + 1)), (wrap64 (x5_1 + 1)), (by first | rfl | (simp; done) | (simp [*]; done)), (by first | rfl | (simp; done) | (simp [*]; done)), H', ⟨by have := HK1.out; omega⟩, ⟨by (with_reducible repeat (first | apply QM | apply QN | apply QO)); exact HO_0.out⟩, ⟨by repeat (first | (with_reducible first | exact HK.out | apply Kept.alloc | apply Kept.drewN | apply Kept.drew) | exact HK.out)⟩, ⟨by repeat (first | (with_reducible first | exact HB.out | apply QF | apply QD | apply QE) | exact HB.out)⟩⟩
    ·rw [if_neg c4] at H
     exact absurd H (by simp)
   ·rw [if_neg c3] at H
    have c3b0 : decide (x5_1 < (x0_1.length : Int)) = false := decide_eq_false c3
    clear c3
    simp only [Option.some.injEq, Prod.mk.injEq] at H
    obtain ⟨rfl, rfl⟩ := H
    obtain ⟨Ao9, co9, eo9⟩ := Kd.R_slice HO_0.out
    subst eo9
    go_wp2
    go_ret
    exact ⟨by first | rfl | (simp [errW_none, errW_some] <;> rfl) | (simp [*, errW_none, errW_some] <;> rfl), by (with_reducible repeat (first | apply QM | apply QN | apply QO)); exact HO_0.out, by repeat (first | (with_reducible first | exact HB.out | apply QF | apply QD | apply QE) | exact HB.out), by repeat (first | (with_reducible first | exact HK.out | apply Kept.alloc | apply Kept.drewN | apply Kept.drew) | exact HK.out)⟩

/-! ### laws_markSight: function 70 -/
def laws_markSight.f (k : Nat) (a0_0 : Int) (l0_1 : List Int) (l0_2 : List Int) (a0_3 : Int) (a0_4 : Int) (l0_5 : List Int) (l0_6 : List Int) (a1 : Int) : Option (Int × List Int × List Int × List Int × List Int) := (laws_markIntS.f k l0_1 a1).bind fun bt319 => ((laws_markIntS.f k l0_2 bt319.1).bind fun bt321 => ((laws_markIntS.f k l0_5 bt321.1).bind fun bt323 => ((laws_markIntS.f k l0_6 bt323.1).bind fun bt325 => (some (bt325.1, bt319.2, bt321.2, bt323.2, bt325.2)))))
theorem laws_markSight.mono : ∀ a0 a1 a2 a3 a4 a5 a6 a7 k, LeO (laws_markSight.f k a0 a1 a2 a3 a4 a5 a6 a7) (laws_markSight.f (k + 1) a0 a1 a2 a3 a4 a5 a6 a7) := by
 intro a0 a1 a2 a3 a4 a5 a6 a7 k
 unfold laws_markSight.f
 repeat' first
   | (with_reducible exact laws_markIntS.mono _ _ _)
   | (with_reducible exact LeO.refl _)
   | (with_reducible exact LeO.none _)
   | (with_reducible refine LeO.ite ?_ ?_)
   | (with_reducible refine LeO.bind ?_ (fun _ => ?_))
   | exact laws_markIntS.mono _ _ _
   | exact LeO.none _
   | refine LeO.ite ?_ ?_
   | refine LeO.bind ?_ (fun _ => ?_)
set_option maxHeartbeats 8000000 in
set_option maxRecDepth 100000 in
theorem laws_markSight.calls (k : Nat) (a0_0 : Int) (P0_1_ : Nat → Prop) (u9000_ : Value) (l0_1 : List Int) (P0_2_ : Nat → Prop) (u9001_ : Value) (l0_2 : List Int) (a0_3 : Int) (a0_4 : Int) (P0_5_ : Nat → Prop) (u9002_ : Value) (l0_5 : List Int) (P0_6_ : Nat → Prop) (u9003_ : Value) (l0_6 : List Int) (a1 : Int) (r1 : Int) (r2 : List Int) (r3 : List Int) (r4 : List Int) (r5 : List Int) (w0 w : World) (hB : Below w0.heap.size w0 w) (ho0_1 : Kd.R (Kd.int .i64) 3 w w0.heap.size P0_1_ u9000_ l0_1) (hp0_1_0_2 : ∀ k_, P0_1_ k_ → ¬ P0_2_ k_) (hp0_1_0_5 : ∀ k_, P0_1_ k_ → ¬ P0_5_ k_) (hp0_1_0_6 : ∀ k_, P0_1_ k_ → ¬ P0_6_ k_) (ho0_2 : Kd.R (Kd.int .i64) 3 w w0.heap.size P0_2_ u9001_ l0_2) (hp0_2_0_1 : ∀ k_, P0_2_ k_ → ¬ P0_1_ k_) (hp0_2_0_5 : ∀ k_, P0_2_ k_ → ¬ P0_5_ k_) (hp0_2_0_6 : ∀ k_, P0_2_ k_ → ¬ P0_6_ k_) (ho0_5 : Kd.R (Kd.int .i64) 3 w w0.heap.size P0_5_ u9002_ l0_5) (hp0_5_0_1 : ∀ k_, P0_5_ k_ → ¬ P0_1_ k_) (hp0_5_0_2 : ∀ k_, P0_5_ k_ → ¬ P0_2_ k_) (hp0_5_0_6 : ∀ k_, P0_5_ k_ → ¬ P0_6_ k_) (ho0_6 : Kd.R (Kd.int .i64) 3 w w0.heap.size P0_6_ u9003_ l0_6) (hp0_6_0_1 : ∀ k_, P0_6_ k_ → ¬ P0_1_ k_) (hp0_6_0_2 : ∀ k_, P0_6_ k_ → ¬ P0_2_ k_) (hp0_6_0_5 : ∀ k_, P0_6_ k_ → ¬ P0_5_ k_) (h : laws_markSight.f k a0_0 l0_1 l0_2 a0_3 a0_4 l0_5 l0_6 a1 = some (r1, r2, r3, r4, r5)) :
  Calls Try.prog 70 #[.agg #[.int .i64 a0_0, u9000_, u9001_, .int .i64 a0_3, .int .i64 a0_4, u9002_, u9003_], .int .i64 a1] w fun e w' => e = .returned (.int .i64 r1) ∧ Kd.R (Kd.int .i64) 3 w' w0.heap.size (fun k_ => ((P0_1_ k_ ∨ P0_2_ k_ ∨ P0_5_ k_ ∨ P0_6_ k_) ∨ w.heap.size ≤ k_)) u9000_ r2 ∧ Kd.R (Kd.int .i64) 3 w' w0.heap.size (fun k_ => ((P0_1_ k_ ∨ P0_2_ k_ ∨ P0_5_ k_ ∨ P0_6_ k_) ∨ w.heap.size ≤ k_)) u9001_ r3 ∧ Kd.R (Kd.int .i64) 3 w' w0.heap.size (fun k_ => ((P0_1_ k_ ∨ P0_2_ k_ ∨ P0_5_ k_ ∨ P0_6_ k_) ∨ w.heap.size ≤ k_)) u9002_ r4 ∧ Kd.R (Kd.int .i64) 3 w' w0.heap.size (fun k_ => ((P0_1_ k_ ∨ P0_2_ k_ ∨ P0_5_ k_ ∨ P0_6_ k_) ∨ w.heap.size ≤ k_)) u9003_ r5 ∧ Below w0.heap.size w0 w' ∧ Kept w w' (fun k_ => P0_1_ k_ ∨ P0_2_ k_ ∨ P0_5_ k_ ∨ P0_6_ k_) := by
 have hu84 := Try.underlying84
 have HO0_1 := QX (show Kd.R (Kd.int .i64) 3 w w0.heap.size (fun k_ => ((P0_1_ k_ ∨ P0_2_ k_ ∨ P0_5_ k_ ∨ P0_6_ k_) ∨ w.heap.size ≤ k_) ∧ some k_ ≠ (u9001_ : Value).ownBlock ∧ some k_ ≠ (u9002_ : Value).ownBlock ∧ some k_ ≠ (u9003_ : Value).ownBlock) u9000_ l0_1 from QP ho0_1 (fun k_ hk => ⟨(.inl (.inl hk)), fun e_ => hp0_1_0_2 k_ hk (ho0_2.1 k_ e_.symm), fun e_ => hp0_1_0_5 k_ hk (ho0_5.1 k_ e_.symm), fun e_ => hp0_1_0_6 k_ hk (ho0_6.1 k_ e_.symm)⟩))
 have HO0_2 := QX (show Kd.R (Kd.int .i64) 3 w w0.heap.size (fun k_ => ((P0_1_ k_ ∨ P0_2_ k_ ∨ P0_5_ k_ ∨ P0_6_ k_) ∨ w.heap.size ≤ k_) ∧ some k_ ≠ (u9000_ : Value).ownBlock ∧ some k_ ≠ (u9002_ : Value).ownBlock ∧ some k_ ≠ (u9003_ : Value).ownBlock) u9001_ l0_2 from QP ho0_2 (fun k_ hk => ⟨(.inl (.inr (.inl hk))), fun e_ => hp0_2_0_1 k_ hk (ho0_1.1 k_ e_.symm), fun e_ => hp0_2_0_5 k_ hk (ho0_5.1 k_ e_.symm), fun e_ => hp0_2_0_6 k_ hk (ho0_6.1 k_ e_.symm)⟩))
 have HO0_5 := QX (show Kd.R (Kd.int .i64) 3 w w0.heap.size (fun k_ => ((P0_1_ k_ ∨ P0_2_ k_ ∨ P0_5_ k_ ∨ P0_6_ k_) ∨ w.heap.size ≤ k_) ∧ some k_ ≠ (u9000_ : Value).ownBlock ∧ some k_ ≠ (u9001_ : Value).ownBlock ∧ some k_ ≠ (u9003_ : Value).ownBlock) u9002_ l0_5 from QP ho0_5 (fun k_ hk => ⟨(.inl (.inr (.inr (.inl hk)))), fun e_ => hp0_5_0_1 k_ hk (ho0_1.1 k_ e_.symm), fun e_ => hp0_5_0_2 k_ hk (ho0_2.1 k_ e_.symm), fun e_ => hp0_5_0_6 k_ hk (ho0_6.1 k_ e_.symm)⟩))
 have HO0_6 := QX (show Kd.R (Kd.int .i64) 3 w w0.heap.size (fun k_ => ((P0_1_ k_ ∨ P0_2_ k_ ∨ P0_5_ k_ ∨ P0_6_ k_) ∨ w.heap.size ≤ k_) ∧ some k_ ≠ (u9000_ : Value).ownBlock ∧ some k_ ≠ (u9001_ : Value).ownBlock ∧ some k_ ≠ (u9002_ : Value).ownBlock) u9003_ l0_6 from QP ho0_6 (fun k_ hk => ⟨(.inl (.inr (.inr (.inr hk)))), fun e_ => hp0_6_0_1 k_ hk (ho0_1.1 k_ e_.symm), fun e_ => hp0_6_0_2 k_ hk (ho0_2.1 k_ e_.symm), fun e_ => hp0_6_0_5 k_ hk (ho0_5.1 k_ e_.symm)⟩))
 have HK := QX (Kept.refl w (fun k_ => P0_1_ k_ ∨ P0_2_ k_ ∨ P0_5_ k_ ∨ P0_6_ k_))
 have HW0 := QX hB.size
 have HB := QX hB
 clear hB
 have H : ((laws_markIntS.f k l0_1 a1).bind fun bt319 => ((laws_markIntS.f k l0_2 bt319.1).bind fun bt321 => ((laws_markIntS.f k l0_5 bt321.1).bind fun bt323 => ((laws_markIntS.f k l0_6 bt323.1).bind fun bt325 => (some (bt325.1, bt319.2, bt321.2, bt323.2, bt325.2)))))) = some (r1, r2, r3, r4, r5) := h
 clear h
 replace H := Option.bind_eq_some_iff.mp H
 obtain ⟨⟨t319, t320⟩, A30, H⟩ := H
 replace H : ((laws_markIntS.f k l0_2 t319).bind fun bt321 => ((laws_markIntS.f k l0_5 bt321.1).bind fun bt323 => ((laws_markIntS.f k l0_6 bt323.1).bind fun bt325 => (some (bt325.1, t320, bt321.2, bt323.2, bt325.2))))) = some (r1, r2, r3, r4, r5) := H
 have A3 := QX A30
 clear A30
 replace H := Option.bind_eq_some_iff.mp H
 obtain ⟨⟨t321, t322⟩, A40, H⟩ := H
 replace H : ((laws_markIntS.f k l0_5 t321).bind fun bt323 => ((laws_markIntS.f k l0_6 bt323.1).bind fun bt325 => (some (bt325.1, t320, t322, bt323.2, bt325.2)))) = some (r1, r2, r3, r4, r5) := H
 have A4 := QX A40
 clear A40
 replace H := Option.bind_eq_some_iff.mp H
 obtain ⟨⟨t323, t324⟩, A50, H⟩ := H
 replace H : ((laws_markIntS.f k l0_6 t323).bind fun bt325 => (some (bt325.1, t320, t322, t324, bt325.2))) = some (r1, r2, r3, r4, r5) := H
 have A5 := QX A50
 clear A50
 replace H := Option.bind_eq_some_iff.mp H
 obtain ⟨⟨t325, t326⟩, A60, H⟩ := H
 replace H : (some (t325, t320, t322, t324, t326)) = some (r1, r2, r3, r4, r5) := H
 have A6 := QX A60
 clear A60
 simp only [Option.some.injEq, Prod.mk.injEq] at H
 obtain ⟨rfl, rfl, rfl, rfl, rfl⟩ := H
 obtain ⟨Ao7, co7, eo7⟩ := Kd.R_slice HO0_1.out
 subst eo7
 obtain ⟨Ao8, co8, eo8⟩ := Kd.R_slice HO0_2.out
 subst eo8
 obtain ⟨Ao9, co9, eo9⟩ := Kd.R_slice HO0_5.out
 subst eo9
 obtain ⟨Ao10, co10, eo10⟩ := Kd.R_slice HO0_6.out
 subst eo10
 go_enter Try.func70, Try.ntmps70
 go_wp2_with (first | ((with_reducible refine gate_dst (N := 2) rfl ?_); refine box_event ?hg (N := 2) ?hd (cs := #[.int .i64 a0_0, .slice Ao7 l0_1.length co7, .slice Ao8 l0_2.length co8, .int .i64 a0_3, .int .i64 a0_4, .slice Ao9 l0_5.length co9, .slice Ao10 l0_6.length co10]) (t := 84) ?hr ?_; (case hd => rfl); (case hg => rfl); (case hr => first | (go_simp; done) | (go_simp; rfl)); intro gb318 hg w11 hbox hb; have n0_ := QX (Kd.R_below (by (with_reducible repeat (first | apply QM | apply QN | apply QO)); exact HO0_1.out) hb); have n1_ := QX (Kd.R_below (by (with_reducible repeat (first | apply QM | apply QN | apply QO)); exact HO0_2.out) hb); have n2_ := QX (Kd.R_below (by (with_reducible repeat (first | apply QM | apply QN | apply QO)); exact HO0_5.out) hb); have n3_ := QX (Kd.R_below (by (with_reducible repeat (first | apply QM | apply QN | apply QO)); exact HO0_6.out) hb); have n4_ := QX (Kept.below (S := (fun k_ => P0_1_ k_ ∨ P0_2_ k_ ∨ P0_5_ k_ ∨ P0_6_ k_)) (by repeat (first | (with_reducible first | exact HK.out | apply Kept.alloc | apply Kept.drewN | apply Kept.drew) | exact HK.out)) hb); have n5_ := QX (below_step (by repeat (first | (with_reducible first | exact HB.out | apply QF | apply QD | apply QE) | exact HB.out)) hb); have n6_ := QX (hbox); have n7_ := QX ((by rw [hg]; exact (by first | exact HK.out.1 | exact (show Kept w _ (fun k_ => P0_1_ k_ ∨ P0_2_ k_ ∨ P0_5_ k_ ∨ P0_6_ k_) from by repeat (first | (with_reducible first | exact HK.out | apply Kept.alloc | apply Kept.drewN | apply Kept.drew) | exact HK.out)).1) : w.heap.size ≤ gb318)); have n8_ := QX ((by rw [hg]; exact (below_size (by repeat (first | (with_reducible first | exact HB.out | apply QF | apply QD | apply QE) | exact HB.out))) : w0.heap.size ≤ gb318)); clear HO0_1; clear HO0_2; clear HO0_5; clear HO0_6; clear HK; clear HB; have HO0_1 := n0_; have HO0_2 := n1_; have HO0_5 := n2_; have HO0_6 := n3_; have HK := n4_; have HB := n5_; have BK318 := n6_; have GW318 := n7_; have GE318 := n8_; clear n0_ n1_ n2_ n3_ n4_ n5_ n6_ n7_ n8_; clear hb hbox hg; have hcz12_0 : w11.cell? ⟨gb318, 0, none⟩ = some (.int .i64 a0_0) := (QB BK318.out 0).trans rfl; have hcz12_1 : w11.cell? ⟨gb318, 1, none⟩ = some (.slice Ao7 l0_1.length co7) := (QB BK318.out 1).trans rfl; have hcz12_2 : w11.cell? ⟨gb318, 2, none⟩ = some (.slice Ao8 l0_2.length co8) := (QB BK318.out 2).trans rfl; have hcz12_3 : w11.cell? ⟨gb318, 3, none⟩ = some (.int .i64 a0_3) := (QB BK318.out 3).trans rfl; have hcz12_4 : w11.cell? ⟨gb318, 4, none⟩ = some (.int .i64 a0_4) := (QB BK318.out 4).trans rfl; have hcz12_5 : w11.cell? ⟨gb318, 5, none⟩ = some (.slice Ao9 l0_5.length co9) := (QB BK318.out 5).trans rfl; have hcz12_6 : w11.cell? ⟨gb318, 6, none⟩ = some (.slice Ao10 l0_6.length co10) := (QB BK318.out 6).trans rfl; have hfz12_0 := QC BK318.out 0; have hfz12_1 := QC BK318.out 1; have hfz12_2 := QC BK318.out 2; have hfz12_3 := QC BK318.out 3; have hfz12_4 := QC BK318.out 4; have hfz12_5 := QC BK318.out 5; have hfz12_6 := QC BK318.out 6) | ((with_reducible refine gate_callee (f := 76) rfl ?_); refine goesL_ (some 8) rfl rfl Try.func76 (by kernel_rfl) rfl #[.slice Ao7 l0_1.length co7, .int .i64 a1] rfl (by (try simp only [List.map_toArray, List.map_cons, List.map_nil]); first | done | rfl | (simp only [List.length_drop, List.length_take]; rfl)) ?_; (with_reducible refine (laws_markIntS.calls k (fun k_ => some k_ = (.slice Ao7 l0_1.length co7 : Value).ownBlock) (.slice Ao7 l0_1.length co7) l0_1 a1 t319 t320 w0 _ ?side1 ?side2 A3.out).mono ?_); (case side1 => repeat (first | (with_reducible first | exact HB.out | apply QF | apply QD | apply QE | refine QG ?_ GE318.out) | exact HB.out)); (case side2 => exact Kd.R_tight rfl HO0_1.out); rintro e w13 ⟨rfl, hy0, hb, hkp⟩; refine ⟨_, rfl, ?_⟩; have n0_ := QX (Kd.R_reok rfl hy0 (fun k_ e_ => HO0_1.out.1 k_ e_)); have n1_ := QX (QP (ok' := fun k_ => ((P0_1_ k_ ∨ P0_2_ k_ ∨ P0_5_ k_ ∨ P0_6_ k_) ∨ w.heap.size ≤ k_) ∧ some k_ ≠ (.slice Ao7 l0_1.length co7 : Value).ownBlock ∧ some k_ ≠ (.slice Ao9 l0_5.length co9 : Value).ownBlock ∧ some k_ ≠ (.slice Ao10 l0_6.length co10 : Value).ownBlock) (Kd.R_keptB (HO0_2.out) hkp (fun k_ hk_ hs_ => (hk_.2.1) hs_)) (fun k_ hk_ => ⟨hk_.1.1, hk_.1.2.1, hk_.1.2.2.1, hk_.1.2.2.2⟩)); have n2_ := QX (QP (ok' := fun k_ => ((P0_1_ k_ ∨ P0_2_ k_ ∨ P0_5_ k_ ∨ P0_6_ k_) ∨ w.heap.size ≤ k_) ∧ some k_ ≠ (.slice Ao7 l0_1.length co7 : Value).ownBlock ∧ some k_ ≠ (.slice Ao8 l0_2.length co8 : Value).ownBlock ∧ some k_ ≠ (.slice Ao10 l0_6.length co10 : Value).ownBlock) (Kd.R_keptB (HO0_5.out) hkp (fun k_ hk_ hs_ => (hk_.2.1) hs_)) (fun k_ hk_ => ⟨hk_.1.1, hk_.1.2.1, hk_.1.2.2.1, hk_.1.2.2.2⟩)); have n3_ := QX (QP (ok' := fun k_ => ((P0_1_ k_ ∨ P0_2_ k_ ∨ P0_5_ k_ ∨ P0_6_ k_) ∨ w.heap.size ≤ k_) ∧ some k_ ≠ (.slice Ao7 l0_1.length co7 : Value).ownBlock ∧ some k_ ≠ (.slice Ao8 l0_2.length co8 : Value).ownBlock ∧ some k_ ≠ (.slice Ao9 l0_5.length co9 : Value).ownBlock) (Kd.R_keptB (HO0_6.out) hkp (fun k_ hk_ hs_ => (hk_.2.1) hs_)) (fun k_ hk_ => ⟨hk_.1.1, hk_.1.2.1, hk_.1.2.2.1, hk_.1.2.2.2⟩)); have n4_ := QX (blk_kept (by (with_reducible repeat (first | refine QJ ?_ _ | refine QL ?_ | refine QK ?_ _)); exact BK318.out) hkp (fun hs_ => (fun e_ => (Kd.R_ne HO0_1.out BK318.out (by decide)) e_) hs_)); have n5_ := QX (Kept.then_ (S := (fun k_ => P0_1_ k_ ∨ P0_2_ k_ ∨ P0_5_ k_ ∨ P0_6_ k_)) (by repeat (first | (with_reducible first | exact HK.out | apply Kept.alloc | apply Kept.drewN | apply Kept.drew | refine Kept.setCell ?_ (.inr GW318.out) _) | exact HK.out)) hkp (fun k_ hs_ => (fun e_ => (HO0_1.out.1 k_ e_.symm).1) hs_)); have n6_ := QX (hb); clear HO0_1; clear HO0_2; clear HO0_5; clear HO0_6; clear BK318; clear HK; clear HB; have HO0_1 := n0_; have HO0_2 := n1_; have HO0_5 := n2_; have HO0_6 := n3_; have BK318 := n4_; have HK := n5_; have HB := n6_; clear n0_ n1_ n2_ n3_ n4_ n5_ n6_; (try clear hb); (try clear hkp); (try clear hy0); have hcz14_0 : w13.cell? ⟨gb318, 0, none⟩ = some (.int .i64 a0_0) := (QB BK318.out 0).trans rfl; have hcz14_1 : w13.cell? ⟨gb318, 1, none⟩ = some (.slice Ao7 l0_1.length co7) := (QB BK318.out 1).trans rfl; have hcz14_2 : w13.cell? ⟨gb318, 2, none⟩ = some (.slice Ao8 l0_2.length co8) := (QB BK318.out 2).trans rfl; have hcz14_3 : w13.cell? ⟨gb318, 3, none⟩ = some (.int .i64 a0_3) := (QB BK318.out 3).trans rfl; have hcz14_4 : w13.cell? ⟨gb318, 4, none⟩ = some (.int .i64 a0_4) := (QB BK318.out 4).trans rfl; have hcz14_5 : w13.cell? ⟨gb318, 5, none⟩ = some (.slice Ao9 l0_5.length co9) := (QB BK318.out 5).trans rfl; have hcz14_6 : w13.cell? ⟨gb318, 6, none⟩ = some (.slice Ao10 l0_6.length co10) := (QB BK318.out 6).trans rfl; have hfz14_0 := QC BK318.out 0; have hfz14_1 := QC BK318.out 1; have hfz14_2 := QC BK318.out 2; have hfz14_3 := QC BK318.out 3; have hfz14_4 := QC BK318.out 4; have hfz14_5 := QC BK318.out 5; have hfz14_6 := QC BK318.out 6) | ((with_reducible refine gate_callee (f := 76) rfl ?_); refine goesL_ (some 12) rfl rfl Try.func76 (by kernel_rfl) rfl #[.slice Ao8 l0_2.length co8, .int .i64 t319] rfl (by (try simp only [List.map_toArray, List.map_cons, List.map_nil]); first | done | rfl | (simp only [List.length_drop, List.length_take]; rfl)) ?_; (with_reducible refine (laws_markIntS.calls k (fun k_ => some k_ = (.slice Ao8 l0_2.length co8 : Value).ownBlock) (.slice Ao8 l0_2.length co8) l0_2 t319 t321 t322 w0 _ ?side1 ?side2 A4.out).mono ?_); (case side1 => repeat (first | (with_reducible first | exact HB.out | apply QF | apply QD | apply QE | refine QG ?_ GE318.out) | exact HB.out)); (case side2 => exact Kd.R_tight rfl HO0_2.out); rintro e w15 ⟨rfl, hy0, hb, hkp⟩; refine ⟨_, rfl, ?_⟩; have n0_ := QX (QP (ok' := fun k_ => ((P0_1_ k_ ∨ P0_2_ k_ ∨ P0_5_ k_ ∨ P0_6_ k_) ∨ w.heap.size ≤ k_) ∧ some k_ ≠ (.slice Ao8 l0_2.length co8 : Value).ownBlock ∧ some k_ ≠ (.slice Ao9 l0_5.length co9 : Value).ownBlock ∧ some k_ ≠ (.slice Ao10 l0_6.length co10 : Value).ownBlock) (Kd.R_keptB (HO0_1.out) hkp (fun k_ hk_ hs_ => (hk_.2.1) hs_)) (fun k_ hk_ => ⟨hk_.1.1, hk_.1.2.1, hk_.1.2.2.1, hk_.1.2.2.2⟩)); have n1_ := QX (Kd.R_reok rfl hy0 (fun k_ e_ => HO0_2.out.1 k_ e_)); have n2_ := QX (QP (ok' := fun k_ => ((P0_1_ k_ ∨ P0_2_ k_ ∨ P0_5_ k_ ∨ P0_6_ k_) ∨ w.heap.size ≤ k_) ∧ some k_ ≠ (.slice Ao7 l0_1.length co7 : Value).ownBlock ∧ some k_ ≠ (.slice Ao8 l0_2.length co8 : Value).ownBlock ∧ some k_ ≠ (.slice Ao10 l0_6.length co10 : Value).ownBlock) (Kd.R_keptB (HO0_5.out) hkp (fun k_ hk_ hs_ => (hk_.2.2.1) hs_)) (fun k_ hk_ => ⟨hk_.1.1, hk_.1.2.1, hk_.1.2.2.1, hk_.1.2.2.2⟩)); have n3_ := QX (QP (ok' := fun k_ => ((P0_1_ k_ ∨ P0_2_ k_ ∨ P0_5_ k_ ∨ P0_6_ k_) ∨ w.heap.size ≤ k_) ∧ some k_ ≠ (.slice Ao7 l0_1.length co7 : Value).ownBlock ∧ some k_ ≠ (.slice Ao8 l0_2.length co8 : Value).ownBlock ∧ some k_ ≠ (.slice Ao9 l0_5.length co9 : Value).ownBlock) (Kd.R_keptB (HO0_6.out) hkp (fun k_ hk_ hs_ => (hk_.2.2.1) hs_)) (fun k_ hk_ => ⟨hk_.1.1, hk_.1.2.1, hk_.1.2.2.1, hk_.1.2.2.2⟩)); have n4_ := QX (blk_kept (by (with_reducible repeat (first | refine QJ ?_ _ | refine QL ?_ | refine QK ?_ _)); exact BK318.out) hkp (fun hs_ => (fun e_ => (Kd.R_ne HO0_2.out BK318.out (by decide)) e_) hs_)); have n5_ := QX (Kept.then_ (S := (fun k_ => P0_1_ k_ ∨ P0_2_ k_ ∨ P0_5_ k_ ∨ P0_6_ k_)) (by repeat (first | (with_reducible first | exact HK.out | apply Kept.alloc | apply Kept.drewN | apply Kept.drew | refine Kept.setCell ?_ (.inr GW318.out) _) | exact HK.out)) hkp (fun k_ hs_ => (fun e_ => (HO0_2.out.1 k_ e_.symm).1) hs_)); have n6_ := QX (hb); clear HO0_1; clear HO0_2; clear HO0_5; clear HO0_6; clear BK318; clear HK; clear HB; have HO0_1 := n0_; have HO0_2 := n1_; have HO0_5 := n2_; have HO0_6 := n3_; have BK318 := n4_; have HK := n5_; have HB := n6_; clear n0_ n1_ n2_ n3_ n4_ n5_ n6_; (try clear hb); (try clear hkp); (try clear hy0); have hcz16_0 : w15.cell? ⟨gb318, 0, none⟩ = some (.int .i64 a0_0) := (QB BK318.out 0).trans rfl; have hcz16_1 : w15.cell? ⟨gb318, 1, none⟩ = some (.slice Ao7 l0_1.length co7) := (QB BK318.out 1).trans rfl; have hcz16_2 : w15.cell? ⟨gb318, 2, none⟩ = some (.slice Ao8 l0_2.length co8) := (QB BK318.out 2).trans rfl; have hcz16_3 : w15.cell? ⟨gb318, 3, none⟩ = some (.int .i64 a0_3) := (QB BK318.out 3).trans rfl; have hcz16_4 : w15.cell? ⟨gb318, 4, none⟩ = some (.int .i64 a0_4) := (QB BK318.out 4).trans rfl; have hcz16_5 : w15.cell? ⟨gb318, 5, none⟩ = some (.slice Ao9 l0_5.length co9) := (QB BK318.out 5).trans rfl; have hcz16_6 : w15.cell? ⟨gb318, 6, none⟩ = some (.slice Ao10 l0_6.length co10) := (QB BK318.out 6).trans rfl; have hfz16_0 := QC BK318.out 0; have hfz16_1 := QC BK318.out 1; have hfz16_2 := QC BK318.out 2; have hfz16_3 := QC BK318.out 3; have hfz16_4 := QC BK318.out 4; have hfz16_5 := QC BK318.out 5; have hfz16_6 := QC BK318.out 6) | ((with_reducible refine gate_callee (f := 76) rfl ?_); refine goesL_ (some 16) rfl rfl Try.func76 (by kernel_rfl) rfl #[.slice Ao9 l0_5.length co9, .int .i64 t321] rfl (by (try simp only [List.map_toArray, List.map_cons, List.map_nil]); first | done | rfl | (simp only [List.length_drop, List.length_take]; rfl)) ?_; (with_reducible refine (laws_markIntS.calls k (fun k_ => some k_ = (.slice Ao9 l0_5.length co9 : Value).ownBlock) (.slice Ao9 l0_5.length co9) l0_5 t321 t323 t324 w0 _ ?side1 ?side2 A5.out).mono ?_); (case side1 => repeat (first | (with_reducible first | exact HB.out | apply QF | apply QD | apply QE | refine QG ?_ GE318.out) | exact HB.out)); (case side2 => exact Kd.R_tight rfl HO0_5.out); rintro e w17 ⟨rfl, hy0, hb, hkp⟩; refine ⟨_, rfl, ?_⟩; have n0_ := QX (QP (ok' := fun k_ => ((P0_1_ k_ ∨ P0_2_ k_ ∨ P0_5_ k_ ∨ P0_6_ k_) ∨ w.heap.size ≤ k_) ∧ some k_ ≠ (.slice Ao8 l0_2.length co8 : Value).ownBlock ∧ some k_ ≠ (.slice Ao9 l0_5.length co9 : Value).ownBlock ∧ some k_ ≠ (.slice Ao10 l0_6.length co10 : Value).ownBlock) (Kd.R_keptB (HO0_1.out) hkp (fun k_ hk_ hs_ => (hk_.2.2.1) hs_)) (fun k_ hk_ => ⟨hk_.1.1, hk_.1.2.1, hk_.1.2.2.1, hk_.1.2.2.2⟩)); have n1_ := QX (QP (ok' := fun k_ => ((P0_1_ k_ ∨ P0_2_ k_ ∨ P0_5_ k_ ∨ P0_6_ k_) ∨ w.heap.size ≤ k_) ∧ some k_ ≠ (.slice Ao7 l0_1.length co7 : Value).ownBlock ∧ some k_ ≠ (.slice Ao9 l0_5.length co9 : Value).ownBlock ∧ some k_ ≠ (.slice Ao10 l0_6.length co10 : Value).ownBlock) (Kd.R_keptB (HO0_2.out) hkp (fun k_ hk_ hs_ => (hk_.2.2.1) hs_)) (fun k_ hk_ => ⟨hk_.1.1, hk_.1.2.1, hk_.1.2.2.1, hk_.1.2.2.2⟩)); have n2_ := QX (Kd.R_reok rfl hy0 (fun k_ e_ => HO0_5.out.1 k_ e_)); have n3_ := QX (QP (ok' := fun k_ => ((P0_1_ k_ ∨ P0_2_ k_ ∨ P0_5_ k_ ∨ P0_6_ k_) ∨ w.heap.size ≤ k_) ∧ some k_ ≠ (.slice Ao7 l0_1.length co7 : Value).ownBlock ∧ some k_ ≠ (.slice Ao8 l0_2.length co8 : Value).ownBlock ∧ some k_ ≠ (.slice Ao9 l0_5.length co9 : Value).ownBlock) (Kd.R_keptB (HO0_6.out) hkp (fun k_ hk_ hs_ => (hk_.2.2.2) hs_)) (fun k_ hk_ => ⟨hk_.1.1, hk_.1.2.1, hk_.1.2.2.1, hk_.1.2.2.2⟩)); have n4_ := QX (blk_kept (by (with_reducible repeat (first | refine QJ ?_ _ | refine QL ?_ | refine QK ?_ _)); exact BK318.out) hkp (fun hs_ => (fun e_ => (Kd.R_ne HO0_5.out BK318.out (by decide)) e_) hs_)); have n5_ := QX (Kept.then_ (S := (fun k_ => P0_1_ k_ ∨ P0_2_ k_ ∨ P0_5_ k_ ∨ P0_6_ k_)) (by repeat (first | (with_reducible first | exact HK.out | apply Kept.alloc | apply Kept.drewN | apply Kept.drew | refine Kept.setCell ?_ (.inr GW318.out) _) | exact HK.out)) hkp (fun k_ hs_ => (fun e_ => (HO0_5.out.1 k_ e_.symm).1) hs_)); have n6_ := QX (hb); clear HO0_1; clear HO0_2; clear HO0_5; clear HO0_6; clear BK318; clear HK; clear HB; have HO0_1 := n0_; have HO0_2 := n1_; have HO0_5 := n2_; have HO0_6 := n3_; have BK318 := n4_; have HK := n5_; have HB := n6_; clear n0_ n1_ n2_ n3_ n4_ n5_ n6_; (try clear hb); (try clear hkp); (try clear hy0); have hcz18_0 : w17.cell? ⟨gb318, 0, none⟩ = some (.int .i64 a0_0) := (QB BK318.out 0).trans rfl; have hcz18_1 : w17.cell? ⟨gb318, 1, none⟩ = some (.slice Ao7 l0_1.length co7) := (QB BK318.out 1).trans rfl; have hcz18_2 : w17.cell? ⟨gb318, 2, none⟩ = some (.slice Ao8 l0_2.length co8) := (QB BK318.out 2).trans rfl; have hcz18_3 : w17.cell? ⟨gb318, 3, none⟩ = some (.int .i64 a0_3) := (QB BK318.out 3).trans rfl; have hcz18_4 : w17.cell? ⟨gb318, 4, none⟩ = some (.int .i64 a0_4) := (QB BK318.out 4).trans rfl; have hcz18_5 : w17.cell? ⟨gb318, 5, none⟩ = some (.slice Ao9 l0_5.length co9) := (QB BK318.out 5).trans rfl; have hcz18_6 : w17.cell? ⟨gb318, 6, none⟩ = some (.slice Ao10 l0_6.length co10) := (QB BK318.out 6).trans rfl; have hfz18_0 := QC BK318.out 0; have hfz18_1 := QC BK318.out 1; have hfz18_2 := QC BK318.out 2; have hfz18_3 := QC BK318.out 3; have hfz18_4 := QC BK318.out 4; have hfz18_5 := QC BK318.out 5; have hfz18_6 := QC BK318.out 6) | ((with_reducible refine gate_callee (f := 76) rfl ?_); refine goesL_ (some 20) rfl rfl Try.func76 (by kernel_rfl) rfl #[.slice Ao10 l0_6.length co10, .int .i64 t323] rfl (by (try simp only [List.map_toArray, List.map_cons, List.map_nil]); first | done | rfl | (simp only [List.length_drop, List.length_take]; rfl)) ?_; (with_reducible refine (laws_markIntS.calls k (fun k_ => some k_ = (.slice Ao10 l0_6.length co10 : Value).ownBlock) (.slice Ao10 l0_6.length co10) l0_6 t323 t325 t326 w0 _ ?side1 ?side2 A6.out).mono ?_); (case side1 => repeat (first | (with_reducible first | exact HB.out | apply QF | apply QD | apply QE | refine QG ?_ GE318.out) | exact HB.out)); (case side2 => exact Kd.R_tight rfl HO0_6.out); rintro e w19 ⟨rfl, hy0, hb, hkp⟩; refine ⟨_, rfl, ?_⟩; have n0_ := QX (QP (ok' := fun k_ => ((P0_1_ k_ ∨ P0_2_ k_ ∨ P0_5_ k_ ∨ P0_6_ k_) ∨ w.heap.size ≤ k_) ∧ some k_ ≠ (.slice Ao8 l0_2.length co8 : Value).ownBlock ∧ some k_ ≠ (.slice Ao9 l0_5.length co9 : Value).ownBlock ∧ some k_ ≠ (.slice Ao10 l0_6.length co10 : Value).ownBlock) (Kd.R_keptB (HO0_1.out) hkp (fun k_ hk_ hs_ => (hk_.2.2.2) hs_)) (fun k_ hk_ => ⟨hk_.1.1, hk_.1.2.1, hk_.1.2.2.1, hk_.1.2.2.2⟩)); have n1_ := QX (QP (ok' := fun k_ => ((P0_1_ k_ ∨ P0_2_ k_ ∨ P0_5_ k_ ∨ P0_6_ k_) ∨ w.heap.size ≤ k_) ∧ some k_ ≠ (.slice Ao7 l0_1.length co7 : Value).ownBlock ∧ some k_ ≠ (.slice Ao9 l0_5.length co9 : Value).ownBlock ∧ some k_ ≠ (.slice Ao10 l0_6.length co10 : Value).ownBlock) (Kd.R_keptB (HO0_2.out) hkp (fun k_ hk_ hs_ => (hk_.2.2.2) hs_)) (fun k_ hk_ => ⟨hk_.1.1, hk_.1.2.1, hk_.1.2.2.1, hk_.1.2.2.2⟩)); have n2_ := QX (QP (ok' := fun k_ => ((P0_1_ k_ ∨ P0_2_ k_ ∨ P0_5_ k_ ∨ P0_6_ k_) ∨ w.heap.size ≤ k_) ∧ some k_ ≠ (.slice Ao7 l0_1.length co7 : Value).ownBlock ∧ some k_ ≠ (.slice Ao8 l0_2.length co8 : Value).ownBlock ∧ some k_ ≠ (.slice Ao10 l0_6.length co10 : Value).ownBlock) (Kd.R_keptB (HO0_5.out) hkp (fun k_ hk_ hs_ => (hk_.2.2.2) hs_)) (fun k_ hk_ => ⟨hk_.1.1, hk_.1.2.1, hk_.1.2.2.1, hk_.1.2.2.2⟩)); have n3_ := QX (Kd.R_reok rfl hy0 (fun k_ e_ => HO0_6.out.1 k_ e_)); have n4_ := QX (blk_kept (by (with_reducible repeat (first | refine QJ ?_ _ | refine QL ?_ | refine QK ?_ _)); exact BK318.out) hkp (fun hs_ => (fun e_ => (Kd.R_ne HO0_6.out BK318.out (by decide)) e_) hs_)); have n5_ := QX (Kept.then_ (S := (fun k_ => P0_1_ k_ ∨ P0_2_ k_ ∨ P0_5_ k_ ∨ P0_6_ k_)) (by repeat (first | (with_reducible first | exact HK.out | apply Kept.alloc | apply Kept.drewN | apply Kept.drew | refine Kept.setCell ?_ (.inr GW318.out) _) | exact HK.out)) hkp (fun k_ hs_ => (fun e_ => (HO0_6.out.1 k_ e_.symm).1) hs_)); have n6_ := QX (hb); clear HO0_1; clear HO0_2; clear HO0_5; clear HO0_6; clear BK318; clear HK; clear HB; have HO0_1 := n0_; have HO0_2 := n1_; have HO0_5 := n2_; have HO0_6 := n3_; have BK318 := n4_; have HK := n5_; have HB := n6_; clear n0_ n1_ n2_ n3_ n4_ n5_ n6_; (try clear hb); (try clear hkp); (try clear hy0)))
 go_ret
 exact ⟨by first | rfl | (simp [errW_none, errW_some] <;> rfl) | (simp [*, errW_none, errW_some] <;> rfl), by (with_reducible repeat (first | apply QM | apply QN | apply QO)); exact QP HO0_1.out (fun _ hk => hk.1), by (with_reducible repeat (first | apply QM | apply QN | apply QO)); exact QP HO0_2.out (fun _ hk => hk.1), by (with_reducible repeat (first | apply QM | apply QN | apply QO)); exact QP HO0_5.out (fun _ hk => hk.1), by (with_reducible repeat (first | apply QM | apply QN | apply QO)); exact QP HO0_6.out (fun _ hk => hk.1), by repeat (first | (with_reducible first | exact HB.out | apply QF | apply QD | apply QE | refine QG ?_ GE318.out) | exact HB.out), by repeat (first | (with_reducible first | exact HK.out | apply Kept.alloc | apply Kept.drewN | apply Kept.drew | refine Kept.setCell ?_ (.inr GW318.out) _) | exact HK.out)⟩

/-! ### laws_heldIntS: function 77 -/
def laws_heldIntS.l0 : Nat → List Int → Int → Int → Option (Int)
 | 0, _, _, _ => none
 | k + 1, x0, x1, x5 => if x5 < (x0.length : Int) then (if 0 ≤ x5 then (if (rd x0 x5) = x1 then (laws_heldIntS.l0 k x0 (wrap64 (x1 + 1)) (wrap64 (x5 + 1))) else (some (-1))) else (none)) else (some x1)
def laws_heldIntS.f (k : Nat) (l0 : List Int) (a1 : Int) : Option (Int) := laws_heldIntS.l0 k l0 a1 0
theorem laws_heldIntS.mono_l : ∀ k, (∀ y0 y1 y2, LeO (laws_heldIntS.l0 k y0 y1 y2) (laws_heldIntS.l0 (k + 1) y0 y1 y2))
 | 0 => fun _ _ _ r h => by simp [laws_heldIntS.l0] at h
 | k + 1 => by
  have ih0 := laws_heldIntS.mono_l k
  ·intro y0 y1 y2
   unfold laws_heldIntS.l0
   repeat' first
   | (with_reducible exact ih0 _ _ _)
   | (with_reducible exact LeO.refl _)
   | (with_reducible exact LeO.none _)
   | (with_reducible refine LeO.ite ?_ ?_)
   | (with_reducible refine LeO.bind ?_ (fun _ => ?_))
   | exact ih0 _ _ _
   | exact LeO.none _
   | refine LeO.ite ?_ ?_
   | refine LeO.bind ?_ (fun _ => ?_)
theorem laws_heldIntS.mono : ∀ a0 a1 k, LeO (laws_heldIntS.f k a0 a1) (laws_heldIntS.f (k + 1) a0 a1) := by
 intro a0 a1 k
 have ih0 := laws_heldIntS.mono_l k
 unfold laws_heldIntS.f
 repeat' first
   | (with_reducible exact ih0 _ _ _)
   | (with_reducible exact LeO.refl _)
   | (with_reducible exact LeO.none _)
   | (with_reducible refine LeO.ite ?_ ?_)
   | (with_reducible refine LeO.bind ?_ (fun _ => ?_))
   | exact ih0 _ _ _
   | exact LeO.none _
   | refine LeO.ite ?_ ?_
   | refine LeO.bind ?_ (fun _ => ?_)
set_option maxHeartbeats 8000000 in
set_option maxRecDepth 100000 in
theorem laws_heldIntS.calls (k : Nat) (A0 : Option Addr) (c0 : Nat) (l0 : List Int) (a1 : Int) (r : Int) (w : World) (hr0 : Kd.C (Kd.int .i64) w A0 l0.length l0) (hc0 : l0.length ≤ c0) (h : laws_heldIntS.f k l0 a1 = some r) :
  Calls Try.prog 77 #[.slice A0 l0.length c0, .int .i64 a1] w fun e w' => e = .returned (.int .i64 r) ∧ Drawn0 w w' := by
 have HR0 := QX hr0
 have HC0 := QX hc0
 clear hr0 hc0
 have H : (laws_heldIntS.l0 k l0 a1 0) = some r := h
 clear h
 have H' := QX H
 clear H
 go_enter Try.func77, Try.ntmps77
 go_wp2
 go_loopg [1, 5] k (fun kq v1 v5 w' => ∃ (x1_1 : Int) (x5_1 : Int), v1 = .int .i64 x1_1 ∧ v5 = .int .i64 x5_1 ∧ Aside0 (laws_heldIntS.l0 kq l0 x1_1 x5_1 = some r) ∧ Aside0 (kq ≤ k) ∧ Drawn0 w w')
 case atStart => exact ⟨(a1), (0), (by first | rfl | (simp; done) | (simp [*]; done)), (by first | rfl | (simp; done) | (simp [*]; done)), H', ⟨Nat.le_refl _⟩, by repeat (first | exact Drawn0.refl _ | apply Drawn0.step)⟩
 case round =>
  clear H'
  try clear p2
  obtain ⟨x1_1, x5_1, rfl, rfl, HA, HK1, ⟨m1, rfl⟩⟩ := hrel
  cases gk with
  | zero => exact absurd HA.out (by simp [laws_heldIntS.l0])
  | succ k1 =>
   have H := HA.out
   clear HA
   simp only [laws_heldIntS.l0] at H
   by_cases c3 : x5_1 < (l0.length : Int)
   ·rw [if_pos c3] at H
    have c3b0 : decide (x5_1 < (l0.length : Int)) = true := decide_eq_true c3
    clear c3
    by_cases c4 : 0 ≤ x5_1
    ·rw [if_pos c4] at H
     have c4b0 : decide (0 ≤ x5_1) = true := decide_eq_true c4
     clear c4
     by_cases c5 : (rd l0 x5_1) = x1_1
     ·rw [if_pos c5] at H
      have c5b0 : ((rd l0 x5_1) == x1_1) = true := beq_iff_eq.mpr c5
      have c5b1 : ((rd l0 x5_1) != x1_1) = false := bne_eq_false_iff_eq.mpr c5
      clear c5
      have H' := QX H
      clear H
      have p327 : 0 ≤ (x5_1 : Int) := of_decide_eq_true (by first | (with_reducible assumption) | assumption)
      have q327 : x5_1 < (l0.length : Int) := of_decide_eq_true (by first | (with_reducible assumption) | assumption)
      obtain ⟨ad327, e327, hx327_0⟩ := Kd.at_int HR0.out x5_1 p327 q327
      cases e327
      replace p327 := eq_true p327
      replace q327 := eq_true q327
      go_wp2
      go_roundg k1
      case measure => have := HK1.out; omega
      case rel => exact ⟨(wrap64 (x1_1 + 1)), (wrap64 (x5_1 + 1)), (by first | rfl | (simp; done) | (simp [*]; done)), (by first | rfl | (simp; done) | (simp [*]; done)), H', ⟨by have := HK1.out; omega⟩, by repeat (first | exact Drawn0.refl _ | apply Drawn0.step)⟩
     ·rw [if_neg c5] at H
      have c5b0 : ((rd l0 x5_1) == x1_1) = false := beq_eq_false_iff_ne.mpr c5
      have c5b1 : ((rd l0 x5_1) != x1_1) = true := bne_iff_ne.mpr c5
      obtain rfl := Option.some.inj H
      have p327 : 0 ≤ (x5_1 : Int) := of_decide_eq_true (by first | (with_reducible assumption) | assumption)
      have q327 : x5_1 < (l0.length : Int) := of_decide_eq_true (by first | (with_reducible assumption) | assumption)
      obtain ⟨ad327, e327, hx327_0⟩ := Kd.at_int HR0.out x5_1 p327 q327
      cases e327
      replace p327 := eq_true p327
      replace q327 := eq_true q327
      go_wp2
      go_ret
      exact ⟨by first | rfl | (simp; done) | (simp [*]; done), by repeat (first | exact Drawn0.refl _ | apply Drawn0.step)⟩
    ·rw [if_neg c4] at H
     exact absurd H (by simp)
   ·rw [if_neg c3] at H
    have c3b0 : decide (x5_1 < (l0.length : Int)) = false := decide_eq_false c3
    clear c3
    obtain rfl := Option.some.inj H
    go_wp2
    go_ret
    exact ⟨by first | rfl | (simp; done) | (simp [*]; done), by repeat (first | exact Drawn0.refl _ | apply Drawn0.step)⟩

/-! ### laws_heldSight: function 71 -/
def laws_heldSight.f (k : Nat) (a0_0 : Int) (l0_1 : List Int) (l0_2 : List Int) (a0_3 : Int) (a0_4 : Int) (l0_5 : List Int) (l0_6 : List Int) (a1 : Int) : Option (Int) := (laws_heldIntS.f k l0_1 a1).bind fun t329 => (if t329 < 0 then (some (-1)) else ((laws_heldIntS.f k l0_2 t329).bind fun t330 => (if t330 < 0 then (some (-1)) else ((laws_heldIntS.f k l0_5 t330).bind fun t331 => (if t331 < 0 then (some (-1)) else ((laws_heldIntS.f k l0_6 t331).bind fun t332 => (if t332 < 0 then (some (-1)) else (some t332))))))))
theorem laws_heldSight.mono : ∀ a0 a1 a2 a3 a4 a5 a6 a7 k, LeO (laws_heldSight.f k a0 a1 a2 a3 a4 a5 a6 a7) (laws_heldSight.f (k + 1) a0 a1 a2 a3 a4 a5 a6 a7) := by
 intro a0 a1 a2 a3 a4 a5 a6 a7 k
 unfold laws_heldSight.f
 repeat' first
   | (with_reducible exact laws_heldIntS.mono _ _ _)
   | (with_reducible exact LeO.refl _)
   | (with_reducible exact LeO.none _)
   | (with_reducible refine LeO.ite ?_ ?_)
   | (with_reducible refine LeO.bind ?_ (fun _ => ?_))
   | exact laws_heldIntS.mono _ _ _
   | exact LeO.none _
   | refine LeO.ite ?_ ?_
   | refine LeO.bind ?_ (fun _ => ?_)
set_option maxHeartbeats 8000000 in
set_option maxRecDepth 100000 in
theorem laws_heldSight.calls (k : Nat) (a0_0 : Int) (A0_1 : Option Addr) (c0_1 : Nat) (l0_1 : List Int) (A0_2 : Option Addr) (c0_2 : Nat) (l0_2 : List Int) (a0_3 : Int) (a0_4 : Int) (A0_5 : Option Addr) (c0_5 : Nat) (l0_5 : List Int) (A0_6 : Option Addr) (c0_6 : Nat) (l0_6 : List Int) (a1 : Int) (r : Int) (w : World) (hr0_1 : Kd.C (Kd.int .i64) w A0_1 l0_1.length l0_1) (hc0_1 : l0_1.length ≤ c0_1) (hr0_2 : Kd.C (Kd.int .i64) w A0_2 l0_2.length l0_2) (hc0_2 : l0_2.length ≤ c0_2) (hr0_5 : Kd.C (Kd.int .i64) w A0_5 l0_5.length l0_5) (hc0_5 : l0_5.length ≤ c0_5) (hr0_6 : Kd.C (Kd.int .i64) w A0_6 l0_6.length l0_6) (hc0_6 : l0_6.length ≤ c0_6) (h : laws_heldSight.f k a0_0 l0_1 l0_2 a0_3 a0_4 l0_5 l0_6 a1 = some r) :
  Calls Try.prog 71 #[.agg #[.int .i64 a0_0, .slice A0_1 l0_1.length c0_1, .slice A0_2 l0_2.length c0_2, .int .i64 a0_3, .int .i64 a0_4, .slice A0_5 l0_5.length c0_5, .slice A0_6 l0_6.length c0_6], .int .i64 a1] w fun e w' => e = .returned (.int .i64 r) ∧ Below w.heap.size w w' := by
 have hu84 := Try.underlying84
 have HR0_1 := QX hr0_1
 have HC0_1 := QX hc0_1
 clear hr0_1 hc0_1
 have HR0_2 := QX hr0_2
 have HC0_2 := QX hc0_2
 clear hr0_2 hc0_2
 have HR0_5 := QX hr0_5
 have HC0_5 := QX hc0_5
 clear hr0_5 hc0_5
 have HR0_6 := QX hr0_6
 have HC0_6 := QX hc0_6
 clear hr0_6 hc0_6
 have HB := QX (Below.refl w.heap.size w)
 have H : ((laws_heldIntS.f k l0_1 a1).bind fun t329 => (if t329 < 0 then (some (-1)) else ((laws_heldIntS.f k l0_2 t329).bind fun t330 => (if t330 < 0 then (some (-1)) else ((laws_heldIntS.f k l0_5 t330).bind fun t331 => (if t331 < 0 then (some (-1)) else ((laws_heldIntS.f k l0_6 t331).bind fun t332 => (if t332 < 0 then (some (-1)) else (some t332))))))))) = some r := h
 clear h
 replace H := Option.bind_eq_some_iff.mp H
 obtain ⟨t329, A30, H⟩ := H
 have A3 := QX A30
 clear A30
 by_cases c4 : t329 < 0
 rotate_left
 rw [if_neg c4] at H
 have c4b0 : decide (t329 < 0) = false := decide_eq_false c4
 clear c4
 replace H := Option.bind_eq_some_iff.mp H
 obtain ⟨t330, A70, H⟩ := H
 have A7 := QX A70
 clear A70
 by_cases c8 : t330 < 0
 rotate_left
 rw [if_neg c8] at H
 have c8b0 : decide (t330 < 0) = false := decide_eq_false c8
 clear c8
 replace H := Option.bind_eq_some_iff.mp H
 obtain ⟨t331, A110, H⟩ := H
 have A11 := QX A110
 clear A110
 by_cases c12 : t331 < 0
 rotate_left
 rw [if_neg c12] at H
 have c12b0 : decide (t331 < 0) = false := decide_eq_false c12
 clear c12
 replace H := Option.bind_eq_some_iff.mp H
 obtain ⟨t332, A150, H⟩ := H
 have A15 := QX A150
 clear A150
 by_cases c16 : t332 < 0
 rotate_left
 rw [if_neg c16] at H
 have c16b0 : decide (t332 < 0) = false := decide_eq_false c16
 clear c16
 obtain rfl := Option.some.inj H
 rotate_right
 rw [if_pos c16] at H
 have c16b0 : decide (t332 < 0) = true := decide_eq_true c16
 clear c16
 obtain rfl := Option.some.inj H
 rotate_right
 rw [if_pos c12] at H
 have c12b0 : decide (t331 < 0) = true := decide_eq_true c12
 clear c12
 obtain rfl := Option.some.inj H
 rotate_right
 rw [if_pos c8] at H
 have c8b0 : decide (t330 < 0) = true := decide_eq_true c8
 clear c8
 obtain rfl := Option.some.inj H
 rotate_right
 rw [if_pos c4] at H
 have c4b0 : decide (t329 < 0) = true := decide_eq_true c4
 clear c4
 obtain rfl := Option.some.inj H
 all_goals
  go_enter Try.func71, Try.ntmps71
  go_wp2_with (first | ((with_reducible refine gate_dst (N := 2) rfl ?_); refine box_event ?hg (N := 2) ?hd (cs := #[.int .i64 a0_0, .slice A0_1 l0_1.length c0_1, .slice A0_2 l0_2.length c0_2, .int .i64 a0_3, .int .i64 a0_4, .slice A0_5 l0_5.length c0_5, .slice A0_6 l0_6.length c0_6]) (t := 84) ?hr ?_; (case hd => rfl); (case hg => rfl); (case hr => first | (go_simp; done) | (go_simp; rfl)); intro gb328 hg w17 hbox hb; have n0_ := QX (below_step (by repeat (first | (with_reducible first | exact HB.out | apply QF | apply QD | apply QE) | exact HB.out)) hb); have n1_ := QX (hbox); have n2_ := QX ((by rw [hg]; exact (below_size (by repeat (first | (with_reducible first | exact HB.out | apply QF | apply QD | apply QE) | exact HB.out))) : w.heap.size ≤ gb328)); have n3_ := QX ((by rw [hg]; exact (below_size (by repeat (first | (with_reducible first | exact HB.out | apply QF | apply QD | apply QE) | exact HB.out))) : w.heap.size ≤ gb328)); clear HB; have HB := n0_; have BK328 := n1_; have GW328 := n2_; have GE328 := n3_; clear n0_ n1_ n2_ n3_; clear hb hbox hg; have hcz18_0 : w17.cell? ⟨gb328, 0, none⟩ = some (.int .i64 a0_0) := (QB BK328.out 0).trans rfl; have hcz18_1 : w17.cell? ⟨gb328, 1, none⟩ = some (.slice A0_1 l0_1.length c0_1) := (QB BK328.out 1).trans rfl; have hcz18_2 : w17.cell? ⟨gb328, 2, none⟩ = some (.slice A0_2 l0_2.length c0_2) := (QB BK328.out 2).trans rfl; have hcz18_3 : w17.cell? ⟨gb328, 3, none⟩ = some (.int .i64 a0_3) := (QB BK328.out 3).trans rfl; have hcz18_4 : w17.cell? ⟨gb328, 4, none⟩ = some (.int .i64 a0_4) := (QB BK328.out 4).trans rfl; have hcz18_5 : w17.cell? ⟨gb328, 5, none⟩ = some (.slice A0_5 l0_5.length c0_5) := (QB BK328.out 5).trans rfl; have hcz18_6 : w17.cell? ⟨gb328, 6, none⟩ = some (.slice A0_6 l0_6.length c0_6) := (QB BK328.out 6).trans rfl; have hfz18_0 := QC BK328.out 0; have hfz18_1 := QC BK328.out 1; have hfz18_2 := QC BK328.out 2; have hfz18_3 := QC BK328.out 3; have hfz18_4 := QC BK328.out 4; have hfz18_5 := QC BK328.out 5; have hfz18_6 := QC BK328.out 6) | ((with_reducible refine gate_callee (f := 77) rfl ?_); refine goesL_ (some 8) rfl rfl Try.func77 (by kernel_rfl) rfl #[.slice A0_1 l0_1.length c0_1, .int .i64 a1] rfl (by (try simp only [List.map_toArray, List.map_cons, List.map_nil]); first | done | rfl | (simp only [List.length_drop, List.length_take]; rfl)) ?_; (with_reducible refine (laws_heldIntS.calls k _ _ l0_1 a1 t329 _ ?side1 ?side2 A3.out).mono ?_); (case side1 => repeat (first | exact (QR HR0_1.out HB.out) | (with_reducible refine QS ?_ _) | (with_reducible refine QT ?_ _) | (with_reducible refine Kd.C_drew ?_))); (case side2 => exact HC0_1.out); rintro e w' ⟨rfl, ⟨nd, rfl⟩⟩; refine ⟨_, rfl, ?_⟩) | ((with_reducible refine gate_callee (f := 77) rfl ?_); refine goesL_ (some 14) rfl rfl Try.func77 (by kernel_rfl) rfl #[.slice A0_2 l0_2.length c0_2, .int .i64 t329] rfl (by (try simp only [List.map_toArray, List.map_cons, List.map_nil]); first | done | rfl | (simp only [List.length_drop, List.length_take]; rfl)) ?_; (with_reducible refine (laws_heldIntS.calls k _ _ l0_2 t329 t330 _ ?side1 ?side2 A7.out).mono ?_); (case side1 => repeat (first | exact (QR HR0_2.out (by repeat (first | (with_reducible first | exact HB.out | apply QF | apply QD | apply QE | refine QG ?_ GE328.out) | exact HB.out))) | (with_reducible refine QS ?_ _) | (with_reducible refine QT ?_ _) | (with_reducible refine Kd.C_drew ?_))); (case side2 => exact HC0_2.out); rintro e w' ⟨rfl, ⟨nd, rfl⟩⟩; refine ⟨_, rfl, ?_⟩) | ((with_reducible refine gate_callee (f := 77) rfl ?_); refine goesL_ (some 20) rfl rfl Try.func77 (by kernel_rfl) rfl #[.slice A0_5 l0_5.length c0_5, .int .i64 t330] rfl (by (try simp only [List.map_toArray, List.map_cons, List.map_nil]); first | done | rfl | (simp only [List.length_drop, List.length_take]; rfl)) ?_; (with_reducible refine (laws_heldIntS.calls k _ _ l0_5 t330 t331 _ ?side1 ?side2 A11.out).mono ?_); (case side1 => repeat (first | exact (QR HR0_5.out (by repeat (first | (with_reducible first | exact HB.out | apply QF | apply QD | apply QE | refine QG ?_ GE328.out) | exact HB.out))) | (with_reducible refine QS ?_ _) | (with_reducible refine QT ?_ _) | (with_reducible refine Kd.C_drew ?_))); (case side2 => exact HC0_5.out); rintro e w' ⟨rfl, ⟨nd, rfl⟩⟩; refine ⟨_, rfl, ?_⟩) | ((with_reducible refine gate_callee (f := 77) rfl ?_); refine goesL_ (some 26) rfl rfl Try.func77 (by kernel_rfl) rfl #[.slice A0_6 l0_6.length c0_6, .int .i64 t331] rfl (by (try simp only [List.map_toArray, List.map_cons, List.map_nil]); first | done | rfl | (simp only [List.length_drop, List.length_take]; rfl)) ?_; (with_reducible refine (laws_heldIntS.calls k _ _ l0_6 t331 t332 _ ?side1 ?side2 A15.out).mono ?_); (case side1 => repeat (first | exact (QR HR0_6.out (by repeat (first | (with_reducible first | exact HB.out | apply QF | apply QD | apply QE | refine QG ?_ GE328.out) | exact HB.out))) | (with_reducible refine QS ?_ _) | (with_reducible refine QT ?_ _) | (with_reducible refine Kd.C_drew ?_))); (case side2 => exact HC0_6.out); rintro e w' ⟨rfl, ⟨nd, rfl⟩⟩; refine ⟨_, rfl, ?_⟩))
  go_ret
  exact ⟨by first | rfl | (simp [errW_none, errW_some] <;> rfl) | (simp [*, errW_none, errW_some] <;> rfl), by repeat (first | (with_reducible first | exact HB.out | apply QF | apply QD | apply QE | refine QG ?_ GE328.out) | exact HB.out)⟩

end Go.Proofs.Ytkhgeockdjjhmaa.QFnExactSightOf
