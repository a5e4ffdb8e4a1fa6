/- What a call of each Go function that FnExactPlayable reaches comes to, as a Lean function: texts of the kit's print, turned by wip/remake.py. No condition beyond what each names. -/
import Derived.Test.YtkhgeockdjjhmaaQFnExactPlayablex3
namespace Go.Proofs.Ytkhgeockdjjhmaa.QFnExactPlayable
open Go.RowKit Go.Proofs.YtkhgeockdjjhmaaW.PrintWords Go.Proofs.YtkhgeockdjjhmaaW.PrintLast Go.Proofs.YtkhgeockdjjhmaaW.PrintMore
open Go.Proofs.YtkhgeockdjjhmaaW.PrintWords renaming pw_below_drewN → QB, blk_cell → QC, below_drew1 → QD, below_alloc → QE, blk_frozen → QF
open Go.Proofs.YtkhgeockdjjhmaaW.PrintWords.Kd renaming R_alloc → QG, R_drewN → QH, C_alloc → QI, C_drewN → QJ, R_drew → QK, C_below → QL, C_drew → QM
open Go.Proofs.YtkhgeockdjjhmaaW.PrintWords.Aside0 renaming mk → QN
open Option renaming bind_eq_some_iff → QO
attribute [local go_sem] max2_int min2_int max_two min_two max_three min_three max_four min_four   -- for this text's walks alone
set_option linter.unusedVariables false
set_option linter.unusedSimpArgs false

/-! ### spec_Playable: function 72 -/
mutual
def spec_Playable.j0 : Nat → List Int → Bool → Int → Int → Bool → Bool → List Int → List Int → Int → Int → List (List Int) → List Int → List Int → Int → Int → Int → Option (List Int)
 | 0, _, _, _, _, _, _, _, _, _, _, _, _, _, _, _, _ => none
 | k + 1, x3, x13, x293000, x293001, x293002, x293003, x293004, x293005, x293006, x293007, x293008, x293009, x293010, x293011, x293012, x293013 => if x13 = true then (some x3) else (if 0 ≤ x293011 then (if x293011 < (x293008.length : Int) then ((spec_Sorted.f (rd_L1 x293008 x293011)).bind fun t299 => (spec_Playable.l0 k x3 t299 0 x293000 x293001 x293002 x293003 x293004 x293005 x293006 x293007 x293008 x293009 x293010 x293011 x293012 x293013)) else (none)) else (none))
def spec_Playable.l0 : Nat → List Int → List Int → Int → Int → Int → Bool → Bool → List Int → List Int → Int → Int → List (List Int) → List Int → List Int → Int → Int → Int → Option (List Int)
 | 0, _, _, _, _, _, _, _, _, _, _, _, _, _, _, _, _, _ => none
 | k + 1, x3, x4, x5, x293000, x293001, x293002, x293003, x293004, x293005, x293006, x293007, x293008, x293009, x293010, x293011, x293012, x293013 => if x5 < (x4.length : Int) then (if 0 ≤ (wrap64 ((x293010.length : Int) - 1)) then (if (wrap64 ((x293010.length : Int) - 1)) < (x293010.length : Int) then (if 0 ≤ x5 then ((spec_FitsOn.f k x293000 x293001 x293002 x293003 x293004 x293005 x293006 x293007 (rd x293010 (wrap64 ((x293010.length : Int) - 1))) (rd x4 x5)).bind fun t304 => (if t304 = true then (if x3.length < 17592186044416 then (spec_Playable.l0 k (x3 ++ [rd x4 x5]) x4 (wrap64 (x5 + 1)) x293000 x293001 x293002 x293003 x293004 x293005 x293006 x293007 x293008 x293009 x293010 x293011 x293012 x293013) else (none)) else (spec_Playable.l0 k x3 x4 (wrap64 (x5 + 1)) x293000 x293001 x293002 x293003 x293004 x293005 x293006 x293007 x293008 x293009 x293010 x293011 x293012 x293013))) else (none)) else (none)) else (none)) else (some x3)
end
def spec_Playable.f (k : Nat) (a0_0 : Int) (a0_1 : Int) (a0_2 : Bool) (a0_3 : Bool) (l0_4 : List Int) (l0_5 : List Int) (a0_6 : Int) (a0_7 : Int) (l0_8 : List (List Int)) (l0_9 : List Int) (l0_10 : List Int) (a0_11 : Int) (a0_12 : Int) (a0_13 : Int) : Option (List Int) := (some (([] : List Int) : List Int)).bind fun y293 => ((spec_IsGame.f k a0_0 a0_1 a0_2 a0_3 l0_4 l0_5 a0_6 a0_7 l0_8 l0_9 l0_10 a0_11 a0_12 a0_13).bind fun t296 => (if t296 = true then ((spec_l24Over.f k a0_0 a0_1 a0_2 a0_3 l0_4 l0_5 a0_6 a0_7 l0_8 l0_9 l0_10 a0_11 a0_12 a0_13).bind fun t297 => (spec_Playable.j0 k y293 t297 a0_0 a0_1 a0_2 a0_3 l0_4 l0_5 a0_6 a0_7 l0_8 l0_9 l0_10 a0_11 a0_12 a0_13)) else (spec_Playable.j0 k y293 true a0_0 a0_1 a0_2 a0_3 l0_4 l0_5 a0_6 a0_7 l0_8 l0_9 l0_10 a0_11 a0_12 a0_13)))
theorem spec_Playable.mono_l : ∀ k, (∀ y0 y1 y2 y3 y4 y5 y6 y7 y8 y9 y10 y11 y12 y13 y14 y15, LeO (spec_Playable.j0 k y0 y1 y2 y3 y4 y5 y6 y7 y8 y9 y10 y11 y12 y13 y14 y15) (spec_Playable.j0 (k + 1) y0 y1 y2 y3 y4 y5 y6 y7 y8 y9 y10 y11 y12 y13 y14 y15)) ∧ (∀ y0 y1 y2 y3 y4 y5 y6 y7 y8 y9 y10 y11 y12 y13 y14 y15 y16, LeO (spec_Playable.l0 k y0 y1 y2 y3 y4 y5 y6 y7 y8 y9 y10 y11 y12 y13 y14 y15 y16) (spec_Playable.l0 (k + 1) y0 y1 y2 y3 y4 y5 y6 y7 y8 y9 y10 y11 y12 y13 y14 y15 y16))
 | 0 => ⟨fun _ _ _ _ _ _ _ _ _ _ _ _ _ _ _ _ r h => by simp [spec_Playable.j0] at h, fun _ _ _ _ _ _ _ _ _ _ _ _ _ _ _ _ _ r h => by simp [spec_Playable.l0] at h⟩
 | k + 1 => by
  obtain ⟨ih0, ih1⟩ := spec_Playable.mono_l k
  refine ⟨?_, ?_⟩
  ·intro y0 y1 y2 y3 y4 y5 y6 y7 y8 y9 y10 y11 y12 y13 y14 y15
   unfold spec_Playable.j0
   repeat' first
   | (with_reducible exact ih0 _ _ _ _ _ _ _ _ _ _ _ _ _ _ _ _)
   | (with_reducible exact ih1 _ _ _ _ _ _ _ _ _ _ _ _ _ _ _ _ _)
   | (with_reducible exact spec_FitsOn.mono _ _ _ _ _ _ _ _ _ _ _)
   | (with_reducible exact spec_IsGame.mono _ _ _ _ _ _ _ _ _ _ _ _ _ _ _)
   | (with_reducible exact spec_l24Over.mono _ _ _ _ _ _ _ _ _ _ _ _ _ _ _)
   | (with_reducible exact LeO.refl _)
   | (with_reducible exact LeO.none _)
   | (with_reducible refine LeO.ite ?_ ?_)
   | (with_reducible refine LeO.bind ?_ (fun _ => ?_))
   | exact ih0 _ _ _ _ _ _ _ _ _ _ _ _ _ _ _ _
   | exact ih1 _ _ _ _ _ _ _ _ _ _ _ _ _ _ _ _ _
   | exact spec_FitsOn.mono _ _ _ _ _ _ _ _ _ _ _
   | exact spec_IsGame.mono _ _ _ _ _ _ _ _ _ _ _ _ _ _ _
   | exact spec_l24Over.mono _ _ _ _ _ _ _ _ _ _ _ _ _ _ _
   | exact LeO.none _
   | refine LeO.ite ?_ ?_
   | refine LeO.bind ?_ (fun _ => ?_)
  ·intro y0 y1 y2 y3 y4 y5 y6 y7 y8 y9 y10 y11 y12 y13 y14 y15 y16
   unfold spec_Playable.l0
   repeat' first
   | (with_reducible exact ih0 _ _ _ _ _ _ _ _ _ _ _ _ _ _ _ _)
   | (with_reducible exact ih1 _ _ _ _ _ _ _ _ _ _ _ _ _ _ _ _ _)
   | (with_reducible exact spec_FitsOn.mono _ _ _ _ _ _ _ _ _ _ _)
   | (with_reducible exact spec_IsGame.mono _ _ _ _ _ _ _ _ _ _ _ _ _ _ _)
   | (with_reducible exact spec_l24Over.mono _ _ _ _ _ _ _ _ _ _ _ _ _ _ _)
   | (with_reducible exact LeO.refl _)
   | (with_reducible exact LeO.none _)
   | (with_reducible refine LeO.ite ?_ ?_)
   | (with_reducible refine LeO.bind ?_ (fun _ => ?_))
   | exact ih0 _ _ _ _ _ _ _ _ _ _ _ _ _ _ _ _
   | exact ih1 _ _ _ _ _ _ _ _ _ _ _ _ _ _ _ _ _
   | exact spec_FitsOn.mono _ _ _ _ _ _ _ _ _ _ _
   | exact spec_IsGame.mono _ _ _ _ _ _ _ _ _ _ _ _ _ _ _
   | exact spec_l24Over.mono _ _ _ _ _ _ _ _ _ _ _ _ _ _ _
   | exact LeO.none _
   | refine LeO.ite ?_ ?_
   | refine LeO.bind ?_ (fun _ => ?_)
theorem spec_Playable.mono : ∀ a0 a1 a2 a3 a4 a5 a6 a7 a8 a9 a10 a11 a12 a13 k, LeO (spec_Playable.f k a0 a1 a2 a3 a4 a5 a6 a7 a8 a9 a10 a11 a12 a13) (spec_Playable.f (k + 1) a0 a1 a2 a3 a4 a5 a6 a7 a8 a9 a10 a11 a12 a13) := by
 intro a0 a1 a2 a3 a4 a5 a6 a7 a8 a9 a10 a11 a12 a13 k
 obtain ⟨ih0, ih1⟩ := spec_Playable.mono_l k
 unfold spec_Playable.f
 repeat' first
   | (with_reducible exact ih0 _ _ _ _ _ _ _ _ _ _ _ _ _ _ _ _)
   | (with_reducible exact ih1 _ _ _ _ _ _ _ _ _ _ _ _ _ _ _ _ _)
   | (with_reducible exact spec_FitsOn.mono _ _ _ _ _ _ _ _ _ _ _)
   | (with_reducible exact spec_IsGame.mono _ _ _ _ _ _ _ _ _ _ _ _ _ _ _)
   | (with_reducible exact spec_l24Over.mono _ _ _ _ _ _ _ _ _ _ _ _ _ _ _)
   | (with_reducible exact LeO.refl _)
   | (with_reducible exact LeO.none _)
   | (with_reducible refine LeO.ite ?_ ?_)
   | (with_reducible refine LeO.bind ?_ (fun _ => ?_))
   | exact ih0 _ _ _ _ _ _ _ _ _ _ _ _ _ _ _ _
   | exact ih1 _ _ _ _ _ _ _ _ _ _ _ _ _ _ _ _ _
   | exact spec_FitsOn.mono _ _ _ _ _ _ _ _ _ _ _
   | exact spec_IsGame.mono _ _ _ _ _ _ _ _ _ _ _ _ _ _ _
   | exact spec_l24Over.mono _ _ _ _ _ _ _ _ _ _ _ _ _ _ _
   | exact LeO.none _
   | refine LeO.ite ?_ ?_
   | refine LeO.bind ?_ (fun _ => ?_)
def spec_Playable.T8 : Bool × List (List Nat × List Nat) := (true, [([], []), ([0], [0]), ([], []), ([2], [2]), ([], []), ([4], [4]), ([5], [5]), ([6], [6]), ([3, 7], [3, 7]), ([8], [8]), ([], []), ([], []), ([10, 11], [10, 11]), ([12], [12]), ([1, 9, 13], [1, 9, 13])])
def spec_Playable.B8 : List Nat := [0, 1, 0, 4, 0, 16, 48, 112, 252, 508, 0, 0, 3072, 7168, 16383]
theorem spec_Playable.tab8 : rtab .any (opsOf Try.f72 8) = spec_Playable.T8 := by kernel_rfl
theorem spec_Playable.bits8 : waitsOk spec_Playable.T8.2 spec_Playable.B8 = true := by kernel_rfl
set_option maxHeartbeats 8000000 in
set_option maxRecDepth 100000 in
theorem spec_Playable.calls (k : Nat) (a0_0 : Int) (a0_1 : Int) (a0_2 : Bool) (a0_3 : Bool) (A0_4 : Option Addr) (c0_4 : Nat) (l0_4 : List Int) (A0_5 : Option Addr) (c0_5 : Nat) (l0_5 : List Int) (a0_6 : Int) (a0_7 : Int) (A0_8 : Option Addr) (c0_8 : Nat) (l0_8 : List (List Int)) (A0_9 : Option Addr) (c0_9 : Nat) (l0_9 : List Int) (A0_10 : Option Addr) (c0_10 : Nat) (l0_10 : List Int) (a0_11 : Int) (a0_12 : Int) (a0_13 : Int) (r : List Int) (w : World) (hr0_4 : Kd.C (Kd.int .i64) w A0_4 l0_4.length l0_4) (hc0_4 : l0_4.length ≤ c0_4) (hr0_5 : Kd.C (Kd.int .i64) w A0_5 l0_5.length l0_5) (hc0_5 : l0_5.length ≤ c0_5) (hr0_8 : Kd.C (Kd.slice 3 (Kd.int .i64)) w A0_8 l0_8.length l0_8) (hc0_8 : l0_8.length ≤ c0_8) (hr0_9 : Kd.C (Kd.int .i64) w A0_9 l0_9.length l0_9) (hc0_9 : l0_9.length ≤ c0_9) (hr0_10 : Kd.C (Kd.int .i64) w A0_10 l0_10.length l0_10) (hc0_10 : l0_10.length ≤ c0_10) (h : spec_Playable.f k a0_0 a0_1 a0_2 a0_3 l0_4 l0_5 a0_6 a0_7 l0_8 l0_9 l0_10 a0_11 a0_12 a0_13 = some r) :
  Calls Try.prog 72 #[.agg #[.int .i64 a0_0, .int .i64 a0_1, .bool a0_2, .bool a0_3, .slice A0_4 l0_4.length c0_4, .slice A0_5 l0_5.length c0_5, .int .i64 a0_6, .int .i64 a0_7, .slice A0_8 l0_8.length c0_8, .slice A0_9 l0_9.length c0_9, .slice A0_10 l0_10.length c0_10, .int .i64 a0_11, .int .i64 a0_12, .int .i64 a0_13]] w fun e w' => ∃ v0_ : Value, e = .returned (v0_) ∧ Kd.R (Kd.int .i64) 3 w' w.heap.size (fun _ => True) v0_ r ∧ Below w.heap.size w w' := by
 have hu59 := Try.underlying59
 have hu41 := Try.underlying41
 have HR0_4 := QN hr0_4
 have HC0_4 := QN hc0_4
 clear hr0_4 hc0_4
 have HR0_5 := QN hr0_5
 have HC0_5 := QN hc0_5
 clear hr0_5 hc0_5
 have HR0_8 := QN hr0_8
 have HC0_8 := QN hc0_8
 clear hr0_8 hc0_8
 have HR0_9 := QN hr0_9
 have HC0_9 := QN hc0_9
 clear hr0_9 hc0_9
 have HR0_10 := QN hr0_10
 have HC0_10 := QN hc0_10
 clear hr0_10 hc0_10
 have HB := QN (Below.refl w.heap.size w)
 have H : ((some (([] : List Int) : List Int)).bind fun y293 => ((spec_IsGame.f k a0_0 a0_1 a0_2 a0_3 l0_4 l0_5 a0_6 a0_7 l0_8 l0_9 l0_10 a0_11 a0_12 a0_13).bind fun t296 => (if t296 = true then ((spec_l24Over.f k a0_0 a0_1 a0_2 a0_3 l0_4 l0_5 a0_6 a0_7 l0_8 l0_9 l0_10 a0_11 a0_12 a0_13).bind fun t297 => (spec_Playable.j0 k y293 t297 a0_0 a0_1 a0_2 a0_3 l0_4 l0_5 a0_6 a0_7 l0_8 l0_9 l0_10 a0_11 a0_12 a0_13)) else (spec_Playable.j0 k y293 true a0_0 a0_1 a0_2 a0_3 l0_4 l0_5 a0_6 a0_7 l0_8 l0_9 l0_10 a0_11 a0_12 a0_13)))) = some r := h
 clear h
 obtain ⟨y293, hy293⟩ : ∃ y_ : List Int, y_ = (([] : List Int)) := ⟨_, rfl⟩
 replace H : ((spec_IsGame.f k a0_0 a0_1 a0_2 a0_3 l0_4 l0_5 a0_6 a0_7 l0_8 l0_9 l0_10 a0_11 a0_12 a0_13).bind fun t296 => (if t296 = true then ((spec_l24Over.f k a0_0 a0_1 a0_2 a0_3 l0_4 l0_5 a0_6 a0_7 l0_8 l0_9 l0_10 a0_11 a0_12 a0_13).bind fun t297 => (spec_Playable.j0 k y293 t297 a0_0 a0_1 a0_2 a0_3 l0_4 l0_5 a0_6 a0_7 l0_8 l0_9 l0_10 a0_11 a0_12 a0_13)) else (spec_Playable.j0 k y293 true a0_0 a0_1 a0_2 a0_3 l0_4 l0_5 a0_6 a0_7 l0_8 l0_9 l0_10 a0_11 a0_12 a0_13))) = some r := by first | (rw [hy293]; with_reducible exact H) | (have H2_ := (Option.bind_some _ _).symm.trans H; rw [hy293]; with_reducible exact H2_) | (have H2_ := (Option.bind_some _ _).symm.trans H; with_reducible exact H2_) | with_reducible exact H | (rw [hy293]; exact H) | exact H
 have Ny293 := QN hy293
 clear hy293
 have HC2 := QN H
 clear H
 go_enter Try.func72, Try.ntmps72
 go_upto_region 2 with (first | ((with_reducible refine gate_dst (N := 1) rfl ?_); refine box_event ?hg (N := 1) ?hd (cs := #[.int .i64 a0_0, .int .i64 a0_1, .bool a0_2, .bool a0_3, .slice A0_4 l0_4.length c0_4, .slice A0_5 l0_5.length c0_5, .int .i64 a0_6, .int .i64 a0_7, .slice A0_8 l0_8.length c0_8, .slice A0_9 l0_9.length c0_9, .slice A0_10 l0_10.length c0_10, .int .i64 a0_11, .int .i64 a0_12, .int .i64 a0_13]) (t := 59) ?hr ?_; (case hd => rfl); (case hg => rfl); (case hr => first | (go_simp; done) | (go_simp; rfl)); intro gb292 hg w3 hbox hb; have n0_ := QN (below_step (by repeat (first | (with_reducible first | exact HB.out | apply QE | apply QB | apply QD) | exact HB.out)) hb); have n1_ := QN (hbox); have n2_ := QN ((by rw [hg]; exact (below_size (by repeat (first | (with_reducible first | exact HB.out | apply QE | apply QB | apply QD) | exact HB.out))) : w.heap.size ≤ gb292)); have n3_ := QN ((by rw [hg]; exact (below_size (by repeat (first | (with_reducible first | exact HB.out | apply QE | apply QB | apply QD) | exact HB.out))) : w.heap.size ≤ gb292)); clear HB; have HB := n0_; have BK292 := n1_; have GW292 := n2_; have GE292 := n3_; clear n0_ n1_ n2_ n3_; clear hb hbox hg) | ((with_reducible refine gate_dst (N := 6) rfl ?_); refine Kd.R_lit (Kd.int .i64) _ 3 ?hg (N := 6) ?hd (xs := ([] : List Int)) (inner := []) (ok := fun _ => True) (okp := fun _ => True) ?hr ?hp (fun _ hk => hk) trivial (Below.refl _ _) (Nat.le_refl _) (by simp) ?_; (case hd => rfl); (case hg => rfl); (case hr => first | (go_simp; done) | (go_simp; rfl)); (case hp => exact (Reps.none _ _)); intro v294 w4 ho5 hb hg_ hnew_; clear hg_ hnew_; (first | rw [← Ny293.out] at ho5 | (simp only [Int.reduceToNat] at ho5; rw [← Ny293.out] at ho5)); have n0_ := QN (Kd.R_lower ho5 (below_size (by repeat (first | (with_reducible first | exact HB.out | apply QE | apply QB | apply QD | refine below_set ?_ GE292.out) | exact HB.out)))); have n1_ := QN (blk_below (g := gb292) (o := .cells #[.int .i64 a0_0, .int .i64 a0_1, .bool a0_2, .bool a0_3, .slice A0_4 l0_4.length c0_4, .slice A0_5 l0_5.length c0_5, .int .i64 a0_6, .int .i64 a0_7, .slice A0_8 l0_8.length c0_8, .slice A0_9 l0_9.length c0_9, .slice A0_10 l0_10.length c0_10, .int .i64 a0_11, .int .i64 a0_12, .int .i64 a0_13] 59 (0, 0)) (by (with_reducible repeat (first | refine blk_drewN ?_ _ | refine blk_drew ?_ | refine blk_alloc ?_ _)); exact BK292.out) hb); have n2_ := QN (below_step (by repeat (first | (with_reducible first | exact HB.out | apply QE | apply QB | apply QD | refine below_set ?_ GE292.out) | exact HB.out)) hb); clear BK292; clear HB; have HO295 := n0_; have BK292 := n1_; have HB := n2_; clear n0_ n1_ n2_; clear hb ho5))
 (try simp only [Act.put, List.setIfInBounds_toArray, List.set_cons_zero, List.set_cons_succ])
 go_cut [13] (fun v13 wc => ∃ (kq : Nat) (x13_1 : Bool), v13 = .bool x13_1 ∧ Aside0 (spec_Playable.j0 kq y293 x13_1 a0_0 a0_1 a0_2 a0_3 l0_4 l0_5 a0_6 a0_7 l0_8 l0_9 l0_10 a0_11 a0_12 a0_13 = some r) ∧ Aside0 (kq ≤ k) ∧ Aside0 (Kd.R (Kd.int .i64) 3 wc w.heap.size (fun _ => True) v294 y293) ∧ Aside0 (wc.heap[gb292]? = some (.cells #[.int .i64 a0_0, .int .i64 a0_1, .bool a0_2, .bool a0_3, (.slice A0_4 l0_4.length c0_4), (.slice A0_5 l0_5.length c0_5), .int .i64 a0_6, .int .i64 a0_7, (.slice A0_8 l0_8.length c0_8), (.slice A0_9 l0_9.length c0_9), (.slice A0_10 l0_10.length c0_10), .int .i64 a0_11, .int .i64 a0_12, .int .i64 a0_13] 59 (0, 0))) ∧ Aside0 (Below w.heap.size w wc))
 case first =>
  have H := HC2.out
  clear HC2
  replace H := QO.mp H
  obtain ⟨t296, A60, H⟩ := H
  have A6 := QN A60
  clear A60
  by_cases c7 : t296 = true
  rotate_left
  replace c7 := Bool.eq_false_iff.mpr c7
  subst c7
  rw [if_neg (show ¬ (false = true) by decide)] at H
  have H' := QN H
  clear H
  rotate_right
  subst c7
  rw [if_pos rfl] at H
  replace H := QO.mp H
  obtain ⟨t297, A80, H⟩ := H
  have A8 := QN A80
  clear A80
  have H' := QN H
  clear H
  all_goals
   have hcz9_0 : w4.cell? ⟨gb292, 0, none⟩ = some (.int .i64 a0_0) := (QC BK292.out 0).trans rfl
   have hcz9_1 : w4.cell? ⟨gb292, 1, none⟩ = some (.int .i64 a0_1) := (QC BK292.out 1).trans rfl
   have hcz9_2 : w4.cell? ⟨gb292, 2, none⟩ = some (.bool a0_2) := (QC BK292.out 2).trans rfl
   have hcz9_3 : w4.cell? ⟨gb292, 3, none⟩ = some (.bool a0_3) := (QC BK292.out 3).trans rfl
   have hcz9_4 : w4.cell? ⟨gb292, 4, none⟩ = some (.slice A0_4 l0_4.length c0_4) := (QC BK292.out 4).trans rfl
   have hcz9_5 : w4.cell? ⟨gb292, 5, none⟩ = some (.slice A0_5 l0_5.length c0_5) := (QC BK292.out 5).trans rfl
   have hcz9_6 : w4.cell? ⟨gb292, 6, none⟩ = some (.int .i64 a0_6) := (QC BK292.out 6).trans rfl
   have hcz9_7 : w4.cell? ⟨gb292, 7, none⟩ = some (.int .i64 a0_7) := (QC BK292.out 7).trans rfl
   have hcz9_8 : w4.cell? ⟨gb292, 8, none⟩ = some (.slice A0_8 l0_8.length c0_8) := (QC BK292.out 8).trans rfl
   have hcz9_9 : w4.cell? ⟨gb292, 9, none⟩ = some (.slice A0_9 l0_9.length c0_9) := (QC BK292.out 9).trans rfl
   have hcz9_10 : w4.cell? ⟨gb292, 10, none⟩ = some (.slice A0_10 l0_10.length c0_10) := (QC BK292.out 10).trans rfl
   have hcz9_11 : w4.cell? ⟨gb292, 11, none⟩ = some (.int .i64 a0_11) := (QC BK292.out 11).trans rfl
   have hcz9_12 : w4.cell? ⟨gb292, 12, none⟩ = some (.int .i64 a0_12) := (QC BK292.out 12).trans rfl
   have hcz9_13 : w4.cell? ⟨gb292, 13, none⟩ = some (.int .i64 a0_13) := (QC BK292.out 13).trans rfl
   have hfz9_0 := QF BK292.out 0
   have hfz9_1 := QF BK292.out 1
   have hfz9_2 := QF BK292.out 2
   have hfz9_3 := QF BK292.out 3
   have hfz9_4 := QF BK292.out 4
   have hfz9_5 := QF BK292.out 5
   have hfz9_6 := QF BK292.out 6
   have hfz9_7 := QF BK292.out 7
   have hfz9_8 := QF BK292.out 8
   have hfz9_9 := QF BK292.out 9
   have hfz9_10 := QF BK292.out 10
   have hfz9_11 := QF BK292.out 11
   have hfz9_12 := QF BK292.out 12
   have hfz9_13 := QF BK292.out 13
   go_wp2_with (first | ((with_reducible refine gate_callee (f := 44) rfl ?_); refine goesL_ (some 8) rfl rfl Try.func44 (by kernel_rfl) rfl #[.agg #[.int .i64 a0_0, .int .i64 a0_1, .bool a0_2, .bool a0_3, .slice A0_4 l0_4.length c0_4, .slice A0_5 l0_5.length c0_5, .int .i64 a0_6, .int .i64 a0_7, .slice A0_8 l0_8.length c0_8, .slice A0_9 l0_9.length c0_9, .slice A0_10 l0_10.length c0_10, .int .i64 a0_11, .int .i64 a0_12, .int .i64 a0_13]] rfl (by (try simp only [List.map_toArray, List.map_cons, List.map_nil]); first | done | rfl | (simp only [List.length_drop, List.length_take]; rfl)) ?_; (with_reducible refine (spec_IsGame.calls k a0_0 a0_1 a0_2 a0_3 _ _ l0_4 _ _ l0_5 a0_6 a0_7 _ _ l0_8 _ _ l0_9 _ _ l0_10 a0_11 a0_12 a0_13 _ _ ?side1 ?side2 ?side3 ?side4 ?side5 ?side6 ?side7 ?side8 ?side9 ?side10 A6.out).mono ?_); (case side1 => repeat (first | exact (QL HR0_4.out HB.out) | (with_reducible refine QI ?_ _) | (with_reducible refine QJ ?_ _) | (with_reducible refine QM ?_))); (case side2 => exact HC0_4.out); (case side3 => repeat (first | exact (QL HR0_5.out HB.out) | (with_reducible refine QI ?_ _) | (with_reducible refine QJ ?_ _) | (with_reducible refine QM ?_))); (case side4 => exact HC0_5.out); (case side5 => repeat (first | exact (QL HR0_8.out HB.out) | (with_reducible refine QI ?_ _) | (with_reducible refine QJ ?_ _) | (with_reducible refine QM ?_))); (case side6 => exact HC0_8.out); (case side7 => repeat (first | exact (QL HR0_9.out HB.out) | (with_reducible refine QI ?_ _) | (with_reducible refine QJ ?_ _) | (with_reducible refine QM ?_))); (case side8 => exact HC0_9.out); (case side9 => repeat (first | exact (QL HR0_10.out HB.out) | (with_reducible refine QI ?_ _) | (with_reducible refine QJ ?_ _) | (with_reducible refine QM ?_))); (case side10 => exact HC0_10.out); rintro e w10 ⟨rfl, hb⟩; refine ⟨_, rfl, ?_⟩; have n0_ := QN (Kd.R_below (by (with_reducible repeat (first | apply QG | apply QH | apply QK)); exact HO295.out) hb); have n1_ := QN (blk_below (g := gb292) (o := .cells #[.int .i64 a0_0, .int .i64 a0_1, .bool a0_2, .bool a0_3, .slice A0_4 l0_4.length c0_4, .slice A0_5 l0_5.length c0_5, .int .i64 a0_6, .int .i64 a0_7, .slice A0_8 l0_8.length c0_8, .slice A0_9 l0_9.length c0_9, .slice A0_10 l0_10.length c0_10, .int .i64 a0_11, .int .i64 a0_12, .int .i64 a0_13] 59 (0, 0)) (by (with_reducible repeat (first | refine blk_drewN ?_ _ | refine blk_drew ?_ | refine blk_alloc ?_ _)); exact BK292.out) hb); have n2_ := QN (below_step (by repeat (first | (with_reducible first | exact HB.out | apply QE | apply QB | apply QD | refine below_set ?_ GE292.out) | exact HB.out)) hb); clear HO295; clear BK292; clear HB; have HO295 := n0_; have BK292 := n1_; have HB := n2_; clear n0_ n1_ n2_; (try clear hb); (try clear hb2); (try clear hk); (try clear hi); have hcz11_0 : w10.cell? ⟨gb292, 0, none⟩ = some (.int .i64 a0_0) := (QC BK292.out 0).trans rfl; have hcz11_1 : w10.cell? ⟨gb292, 1, none⟩ = some (.int .i64 a0_1) := (QC BK292.out 1).trans rfl; have hcz11_2 : w10.cell? ⟨gb292, 2, none⟩ = some (.bool a0_2) := (QC BK292.out 2).trans rfl; have hcz11_3 : w10.cell? ⟨gb292, 3, none⟩ = some (.bool a0_3) := (QC BK292.out 3).trans rfl; have hcz11_4 : w10.cell? ⟨gb292, 4, none⟩ = some (.slice A0_4 l0_4.length c0_4) := (QC BK292.out 4).trans rfl; have hcz11_5 : w10.cell? ⟨gb292, 5, none⟩ = some (.slice A0_5 l0_5.length c0_5) := (QC BK292.out 5).trans rfl; have hcz11_6 : w10.cell? ⟨gb292, 6, none⟩ = some (.int .i64 a0_6) := (QC BK292.out 6).trans rfl; have hcz11_7 : w10.cell? ⟨gb292, 7, none⟩ = some (.int .i64 a0_7) := (QC BK292.out 7).trans rfl; have hcz11_8 : w10.cell? ⟨gb292, 8, none⟩ = some (.slice A0_8 l0_8.length c0_8) := (QC BK292.out 8).trans rfl; have hcz11_9 : w10.cell? ⟨gb292, 9, none⟩ = some (.slice A0_9 l0_9.length c0_9) := (QC BK292.out 9).trans rfl; have hcz11_10 : w10.cell? ⟨gb292, 10, none⟩ = some (.slice A0_10 l0_10.length c0_10) := (QC BK292.out 10).trans rfl; have hcz11_11 : w10.cell? ⟨gb292, 11, none⟩ = some (.int .i64 a0_11) := (QC BK292.out 11).trans rfl; have hcz11_12 : w10.cell? ⟨gb292, 12, none⟩ = some (.int .i64 a0_12) := (QC BK292.out 12).trans rfl; have hcz11_13 : w10.cell? ⟨gb292, 13, none⟩ = some (.int .i64 a0_13) := (QC BK292.out 13).trans rfl; have hfz11_0 := QF BK292.out 0; have hfz11_1 := QF BK292.out 1; have hfz11_2 := QF BK292.out 2; have hfz11_3 := QF BK292.out 3; have hfz11_4 := QF BK292.out 4; have hfz11_5 := QF BK292.out 5; have hfz11_6 := QF BK292.out 6; have hfz11_7 := QF BK292.out 7; have hfz11_8 := QF BK292.out 8; have hfz11_9 := QF BK292.out 9; have hfz11_10 := QF BK292.out 10; have hfz11_11 := QF BK292.out 11; have hfz11_12 := QF BK292.out 12; have hfz11_13 := QF BK292.out 13) | (go_at_call 119; (with_reducible refine (spec_l24Over.calls k a0_0 a0_1 a0_2 a0_3 _ _ l0_4 _ _ l0_5 a0_6 a0_7 _ _ l0_8 _ _ l0_9 _ _ l0_10 a0_11 a0_12 a0_13 t297 _ ?side1 ?side2 ?side3 ?side4 ?side5 ?side6 ?side7 ?side8 ?side9 ?side10 A8.out).mono ?_); (case side1 => repeat (first | exact (QL HR0_4.out HB.out) | (with_reducible refine QI ?_ _) | (with_reducible refine QJ ?_ _) | (with_reducible refine QM ?_))); (case side2 => exact HC0_4.out); (case side3 => repeat (first | exact (QL HR0_5.out HB.out) | (with_reducible refine QI ?_ _) | (with_reducible refine QJ ?_ _) | (with_reducible refine QM ?_))); (case side4 => exact HC0_5.out); (case side5 => repeat (first | exact (QL HR0_8.out HB.out) | (with_reducible refine QI ?_ _) | (with_reducible refine QJ ?_ _) | (with_reducible refine QM ?_))); (case side6 => exact HC0_8.out); (case side7 => repeat (first | exact (QL HR0_9.out HB.out) | (with_reducible refine QI ?_ _) | (with_reducible refine QJ ?_ _) | (with_reducible refine QM ?_))); (case side8 => exact HC0_9.out); (case side9 => repeat (first | exact (QL HR0_10.out HB.out) | (with_reducible refine QI ?_ _) | (with_reducible refine QJ ?_ _) | (with_reducible refine QM ?_))); (case side10 => exact HC0_10.out); rintro e w12 ⟨rfl, hb⟩; have n0_ := QN (Kd.R_below (by (with_reducible repeat (first | apply QG | apply QH | apply QK)); exact HO295.out) hb); have n1_ := QN (blk_below (g := gb292) (o := .cells #[.int .i64 a0_0, .int .i64 a0_1, .bool a0_2, .bool a0_3, .slice A0_4 l0_4.length c0_4, .slice A0_5 l0_5.length c0_5, .int .i64 a0_6, .int .i64 a0_7, .slice A0_8 l0_8.length c0_8, .slice A0_9 l0_9.length c0_9, .slice A0_10 l0_10.length c0_10, .int .i64 a0_11, .int .i64 a0_12, .int .i64 a0_13] 59 (0, 0)) (by (with_reducible repeat (first | refine blk_drewN ?_ _ | refine blk_drew ?_ | refine blk_alloc ?_ _)); exact BK292.out) hb); have n2_ := QN (below_step (by repeat (first | (with_reducible first | exact HB.out | apply QE | apply QB | apply QD | refine below_set ?_ GE292.out) | exact HB.out)) hb); clear HO295; clear BK292; clear HB; have HO295 := n0_; have BK292 := n1_; have HB := n2_; clear n0_ n1_ n2_; (try clear hb); (try clear hb2); (try clear hk); (try clear hi)))
   go_meet
   case rel => exact ⟨_, _, (by first | rfl | (simp; done) | (simp [*]; done)), H', ⟨by first | omega | exact Nat.le_refl _⟩, ⟨by (with_reducible repeat (first | apply QG | apply QH | apply QK)); exact HO295.out⟩, ⟨by (with_reducible repeat (first | refine blk_drewN ?_ _ | refine blk_drew ?_ | refine blk_alloc ?_ _)); exact BK292.out⟩, ⟨by repeat (first | (with_reducible first | exact HB.out | apply QE | apply QB | apply QD | refine below_set ?_ GE292.out) | exact HB.out)⟩⟩
 case rest =>
  clear HC2
  try clear p2
  try clear c4
  try clear c7
  try clear hcz11_0
  try clear hcz11_1
  try clear hcz11_10
  try clear hcz11_11
  try clear hcz11_12
  try clear hcz11_13
  try clear hcz11_2
  try clear hcz11_3
  try clear hcz11_4
  try clear hcz11_5
  try clear hcz11_6
  try clear hcz11_7
  try clear hcz11_8
  try clear hcz11_9
  try clear hcz13_0
  try clear hcz13_1
  try clear hcz13_10
  try clear hcz13_11
  try clear hcz13_12
  try clear hcz13_13
  try clear hcz13_2
  try clear hcz13_3
  try clear hcz13_4
  try clear hcz13_5
  try clear hcz13_6
  try clear hcz13_7
  try clear hcz13_8
  try clear hcz13_9
  try clear hcz9_0
  try clear hcz9_1
  try clear hcz9_10
  try clear hcz9_11
  try clear hcz9_12
  try clear hcz9_13
  try clear hcz9_2
  try clear hcz9_3
  try clear hcz9_4
  try clear hcz9_5
  try clear hcz9_6
  try clear hcz9_7
  try clear hcz9_8
  try clear hcz9_9
  try clear hfz11_0
  try clear hfz11_1
  try clear hfz11_10
  try clear hfz11_11
  try clear hfz11_12
  try clear hfz11_13
  try clear hfz11_2
  try clear hfz11_3
  try clear hfz11_4
  try clear hfz11_5
  try clear hfz11_6
  try clear hfz11_7
  try clear hfz11_8
  try clear hfz11_9
  try clear hfz13_0
  try clear hfz13_1
  try clear hfz13_10
  try clear hfz13_11
  try clear hfz13_12
  try clear hfz13_13
  try clear hfz13_2
  try clear hfz13_3
  try clear hfz13_4
  try clear hfz13_5
  try clear hfz13_6
  try clear hfz13_7
  try clear hfz13_8
  try clear hfz13_9
  try clear hfz9_0
  try clear hfz9_1
  try clear hfz9_10
  try clear hfz9_11
  try clear hfz9_12
  try clear hfz9_13
  try clear hfz9_2
  try clear hfz9_3
  try clear hfz9_4
  try clear hfz9_5
  try clear hfz9_6
  try clear hfz9_7
  try clear hfz9_8
  try clear hfz9_9
  obtain ⟨kq, x13_1, rfl, HA, HJ1, HO_3, BK292, HB⟩ := hcut
  cases kq with
  | zero => exact absurd HA.out (by simp [spec_Playable.j0])
  | succ kj1 =>
   have H := HA.out
   clear HA
   simp only [spec_Playable.j0] at H
   by_cases c15 : x13_1 = true
   ·subst c15
    rw [if_pos rfl] at H
    obtain rfl := Option.some.inj H
    go_wp2
    go_ret
    exact ⟨_, by first | rfl | (simp [errW_none, errW_some] <;> rfl) | (simp [*, errW_none, errW_some] <;> rfl), by (with_reducible repeat (first | apply QG | apply QH | apply QK)); exact HO_3.out, by repeat (first | (with_reducible first | exact HB.out | apply QE | apply QB | apply QD | refine below_set ?_ GE292.out) | exact HB.out)⟩
   ·replace c15 := Bool.eq_false_iff.mpr c15
    subst c15
    rw [if_neg (show ¬ (false = true) by decide)] at H
    by_cases c16 : 0 ≤ a0_11
    ·rw [if_pos c16] at H
     have c16b0 : decide (0 ≤ a0_11) = true := decide_eq_true c16
     clear c16
     by_cases c17 : a0_11 < (l0_8.length : Int)
     ·rw [if_pos c17] at H
      have c17b0 : decide (a0_11 < (l0_8.length : Int)) = true := decide_eq_true c17
      clear c17
      replace H := QO.mp H
      obtain ⟨t299, A180, H⟩ := H
      have A18 := QN A180
      clear A180
      have H' := QN H
      clear H
      have hcz19_0 : wc.cell? ⟨gb292, 0, none⟩ = some (.int .i64 a0_0) := (QC BK292.out 0).trans rfl
      have hcz19_1 : wc.cell? ⟨gb292, 1, none⟩ = some (.int .i64 a0_1) := (QC BK292.out 1).trans rfl
      have hcz19_2 : wc.cell? ⟨gb292, 2, none⟩ = some (.bool a0_2) := (QC BK292.out 2).trans rfl
      have hcz19_3 : wc.cell? ⟨gb292, 3, none⟩ = some (.bool a0_3) := (QC BK292.out 3).trans rfl
      have hcz19_4 : wc.cell? ⟨gb292, 4, none⟩ = some (.slice A0_4 l0_4.length c0_4) := (QC BK292.out 4).trans rfl
      have hcz19_5 : wc.cell? ⟨gb292, 5, none⟩ = some (.slice A0_5 l0_5.length c0_5) := (QC BK292.out 5).trans rfl
      have hcz19_6 : wc.cell? ⟨gb292, 6, none⟩ = some (.int .i64 a0_6) := (QC BK292.out 6).trans rfl
      have hcz19_7 : wc.cell? ⟨gb292, 7, none⟩ = some (.int .i64 a0_7) := (QC BK292.out 7).trans rfl
      have hcz19_8 : wc.cell? ⟨gb292, 8, none⟩ = some (.slice A0_8 l0_8.length c0_8) := (QC BK292.out 8).trans rfl
      have hcz19_9 : wc.cell? ⟨gb292, 9, none⟩ = some (.slice A0_9 l0_9.length c0_9) := (QC BK292.out 9).trans rfl
      have hcz19_10 : wc.cell? ⟨gb292, 10, none⟩ = some (.slice A0_10 l0_10.length c0_10) := (QC BK292.out 10).trans rfl
      have hcz19_11 : wc.cell? ⟨gb292, 11, none⟩ = some (.int .i64 a0_11) := (QC BK292.out 11).trans rfl
      have hcz19_12 : wc.cell? ⟨gb292, 12, none⟩ = some (.int .i64 a0_12) := (QC BK292.out 12).trans rfl
      have hcz19_13 : wc.cell? ⟨gb292, 13, none⟩ = some (.int .i64 a0_13) := (QC BK292.out 13).trans rfl
      have hfz19_0 := QF BK292.out 0
      have hfz19_1 := QF BK292.out 1
      have hfz19_2 := QF BK292.out 2
      have hfz19_3 := QF BK292.out 3
      have hfz19_4 := QF BK292.out 4
      have hfz19_5 := QF BK292.out 5
      have hfz19_6 := QF BK292.out 6
      have hfz19_7 := QF BK292.out 7
      have hfz19_8 := QF BK292.out 8
      have hfz19_9 := QF BK292.out 9
      have hfz19_10 := QF BK292.out 10
      have hfz19_11 := QF BK292.out 11
      have hfz19_12 := QF BK292.out 12
      have hfz19_13 := QF BK292.out 13
      have p298 : 0 ≤ (a0_11 : Int) := of_decide_eq_true (by first | (with_reducible assumption) | assumption)
      have q298 : a0_11 < (l0_8.length : Int) := of_decide_eq_true (by first | (with_reducible assumption) | assumption)
      obtain ⟨ad298, A298_0, c298_0, e298, hx298_0, hl298_0, hi298_0⟩ := at_L1 HR0_8.out a0_11 p298 q298
      cases e298
      replace hx298_0 := (HB.out.cell (World.block_lt_of_cell? w _ hx298_0)).trans hx298_0
      have HR298_0 := QN hi298_0
      have HC298_0 := QN hl298_0
      clear hi298_0 hl298_0
      replace p298 := eq_true p298
      replace q298 := eq_true q298
      go_wp2_with (first | ((with_reducible refine gate_callee (f := 130) rfl ?_); refine goesL_ (some 21) rfl rfl Try.func130 (by kernel_rfl) rfl #[.slice A298_0 (rd_L1 l0_8 a0_11).length c298_0] rfl (by (try simp only [List.map_toArray, List.map_cons, List.map_nil]); first | done | rfl | (simp only [List.length_drop, List.length_take]; rfl)) ?_; (with_reducible refine (spec_Sorted.calls _ _ (rd_L1 l0_8 a0_11) t299 _ ?side1 ?side2 A18.out).mono ?_); (case side1 => repeat (first | exact (QL HR298_0.out HB.out) | (with_reducible refine QI ?_ _) | (with_reducible refine QJ ?_ _) | (with_reducible refine QM ?_))); (case side2 => exact HC298_0.out); rintro e w20 ⟨v300, rfl, ho0, hb⟩; refine ⟨_, rfl, ?_⟩; have n0_ := QN (Kd.R_elder' (by (with_reducible repeat (first | apply QG | apply QH | apply QK)); exact HO_3.out) (Kd.R_base ho0) hb); have n1_ := QN (Kd.R_lower (Kd.R_new' ho0 (Kd.R_lt (by (with_reducible repeat (first | apply QG | apply QH | apply QK)); exact HO_3.out))) (below_size (by repeat (first | (with_reducible first | exact HB.out | apply QE | apply QB | apply QD | refine below_set ?_ GE292.out) | exact HB.out)))); have n2_ := QN (blk_below (g := gb292) (o := .cells #[.int .i64 a0_0, .int .i64 a0_1, .bool a0_2, .bool a0_3, .slice A0_4 l0_4.length c0_4, .slice A0_5 l0_5.length c0_5, .int .i64 a0_6, .int .i64 a0_7, .slice (some ad298) l0_8.length c0_8, .slice A0_9 l0_9.length c0_9, .slice A0_10 l0_10.length c0_10, .int .i64 a0_11, .int .i64 a0_12, .int .i64 a0_13] 59 (0, 0)) (by (with_reducible repeat (first | refine blk_drewN ?_ _ | refine blk_drew ?_ | refine blk_alloc ?_ _)); exact BK292.out) hb); have n3_ := QN (below_step (by repeat (first | (with_reducible first | exact HB.out | apply QE | apply QB | apply QD | refine below_set ?_ GE292.out) | exact HB.out)) hb); clear HO_3; clear BK292; clear HB; have HO_3 := n0_; have HO301 := n1_; have BK292 := n2_; have HB := n3_; clear n0_ n1_ n2_ n3_; (try clear hb); (try clear hb2); (try clear hk); (try clear hi); (try clear ho0)))
      go_loopg [3, 5] kj1 (fun kq v3 v5 w' => ∃ (x3_2 : List Int) (x5_2 : Int), v5 = .int .i64 x5_2 ∧ Aside0 (spec_Playable.l0 kq x3_2 t299 x5_2 a0_0 a0_1 a0_2 a0_3 l0_4 l0_5 a0_6 a0_7 l0_8 l0_9 l0_10 a0_11 a0_12 a0_13 = some r) ∧ Aside0 (kq ≤ kj1) ∧ Aside0 (Kd.R (Kd.int .i64) 3 w' w.heap.size (fun k_ => some k_ ≠ (v300 : Value).ownBlock) v3 x3_2) ∧ Aside0 (Kd.R (Kd.int .i64) 3 w' w.heap.size (fun k_ => some k_ ≠ (v3 : Value).ownBlock) v300 t299) ∧ Aside0 (w'.heap[gb292]? = some (.cells #[.int .i64 a0_0, .int .i64 a0_1, .bool a0_2, .bool a0_3, (.slice A0_4 l0_4.length c0_4), (.slice A0_5 l0_5.length c0_5), .int .i64 a0_6, .int .i64 a0_7, (.slice (some ad298) l0_8.length c0_8), (.slice A0_9 l0_9.length c0_9), (.slice A0_10 l0_10.length c0_10), .int .i64 a0_11, .int .i64 a0_12, .int .i64 a0_13] 59 (0, 0))) ∧ Aside0 (Below w.heap.size w w'))
      case atStart => exact ⟨(y293), (0), (by first | rfl | (simp; done) | (simp [*]; done)), H', ⟨Nat.le_refl _⟩, ⟨by (with_reducible repeat (first | apply QG | apply QH | apply QK)); exact Kd.R_mono HO_3.out (by first | exact fun k_ hk => hk.2 | exact fun k_ hk => hk)⟩, ⟨by (with_reducible repeat (first | apply QG | apply QH | apply QK)); exact Kd.R_mono HO301.out (by first | exact fun k_ hk => hk.2 | exact fun k_ hk => hk)⟩, ⟨by (with_reducible repeat (first | refine blk_drewN ?_ _ | refine blk_drew ?_ | refine blk_alloc ?_ _)); exact BK292.out⟩, ⟨by repeat (first | (with_reducible first | exact HB.out | apply QE | apply QB | apply QD | refine below_set ?_ GE292.out) | exact HB.out)⟩⟩
      case round =>
       clear H'
       try clear c1
       try clear c2
       try clear p2
       try clear q2
       try clear hx2
       try clear c4
       try clear c7
       try clear c13
       try clear c15
       try clear c16
       try clear c16b0
       try clear c17
       try clear c17b0
       try clear hcz11_0
       try clear hcz11_1
       try clear hcz11_10
       try clear hcz11_11
       try clear hcz11_12
       try clear hcz11_13
       try clear hcz11_2
       try clear hcz11_3
       try clear hcz11_4
       try clear hcz11_5
       try clear hcz11_6
       try clear hcz11_7
       try clear hcz11_8
       try clear hcz11_9
       try clear hcz13_0
       try clear hcz13_1
       try clear hcz13_10
       try clear hcz13_11
       try clear hcz13_12
       try clear hcz13_13
       try clear hcz13_2
       try clear hcz13_3
       try clear hcz13_4
       try clear hcz13_5
       try clear hcz13_6
       try clear hcz13_7
       try clear hcz13_8
       try clear hcz13_9
       try clear hcz19_0
       try clear hcz19_1
       try clear hcz19_10
       try clear hcz19_11
       try clear hcz19_12
       try clear hcz19_13
       try clear hcz19_2
       try clear hcz19_3
       try clear hcz19_4
       try clear hcz19_5
       try clear hcz19_6
       try clear hcz19_7
       try clear hcz19_8
       try clear hcz19_9
       try clear hcz9_0
       try clear hcz9_1
       try clear hcz9_10
       try clear hcz9_11
       try clear hcz9_12
       try clear hcz9_13
       try clear hcz9_2
       try clear hcz9_3
       try clear hcz9_4
       try clear hcz9_5
       try clear hcz9_6
       try clear hcz9_7
       try clear hcz9_8
       try clear hcz9_9
       try clear hfz11_0
       try clear hfz11_1
       try clear hfz11_10
       try clear hfz11_11
       try clear hfz11_12
       try clear hfz11_13
       try clear hfz11_2
       try clear hfz11_3
       try clear hfz11_4
       try clear hfz11_5
       try clear hfz11_6
       try clear hfz11_7
       try clear hfz11_8
       try clear hfz11_9
       try clear hfz13_0
       try clear hfz13_1
       try clear hfz13_10
       try clear hfz13_11
       try clear hfz13_12
       try clear hfz13_13
       try clear hfz13_2
       try clear hfz13_3
       try clear hfz13_4
       try clear hfz13_5
       try clear hfz13_6
       try clear hfz13_7
       try clear hfz13_8
       try clear hfz13_9
       try clear hfz19_0
       try clear hfz19_1
       try clear hfz19_10
       try clear hfz19_11
       try clear hfz19_12
       try clear hfz19_13
       try clear hfz19_2
       try clear hfz19_3
       try clear hfz19_4
       try clear hfz19_5
       try clear hfz19_6
       try clear hfz19_7
       try clear hfz19_8
       try clear hfz19_9
       try clear hfz9_0
       try clear hfz9_1
       try clear hfz9_10
       try clear hfz9_11
       try clear hfz9_12
       try clear hfz9_13
       try clear hfz9_2
       try clear hfz9_3
       try clear hfz9_4
       try clear hfz9_5
       try clear hfz9_6
       try clear hfz9_7
       try clear hfz9_8
       try clear hfz9_9
       try clear hx298_0
       try clear p2
       try clear p298
       try clear q298
       obtain ⟨x3_2, x5_2, rfl, HA, HK2, HO_3, HO_4, BK292, HB⟩ := hrel
       cases gk with
       | zero => exact absurd HA.out (by simp [spec_Playable.l0])
       | succ k2 =>
        have H := HA.out
        clear HA
        simp only [spec_Playable.l0] at H
        by_cases c21 : x5_2 < (t299.length : Int)
        ·rw [if_pos c21] at H
         have c21b0 : decide (x5_2 < (t299.length : Int)) = true := decide_eq_true c21
         clear c21
         obtain ⟨ji22, hji22⟩ : ∃ j_ : Int, (wrap64 ((l0_10.length : Int) - 1)) = j_ := ⟨_, rfl⟩
         replace H : (if 0 ≤ (ji22) then (if (ji22) < (l0_10.length : Int) then (if 0 ≤ x5_2 then ((spec_FitsOn.f k2 a0_0 a0_1 a0_2 a0_3 l0_4 l0_5 a0_6 a0_7 (rd l0_10 (ji22)) (rd t299 x5_2)).bind fun t304 => (if t304 = true then (if x3_2.length < 17592186044416 then (spec_Playable.l0 k2 (x3_2 ++ [rd t299 x5_2]) t299 (wrap64 (x5_2 + 1)) a0_0 a0_1 a0_2 a0_3 l0_4 l0_5 a0_6 a0_7 l0_8 l0_9 l0_10 a0_11 a0_12 a0_13) else (none)) else (spec_Playable.l0 k2 x3_2 t299 (wrap64 (x5_2 + 1)) a0_0 a0_1 a0_2 a0_3 l0_4 l0_5 a0_6 a0_7 l0_8 l0_9 l0_10 a0_11 a0_12 a0_13))) else (none)) else (none)) else (none)) = some r := by first | (rw [hji22] at H; exact H) | (simp only [hji22] at H ⊢; exact H)
         have hji22w : (IntKind.i64.wrap ((l0_10.length : Int) - 1)) = ji22 := (i64_w _).trans hji22
         by_cases c23 : 0 ≤ (ji22)
         ·rw [if_pos c23] at H
          have c23b0 : decide (0 ≤ (ji22)) = true := decide_eq_true c23
          clear c23
          by_cases c24 : (ji22) < (l0_10.length : Int)
          ·rw [if_pos c24] at H
           have c24b0 : decide ((ji22) < (l0_10.length : Int)) = true := decide_eq_true c24
           clear c24
           by_cases c25 : 0 ≤ x5_2
           ·rw [if_pos c25] at H
            have c25b0 : decide (0 ≤ x5_2) = true := decide_eq_true c25
            clear c25
            replace H := QO.mp H
            obtain ⟨t304, A260, H⟩ := H
            have A26 := QN A260
            clear A260
            obtain ⟨Ao29, co29, eo29⟩ := Kd.R_slice HO_4.out
            subst eo29
            try go_wp2
            have n0_ := QN (QK HO_3.out)
            have n1_ := QN (QK HO_4.out)
            have n2_ := QN (blk_drew BK292.out)
            have n3_ := QN (QD HB.out)
            clear HO_3
            clear HO_4
            clear BK292
            clear HB
            have HO_3 := n0_
            have HO_4 := n1_
            have BK292 := n2_
            have HB := n3_
            clear n0_ n1_ n2_ n3_
            have p302 : 0 ≤ ((ji22) : Int) := of_decide_eq_true (by first | (with_reducible assumption) | assumption)
            have q302 : (ji22) < (l0_10.length : Int) := of_decide_eq_true (by first | (with_reducible assumption) | assumption)
            obtain ⟨ad302, e302, hx302_0⟩ := Kd.at_int HR0_10.out (ji22) p302 q302
            have hw302_0 := hx302_0
            cases e302
            replace hx302_0 := (HB.out.cell (World.block_lt_of_cell? w _ hx302_0)).trans hx302_0
            replace p302 := eq_true p302
            replace q302 := eq_true q302
            have p303 : 0 ≤ (x5_2 : Int) := of_decide_eq_true (by first | (with_reducible assumption) | assumption)
            have q303 : x5_2 < (t299.length : Int) := of_decide_eq_true (by first | (with_reducible assumption) | assumption)
            obtain ⟨ad303, e303, hx303_0⟩ := Kd.at_int (Kd.R_reads' HO_4.out).2.2 x5_2 p303 q303
            cases e303
            replace p303 := eq_true p303
            replace q303 := eq_true q303
            refine start_ (n := 15) (S := fun w' => w'.cell? ⟨gb292, 0, none⟩ = some (.int .i64 a0_0) ∧ w'.cell? ⟨gb292, 1, none⟩ = some (.int .i64 a0_1) ∧ w'.cell? ⟨gb292, 2, none⟩ = some (.bool a0_2) ∧ w'.cell? ⟨gb292, 3, none⟩ = some (.bool a0_3) ∧ w'.cell? ⟨gb292, 4, none⟩ = some (.slice A0_4 l0_4.length c0_4) ∧ w'.cell? ⟨gb292, 5, none⟩ = some (.slice A0_5 l0_5.length c0_5) ∧ w'.cell? ⟨gb292, 6, none⟩ = some (.int .i64 a0_6) ∧ w'.cell? ⟨gb292, 7, none⟩ = some (.int .i64 a0_7) ∧ w'.cell? ⟨gb292, 8, none⟩ = some (.slice (some ad298) l0_8.length c0_8) ∧ w'.cell? ⟨gb292, 9, none⟩ = some (.slice A0_9 l0_9.length c0_9) ∧ w'.cell? ⟨gb292, 10, none⟩ = some (.slice (some ad302) l0_10.length c0_10) ∧ w'.cell? ⟨gb292, 11, none⟩ = some (.int .i64 a0_11) ∧ w'.cell? ⟨gb292, 12, none⟩ = some (.int .i64 a0_12) ∧ w'.cell? ⟨gb292, 13, none⟩ = some (.int .i64 a0_13) ∧ w'.cell? (ad302.add ((ji22)).toNat) = some (.int .i64 (rd l0_10 (ji22))) ∧ w'.cell? (ad303.add (x5_2).toNat) = some (.int .i64 (rd t299 x5_2))) (ds := []) #[false, false, false, false, false, false, false, false, false, false, false, false, false, false, false] (by kernel_rfl) rfl rfl ⟨(QC BK292.out 0).trans rfl, (QC BK292.out 1).trans rfl, (QC BK292.out 2).trans rfl, (QC BK292.out 3).trans rfl, (QC BK292.out 4).trans rfl, (QC BK292.out 5).trans rfl, (QC BK292.out 6).trans rfl, (QC BK292.out 7).trans rfl, (QC BK292.out 8).trans rfl, (QC BK292.out 9).trans rfl, (QC BK292.out 10).trans rfl, (QC BK292.out 11).trans rfl, (QC BK292.out 12).trans rfl, (QC BK292.out 13).trans rfl, ((HB.out.cell (World.block_lt_of_cell? w _ hw302_0)).trans hw302_0), hx303_0⟩ (fun hHeld => ?_); refine with_tabW spec_Playable.tab8 spec_Playable.bits8 (fun HT_ HW_ => ?_)
            generalize wr.drew = w30 at HO_3 HO_4 BK292 HB hx302_0 hx303_0 hHeld ⊢
            refine pure_ (i := 0) (N := some 28) (v := ?_) (a' := ?_) #[true, false, false, false, false, false, false, false, false, false, false, false, false, false, false] rfl rfl (any_of HT_.out (by kernel_rfl)) (fun _ _ _ h => h) (Or.inl ⟨by rfl, ?_⟩) ?_ ?_
            rotate_left
            ·intro w'
             go_simp
             with_reducible rfl
            rotate_left
            ·simp only [Act.put, List.setIfInBounds_toArray, List.set_cons_zero, List.set_cons_succ, i64_w, i32_w]
             rfl
            refine pure_ (i := 2) (N := some 30) (v := ?_) (a' := ?_) #[true, false, true, false, false, false, false, false, false, false, false, false, false, false, false] rfl rfl (any_of HT_.out (by kernel_rfl)) (fun _ _ _ h => h) (Or.inl ⟨by rfl, ?_⟩) ?_ ?_
            rotate_left
            ·intro w'
             go_simp
             with_reducible rfl
            rotate_left
            ·simp only [Act.put, List.setIfInBounds_toArray, List.set_cons_zero, List.set_cons_succ, i64_w, i32_w]
             rfl
            refine pure_ (i := 4) (N := some 32) (v := ?_) (a' := ?_) #[true, false, true, false, true, false, false, false, false, false, false, false, false, false, false] rfl rfl (any_of HT_.out (by kernel_rfl)) (fun _ _ _ h => h) (Or.inl ⟨by rfl, ?_⟩) ?_ ?_
            rotate_left
            ·intro w'
             go_simp
             with_reducible rfl
            rotate_left
            ·simp only [Act.put, List.setIfInBounds_toArray, List.set_cons_zero, List.set_cons_succ, i64_w, i32_w]
             rfl
            refine pure_ (i := 10) (N := some 38) (v := ?_) (a' := ?_) #[true, false, true, false, true, false, false, false, false, false, true, false, false, false, false] rfl rfl (any_of HT_.out (by kernel_rfl)) (fun _ _ _ h => h) (Or.inl ⟨by rfl, ?_⟩) ?_ ?_
            rotate_left
            ·intro w'
             go_simp
             with_reducible rfl
            rotate_left
            ·simp only [Act.put, List.setIfInBounds_toArray, List.set_cons_zero, List.set_cons_succ, i64_w, i32_w]
             rfl
            refine pure_ (i := 11) (N := some 39) (v := ?_) (a' := ?_) #[true, false, true, false, true, false, false, false, false, false, true, true, false, false, false] rfl rfl (any_of HT_.out (by kernel_rfl)) (fun _ _ _ h => h) (Or.inl ⟨by rfl, ?_⟩) ?_ ?_
            rotate_left
            ·intro w'
             go_simp
             with_reducible rfl
            rotate_left
            ·simp only [Act.put, List.setIfInBounds_toArray, List.set_cons_zero, List.set_cons_succ, i64_w, i32_w]
             rfl
            refine pure_ (i := 12) (N := some 40) (v := ?_) (a' := ?_) #[true, false, true, false, true, false, false, false, false, false, true, true, true, false, false] rfl rfl (any_of HT_.out (by kernel_rfl)) (fun _ _ _ h => h) (Or.inl ⟨by rfl, ?_⟩) ?_ ?_
            rotate_left
            ·intro w'
             go_simp
             with_reducible rfl
            rotate_left
            ·simp only [Act.put, List.setIfInBounds_toArray, List.set_cons_zero, List.set_cons_succ, i64_w, i32_w]
             rfl
            refine take_ (i := 1) (N := some 29) (v := ?_) (a' := ?_) #[true, true, true, false, true, false, false, false, false, false, true, true, true, false, false] rfl rfl (take_ofW HT_.out HW_.out (by kernel_rfl)) (fun _ _ _ h => h) (Or.inl ⟨by rfl, ?_⟩) hHeld ?_ ?_
            rotate_left
            ·rintro w' ⟨s0, s1, s2, s3, s4, s5, s6, s7, s8, s9, s10, s11, s12, s13, s14, s15⟩
             go_simp
             with_reducible rfl
            rotate_left
            ·simp only [Act.put, List.setIfInBounds_toArray, List.set_cons_zero, List.set_cons_succ, i64_w, i32_w]
             rfl
            refine take_ (i := 3) (N := some 31) (v := ?_) (a' := ?_) #[true, true, true, true, true, false, false, false, false, false, true, true, true, false, false] rfl rfl (take_ofW HT_.out HW_.out (by kernel_rfl)) (fun _ _ _ h => h) (Or.inl ⟨by rfl, ?_⟩) hHeld ?_ ?_
            rotate_left
            ·rintro w' ⟨s0, s1, s2, s3, s4, s5, s6, s7, s8, s9, s10, s11, s12, s13, s14, s15⟩
             go_simp
             with_reducible rfl
            rotate_left
            ·simp only [Act.put, List.setIfInBounds_toArray, List.set_cons_zero, List.set_cons_succ, i64_w, i32_w]
             rfl
            refine take_ (i := 5) (N := some 33) (v := ?_) (a' := ?_) #[true, true, true, true, true, true, false, false, false, false, true, true, true, false, false] rfl rfl (take_ofW HT_.out HW_.out (by kernel_rfl)) (fun _ _ _ h => h) (Or.inl ⟨by rfl, ?_⟩) hHeld ?_ ?_
            rotate_left
            ·rintro w' ⟨s0, s1, s2, s3, s4, s5, s6, s7, s8, s9, s10, s11, s12, s13, s14, s15⟩
             go_simp
             with_reducible rfl
            rotate_left
            ·simp only [Act.put, List.setIfInBounds_toArray, List.set_cons_zero, List.set_cons_succ, i64_w, i32_w]
             rfl
            refine pure_ (i := 6) (N := some 34) (v := ?_) (a' := ?_) #[true, true, true, true, true, true, true, false, false, false, true, true, true, false, false] rfl rfl (any_of HT_.out (by kernel_rfl)) (fun _ _ _ h => h) (Or.inl ⟨by rfl, ?_⟩) ?_ ?_
            rotate_left
            ·intro w'
             go_simp
             with_reducible rfl
            rotate_left
            ·simp only [Act.put, List.setIfInBounds_toArray, List.set_cons_zero, List.set_cons_succ, i64_w, i32_w]
             rfl
            refine pure_ (i := 7) (N := some 35) (v := ?_) (a' := ?_) #[true, true, true, true, true, true, true, true, false, false, true, true, true, false, false] rfl rfl (any_of HT_.out (by kernel_rfl)) (fun _ _ _ h => h) (Or.inl ⟨by rfl, ?_⟩) ?_ ?_
            rotate_left
            ·intro w'
             go_simp
             with_reducible rfl
            rotate_left
            ·simp only [Act.put, List.setIfInBounds_toArray, List.set_cons_zero, List.set_cons_succ, i64_w, i32_w]
             rfl
            refine pure_ (i := 8) (N := some 36) (v := ?_) (a' := ?_) #[true, true, true, true, true, true, true, true, true, false, true, true, true, false, false] rfl rfl (any_of HT_.out (by kernel_rfl)) (fun _ _ _ h => h) (Or.inl ⟨by rfl, ?_⟩) ?_ ?_
            rotate_left
            ·intro w'
             go_simp
             with_reducible rfl
            rotate_left
            ·simp only [Act.put, List.setIfInBounds_toArray, List.set_cons_zero, List.set_cons_succ, i64_w, i32_w]
             rfl
            refine take_ (i := 9) (N := some 37) (v := ?_) (a' := ?_) #[true, true, true, true, true, true, true, true, true, true, true, true, true, false, false] rfl rfl (take_ofW HT_.out HW_.out (by kernel_rfl)) (fun _ _ _ h => h) (Or.inl ⟨by rfl, ?_⟩) hHeld ?_ ?_
            rotate_left
            ·rintro w' ⟨s0, s1, s2, s3, s4, s5, s6, s7, s8, s9, s10, s11, s12, s13, s14, s15⟩
             go_simp
             with_reducible rfl
            rotate_left
            ·simp only [Act.put, List.setIfInBounds_toArray, List.set_cons_zero, List.set_cons_succ, i64_w, i32_w]
             rfl
            refine take_ (i := 13) (N := some 41) (v := ?_) (a' := ?_) #[true, true, true, true, true, true, true, true, true, true, true, true, true, true, false] rfl rfl (take_ofW HT_.out HW_.out (by kernel_rfl)) (fun _ _ _ h => h) (Or.inl ⟨by rfl, ?_⟩) hHeld ?_ ?_
            rotate_left
            ·rintro w' ⟨s0, s1, s2, s3, s4, s5, s6, s7, s8, s9, s10, s11, s12, s13, s14, s15⟩
             go_simp
             with_reducible rfl
            rotate_left
            ·simp only [Act.put, List.setIfInBounds_toArray, List.set_cons_zero, List.set_cons_succ, i64_w, i32_w]
             rfl
            by_cases c27 : t304 = true
            ·subst c27
             rw [if_pos rfl] at H
             by_cases c28 : x3_2.length < 17592186044416
             ·rw [if_pos c28] at H
              have LMc28 := QN c28
              clear c28
              obtain ⟨y306, hy306⟩ : ∃ y_ : List Int, y_ = (x3_2 ++ [rd t299 x5_2]) := ⟨_, rfl⟩
              replace H : (spec_Playable.l0 k2 y306 t299 (wrap64 (x5_2 + 1)) a0_0 a0_1 a0_2 a0_3 l0_4 l0_5 a0_6 a0_7 l0_8 l0_9 l0_10 a0_11 a0_12 a0_13) = some r := by first | (rw [hy306]; with_reducible exact H) | (have H2_ := (Option.bind_some _ _).symm.trans H; rw [hy306]; with_reducible exact H2_) | (have H2_ := (Option.bind_some _ _).symm.trans H; with_reducible exact H2_) | with_reducible exact H | (rw [hy306]; exact H) | exact H
              have Ny306 := QN hy306
              clear hy306
              have H' := QN H
              clear H
              refine one_ (i := 14) (N := some 42) #[true, true, true, true, true, true, true, true, true, true, true, true, true, true, true] rfl rfl (one_of HT_.out (by kernel_rfl)) (by decide) (fun K hK => ?_)
              refine goes_ Try.func95 (by kernel_rfl) rfl #[.agg #[.int .i64 a0_0, .int .i64 a0_1, .bool a0_2, .bool a0_3, .slice A0_4 l0_4.length c0_4, .slice A0_5 l0_5.length c0_5, .int .i64 a0_6, .int .i64 a0_7], .int .i64 (rd l0_10 (ji22)), .int .i64 (rd t299 x5_2)] (by rfl) rfl rfl (by (try simp only [List.map_toArray, List.map_cons, List.map_nil]); first | done | (simp only [hji22]; rfl) | rfl | (simp only [List.length_drop, List.length_take]; rfl)) ?_
              with_reducible refine (spec_FitsOn.calls k2 a0_0 a0_1 a0_2 a0_3 _ _ l0_4 _ _ l0_5 a0_6 a0_7 (rd l0_10 (ji22)) (rd t299 x5_2) true _ ?side1 ?side2 ?side3 ?side4 A26.out).mono ?_
              (case side1 => repeat (first | exact (QL HR0_4.out HB.out) | (with_reducible refine QI ?_ _) | (with_reducible refine QJ ?_ _) | (with_reducible refine QM ?_)))
              (case side2 => exact HC0_4.out)
              (case side3 => repeat (first | exact (QL HR0_5.out HB.out) | (with_reducible refine QI ?_ _) | (with_reducible refine QJ ?_ _) | (with_reducible refine QM ?_)))
              (case side4 => exact HC0_5.out)
              rintro e w31 ⟨rfl, hb⟩
              have HS15_ := (hb.cell (World.block_lt_of_cell? _ _ (hHeld.2.2.2.2.2.2.2.2.2.2.2.2.2.2.2))).trans (hHeld.2.2.2.2.2.2.2.2.2.2.2.2.2.2.2)
              refine ⟨_, rfl, ?_⟩
              have n0_ := QN (Kd.R_below (by (with_reducible repeat (first | apply QG | apply QH | apply QK)); exact HO_3.out) hb)
              have n1_ := QN (Kd.R_below (by (with_reducible repeat (first | apply QG | apply QH | apply QK)); exact HO_4.out) hb)
              have n2_ := QN (blk_below (g := gb292) (o := .cells #[.int .i64 a0_0, .int .i64 a0_1, .bool a0_2, .bool a0_3, .slice A0_4 l0_4.length c0_4, .slice A0_5 l0_5.length c0_5, .int .i64 a0_6, .int .i64 a0_7, .slice (some ad298) l0_8.length c0_8, .slice A0_9 l0_9.length c0_9, .slice (some ad302) l0_10.length c0_10, .int .i64 a0_11, .int .i64 a0_12, .int .i64 a0_13] 59 (0, 0)) (by (with_reducible repeat (first | refine blk_drewN ?_ _ | refine blk_drew ?_ | refine blk_alloc ?_ _)); exact BK292.out) hb)
              have n3_ := QN (below_step (by repeat (first | (with_reducible first | exact HB.out | apply QE | apply QB | apply QD | refine below_set ?_ GE292.out) | exact HB.out)) hb)
              clear HO_3
              clear HO_4
              clear BK292
              clear HB
              have HO_3 := n0_
              have HO_4 := n1_
              have BK292 := n2_
              have HB := n3_
              clear n0_ n1_ n2_ n3_
              (try clear hb)
              (try clear hb2)
              (try clear hk)
              (try clear hi)
              refine hK.out _ _ ⟨(QC BK292.out 0).trans rfl, (QC BK292.out 1).trans rfl, (QC BK292.out 2).trans rfl, (QC BK292.out 3).trans rfl, (QC BK292.out 4).trans rfl, (QC BK292.out 5).trans rfl, (QC BK292.out 6).trans rfl, (QC BK292.out 7).trans rfl, (QC BK292.out 8).trans rfl, (QC BK292.out 9).trans rfl, (QC BK292.out 10).trans rfl, (QC BK292.out 11).trans rfl, (QC BK292.out 12).trans rfl, (QC BK292.out 13).trans rfl, ((HB.out.cell (World.block_lt_of_cell? w _ hw302_0)).trans hw302_0), HS15_⟩ (fun hHeld => ?_)
              clear hK K
              refine norm_ (a' := ?_) ?_ ?_
              rotate_left
              ·show Act.put _ (some 42) _ = _
               simp only [Act.put, List.setIfInBounds_toArray, List.set_cons_zero, List.set_cons_succ, i64_w, i32_w]
               rfl
              refine done_ (done_of HT_.out (by kernel_rfl)) ?_
              have p305 : 0 ≤ (x5_2 : Int) := of_decide_eq_true (by first | (with_reducible assumption) | assumption)
              have q305 : x5_2 < (t299.length : Int) := of_decide_eq_true (by first | (with_reducible assumption) | assumption)
              obtain ⟨ad305, e305, hx305_0⟩ := Kd.at_int (Kd.R_reads' HO_4.out).2.2 x5_2 p305 q305
              obtain rfl : ad303 = ad305 := (by injection e305)
              replace p305 := eq_true p305
              replace q305 := eq_true q305
              try go_wp2_with (first | ((with_reducible refine gate_builtin (b := .append) (xs := #[.tmp 43, .tmp 48]) rfl ?_); at_builtin; refine Kd.R_append (Kd.int .i64) (w0 := w) w.heap.size rfl (.tmp 43) (.tmp 48) 24 3 (.int .i64 0) 8 rfl Try.underlying24 info3 rfl (by decide) (by omega) u3 x3_2 (rd t299 x5_2) [.int .i64 (rd t299 x5_2)] (fun k_ => some k_ ≠ (.slice (some ad303) t299.length co29 : Value).ownBlock) (fun _ => False) rfl rfl ?aP (fun _ hk => hk.elim) ?aF ?aO ?aB ?aS ?aL ?_; (case aP => exact rfl); (case aB => exact (by repeat (first | (with_reducible first | exact HB.out | apply QE | apply QB | apply QD | refine below_set ?_ GE292.out) | exact HB.out))); (case aF => exact (fun k_ hk => Kd.fresh' (Kd.R_lt (by (with_reducible repeat (first | apply QG | apply QH | apply QK)); exact HO_4.out)) k_ hk)); (case aO => exact (by (with_reducible repeat (first | apply QG | apply QH | apply QK)); exact HO_3.out)); (case aS => exact (below_size (by repeat (first | (with_reducible first | exact HB.out | apply QE | apply QB | apply QD | refine below_set ?_ GE292.out) | exact HB.out)))); (case aL => have := LMc28.out; omega); intro v307 w32 ho hb hg hat; rw [← Ny306.out] at ho; have n0_ := QN (Kd.R_after (ok := (fun _ => True)) (by (with_reducible repeat (first | apply QG | apply QH | apply QK)); exact Kd.R_mono HO_4.out (fun _ hk => ⟨trivial, hk⟩)) hg hat); have n1_ := QN (blk_grown (g := gb292) (o := .cells #[.int .i64 a0_0, .int .i64 a0_1, .bool a0_2, .bool a0_3, .slice A0_4 l0_4.length c0_4, .slice A0_5 l0_5.length c0_5, .int .i64 a0_6, .int .i64 a0_7, .slice (some ad298) l0_8.length c0_8, .slice A0_9 l0_9.length c0_9, .slice (some ad302) l0_10.length c0_10, .int .i64 a0_11, .int .i64 a0_12, .int .i64 a0_13] 59 (0, 0)) (by (with_reducible repeat (first | refine blk_drewN ?_ _ | refine blk_drew ?_ | refine blk_alloc ?_ _)); exact BK292.out) hg (Kd.R_ne HO_3.out BK292.out (by decide))); have n2_ := QN (hb); have n3_ := QN (ho); clear HO_4; clear BK292; clear HB; clear HO_3; have HO_4 := n0_; have BK292 := n1_; have HB := n2_; have HO308 := n3_; clear n0_ n1_ n2_ n3_; clear ho hb hg hat))
              go_roundg k2
              case measure => have := HJ1.out; have := HK2.out; omega
              case rel => exact ⟨(y306), (wrap64 (x5_2 + 1)), (by first | rfl | (simp; done) | (simp [*]; done)), H', ⟨by have := HJ1.out; have := HK2.out; omega⟩, ⟨by (with_reducible repeat (first | apply QG | apply QH | apply QK)); exact HO308.out⟩, ⟨by (with_reducible repeat (first | apply QG | apply QH | apply QK)); exact Kd.R_mono HO_4.out (by first | exact fun k_ hk => hk.2 | exact fun k_ hk => hk)⟩, ⟨by (with_reducible repeat (first | refine blk_drewN ?_ _ | refine blk_drew ?_ | refine blk_alloc ?_ _)); exact BK292.out⟩, ⟨by repeat (first | (with_reducible first | exact HB.out | apply QE | apply QB | apply QD | refine below_set ?_ GE292.out) | exact HB.out)⟩⟩
             ·rw [if_neg c28] at H
              exact absurd H (by simp)
            ·replace c27 := Bool.eq_false_iff.mpr c27
             subst c27
             rw [if_neg (show ¬ (false = true) by decide)] at H
             have H' := QN H
             clear H
             refine one_ (i := 14) (N := some 42) #[true, true, true, true, true, true, true, true, true, true, true, true, true, true, true] rfl rfl (one_of HT_.out (by kernel_rfl)) (by decide) (fun K hK => ?_)
             refine goes_ Try.func95 (by kernel_rfl) rfl #[.agg #[.int .i64 a0_0, .int .i64 a0_1, .bool a0_2, .bool a0_3, .slice A0_4 l0_4.length c0_4, .slice A0_5 l0_5.length c0_5, .int .i64 a0_6, .int .i64 a0_7], .int .i64 (rd l0_10 (ji22)), .int .i64 (rd t299 x5_2)] (by rfl) rfl rfl (by (try simp only [List.map_toArray, List.map_cons, List.map_nil]); first | done | (simp only [hji22]; rfl) | rfl | (simp only [List.length_drop, List.length_take]; rfl)) ?_
             with_reducible refine (spec_FitsOn.calls k2 a0_0 a0_1 a0_2 a0_3 _ _ l0_4 _ _ l0_5 a0_6 a0_7 (rd l0_10 (ji22)) (rd t299 x5_2) false _ ?side1 ?side2 ?side3 ?side4 A26.out).mono ?_
             (case side1 => repeat (first | exact (QL HR0_4.out HB.out) | (with_reducible refine QI ?_ _) | (with_reducible refine QJ ?_ _) | (with_reducible refine QM ?_)))
             (case side2 => exact HC0_4.out)
             (case side3 => repeat (first | exact (QL HR0_5.out HB.out) | (with_reducible refine QI ?_ _) | (with_reducible refine QJ ?_ _) | (with_reducible refine QM ?_)))
             (case side4 => exact HC0_5.out)
             rintro e w35 ⟨rfl, hb⟩
             have HS15_ := (hb.cell (World.block_lt_of_cell? _ _ (hHeld.2.2.2.2.2.2.2.2.2.2.2.2.2.2.2))).trans (hHeld.2.2.2.2.2.2.2.2.2.2.2.2.2.2.2)
             refine ⟨_, rfl, ?_⟩
             have n0_ := QN (Kd.R_below (by (with_reducible repeat (first | apply QG | apply QH | apply QK)); exact HO_3.out) hb)
             have n1_ := QN (Kd.R_below (by (with_reducible repeat (first | apply QG | apply QH | apply QK)); exact HO_4.out) hb)
             have n2_ := QN (blk_below (g := gb292) (o := .cells #[.int .i64 a0_0, .int .i64 a0_1, .bool a0_2, .bool a0_3, .slice A0_4 l0_4.length c0_4, .slice A0_5 l0_5.length c0_5, .int .i64 a0_6, .int .i64 a0_7, .slice (some ad298) l0_8.length c0_8, .slice A0_9 l0_9.length c0_9, .slice (some ad302) l0_10.length c0_10, .int .i64 a0_11, .int .i64 a0_12, .int .i64 a0_13] 59 (0, 0)) (by (with_reducible repeat (first | refine blk_drewN ?_ _ | refine blk_drew ?_ | refine blk_alloc ?_ _)); exact BK292.out) hb)
             have n3_ := QN (below_step (by repeat (first | (with_reducible first | exact HB.out | apply QE | apply QB | apply QD | refine below_set ?_ GE292.out) | exact HB.out)) hb)
             clear HO_3
             clear HO_4
             clear BK292
             clear HB
             have HO_3 := n0_
             have HO_4 := n1_
             have BK292 := n2_
             have HB := n3_
             clear n0_ n1_ n2_ n3_
             (try clear hb)
             (try clear hb2)
             (try clear hk)
             (try clear hi)
             refine hK.out _ _ ⟨(QC BK292.out 0).trans rfl, (QC BK292.out 1).trans rfl, (QC BK292.out 2).trans rfl, (QC BK292.out 3).trans rfl, (QC BK292.out 4).trans rfl, (QC BK292.out 5).trans rfl, (QC BK292.out 6).trans rfl, (QC BK292.out 7).trans rfl, (QC BK292.out 8).trans rfl, (QC BK292.out 9).trans rfl, (QC BK292.out 10).trans rfl, (QC BK292.out 11).trans rfl, (QC BK292.out 12).trans rfl, (QC BK292.out 13).trans rfl, ((HB.out.cell (World.block_lt_of_cell? w _ hw302_0)).trans hw302_0), HS15_⟩ (fun hHeld => ?_)
             clear hK K
             refine norm_ (a' := ?_) ?_ ?_
             rotate_left
             ·show Act.put _ (some 42) _ = _
              simp only [Act.put, List.setIfInBounds_toArray, List.set_cons_zero, List.set_cons_succ, i64_w, i32_w]
              rfl
             refine done_ (done_of HT_.out (by kernel_rfl)) ?_
             try go_wp2
             go_roundg k2
             case measure => have := HJ1.out; have := HK2.out; omega
             case rel => exact ⟨(x3_2), (wrap64 (x5_2 + 1)), (by first | rfl | (simp; done) | (simp [*]; done)), H', ⟨by have := HJ1.out; have := HK2.out; omega⟩, ⟨by (with_reducible repeat (first | apply QG | apply QH | apply QK)); exact HO_3.out⟩, ⟨by (with_reducible repeat (first | apply QG | apply QH | apply QK)); exact HO_4.out⟩, ⟨by (with_reducible repeat (first | refine blk_drewN ?_ _ | refine blk_drew ?_ | refine blk_alloc ?_ _)); exact BK292.out⟩, ⟨by repeat (first | (with_reducible first | exact HB.out | apply QE | apply QB | apply QD | refine below_set ?_ GE292.out) | exact HB.out)⟩⟩
           ·rw [if_neg c25] at H
            exact absurd H (by simp)
          ·rw [if_neg c24] at H
           exact absurd H (by simp)
         ·rw [if_neg c23] at H
          exact absurd H (by simp)
        ·rw [if_neg c21] at H
         have c21b0 : decide (x5_2 < (t299.length : Int)) = false := decide_eq_false c21
         clear c21
         obtain rfl := Option.some.inj H
         obtain ⟨Ao36, co36, eo36⟩ := Kd.R_slice HO_4.out
         subst eo36
         go_wp2
         go_ret
         exact ⟨_, by first | rfl | (simp [errW_none, errW_some] <;> rfl) | (simp [*, errW_none, errW_some] <;> rfl), by (with_reducible repeat (first | apply QG | apply QH | apply QK)); exact Kd.R_mono HO_3.out (fun _ hk => trivial), by repeat (first | (with_reducible first | exact HB.out | apply QE | apply QB | apply QD | refine below_set ?_ GE292.out) | exact HB.out)⟩
     ·rw [if_neg c17] at H
      exact absurd H (by simp)
    ·rw [if_neg c16] at H
     exact absurd H (by simp)

/-! ### impl_InRange: function 85 -/
def impl_InRange.f (a0 : Int) (a1 : Int) (a2 : Int) : Option (Bool) := if a1 ≤ a0 then (some (decide (a0 ≤ a2))) else (some false)
set_option maxHeartbeats 8000000 in
set_option maxRecDepth 100000 in
theorem impl_InRange.calls (a0 : Int) (a1 : Int) (a2 : Int) (r : Bool) (w : World) (h : impl_InRange.f a0 a1 a2 = some r) :
  Calls Try.prog 85 #[.int .i64 a0, .int .i64 a1, .int .i64 a2] w fun e w' => e = .returned (.bool r) ∧ Drawn0 w w' := by
 have H : (if a1 ≤ a0 then (some (decide (a0 ≤ a2))) else (some false)) = some r := h
 clear h
 by_cases c4 : a1 ≤ a0
 ·rw [if_pos c4] at H
  have c4b0 : decide (a1 ≤ a0) = true := decide_eq_true c4
  clear c4
  obtain rfl := Option.some.inj H
  go_enter Try.func85, Try.ntmps85
  go_wp2
  go_ret
  exact ⟨by first | rfl | (simp; done) | (simp [*]; done), by repeat (first | exact Drawn0.refl _ | apply Drawn0.step)⟩
 ·rw [if_neg c4] at H
  have c4b0 : decide (a1 ≤ a0) = false := decide_eq_false c4
  clear c4
  obtain rfl := Option.some.inj H
  go_enter Try.func85, Try.ntmps85
  go_wp2
  go_ret
  exact ⟨by first | rfl | (simp; done) | (simp [*]; done), by repeat (first | exact Drawn0.refl _ | apply Drawn0.step)⟩

/-! ### impl_isTest: function 171 -/
def impl_isTest.f (a0 : Int) : Option (Bool) := (impl_InRange.f a0 100 103).bind fun t309 => (if t309 = true then (some true) else ((impl_InRange.f a0 200 212).bind fun t310 => (if t310 = true then (some true) else ((impl_InRange.f a0 300 312).bind fun t311 => (if t311 = true then (some true) else (some (a0 == 400)))))))
set_option maxHeartbeats 8000000 in
set_option maxRecDepth 100000 in
theorem impl_isTest.calls (a0 : Int) (r : Bool) (w : World) (h : impl_isTest.f a0 = some r) :
  Calls Try.prog 171 #[.int .i64 a0] w fun e w' => e = .returned (.bool r) ∧ Drawn0 w w' := by
 have H : ((impl_InRange.f a0 100 103).bind fun t309 => (if t309 = true then (some true) else ((impl_InRange.f a0 200 212).bind fun t310 => (if t310 = true then (some true) else ((impl_InRange.f a0 300 312).bind fun t311 => (if t311 = true then (some true) else (some (a0 == 400)))))))) = some r := h
 clear h
 replace H := QO.mp H
 obtain ⟨t309, A20, H⟩ := H
 have A2 := QN A20
 clear A20
 by_cases c3 : t309 = true
 ·subst c3
  rw [if_pos rfl] at H
  obtain rfl := Option.some.inj H
  go_enter Try.func171, Try.ntmps171
  go_wp2_with (first | ((with_reducible refine gate_callee (f := 85) rfl ?_); refine goesL_ (some 4) rfl rfl Try.func85 (by kernel_rfl) rfl #[.int .i64 a0, .int .i64 100, .int .i64 103] rfl (by (try simp only [List.map_toArray, List.map_cons, List.map_nil]); first | done | rfl | (simp only [List.length_drop, List.length_take]; rfl)) ?_; (with_reducible refine (impl_InRange.calls a0 100 103 true _ A2.out).mono ?_); rintro e w' ⟨rfl, ⟨nd, rfl⟩⟩; refine ⟨_, rfl, ?_⟩))
  go_ret
  exact ⟨by first | rfl | (simp; done) | (simp [*]; done), by repeat (first | exact Drawn0.refl _ | apply Drawn0.step)⟩
 ·replace c3 := Bool.eq_false_iff.mpr c3
  subst c3
  rw [if_neg (show ¬ (false = true) by decide)] at H
  replace H := QO.mp H
  obtain ⟨t310, A40, H⟩ := H
  have A4 := QN A40
  clear A40
  by_cases c5 : t310 = true
  ·subst c5
   rw [if_pos rfl] at H
   obtain rfl := Option.some.inj H
   go_enter Try.func171, Try.ntmps171
   go_wp2_with (first | ((with_reducible refine gate_callee (f := 85) rfl ?_); refine goesL_ (some 4) rfl rfl Try.func85 (by kernel_rfl) rfl #[.int .i64 a0, .int .i64 100, .int .i64 103] rfl (by (try simp only [List.map_toArray, List.map_cons, List.map_nil]); first | done | rfl | (simp only [List.length_drop, List.length_take]; rfl)) ?_; (with_reducible refine (impl_InRange.calls a0 100 103 false _ A2.out).mono ?_); rintro e w' ⟨rfl, ⟨nd, rfl⟩⟩; refine ⟨_, rfl, ?_⟩) | (go_at_call 85; (with_reducible refine (impl_InRange.calls a0 200 212 true _ A4.out).mono ?_); rintro e w' ⟨rfl, ⟨nd, rfl⟩⟩))
   go_ret
   exact ⟨by first | rfl | (simp; done) | (simp [*]; done), by repeat (first | exact Drawn0.refl _ | apply Drawn0.step)⟩
  ·replace c5 := Bool.eq_false_iff.mpr c5
   subst c5
   rw [if_neg (show ¬ (false = true) by decide)] at H
   replace H := QO.mp H
   obtain ⟨t311, A60, H⟩ := H
   have A6 := QN A60
   clear A60
   by_cases c7 : t311 = true
   ·subst c7
    rw [if_pos rfl] at H
    obtain rfl := Option.some.inj H
    go_enter Try.func171, Try.ntmps171
    go_wp2_with (first | ((with_reducible refine gate_callee (f := 85) rfl ?_); refine goesL_ (some 4) rfl rfl Try.func85 (by kernel_rfl) rfl #[.int .i64 a0, .int .i64 100, .int .i64 103] rfl (by (try simp only [List.map_toArray, List.map_cons, List.map_nil]); first | done | rfl | (simp only [List.length_drop, List.length_take]; rfl)) ?_; (with_reducible refine (impl_InRange.calls a0 100 103 false _ A2.out).mono ?_); rintro e w' ⟨rfl, ⟨nd, rfl⟩⟩; refine ⟨_, rfl, ?_⟩) | (go_at_call 85; (with_reducible refine (impl_InRange.calls a0 200 212 false _ A4.out).mono ?_); rintro e w' ⟨rfl, ⟨nd, rfl⟩⟩) | (go_at_call 85; (with_reducible refine (impl_InRange.calls a0 300 312 true _ A6.out).mono ?_); rintro e w' ⟨rfl, ⟨nd, rfl⟩⟩))
    go_ret
    exact ⟨by first | rfl | (simp; done) | (simp [*]; done), by repeat (first | exact Drawn0.refl _ | apply Drawn0.step)⟩
   ·replace c7 := Bool.eq_false_iff.mpr c7
    subst c7
    rw [if_neg (show ¬ (false = true) by decide)] at H
    obtain rfl := Option.some.inj H
    go_enter Try.func171, Try.ntmps171
    go_wp2_with (first | ((with_reducible refine gate_callee (f := 85) rfl ?_); refine goesL_ (some 4) rfl rfl Try.func85 (by kernel_rfl) rfl #[.int .i64 a0, .int .i64 100, .int .i64 103] rfl (by (try simp only [List.map_toArray, List.map_cons, List.map_nil]); first | done | rfl | (simp only [List.length_drop, List.length_take]; rfl)) ?_; (with_reducible refine (impl_InRange.calls a0 100 103 false _ A2.out).mono ?_); rintro e w' ⟨rfl, ⟨nd, rfl⟩⟩; refine ⟨_, rfl, ?_⟩) | (go_at_call 85; (with_reducible refine (impl_InRange.calls a0 200 212 false _ A4.out).mono ?_); rintro e w' ⟨rfl, ⟨nd, rfl⟩⟩) | (go_at_call 85; (with_reducible refine (impl_InRange.calls a0 300 312 false _ A6.out).mono ?_); rintro e w' ⟨rfl, ⟨nd, rfl⟩⟩))
    go_ret
    exact ⟨by first | rfl | (simp; done) | (simp [*]; done), by repeat (first | exact Drawn0.refl _ | apply Drawn0.step)⟩

/-! ### impl_IsPattern: function 147 -/
mutual
def impl_IsPattern.l0 : Nat → List Int → Int → List Int → Int → Int → Option (Bool)
 | 0, _, _, _, _, _ => none
 | k + 1, x0, x3, x6, x7, x8 => if x8 < x7 then (if 0 ≤ x8 then (if x8 < (x6.length : Int) then ((impl_isTest.f (rd x6 x8)).bind fun t314 => (if t314 = true then (impl_IsPattern.l0 k x0 (wrap64 (x3 + 1)) x6 x7 (wrap64 (x8 + 1))) else (if (rd x6 x8) = (-1) then (impl_IsPattern.j1 k x0 x3 (rd x6 x8) x6 x7 x8 (decide (x3 ≥ 1))) else (impl_IsPattern.j1 k x0 x3 (rd x6 x8) x6 x7 x8 false)))) else (none)) else (none)) else ((impl_InRange.f (x0.length : Int) 1 20).bind fun t312 => (if t312 = true then (some (x3 == 1)) else (some false)))
def impl_IsPattern.j1 : Nat → List Int → Int → Int → List Int → Int → Int → Bool → Option (Bool)
 | 0, _, _, _, _, _, _, _ => none
 | k + 1, x0, x3, x5, x6, x7, x8, x17 => if x17 = true then (impl_IsPattern.l0 k x0 x3 x6 x7 (wrap64 (x8 + 1))) else (if x5 = (-2) then (if x3 ≥ 2 then (impl_IsPattern.l0 k x0 (wrap64 (x3 - 1)) x6 x7 (wrap64 (x8 + 1))) else (some false)) else (if x5 = (-3) then (if x3 ≥ 2 then (impl_IsPattern.l0 k x0 (wrap64 (x3 - 1)) x6 x7 (wrap64 (x8 + 1))) else (some false)) else (some false)))
end
def impl_IsPattern.f (k : Nat) (l0 : List Int) : Option (Bool) := impl_IsPattern.l0 k l0 0 l0 (l0.length : Int) 0
theorem impl_IsPattern.mono_l : ∀ k, (∀ y0 y1 y2 y3 y4, LeO (impl_IsPattern.l0 k y0 y1 y2 y3 y4) (impl_IsPattern.l0 (k + 1) y0 y1 y2 y3 y4)) ∧ (∀ y0 y1 y2 y3 y4 y5 y6, LeO (impl_IsPattern.j1 k y0 y1 y2 y3 y4 y5 y6) (impl_IsPattern.j1 (k + 1) y0 y1 y2 y3 y4 y5 y6))
 | 0 => ⟨fun _ _ _ _ _ r h => by simp [impl_IsPattern.l0] at h, fun _ _ _ _ _ _ _ r h => by simp [impl_IsPattern.j1] at h⟩
 | k + 1 => by
  obtain ⟨ih0, ih1⟩ := impl_IsPattern.mono_l k
  refine ⟨?_, ?_⟩
  ·intro y0 y1 y2 y3 y4
   unfold impl_IsPattern.l0
   repeat' first
   | (with_reducible exact ih0 _ _ _ _ _)
   | (with_reducible exact ih1 _ _ _ _ _ _ _)
   | (with_reducible exact LeO.refl _)
   | (with_reducible exact LeO.none _)
   | (with_reducible refine LeO.ite ?_ ?_)
   | (with_reducible refine LeO.bind ?_ (fun _ => ?_))
   | exact ih0 _ _ _ _ _
   | exact ih1 _ _ _ _ _ _ _
   | exact LeO.none _
   | refine LeO.ite ?_ ?_
   | refine LeO.bind ?_ (fun _ => ?_)
  ·intro y0 y1 y2 y3 y4 y5 y6
   unfold impl_IsPattern.j1
   repeat' first
   | (with_reducible exact ih0 _ _ _ _ _)
   | (with_reducible exact ih1 _ _ _ _ _ _ _)
   | (with_reducible exact LeO.refl _)
   | (with_reducible exact LeO.none _)
   | (with_reducible refine LeO.ite ?_ ?_)
   | (with_reducible refine LeO.bind ?_ (fun _ => ?_))
   | exact ih0 _ _ _ _ _
   | exact ih1 _ _ _ _ _ _ _
   | exact LeO.none _
   | refine LeO.ite ?_ ?_
   | refine LeO.bind ?_ (fun _ => ?_)
theorem impl_IsPattern.mono : ∀ a0 k, LeO (impl_IsPattern.f k a0) (impl_IsPattern.f (k + 1) a0) := by
 intro a0 k
 obtain ⟨ih0, ih1⟩ := impl_IsPattern.mono_l k
 unfold impl_IsPattern.f
 repeat' first
   | (with_reducible exact ih0 _ _ _ _ _)
   | (with_reducible exact ih1 _ _ _ _ _ _ _)
   | (with_reducible exact LeO.refl _)
   | (with_reducible exact LeO.none _)
   | (with_reducible refine LeO.ite ?_ ?_)
   | (with_reducible refine LeO.bind ?_ (fun _ => ?_))
   | exact ih0 _ _ _ _ _
   | exact ih1 _ _ _ _ _ _ _
   | exact LeO.none _
   | refine LeO.ite ?_ ?_
   | refine LeO.bind ?_ (fun _ => ?_)
set_option maxHeartbeats 8000000 in
set_option maxRecDepth 100000 in
theorem impl_IsPattern.calls (k : Nat) (A0 : Option Addr) (c0 : Nat) (l0 : List Int) (r : Bool) (w : World) (hr0 : Kd.C (Kd.int .i64) w A0 l0.length l0) (hc0 : l0.length ≤ c0) (h : impl_IsPattern.f k l0 = some r) :
  Calls Try.prog 147 #[.slice A0 l0.length c0] w fun e w' => e = .returned (.bool r) ∧ Drawn0 w w' := by
 have HR0 := QN hr0
 have HC0 := QN hc0
 clear hr0 hc0
 have H : (impl_IsPattern.l0 k l0 0 l0 (l0.length : Int) 0) = some r := h
 clear h
 have H' := QN H
 clear H
 go_enter Try.func147, Try.ntmps147
 go_wp2
 go_loopg [3, 8] k (fun kq v3 v8 w' => ∃ (x3_1 : Int) (x8_1 : Int), v3 = .int .i64 x3_1 ∧ v8 = .int .i64 x8_1 ∧ Aside0 (impl_IsPattern.l0 kq l0 x3_1 l0 (l0.length : Int) x8_1 = some r) ∧ Aside0 (kq ≤ k) ∧ Drawn0 w w')
 case atStart => exact ⟨(0), (0), (by first | rfl | (simp; done) | (simp [*]; done)), (by first | rfl | (simp; done) | (simp [*]; done)), H', ⟨Nat.le_refl _⟩, by repeat (first | exact Drawn0.refl _ | apply Drawn0.step)⟩
 case round =>
  clear H'
  try clear c1
  obtain ⟨x3_1, x8_1, rfl, rfl, HA, HK1, ⟨m1, rfl⟩⟩ := hrel
  cases gk with
  | zero => exact absurd HA.out (by simp [impl_IsPattern.l0])
  | succ k1 =>
   have H := HA.out
   clear HA
   simp only [impl_IsPattern.l0] at H
   by_cases c2 : x8_1 < (l0.length : Int)
   ·rw [if_pos c2] at H
    have c2b0 : decide (x8_1 < (l0.length : Int)) = true := decide_eq_true c2
    clear c2
    by_cases c3 : 0 ≤ x8_1
    ·rw [if_pos c3] at H
     have c3b0 : decide (0 ≤ x8_1) = true := decide_eq_true c3
     clear c3
     by_cases c4 : x8_1 < (l0.length : Int)
     ·rw [if_pos c4] at H
      have c4b0 : decide (x8_1 < (l0.length : Int)) = true := decide_eq_true c4
      clear c4
      replace H := QO.mp H
      obtain ⟨t314, A50, H⟩ := H
      have A5 := QN A50
      clear A50
      by_cases c6 : t314 = true
      ·subst c6
       rw [if_pos rfl] at H
       have H' := QN H
       clear H
       have p313 : 0 ≤ (x8_1 : Int) := of_decide_eq_true (by first | (with_reducible assumption) | assumption)
       have q313 : x8_1 < (l0.length : Int) := of_decide_eq_true (by first | (with_reducible assumption) | assumption)
       obtain ⟨ad313, e313, hx313_0⟩ := Kd.at_int HR0.out x8_1 p313 q313
       cases e313
       replace p313 := eq_true p313
       replace q313 := eq_true q313
       go_wp2_with (first | ((with_reducible refine gate_callee (f := 171) rfl ?_); refine goesL_ (some 14) rfl rfl Try.func171 (by kernel_rfl) rfl #[.int .i64 (rd l0 x8_1)] rfl (by (try simp only [List.map_toArray, List.map_cons, List.map_nil]); first | done | rfl | (simp only [List.length_drop, List.length_take]; rfl)) ?_; (with_reducible refine (impl_isTest.calls (rd l0 x8_1) true _ A5.out).mono ?_); rintro e w' ⟨rfl, ⟨nd, rfl⟩⟩; refine ⟨_, rfl, ?_⟩))
       go_roundg k1
       case measure => have := HK1.out; omega
       case rel => exact ⟨(wrap64 (x3_1 + 1)), (wrap64 (x8_1 + 1)), (by first | rfl | (simp; done) | (simp [*]; done)), (by first | rfl | (simp; done) | (simp [*]; done)), H', ⟨by have := HK1.out; omega⟩, by repeat (first | exact Drawn0.refl _ | apply Drawn0.step)⟩
      ·replace c6 := Bool.eq_false_iff.mpr c6
       subst c6
       rw [if_neg (show ¬ (false = true) by decide)] at H
       have HC7 := QN H
       clear H
       have p313 : 0 ≤ (x8_1 : Int) := of_decide_eq_true (by first | (with_reducible assumption) | assumption)
       have q313 : x8_1 < (l0.length : Int) := of_decide_eq_true (by first | (with_reducible assumption) | assumption)
       obtain ⟨ad313, e313, hx313_0⟩ := Kd.at_int HR0.out x8_1 p313 q313
       cases e313
       replace p313 := eq_true p313
       replace q313 := eq_true q313
       go_upto_region 8 with (first | ((with_reducible refine gate_callee (f := 171) rfl ?_); refine goesL_ (some 14) rfl rfl Try.func171 (by kernel_rfl) rfl #[.int .i64 (rd l0 x8_1)] rfl (by (try simp only [List.map_toArray, List.map_cons, List.map_nil]); first | done | rfl | (simp only [List.length_drop, List.length_take]; rfl)) ?_; (with_reducible refine (impl_isTest.calls (rd l0 x8_1) false _ A5.out).mono ?_); rintro e w' ⟨rfl, ⟨nd, rfl⟩⟩; refine ⟨_, rfl, ?_⟩))
       (try simp only [Act.put, List.setIfInBounds_toArray, List.set_cons_zero, List.set_cons_succ])
       go_cut [17] (fun v17 wc => ∃ (kq : Nat) (x17_6 : Bool), v17 = .bool x17_6 ∧ Aside0 (impl_IsPattern.j1 kq l0 x3_1 (rd l0 x8_1) l0 (l0.length : Int) x8_1 x17_6 = some r) ∧ Aside0 (kq ≤ k1) ∧ Drawn0 w wc)
       case first =>
        have H := HC7.out
        clear HC7
        by_cases c8 : (rd l0 x8_1) = (-1)
        ·rw [if_pos c8] at H
         have c8b0 : ((rd l0 x8_1) == (-1)) = true := beq_iff_eq.mpr c8
         have c8b1 : ((rd l0 x8_1) != (-1)) = false := bne_eq_false_iff_eq.mpr c8
         clear c8
         (first | rw [c8b0] | (simp only [i64_w, i32_w]; rw [c8b0]) | skip)
         have H' := QN H
         clear H
         go_wp2
         go_meet
         case rel => exact ⟨_, (decide (x3_1 ≥ 1)), (by first | rfl | (simp; done) | (simp [*]; done)), H', ⟨by have := HK1.out; first | omega | exact Nat.le_refl _⟩, by repeat (first | exact Drawn0.refl _ | apply Drawn0.step)⟩
        ·rw [if_neg c8] at H
         have c8b0 : ((rd l0 x8_1) == (-1)) = false := beq_eq_false_iff_ne.mpr c8
         have c8b1 : ((rd l0 x8_1) != (-1)) = true := bne_iff_ne.mpr c8
         (first | rw [c8b0] | (simp only [i64_w, i32_w]; rw [c8b0]) | skip)
         have H' := QN H
         clear H
         go_wp2
         go_meet
         case rel => exact ⟨_, (false), (by first | rfl | (simp; done) | (simp [*]; done)), H', ⟨by have := HK1.out; first | omega | exact Nat.le_refl _⟩, by repeat (first | exact Drawn0.refl _ | apply Drawn0.step)⟩
       case rest =>
        clear HC7
        try clear c1
        try clear c2
        try clear c2b0
        try clear p2
        try clear c3
        try clear c3b0
        try clear p3
        try clear q3
        try clear hx3
        try clear c4
        try clear c4b0
        try clear c6
        try clear p6
        try clear c8
        try clear c8b0
        try clear c8b1
        try clear hx313_0
        try clear p313
        try clear q313
        obtain ⟨kq, x17_6, rfl, HA, HJ6, ⟨mc6, rfl⟩⟩ := hcut
        cases kq with
        | zero => exact absurd HA.out (by simp [impl_IsPattern.j1])
        | succ kj6 =>
         have H := HA.out
         clear HA
         simp only [impl_IsPattern.j1] at H
         by_cases c9 : x17_6 = true
         ·subst c9
          rw [if_pos rfl] at H
          have H' := QN H
          clear H
          go_wp2
          go_roundg kj6
          case measure => have := HK1.out; have := HJ6.out; omega
          case rel => exact ⟨(x3_1), (wrap64 (x8_1 + 1)), (by first | rfl | (simp; done) | (simp [*]; done)), (by first | rfl | (simp; done) | (simp [*]; done)), H', ⟨by have := HK1.out; have := HJ6.out; omega⟩, by repeat (first | exact Drawn0.refl _ | apply Drawn0.step)⟩
         ·replace c9 := Bool.eq_false_iff.mpr c9
          subst c9
          rw [if_neg (show ¬ (false = true) by decide)] at H
          by_cases c10 : (rd l0 x8_1) = (-2)
          ·rw [if_pos c10] at H
           have c10b0 : ((rd l0 x8_1) == (-2)) = true := beq_iff_eq.mpr c10
           have c10b1 : ((rd l0 x8_1) != (-2)) = false := bne_eq_false_iff_eq.mpr c10
           clear c10
           by_cases c11 : x3_1 ≥ 2
           ·rw [if_pos c11] at H
            have c11b0 : decide (2 ≤ x3_1) = true := decide_eq_true c11
            clear c11
            have H' := QN H
            clear H
            go_wp2
            go_roundg kj6
            case measure => have := HK1.out; have := HJ6.out; omega
            case rel => exact ⟨(wrap64 (x3_1 - 1)), (wrap64 (x8_1 + 1)), (by first | rfl | (simp; done) | (simp [*]; done)), (by first | rfl | (simp; done) | (simp [*]; done)), H', ⟨by have := HK1.out; have := HJ6.out; omega⟩, by repeat (first | exact Drawn0.refl _ | apply Drawn0.step)⟩
           ·rw [if_neg c11] at H
            have c11b0 : decide (2 ≤ x3_1) = false := decide_eq_false c11
            clear c11
            obtain rfl := Option.some.inj H
            go_wp2
            go_ret
            exact ⟨by first | rfl | (simp; done) | (simp [*]; done), by repeat (first | exact Drawn0.refl _ | apply Drawn0.step)⟩
          ·rw [if_neg c10] at H
           have c10b0 : ((rd l0 x8_1) == (-2)) = false := beq_eq_false_iff_ne.mpr c10
           have c10b1 : ((rd l0 x8_1) != (-2)) = true := bne_iff_ne.mpr c10
           by_cases c12 : (rd l0 x8_1) = (-3)
           ·rw [if_pos c12] at H
            have c12b0 : ((rd l0 x8_1) == (-3)) = true := beq_iff_eq.mpr c12
            have c12b1 : ((rd l0 x8_1) != (-3)) = false := bne_eq_false_iff_eq.mpr c12
            clear c12
            by_cases c11 : x3_1 ≥ 2
            ·rw [if_pos c11] at H
             have c11b0 : decide (2 ≤ x3_1) = true := decide_eq_true c11
             clear c11
             have H' := QN H
             clear H
             go_wp2
             go_roundg kj6
             case measure => have := HK1.out; have := HJ6.out; omega
             case rel => exact ⟨(wrap64 (x3_1 - 1)), (wrap64 (x8_1 + 1)), (by first | rfl | (simp; done) | (simp [*]; done)), (by first | rfl | (simp; done) | (simp [*]; done)), H', ⟨by have := HK1.out; have := HJ6.out; omega⟩, by repeat (first | exact Drawn0.refl _ | apply Drawn0.step)⟩
            ·rw [if_neg c11] at H
             have c11b0 : decide (2 ≤ x3_1) = false := decide_eq_false c11
             clear c11
             obtain rfl := Option.some.inj H
             go_wp2
             go_ret
             exact ⟨by first | rfl | (simp; done) | (simp [*]; done), by repeat (first | exact Drawn0.refl _ | apply Drawn0.step)⟩
           ·rw [if_neg c12] at H
            have c12b0 : ((rd l0 x8_1) == (-3)) = false := beq_eq_false_iff_ne.mpr c12
            have c12b1 : ((rd l0 x8_1) != (-3)) = true := bne_iff_ne.mpr c12
            obtain rfl := Option.some.inj H
            go_wp2
            go_ret
            exact ⟨by first | rfl | (simp; done) | (simp [*]; done), by repeat (first | exact Drawn0.refl _ | apply Drawn0.step)⟩
     ·rw [if_neg c4] at H
      exact absurd H (by simp)
    ·rw [if_neg c3] at H
     exact absurd H (by simp)
   ·rw [if_neg c2] at H
    have c2b0 : decide (x8_1 < (l0.length : Int)) = false := decide_eq_false c2
    clear c2
    replace H := QO.mp H
    obtain ⟨t312, A140, H⟩ := H
    have A14 := QN A140
    clear A140
    by_cases c15 : t312 = true
    ·subst c15
     rw [if_pos rfl] at H
     obtain rfl := Option.some.inj H
     go_wp2_with (first | ((with_reducible refine gate_callee (f := 85) rfl ?_); refine goesL_ (some 40) rfl rfl Try.func85 (by kernel_rfl) rfl #[.int .i64 (l0.length : Int), .int .i64 1, .int .i64 20] rfl (by (try simp only [List.map_toArray, List.map_cons, List.map_nil]); first | done | rfl | (simp only [List.length_drop, List.length_take]; rfl)) ?_; (with_reducible refine (impl_InRange.calls (l0.length : Int) 1 20 true _ A14.out).mono ?_); rintro e w' ⟨rfl, ⟨nd, rfl⟩⟩; refine ⟨_, rfl, ?_⟩))
     go_ret
     exact ⟨by first | rfl | (simp; done) | (simp [*]; done), by repeat (first | exact Drawn0.refl _ | apply Drawn0.step)⟩
    ·replace c15 := Bool.eq_false_iff.mpr c15
     subst c15
     rw [if_neg (show ¬ (false = true) by decide)] at H
     obtain rfl := Option.some.inj H
     go_wp2_with (first | ((with_reducible refine gate_callee (f := 85) rfl ?_); refine goesL_ (some 40) rfl rfl Try.func85 (by kernel_rfl) rfl #[.int .i64 (l0.length : Int), .int .i64 1, .int .i64 20] rfl (by (try simp only [List.map_toArray, List.map_cons, List.map_nil]); first | done | rfl | (simp only [List.length_drop, List.length_take]; rfl)) ?_; (with_reducible refine (impl_InRange.calls (l0.length : Int) 1 20 false _ A14.out).mono ?_); rintro e w' ⟨rfl, ⟨nd, rfl⟩⟩; refine ⟨_, rfl, ?_⟩))
     go_ret
     exact ⟨by first | rfl | (simp; done) | (simp [*]; done), by repeat (first | exact Drawn0.refl _ | apply Drawn0.step)⟩

/-! ### impl_isMaybe: function 152 -/
def impl_isMaybe.f (k : Nat) (l0 : List Int) : Option (Bool) := if (l0.length : Int) = 0 then (some true) else ((impl_IsPattern.f k l0).bind fun t315 => (some t315))
theorem impl_isMaybe.mono : ∀ a0 k, LeO (impl_isMaybe.f k a0) (impl_isMaybe.f (k + 1) a0) := by
 intro a0 k
 unfold impl_isMaybe.f
 repeat' first
   | (with_reducible exact impl_IsPattern.mono _ _)
   | (with_reducible exact LeO.refl _)
   | (with_reducible exact LeO.none _)
   | (with_reducible refine LeO.ite ?_ ?_)
   | (with_reducible refine LeO.bind ?_ (fun _ => ?_))
   | exact impl_IsPattern.mono _ _
   | exact LeO.none _
   | refine LeO.ite ?_ ?_
   | refine LeO.bind ?_ (fun _ => ?_)
set_option maxHeartbeats 8000000 in
set_option maxRecDepth 100000 in
theorem impl_isMaybe.calls (k : Nat) (A0 : Option Addr) (c0 : Nat) (l0 : List Int) (r : Bool) (w : World) (hr0 : Kd.C (Kd.int .i64) w A0 l0.length l0) (hc0 : l0.length ≤ c0) (h : impl_isMaybe.f k l0 = some r) :
  Calls Try.prog 152 #[.slice A0 l0.length c0] w fun e w' => e = .returned (.bool r) ∧ Drawn0 w w' := by
 have HR0 := QN hr0
 have HC0 := QN hc0
 clear hr0 hc0
 have H : (if (l0.length : Int) = 0 then (some true) else ((impl_IsPattern.f k l0).bind fun t315 => (some t315))) = some r := h
 clear h
 by_cases c2 : (l0.length : Int) = 0
 ·rw [if_pos c2] at H
  have c2b0 : ((l0.length : Int) == 0) = true := beq_iff_eq.mpr c2
  have c2b1 : ((l0.length : Int) != 0) = false := bne_eq_false_iff_eq.mpr c2
  clear c2
  obtain rfl := Option.some.inj H
  go_enter Try.func152, Try.ntmps152
  go_wp2
  go_ret
  exact ⟨by first | rfl | (simp; done) | (simp [*]; done), by repeat (first | exact Drawn0.refl _ | apply Drawn0.step)⟩
 ·rw [if_neg c2] at H
  have c2b0 : ((l0.length : Int) == 0) = false := beq_eq_false_iff_ne.mpr c2
  have c2b1 : ((l0.length : Int) != 0) = true := bne_iff_ne.mpr c2
  have c2b2 : ¬ (l0 = []) := fun h_ => c2 (by rw [h_]; rfl)
  replace H := QO.mp H
  obtain ⟨t315, A30, H⟩ := H
  have A3 := QN A30
  clear A30
  obtain rfl := Option.some.inj H
  go_enter Try.func152, Try.ntmps152
  go_wp2_with (first | (go_at_call 147; (with_reducible refine (impl_IsPattern.calls k _ _ l0 t315 _ ?side1 ?side2 A3.out).mono ?_); (case side1 => repeat (first | exact HR0.out | (with_reducible refine QI ?_ _) | (with_reducible refine QJ ?_ _) | (with_reducible refine QM ?_))); (case side2 => exact HC0.out); rintro e w' ⟨rfl, ⟨nd, rfl⟩⟩))
  go_ret
  exact ⟨by first | rfl | (simp; done) | (simp [*]; done), by repeat (first | exact Drawn0.refl _ | apply Drawn0.step)⟩

/-! ### impl_IsRules: function 110 -/
def impl_IsRules.f (k : Nat) (a0_0 : Int) (a0_1 : Int) (a0_2 : Bool) (a0_3 : Bool) (l0_4 : List Int) (l0_5 : List Int) (a0_6 : Int) (a0_7 : Int) : Option (Bool) := (impl_InRange.f a0_0 2 6).bind fun t317 => (if t317 = true then ((impl_InRange.f a0_1 1 8).bind fun t318 => (if t318 = true then (if a0_2 = true then ((impl_isMaybe.f k l0_4).bind fun t319 => (if t319 = true then ((impl_isMaybe.f k l0_5).bind fun t320 => (if t320 = true then ((impl_InRange.f a0_6 1 4).bind fun t321 => (if t321 = true then ((impl_InRange.f a0_7 1 400).bind fun t322 => (some t322)) else (some false))) else (some false))) else (some false))) else (if a0_3 = true then ((impl_isMaybe.f k l0_4).bind fun t323 => (if t323 = true then ((impl_isMaybe.f k l0_5).bind fun t324 => (if t324 = true then ((impl_InRange.f a0_6 1 4).bind fun t325 => (if t325 = true then ((impl_InRange.f a0_7 1 400).bind fun t326 => (some t326)) else (some false))) else (some false))) else (some false))) else (some false))) else (some false))) else (some false))
theorem impl_IsRules.mono : ∀ a0 a1 a2 a3 a4 a5 a6 a7 k, LeO (impl_IsRules.f k a0 a1 a2 a3 a4 a5 a6 a7) (impl_IsRules.f (k + 1) a0 a1 a2 a3 a4 a5 a6 a7) := by
 intro a0 a1 a2 a3 a4 a5 a6 a7 k
 unfold impl_IsRules.f
 repeat' first
   | (with_reducible exact impl_isMaybe.mono _ _)
   | (with_reducible exact LeO.refl _)
   | (with_reducible exact LeO.none _)
   | (with_reducible refine LeO.ite ?_ ?_)
   | (with_reducible refine LeO.bind ?_ (fun _ => ?_))
   | exact impl_isMaybe.mono _ _
   | exact LeO.none _
   | refine LeO.ite ?_ ?_
   | refine LeO.bind ?_ (fun _ => ?_)
set_option maxHeartbeats 8000000 in
set_option maxRecDepth 100000 in
theorem impl_IsRules.calls (k : Nat) (a0_0 : Int) (a0_1 : Int) (a0_2 : Bool) (a0_3 : Bool) (A0_4 : Option Addr) (c0_4 : Nat) (l0_4 : List Int) (A0_5 : Option Addr) (c0_5 : Nat) (l0_5 : List Int) (a0_6 : Int) (a0_7 : Int) (r : Bool) (w : World) (hr0_4 : Kd.C (Kd.int .i64) w A0_4 l0_4.length l0_4) (hc0_4 : l0_4.length ≤ c0_4) (hr0_5 : Kd.C (Kd.int .i64) w A0_5 l0_5.length l0_5) (hc0_5 : l0_5.length ≤ c0_5) (h : impl_IsRules.f k a0_0 a0_1 a0_2 a0_3 l0_4 l0_5 a0_6 a0_7 = some r) :
  Calls Try.prog 110 #[.agg #[.int .i64 a0_0, .int .i64 a0_1, .bool a0_2, .bool a0_3, .slice A0_4 l0_4.length c0_4, .slice A0_5 l0_5.length c0_5, .int .i64 a0_6, .int .i64 a0_7]] w fun e w' => e = .returned (.bool r) ∧ Below w.heap.size w w' := by
 have hu41 := Try.underlying41
 have HR0_4 := QN hr0_4
 have HC0_4 := QN hc0_4
 clear hr0_4 hc0_4
 have HR0_5 := QN hr0_5
 have HC0_5 := QN hc0_5
 clear hr0_5 hc0_5
 have HB := QN (Below.refl w.heap.size w)
 have H : ((impl_InRange.f a0_0 2 6).bind fun t317 => (if t317 = true then ((impl_InRange.f a0_1 1 8).bind fun t318 => (if t318 = true then (if a0_2 = true then ((impl_isMaybe.f k l0_4).bind fun t319 => (if t319 = true then ((impl_isMaybe.f k l0_5).bind fun t320 => (if t320 = true then ((impl_InRange.f a0_6 1 4).bind fun t321 => (if t321 = true then ((impl_InRange.f a0_7 1 400).bind fun t322 => (some t322)) else (some false))) else (some false))) else (some false))) else (if a0_3 = true then ((impl_isMaybe.f k l0_4).bind fun t323 => (if t323 = true then ((impl_isMaybe.f k l0_5).bind fun t324 => (if t324 = true then ((impl_InRange.f a0_6 1 4).bind fun t325 => (if t325 = true then ((impl_InRange.f a0_7 1 400).bind fun t326 => (some t326)) else (some false))) else (some false))) else (some false))) else (some false))) else (some false))) else (some false))) = some r := h
 clear h
 replace H := QO.mp H
 obtain ⟨t317, A20, H⟩ := H
 have A2 := QN A20
 clear A20
 by_cases c3 : t317 = true
 rotate_left
 replace c3 := Bool.eq_false_iff.mpr c3
 subst c3
 rw [if_neg (show ¬ (false = true) by decide)] at H
 obtain rfl := Option.some.inj H
 rotate_right
 subst c3
 rw [if_pos rfl] at H
 replace H := QO.mp H
 obtain ⟨t318, A40, H⟩ := H
 have A4 := QN A40
 clear A40
 by_cases c5 : t318 = true
 rotate_left
 replace c5 := Bool.eq_false_iff.mpr c5
 subst c5
 rw [if_neg (show ¬ (false = true) by decide)] at H
 obtain rfl := Option.some.inj H
 rotate_right
 subst c5
 rw [if_pos rfl] at H
 by_cases c6 : a0_2 = true
 rotate_left
 replace c6 := Bool.eq_false_iff.mpr c6
 subst c6
 rw [if_neg (show ¬ (false = true) by decide)] at H
 by_cases c22 : a0_3 = true
 rotate_left
 replace c22 := Bool.eq_false_iff.mpr c22
 subst c22
 rw [if_neg (show ¬ (false = true) by decide)] at H
 obtain rfl := Option.some.inj H
 rotate_right
 subst c22
 rw [if_pos rfl] at H
 replace H := QO.mp H
 obtain ⟨t319, A70, H⟩ := H
 have A7 := QN A70
 clear A70
 try (obtain rfl := Option.some.inj (A7.out.symm.trans A7.out))
 by_cases c8 : t319 = true
 rotate_left
 replace c8 := Bool.eq_false_iff.mpr c8
 subst c8
 rw [if_neg (show ¬ (false = true) by decide)] at H
 obtain rfl := Option.some.inj H
 rotate_right
 subst c8
 rw [if_pos rfl] at H
 replace H := QO.mp H
 obtain ⟨t320, A90, H⟩ := H
 have A9 := QN A90
 clear A90
 try (obtain rfl := Option.some.inj (A9.out.symm.trans A9.out))
 by_cases c10 : t320 = true
 rotate_left
 replace c10 := Bool.eq_false_iff.mpr c10
 subst c10
 rw [if_neg (show ¬ (false = true) by decide)] at H
 obtain rfl := Option.some.inj H
 rotate_right
 subst c10
 rw [if_pos rfl] at H
 replace H := QO.mp H
 obtain ⟨t321, A110, H⟩ := H
 have A11 := QN A110
 clear A110
 try (obtain rfl := Option.some.inj (A11.out.symm.trans A11.out))
 by_cases c12 : t321 = true
 rotate_left
 replace c12 := Bool.eq_false_iff.mpr c12
 subst c12
 rw [if_neg (show ¬ (false = true) by decide)] at H
 obtain rfl := Option.some.inj H
 rotate_right
 subst c12
 rw [if_pos rfl] at H
 replace H := QO.mp H
 obtain ⟨t322, A130, H⟩ := H
 have A13 := QN A130
 clear A130
 try (obtain rfl := Option.some.inj (A13.out.symm.trans A13.out))
 obtain rfl := Option.some.inj H
 rotate_right
 subst c6
 rw [if_pos rfl] at H
 replace H := QO.mp H
 obtain ⟨t319, A70, H⟩ := H
 have A7 := QN A70
 clear A70
 by_cases c8 : t319 = true
 rotate_left
 replace c8 := Bool.eq_false_iff.mpr c8
 subst c8
 rw [if_neg (show ¬ (false = true) by decide)] at H
 obtain rfl := Option.some.inj H
 rotate_right
 subst c8
 rw [if_pos rfl] at H
 replace H := QO.mp H
 obtain ⟨t320, A90, H⟩ := H
 have A9 := QN A90
 clear A90
 by_cases c10 : t320 = true
 rotate_left
 replace c10 := Bool.eq_false_iff.mpr c10
 subst c10
 rw [if_neg (show ¬ (false = true) by decide)] at H
 obtain rfl := Option.some.inj H
 rotate_right
 subst c10
 rw [if_pos rfl] at H
 replace H := QO.mp H
 obtain ⟨t321, A110, H⟩ := H
 have A11 := QN A110
 clear A110
 by_cases c12 : t321 = true
 rotate_left
 replace c12 := Bool.eq_false_iff.mpr c12
 subst c12
 rw [if_neg (show ¬ (false = true) by decide)] at H
 obtain rfl := Option.some.inj H
 rotate_right
 subst c12
 rw [if_pos rfl] at H
 replace H := QO.mp H
 obtain ⟨t322, A130, H⟩ := H
 have A13 := QN A130
 clear A130
 obtain rfl := Option.some.inj H
 all_goals
  go_enter Try.func110, Try.ntmps110
  go_wp2_with (first | ((with_reducible refine gate_dst (N := 1) rfl ?_); refine box_event ?hg (N := 1) ?hd (cs := #[.int .i64 a0_0, .int .i64 a0_1, .bool _, .bool _, .slice A0_4 l0_4.length c0_4, .slice A0_5 l0_5.length c0_5, .int .i64 a0_6, .int .i64 a0_7]) (t := 41) ?hr ?_; (case hd => rfl); (case hg => rfl); (case hr => first | (go_simp; done) | (go_simp; rfl)); intro gb316 hg w30 hbox hb; have n0_ := QN (below_step (by repeat (first | (with_reducible first | exact HB.out | apply QE | apply QB | apply QD) | exact HB.out)) hb); have n1_ := QN (hbox); have n2_ := QN ((by rw [hg]; exact (below_size (by repeat (first | (with_reducible first | exact HB.out | apply QE | apply QB | apply QD) | exact HB.out))) : w.heap.size ≤ gb316)); have n3_ := QN ((by rw [hg]; exact (below_size (by repeat (first | (with_reducible first | exact HB.out | apply QE | apply QB | apply QD) | exact HB.out))) : w.heap.size ≤ gb316)); clear HB; have HB := n0_; have BK316 := n1_; have GW316 := n2_; have GE316 := n3_; clear n0_ n1_ n2_ n3_; clear hb hbox hg; have hcz31_0 : w30.cell? ⟨gb316, 0, none⟩ = some (.int .i64 a0_0) := (QC BK316.out 0).trans rfl; have hcz31_1 : w30.cell? ⟨gb316, 1, none⟩ = some (.int .i64 a0_1) := (QC BK316.out 1).trans rfl; have hcz31_2 : w30.cell? ⟨gb316, 2, none⟩ = some (.bool _) := (QC BK316.out 2).trans rfl; have hcz31_3 : w30.cell? ⟨gb316, 3, none⟩ = some (.bool _) := (QC BK316.out 3).trans rfl; have hcz31_4 : w30.cell? ⟨gb316, 4, none⟩ = some (.slice A0_4 l0_4.length c0_4) := (QC BK316.out 4).trans rfl; have hcz31_5 : w30.cell? ⟨gb316, 5, none⟩ = some (.slice A0_5 l0_5.length c0_5) := (QC BK316.out 5).trans rfl; have hcz31_6 : w30.cell? ⟨gb316, 6, none⟩ = some (.int .i64 a0_6) := (QC BK316.out 6).trans rfl; have hcz31_7 : w30.cell? ⟨gb316, 7, none⟩ = some (.int .i64 a0_7) := (QC BK316.out 7).trans rfl; have hfz31_0 := QF BK316.out 0; have hfz31_1 := QF BK316.out 1; have hfz31_2 := QF BK316.out 2; have hfz31_3 := QF BK316.out 3; have hfz31_4 := QF BK316.out 4; have hfz31_5 := QF BK316.out 5; have hfz31_6 := QF BK316.out 6; have hfz31_7 := QF BK316.out 7) | ((with_reducible refine gate_callee (f := 85) rfl ?_); refine goesL_ (some 5) rfl rfl Try.func85 (by kernel_rfl) rfl #[.int .i64 a0_0, .int .i64 2, .int .i64 6] rfl (by (try simp only [List.map_toArray, List.map_cons, List.map_nil]); first | done | rfl | (simp only [List.length_drop, List.length_take]; rfl)) ?_; (with_reducible refine (impl_InRange.calls a0_0 2 6 _ _ A2.out).mono ?_); rintro e w' ⟨rfl, ⟨nd, rfl⟩⟩; refine ⟨_, rfl, ?_⟩) | (go_at_call 85; (with_reducible refine (impl_InRange.calls a0_1 1 8 _ _ A4.out).mono ?_); rintro e w' ⟨rfl, ⟨nd, rfl⟩⟩) | (go_at_call 152; (with_reducible refine (impl_isMaybe.calls k _ _ l0_4 _ _ ?side1 ?side2 A7.out).mono ?_); (case side1 => repeat (first | exact (QL HR0_4.out (by repeat (first | (with_reducible first | exact HB.out | apply QE | apply QB | apply QD | refine below_set ?_ GE316.out) | exact HB.out))) | (with_reducible refine QI ?_ _) | (with_reducible refine QJ ?_ _) | (with_reducible refine QM ?_))); (case side2 => exact HC0_4.out); rintro e w' ⟨rfl, ⟨nd, rfl⟩⟩) | (go_at_call 152; (with_reducible refine (impl_isMaybe.calls k _ _ l0_5 _ _ ?side1 ?side2 A9.out).mono ?_); (case side1 => repeat (first | exact (QL HR0_5.out (by repeat (first | (with_reducible first | exact HB.out | apply QE | apply QB | apply QD | refine below_set ?_ GE316.out) | exact HB.out))) | (with_reducible refine QI ?_ _) | (with_reducible refine QJ ?_ _) | (with_reducible refine QM ?_))); (case side2 => exact HC0_5.out); rintro e w' ⟨rfl, ⟨nd, rfl⟩⟩) | (go_at_call 85; (with_reducible refine (impl_InRange.calls a0_6 1 4 _ _ A11.out).mono ?_); rintro e w' ⟨rfl, ⟨nd, rfl⟩⟩) | (go_at_call 85; (with_reducible refine (impl_InRange.calls a0_7 1 400 t322 _ A13.out).mono ?_); rintro e w' ⟨rfl, ⟨nd, rfl⟩⟩))
  go_ret
  exact ⟨by first | rfl | (simp [errW_none, errW_some] <;> rfl) | (simp [*, errW_none, errW_some] <;> rfl), by repeat (first | (with_reducible first | exact HB.out | apply QE | apply QB | apply QD | refine below_set ?_ GE316.out) | exact HB.out)⟩

/-! ### impl_IsCard: function 86 -/
def impl_IsCard.f (a0 : Int) : Option (Bool) := (impl_InRange.f a0 0 51).bind fun t327 => (some t327)
set_option maxHeartbeats 8000000 in
set_option maxRecDepth 100000 in
theorem impl_IsCard.calls (a0 : Int) (r : Bool) (w : World) (h : impl_IsCard.f a0 = some r) :
  Calls Try.prog 86 #[.int .i64 a0] w fun e w' => e = .returned (.bool r) ∧ Drawn0 w w' := by
 have H : ((impl_InRange.f a0 0 51).bind fun t327 => (some t327)) = some r := h
 clear h
 replace H := QO.mp H
 obtain ⟨t327, A20, H⟩ := H
 have A2 := QN A20
 clear A20
 obtain rfl := Option.some.inj H
 go_enter Try.func86, Try.ntmps86
 go_wp2_with (first | ((with_reducible refine gate_callee (f := 85) rfl ?_); refine goesL_ (some 4) rfl rfl Try.func85 (by kernel_rfl) rfl #[.int .i64 a0, .int .i64 0, .int .i64 51] rfl (by (try simp only [List.map_toArray, List.map_cons, List.map_nil]); first | done | rfl | (simp only [List.length_drop, List.length_take]; rfl)) ?_; (with_reducible refine (impl_InRange.calls a0 0 51 t327 _ A2.out).mono ?_); rintro e w' ⟨rfl, ⟨nd, rfl⟩⟩; refine ⟨_, rfl, ?_⟩))
 go_ret
 exact ⟨by first | rfl | (simp; done) | (simp [*]; done), by repeat (first | exact Drawn0.refl _ | apply Drawn0.step)⟩

/-! ### impl_IsHand: function 20 -/
def impl_IsHand.handF : List Bool → List Int → Bool
 | _, [] => true
 | seen, c :: r => if 0 ≤ c ∧ c ≤ 51 then (if seen.getD c.toNat false = true then false else impl_IsHand.handF (seen.set c.toNat true) r) else false
def impl_IsHand.f (l0 : List Int) : Option (Bool) := some (impl_IsHand.handF (List.replicate 52 false) l0)
theorem impl_IsHand.hand_cell {w : World} {g T : Nat} {seen : List Bool} (h : w.heap[g]? = some (.cells (bools seen).toArray T (0, 0))) (c : Int) (h0 : 0 ≤ c) (h1 : c < (seen.length : Int)) : w.cell? ⟨g, c.toNat, none⟩ = some (.bool (seen.getD c.toNat false)) := by
 have hl : c.toNat < seen.length := by omega
 rw [cell_of_row w g c.toNat _ T (0, 0) h]
 simp [bools, List.getElem?_eq_getElem hl, List.getD_eq_getElem?_getD]
theorem impl_IsHand.hand_set {w : World} {g T : Nat} {seen : List Bool} (h : w.heap[g]? = some (.cells (bools seen).toArray T (0, 0))) (c : Nat) : (w.setCell ⟨g, c, none⟩ (.bool true)).heap[g]? = some (.cells (bools (seen.set c true)).toArray T (0, 0)) := by
 simp [World.setCell, Array.getElem?_modify, h, bools, List.map_set]
theorem impl_IsHand.hand_frozen {w : World} {g T : Nat} {cs : Array Value} (h : w.heap[g]? = some (.cells cs T (0, 0))) (i : Nat) : w.frozen? ⟨g, i, none⟩ = false := by simp [World.frozen?, h]
set_option maxHeartbeats 2000000 in
set_option maxRecDepth 100000 in
theorem impl_IsHand.hand_any {P : Program} (F : P.funcs[20]? = some Try.f20) (t3 : P.underlying 3 = some (.int .i64)) (a3 : ∀ w, (isAgg 3).run P w = .ok false w) (z3 : ∀ w, (Go.sizeOf 3).run P w = .ok 1 w)
  (t4 : P.underlying 4 = some .bool) (a4 : ∀ w, (isAgg 4).run P w = .ok false w) (z4 : ∀ w, (Go.sizeOf 4).run P w = .ok 1 w)
  (t22 : P.underlying 24 = some (.slice 3)) (t68 : P.underlying 96 = some (.array 52 4))
  (Z : Array Value) (HZ : Aside0 (Z = (bools (List.replicate 52 false)).toArray)) (v68 : ∀ w, (zeroValue 96).run P w = .ok (.agg Z) w) (i68 : (P.info? 96).map (·.size) = some 52) (Z52 : Z.size = 52) (Z1 : Z.all (·.oneCell') = true)
  (E : ∀ args w, (callFunc 86 args).run P w = .ok (.enter 86 args) w)
  (Cy : ∀ (a : Int) (w : World), 0 ≤ a ∧ a ≤ 51 → Calls P 86 #[.int .i64 a] w fun e w' => e = .returned (.bool true) ∧ Drawn0 w w')
  (Cn : ∀ (a : Int) (w : World), ¬ (0 ≤ a ∧ a ≤ 51) → Calls P 86 #[.int .i64 a] w fun e w' => e = .returned (.bool false) ∧ Drawn0 w w')
  (A0 : Option Addr) (c0 : Nat) (l0 : List Int) (w : World) (hr0 : Kd.C (Kd.int .i64) w A0 l0.length l0) :
  Calls P 20 #[.slice A0 l0.length c0] w fun e w' => e = .returned (.bool (impl_IsHand.handF (List.replicate 52 false) l0)) ∧ Below w.heap.size w w' := by
 have HR0 := QN hr0
 have HL := QN hr0.2.1
 clear hr0
 have hst := run_storeCells_new (P := P) w 96 Z Z (by rw [i68, Z52]) rfl Z1
 have z68 : ∀ w, (Go.sizeOf 96).run P w = .ok 52 w := by
  intro w
  cases h : P.info? 96 with
  | none => simp [h] at i68
  | some i => simp [h] at i68; simp [Go.sizeOf, typeInfo, h, i68]
 have u68 : ∀ w, (underlying 96).run P w = .ok (.array 52 4) w := run_underlying t68
 go_enter F, Try.ntmps20
 go_wp2
 clear z68 u68 hst
 go_loopg [9] l0.length (fun g v9 wx => ∃ (i : Nat) (seen : List Bool), v9 = .int .i64 (i : Int) ∧ Aside0 (i + g = l0.length) ∧ Aside0 (seen.length = 52) ∧ Aside0 (impl_IsHand.handF seen (l0.drop i) = impl_IsHand.handF (List.replicate 52 false) l0) ∧ Aside0 (wx.heap[w.heap.size]? = some (.cells (bools seen).toArray 96 (0, 0))) ∧ Aside0 (Below w.heap.size w wx))
 case atStart => exact ⟨0, List.replicate 52 false, rfl, ⟨by simp⟩, ⟨by simp⟩, ⟨by simp⟩, ⟨by rw [← HZ.out]; exact heap_alloc_last _ _⟩, ⟨(Below.refl _ _).alloc (Nat.le_refl _) _⟩⟩
 case round =>
  obtain ⟨i, seen, rfl, HI, HS, HH, HC, HB⟩ := hrel
  cases gk with
  | zero =>
   have hi : ¬ ((i : Int) < (l0.length : Int)) := by have := HI.out; omega
   have hi' : decide ((i : Int) < (l0.length : Int)) = false := decide_eq_false hi
   have hi'' : decide (i < l0.length) = false := by have := HI.out; simp; omega
   clear hi
   have fin : impl_IsHand.handF (List.replicate 52 false) l0 = true := by
    rw [← HH.out, List.drop_of_length_le (by have := HI.out; omega)]
    cases seen <;> rfl
   have FIN := QN fin
   clear fin
   go_wp2
   go_ret
   exact ⟨by rw [FIN.out]; first | rfl | (simp; done), HB.out⟩
  | succ g =>
   have hi : (i : Int) < (l0.length : Int) := by have := HI.out; omega
   have h0 : 0 ≤ (i : Int) := by omega
   obtain ⟨ad, e1, hx⟩ := Kd.at_int (QL HR0.out HB.out) (i : Int) h0 hi
   cases e1
   simp only [Int.toNat_natCast] at hx
   have hdrop : l0.drop i = rd l0 (i : Int) :: l0.drop (i + 1) := by
    have hn : i < l0.length := by omega
    rw [List.drop_eq_getElem_cons hn]
    unfold rd
    simp [List.getD_eq_getElem?_getD, List.getElem?_eq_getElem hn]
   have HD := QN hdrop
   clear hdrop
   generalize hc : rd l0 (i : Int) = c at *
   clear hc
   have hl2 := HL.out
   by_cases hv : 0 ≤ c ∧ c ≤ 51
   ·have hcell := impl_IsHand.hand_cell HC.out c hv.1 (by have := HS.out; omega)
    have hfz := impl_IsHand.hand_frozen HC.out c.toNat
    have HV := QN hv
    have v0 := hv.1
    have v1 := hv.2
    clear hv
    have hstep : impl_IsHand.handF seen (c :: l0.drop (i + 1)) = if seen.getD c.toNat false = true then false else impl_IsHand.handF (seen.set c.toNat true) (l0.drop (i + 1)) := by rw [impl_IsHand.handF, if_pos HV.out]
    have HT := QN hstep
    clear hstep
    generalize hs : seen.getD c.toNat false = s at hcell
    have HSS := QN hs
    clear hs
    cases s with
    | true =>
     have fin : impl_IsHand.handF (List.replicate 52 false) l0 = false := by rw [← HH.out, HD.out, HT.out, HSS.out]; rfl
     have FIN := QN fin
     clear fin
     go_wp2_with (go_at_fn 86; refine (Cy c _ HV.out).mono ?_; rintro e w' ⟨rfl, nd, rfl⟩)
     go_ret
     exact ⟨by rw [FIN.out]; first | rfl | (simp; done), by repeat (first | exact HB.out | apply QB | apply QD)⟩
    | false =>
     have nxt : impl_IsHand.handF (seen.set c.toNat true) (l0.drop (i + 1)) = impl_IsHand.handF (List.replicate 52 false) l0 := by rw [← HH.out, HD.out, HT.out, HSS.out]; rfl
     have NXT := QN nxt
     clear nxt
     go_wp2_with (go_at_fn 86; refine (Cy c _ HV.out).mono ?_; rintro e w' ⟨rfl, nd, rfl⟩)
     go_roundg g
     case measure => omega
     case rel => exact ⟨i + 1, seen.set c.toNat true, by go_num, ⟨by have := HI.out; omega⟩, ⟨by rw [List.length_set]; exact HS.out⟩, NXT, ⟨impl_IsHand.hand_set HC.out _⟩, ⟨Below.setCell (QB HB.out _) (Nat.le_refl _) _⟩⟩
   ·have fin : impl_IsHand.handF (List.replicate 52 false) l0 = false := by rw [← HH.out, HD.out, impl_IsHand.handF, if_neg hv]
    have FIN := QN fin
    clear fin
    have HV := QN hv
    clear hv
    go_wp2_with (go_at_fn 86; refine (Cn c _ HV.out).mono ?_; rintro e w' ⟨rfl, nd, rfl⟩)
    go_ret
    exact ⟨by rw [FIN.out]; first | rfl | (simp; done), by repeat (first | exact HB.out | apply QB | apply QD)⟩
theorem impl_IsHand.card_yes (a : Int) (h : 0 ≤ a ∧ a ≤ 51) : impl_IsCard.f a = some true := by simp [impl_IsCard.f, impl_InRange.f, h.1, h.2]
theorem impl_IsHand.card_no (a : Int) (h : ¬ (0 ≤ a ∧ a ≤ 51)) : impl_IsCard.f a = some false := by
 by_cases h0 : 0 ≤ a
 ·have h1 : ¬ a ≤ 51 := fun g => h ⟨h0, g⟩
  simp [impl_IsCard.f, impl_InRange.f, h0, h1]
 ·simp [impl_IsCard.f, impl_InRange.f, h0]
theorem impl_IsHand.calls (A0 : Option Addr) (c0 : Nat) (l0 : List Int) (r : Bool) (w : World) (hr0 : Kd.C (Kd.int .i64) w A0 l0.length l0) (hc0 : l0.length ≤ c0) (h : impl_IsHand.f l0 = some r) :
  Calls Try.prog 20 #[.slice A0 l0.length c0] w fun e w' => e = .returned (.bool r) ∧ Below w.heap.size w w' := by
 obtain rfl := Option.some.inj h
 exact impl_IsHand.hand_any Try.func20 Try.underlying3 Try.isAgg3 Try.sizeOf3 Try.underlying4 Try.isAgg4 Try.sizeOf4 Try.underlying24 Try.underlying96 _ ⟨by rfl⟩ Try.zeroValue96 (by kernel_rfl) rfl (by decide +kernel)
  (enters_of Try.func86 (by kernel_rfl) rfl) (fun a w h => impl_IsCard.calls a true w (impl_IsHand.card_yes a h)) (fun a w h => impl_IsCard.calls a false w (impl_IsHand.card_no a h)) A0 c0 l0 w hr0

/-! ### impl_AllApart: function 153 -/
def impl_AllApart.l0 : Nat → List Int → List (List Int) → Int → Int → Option (Bool)
 | 0, _, _, _, _ => none
 | k + 1, x3, x7, x8, x9 => if x9 < x8 then (if 0 ≤ x9 then (if x9 < (x7.length : Int) then (if x3.length + (rd_L1 x7 x9).length < 17592186044416 then (impl_AllApart.l0 k (x3 ++ (rd_L1 x7 x9)) x7 x8 (wrap64 (x9 + 1))) else (none)) else (none)) else (none)) else ((impl_IsHand.f x3).bind fun t341 => (some t341))
def impl_AllApart.f (k : Nat) (l0 : List (List Int)) : Option (Bool) := impl_AllApart.l0 k (([] : List Int)) l0 (l0.length : Int) 0
theorem impl_AllApart.mono_l : ∀ k, (∀ y0 y1 y2 y3, LeO (impl_AllApart.l0 k y0 y1 y2 y3) (impl_AllApart.l0 (k + 1) y0 y1 y2 y3))
 | 0 => fun _ _ _ _ r h => by simp [impl_AllApart.l0] at h
 | k + 1 => by
  have ih0 := impl_AllApart.mono_l k
  ·intro y0 y1 y2 y3
   unfold impl_AllApart.l0
   repeat' first
   | (with_reducible exact ih0 _ _ _ _)
   | (with_reducible exact LeO.refl _)
   | (with_reducible exact LeO.none _)
   | (with_reducible refine LeO.ite ?_ ?_)
   | (with_reducible refine LeO.bind ?_ (fun _ => ?_))
   | exact ih0 _ _ _ _
   | exact LeO.none _
   | refine LeO.ite ?_ ?_
   | refine LeO.bind ?_ (fun _ => ?_)
theorem impl_AllApart.mono : ∀ a0 k, LeO (impl_AllApart.f k a0) (impl_AllApart.f (k + 1) a0) := by
 intro a0 k
 have ih0 := impl_AllApart.mono_l k
 unfold impl_AllApart.f
 repeat' first
   | (with_reducible exact ih0 _ _ _ _)
   | (with_reducible exact LeO.refl _)
   | (with_reducible exact LeO.none _)
   | (with_reducible refine LeO.ite ?_ ?_)
   | (with_reducible refine LeO.bind ?_ (fun _ => ?_))
   | exact ih0 _ _ _ _
   | exact LeO.none _
   | refine LeO.ite ?_ ?_
   | refine LeO.bind ?_ (fun _ => ?_)
set_option maxHeartbeats 8000000 in
set_option maxRecDepth 100000 in
theorem impl_AllApart.calls (k : Nat) (A0 : Option Addr) (c0 : Nat) (l0 : List (List Int)) (r : Bool) (w : World) (hr0 : Kd.C (Kd.slice 3 (Kd.int .i64)) w A0 l0.length l0) (hc0 : l0.length ≤ c0) (h : impl_AllApart.f k l0 = some r) :
  Calls Try.prog 153 #[.slice A0 l0.length c0] w fun e w' => e = .returned (.bool r) ∧ Below w.heap.size w w' := by
 have HR0 := QN hr0
 have HC0 := QN hc0
 clear hr0 hc0
 have HB := QN (Below.refl w.heap.size w)
 have H : (impl_AllApart.l0 k (([] : List Int)) l0 (l0.length : Int) 0) = some r := h
 clear h
 obtain ⟨y334, hy334⟩ : ∃ y_ : List Int, y_ = (([] : List Int)) := ⟨_, rfl⟩
 replace H : (impl_AllApart.l0 k y334 l0 (l0.length : Int) 0) = some r := by first | (rw [hy334]; with_reducible exact H) | (have H2_ := (Option.bind_some _ _).symm.trans H; rw [hy334]; with_reducible exact H2_) | (have H2_ := (Option.bind_some _ _).symm.trans H; with_reducible exact H2_) | with_reducible exact H | (rw [hy334]; exact H) | exact H
 have Ny334 := QN hy334
 clear hy334
 have H' := QN H
 clear H
 go_enter Try.func153, Try.ntmps153
 go_wp2_with (first | ((with_reducible refine gate_dst (N := 6) rfl ?_); refine Kd.R_lit (Kd.int .i64) _ 3 ?hg (N := 6) ?hd (xs := ([] : List Int)) (inner := []) (ok := fun _ => True) (okp := fun _ => True) ?hr ?hp (fun _ hk => hk) trivial (Below.refl _ _) (Nat.le_refl _) (by simp) ?_; (case hd => rfl); (case hg => rfl); (case hr => first | (go_simp; done) | (go_simp; rfl)); (case hp => exact (Reps.none _ _)); intro v335 w2 ho3 hb hg_ hnew_; clear hg_ hnew_; (first | rw [← Ny334.out] at ho3 | (simp only [Int.reduceToNat] at ho3; rw [← Ny334.out] at ho3)); have n0_ := QN (Kd.R_lower ho3 (below_size (by repeat (first | (with_reducible first | exact HB.out | apply QE | apply QB | apply QD) | exact HB.out)))); have n1_ := QN (below_step (by repeat (first | (with_reducible first | exact HB.out | apply QE | apply QB | apply QD) | exact HB.out)) hb); clear HB; have HO336 := n0_; have HB := n1_; clear n0_ n1_; clear hb ho3))
 go_loopg [3, 9] k (fun kq v3 v9 w' => ∃ (x3_1 : List Int) (x9_1 : Int), v9 = .int .i64 x9_1 ∧ Aside0 (impl_AllApart.l0 kq x3_1 l0 (l0.length : Int) x9_1 = some r) ∧ Aside0 (kq ≤ k) ∧ Aside0 (Kd.R (Kd.int .i64) 3 w' w.heap.size (fun _ => True) v3 x3_1) ∧ Aside0 (Below w.heap.size w w'))
 case atStart => exact ⟨(y334), (0), (by first | rfl | (simp; done) | (simp [*]; done)), H', ⟨Nat.le_refl _⟩, ⟨by (with_reducible repeat (first | apply QG | apply QH | apply QK)); exact HO336.out⟩, ⟨by repeat (first | (with_reducible first | exact HB.out | apply QE | apply QB | apply QD) | exact HB.out)⟩⟩
 case round =>
  clear H'
  try clear c1
  try clear p2
  obtain ⟨x3_1, x9_1, rfl, HA, HK1, HO_3, HB⟩ := hrel
  cases gk with
  | zero => exact absurd HA.out (by simp [impl_AllApart.l0])
  | succ k1 =>
   have H := HA.out
   clear HA
   simp only [impl_AllApart.l0] at H
   by_cases c4 : x9_1 < (l0.length : Int)
   ·rw [if_pos c4] at H
    have c4b0 : decide (x9_1 < (l0.length : Int)) = true := decide_eq_true c4
    clear c4
    by_cases c5 : 0 ≤ x9_1
    ·rw [if_pos c5] at H
     have c5b0 : decide (0 ≤ x9_1) = true := decide_eq_true c5
     clear c5
     by_cases c6 : x9_1 < (l0.length : Int)
     ·rw [if_pos c6] at H
      have c6b0 : decide (x9_1 < (l0.length : Int)) = true := decide_eq_true c6
      clear c6
      by_cases c7 : x3_1.length + (rd_L1 l0 x9_1).length < 17592186044416
      ·rw [if_pos c7] at H
       have LMc7 := QN c7
       clear c7
       obtain ⟨y338, hy338⟩ : ∃ y_ : List Int, y_ = (x3_1 ++ (rd_L1 l0 x9_1)) := ⟨_, rfl⟩
       replace H : (impl_AllApart.l0 k1 y338 l0 (l0.length : Int) (wrap64 (x9_1 + 1))) = some r := by first | (rw [hy338]; with_reducible exact H) | (have H2_ := (Option.bind_some _ _).symm.trans H; rw [hy338]; with_reducible exact H2_) | (have H2_ := (Option.bind_some _ _).symm.trans H; with_reducible exact H2_) | with_reducible exact H | (rw [hy338]; exact H) | exact H
       have Ny338 := QN hy338
       clear hy338
       have H' := QN H
       clear H
       have p337 : 0 ≤ (x9_1 : Int) := of_decide_eq_true (by first | (with_reducible assumption) | assumption)
       have q337 : x9_1 < (l0.length : Int) := of_decide_eq_true (by first | (with_reducible assumption) | assumption)
       obtain ⟨ad337, A337_0, c337_0, e337, hx337_0, hl337_0, hi337_0⟩ := at_L1 HR0.out x9_1 p337 q337
       cases e337
       replace hx337_0 := (HB.out.cell (World.block_lt_of_cell? w _ hx337_0)).trans hx337_0
       have HR337_0 := QN hi337_0
       have HC337_0 := QN hl337_0
       clear hi337_0 hl337_0
       replace p337 := eq_true p337
       replace q337 := eq_true q337
       go_wp2_with (first | ((with_reducible refine gate_builtin (b := .append) (xs := #[.tmp 13, .tmp 14]) rfl ?_); at_builtin; refine Kd.R_append_rows (Kd.int .i64) (w0 := w) w.heap.size rfl (.tmp 13) (.tmp 14) 24 3 (.int .i64 0) 8 rfl Try.underlying24 info3 rfl (by decide) (by omega) u3 x3_1 (rd_L1 l0 x9_1) _ _ _ (fun _ => True) (fun _ => False) rfl rfl ?aO ?aR (fun _ _ h => h) (fun _ h => h.elim) ?aF ?aB ?aS ?aL ?_; (case aR => repeat (first | exact (QL HR337_0.out HB.out) | (with_reducible refine QI ?_ _) | (with_reducible refine QJ ?_ _) | (with_reducible refine QM ?_))); (case aB => exact (by repeat (first | (with_reducible first | exact HB.out | apply QE | apply QB | apply QD) | exact HB.out))); (case aF => exact (fun _ _ => trivial)); (case aO => exact (by (with_reducible repeat (first | apply QG | apply QH | apply QK)); exact HO_3.out)); (case aS => exact (below_size (by repeat (first | (with_reducible first | exact HB.out | apply QE | apply QB | apply QD) | exact HB.out)))); (case aL => have := LMc7.out; omega); intro v339 w8 ho hb hg hat; rw [← Ny338.out] at ho; have n0_ := QN (hb); have n1_ := QN (ho); clear HB; clear HO_3; have HB := n0_; have HO340 := n1_; clear n0_ n1_; clear ho hb hg hat))
       go_roundg k1
       case measure => have := HK1.out; omega
       case rel => exact ⟨(y338), (wrap64 (x9_1 + 1)), (by first | rfl | (simp; done) | (simp [*]; done)), H', ⟨by have := HK1.out; omega⟩, ⟨by (with_reducible repeat (first | apply QG | apply QH | apply QK)); exact HO340.out⟩, ⟨by repeat (first | (with_reducible first | exact HB.out | apply QE | apply QB | apply QD) | exact HB.out)⟩⟩
      ·rw [if_neg c7] at H
       exact absurd H (by simp)
     ·rw [if_neg c6] at H
      exact absurd H (by simp)
    ·rw [if_neg c5] at H
     exact absurd H (by simp)
   ·rw [if_neg c4] at H
    have c4b0 : decide (x9_1 < (l0.length : Int)) = false := decide_eq_false c4
    clear c4
    replace H := QO.mp H
    obtain ⟨t341, A90, H⟩ := H
    have A9 := QN A90
    clear A90
    obtain rfl := Option.some.inj H
    obtain ⟨Ao10, co10, eo10⟩ := Kd.R_slice HO_3.out
    subst eo10
    go_wp2_with (first | ((with_reducible refine gate_callee (f := 20) rfl ?_); refine goesL_ (some 18) rfl rfl Try.func20 (by kernel_rfl) rfl #[.slice Ao10 x3_1.length co10] rfl (by (try simp only [List.map_toArray, List.map_cons, List.map_nil]); first | done | rfl | (simp only [List.length_drop, List.length_take]; rfl)) ?_; (with_reducible refine (impl_IsHand.calls _ _ x3_1 t341 _ ?side1 ?side2 A9.out).mono ?_); (case side1 => repeat (first | exact (Kd.R_reads' HO_3.out).2.2 | (with_reducible refine QI ?_ _) | (with_reducible refine QJ ?_ _) | (with_reducible refine QM ?_))); (case side2 => exact (Kd.R_reads' HO_3.out).2.1); rintro e w11 ⟨rfl, hb⟩; refine ⟨_, rfl, ?_⟩; have n0_ := QN (Kd.R_below (by (with_reducible repeat (first | apply QG | apply QH | apply QK)); exact HO_3.out) hb); have n1_ := QN (below_step (by repeat (first | (with_reducible first | exact HB.out | apply QE | apply QB | apply QD) | exact HB.out)) hb); clear HO_3; clear HB; have HO_3 := n0_; have HB := n1_; clear n0_ n1_; (try clear hb); (try clear hb2); (try clear hk); (try clear hi)))
    go_ret
    exact ⟨by first | rfl | (simp [errW_none, errW_some] <;> rfl) | (simp [*, errW_none, errW_some] <;> rfl), by repeat (first | (with_reducible first | exact HB.out | apply QE | apply QB | apply QD) | exact HB.out)⟩

/-! ### impl_TotalCards: function 154 -/
def impl_TotalCards.l0 : Nat → Int → List (List Int) → Int → Int → Option (Int)
 | 0, _, _, _, _ => none
 | k + 1, x3, x6, x7, x8 => if x8 < x7 then (if 0 ≤ x8 then (if x8 < (x6.length : Int) then (impl_TotalCards.l0 k (wrap64 (x3 + ((rd_L1 x6 x8).length : Int))) x6 x7 (wrap64 (x8 + 1))) else (none)) else (none)) else (some x3)
def impl_TotalCards.f (k : Nat) (l0 : List (List Int)) : Option (Int) := impl_TotalCards.l0 k 0 l0 (l0.length : Int) 0
theorem impl_TotalCards.mono_l : ∀ k, (∀ y0 y1 y2 y3, LeO (impl_TotalCards.l0 k y0 y1 y2 y3) (impl_TotalCards.l0 (k + 1) y0 y1 y2 y3))
 | 0 => fun _ _ _ _ r h => by simp [impl_TotalCards.l0] at h
 | k + 1 => by
  have ih0 := impl_TotalCards.mono_l k
  ·intro y0 y1 y2 y3
   unfold impl_TotalCards.l0
   repeat' first
   | (with_reducible exact ih0 _ _ _ _)
   | (with_reducible exact LeO.refl _)
   | (with_reducible exact LeO.none _)
   | (with_reducible refine LeO.ite ?_ ?_)
   | (with_reducible refine LeO.bind ?_ (fun _ => ?_))
   | exact ih0 _ _ _ _
   | exact LeO.none _
   | refine LeO.ite ?_ ?_
   | refine LeO.bind ?_ (fun _ => ?_)
theorem impl_TotalCards.mono : ∀ a0 k, LeO (impl_TotalCards.f k a0) (impl_TotalCards.f (k + 1) a0) := by
 intro a0 k
 have ih0 := impl_TotalCards.mono_l k
 unfold impl_TotalCards.f
 repeat' first
   | (with_reducible exact ih0 _ _ _ _)
   | (with_reducible exact LeO.refl _)
   | (with_reducible exact LeO.none _)
   | (with_reducible refine LeO.ite ?_ ?_)
   | (with_reducible refine LeO.bind ?_ (fun _ => ?_))
   | exact ih0 _ _ _ _
   | exact LeO.none _
   | refine LeO.ite ?_ ?_
   | refine LeO.bind ?_ (fun _ => ?_)
set_option maxHeartbeats 8000000 in
set_option maxRecDepth 100000 in
theorem impl_TotalCards.calls (k : Nat) (A0 : Option Addr) (c0 : Nat) (l0 : List (List Int)) (r : Int) (w : World) (hr0 : Kd.C (Kd.slice 3 (Kd.int .i64)) w A0 l0.length l0) (hc0 : l0.length ≤ c0) (h : impl_TotalCards.f k l0 = some r) :
  Calls Try.prog 154 #[.slice A0 l0.length c0] w fun e w' => e = .returned (.int .i64 r) ∧ Drawn0 w w' := by
 have HR0 := QN hr0
 have HC0 := QN hc0
 clear hr0 hc0
 have H : (impl_TotalCards.l0 k 0 l0 (l0.length : Int) 0) = some r := h
 clear h
 have H' := QN H
 clear H
 go_enter Try.func154, Try.ntmps154
 go_wp2
 go_loopg [3, 8] k (fun kq v3 v8 w' => ∃ (x3_1 : Int) (x8_1 : Int), v3 = .int .i64 x3_1 ∧ v8 = .int .i64 x8_1 ∧ Aside0 (impl_TotalCards.l0 kq x3_1 l0 (l0.length : Int) x8_1 = some r) ∧ Aside0 (kq ≤ k) ∧ Drawn0 w w')
 case atStart => exact ⟨(0), (0), (by first | rfl | (simp; done) | (simp [*]; done)), (by first | rfl | (simp; done) | (simp [*]; done)), H', ⟨Nat.le_refl _⟩, by repeat (first | exact Drawn0.refl _ | apply Drawn0.step)⟩
 case round =>
  clear H'
  try clear c1
  obtain ⟨x3_1, x8_1, rfl, rfl, HA, HK1, ⟨m1, rfl⟩⟩ := hrel
  cases gk with
  | zero => exact absurd HA.out (by simp [impl_TotalCards.l0])
  | succ k1 =>
   have H := HA.out
   clear HA
   simp only [impl_TotalCards.l0] at H
   by_cases c2 : x8_1 < (l0.length : Int)
   ·rw [if_pos c2] at H
    have c2b0 : decide (x8_1 < (l0.length : Int)) = true := decide_eq_true c2
    clear c2
    by_cases c3 : 0 ≤ x8_1
    ·rw [if_pos c3] at H
     have c3b0 : decide (0 ≤ x8_1) = true := decide_eq_true c3
     clear c3
     by_cases c4 : x8_1 < (l0.length : Int)
     ·rw [if_pos c4] at H
      have c4b0 : decide (x8_1 < (l0.length : Int)) = true := decide_eq_true c4
      clear c4
      have H' := QN H
      clear H
      have p342 : 0 ≤ (x8_1 : Int) := of_decide_eq_true (by first | (with_reducible assumption) | assumption)
      have q342 : x8_1 < (l0.length : Int) := of_decide_eq_true (by first | (with_reducible assumption) | assumption)
      obtain ⟨ad342, A342_0, c342_0, e342, hx342_0, hl342_0, hi342_0⟩ := at_L1 HR0.out x8_1 p342 q342
      cases e342
      have HR342_0 := QN hi342_0
      have HC342_0 := QN hl342_0
      clear hi342_0 hl342_0
      replace p342 := eq_true p342
      replace q342 := eq_true q342
      go_wp2
      go_roundg k1
      case measure => have := HK1.out; omega
      case rel => exact ⟨(wrap64 (x3_1 + ((rd_L1 l0 x8_1).length : Int))), (wrap64 (x8_1 + 1)), (by first | rfl | (simp; done) | (simp [*]; done)), (by first | rfl | (simp; done) | (simp [*]; done)), H', ⟨by have := HK1.out; omega⟩, by repeat (first | exact Drawn0.refl _ | apply Drawn0.step)⟩
     ·rw [if_neg c4] at H
      exact absurd H (by simp)
    ·rw [if_neg c3] at H
     exact absurd H (by simp)
   ·rw [if_neg c2] at H
    have c2b0 : decide (x8_1 < (l0.length : Int)) = false := decide_eq_false c2
    clear c2
    obtain rfl := Option.some.inj H
    go_wp2
    go_ret
    exact ⟨by first | rfl | (simp; done) | (simp [*]; done), by repeat (first | exact Drawn0.refl _ | apply Drawn0.step)⟩

/-! ### impl_isWhole: function 111 -/
def impl_isWhole.f (k : Nat) (l0 : List (List Int)) : Option (Bool) := (impl_AllApart.f k l0).bind fun t343 => (if t343 = true then ((impl_TotalCards.f k l0).bind fun t344 => (some (t344 == 52))) else (some false))
theorem impl_isWhole.mono : ∀ a0 k, LeO (impl_isWhole.f k a0) (impl_isWhole.f (k + 1) a0) := by
 intro a0 k
 unfold impl_isWhole.f
 repeat' first
   | (with_reducible exact impl_AllApart.mono _ _)
   | (with_reducible exact impl_TotalCards.mono _ _)
   | (with_reducible exact LeO.refl _)
   | (with_reducible exact LeO.none _)
   | (with_reducible refine LeO.ite ?_ ?_)
   | (with_reducible refine LeO.bind ?_ (fun _ => ?_))
   | exact impl_AllApart.mono _ _
   | exact impl_TotalCards.mono _ _
   | exact LeO.none _
   | refine LeO.ite ?_ ?_
   | refine LeO.bind ?_ (fun _ => ?_)
set_option maxHeartbeats 8000000 in
set_option maxRecDepth 100000 in
theorem impl_isWhole.calls (k : Nat) (A0 : Option Addr) (c0 : Nat) (l0 : List (List Int)) (r : Bool) (w : World) (hr0 : Kd.C (Kd.slice 3 (Kd.int .i64)) w A0 l0.length l0) (hc0 : l0.length ≤ c0) (h : impl_isWhole.f k l0 = some r) :
  Calls Try.prog 111 #[.slice A0 l0.length c0] w fun e w' => e = .returned (.bool r) ∧ Below w.heap.size w w' := by
 have HR0 := QN hr0
 have HC0 := QN hc0
 clear hr0 hc0
 have HB := QN (Below.refl w.heap.size w)
 have H : ((impl_AllApart.f k l0).bind fun t343 => (if t343 = true then ((impl_TotalCards.f k l0).bind fun t344 => (some (t344 == 52))) else (some false))) = some r := h
 clear h
 replace H := QO.mp H
 obtain ⟨t343, A20, H⟩ := H
 have A2 := QN A20
 clear A20
 by_cases c3 : t343 = true
 ·subst c3
  rw [if_pos rfl] at H
  replace H := QO.mp H
  obtain ⟨t344, A40, H⟩ := H
  have A4 := QN A40
  clear A40
  obtain rfl := Option.some.inj H
  go_enter Try.func111, Try.ntmps111
  go_wp2_with (first | ((with_reducible refine gate_callee (f := 153) rfl ?_); refine goesL_ (some 4) rfl rfl Try.func153 (by kernel_rfl) rfl #[.slice A0 l0.length c0] rfl (by (try simp only [List.map_toArray, List.map_cons, List.map_nil]); first | done | rfl | (simp only [List.length_drop, List.length_take]; rfl)) ?_; (with_reducible refine (impl_AllApart.calls k _ _ l0 true _ ?side1 ?side2 A2.out).mono ?_); (case side1 => repeat (first | exact HR0.out | (with_reducible refine QI ?_ _) | (with_reducible refine QJ ?_ _) | (with_reducible refine QM ?_))); (case side2 => exact HC0.out); rintro e w5 ⟨rfl, hb⟩; refine ⟨_, rfl, ?_⟩; have n0_ := QN (below_step (by repeat (first | (with_reducible first | exact HB.out | apply QE | apply QB | apply QD) | exact HB.out)) hb); clear HB; have HB := n0_; clear n0_; (try clear hb); (try clear hb2); (try clear hk); (try clear hi)) | (go_at_call 154; (with_reducible refine (impl_TotalCards.calls k _ _ l0 t344 _ ?side1 ?side2 A4.out).mono ?_); (case side1 => repeat (first | exact (QL HR0.out HB.out) | (with_reducible refine QI ?_ _) | (with_reducible refine QJ ?_ _) | (with_reducible refine QM ?_))); (case side2 => exact HC0.out); rintro e w' ⟨rfl, ⟨nd, rfl⟩⟩))
  go_ret
  exact ⟨by first | rfl | (simp [errW_none, errW_some] <;> rfl) | (simp [*, errW_none, errW_some] <;> rfl), by repeat (first | (with_reducible first | exact HB.out | apply QE | apply QB | apply QD) | exact HB.out)⟩
 ·replace c3 := Bool.eq_false_iff.mpr c3
  subst c3
  rw [if_neg (show ¬ (false = true) by decide)] at H
  obtain rfl := Option.some.inj H
  go_enter Try.func111, Try.ntmps111
  go_wp2_with (first | ((with_reducible refine gate_callee (f := 153) rfl ?_); refine goesL_ (some 4) rfl rfl Try.func153 (by kernel_rfl) rfl #[.slice A0 l0.length c0] rfl (by (try simp only [List.map_toArray, List.map_cons, List.map_nil]); first | done | rfl | (simp only [List.length_drop, List.length_take]; rfl)) ?_; (with_reducible refine (impl_AllApart.calls k _ _ l0 false _ ?side1 ?side2 A2.out).mono ?_); (case side1 => repeat (first | exact HR0.out | (with_reducible refine QI ?_ _) | (with_reducible refine QJ ?_ _) | (with_reducible refine QM ?_))); (case side2 => exact HC0.out); rintro e w6 ⟨rfl, hb⟩; refine ⟨_, rfl, ?_⟩; have n0_ := QN (below_step (by repeat (first | (with_reducible first | exact HB.out | apply QE | apply QB | apply QD) | exact HB.out)) hb); clear HB; have HB := n0_; clear n0_; (try clear hb); (try clear hb2); (try clear hk); (try clear hi)))
  go_ret
  exact ⟨by first | rfl | (simp [errW_none, errW_some] <;> rfl) | (simp [*, errW_none, errW_some] <;> rfl), by repeat (first | (with_reducible first | exact HB.out | apply QE | apply QB | apply QD) | exact HB.out)⟩

/-! ### impl_copyOf: function 132 -/
def impl_copyOf.f (l0 : List Int) : Option (List Int) := (some (([] : List Int) : List Int)).bind fun y345 => (if y345.length + l0.length < 17592186044416 then (some (y345 ++ l0)) else (none))
set_option maxHeartbeats 8000000 in
set_option maxRecDepth 100000 in
theorem impl_copyOf.calls (A0 : Option Addr) (c0 : Nat) (l0 : List Int) (r : List Int) (w : World) (hr0 : Kd.C (Kd.int .i64) w A0 l0.length l0) (hc0 : l0.length ≤ c0) (h : impl_copyOf.f l0 = some r) :
  Calls Try.prog 132 #[.slice A0 l0.length c0] w fun e w' => ∃ v0_ : Value, e = .returned (v0_) ∧ Kd.R (Kd.int .i64) 3 w' w.heap.size (fun _ => True) v0_ r ∧ Below w.heap.size w w' := by
 have HR0 := QN hr0
 have HC0 := QN hc0
 clear hr0 hc0
 have HB := QN (Below.refl w.heap.size w)
 have H : ((some (([] : List Int) : List Int)).bind fun y345 => (if y345.length + l0.length < 17592186044416 then (some (y345 ++ l0)) else (none))) = some r := h
 clear h
 obtain ⟨y345, hy345⟩ : ∃ y_ : List Int, y_ = (([] : List Int)) := ⟨_, rfl⟩
 replace H : (if y345.length + l0.length < 17592186044416 then (some (y345 ++ l0)) else (none)) = some r := by first | (rw [hy345]; with_reducible exact H) | (have H2_ := (Option.bind_some _ _).symm.trans H; rw [hy345]; with_reducible exact H2_) | (have H2_ := (Option.bind_some _ _).symm.trans H; with_reducible exact H2_) | with_reducible exact H | (rw [hy345]; exact H) | exact H
 have Ny345 := QN hy345
 clear hy345
 by_cases c2 : y345.length + l0.length < 17592186044416
 ·rw [if_pos c2] at H
  have LMc2 := QN c2
  clear c2
  obtain ⟨y348, hy348⟩ : ∃ y_ : List Int, y_ = (y345 ++ l0) := ⟨_, rfl⟩
  replace H : (some y348) = some r := by first | (rw [hy348]; with_reducible exact H) | (have H2_ := (Option.bind_some _ _).symm.trans H; rw [hy348]; with_reducible exact H2_) | (have H2_ := (Option.bind_some _ _).symm.trans H; with_reducible exact H2_) | with_reducible exact H | (rw [hy348]; exact H) | exact H
  have Ny348 := QN hy348
  clear hy348
  obtain rfl := Option.some.inj H
  go_enter Try.func132, Try.ntmps132
  go_wp2_with (first | ((with_reducible refine gate_dst (N := 3) rfl ?_); refine Kd.R_lit (Kd.int .i64) _ 3 ?hg (N := 3) ?hd (xs := ([] : List Int)) (inner := []) (ok := fun _ => True) (okp := fun _ => True) ?hr ?hp (fun _ hk => hk) trivial (Below.refl _ _) (Nat.le_refl _) (by simp) ?_; (case hd => rfl); (case hg => rfl); (case hr => first | (go_simp; done) | (go_simp; rfl)); (case hp => exact (Reps.none _ _)); intro v346 w3 ho4 hb hg_ hnew_; clear hg_ hnew_; (first | rw [← Ny345.out] at ho4 | (simp only [Int.reduceToNat] at ho4; rw [← Ny345.out] at ho4)); have n0_ := QN (Kd.R_lower ho4 (below_size (by repeat (first | (with_reducible first | exact HB.out | apply QE | apply QB | apply QD) | exact HB.out)))); have n1_ := QN (below_step (by repeat (first | (with_reducible first | exact HB.out | apply QE | apply QB | apply QD) | exact HB.out)) hb); clear HB; have HO347 := n0_; have HB := n1_; clear n0_ n1_; clear hb ho4) | ((with_reducible refine gate_builtin (b := .append) (xs := #[.tmp 3, .tmp 4]) rfl ?_); at_builtin; refine Kd.R_append_rows (Kd.int .i64) (w0 := w) w.heap.size rfl (.tmp 3) (.tmp 4) 24 3 (.int .i64 0) 8 rfl Try.underlying24 info3 rfl (by decide) (by omega) v346 y345 l0 _ _ _ (fun _ => True) (fun _ => False) rfl rfl ?aO ?aR (fun _ _ h => h) (fun _ h => h.elim) ?aF ?aB ?aS ?aL ?_; (case aR => repeat (first | exact (QL HR0.out HB.out) | (with_reducible refine QI ?_ _) | (with_reducible refine QJ ?_ _) | (with_reducible refine QM ?_))); (case aB => exact (by repeat (first | (with_reducible first | exact HB.out | apply QE | apply QB | apply QD) | exact HB.out))); (case aF => exact (fun _ _ => trivial)); (case aO => exact (by (with_reducible repeat (first | apply QG | apply QH | apply QK)); exact HO347.out)); (case aS => exact (below_size (by repeat (first | (with_reducible first | exact HB.out | apply QE | apply QB | apply QD) | exact HB.out)))); (case aL => have := LMc2.out; omega); intro v349 w5 ho hb hg hat; rw [← Ny348.out] at ho; have n0_ := QN (hb); have n1_ := QN (ho); clear HB; clear HO347; have HB := n0_; have HO350 := n1_; clear n0_ n1_; clear ho hb hg hat))
  go_ret
  exact ⟨_, by first | rfl | (simp [errW_none, errW_some] <;> rfl) | (simp [*, errW_none, errW_some] <;> rfl), by (with_reducible repeat (first | apply QG | apply QH | apply QK)); exact HO350.out, by repeat (first | (with_reducible first | exact HB.out | apply QE | apply QB | apply QD) | exact HB.out)⟩
 ·rw [if_neg c2] at H
  exact absurd H (by simp)

/-! ### impl_copyRows: function 112 -/
def impl_copyRows.l0 : Nat → List (List Int) → List (List Int) → Int → Int → Option ((List (List Int)))
 | 0, _, _, _, _ => none
 | k + 1, x3, x7, x8, x9 => if x9 < x8 then (if 0 ≤ x9 then (if x9 < (x7.length : Int) then ((impl_copyOf.f (rd_L1 x7 x9)).bind fun t355 => (if x3.length < 5864062014805 then (impl_copyRows.l0 k (x3 ++ [t355]) x7 x8 (wrap64 (x9 + 1))) else (none))) else (none)) else (none)) else (some x3)
def impl_copyRows.f (k : Nat) (l0 : List (List Int)) : Option ((List (List Int))) := impl_copyRows.l0 k (([] : List (List Int))) l0 (l0.length : Int) 0
theorem impl_copyRows.mono_l : ∀ k, (∀ y0 y1 y2 y3, LeO (impl_copyRows.l0 k y0 y1 y2 y3) (impl_copyRows.l0 (k + 1) y0 y1 y2 y3))
 | 0 => fun _ _ _ _ r h => by simp [impl_copyRows.l0] at h
 | k + 1 => by
  have ih0 := impl_copyRows.mono_l k
  ·intro y0 y1 y2 y3
   unfold impl_copyRows.l0
   repeat' first
   | (with_reducible exact ih0 _ _ _ _)
   | (with_reducible exact LeO.refl _)
   | (with_reducible exact LeO.none _)
   | (with_reducible refine LeO.ite ?_ ?_)
   | (with_reducible refine LeO.bind ?_ (fun _ => ?_))
   | exact ih0 _ _ _ _
   | exact LeO.none _
   | refine LeO.ite ?_ ?_
   | refine LeO.bind ?_ (fun _ => ?_)
theorem impl_copyRows.mono : ∀ a0 k, LeO (impl_copyRows.f k a0) (impl_copyRows.f (k + 1) a0) := by
 intro a0 k
 have ih0 := impl_copyRows.mono_l k
 unfold impl_copyRows.f
 repeat' first
   | (with_reducible exact ih0 _ _ _ _)
   | (with_reducible exact LeO.refl _)
   | (with_reducible exact LeO.none _)
   | (with_reducible refine LeO.ite ?_ ?_)
   | (with_reducible refine LeO.bind ?_ (fun _ => ?_))
   | exact ih0 _ _ _ _
   | exact LeO.none _
   | refine LeO.ite ?_ ?_
   | refine LeO.bind ?_ (fun _ => ?_)
set_option maxHeartbeats 8000000 in
set_option maxRecDepth 100000 in
theorem impl_copyRows.calls (k : Nat) (A0 : Option Addr) (c0 : Nat) (l0 : List (List Int)) (r : List (List Int)) (w : World) (hr0 : Kd.C (Kd.slice 3 (Kd.int .i64)) w A0 l0.length l0) (hc0 : l0.length ≤ c0) (h : impl_copyRows.f k l0 = some r) :
  Calls Try.prog 112 #[.slice A0 l0.length c0] w fun e w' => ∃ v0_ : Value, e = .returned (v0_) ∧ Kd.S (Kd.slice 3 (Kd.int .i64)) 24 w' w.heap.size (fun _ => True) v0_ r ∧ Below w.heap.size w w' := by
 have HR0 := QN hr0
 have HC0 := QN hc0
 clear hr0 hc0
 have HB := QN (Below.refl w.heap.size w)
 have H : (impl_copyRows.l0 k (([] : List (List Int))) l0 (l0.length : Int) 0) = some r := h
 clear h
 obtain ⟨y351, hy351⟩ : ∃ y_ : List (List Int), y_ = (([] : List (List Int))) := ⟨_, rfl⟩
 replace H : (impl_copyRows.l0 k y351 l0 (l0.length : Int) 0) = some r := by first | (rw [hy351]; with_reducible exact H) | (have H2_ := (Option.bind_some _ _).symm.trans H; rw [hy351]; with_reducible exact H2_) | (have H2_ := (Option.bind_some _ _).symm.trans H; with_reducible exact H2_) | with_reducible exact H | (rw [hy351]; exact H) | exact H
 have Ny351 := QN hy351
 clear hy351
 have H' := QN H
 clear H
 go_enter Try.func112, Try.ntmps112
 go_wp2_with (first | ((with_reducible refine gate_dst (N := 6) rfl ?_); refine Kd.S_lit (Kd.slice 3 (Kd.int .i64)) _ 24 ?hg (N := 6) ?hd (xs := ([] : List (List Int))) (inner := []) (ok := fun _ => True) (okp := fun _ => True) ?hr ?hp (fun _ hk => hk) trivial (Below.refl _ _) (Nat.le_refl _) (by simp) ?_; (case hd => rfl); (case hg => rfl); (case hr => first | (go_simp; done) | (go_simp; rfl)); (case hp => exact (Reps.none _ _)); intro v352 w2 ho3 hb hg_ hnew_; clear hg_ hnew_; (first | rw [← Ny351.out] at ho3 | (simp only [Int.reduceToNat] at ho3; rw [← Ny351.out] at ho3)); have n0_ := QN (Kd.S_lower ho3 (below_size (by repeat (first | (with_reducible first | exact HB.out | apply QE | apply QB | apply QD) | exact HB.out)))); have n1_ := QN (below_step (by repeat (first | (with_reducible first | exact HB.out | apply QE | apply QB | apply QD) | exact HB.out)) hb); clear HB; have HO353 := n0_; have HB := n1_; clear n0_ n1_; clear hb ho3))
 go_loopg [3, 9] k (fun kq v3 v9 w' => ∃ (x3_1 : List (List Int)) (x9_1 : Int), v9 = .int .i64 x9_1 ∧ Aside0 (impl_copyRows.l0 kq x3_1 l0 (l0.length : Int) x9_1 = some r) ∧ Aside0 (kq ≤ k) ∧ Aside0 (Kd.S (Kd.slice 3 (Kd.int .i64)) 24 w' w.heap.size (fun _ => True) v3 x3_1) ∧ Aside0 (Below w.heap.size w w'))
 case atStart => exact ⟨(y351), (0), (by first | rfl | (simp; done) | (simp [*]; done)), H', ⟨Nat.le_refl _⟩, ⟨by (with_reducible repeat (first | apply Kd.S_alloc | apply Kd.S_drewN | apply Kd.S_drew)); exact HO353.out⟩, ⟨by repeat (first | (with_reducible first | exact HB.out | apply QE | apply QB | apply QD) | exact HB.out)⟩⟩
 case round =>
  clear H'
  try clear c1
  try clear p2
  obtain ⟨x3_1, x9_1, rfl, HA, HK1, HO_3, HB⟩ := hrel
  cases gk with
  | zero => exact absurd HA.out (by simp [impl_copyRows.l0])
  | succ k1 =>
   have H := HA.out
   clear HA
   simp only [impl_copyRows.l0] at H
   by_cases c4 : x9_1 < (l0.length : Int)
   ·rw [if_pos c4] at H
    have c4b0 : decide (x9_1 < (l0.length : Int)) = true := decide_eq_true c4
    clear c4
    by_cases c5 : 0 ≤ x9_1
    ·rw [if_pos c5] at H
     have c5b0 : decide (0 ≤ x9_1) = true := decide_eq_true c5
     clear c5
     by_cases c6 : x9_1 < (l0.length : Int)
     ·rw [if_pos c6] at H
      have c6b0 : decide (x9_1 < (l0.length : Int)) = true := decide_eq_true c6
      clear c6
      replace H := QO.mp H
      obtain ⟨t355, A70, H⟩ := H
      have A7 := QN A70
      clear A70
      by_cases c8 : x3_1.length < 5864062014805
      ·rw [if_pos c8] at H
       have LMc8 := QN c8
       clear c8
       obtain ⟨y358, hy358⟩ : ∃ y_ : List (List Int), y_ = (x3_1 ++ [t355]) := ⟨_, rfl⟩
       replace H : (impl_copyRows.l0 k1 y358 l0 (l0.length : Int) (wrap64 (x9_1 + 1))) = some r := by first | (rw [hy358]; with_reducible exact H) | (have H2_ := (Option.bind_some _ _).symm.trans H; rw [hy358]; with_reducible exact H2_) | (have H2_ := (Option.bind_some _ _).symm.trans H; with_reducible exact H2_) | with_reducible exact H | (rw [hy358]; exact H) | exact H
       have Ny358 := QN hy358
       clear hy358
       have H' := QN H
       clear H
       have p354 : 0 ≤ (x9_1 : Int) := of_decide_eq_true (by first | (with_reducible assumption) | assumption)
       have q354 : x9_1 < (l0.length : Int) := of_decide_eq_true (by first | (with_reducible assumption) | assumption)
       obtain ⟨ad354, A354_0, c354_0, e354, hx354_0, hl354_0, hi354_0⟩ := at_L1 HR0.out x9_1 p354 q354
       cases e354
       replace hx354_0 := (HB.out.cell (World.block_lt_of_cell? w _ hx354_0)).trans hx354_0
       have HR354_0 := QN hi354_0
       have HC354_0 := QN hl354_0
       clear hi354_0 hl354_0
       replace p354 := eq_true p354
       replace q354 := eq_true q354
       go_wp2_with (first | ((with_reducible refine gate_callee (f := 132) rfl ?_); refine goesL_ (some 15) rfl rfl Try.func132 (by kernel_rfl) rfl #[.slice A354_0 (rd_L1 l0 x9_1).length c354_0] rfl (by (try simp only [List.map_toArray, List.map_cons, List.map_nil]); first | done | rfl | (simp only [List.length_drop, List.length_take]; rfl)) ?_; (with_reducible refine (impl_copyOf.calls _ _ (rd_L1 l0 x9_1) t355 _ ?side1 ?side2 A7.out).mono ?_); (case side1 => repeat (first | exact (QL HR354_0.out HB.out) | (with_reducible refine QI ?_ _) | (with_reducible refine QJ ?_ _) | (with_reducible refine QM ?_))); (case side2 => exact HC354_0.out); rintro e w9 ⟨v356, rfl, ho0, hb⟩; refine ⟨_, rfl, ?_⟩; have n0_ := QN (Kd.S_elder' (by (with_reducible repeat (first | apply Kd.S_alloc | apply Kd.S_drewN | apply Kd.S_drew)); exact HO_3.out) (Kd.R_base ho0) hb); have n1_ := QN (Kd.R_lower ho0 (below_size (by repeat (first | (with_reducible first | exact HB.out | apply QE | apply QB | apply QD) | exact HB.out)))); have n2_ := QN (below_step (by repeat (first | (with_reducible first | exact HB.out | apply QE | apply QB | apply QD) | exact HB.out)) hb); clear HO_3; clear HB; have HO_3 := n0_; have HO357 := n1_; have HB := n2_; clear n0_ n1_ n2_; (try clear hb); (try clear hb2); (try clear hk); (try clear hi); (try clear ho0); obtain ⟨Ao11, co11, eo11⟩ := Kd.R_slice HO357.out; subst eo11) | ((with_reducible refine gate_builtin (b := .append) (xs := #[.tmp 13, .tmp 16]) rfl ?_); at_builtin; refine Kd.S_append (Kd.slice 3 (Kd.int .i64)) (w0 := w) w.heap.size rfl (.tmp 13) (.tmp 16) 53 24 (.slice none 0 0) 24 rfl Try.underlying53 info24 rfl (by decide) (by omega) u3 x3_1 t355 [.slice Ao11 t355.length co11] (fun _ => True) (fun k_ => some k_ = (.slice Ao11 t355.length co11 : Value).ownBlock) rfl rfl ?aP (fun k_ hk_ => ((Kd.R_mono (ok' := fun k_ => ((fun _ => True)) k_ ∧ some k_ ≠ (u3 : Value).ownBlock) (Kd.R_apart' (HO357.out) (Kd.S_typed HO_3.out) (by decide)) (fun k_ hk => ⟨trivial, hk.2⟩))).1 k_ hk_.symm) ?aF ?aO ?aB ?aS ?aL ?_; (case aP => exact Kd.M_row (Kd.R_mono (Kd.R_tight rfl (Kd.R_mono (ok' := fun k_ => ((fun _ => True)) k_ ∧ some k_ ≠ (u3 : Value).ownBlock) (Kd.R_apart' (HO357.out) (Kd.S_typed HO_3.out) (by decide)) (fun k_ hk => ⟨trivial, hk.2⟩))) (fun _ h_ => h_))); (case aB => exact (by repeat (first | (with_reducible first | exact HB.out | apply QE | apply QB | apply QD) | exact HB.out))); (case aF => exact (fun _ _ => trivial)); (case aO => exact (by (with_reducible repeat (first | apply Kd.S_alloc | apply Kd.S_drewN | apply Kd.S_drew)); exact Kd.S_mono HO_3.out (fun k_ hk => ⟨trivial, fun e_ => hk.2 e_⟩))); (case aS => exact (below_size (by repeat (first | (with_reducible first | exact HB.out | apply QE | apply QB | apply QD) | exact HB.out)))); (case aL => have := LMc8.out; omega); intro v359 w10 ho hb hg hat; rw [← Ny358.out] at ho; have n0_ := QN (hb); have n1_ := QN (ho); clear HB; clear HO_3; clear HO357; have HB := n0_; have HO360 := n1_; clear n0_ n1_; clear ho hb hg hat))
       go_roundg k1
       case measure => have := HK1.out; omega
       case rel => exact ⟨(y358), (wrap64 (x9_1 + 1)), (by first | rfl | (simp; done) | (simp [*]; done)), H', ⟨by have := HK1.out; omega⟩, ⟨by (with_reducible repeat (first | apply Kd.S_alloc | apply Kd.S_drewN | apply Kd.S_drew)); exact HO360.out⟩, ⟨by repeat (first | (with_reducible first | exact HB.out | apply QE | apply QB | apply QD) | exact HB.out)⟩⟩
      ·rw [if_neg c8] at H
       exact absurd H (by simp)
     ·rw [if_neg c6] at H
      exact absurd H (by simp)
    ·rw [if_neg c5] at H
     exact absurd H (by simp)
   ·rw [if_neg c4] at H
    have c4b0 : decide (x9_1 < (l0.length : Int)) = false := decide_eq_false c4
    clear c4
    obtain rfl := Option.some.inj H
    go_wp2
    go_ret
    exact ⟨_, by first | rfl | (simp [errW_none, errW_some] <;> rfl) | (simp [*, errW_none, errW_some] <;> rfl), by (with_reducible repeat (first | apply Kd.S_alloc | apply Kd.S_drewN | apply Kd.S_drew)); exact HO_3.out, by repeat (first | (with_reducible first | exact HB.out | apply QE | apply QB | apply QD) | exact HB.out)⟩

end Go.Proofs.Ytkhgeockdjjhmaa.QFnExactPlayable
