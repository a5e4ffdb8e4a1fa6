/- What a call of each Go function that FnExactSightOf reaches comes to, as a Lean function: texts of the kit's print, turned by wip/remake.py. No condition beyond what each names. -/
import Derived.Test.YtkhgeockdjjhmaaQFnExactSightOfx2
namespace Go.Proofs.Ytkhgeockdjjhmaa.QFnExactSightOf
open Go.RowKit Go.Proofs.YtkhgeockdjjhmaaW.PrintWords Go.Proofs.YtkhgeockdjjhmaaW.PrintLast Go.Proofs.YtkhgeockdjjhmaaW.PrintMore
open Go.Proofs.YtkhgeockdjjhmaaW.PrintWords renaming below_set → QB, blk_cell → QC, blk_alloc → QD, blk_drewN → QE, blk_drew → QF, pw_below_drewN → QG, below_drew1 → QK, below_alloc → QL, blk_below → QM, below_size → QN, blk_frozen → QP, cell_far → QR, below_step → QT, add_block → QU, blk_lt → Qd
open Go.Proofs.YtkhgeockdjjhmaaW.PrintWords.Kd renaming R_alloc → QH, R_drewN → QI, R_drew → QJ, R_mono → QO, R_elder' → QV, R_lower → QY, R_lt → QZ, R_lit_step → Qa, R_base → Qb, R_new' → Qc, R_below → Qe
open Go.Proofs.YtkhgeockdjjhmaaW.PrintLast renaming norm_ → QS, i64_w → QW, i32_w → QX
open Go.Proofs.YtkhgeockdjjhmaaW.PrintMore renaming far_r → Qf
open List renaming setIfInBounds_toArray → Qg, set_cons_zero → Qh, set_cons_succ → Qi
open Go.Proofs.YtkhgeockdjjhmaaW.PrintWords.Aside0 renaming mk → Qj
attribute [local go_sem] max2_int min2_int max_two min_two max_three min_three max_four min_four   -- for this text's walks alone
set_option linter.unusedVariables false
set_option linter.unusedSimpArgs false

/-! ### spec_SightOf: function 66 -/
mutual
def spec_SightOf.j0 : Nat → Int → Bool → List (List Int) → Int → Int → List Int → List Int → List Int → Int → Option (Int × List Int × List Int × Int × Int × List Int × List Int × Bool)
 | 0,_,_,_,_,_,_,_,_,_ => none
 | k + 1,x1,x19,x195000,x195001,x195002,x195003,x195004,x195005,x195006 => if x19 = true then (some (0,([] : List Int),([] : List Int),0,0,([] : List Int),([] : List Int),false)) else (if 0 ≤ x1 then (if x1 < (x195000.length : Int) then ((spec_Sorted.f (rd_L1 x195000 x1)).bind fun t199 => ((some (([] : List Int) : List Int)).bind fun y202 => (if y202.length + x195003.length < 17592186044416 then ((some (([] : List Int) : List Int)).bind fun y208 => (if y208.length + x195004.length < 17592186044416 then (spec_SightOf.l0 k 0 x195000 x195001 x195002 x195003 x195004 x195005 x195006 x1 t199 (y202 ++ x195003) x195001 x195002 ([] : List Int) (y208 ++ x195004)) else (none))) else (none)))) else (none)) else (none))
def spec_SightOf.l0 : Nat → Int → List (List Int) → Int → Int → List Int → List Int → List Int → Int → Int → List Int → List Int → Int → Int → List Int → List Int → Option (Int × List Int × List Int × Int × Int × List Int × List Int × Bool)
 | 0,_,_,_,_,_,_,_,_,_,_,_,_,_,_,_ => none
 | k + 1,x7,x195000,x195001,x195002,x195003,x195004,x195005,x195006,x215000,x215001,x215002,x215003,x215004,x215005,x215006 => if x7 < (x195000.length : Int) then (if 0 ≤ x7 then (if x215005.length < 17592186044416 then (spec_SightOf.l0 k (wrap64 (x7 + 1)) x195000 x195001 x195002 x195003 x195004 x195005 x195006 x215000 x215001 x215002 x215003 x215004 (x215005 ++ [((rd_L1 x195000 x7).length : Int)]) x215006) else (none)) else (none)) else (some (x215000,x215001,x215002,x215003,x215004,x215005,x215006,true))
end
def spec_SightOf.f (k : Nat) (l0_0 : List (List Int)) (a0_1 : Int) (a0_2 : Int) (l0_3 : List Int) (l0_4 : List Int) (l0_5 : List Int) (a0_6 : Int) (a1 : Int) : Option (Int × List Int × List Int × Int × Int × List Int × List Int × Bool) := (spec_IsDeal.f k l0_0 a0_1 a0_2 l0_3 l0_4 l0_5 a0_6).bind fun t196 => (if t196 = true then ((spec_l1In.f a1 0 (wrap64 ((l0_0.length : Int) - 1))).bind fun t197 => (spec_SightOf.j0 k a1 (!t197) l0_0 a0_1 a0_2 l0_3 l0_4 l0_5 a0_6)) else (spec_SightOf.j0 k a1 true l0_0 a0_1 a0_2 l0_3 l0_4 l0_5 a0_6))
theorem spec_SightOf.mono_l : ∀ k, (∀ y0 y1 y2 y3 y4 y5 y6 y7 y8, LeO (spec_SightOf.j0 k y0 y1 y2 y3 y4 y5 y6 y7 y8) (spec_SightOf.j0 (k + 1) y0 y1 y2 y3 y4 y5 y6 y7 y8)) ∧ (∀ y0 y1 y2 y3 y4 y5 y6 y7 y8 y9 y10 y11 y12 y13 y14, LeO (spec_SightOf.l0 k y0 y1 y2 y3 y4 y5 y6 y7 y8 y9 y10 y11 y12 y13 y14) (spec_SightOf.l0 (k + 1) y0 y1 y2 y3 y4 y5 y6 y7 y8 y9 y10 y11 y12 y13 y14))
 | 0 => ⟨fun _ _ _ _ _ _ _ _ _ r h => by simp [spec_SightOf.j0] at h,fun _ _ _ _ _ _ _ _ _ _ _ _ _ _ _ r h => by simp [spec_SightOf.l0] at h⟩
 | k + 1 => by
  obtain ⟨ih0,ih1⟩ := spec_SightOf.mono_l k
  refine ⟨?_,?_⟩
  ·intro y0 y1 y2 y3 y4 y5 y6 y7 y8
   unfold spec_SightOf.j0
   repeat' first
   | (with_reducible exact ih0 _ _ _ _ _ _ _ _ _)
   | (with_reducible exact ih1 _ _ _ _ _ _ _ _ _ _ _ _ _ _ _)
   | (with_reducible exact spec_IsDeal.mono _ _ _ _ _ _ _ _)
   | (with_reducible exact LeO.refl _)
   | (with_reducible exact LeO.none _)
   | (with_reducible refine LeO.ite ?_ ?_)
   | (with_reducible refine LeO.bind ?_ (fun _ => ?_))
   | exact ih0 _ _ _ _ _ _ _ _ _
   | exact ih1 _ _ _ _ _ _ _ _ _ _ _ _ _ _ _
   | exact spec_IsDeal.mono _ _ _ _ _ _ _ _
   | exact LeO.none _
   | refine LeO.ite ?_ ?_
   | refine LeO.bind ?_ (fun _ => ?_)
  ·intro y0 y1 y2 y3 y4 y5 y6 y7 y8 y9 y10 y11 y12 y13 y14
   unfold spec_SightOf.l0
   repeat' first
   | (with_reducible exact ih0 _ _ _ _ _ _ _ _ _)
   | (with_reducible exact ih1 _ _ _ _ _ _ _ _ _ _ _ _ _ _ _)
   | (with_reducible exact spec_IsDeal.mono _ _ _ _ _ _ _ _)
   | (with_reducible exact LeO.refl _)
   | (with_reducible exact LeO.none _)
   | (with_reducible refine LeO.ite ?_ ?_)
   | (with_reducible refine LeO.bind ?_ (fun _ => ?_))
   | exact ih0 _ _ _ _ _ _ _ _ _
   | exact ih1 _ _ _ _ _ _ _ _ _ _ _ _ _ _ _
   | exact spec_IsDeal.mono _ _ _ _ _ _ _ _
   | exact LeO.none _
   | refine LeO.ite ?_ ?_
   | refine LeO.bind ?_ (fun _ => ?_)
theorem spec_SightOf.mono : ∀ a0 a1 a2 a3 a4 a5 a6 a7 k, LeO (spec_SightOf.f k a0 a1 a2 a3 a4 a5 a6 a7) (spec_SightOf.f (k + 1) a0 a1 a2 a3 a4 a5 a6 a7) := by
 intro a0 a1 a2 a3 a4 a5 a6 a7 k
 obtain ⟨ih0,ih1⟩ := spec_SightOf.mono_l k
 unfold spec_SightOf.f
 repeat' first
   | (with_reducible exact ih0 _ _ _ _ _ _ _ _ _)
   | (with_reducible exact ih1 _ _ _ _ _ _ _ _ _ _ _ _ _ _ _)
   | (with_reducible exact spec_IsDeal.mono _ _ _ _ _ _ _ _)
   | (with_reducible exact LeO.refl _)
   | (with_reducible exact LeO.none _)
   | (with_reducible refine LeO.ite ?_ ?_)
   | (with_reducible refine LeO.bind ?_ (fun _ => ?_))
   | exact ih0 _ _ _ _ _ _ _ _ _
   | exact ih1 _ _ _ _ _ _ _ _ _ _ _ _ _ _ _
   | exact spec_IsDeal.mono _ _ _ _ _ _ _ _
   | exact LeO.none _
   | refine LeO.ite ?_ ?_
   | refine LeO.bind ?_ (fun _ => ?_)
def spec_SightOf.T3 : Bool × List (List Nat × List Nat) := (true, [([], []), ([], []), ([1], [1]), ([], []), ([2, 3], [2, 3]), ([4], [4]), ([5], [5]), ([], []), ([], []), ([8], [8]), ([7, 9, 6], [7, 9]), ([], []), ([11], [11]), ([], []), ([13], [13]), ([], []), ([], []), ([16], [16]), ([15, 17, 10], [15, 17]), ([0, 6, 10, 12, 14, 18], [0, 6, 10, 12, 14, 18]), ([], []), ([20, 19, 18, 0, 1, 2, 3, 4, 5, 6, 7, 8, 9, 10, 11, 12, 13, 14, 15, 16, 17, 18, 19, 20], [19, 20])])
def spec_SightOf.B3 : List Nat := [0, 0, 2, 0, 14, 30, 62, 0, 0, 256, 1022, 0, 2048, 0, 8192, 0, 0, 65536, 231422, 524287, 0, 2097151]
theorem spec_SightOf.tab3 : rtab .any (opsOf Try.f66 3) = spec_SightOf.T3 := by kernel_rfl
theorem spec_SightOf.bits3 : waitsOk spec_SightOf.T3.2 spec_SightOf.B3 = true := by kernel_rfl
def spec_SightOf.T7 : Bool × List (List Nat × List Nat) := (true, [([], []), ([0], [0]), ([], []), ([2], [2]), ([], []), ([3, 4], [3, 4]), ([5], [5]), ([6], [6]), ([7], [7]), ([1, 8], [1, 8]), ([0, 1, 2, 3, 4, 5, 6, 7, 8, 9], []), ([10, 9, 9, 0, 1, 2, 3, 4, 5, 6, 7, 8, 9], [9, 10])])
def spec_SightOf.B7 : List Nat := [0, 1, 0, 4, 0, 28, 60, 124, 252, 511, 1023, 2047]
theorem spec_SightOf.tab7 : rtab .any (opsOf Try.f66 7) = spec_SightOf.T7 := by kernel_rfl
theorem spec_SightOf.bits7 : waitsOk spec_SightOf.T7.2 spec_SightOf.B7 = true := by kernel_rfl
def spec_SightOf.S_ (gb194 : Nat) (ad198 : Addr) (l0_0 : List (List Int)) (c0_0 : Nat) (a0_1 : Int) (a0_2 : Int) (A0_3 : Option Addr) (l0_3 : List Int) (c0_3 : Nat) (A0_4 : Option Addr) (l0_4 : List Int) (c0_4 : Nat) (A0_5 : Option Addr) (l0_5 : List Int) (c0_5 : Nat) (a0_6 : Int) (a1 : Int) (A198_0 : Option Addr) (c198_0 : Nat) (w' : World) : Prop := w'.cell? ⟨gb194, 0, none⟩ = some (.slice (some ad198) l0_0.length c0_0) ∧ w'.cell? ⟨gb194, 1, none⟩ = some (.int .i64 a0_1) ∧ w'.cell? ⟨gb194, 2, none⟩ = some (.int .i64 a0_2) ∧ w'.cell? ⟨gb194, 3, none⟩ = some (.slice A0_3 l0_3.length c0_3) ∧ w'.cell? ⟨gb194, 4, none⟩ = some (.slice A0_4 l0_4.length c0_4) ∧ w'.cell? ⟨gb194, 5, none⟩ = some (.slice A0_5 l0_5.length c0_5) ∧ w'.cell? ⟨gb194, 6, none⟩ = some (.int .i64 a0_6) ∧ w'.cell? (ad198.add (a1).toNat) = some (.slice A198_0 (rd_L1 l0_0 a1).length c198_0)
def spec_SightOf.b1_ (gb194 : Nat) (ad198 : Addr) (l0_0 : List (List Int)) (c0_0 : Nat) (a0_1 : Int) (a0_2 : Int) (A0_3 : Option Addr) (l0_3 : List Int) (c0_3 : Nat) (A0_4 : Option Addr) (l0_4 : List Int) (c0_4 : Nat) (A0_5 : Option Addr) (l0_5 : List Int) (c0_5 : Nat) (a0_6 : Int) (w' : World) : Prop := w'.heap[gb194]? = some (.cells #[(.slice (some ad198) l0_0.length c0_0), .int .i64 a0_1, .int .i64 a0_2, (.slice A0_3 l0_3.length c0_3), (.slice A0_4 l0_4.length c0_4), (.slice A0_5 l0_5.length c0_5), .int .i64 a0_6] 67 (0, 0))
def spec_SightOf.b2_ (gb194 : Nat) (ad198 : Addr) (l0_0 : List (List Int)) (c0_0 : Nat) (a0_1 : Int) (a0_2 : Int) (A0_3 : Option Addr) (l0_3 : List Int) (c0_3 : Nat) (A0_4 : Option Addr) (l0_4 : List Int) (c0_4 : Nat) (A0_5 : Option Addr) (l0_5 : List Int) (c0_5 : Nat) (a0_6 : Int) (w' : World) : Prop := w'.heap[gb194]? = some (.cells #[.slice (some ad198) l0_0.length c0_0, .int .i64 a0_1, .int .i64 a0_2, .slice A0_3 l0_3.length c0_3, .slice A0_4 l0_4.length c0_4, .slice A0_5 l0_5.length c0_5, .int .i64 a0_6] 67 (0, 0))
def spec_SightOf.b3_ (gb195 : Nat) (w' : World) : Prop := w'.heap[gb195]? = some (.cells #[.int .i64 0, (.slice none 0 0), (.slice none 0 0), .int .i64 0, .int .i64 0, (.slice none 0 0), (.slice none 0 0)] 84 (0, 0))
def spec_SightOf.b4_ (gb195 : Nat) (w' : World) : Prop := w'.heap[gb195]? = some (.cells #[.int .i64 0, .slice none 0 0, .slice none 0 0, .int .i64 0, .int .i64 0, .slice none 0 0, .slice none 0 0] 84 (0, 0))
set_option maxHeartbeats 8000000 in
set_option maxRecDepth 100000 in
theorem spec_SightOf.calls (k : Nat) (A0_0 : Option Addr) (c0_0 : Nat) (l0_0 : List (List Int)) (a0_1 : Int) (a0_2 : Int) (A0_3 : Option Addr) (c0_3 : Nat) (l0_3 : List Int) (A0_4 : Option Addr) (c0_4 : Nat) (l0_4 : List Int) (A0_5 : Option Addr) (c0_5 : Nat) (l0_5 : List Int) (a0_6 : Int) (a1 : Int) (r1 : Int) (r2 : List Int) (r3 : List Int) (r4 : Int) (r5 : Int) (r6 : List Int) (r7 : List Int) (r8 : Bool) (w : World) (hr0_0 : Kd.C (Kd.slice 3 (Kd.int .i64)) w A0_0 l0_0.length l0_0) (hc0_0 : l0_0.length ≤ c0_0) (hr0_3 : Kd.C (Kd.int .i64) w A0_3 l0_3.length l0_3) (hc0_3 : l0_3.length ≤ c0_3) (hr0_4 : Kd.C (Kd.int .i64) w A0_4 l0_4.length l0_4) (hc0_4 : l0_4.length ≤ c0_4) (hr0_5 : Kd.C (Kd.int .i64) w A0_5 l0_5.length l0_5) (hc0_5 : l0_5.length ≤ c0_5) (h : spec_SightOf.f k l0_0 a0_1 a0_2 l0_3 l0_4 l0_5 a0_6 a1 = some (r1, r2, r3, r4, r5, r6, r7, r8)) :
  Calls Try.prog 66 #[.agg #[.slice A0_0 l0_0.length c0_0,.int .i64 a0_1,.int .i64 a0_2,.slice A0_3 l0_3.length c0_3,.slice A0_4 l0_4.length c0_4,.slice A0_5 l0_5.length c0_5,.int .i64 a0_6],.int .i64 a1] w fun e w' => ∃ v1_ v2_ v5_ v6_ : Value,e = .returned (.tuple #[.agg #[.int .i64 r1,v1_,v2_,.int .i64 r4,.int .i64 r5,v5_,v6_],.bool r8]) ∧ Kd.R (Kd.int .i64) 3 w' w.heap.size (fun k_ => some k_ ≠ (v2_ : Value).ownBlock ∧ some k_ ≠ (v5_ : Value).ownBlock ∧ some k_ ≠ (v6_ : Value).ownBlock) v1_ r2 ∧ Kd.R (Kd.int .i64) 3 w' w.heap.size (fun k_ => some k_ ≠ (v1_ : Value).ownBlock ∧ some k_ ≠ (v5_ : Value).ownBlock ∧ some k_ ≠ (v6_ : Value).ownBlock) v2_ r3 ∧ Kd.R (Kd.int .i64) 3 w' w.heap.size (fun k_ => some k_ ≠ (v1_ : Value).ownBlock ∧ some k_ ≠ (v2_ : Value).ownBlock ∧ some k_ ≠ (v6_ : Value).ownBlock) v5_ r6 ∧ Kd.R (Kd.int .i64) 3 w' w.heap.size (fun k_ => some k_ ≠ (v1_ : Value).ownBlock ∧ some k_ ≠ (v2_ : Value).ownBlock ∧ some k_ ≠ (v5_ : Value).ownBlock) v6_ r7 ∧ Below w.heap.size w w' := by
 have hu67 := Try.underlying67
 have hu84 := Try.underlying84
 have HR0_0 := Qj hr0_0
 have HC0_0 := Qj hc0_0
 clear hr0_0 hc0_0
 have HR0_3 := Qj hr0_3
 have HC0_3 := Qj hc0_3
 clear hr0_3 hc0_3
 have HR0_4 := Qj hr0_4
 have HC0_4 := Qj hc0_4
 clear hr0_4 hc0_4
 have HR0_5 := Qj hr0_5
 have HC0_5 := Qj hc0_5
 clear hr0_5 hc0_5
 have HB := Qj (Below.refl w.heap.size w)
 have H : ((spec_IsDeal.f k l0_0 a0_1 a0_2 l0_3 l0_4 l0_5 a0_6).bind fun t196 => (if t196 = true then ((spec_l1In.f a1 0 (wrap64 ((l0_0.length : Int) - 1))).bind fun t197 => (spec_SightOf.j0 k a1 (!t197) l0_0 a0_1 a0_2 l0_3 l0_4 l0_5 a0_6)) else (spec_SightOf.j0 k a1 true l0_0 a0_1 a0_2 l0_3 l0_4 l0_5 a0_6))) = some (r1,r2,r3,r4,r5,r6,r7,r8) := h
 clear h
 have HC3 := Qj H
 clear H
 go_enter Try.func66,Try.ntmps66
 go_upto_region 1 with (first | ((with_reducible refine gate_dst (N := 2) rfl ?_); (try (refine gate_guard (by rfl) ?_; dsimp only)); refine box_event ?hg (N := 2) ?hd (cs := #[.slice A0_0 l0_0.length c0_0,.int .i64 a0_1,.int .i64 a0_2,.slice A0_3 l0_3.length c0_3,.slice A0_4 l0_4.length c0_4,.slice A0_5 l0_5.length c0_5,.int .i64 a0_6]) (t := 67) ?hr ?_; (case hd => rfl); (case hg => rfl); (case hr => first | (go_simp; done) | (go_simp; rfl)); intro gb194 hg w4 hbox hb; have n0_ := Qj (QT (by repeat (first | (with_reducible first | exact HB.out | apply QL | apply QG | apply QK) | exact HB.out)) hb); have n1_ := Qj (hbox); have n2_ := Qj ((by rw [hg]; exact (QN (by repeat (first | (with_reducible first | exact HB.out | apply QL | apply QG | apply QK) | exact HB.out))) : w.heap.size ≤ gb194)); have n3_ := Qj ((by rw [hg]; exact (QN (by repeat (first | (with_reducible first | exact HB.out | apply QL | apply QG | apply QK) | exact HB.out))) : w.heap.size ≤ gb194)); clear HB; revert n0_ n1_ n2_ n3_; intro HB BK194 GW194 GE194; clear hb hbox hg) | ((with_reducible refine gate_dst (N := 4) rfl ?_); (try (refine gate_guard (by rfl) ?_; dsimp only)); refine box_event ?hg (N := 4) ?hd (cs := #[.int .i64 0,.slice none 0 0,.slice none 0 0,.int .i64 0,.int .i64 0,.slice none 0 0,.slice none 0 0]) (t := 84) ?hr ?_; (case hd => rfl); (case hg => rfl); (case hr => first | (go_simp; done) | (go_simp; rfl)); intro gb195 hg w5 hbox hb; have n0_ := Qj (QM (g := gb194) (o := _) (by (with_reducible repeat (first | refine QE ?_ _ | refine QF ?_ | refine QD ?_ _)); exact BK194.out) hb); have n1_ := Qj (QT (by repeat (first | (with_reducible first | exact HB.out | apply QL | apply QG | apply QK | refine QB ?_ GE194.out) | exact HB.out)) hb); have n2_ := Qj (hbox); have n3_ := Qj ((by rw [hg]; exact (QN (by repeat (first | (with_reducible first | exact HB.out | apply QL | apply QG | apply QK | refine QB ?_ GE194.out) | exact HB.out))) : w.heap.size ≤ gb195)); have n4_ := Qj ((by rw [hg]; exact (QN (by repeat (first | (with_reducible first | exact HB.out | apply QL | apply QG | apply QK | refine QB ?_ GE194.out) | exact HB.out))) : w.heap.size ≤ gb195)); have n5_ := Qj ((by rw [hg]; exact Nat.ne_of_lt (Qd (g := gb194) (o := _) (by (with_reducible repeat (first | refine QE ?_ _ | refine QF ?_ | refine QD ?_ _)); exact BK194.out)) : gb194 ≠ gb195)); have n6_ := Qj ((by rw [hg]; exact Nat.ne_of_gt (Qd (g := gb194) (o := _) (by (with_reducible repeat (first | refine QE ?_ _ | refine QF ?_ | refine QD ?_ _)); exact BK194.out)) : gb195 ≠ gb194)); clear BK194; clear HB; revert n0_ n1_ n2_ n3_ n4_ n5_ n6_; intro BK194 HB BK195 GW195 GE195 NB194_195 NB195_194; clear hb hbox hg))
 (try simp only [Act.put,Qg,Qh,Qi])
 go_cut [19] (fun v19 wc => ∃ (kq : Nat) (x19_2 : Bool),v19 = .bool x19_2 ∧ Aside0 (spec_SightOf.j0 kq a1 x19_2 l0_0 a0_1 a0_2 l0_3 l0_4 l0_5 a0_6 = some (r1,r2,r3,r4,r5,r6,r7,r8)) ∧ Aside0 (kq ≤ k) ∧ Aside0 (wc.heap[gb194]? = some (.cells #[(.slice A0_0 l0_0.length c0_0),.int .i64 a0_1,.int .i64 a0_2,(.slice A0_3 l0_3.length c0_3),(.slice A0_4 l0_4.length c0_4),(.slice A0_5 l0_5.length c0_5),.int .i64 a0_6] 67 (0,0))) ∧ Aside0 (wc.heap[gb195]? = some (.cells #[.int .i64 0,(.slice none 0 0),(.slice none 0 0),.int .i64 0,.int .i64 0,(.slice none 0 0),(.slice none 0 0)] 84 (0,0))) ∧ Aside0 (Below w.heap.size w wc))
 case first =>
  have H := HC3.out
  clear HC3
  replace H := Option.bind_eq_some_iff.mp H
  obtain ⟨t196,A60,H⟩ := H
  replace H : (if t196 = true then ((spec_l1In.f a1 0 (wrap64 ((l0_0.length : Int) - 1))).bind fun t197 => (spec_SightOf.j0 k a1 (!t197) l0_0 a0_1 a0_2 l0_3 l0_4 l0_5 a0_6)) else (spec_SightOf.j0 k a1 true l0_0 a0_1 a0_2 l0_3 l0_4 l0_5 a0_6)) = some (r1,r2,r3,r4,r5,r6,r7,r8) := H
  have A6 := Qj A60
  clear A60
  by_cases c7 : t196 = true
  rotate_left
  replace c7 := Bool.eq_false_iff.mpr c7
  subst c7
  have H1 : (spec_SightOf.j0 k a1 true l0_0 a0_1 a0_2 l0_3 l0_4 l0_5 a0_6) = some (r1,r2,r3,r4,r5,r6,r7,r8) := by rw [if_neg (show ¬ (false = true) by decide)] at H; exact H
  clear H
  have H := H1
  clear H1
  have H' := Qj H
  clear H
  rotate_right
  subst c7
  have H1 : ((spec_l1In.f a1 0 (wrap64 ((l0_0.length : Int) - 1))).bind fun t197 => (spec_SightOf.j0 k a1 (!t197) l0_0 a0_1 a0_2 l0_3 l0_4 l0_5 a0_6)) = some (r1,r2,r3,r4,r5,r6,r7,r8) := by rw [if_pos rfl] at H; exact H
  clear H
  have H := H1
  clear H1
  replace H := Option.bind_eq_some_iff.mp H
  obtain ⟨t197,A80,H⟩ := H
  replace H : (spec_SightOf.j0 k a1 (!t197) l0_0 a0_1 a0_2 l0_3 l0_4 l0_5 a0_6) = some (r1,r2,r3,r4,r5,r6,r7,r8) := H
  have A8 := Qj A80
  clear A80
  have H' := Qj H
  clear H
  all_goals
   have hnb9 := NB194_195.out
   have hnc9 := NB195_194.out
   have hcz10_0 : w5.cell? ⟨gb194,0,none⟩ = some (.slice A0_0 l0_0.length c0_0) := (QC BK194.out 0).trans rfl
   have hcz10_1 : w5.cell? ⟨gb194,1,none⟩ = some (.int .i64 a0_1) := (QC BK194.out 1).trans rfl
   have hcz10_2 : w5.cell? ⟨gb194,2,none⟩ = some (.int .i64 a0_2) := (QC BK194.out 2).trans rfl
   have hcz10_3 : w5.cell? ⟨gb194,3,none⟩ = some (.slice A0_3 l0_3.length c0_3) := (QC BK194.out 3).trans rfl
   have hcz10_4 : w5.cell? ⟨gb194,4,none⟩ = some (.slice A0_4 l0_4.length c0_4) := (QC BK194.out 4).trans rfl
   have hcz10_5 : w5.cell? ⟨gb194,5,none⟩ = some (.slice A0_5 l0_5.length c0_5) := (QC BK194.out 5).trans rfl
   have hcz10_6 : w5.cell? ⟨gb194,6,none⟩ = some (.int .i64 a0_6) := (QC BK194.out 6).trans rfl
   have hfz10_0 := QP BK194.out 0
   have hfz10_1 := QP BK194.out 1
   have hfz10_2 := QP BK194.out 2
   have hfz10_3 := QP BK194.out 3
   have hfz10_4 := QP BK194.out 4
   have hfz10_5 := QP BK194.out 5
   have hfz10_6 := QP BK194.out 6
   go_wp2_with (first | ((with_reducible refine gate_callee (f := 114) rfl ?_); refine goesL_ (some 9) rfl rfl Try.func114 (by kernel_rfl) rfl #[.agg #[.slice A0_0 l0_0.length c0_0,.int .i64 a0_1,.int .i64 a0_2,.slice A0_3 l0_3.length c0_3,.slice A0_4 l0_4.length c0_4,.slice A0_5 l0_5.length c0_5,.int .i64 a0_6]] rfl (by (try simp only [List.map_toArray,List.map_cons,List.map_nil]); first | done | rfl | (simp only [List.length_drop,List.length_take]; rfl)) ?_; (with_reducible refine (spec_IsDeal.calls k (fun k_ => k_ < w.heap.size) _ _ l0_0 a0_1 a0_2 (fun k_ => k_ < w.heap.size) _ _ l0_3 _ _ l0_4 _ _ l0_5 a0_6 _ _ ?side1 ?side2 ?side3 ?side4 ?side5 ?side6 A6.out).mono ?_); (case side1 => exact Kd.V_mk HC0_0.out (Kd.F_below (Kd.C_F (Kd.heap_slice 3 (Kd.heap_int .i64)) HR0_0.out) (by repeat (first | (with_reducible first | exact HB.out | apply QL | apply QG | apply QK | refine QB ?_ GE194.out | refine QB ?_ GE195.out) | exact HB.out)))); (case side2 => exact Kd.V_mk HC0_3.out (Kd.F_below (Kd.C_F (Kd.heap_int .i64) HR0_3.out) (by repeat (first | (with_reducible first | exact HB.out | apply QL | apply QG | apply QK | refine QB ?_ GE194.out | refine QB ?_ GE195.out) | exact HB.out)))); (case side3 => repeat (first | exact (Kd.C_below HR0_4.out HB.out) | (with_reducible refine Kd.C_alloc ?_ _) | (with_reducible refine Kd.C_drewN ?_ _) | (with_reducible refine Kd.C_drew ?_))); (case side4 => exact HC0_4.out); (case side5 => repeat (first | exact (Kd.C_below HR0_5.out HB.out) | (with_reducible refine Kd.C_alloc ?_ _) | (with_reducible refine Kd.C_drewN ?_ _) | (with_reducible refine Kd.C_drew ?_))); (case side6 => exact HC0_5.out); rintro e w11 ⟨rfl,hb⟩; refine ⟨_,rfl,?_⟩; have n0_ := Qj (QM (g := gb194) (o := _) (by (with_reducible repeat (first | refine QE ?_ _ | refine QF ?_ | refine QD ?_ _)); exact BK194.out) hb); have n1_ := Qj (QM (g := gb195) (o := _) (by (with_reducible repeat (first | refine QE ?_ _ | refine QF ?_ | refine QD ?_ _)); exact BK195.out) hb); have n2_ := Qj (QT (by repeat (first | (with_reducible first | exact HB.out | apply QL | apply QG | apply QK | refine QB ?_ GE194.out | refine QB ?_ GE195.out) | exact HB.out)) hb); clear BK194; clear BK195; clear HB; revert n0_ n1_ n2_; intro BK194 BK195 HB; (try clear hb); (try clear hb2); (try clear hk); (try clear hi); have hcz12_0 : w11.cell? ⟨gb194,0,none⟩ = some (.slice A0_0 l0_0.length c0_0) := (QC BK194.out 0).trans rfl; have hcz12_1 : w11.cell? ⟨gb194,1,none⟩ = some (.int .i64 a0_1) := (QC BK194.out 1).trans rfl; have hcz12_2 : w11.cell? ⟨gb194,2,none⟩ = some (.int .i64 a0_2) := (QC BK194.out 2).trans rfl; have hcz12_3 : w11.cell? ⟨gb194,3,none⟩ = some (.slice A0_3 l0_3.length c0_3) := (QC BK194.out 3).trans rfl; have hcz12_4 : w11.cell? ⟨gb194,4,none⟩ = some (.slice A0_4 l0_4.length c0_4) := (QC BK194.out 4).trans rfl; have hcz12_5 : w11.cell? ⟨gb194,5,none⟩ = some (.slice A0_5 l0_5.length c0_5) := (QC BK194.out 5).trans rfl; have hcz12_6 : w11.cell? ⟨gb194,6,none⟩ = some (.int .i64 a0_6) := (QC BK194.out 6).trans rfl; have hfz12_0 := QP BK194.out 0; have hfz12_1 := QP BK194.out 1; have hfz12_2 := QP BK194.out 2; have hfz12_3 := QP BK194.out 3; have hfz12_4 := QP BK194.out 4; have hfz12_5 := QP BK194.out 5; have hfz12_6 := QP BK194.out 6) | (go_at_call 99; (with_reducible refine (spec_l1In.calls a1 0 (wrap64 ((l0_0.length : Int) - 1)) t197 _ A8.out).mono ?_); rintro e w' ⟨rfl,⟨nd,rfl⟩⟩))
   go_meet
   case rel => exact ⟨_,_,(by first | rfl | (simp; done) | (simp [*]; done)),H',⟨by first | omega | exact Nat.le_refl _⟩,⟨by (with_reducible repeat (first | refine QE ?_ _ | refine QF ?_ | refine QD ?_ _)); exact BK194.out⟩,⟨by (with_reducible repeat (first | refine QE ?_ _ | refine QF ?_ | refine QD ?_ _)); exact BK195.out⟩,⟨by repeat (first | (with_reducible first | exact HB.out | apply QL | apply QG | apply QK | refine QB ?_ GE194.out | refine QB ?_ GE195.out) | exact HB.out)⟩⟩
 case rest =>
  clear HC3
  try clear c1
  try clear p2
  try clear c6
  try clear p6
  try clear c7
  try clear c9
  try clear c11
  try clear c13
  try clear hcz10_0 hcz10_1 hcz10_2 hcz10_3 hcz10_4 hcz10_5 hcz10_6
  try clear hcz12_0 hcz12_1 hcz12_2 hcz12_3 hcz12_4 hcz12_5 hcz12_6
  try clear hcz14_0 hcz14_1 hcz14_2 hcz14_3 hcz14_4 hcz14_5 hcz14_6
  try clear hfz10_0 hfz10_1 hfz10_2 hfz10_3 hfz10_4 hfz10_5 hfz10_6
  try clear hfz12_0 hfz12_1 hfz12_2 hfz12_3 hfz12_4 hfz12_5 hfz12_6
  try clear hfz14_0 hfz14_1 hfz14_2 hfz14_3 hfz14_4 hfz14_5 hfz14_6
  obtain ⟨kq,x19_2,rfl,HA,HJ2,BK194,BK195,HB⟩ := hcut
  cases kq with
  | zero => exact absurd HA.out (by simp [spec_SightOf.j0])
  | succ kj2 =>
   have H := HA.out
   clear HA
   simp only [spec_SightOf.j0] at H
   by_cases c16 : x19_2 = true
   ·subst c16
    have H1 : (some (0,([] : List Int),([] : List Int),0,0,([] : List Int),([] : List Int),false)) = some (r1,r2,r3,r4,r5,r6,r7,r8) := by rw [if_pos rfl] at H; exact H
    clear H
    have H := H1
    clear H1
    simp only [Option.some.injEq,Prod.mk.injEq] at H
    obtain ⟨rfl,rfl,rfl,rfl,rfl,rfl,rfl,rfl⟩ := H
    have hnb17 := NB195_194.out
    have hnc17 := NB194_195.out
    have hcz18_0 : wc.cell? ⟨gb195,0,none⟩ = some (.int .i64 0) := (QC BK195.out 0).trans rfl
    have hcz18_1 : wc.cell? ⟨gb195,1,none⟩ = some (.slice none 0 0) := (QC BK195.out 1).trans rfl
    have hcz18_2 : wc.cell? ⟨gb195,2,none⟩ = some (.slice none 0 0) := (QC BK195.out 2).trans rfl
    have hcz18_3 : wc.cell? ⟨gb195,3,none⟩ = some (.int .i64 0) := (QC BK195.out 3).trans rfl
    have hcz18_4 : wc.cell? ⟨gb195,4,none⟩ = some (.int .i64 0) := (QC BK195.out 4).trans rfl
    have hcz18_5 : wc.cell? ⟨gb195,5,none⟩ = some (.slice none 0 0) := (QC BK195.out 5).trans rfl
    have hcz18_6 : wc.cell? ⟨gb195,6,none⟩ = some (.slice none 0 0) := (QC BK195.out 6).trans rfl
    have hfz18_0 := QP BK195.out 0
    have hfz18_1 := QP BK195.out 1
    have hfz18_2 := QP BK195.out 2
    have hfz18_3 := QP BK195.out 3
    have hfz18_4 := QP BK195.out 4
    have hfz18_5 := QP BK195.out 5
    have hfz18_6 := QP BK195.out 6
    go_wp2
    refine bodyPost_ret (results_ct rfl _ _ gb195 84 #[.int .i64 0,.slice none 0 0,.slice none 0 0,.int .i64 0,.int .i64 0,.slice none 0 0,.slice none 0 0] (0,0) _ rfl (by (with_reducible repeat (first | refine QE ?_ _ | refine QF ?_ | refine QD ?_ _)); refine blk_put (cs := #[.int .i64 0,.slice none 0 0,.slice none 0 0,.int .i64 0,.int .i64 0,.slice none 0 0,.slice none 0 0]) ?_ 6 _ rfl; (with_reducible repeat (first | refine QE ?_ _ | refine QF ?_ | refine QD ?_ _)); refine blk_put (cs := #[.int .i64 0,.slice none 0 0,.slice none 0 0,.int .i64 0,.int .i64 0,.slice none 0 0,.slice none 0 0]) ?_ 5 _ rfl; (with_reducible repeat (first | refine QE ?_ _ | refine QF ?_ | refine QD ?_ _)); refine blk_put (cs := #[.int .i64 0,.slice none 0 0,.slice none 0 0,.int .i64 0,.int .i64 0,.slice none 0 0,.slice none 0 0]) ?_ 4 _ rfl; (with_reducible repeat (first | refine QE ?_ _ | refine QF ?_ | refine QD ?_ _)); refine blk_put (cs := #[.int .i64 0,.slice none 0 0,.slice none 0 0,.int .i64 0,.int .i64 0,.slice none 0 0,.slice none 0 0]) ?_ 3 _ rfl; (with_reducible repeat (first | refine QE ?_ _ | refine QF ?_ | refine QD ?_ _)); refine blk_put (cs := #[.int .i64 0,.slice none 0 0,.slice none 0 0,.int .i64 0,.int .i64 0,.slice none 0 0,.slice none 0 0]) ?_ 2 _ rfl; (with_reducible repeat (first | refine QE ?_ _ | refine QF ?_ | refine QD ?_ _)); refine blk_put (cs := #[.int .i64 0,.slice none 0 0,.slice none 0 0,.int .i64 0,.int .i64 0,.slice none 0 0,.slice none 0 0]) ?_ 1 _ rfl; (with_reducible repeat (first | refine QE ?_ _ | refine QF ?_ | refine QD ?_ _)); refine blk_put (cs := #[.int .i64 0,.slice none 0 0,.slice none 0 0,.int .i64 0,.int .i64 0,.slice none 0 0,.slice none 0 0]) ?_ 0 _ rfl; (with_reducible repeat (first | refine QE ?_ _ | refine QF ?_ | refine QD ?_ _)); exact BK195.out) Try.underlying84 rfl (by kernel_rfl)) rfl ?_
    exact ⟨_,_,_,_,by first | rfl | (simp [errW_none,errW_some] <;> rfl) | (simp [*,errW_none,errW_some] <;> rfl),by first | exact Kd.R_nil _ _ _ _ _ | exact Kd.N_nil _ _ _ _ _ | exact Kd.V_nil _ _ _ _ _ | exact Kd.Q_nil _ _ _ _ _ | exact Kd.S_nil _ _ _ _ _,by first | exact Kd.R_nil _ _ _ _ _ | exact Kd.N_nil _ _ _ _ _ | exact Kd.V_nil _ _ _ _ _ | exact Kd.Q_nil _ _ _ _ _ | exact Kd.S_nil _ _ _ _ _,by first | exact Kd.R_nil _ _ _ _ _ | exact Kd.N_nil _ _ _ _ _ | exact Kd.V_nil _ _ _ _ _ | exact Kd.Q_nil _ _ _ _ _ | exact Kd.S_nil _ _ _ _ _,by first | exact Kd.R_nil _ _ _ _ _ | exact Kd.N_nil _ _ _ _ _ | exact Kd.V_nil _ _ _ _ _ | exact Kd.Q_nil _ _ _ _ _ | exact Kd.S_nil _ _ _ _ _,by repeat (first | (with_reducible first | exact HB.out | apply QL | apply QG | apply QK | refine QB ?_ GE194.out | refine QB ?_ GE195.out) | exact HB.out)⟩
   ·replace c16 := Bool.eq_false_iff.mpr c16
    subst c16
    have H1 : (if 0 ≤ a1 then (if a1 < (l0_0.length : Int) then ((spec_Sorted.f (rd_L1 l0_0 a1)).bind fun t199 => ((some (([] : List Int) : List Int)).bind fun y202 => (if y202.length + l0_3.length < 17592186044416 then ((some (([] : List Int) : List Int)).bind fun y208 => (if y208.length + l0_4.length < 17592186044416 then (spec_SightOf.l0 kj2 0 l0_0 a0_1 a0_2 l0_3 l0_4 l0_5 a0_6 a1 t199 (y202 ++ l0_3) a0_1 a0_2 ([] : List Int) (y208 ++ l0_4)) else (none))) else (none)))) else (none)) else (none)) = some (r1,r2,r3,r4,r5,r6,r7,r8) := by rw [if_neg (show ¬ (false = true) by decide)] at H; exact H
    clear H
    have H := H1
    clear H1
    by_cases c19 : 0 ≤ a1
    ·rw [if_pos c19] at H
     have c19b0 : decide (0 ≤ a1) = true := decide_eq_true c19
     clear c19
     by_cases c20 : a1 < (l0_0.length : Int)
     ·rw [if_pos c20] at H
      have c20b0 : decide (a1 < (l0_0.length : Int)) = true := decide_eq_true c20
      clear c20
      replace H := Option.bind_eq_some_iff.mp H
      obtain ⟨t199,A210,H⟩ := H
      replace H : ((some (([] : List Int) : List Int)).bind fun y202 => (if y202.length + l0_3.length < 17592186044416 then ((some (([] : List Int) : List Int)).bind fun y208 => (if y208.length + l0_4.length < 17592186044416 then (spec_SightOf.l0 kj2 0 l0_0 a0_1 a0_2 l0_3 l0_4 l0_5 a0_6 a1 t199 (y202 ++ l0_3) a0_1 a0_2 ([] : List Int) (y208 ++ l0_4)) else (none))) else (none))) = some (r1,r2,r3,r4,r5,r6,r7,r8) := H
      have A21 := Qj A210
      clear A210
      obtain ⟨y202,hy202⟩ : ∃ y_ : List Int,y_ = (([] : List Int)) := ⟨_,rfl⟩
      replace H : (if y202.length + l0_3.length < 17592186044416 then ((some (([] : List Int) : List Int)).bind fun y208 => (if y208.length + l0_4.length < 17592186044416 then (spec_SightOf.l0 kj2 0 l0_0 a0_1 a0_2 l0_3 l0_4 l0_5 a0_6 a1 t199 (y202 ++ l0_3) a0_1 a0_2 ([] : List Int) (y208 ++ l0_4)) else (none))) else (none)) = some (r1,r2,r3,r4,r5,r6,r7,r8) := by first | (rw [hy202]; with_reducible exact H) | (have H2_ := (Option.bind_some _ _).symm.trans H; rw [hy202]; with_reducible exact H2_) | (have H2_ := (Option.bind_some _ _).symm.trans H; with_reducible exact H2_) | with_reducible exact H | (rw [hy202]; exact H) | exact H
      have Ny202 := Qj hy202
      clear hy202
      by_cases c22 : y202.length + l0_3.length < 17592186044416
      ·rw [if_pos c22] at H
       have LMc22 := Qj c22
       clear c22
       obtain ⟨y205,hy205⟩ : ∃ y_ : List Int,y_ = (y202 ++ l0_3) := ⟨_,rfl⟩
       replace H : ((some (([] : List Int) : List Int)).bind fun y208 => (if y208.length + l0_4.length < 17592186044416 then (spec_SightOf.l0 kj2 0 l0_0 a0_1 a0_2 l0_3 l0_4 l0_5 a0_6 a1 t199 y205 a0_1 a0_2 ([] : List Int) (y208 ++ l0_4)) else (none))) = some (r1,r2,r3,r4,r5,r6,r7,r8) := by first | (rw [hy205]; with_reducible exact H) | (have H2_ := (Option.bind_some _ _).symm.trans H; rw [hy205]; with_reducible exact H2_) | (have H2_ := (Option.bind_some _ _).symm.trans H; with_reducible exact H2_) | with_reducible exact H | (rw [hy205]; exact H) | exact H
       have Ny205 := Qj hy205
       clear hy205
       obtain ⟨y208,hy208⟩ : ∃ y_ : List Int,y_ = (([] : List Int)) := ⟨_,rfl⟩
       replace H : (if y208.length + l0_4.length < 17592186044416 then (spec_SightOf.l0 kj2 0 l0_0 a0_1 a0_2 l0_3 l0_4 l0_5 a0_6 a1 t199 y205 a0_1 a0_2 ([] : List Int) (y208 ++ l0_4)) else (none)) = some (r1,r2,r3,r4,r5,r6,r7,r8) := by first | (rw [hy208]; with_reducible exact H) | (have H2_ := (Option.bind_some _ _).symm.trans H; rw [hy208]; with_reducible exact H2_) | (have H2_ := (Option.bind_some _ _).symm.trans H; with_reducible exact H2_) | with_reducible exact H | (rw [hy208]; exact H) | exact H
       have Ny208 := Qj hy208
       clear hy208
       by_cases c23 : y208.length + l0_4.length < 17592186044416
       ·rw [if_pos c23] at H
        have LMc23 := Qj c23
        clear c23
        obtain ⟨y211,hy211⟩ : ∃ y_ : List Int,y_ = (y208 ++ l0_4) := ⟨_,rfl⟩
        replace H : (spec_SightOf.l0 kj2 0 l0_0 a0_1 a0_2 l0_3 l0_4 l0_5 a0_6 a1 t199 y205 a0_1 a0_2 ([] : List Int) y211) = some (r1,r2,r3,r4,r5,r6,r7,r8) := by first | (rw [hy211]; with_reducible exact H) | (have H2_ := (Option.bind_some _ _).symm.trans H; rw [hy211]; with_reducible exact H2_) | (have H2_ := (Option.bind_some _ _).symm.trans H; with_reducible exact H2_) | with_reducible exact H | (rw [hy211]; exact H) | exact H
        have Ny211 := Qj hy211
        clear hy211
        have H' := Qj H
        clear H
        try go_wp2
        have n0_ := Qj (QF BK194.out)
        have n1_ := Qj (QF BK195.out)
        have n2_ := Qj (QK HB.out)
        clear BK194
        clear BK195
        clear HB
        revert n0_ n1_ n2_
        intro BK194 BK195 HB
        have p198 : 0 ≤ (a1 : Int) := of_decide_eq_true (by first | (with_reducible assumption) | assumption)
        have q198 : a1 < (l0_0.length : Int) := of_decide_eq_true (by first | (with_reducible assumption) | assumption)
        obtain ⟨ad198,A198_0,c198_0,e198,hx198_0,hl198_0,hi198_0⟩ := at_L1 HR0_0.out a1 p198 q198
        have hw198_0 := hx198_0
        cases e198
        replace hx198_0 := (HB.out.cell (World.block_lt_of_cell? w _ hx198_0)).trans hx198_0
        have HR198_0 := Qj hi198_0
        have HC198_0 := Qj hl198_0
        clear hi198_0 hl198_0
        replace p198 := eq_true p198
        replace q198 := eq_true q198
        refine start_ (n := 22) (S := spec_SightOf.S_ gb194 ad198 l0_0 c0_0 a0_1 a0_2 A0_3 l0_3 c0_3 A0_4 l0_4 c0_4 A0_5 l0_5 c0_5 a0_6 a1 A198_0 c198_0) (ds := []) (ab 22 0) (by kernel_rfl) rfl rfl ⟨(QC BK194.out 0).trans rfl,(QC BK194.out 1).trans rfl,(QC BK194.out 2).trans rfl,(QC BK194.out 3).trans rfl,(QC BK194.out 4).trans rfl,(QC BK194.out 5).trans rfl,(QC BK194.out 6).trans rfl,((HB.out.cell (World.block_lt_of_cell? w _ hw198_0)).trans hw198_0)⟩ (fun hHeld => ?_); refine with_tabW spec_SightOf.tab3 spec_SightOf.bits3 (fun HT_ HW_ => ?_)
        generalize wc.drew = w24 at BK194 BK195 HB HR198_0 hx198_0 hHeld ⊢
        refine pure_ (i := 0) (N := some 21) (v := ?_) (a' := ?_) (ab 22 1) rfl rfl (any_of HT_.out (by kernel_rfl)) (fun _ _ _ h => h) (Or.inl ⟨by rfl,?_⟩) ?_ ?_
        rotate_left
        ·intro w'
         go_simp
         with_reducible rfl
        rotate_left
        ·simp only [Act.put,Qg,Qh,Qi,QW,QX]
         rfl
        refine pure_ (i := 1) (N := some 22) (v := ?_) (a' := ?_) (ab 22 3) rfl rfl (any_of HT_.out (by kernel_rfl)) (fun _ _ _ h => h) (Or.inl ⟨by rfl,?_⟩) ?_ ?_
        rotate_left
        ·intro w'
         go_simp
         with_reducible rfl
        rotate_left
        ·simp only [Act.put,Qg,Qh,Qi,QW,QX]
         rfl
        refine pure_ (i := 3) (N := some 24) (v := ?_) (a' := ?_) (ab 22 11) rfl rfl (any_of HT_.out (by kernel_rfl)) (fun _ _ _ h => h) (Or.inl ⟨by rfl,?_⟩) ?_ ?_
        rotate_left
        ·intro w'
         go_simp
         with_reducible rfl
        rotate_left
        ·simp only [Act.put,Qg,Qh,Qi,QW,QX]
         rfl
        refine pure_ (i := 8) (N := some 29) (v := ?_) (a' := ?_) (ab 22 267) rfl rfl (any_of HT_.out (by kernel_rfl)) (fun _ _ _ h => h) (Or.inl ⟨by rfl,?_⟩) ?_ ?_
        rotate_left
        ·intro w'
         go_simp
         with_reducible rfl
        rotate_left
        ·simp only [Act.put,Qg,Qh,Qi,QW,QX]
         rfl
        refine pure_ (i := 11) (N := some 32) (v := ?_) (a' := ?_) (ab 22 2315) rfl rfl (any_of HT_.out (by kernel_rfl)) (fun _ _ _ h => h) (Or.inl ⟨by rfl,?_⟩) ?_ ?_
        rotate_left
        ·intro w'
         go_simp
         with_reducible rfl
        rotate_left
        ·simp only [Act.put,Qg,Qh,Qi,QW,QX]
         rfl
        refine pure_ (i := 13) (N := some 34) (v := ?_) (a' := ?_) (ab 22 10507) rfl rfl (any_of HT_.out (by kernel_rfl)) (fun _ _ _ h => h) (Or.inl ⟨by rfl,?_⟩) ?_ ?_
        rotate_left
        ·intro w'
         go_simp
         with_reducible rfl
        rotate_left
        ·simp only [Act.put,Qg,Qh,Qi,QW,QX]
         rfl
        refine pure_ (i := 16) (N := some 37) (v := ?_) (a' := ?_) (ab 22 76043) rfl rfl (any_of HT_.out (by kernel_rfl)) (fun _ _ _ h => h) (Or.inl ⟨by rfl,?_⟩) ?_ ?_
        rotate_left
        ·intro w'
         go_simp
         with_reducible rfl
        rotate_left
        ·simp only [Act.put,Qg,Qh,Qi,QW,QX]
         rfl
        refine take_ (i := 2) (N := some 23) (v := ?_) (a' := ?_) (ab 22 76047) rfl rfl (take_ofW HT_.out HW_.out (by kernel_rfl)) (fun _ _ _ h => h) (Or.inl ⟨by rfl,?_⟩) hHeld ?_ ?_
        rotate_left
        ·rintro w' ⟨s0,s1,s2,s3,s4,s5,s6,s7⟩
         go_simp
         with_reducible rfl
        rotate_left
        ·simp only [Act.put,Qg,Qh,Qi,QW,QX]
         rfl
        refine pure_ (i := 4) (N := some 25) (v := ?_) (a' := ?_) (ab 22 76063) rfl rfl (any_of HT_.out (by kernel_rfl)) (fun _ _ _ h => h) (Or.inl ⟨by rfl,?_⟩) ?_ ?_
        rotate_left
        ·intro w'
         go_simp
         with_reducible rfl
        rotate_left
        ·simp only [Act.put,Qg,Qh,Qi,QW,QX]
         rfl
        refine take_ (i := 5) (N := some 26) (v := ?_) (a' := ?_) (ab 22 76095) rfl rfl (take_ofW HT_.out HW_.out (by kernel_rfl)) (fun _ _ _ h => h) (Or.inl ⟨by rfl,?_⟩) hHeld ?_ ?_
        rotate_left
        ·rintro w' ⟨s0,s1,s2,s3,s4,s5,s6,s7⟩
         go_simp
         with_reducible rfl
        rotate_left
        ·simp only [Act.put,Qg,Qh,Qi,QW,QX]
         rfl
        refine take_ (i := 9) (N := some 30) (v := ?_) (a' := ?_) (ab 22 76607) rfl rfl (take_ofW HT_.out HW_.out (by kernel_rfl)) (fun _ _ _ h => h) (Or.inl ⟨by rfl,?_⟩) hHeld ?_ ?_
        rotate_left
        ·rintro w' ⟨s0,s1,s2,s3,s4,s5,s6,s7⟩
         go_simp
         with_reducible rfl
        rotate_left
        ·simp only [Act.put,Qg,Qh,Qi,QW,QX]
         rfl
        refine take_ (i := 12) (N := some 33) (v := ?_) (a' := ?_) (ab 22 80703) rfl rfl (take_ofW HT_.out HW_.out (by kernel_rfl)) (fun _ _ _ h => h) (Or.inl ⟨by rfl,?_⟩) hHeld ?_ ?_
        rotate_left
        ·rintro w' ⟨s0,s1,s2,s3,s4,s5,s6,s7⟩
         go_simp
         with_reducible rfl
        rotate_left
        ·simp only [Act.put,Qg,Qh,Qi,QW,QX]
         rfl
        refine take_ (i := 14) (N := some 35) (v := ?_) (a' := ?_) (ab 22 97087) rfl rfl (take_ofW HT_.out HW_.out (by kernel_rfl)) (fun _ _ _ h => h) (Or.inl ⟨by rfl,?_⟩) hHeld ?_ ?_
        rotate_left
        ·rintro w' ⟨s0,s1,s2,s3,s4,s5,s6,s7⟩
         go_simp
         with_reducible rfl
        rotate_left
        ·simp only [Act.put,Qg,Qh,Qi,QW,QX]
         rfl
        refine take_ (i := 17) (N := some 38) (v := ?_) (a' := ?_) (ab 22 228159) rfl rfl (take_ofW HT_.out HW_.out (by kernel_rfl)) (fun _ _ _ h => h) (Or.inl ⟨by rfl,?_⟩) hHeld ?_ ?_
        rotate_left
        ·rintro w' ⟨s0,s1,s2,s3,s4,s5,s6,s7⟩
         go_simp
         with_reducible rfl
        rotate_left
        ·simp only [Act.put,Qg,Qh,Qi,QW,QX]
         rfl
        refine nioj_ (σ := Value × Value × Value × Value × Value × Nat) 1 (ab 22 2097151) (fun s_ => [(27,s_.1),(28,s_.2.1),(31,s_.2.2.1),(36,s_.2.2.2.1),(39,s_.2.2.2.2.1),(6,.pointer (some ⟨s_.2.2.2.2.2,0,none⟩)),(40,.agg #[.int .i64 a1,s_.1,s_.2.2.1,.int .i64 a0_1,.int .i64 a0_2,.slice none 0 0,s_.2.2.2.2.1])]) (fun s_ w' => (spec_SightOf.S_ gb194 ad198 l0_0 c0_0 a0_1 a0_2 A0_3 l0_3 c0_3 A0_4 l0_4 c0_4 A0_5 l0_5 c0_5 a0_6 a1 A198_0 c198_0 w') ∧ (Kd.R (Kd.int .i64) 3 w' w.heap.size (fun k_ => some k_ ≠ (s_.2.2.1 : Value).ownBlock ∧ some k_ ≠ (s_.2.2.2.2.1 : Value).ownBlock) s_.1 t199) ∧ (Kd.R (Kd.int .i64) 3 w' w.heap.size (fun k_ => some k_ ≠ (s_.1 : Value).ownBlock ∧ some k_ ≠ (s_.2.2.2.2.1 : Value).ownBlock) s_.2.2.1 y205) ∧ (Kd.R (Kd.int .i64) 3 w' w.heap.size (fun k_ => some k_ ≠ (s_.1 : Value).ownBlock ∧ some k_ ≠ (s_.2.2.1 : Value).ownBlock) s_.2.2.2.2.1 y211) ∧ (spec_SightOf.b2_ gb194 ad198 l0_0 c0_0 a0_1 a0_2 A0_3 l0_3 c0_3 A0_4 l0_4 c0_4 A0_5 l0_5 c0_5 a0_6 w') ∧ (spec_SightOf.b4_ gb195 w') ∧ (w'.heap[s_.2.2.2.2.2]? = some (.cells #[.int .i64 0,.slice none 0 0,.slice none 0 0,.int .i64 0,.int .i64 0,.slice none 0 0,.slice none 0 0] 84 (0,0))) ∧ (w.heap.size ≤ s_.2.2.2.2.2) ∧ (w.heap.size ≤ s_.2.2.2.2.2) ∧ (gb194 ≠ s_.2.2.2.2.2) ∧ (s_.2.2.2.2.2 ≠ gb194) ∧ (gb195 ≠ s_.2.2.2.2.2) ∧ (s_.2.2.2.2.2 ≠ gb195) ∧ (Below w.heap.size w w')) ?_ ?_
        intro hJ6_7_10_15_18_20
        refine nioj_ (σ := Value × Value × Value × Value × Value) 2 (ab 22 1048575) (fun s_ => [(27,s_.1),(28,s_.2.1),(31,s_.2.2.1),(36,s_.2.2.2.1),(39,s_.2.2.2.2),(40,.agg #[.int .i64 a1,s_.1,s_.2.2.1,.int .i64 a0_1,.int .i64 a0_2,.slice none 0 0,s_.2.2.2.2])]) (fun s_ w' => (spec_SightOf.S_ gb194 ad198 l0_0 c0_0 a0_1 a0_2 A0_3 l0_3 c0_3 A0_4 l0_4 c0_4 A0_5 l0_5 c0_5 a0_6 a1 A198_0 c198_0 w') ∧ (Kd.R (Kd.int .i64) 3 w' w.heap.size (fun k_ => some k_ ≠ (s_.2.2.1 : Value).ownBlock ∧ some k_ ≠ (s_.2.2.2.2 : Value).ownBlock) s_.1 t199) ∧ (Kd.R (Kd.int .i64) 3 w' w.heap.size (fun k_ => some k_ ≠ (s_.1 : Value).ownBlock ∧ some k_ ≠ (s_.2.2.2.2 : Value).ownBlock) s_.2.2.1 y205) ∧ (Kd.R (Kd.int .i64) 3 w' w.heap.size (fun k_ => some k_ ≠ (s_.1 : Value).ownBlock ∧ some k_ ≠ (s_.2.2.1 : Value).ownBlock) s_.2.2.2.2 y211) ∧ (spec_SightOf.b2_ gb194 ad198 l0_0 c0_0 a0_1 a0_2 A0_3 l0_3 c0_3 A0_4 l0_4 c0_4 A0_5 l0_5 c0_5 a0_6 w') ∧ (spec_SightOf.b4_ gb195 w') ∧ (Below w.heap.size w w')) ?_ ?_
        intro hJ6_7_10_15_18
        refine nioj_ (σ := Value × Value × Value × Value × Nat) 3 (ab 22 1310719) (fun s_ => [(27,s_.1),(28,s_.2.1),(31,s_.2.2.1),(36,s_.2.2.2.1),(6,.pointer (some ⟨s_.2.2.2.2,0,none⟩))]) (fun s_ w' => (spec_SightOf.S_ gb194 ad198 l0_0 c0_0 a0_1 a0_2 A0_3 l0_3 c0_3 A0_4 l0_4 c0_4 A0_5 l0_5 c0_5 a0_6 a1 A198_0 c198_0 w') ∧ (Kd.R (Kd.int .i64) 3 w' w.heap.size (fun k_ => some k_ ≠ (s_.2.2.1 : Value).ownBlock ∧ some k_ ≠ (s_.2.2.2.1 : Value).ownBlock) s_.1 t199) ∧ (Kd.R (Kd.int .i64) 3 w' w.heap.size (fun k_ => some k_ ≠ (s_.1 : Value).ownBlock ∧ some k_ ≠ (s_.2.2.2.1 : Value).ownBlock) s_.2.2.1 y205) ∧ (Kd.R (Kd.int .i64) 3 w' w.heap.size (fun k_ => some k_ ≠ (s_.1 : Value).ownBlock ∧ some k_ ≠ (s_.2.2.1 : Value).ownBlock) s_.2.2.2.1 y208) ∧ (spec_SightOf.b2_ gb194 ad198 l0_0 c0_0 a0_1 a0_2 A0_3 l0_3 c0_3 A0_4 l0_4 c0_4 A0_5 l0_5 c0_5 a0_6 w') ∧ (spec_SightOf.b4_ gb195 w') ∧ (w'.heap[s_.2.2.2.2]? = some (.cells #[.int .i64 0,.slice none 0 0,.slice none 0 0,.int .i64 0,.int .i64 0,.slice none 0 0,.slice none 0 0] 84 (0,0))) ∧ (w.heap.size ≤ s_.2.2.2.2) ∧ (w.heap.size ≤ s_.2.2.2.2) ∧ (gb194 ≠ s_.2.2.2.2) ∧ (s_.2.2.2.2 ≠ gb194) ∧ (gb195 ≠ s_.2.2.2.2) ∧ (s_.2.2.2.2 ≠ gb195) ∧ (Below w.heap.size w w')) ?_ ?_
        intro hJ6_7_10_15_20
        refine nioj_ (σ := Value × Value × Value × Value) 4 (ab 22 262143) (fun s_ => [(27,s_.1),(28,s_.2.1),(31,s_.2.2.1),(36,s_.2.2.2)]) (fun s_ w' => (spec_SightOf.S_ gb194 ad198 l0_0 c0_0 a0_1 a0_2 A0_3 l0_3 c0_3 A0_4 l0_4 c0_4 A0_5 l0_5 c0_5 a0_6 a1 A198_0 c198_0 w') ∧ (Kd.R (Kd.int .i64) 3 w' w.heap.size (fun k_ => some k_ ≠ (s_.2.2.1 : Value).ownBlock ∧ some k_ ≠ (s_.2.2.2 : Value).ownBlock) s_.1 t199) ∧ (Kd.R (Kd.int .i64) 3 w' w.heap.size (fun k_ => some k_ ≠ (s_.1 : Value).ownBlock ∧ some k_ ≠ (s_.2.2.2 : Value).ownBlock) s_.2.2.1 y205) ∧ (Kd.R (Kd.int .i64) 3 w' w.heap.size (fun k_ => some k_ ≠ (s_.1 : Value).ownBlock ∧ some k_ ≠ (s_.2.2.1 : Value).ownBlock) s_.2.2.2 y208) ∧ (spec_SightOf.b2_ gb194 ad198 l0_0 c0_0 a0_1 a0_2 A0_3 l0_3 c0_3 A0_4 l0_4 c0_4 A0_5 l0_5 c0_5 a0_6 w') ∧ (spec_SightOf.b4_ gb195 w') ∧ (Below w.heap.size w w')) ?_ ?_
        intro hJ6_7_10_15
        refine nioj_ (σ := Value × Value × Value × Nat) 4 (ab 22 1277951) (fun s_ => [(27,s_.1),(28,s_.2.1),(31,s_.2.2.1),(6,.pointer (some ⟨s_.2.2.2,0,none⟩))]) (fun s_ w' => (spec_SightOf.S_ gb194 ad198 l0_0 c0_0 a0_1 a0_2 A0_3 l0_3 c0_3 A0_4 l0_4 c0_4 A0_5 l0_5 c0_5 a0_6 a1 A198_0 c198_0 w') ∧ (Kd.R (Kd.int .i64) 3 w' w.heap.size (fun k_ => some k_ ≠ (s_.2.2.1 : Value).ownBlock) s_.1 t199) ∧ (Kd.R (Kd.int .i64) 3 w' w.heap.size (fun k_ => some k_ ≠ (s_.1 : Value).ownBlock) s_.2.2.1 y205) ∧ (spec_SightOf.b2_ gb194 ad198 l0_0 c0_0 a0_1 a0_2 A0_3 l0_3 c0_3 A0_4 l0_4 c0_4 A0_5 l0_5 c0_5 a0_6 w') ∧ (spec_SightOf.b4_ gb195 w') ∧ (w'.heap[s_.2.2.2]? = some (.cells #[.int .i64 0,.slice none 0 0,.slice none 0 0,.int .i64 0,.int .i64 0,.slice none 0 0,.slice none 0 0] 84 (0,0))) ∧ (w.heap.size ≤ s_.2.2.2) ∧ (w.heap.size ≤ s_.2.2.2) ∧ (gb194 ≠ s_.2.2.2) ∧ (s_.2.2.2 ≠ gb194) ∧ (gb195 ≠ s_.2.2.2) ∧ (s_.2.2.2 ≠ gb195) ∧ (Below w.heap.size w w')) ?_ ?_
        intro hJ6_7_10_20
        refine nioj_ (σ := Value × Value × Value × Nat) 4 (ab 22 1309695) (fun s_ => [(27,s_.1),(28,s_.2.1),(36,s_.2.2.1),(6,.pointer (some ⟨s_.2.2.2,0,none⟩))]) (fun s_ w' => (spec_SightOf.S_ gb194 ad198 l0_0 c0_0 a0_1 a0_2 A0_3 l0_3 c0_3 A0_4 l0_4 c0_4 A0_5 l0_5 c0_5 a0_6 a1 A198_0 c198_0 w') ∧ (Kd.R (Kd.int .i64) 3 w' w.heap.size (fun k_ => some k_ ≠ (s_.2.1 : Value).ownBlock ∧ some k_ ≠ (s_.2.2.1 : Value).ownBlock) s_.1 t199) ∧ (Kd.R (Kd.int .i64) 3 w' w.heap.size (fun k_ => some k_ ≠ (s_.1 : Value).ownBlock ∧ some k_ ≠ (s_.2.2.1 : Value).ownBlock) s_.2.1 y202) ∧ (Kd.R (Kd.int .i64) 3 w' w.heap.size (fun k_ => some k_ ≠ (s_.1 : Value).ownBlock ∧ some k_ ≠ (s_.2.1 : Value).ownBlock) s_.2.2.1 y208) ∧ (spec_SightOf.b2_ gb194 ad198 l0_0 c0_0 a0_1 a0_2 A0_3 l0_3 c0_3 A0_4 l0_4 c0_4 A0_5 l0_5 c0_5 a0_6 w') ∧ (spec_SightOf.b4_ gb195 w') ∧ (w'.heap[s_.2.2.2]? = some (.cells #[.int .i64 0,.slice none 0 0,.slice none 0 0,.int .i64 0,.int .i64 0,.slice none 0 0,.slice none 0 0] 84 (0,0))) ∧ (w.heap.size ≤ s_.2.2.2) ∧ (w.heap.size ≤ s_.2.2.2) ∧ (gb194 ≠ s_.2.2.2) ∧ (s_.2.2.2 ≠ gb194) ∧ (gb195 ≠ s_.2.2.2) ∧ (s_.2.2.2 ≠ gb195) ∧ (Below w.heap.size w w')) ?_ ?_
        intro hJ6_7_15_20
        refine nioj_ (σ := Value × Value × Value) 5 (ab 22 229375) (fun s_ => [(27,s_.1),(28,s_.2.1),(31,s_.2.2)]) (fun s_ w' => (spec_SightOf.S_ gb194 ad198 l0_0 c0_0 a0_1 a0_2 A0_3 l0_3 c0_3 A0_4 l0_4 c0_4 A0_5 l0_5 c0_5 a0_6 a1 A198_0 c198_0 w') ∧ (Kd.R (Kd.int .i64) 3 w' w.heap.size (fun k_ => some k_ ≠ (s_.2.2 : Value).ownBlock) s_.1 t199) ∧ (Kd.R (Kd.int .i64) 3 w' w.heap.size (fun k_ => some k_ ≠ (s_.1 : Value).ownBlock) s_.2.2 y205) ∧ (spec_SightOf.b2_ gb194 ad198 l0_0 c0_0 a0_1 a0_2 A0_3 l0_3 c0_3 A0_4 l0_4 c0_4 A0_5 l0_5 c0_5 a0_6 w') ∧ (spec_SightOf.b4_ gb195 w') ∧ (Below w.heap.size w w')) ?_ ?_
        intro hJ6_7_10
        refine nioj_ (σ := Value × Value × Value) 5 (ab 22 261119) (fun s_ => [(27,s_.1),(28,s_.2.1),(36,s_.2.2)]) (fun s_ w' => (spec_SightOf.S_ gb194 ad198 l0_0 c0_0 a0_1 a0_2 A0_3 l0_3 c0_3 A0_4 l0_4 c0_4 A0_5 l0_5 c0_5 a0_6 a1 A198_0 c198_0 w') ∧ (Kd.R (Kd.int .i64) 3 w' w.heap.size (fun k_ => some k_ ≠ (s_.2.1 : Value).ownBlock ∧ some k_ ≠ (s_.2.2 : Value).ownBlock) s_.1 t199) ∧ (Kd.R (Kd.int .i64) 3 w' w.heap.size (fun k_ => some k_ ≠ (s_.1 : Value).ownBlock ∧ some k_ ≠ (s_.2.2 : Value).ownBlock) s_.2.1 y202) ∧ (Kd.R (Kd.int .i64) 3 w' w.heap.size (fun k_ => some k_ ≠ (s_.1 : Value).ownBlock ∧ some k_ ≠ (s_.2.1 : Value).ownBlock) s_.2.2 y208) ∧ (spec_SightOf.b2_ gb194 ad198 l0_0 c0_0 a0_1 a0_2 A0_3 l0_3 c0_3 A0_4 l0_4 c0_4 A0_5 l0_5 c0_5 a0_6 w') ∧ (spec_SightOf.b4_ gb195 w') ∧ (Below w.heap.size w w')) ?_ ?_
        intro hJ6_7_15
        refine nioj_ (σ := Value × Value × Nat) 5 (ab 22 1276927) (fun s_ => [(27,s_.1),(28,s_.2.1),(6,.pointer (some ⟨s_.2.2,0,none⟩))]) (fun s_ w' => (spec_SightOf.S_ gb194 ad198 l0_0 c0_0 a0_1 a0_2 A0_3 l0_3 c0_3 A0_4 l0_4 c0_4 A0_5 l0_5 c0_5 a0_6 a1 A198_0 c198_0 w') ∧ (Kd.R (Kd.int .i64) 3 w' w.heap.size (fun k_ => some k_ ≠ (s_.2.1 : Value).ownBlock) s_.1 t199) ∧ (Kd.R (Kd.int .i64) 3 w' w.heap.size (fun k_ => some k_ ≠ (s_.1 : Value).ownBlock) s_.2.1 y202) ∧ (spec_SightOf.b2_ gb194 ad198 l0_0 c0_0 a0_1 a0_2 A0_3 l0_3 c0_3 A0_4 l0_4 c0_4 A0_5 l0_5 c0_5 a0_6 w') ∧ (spec_SightOf.b4_ gb195 w') ∧ (w'.heap[s_.2.2]? = some (.cells #[.int .i64 0,.slice none 0 0,.slice none 0 0,.int .i64 0,.int .i64 0,.slice none 0 0,.slice none 0 0] 84 (0,0))) ∧ (w.heap.size ≤ s_.2.2) ∧ (w.heap.size ≤ s_.2.2) ∧ (gb194 ≠ s_.2.2) ∧ (s_.2.2 ≠ gb194) ∧ (gb195 ≠ s_.2.2) ∧ (s_.2.2 ≠ gb195) ∧ (Below w.heap.size w w')) ?_ ?_
        intro hJ6_7_20
        refine nioj_ (σ := Value × Value × Nat) 5 (ab 22 1309567) (fun s_ => [(27,s_.1),(36,s_.2.1),(6,.pointer (some ⟨s_.2.2,0,none⟩))]) (fun s_ w' => (spec_SightOf.S_ gb194 ad198 l0_0 c0_0 a0_1 a0_2 A0_3 l0_3 c0_3 A0_4 l0_4 c0_4 A0_5 l0_5 c0_5 a0_6 a1 A198_0 c198_0 w') ∧ (Kd.R (Kd.int .i64) 3 w' w.heap.size (fun k_ => some k_ ≠ (s_.2.1 : Value).ownBlock) s_.1 t199) ∧ (Kd.R (Kd.int .i64) 3 w' w.heap.size (fun k_ => some k_ ≠ (s_.1 : Value).ownBlock) s_.2.1 y208) ∧ (spec_SightOf.b2_ gb194 ad198 l0_0 c0_0 a0_1 a0_2 A0_3 l0_3 c0_3 A0_4 l0_4 c0_4 A0_5 l0_5 c0_5 a0_6 w') ∧ (spec_SightOf.b4_ gb195 w') ∧ (w'.heap[s_.2.2]? = some (.cells #[.int .i64 0,.slice none 0 0,.slice none 0 0,.int .i64 0,.int .i64 0,.slice none 0 0,.slice none 0 0] 84 (0,0))) ∧ (w.heap.size ≤ s_.2.2) ∧ (w.heap.size ≤ s_.2.2) ∧ (gb194 ≠ s_.2.2) ∧ (s_.2.2 ≠ gb194) ∧ (gb195 ≠ s_.2.2) ∧ (s_.2.2 ≠ gb195) ∧ (Below w.heap.size w w')) ?_ ?_
        intro hJ6_15_20
        refine nioj_ (σ := Value × Value × Nat) 5 (ab 22 1309631) (fun s_ => [(28,s_.1),(36,s_.2.1),(6,.pointer (some ⟨s_.2.2,0,none⟩))]) (fun s_ w' => (spec_SightOf.S_ gb194 ad198 l0_0 c0_0 a0_1 a0_2 A0_3 l0_3 c0_3 A0_4 l0_4 c0_4 A0_5 l0_5 c0_5 a0_6 a1 A198_0 c198_0 w') ∧ (Kd.R (Kd.int .i64) 3 w' w.heap.size (fun k_ => some k_ ≠ (s_.2.1 : Value).ownBlock) s_.1 y202) ∧ (Kd.R (Kd.int .i64) 3 w' w.heap.size (fun k_ => some k_ ≠ (s_.1 : Value).ownBlock) s_.2.1 y208) ∧ (spec_SightOf.b2_ gb194 ad198 l0_0 c0_0 a0_1 a0_2 A0_3 l0_3 c0_3 A0_4 l0_4 c0_4 A0_5 l0_5 c0_5 a0_6 w') ∧ (spec_SightOf.b4_ gb195 w') ∧ (w'.heap[s_.2.2]? = some (.cells #[.int .i64 0,.slice none 0 0,.slice none 0 0,.int .i64 0,.int .i64 0,.slice none 0 0,.slice none 0 0] 84 (0,0))) ∧ (w.heap.size ≤ s_.2.2) ∧ (w.heap.size ≤ s_.2.2) ∧ (gb194 ≠ s_.2.2) ∧ (s_.2.2 ≠ gb194) ∧ (gb195 ≠ s_.2.2) ∧ (s_.2.2 ≠ gb195) ∧ (Below w.heap.size w w')) ?_ ?_
        intro hJ7_15_20
        refine nioj_ (σ := Value × Value) 6 (ab 22 228351) (fun s_ => [(27,s_.1),(28,s_.2)]) (fun s_ w' => (spec_SightOf.S_ gb194 ad198 l0_0 c0_0 a0_1 a0_2 A0_3 l0_3 c0_3 A0_4 l0_4 c0_4 A0_5 l0_5 c0_5 a0_6 a1 A198_0 c198_0 w') ∧ (Kd.R (Kd.int .i64) 3 w' w.heap.size (fun k_ => some k_ ≠ (s_.2 : Value).ownBlock) s_.1 t199) ∧ (Kd.R (Kd.int .i64) 3 w' w.heap.size (fun k_ => some k_ ≠ (s_.1 : Value).ownBlock) s_.2 y202) ∧ (spec_SightOf.b2_ gb194 ad198 l0_0 c0_0 a0_1 a0_2 A0_3 l0_3 c0_3 A0_4 l0_4 c0_4 A0_5 l0_5 c0_5 a0_6 w') ∧ (spec_SightOf.b4_ gb195 w') ∧ (Below w.heap.size w w')) ?_ ?_
        intro hJ6_7
        refine nioj_ (σ := Value × Value) 6 (ab 22 260991) (fun s_ => [(27,s_.1),(36,s_.2)]) (fun s_ w' => (spec_SightOf.S_ gb194 ad198 l0_0 c0_0 a0_1 a0_2 A0_3 l0_3 c0_3 A0_4 l0_4 c0_4 A0_5 l0_5 c0_5 a0_6 a1 A198_0 c198_0 w') ∧ (Kd.R (Kd.int .i64) 3 w' w.heap.size (fun k_ => some k_ ≠ (s_.2 : Value).ownBlock) s_.1 t199) ∧ (Kd.R (Kd.int .i64) 3 w' w.heap.size (fun k_ => some k_ ≠ (s_.1 : Value).ownBlock) s_.2 y208) ∧ (spec_SightOf.b2_ gb194 ad198 l0_0 c0_0 a0_1 a0_2 A0_3 l0_3 c0_3 A0_4 l0_4 c0_4 A0_5 l0_5 c0_5 a0_6 w') ∧ (spec_SightOf.b4_ gb195 w') ∧ (Below w.heap.size w w')) ?_ ?_
        intro hJ6_15
        refine nioj_ (σ := Value × Nat) 6 (ab 22 1276799) (fun s_ => [(27,s_.1),(6,.pointer (some ⟨s_.2,0,none⟩))]) (fun s_ w' => (spec_SightOf.S_ gb194 ad198 l0_0 c0_0 a0_1 a0_2 A0_3 l0_3 c0_3 A0_4 l0_4 c0_4 A0_5 l0_5 c0_5 a0_6 a1 A198_0 c198_0 w') ∧ (Kd.R (Kd.int .i64) 3 w' w.heap.size (fun _ => True) s_.1 t199) ∧ (spec_SightOf.b2_ gb194 ad198 l0_0 c0_0 a0_1 a0_2 A0_3 l0_3 c0_3 A0_4 l0_4 c0_4 A0_5 l0_5 c0_5 a0_6 w') ∧ (spec_SightOf.b4_ gb195 w') ∧ (w'.heap[s_.2]? = some (.cells #[.int .i64 0,.slice none 0 0,.slice none 0 0,.int .i64 0,.int .i64 0,.slice none 0 0,.slice none 0 0] 84 (0,0))) ∧ (w.heap.size ≤ s_.2) ∧ (w.heap.size ≤ s_.2) ∧ (gb194 ≠ s_.2) ∧ (s_.2 ≠ gb194) ∧ (gb195 ≠ s_.2) ∧ (s_.2 ≠ gb195) ∧ (Below w.heap.size w w')) ?_ ?_
        intro hJ6_20
        refine nioj_ (σ := Value × Value) 6 (ab 22 261055) (fun s_ => [(28,s_.1),(36,s_.2)]) (fun s_ w' => (spec_SightOf.S_ gb194 ad198 l0_0 c0_0 a0_1 a0_2 A0_3 l0_3 c0_3 A0_4 l0_4 c0_4 A0_5 l0_5 c0_5 a0_6 a1 A198_0 c198_0 w') ∧ (Kd.R (Kd.int .i64) 3 w' w.heap.size (fun k_ => some k_ ≠ (s_.2 : Value).ownBlock) s_.1 y202) ∧ (Kd.R (Kd.int .i64) 3 w' w.heap.size (fun k_ => some k_ ≠ (s_.1 : Value).ownBlock) s_.2 y208) ∧ (spec_SightOf.b2_ gb194 ad198 l0_0 c0_0 a0_1 a0_2 A0_3 l0_3 c0_3 A0_4 l0_4 c0_4 A0_5 l0_5 c0_5 a0_6 w') ∧ (spec_SightOf.b4_ gb195 w') ∧ (Below w.heap.size w w')) ?_ ?_
        intro hJ7_15
        refine nioj_ (σ := Value × Nat) 6 (ab 22 1276863) (fun s_ => [(28,s_.1),(6,.pointer (some ⟨s_.2,0,none⟩))]) (fun s_ w' => (spec_SightOf.S_ gb194 ad198 l0_0 c0_0 a0_1 a0_2 A0_3 l0_3 c0_3 A0_4 l0_4 c0_4 A0_5 l0_5 c0_5 a0_6 a1 A198_0 c198_0 w') ∧ (Kd.R (Kd.int .i64) 3 w' w.heap.size (fun _ => True) s_.1 y202) ∧ (spec_SightOf.b2_ gb194 ad198 l0_0 c0_0 a0_1 a0_2 A0_3 l0_3 c0_3 A0_4 l0_4 c0_4 A0_5 l0_5 c0_5 a0_6 w') ∧ (spec_SightOf.b4_ gb195 w') ∧ (w'.heap[s_.2]? = some (.cells #[.int .i64 0,.slice none 0 0,.slice none 0 0,.int .i64 0,.int .i64 0,.slice none 0 0,.slice none 0 0] 84 (0,0))) ∧ (w.heap.size ≤ s_.2) ∧ (w.heap.size ≤ s_.2) ∧ (gb194 ≠ s_.2) ∧ (s_.2 ≠ gb194) ∧ (gb195 ≠ s_.2) ∧ (s_.2 ≠ gb195) ∧ (Below w.heap.size w w')) ?_ ?_
        intro hJ7_20
        refine nioj_ (σ := Value × Nat) 6 (ab 22 1309503) (fun s_ => [(36,s_.1),(6,.pointer (some ⟨s_.2,0,none⟩))]) (fun s_ w' => (spec_SightOf.S_ gb194 ad198 l0_0 c0_0 a0_1 a0_2 A0_3 l0_3 c0_3 A0_4 l0_4 c0_4 A0_5 l0_5 c0_5 a0_6 a1 A198_0 c198_0 w') ∧ (Kd.R (Kd.int .i64) 3 w' w.heap.size (fun _ => True) s_.1 y208) ∧ (spec_SightOf.b2_ gb194 ad198 l0_0 c0_0 a0_1 a0_2 A0_3 l0_3 c0_3 A0_4 l0_4 c0_4 A0_5 l0_5 c0_5 a0_6 w') ∧ (spec_SightOf.b4_ gb195 w') ∧ (w'.heap[s_.2]? = some (.cells #[.int .i64 0,.slice none 0 0,.slice none 0 0,.int .i64 0,.int .i64 0,.slice none 0 0,.slice none 0 0] 84 (0,0))) ∧ (w.heap.size ≤ s_.2) ∧ (w.heap.size ≤ s_.2) ∧ (gb194 ≠ s_.2) ∧ (s_.2 ≠ gb194) ∧ (gb195 ≠ s_.2) ∧ (s_.2 ≠ gb195) ∧ (Below w.heap.size w w')) ?_ ?_
        intro hJ15_20
        refine nioj_ (σ := Value) 7 (ab 22 228223) (fun s_ => [(27,s_)]) (fun s_ w' => (spec_SightOf.S_ gb194 ad198 l0_0 c0_0 a0_1 a0_2 A0_3 l0_3 c0_3 A0_4 l0_4 c0_4 A0_5 l0_5 c0_5 a0_6 a1 A198_0 c198_0 w') ∧ (Kd.R (Kd.int .i64) 3 w' w.heap.size (fun _ => True) s_ t199) ∧ (spec_SightOf.b2_ gb194 ad198 l0_0 c0_0 a0_1 a0_2 A0_3 l0_3 c0_3 A0_4 l0_4 c0_4 A0_5 l0_5 c0_5 a0_6 w') ∧ (spec_SightOf.b4_ gb195 w') ∧ (Below w.heap.size w w')) ?_ ?_
        intro hJ6
        refine nioj_ (σ := Value) 7 (ab 22 228287) (fun s_ => [(28,s_)]) (fun s_ w' => (spec_SightOf.S_ gb194 ad198 l0_0 c0_0 a0_1 a0_2 A0_3 l0_3 c0_3 A0_4 l0_4 c0_4 A0_5 l0_5 c0_5 a0_6 a1 A198_0 c198_0 w') ∧ (Kd.R (Kd.int .i64) 3 w' w.heap.size (fun _ => True) s_ y202) ∧ (spec_SightOf.b2_ gb194 ad198 l0_0 c0_0 a0_1 a0_2 A0_3 l0_3 c0_3 A0_4 l0_4 c0_4 A0_5 l0_5 c0_5 a0_6 w') ∧ (spec_SightOf.b4_ gb195 w') ∧ (Below w.heap.size w w')) ?_ ?_
        intro hJ7
        refine nioj_ (σ := Value) 7 (ab 22 260927) (fun s_ => [(36,s_)]) (fun s_ w' => (spec_SightOf.S_ gb194 ad198 l0_0 c0_0 a0_1 a0_2 A0_3 l0_3 c0_3 A0_4 l0_4 c0_4 A0_5 l0_5 c0_5 a0_6 a1 A198_0 c198_0 w') ∧ (Kd.R (Kd.int .i64) 3 w' w.heap.size (fun _ => True) s_ y208) ∧ (spec_SightOf.b2_ gb194 ad198 l0_0 c0_0 a0_1 a0_2 A0_3 l0_3 c0_3 A0_4 l0_4 c0_4 A0_5 l0_5 c0_5 a0_6 w') ∧ (spec_SightOf.b4_ gb195 w') ∧ (Below w.heap.size w w')) ?_ ?_
        intro hJ15
        refine nioj_ (σ := Nat) 7 (ab 22 1276735) (fun s_ => [(6,.pointer (some ⟨s_,0,none⟩))]) (fun s_ w' => (spec_SightOf.S_ gb194 ad198 l0_0 c0_0 a0_1 a0_2 A0_3 l0_3 c0_3 A0_4 l0_4 c0_4 A0_5 l0_5 c0_5 a0_6 a1 A198_0 c198_0 w') ∧ (spec_SightOf.b2_ gb194 ad198 l0_0 c0_0 a0_1 a0_2 A0_3 l0_3 c0_3 A0_4 l0_4 c0_4 A0_5 l0_5 c0_5 a0_6 w') ∧ (spec_SightOf.b4_ gb195 w') ∧ (w'.heap[s_]? = some (.cells #[.int .i64 0,.slice none 0 0,.slice none 0 0,.int .i64 0,.int .i64 0,.slice none 0 0,.slice none 0 0] 84 (0,0))) ∧ (w.heap.size ≤ s_) ∧ (w.heap.size ≤ s_) ∧ (gb194 ≠ s_) ∧ (s_ ≠ gb194) ∧ (gb195 ≠ s_) ∧ (s_ ≠ gb195) ∧ (Below w.heap.size w w')) ?_ ?_
        intro hJ20
        refine four_ (i := 6) (j := 7) (k := 15) (m := 20) (Ni := some 27) (Nj := some 28) (Nk := some 36) (Nm := some 6) (ab 22 228223) (ab 22 228287) (ab 22 260927) (ab 22 1276735) rfl rfl rfl rfl rfl rfl rfl rfl (four_of HT_.out (by kernel_rfl)) (by decide) (by decide) (by decide) (by decide) (fun K hK => ?_) (fun K hK => ?_) (fun K hK => ?_) (fun K hK => ?_)
        ·skip
         refine goes_ Try.func130 (by kernel_rfl) rfl #[.slice A198_0 (rd_L1 l0_0 a1).length c198_0] (by rfl) rfl rfl (by (try simp only [List.map_toArray,List.map_cons,List.map_nil]); first | done | rfl | (simp only [List.length_drop,List.length_take]; rfl)) ?_
         with_reducible refine (spec_Sorted.calls _ _ (rd_L1 l0_0 a1) t199 _ ?side1 ?side2 A21.out).mono ?_
         (case side1 => repeat (first | exact (Kd.C_below HR198_0.out HB.out) | (with_reducible refine Kd.C_alloc ?_ _) | (with_reducible refine Kd.C_drewN ?_ _) | (with_reducible refine Kd.C_drew ?_)))
         (case side2 => exact HC198_0.out)
         rintro e w25 ⟨v200,rfl,ho0,hb⟩
         refine ⟨_,rfl,?_⟩
         have n0_ := Qj (QY ho0 (QN (by repeat (first | (with_reducible first | exact HB.out | apply QL | apply QG | apply QK | refine QB ?_ GE194.out | refine QB ?_ GE195.out) | exact HB.out))))
         have n1_ := Qj (QM (g := gb194) (o := _) (by (with_reducible repeat (first | refine QE ?_ _ | refine QF ?_ | refine QD ?_ _)); exact BK194.out) hb)
         have n2_ := Qj (QM (g := gb195) (o := _) (by (with_reducible repeat (first | refine QE ?_ _ | refine QF ?_ | refine QD ?_ _)); exact BK195.out) hb)
         have n3_ := Qj (QT (by repeat (first | (with_reducible first | exact HB.out | apply QL | apply QG | apply QK | refine QB ?_ GE194.out | refine QB ?_ GE195.out) | exact HB.out)) hb)
         clear BK194
         clear BK195
         clear HB
         revert n0_ n1_ n2_ n3_
         intro HO201 BK194 BK195 HB
         (try clear hb)
         (try clear hb2)
         (try clear hk)
         (try clear hi)
         (try clear ho0)
         refine hK.out _ _ ⟨(QC BK194.out 0).trans rfl,(QC BK194.out 1).trans rfl,(QC BK194.out 2).trans rfl,(QC BK194.out 3).trans rfl,(QC BK194.out 4).trans rfl,(QC BK194.out 5).trans rfl,(QC BK194.out 6).trans rfl,((HB.out.cell (World.block_lt_of_cell? w _ hw198_0)).trans hw198_0)⟩ (fun hHeld => ?_)
         clear hK K
         refine QS (a' := ?_) ?_ ?_
         rotate_left
         ·show Act.put _ (some 27) _ = _
          simp only [Act.put,Qg,Qh,Qi,QW,QX]
          rfl
         exact QS (by first | (simp only [putAll,Act.put,Qg,Qh,Qi]; done) | (simp only [putAll,Act.put,Qg,Qh,Qi]; rfl)) (hJ6 (v200) _ ⟨hHeld,(by (with_reducible repeat (first | apply QH | apply QI | apply QJ)); exact HO201.out),(by (with_reducible repeat (first | refine QE ?_ _ | refine QF ?_ | refine QD ?_ _)); exact BK194.out),(by (with_reducible repeat (first | refine QE ?_ _ | refine QF ?_ | refine QD ?_ _)); exact BK195.out),(by repeat (first | (with_reducible first | exact HB.out | apply QL | apply QG | apply QK | refine QB ?_ GE194.out | refine QB ?_ GE195.out) | exact HB.out))⟩)
        ·skip
         refine Qa (Kd.int .i64) _ 3 ?hg (N := 28) ?hd (xs := ([] : List Int)) (inner := []) (ok := fun _ => True) (okp := fun _ => True) ?hr ?hp (fun _ hk => hk) trivial (Below.refl _ _) (Nat.le_refl _) (by simp) ?_; (case hd => rfl); (case hg => rfl); (case hr => first | (go_simp; done) | (go_simp; rfl)); (case hp => exact (Reps.none _ _))
         intro v203 w25 ho26 hb hg_ hnew_
         clear hg_ hnew_
         (first | rw [← Ny202.out] at ho26 | (simp only [Int.reduceToNat] at ho26; rw [← Ny202.out] at ho26))
         have n0_ := Qj (QY ho26 (QN (by repeat (first | (with_reducible first | exact HB.out | apply QL | apply QG | apply QK | refine QB ?_ GE194.out | refine QB ?_ GE195.out) | exact HB.out))))
         have n1_ := Qj (QM (g := gb194) (o := _) (by (with_reducible repeat (first | refine QE ?_ _ | refine QF ?_ | refine QD ?_ _)); exact BK194.out) hb)
         have n2_ := Qj (QM (g := gb195) (o := _) (by (with_reducible repeat (first | refine QE ?_ _ | refine QF ?_ | refine QD ?_ _)); exact BK195.out) hb)
         have n3_ := Qj (QT (by repeat (first | (with_reducible first | exact HB.out | apply QL | apply QG | apply QK | refine QB ?_ GE194.out | refine QB ?_ GE195.out) | exact HB.out)) hb)
         clear BK194
         clear BK195
         clear HB
         revert n0_ n1_ n2_ n3_
         intro HO204 BK194 BK195 HB
         clear hb ho26
         refine hK.out _ _ ⟨(QC BK194.out 0).trans rfl,(QC BK194.out 1).trans rfl,(QC BK194.out 2).trans rfl,(QC BK194.out 3).trans rfl,(QC BK194.out 4).trans rfl,(QC BK194.out 5).trans rfl,(QC BK194.out 6).trans rfl,((HB.out.cell (World.block_lt_of_cell? w _ hw198_0)).trans hw198_0)⟩ (fun hHeld => ?_)
         clear hK K
         refine QS (a' := ?_) ?_ ?_
         rotate_left
         ·show Act.put _ (some 28) _ = _
          simp only [Act.put,Qg,Qh,Qi,QW,QX]
          rfl
         exact QS (by first | (simp only [putAll,Act.put,Qg,Qh,Qi]; done) | (simp only [putAll,Act.put,Qg,Qh,Qi]; rfl)) (hJ7 (v203) _ ⟨hHeld,(by (with_reducible repeat (first | apply QH | apply QI | apply QJ)); exact HO204.out),(by (with_reducible repeat (first | refine QE ?_ _ | refine QF ?_ | refine QD ?_ _)); exact BK194.out),(by (with_reducible repeat (first | refine QE ?_ _ | refine QF ?_ | refine QD ?_ _)); exact BK195.out),(by repeat (first | (with_reducible first | exact HB.out | apply QL | apply QG | apply QK | refine QB ?_ GE194.out | refine QB ?_ GE195.out) | exact HB.out))⟩)
        ·skip
         refine Qa (Kd.int .i64) _ 3 ?hg (N := 36) ?hd (xs := ([] : List Int)) (inner := []) (ok := fun _ => True) (okp := fun _ => True) ?hr ?hp (fun _ hk => hk) trivial (Below.refl _ _) (Nat.le_refl _) (by simp) ?_; (case hd => rfl); (case hg => rfl); (case hr => first | (go_simp; done) | (go_simp; rfl)); (case hp => exact (Reps.none _ _))
         intro v209 w25 ho26 hb hg_ hnew_
         clear hg_ hnew_
         (first | rw [← Ny208.out] at ho26 | (simp only [Int.reduceToNat] at ho26; rw [← Ny208.out] at ho26))
         have n0_ := Qj (QY ho26 (QN (by repeat (first | (with_reducible first | exact HB.out | apply QL | apply QG | apply QK | refine QB ?_ GE194.out | refine QB ?_ GE195.out) | exact HB.out))))
         have n1_ := Qj (QM (g := gb194) (o := _) (by (with_reducible repeat (first | refine QE ?_ _ | refine QF ?_ | refine QD ?_ _)); exact BK194.out) hb)
         have n2_ := Qj (QM (g := gb195) (o := _) (by (with_reducible repeat (first | refine QE ?_ _ | refine QF ?_ | refine QD ?_ _)); exact BK195.out) hb)
         have n3_ := Qj (QT (by repeat (first | (with_reducible first | exact HB.out | apply QL | apply QG | apply QK | refine QB ?_ GE194.out | refine QB ?_ GE195.out) | exact HB.out)) hb)
         clear BK194
         clear BK195
         clear HB
         revert n0_ n1_ n2_ n3_
         intro HO210 BK194 BK195 HB
         clear hb ho26
         refine hK.out _ _ ⟨(QC BK194.out 0).trans rfl,(QC BK194.out 1).trans rfl,(QC BK194.out 2).trans rfl,(QC BK194.out 3).trans rfl,(QC BK194.out 4).trans rfl,(QC BK194.out 5).trans rfl,(QC BK194.out 6).trans rfl,((HB.out.cell (World.block_lt_of_cell? w _ hw198_0)).trans hw198_0)⟩ (fun hHeld => ?_)
         clear hK K
         refine QS (a' := ?_) ?_ ?_
         rotate_left
         ·show Act.put _ (some 36) _ = _
          simp only [Act.put,Qg,Qh,Qi,QW,QX]
          rfl
         exact QS (by first | (simp only [putAll,Act.put,Qg,Qh,Qi]; done) | (simp only [putAll,Act.put,Qg,Qh,Qi]; rfl)) (hJ15 (v209) _ ⟨hHeld,(by (with_reducible repeat (first | apply QH | apply QI | apply QJ)); exact HO210.out),(by (with_reducible repeat (first | refine QE ?_ _ | refine QF ?_ | refine QD ?_ _)); exact BK194.out),(by (with_reducible repeat (first | refine QE ?_ _ | refine QF ?_ | refine QD ?_ _)); exact BK195.out),(by repeat (first | (with_reducible first | exact HB.out | apply QL | apply QG | apply QK | refine QB ?_ GE194.out | refine QB ?_ GE195.out) | exact HB.out))⟩)
        ·skip
         refine box_step ?hg (N := 6) ?hd (cs := #[.int .i64 0,.slice none 0 0,.slice none 0 0,.int .i64 0,.int .i64 0,.slice none 0 0,.slice none 0 0]) (t := 84) ?hr ?_; (case hd => rfl); (case hg => rfl); (case hr => first | (go_simp; done) | (go_simp; rfl))
         intro gb214 hg w25 hbox hb
         have n0_ := Qj (QM (g := gb194) (o := _) (by (with_reducible repeat (first | refine QE ?_ _ | refine QF ?_ | refine QD ?_ _)); exact BK194.out) hb)
         have n1_ := Qj (QM (g := gb195) (o := _) (by (with_reducible repeat (first | refine QE ?_ _ | refine QF ?_ | refine QD ?_ _)); exact BK195.out) hb)
         have n2_ := Qj (QT (by repeat (first | (with_reducible first | exact HB.out | apply QL | apply QG | apply QK | refine QB ?_ GE194.out | refine QB ?_ GE195.out) | exact HB.out)) hb)
         have n3_ := Qj (hbox)
         have n4_ := Qj ((by rw [hg]; exact (QN (by repeat (first | (with_reducible first | exact HB.out | apply QL | apply QG | apply QK | refine QB ?_ GE194.out | refine QB ?_ GE195.out) | exact HB.out))) : w.heap.size ≤ gb214))
         have n5_ := Qj ((by rw [hg]; exact (QN (by repeat (first | (with_reducible first | exact HB.out | apply QL | apply QG | apply QK | refine QB ?_ GE194.out | refine QB ?_ GE195.out) | exact HB.out))) : w.heap.size ≤ gb214))
         have n6_ := Qj ((by rw [hg]; exact Nat.ne_of_lt (Qd (g := gb194) (o := _) (by (with_reducible repeat (first | refine QE ?_ _ | refine QF ?_ | refine QD ?_ _)); exact BK194.out)) : gb194 ≠ gb214))
         have n7_ := Qj ((by rw [hg]; exact Nat.ne_of_gt (Qd (g := gb194) (o := _) (by (with_reducible repeat (first | refine QE ?_ _ | refine QF ?_ | refine QD ?_ _)); exact BK194.out)) : gb214 ≠ gb194))
         have n8_ := Qj ((by rw [hg]; exact Nat.ne_of_lt (Qd (g := gb195) (o := _) (by (with_reducible repeat (first | refine QE ?_ _ | refine QF ?_ | refine QD ?_ _)); exact BK195.out)) : gb195 ≠ gb214))
         have n9_ := Qj ((by rw [hg]; exact Nat.ne_of_gt (Qd (g := gb195) (o := _) (by (with_reducible repeat (first | refine QE ?_ _ | refine QF ?_ | refine QD ?_ _)); exact BK195.out)) : gb214 ≠ gb195))
         clear BK194
         clear BK195
         clear HB
         revert n0_ n1_ n2_ n3_ n4_ n5_ n6_ n7_ n8_ n9_
         intro BK194 BK195 HB BK214 GW214 GE214 NB194_214 NB214_194 NB195_214 NB214_195
         clear hb hbox hg
         refine hK.out _ _ ⟨(QC BK194.out 0).trans rfl,(QC BK194.out 1).trans rfl,(QC BK194.out 2).trans rfl,(QC BK194.out 3).trans rfl,(QC BK194.out 4).trans rfl,(QC BK194.out 5).trans rfl,(QC BK194.out 6).trans rfl,((HB.out.cell (World.block_lt_of_cell? w _ hw198_0)).trans hw198_0)⟩ (fun hHeld => ?_)
         clear hK K
         refine QS (a' := ?_) ?_ ?_
         rotate_left
         ·show Act.put _ (some 6) _ = _
          simp only [Act.put,Qg,Qh,Qi,QW,QX]
          rfl
         exact QS (by first | (simp only [putAll,Act.put,Qg,Qh,Qi]; done) | (simp only [putAll,Act.put,Qg,Qh,Qi]; rfl)) (hJ20 (gb214) _ ⟨hHeld,(by (with_reducible repeat (first | refine QE ?_ _ | refine QF ?_ | refine QD ?_ _)); exact BK194.out),(by (with_reducible repeat (first | refine QE ?_ _ | refine QF ?_ | refine QD ?_ _)); exact BK195.out),(by (with_reducible repeat (first | refine QE ?_ _ | refine QF ?_ | refine QD ?_ _)); exact BK214.out),GW214.out,GE214.out,NB194_214.out,NB214_194.out,NB195_214.out,NB214_195.out,(by repeat (first | (with_reducible first | exact HB.out | apply QL | apply QG | apply QK | refine QB ?_ GE194.out | refine QB ?_ GE195.out | refine QB ?_ GE214.out) | exact HB.out))⟩)
        ·skip
         rintro gb214 w26 ⟨hS_,h0_,h1_,h2_,h3_,h4_,h5_,h6_,h7_,h8_,h9_⟩
         have n0_ : Aside0 (w26.heap[gb194]? = some (.cells #[.slice (some ad198) l0_0.length c0_0,.int .i64 a0_1,.int .i64 a0_2,.slice A0_3 l0_3.length c0_3,.slice A0_4 l0_4.length c0_4,.slice A0_5 l0_5.length c0_5,.int .i64 a0_6] 67 (0,0))) := ⟨h0_⟩
         have n1_ : Aside0 (w26.heap[gb195]? = some (.cells #[.int .i64 0,.slice none 0 0,.slice none 0 0,.int .i64 0,.int .i64 0,.slice none 0 0,.slice none 0 0] 84 (0,0))) := ⟨h1_⟩
         have n2_ : Aside0 (w26.heap[gb214]? = some (.cells #[.int .i64 0,.slice none 0 0,.slice none 0 0,.int .i64 0,.int .i64 0,.slice none 0 0,.slice none 0 0] 84 (0,0))) := ⟨h2_⟩
         have n3_ : Aside0 (w.heap.size ≤ gb214) := ⟨h3_⟩
         have n4_ : Aside0 (w.heap.size ≤ gb214) := ⟨h4_⟩
         have n5_ : Aside0 (gb194 ≠ gb214) := ⟨h5_⟩
         have n6_ : Aside0 (gb214 ≠ gb194) := ⟨h6_⟩
         have n7_ : Aside0 (gb195 ≠ gb214) := ⟨h7_⟩
         have n8_ : Aside0 (gb214 ≠ gb195) := ⟨h8_⟩
         have n9_ : Aside0 (Below w.heap.size w w26) := ⟨h9_⟩
         clear BK194
         clear BK195
         clear HB
         clear h0_ h1_ h2_ h3_ h4_ h5_ h6_ h7_ h8_ h9_
         revert n0_ n1_ n2_ n3_ n4_ n5_ n6_ n7_ n8_ n9_
         intro BK194 BK195 BK214 GW214 GE214 NB194_214 NB214_194 NB195_214 NB214_195 HB
         have hHeld : spec_SightOf.S_ gb194 ad198 l0_0 c0_0 a0_1 a0_2 A0_3 l0_3 c0_3 A0_4 l0_4 c0_4 A0_5 l0_5 c0_5 a0_6 a1 A198_0 c198_0 w26 := hS_
         refine QS (a' := ?_) ?_ ?_
         rotate_left
         ·simp only [putAll,Act.put,Qg,Qh,Qi]
          rfl
         refine three_ (i := 6) (j := 7) (k := 15) (Ni := some 27) (Nj := some 28) (Nk := some 36) (ab 22 1276799) (ab 22 1276863) (ab 22 1309503) rfl rfl rfl rfl rfl rfl (three_of HT_.out (by kernel_rfl)) (by decide) (by decide) (by decide) (fun K hK => ?_) (fun K hK => ?_) (fun K hK => ?_)
         ·skip
          refine goes_ Try.func130 (by kernel_rfl) rfl #[.slice A198_0 (rd_L1 l0_0 a1).length c198_0] (by rfl) rfl rfl (by (try simp only [List.map_toArray,List.map_cons,List.map_nil]); first | done | rfl | (simp only [List.length_drop,List.length_take]; rfl)) ?_
          with_reducible refine (spec_Sorted.calls _ _ (rd_L1 l0_0 a1) t199 _ ?side1 ?side2 A21.out).mono ?_
          (case side1 => repeat (first | exact (Kd.C_below HR198_0.out HB.out) | (with_reducible refine Kd.C_alloc ?_ _) | (with_reducible refine Kd.C_drewN ?_ _) | (with_reducible refine Kd.C_drew ?_)))
          (case side2 => exact HC198_0.out)
          rintro e w27 ⟨v200,rfl,ho0,hb⟩
          refine ⟨_,rfl,?_⟩
          have n0_ := Qj (QY ho0 (QN (by repeat (first | (with_reducible first | exact HB.out | apply QL | apply QG | apply QK | refine QB ?_ GE194.out | refine QB ?_ GE195.out | refine QB ?_ GE214.out) | exact HB.out))))
          have n1_ := Qj (QM (g := gb194) (o := _) (by (with_reducible repeat (first | refine QE ?_ _ | refine QF ?_ | refine QD ?_ _)); exact BK194.out) hb)
          have n2_ := Qj (QM (g := gb195) (o := _) (by (with_reducible repeat (first | refine QE ?_ _ | refine QF ?_ | refine QD ?_ _)); exact BK195.out) hb)
          have n3_ := Qj (QM (g := gb214) (o := _) (by (with_reducible repeat (first | refine QE ?_ _ | refine QF ?_ | refine QD ?_ _)); exact BK214.out) hb)
          have n4_ := Qj (QT (by repeat (first | (with_reducible first | exact HB.out | apply QL | apply QG | apply QK | refine QB ?_ GE194.out | refine QB ?_ GE195.out | refine QB ?_ GE214.out) | exact HB.out)) hb)
          clear BK194
          clear BK195
          clear BK214
          clear HB
          revert n0_ n1_ n2_ n3_ n4_
          intro HO201 BK194 BK195 BK214 HB
          (try clear hb)
          (try clear hb2)
          (try clear hk)
          (try clear hi)
          (try clear ho0)
          refine hK.out _ _ ⟨(QC BK194.out 0).trans rfl,(QC BK194.out 1).trans rfl,(QC BK194.out 2).trans rfl,(QC BK194.out 3).trans rfl,(QC BK194.out 4).trans rfl,(QC BK194.out 5).trans rfl,(QC BK194.out 6).trans rfl,((HB.out.cell (World.block_lt_of_cell? w _ hw198_0)).trans hw198_0)⟩ (fun hHeld => ?_)
          clear hK K
          refine QS (a' := ?_) ?_ ?_
          rotate_left
          ·show Act.put _ (some 27) _ = _
           simp only [Act.put,Qg,Qh,Qi,QW,QX]
           rfl
          exact QS (by first | (simp only [putAll,Act.put,Qg,Qh,Qi]; done) | (simp only [putAll,Act.put,Qg,Qh,Qi]; rfl)) (hJ6_20 (v200,gb214) _ ⟨hHeld,(by (with_reducible repeat (first | apply QH | apply QI | apply QJ)); exact HO201.out),(by (with_reducible repeat (first | refine QE ?_ _ | refine QF ?_ | refine QD ?_ _)); exact BK194.out),(by (with_reducible repeat (first | refine QE ?_ _ | refine QF ?_ | refine QD ?_ _)); exact BK195.out),(by (with_reducible repeat (first | refine QE ?_ _ | refine QF ?_ | refine QD ?_ _)); exact BK214.out),GW214.out,GE214.out,NB194_214.out,NB214_194.out,NB195_214.out,NB214_195.out,(by repeat (first | (with_reducible first | exact HB.out | apply QL | apply QG | apply QK | refine QB ?_ GE194.out | refine QB ?_ GE195.out | refine QB ?_ GE214.out) | exact HB.out))⟩)
         ·skip
          refine Qa (Kd.int .i64) _ 3 ?hg (N := 28) ?hd (xs := ([] : List Int)) (inner := []) (ok := fun _ => True) (okp := fun _ => True) ?hr ?hp (fun _ hk => hk) trivial (Below.refl _ _) (Nat.le_refl _) (by simp) ?_; (case hd => rfl); (case hg => rfl); (case hr => first | (go_simp; done) | (go_simp; rfl)); (case hp => exact (Reps.none _ _))
          intro v203 w27 ho28 hb hg_ hnew_
          clear hg_ hnew_
          (first | rw [← Ny202.out] at ho28 | (simp only [Int.reduceToNat] at ho28; rw [← Ny202.out] at ho28))
          have n0_ := Qj (QY ho28 (QN (by repeat (first | (with_reducible first | exact HB.out | apply QL | apply QG | apply QK | refine QB ?_ GE194.out | refine QB ?_ GE195.out | refine QB ?_ GE214.out) | exact HB.out))))
          have n1_ := Qj (QM (g := gb194) (o := _) (by (with_reducible repeat (first | refine QE ?_ _ | refine QF ?_ | refine QD ?_ _)); exact BK194.out) hb)
          have n2_ := Qj (QM (g := gb195) (o := _) (by (with_reducible repeat (first | refine QE ?_ _ | refine QF ?_ | refine QD ?_ _)); exact BK195.out) hb)
          have n3_ := Qj (QM (g := gb214) (o := _) (by (with_reducible repeat (first | refine QE ?_ _ | refine QF ?_ | refine QD ?_ _)); exact BK214.out) hb)
          have n4_ := Qj (QT (by repeat (first | (with_reducible first | exact HB.out | apply QL | apply QG | apply QK | refine QB ?_ GE194.out | refine QB ?_ GE195.out | refine QB ?_ GE214.out) | exact HB.out)) hb)
          clear BK194
          clear BK195
          clear BK214
          clear HB
          revert n0_ n1_ n2_ n3_ n4_
          intro HO204 BK194 BK195 BK214 HB
          clear hb ho28
          refine hK.out _ _ ⟨(QC BK194.out 0).trans rfl,(QC BK194.out 1).trans rfl,(QC BK194.out 2).trans rfl,(QC BK194.out 3).trans rfl,(QC BK194.out 4).trans rfl,(QC BK194.out 5).trans rfl,(QC BK194.out 6).trans rfl,((HB.out.cell (World.block_lt_of_cell? w _ hw198_0)).trans hw198_0)⟩ (fun hHeld => ?_)
          clear hK K
          refine QS (a' := ?_) ?_ ?_
          rotate_left
          ·show Act.put _ (some 28) _ = _
           simp only [Act.put,Qg,Qh,Qi,QW,QX]
           rfl
          exact QS (by first | (simp only [putAll,Act.put,Qg,Qh,Qi]; done) | (simp only [putAll,Act.put,Qg,Qh,Qi]; rfl)) (hJ7_20 (v203,gb214) _ ⟨hHeld,(by (with_reducible repeat (first | apply QH | apply QI | apply QJ)); exact HO204.out),(by (with_reducible repeat (first | refine QE ?_ _ | refine QF ?_ | refine QD ?_ _)); exact BK194.out),(by (with_reducible repeat (first | refine QE ?_ _ | refine QF ?_ | refine QD ?_ _)); exact BK195.out),(by (with_reducible repeat (first | refine QE ?_ _ | refine QF ?_ | refine QD ?_ _)); exact BK214.out),GW214.out,GE214.out,NB194_214.out,NB214_194.out,NB195_214.out,NB214_195.out,(by repeat (first | (with_reducible first | exact HB.out | apply QL | apply QG | apply QK | refine QB ?_ GE194.out | refine QB ?_ GE195.out | refine QB ?_ GE214.out) | exact HB.out))⟩)
         ·skip
          refine Qa (Kd.int .i64) _ 3 ?hg (N := 36) ?hd (xs := ([] : List Int)) (inner := []) (ok := fun _ => True) (okp := fun _ => True) ?hr ?hp (fun _ hk => hk) trivial (Below.refl _ _) (Nat.le_refl _) (by simp) ?_; (case hd => rfl); (case hg => rfl); (case hr => first | (go_simp; done) | (go_simp; rfl)); (case hp => exact (Reps.none _ _))
          intro v209 w27 ho28 hb hg_ hnew_
          clear hg_ hnew_
          (first | rw [← Ny208.out] at ho28 | (simp only [Int.reduceToNat] at ho28; rw [← Ny208.out] at ho28))
          have n0_ := Qj (QY ho28 (QN (by repeat (first | (with_reducible first | exact HB.out | apply QL | apply QG | apply QK | refine QB ?_ GE194.out | refine QB ?_ GE195.out | refine QB ?_ GE214.out) | exact HB.out))))
          have n1_ := Qj (QM (g := gb194) (o := _) (by (with_reducible repeat (first | refine QE ?_ _ | refine QF ?_ | refine QD ?_ _)); exact BK194.out) hb)
          have n2_ := Qj (QM (g := gb195) (o := _) (by (with_reducible repeat (first | refine QE ?_ _ | refine QF ?_ | refine QD ?_ _)); exact BK195.out) hb)
          have n3_ := Qj (QM (g := gb214) (o := _) (by (with_reducible repeat (first | refine QE ?_ _ | refine QF ?_ | refine QD ?_ _)); exact BK214.out) hb)
          have n4_ := Qj (QT (by repeat (first | (with_reducible first | exact HB.out | apply QL | apply QG | apply QK | refine QB ?_ GE194.out | refine QB ?_ GE195.out | refine QB ?_ GE214.out) | exact HB.out)) hb)
          clear BK194
          clear BK195
          clear BK214
          clear HB
          revert n0_ n1_ n2_ n3_ n4_
          intro HO210 BK194 BK195 BK214 HB
          clear hb ho28
          refine hK.out _ _ ⟨(QC BK194.out 0).trans rfl,(QC BK194.out 1).trans rfl,(QC BK194.out 2).trans rfl,(QC BK194.out 3).trans rfl,(QC BK194.out 4).trans rfl,(QC BK194.out 5).trans rfl,(QC BK194.out 6).trans rfl,((HB.out.cell (World.block_lt_of_cell? w _ hw198_0)).trans hw198_0)⟩ (fun hHeld => ?_)
          clear hK K
          refine QS (a' := ?_) ?_ ?_
          rotate_left
          ·show Act.put _ (some 36) _ = _
           simp only [Act.put,Qg,Qh,Qi,QW,QX]
           rfl
          exact QS (by first | (simp only [putAll,Act.put,Qg,Qh,Qi]; done) | (simp only [putAll,Act.put,Qg,Qh,Qi]; rfl)) (hJ15_20 (v209,gb214) _ ⟨hHeld,(by (with_reducible repeat (first | apply QH | apply QI | apply QJ)); exact HO210.out),(by (with_reducible repeat (first | refine QE ?_ _ | refine QF ?_ | refine QD ?_ _)); exact BK194.out),(by (with_reducible repeat (first | refine QE ?_ _ | refine QF ?_ | refine QD ?_ _)); exact BK195.out),(by (with_reducible repeat (first | refine QE ?_ _ | refine QF ?_ | refine QD ?_ _)); exact BK214.out),GW214.out,GE214.out,NB194_214.out,NB214_194.out,NB195_214.out,NB214_195.out,(by repeat (first | (with_reducible first | exact HB.out | apply QL | apply QG | apply QK | refine QB ?_ GE194.out | refine QB ?_ GE195.out | refine QB ?_ GE214.out) | exact HB.out))⟩)
        ·skip
         rintro v209 w27 ⟨hS_,h0_,h1_,h2_,h3_⟩
         have n0_ : Aside0 (Kd.R (Kd.int .i64) 3 w27 w.heap.size (fun _ => True) v209 y208) := ⟨h0_⟩
         have n1_ : Aside0 (w27.heap[gb194]? = some (.cells #[.slice (some ad198) l0_0.length c0_0,.int .i64 a0_1,.int .i64 a0_2,.slice A0_3 l0_3.length c0_3,.slice A0_4 l0_4.length c0_4,.slice A0_5 l0_5.length c0_5,.int .i64 a0_6] 67 (0,0))) := ⟨h1_⟩
         have n2_ : Aside0 (w27.heap[gb195]? = some (.cells #[.int .i64 0,.slice none 0 0,.slice none 0 0,.int .i64 0,.int .i64 0,.slice none 0 0,.slice none 0 0] 84 (0,0))) := ⟨h2_⟩
         have n3_ : Aside0 (Below w.heap.size w w27) := ⟨h3_⟩
         clear BK194
         clear BK195
         clear HB
         clear h0_ h1_ h2_ h3_
         revert n0_ n1_ n2_ n3_
         intro HO210 BK194 BK195 HB
         have hHeld : spec_SightOf.S_ gb194 ad198 l0_0 c0_0 a0_1 a0_2 A0_3 l0_3 c0_3 A0_4 l0_4 c0_4 A0_5 l0_5 c0_5 a0_6 a1 A198_0 c198_0 w27 := hS_
         refine QS (a' := ?_) ?_ ?_
         rotate_left
         ·simp only [putAll,Act.put,Qg,Qh,Qi]
          rfl
         refine three_ (i := 6) (j := 7) (k := 20) (Ni := some 27) (Nj := some 28) (Nk := some 6) (ab 22 260991) (ab 22 261055) (ab 22 1309503) rfl rfl rfl rfl rfl rfl (three_of HT_.out (by kernel_rfl)) (by decide) (by decide) (by decide) (fun K hK => ?_) (fun K hK => ?_) (fun K hK => ?_)
         ·skip
          refine goes_ Try.func130 (by kernel_rfl) rfl #[.slice A198_0 (rd_L1 l0_0 a1).length c198_0] (by rfl) rfl rfl (by (try simp only [List.map_toArray,List.map_cons,List.map_nil]); first | done | rfl | (simp only [List.length_drop,List.length_take]; rfl)) ?_
          with_reducible refine (spec_Sorted.calls _ _ (rd_L1 l0_0 a1) t199 _ ?side1 ?side2 A21.out).mono ?_
          (case side1 => repeat (first | exact (Kd.C_below HR198_0.out HB.out) | (with_reducible refine Kd.C_alloc ?_ _) | (with_reducible refine Kd.C_drewN ?_ _) | (with_reducible refine Kd.C_drew ?_)))
          (case side2 => exact HC198_0.out)
          rintro e w28 ⟨v200,rfl,ho0,hb⟩
          refine ⟨_,rfl,?_⟩
          have n0_ := Qj (QV (by (with_reducible repeat (first | apply QH | apply QI | apply QJ)); exact HO210.out) (Qb ho0) hb)
          have n1_ := Qj (QY (Qc ho0 (QZ (by (with_reducible repeat (first | apply QH | apply QI | apply QJ)); exact HO210.out))) (QN (by repeat (first | (with_reducible first | exact HB.out | apply QL | apply QG | apply QK | refine QB ?_ GE194.out | refine QB ?_ GE195.out) | exact HB.out))))
          have n2_ := Qj (QM (g := gb194) (o := _) (by (with_reducible repeat (first | refine QE ?_ _ | refine QF ?_ | refine QD ?_ _)); exact BK194.out) hb)
          have n3_ := Qj (QM (g := gb195) (o := _) (by (with_reducible repeat (first | refine QE ?_ _ | refine QF ?_ | refine QD ?_ _)); exact BK195.out) hb)
          have n4_ := Qj (QT (by repeat (first | (with_reducible first | exact HB.out | apply QL | apply QG | apply QK | refine QB ?_ GE194.out | refine QB ?_ GE195.out) | exact HB.out)) hb)
          clear HO210
          clear BK194
          clear BK195
          clear HB
          revert n0_ n1_ n2_ n3_ n4_
          intro HO210 HO201 BK194 BK195 HB
          (try clear hb)
          (try clear hb2)
          (try clear hk)
          (try clear hi)
          (try clear ho0)
          refine hK.out _ _ ⟨(QC BK194.out 0).trans rfl,(QC BK194.out 1).trans rfl,(QC BK194.out 2).trans rfl,(QC BK194.out 3).trans rfl,(QC BK194.out 4).trans rfl,(QC BK194.out 5).trans rfl,(QC BK194.out 6).trans rfl,((HB.out.cell (World.block_lt_of_cell? w _ hw198_0)).trans hw198_0)⟩ (fun hHeld => ?_)
          clear hK K
          refine QS (a' := ?_) ?_ ?_
          rotate_left
          ·show Act.put _ (some 27) _ = _
           simp only [Act.put,Qg,Qh,Qi,QW,QX]
           rfl
          exact QS (by first | (simp only [putAll,Act.put,Qg,Qh,Qi]; done) | (simp only [putAll,Act.put,Qg,Qh,Qi]; rfl)) (hJ6_15 (v200,v209) _ ⟨hHeld,(by (with_reducible repeat (first | apply QH | apply QI | apply QJ)); exact QO HO201.out (by first | exact fun k_ hk => hk.2 | exact fun k_ hk => hk)),(by (with_reducible repeat (first | apply QH | apply QI | apply QJ)); exact QO HO210.out (by first | exact fun k_ hk => hk.2 | exact fun k_ hk => hk)),(by (with_reducible repeat (first | refine QE ?_ _ | refine QF ?_ | refine QD ?_ _)); exact BK194.out),(by (with_reducible repeat (first | refine QE ?_ _ | refine QF ?_ | refine QD ?_ _)); exact BK195.out),(by repeat (first | (with_reducible first | exact HB.out | apply QL | apply QG | apply QK | refine QB ?_ GE194.out | refine QB ?_ GE195.out) | exact HB.out))⟩)
         ·skip
          refine Qa (Kd.int .i64) _ 3 ?hg (N := 28) ?hd (xs := ([] : List Int)) (inner := []) (ok := fun _ => True) (okp := fun _ => True) ?hr ?hp (fun _ hk => hk) trivial (Below.refl _ _) (Nat.le_refl _) (by simp) ?_; (case hd => rfl); (case hg => rfl); (case hr => first | (go_simp; done) | (go_simp; rfl)); (case hp => exact (Reps.none _ _))
          intro v203 w28 ho29 hb hg_ hnew_
          clear hg_ hnew_
          (first | rw [← Ny202.out] at ho29 | (simp only [Int.reduceToNat] at ho29; rw [← Ny202.out] at ho29))
          have n0_ := Qj (QV (by (with_reducible repeat (first | apply QH | apply QI | apply QJ)); exact HO210.out) (Qb ho29) hb)
          have n1_ := Qj (QY (Qc ho29 (QZ (by (with_reducible repeat (first | apply QH | apply QI | apply QJ)); exact HO210.out))) (QN (by repeat (first | (with_reducible first | exact HB.out | apply QL | apply QG | apply QK | refine QB ?_ GE194.out | refine QB ?_ GE195.out) | exact HB.out))))
          have n2_ := Qj (QM (g := gb194) (o := _) (by (with_reducible repeat (first | refine QE ?_ _ | refine QF ?_ | refine QD ?_ _)); exact BK194.out) hb)
          have n3_ := Qj (QM (g := gb195) (o := _) (by (with_reducible repeat (first | refine QE ?_ _ | refine QF ?_ | refine QD ?_ _)); exact BK195.out) hb)
          have n4_ := Qj (QT (by repeat (first | (with_reducible first | exact HB.out | apply QL | apply QG | apply QK | refine QB ?_ GE194.out | refine QB ?_ GE195.out) | exact HB.out)) hb)
          clear HO210
          clear BK194
          clear BK195
          clear HB
          revert n0_ n1_ n2_ n3_ n4_
          intro HO210 HO204 BK194 BK195 HB
          clear hb ho29
          refine hK.out _ _ ⟨(QC BK194.out 0).trans rfl,(QC BK194.out 1).trans rfl,(QC BK194.out 2).trans rfl,(QC BK194.out 3).trans rfl,(QC BK194.out 4).trans rfl,(QC BK194.out 5).trans rfl,(QC BK194.out 6).trans rfl,((HB.out.cell (World.block_lt_of_cell? w _ hw198_0)).trans hw198_0)⟩ (fun hHeld => ?_)
          clear hK K
          refine QS (a' := ?_) ?_ ?_
          rotate_left
          ·show Act.put _ (some 28) _ = _
           simp only [Act.put,Qg,Qh,Qi,QW,QX]
           rfl
          exact QS (by first | (simp only [putAll,Act.put,Qg,Qh,Qi]; done) | (simp only [putAll,Act.put,Qg,Qh,Qi]; rfl)) (hJ7_15 (v203,v209) _ ⟨hHeld,(by (with_reducible repeat (first | apply QH | apply QI | apply QJ)); exact QO HO204.out (by first | exact fun k_ hk => hk.2 | exact fun k_ hk => hk)),(by (with_reducible repeat (first | apply QH | apply QI | apply QJ)); exact QO HO210.out (by first | exact fun k_ hk => hk.2 | exact fun k_ hk => hk)),(by (with_reducible repeat (first | refine QE ?_ _ | refine QF ?_ | refine QD ?_ _)); exact BK194.out),(by (with_reducible repeat (first | refine QE ?_ _ | refine QF ?_ | refine QD ?_ _)); exact BK195.out),(by repeat (first | (with_reducible first | exact HB.out | apply QL | apply QG | apply QK | refine QB ?_ GE194.out | refine QB ?_ GE195.out) | exact HB.out))⟩)
         ·skip
          refine box_step ?hg (N := 6) ?hd (cs := #[.int .i64 0,.slice none 0 0,.slice none 0 0,.int .i64 0,.int .i64 0,.slice none 0 0,.slice none 0 0]) (t := 84) ?hr ?_; (case hd => rfl); (case hg => rfl); (case hr => first | (go_simp; done) | (go_simp; rfl))
          intro gb214 hg w28 hbox hb
          have n0_ := Qj (Qe (by (with_reducible repeat (first | apply QH | apply QI | apply QJ)); exact HO210.out) hb)
          have n1_ := Qj (QM (g := gb194) (o := _) (by (with_reducible repeat (first | refine QE ?_ _ | refine QF ?_ | refine QD ?_ _)); exact BK194.out) hb)
          have n2_ := Qj (QM (g := gb195) (o := _) (by (with_reducible repeat (first | refine QE ?_ _ | refine QF ?_ | refine QD ?_ _)); exact BK195.out) hb)
          have n3_ := Qj (QT (by repeat (first | (with_reducible first | exact HB.out | apply QL | apply QG | apply QK | refine QB ?_ GE194.out | refine QB ?_ GE195.out) | exact HB.out)) hb)
          have n4_ := Qj (hbox)
          have n5_ := Qj ((by rw [hg]; exact (QN (by repeat (first | (with_reducible first | exact HB.out | apply QL | apply QG | apply QK | refine QB ?_ GE194.out | refine QB ?_ GE195.out) | exact HB.out))) : w.heap.size ≤ gb214))
          have n6_ := Qj ((by rw [hg]; exact (QN (by repeat (first | (with_reducible first | exact HB.out | apply QL | apply QG | apply QK | refine QB ?_ GE194.out | refine QB ?_ GE195.out) | exact HB.out))) : w.heap.size ≤ gb214))
          have n7_ := Qj ((by rw [hg]; exact Nat.ne_of_lt (Qd (g := gb194) (o := _) (by (with_reducible repeat (first | refine QE ?_ _ | refine QF ?_ | refine QD ?_ _)); exact BK194.out)) : gb194 ≠ gb214))
          have n8_ := Qj ((by rw [hg]; exact Nat.ne_of_gt (Qd (g := gb194) (o := _) (by (with_reducible repeat (first | refine QE ?_ _ | refine QF ?_ | refine QD ?_ _)); exact BK194.out)) : gb214 ≠ gb194))
          have n9_ := Qj ((by rw [hg]; exact Nat.ne_of_lt (Qd (g := gb195) (o := _) (by (with_reducible repeat (first | refine QE ?_ _ | refine QF ?_ | refine QD ?_ _)); exact BK195.out)) : gb195 ≠ gb214))
          have n10_ := Qj ((by rw [hg]; exact Nat.ne_of_gt (Qd (g := gb195) (o := _) (by (with_reducible repeat (first | refine QE ?_ _ | refine QF ?_ | refine QD ?_ _)); exact BK195.out)) : gb214 ≠ gb195))
          clear HO210
          clear BK194
          clear BK195
          clear HB
          revert n0_ n1_ n2_ n3_ n4_ n5_ n6_ n7_ n8_ n9_ n10_
          intro HO210 BK194 BK195 HB BK214 GW214 GE214 NB194_214 NB214_194 NB195_214 NB214_195
          clear hb hbox hg
          refine hK.out _ _ ⟨(QC BK194.out 0).trans rfl,(QC BK194.out 1).trans rfl,(QC BK194.out 2).trans rfl,(QC BK194.out 3).trans rfl,(QC BK194.out 4).trans rfl,(QC BK194.out 5).trans rfl,(QC BK194.out 6).trans rfl,((HB.out.cell (World.block_lt_of_cell? w _ hw198_0)).trans hw198_0)⟩ (fun hHeld => ?_)
          clear hK K
          refine QS (a' := ?_) ?_ ?_
          rotate_left
          ·show Act.put _ (some 6) _ = _
           simp only [Act.put,Qg,Qh,Qi,QW,QX]
           rfl
          exact QS (by first | (simp only [putAll,Act.put,Qg,Qh,Qi]; done) | (simp only [putAll,Act.put,Qg,Qh,Qi]; rfl)) (hJ15_20 (v209,gb214) _ ⟨hHeld,(by (with_reducible repeat (first | apply QH | apply QI | apply QJ)); exact HO210.out),(by (with_reducible repeat (first | refine QE ?_ _ | refine QF ?_ | refine QD ?_ _)); exact BK194.out),(by (with_reducible repeat (first | refine QE ?_ _ | refine QF ?_ | refine QD ?_ _)); exact BK195.out),(by (with_reducible repeat (first | refine QE ?_ _ | refine QF ?_ | refine QD ?_ _)); exact BK214.out),GW214.out,GE214.out,NB194_214.out,NB214_194.out,NB195_214.out,NB214_195.out,(by repeat (first | (with_reducible first | exact HB.out | apply QL | apply QG | apply QK | refine QB ?_ GE194.out | refine QB ?_ GE195.out | refine QB ?_ GE214.out) | exact HB.out))⟩)
        ·skip
         rintro v203 w27 ⟨hS_,h0_,h1_,h2_,h3_⟩
         have n0_ : Aside0 (Kd.R (Kd.int .i64) 3 w27 w.heap.size (fun _ => True) v203 y202) := ⟨h0_⟩
         have n1_ : Aside0 (w27.heap[gb194]? = some (.cells #[.slice (some ad198) l0_0.length c0_0,.int .i64 a0_1,.int .i64 a0_2,.slice A0_3 l0_3.length c0_3,.slice A0_4 l0_4.length c0_4,.slice A0_5 l0_5.length c0_5,.int .i64 a0_6] 67 (0,0))) := ⟨h1_⟩
         have n2_ : Aside0 (w27.heap[gb195]? = some (.cells #[.int .i64 0,.slice none 0 0,.slice none 0 0,.int .i64 0,.int .i64 0,.slice none 0 0,.slice none 0 0] 84 (0,0))) := ⟨h2_⟩
         have n3_ : Aside0 (Below w.heap.size w w27) := ⟨h3_⟩
         clear BK194
         clear BK195
         clear HB
         clear h0_ h1_ h2_ h3_
         revert n0_ n1_ n2_ n3_
         intro HO204 BK194 BK195 HB
         have hHeld : spec_SightOf.S_ gb194 ad198 l0_0 c0_0 a0_1 a0_2 A0_3 l0_3 c0_3 A0_4 l0_4 c0_4 A0_5 l0_5 c0_5 a0_6 a1 A198_0 c198_0 w27 := hS_
         refine QS (a' := ?_) ?_ ?_
         rotate_left
         ·simp only [putAll,Act.put,Qg,Qh,Qi]
          rfl
         refine three_ (i := 6) (j := 15) (k := 20) (Ni := some 27) (Nj := some 36) (Nk := some 6) (ab 22 228351) (ab 22 261055) (ab 22 1276863) rfl rfl rfl rfl rfl rfl (three_of HT_.out (by kernel_rfl)) (by decide) (by decide) (by decide) (fun K hK => ?_) (fun K hK => ?_) (fun K hK => ?_)
         ·skip
          refine goes_ Try.func130 (by kernel_rfl) rfl #[.slice A198_0 (rd_L1 l0_0 a1).length c198_0] (by rfl) rfl rfl (by (try simp only [List.map_toArray,List.map_cons,List.map_nil]); first | done | rfl | (simp only [List.length_drop,List.length_take]; rfl)) ?_
          with_reducible refine (spec_Sorted.calls _ _ (rd_L1 l0_0 a1) t199 _ ?side1 ?side2 A21.out).mono ?_
          (case side1 => repeat (first | exact (Kd.C_below HR198_0.out HB.out) | (with_reducible refine Kd.C_alloc ?_ _) | (with_reducible refine Kd.C_drewN ?_ _) | (with_reducible refine Kd.C_drew ?_)))
          (case side2 => exact HC198_0.out)
          rintro e w28 ⟨v200,rfl,ho0,hb⟩
          refine ⟨_,rfl,?_⟩
          have n0_ := Qj (QV (by (with_reducible repeat (first | apply QH | apply QI | apply QJ)); exact HO204.out) (Qb ho0) hb)
          have n1_ := Qj (QY (Qc ho0 (QZ (by (with_reducible repeat (first | apply QH | apply QI | apply QJ)); exact HO204.out))) (QN (by repeat (first | (with_reducible first | exact HB.out | apply QL | apply QG | apply QK | refine QB ?_ GE194.out | refine QB ?_ GE195.out) | exact HB.out))))
          have n2_ := Qj (QM (g := gb194) (o := _) (by (with_reducible repeat (first | refine QE ?_ _ | refine QF ?_ | refine QD ?_ _)); exact BK194.out) hb)
          have n3_ := Qj (QM (g := gb195) (o := _) (by (with_reducible repeat (first | refine QE ?_ _ | refine QF ?_ | refine QD ?_ _)); exact BK195.out) hb)
          have n4_ := Qj (QT (by repeat (first | (with_reducible first | exact HB.out | apply QL | apply QG | apply QK | refine QB ?_ GE194.out | refine QB ?_ GE195.out) | exact HB.out)) hb)
          clear HO204
          clear BK194
          clear BK195
          clear HB
          revert n0_ n1_ n2_ n3_ n4_
          intro HO204 HO201 BK194 BK195 HB
          (try clear hb)
          (try clear hb2)
          (try clear hk)
          (try clear hi)
          (try clear ho0)
          refine hK.out _ _ ⟨(QC BK194.out 0).trans rfl,(QC BK194.out 1).trans rfl,(QC BK194.out 2).trans rfl,(QC BK194.out 3).trans rfl,(QC BK194.out 4).trans rfl,(QC BK194.out 5).trans rfl,(QC BK194.out 6).trans rfl,((HB.out.cell (World.block_lt_of_cell? w _ hw198_0)).trans hw198_0)⟩ (fun hHeld => ?_)
          clear hK K
          refine QS (a' := ?_) ?_ ?_
          rotate_left
          ·show Act.put _ (some 27) _ = _
           simp only [Act.put,Qg,Qh,Qi,QW,QX]
           rfl
          exact QS (by first | (simp only [putAll,Act.put,Qg,Qh,Qi]; done) | (simp only [putAll,Act.put,Qg,Qh,Qi]; rfl)) (hJ6_7 (v200,v203) _ ⟨hHeld,(by (with_reducible repeat (first | apply QH | apply QI | apply QJ)); exact QO HO201.out (by first | exact fun k_ hk => hk.2 | exact fun k_ hk => hk)),(by (with_reducible repeat (first | apply QH | apply QI | apply QJ)); exact QO HO204.out (by first | exact fun k_ hk => hk.2 | exact fun k_ hk => hk)),(by (with_reducible repeat (first | refine QE ?_ _ | refine QF ?_ | refine QD ?_ _)); exact BK194.out),(by (with_reducible repeat (first | refine QE ?_ _ | refine QF ?_ | refine QD ?_ _)); exact BK195.out),(by repeat (first | (with_reducible first | exact HB.out | apply QL | apply QG | apply QK | refine QB ?_ GE194.out | refine QB ?_ GE195.out) | exact HB.out))⟩)
         ·skip
          refine Qa (Kd.int .i64) _ 3 ?hg (N := 36) ?hd (xs := ([] : List Int)) (inner := []) (ok := fun _ => True) (okp := fun _ => True) ?hr ?hp (fun _ hk => hk) trivial (Below.refl _ _) (Nat.le_refl _) (by simp) ?_; (case hd => rfl); (case hg => rfl); (case hr => first | (go_simp; done) | (go_simp; rfl)); (case hp => exact (Reps.none _ _))
          intro v209 w28 ho29 hb hg_ hnew_
          clear hg_ hnew_
          (first | rw [← Ny208.out] at ho29 | (simp only [Int.reduceToNat] at ho29; rw [← Ny208.out] at ho29))
          have n0_ := Qj (QV (by (with_reducible repeat (first | apply QH | apply QI | apply QJ)); exact HO204.out) (Qb ho29) hb)
          have n1_ := Qj (QY (Qc ho29 (QZ (by (with_reducible repeat (first | apply QH | apply QI | apply QJ)); exact HO204.out))) (QN (by repeat (first | (with_reducible first | exact HB.out | apply QL | apply QG | apply QK | refine QB ?_ GE194.out | refine QB ?_ GE195.out) | exact HB.out))))
          have n2_ := Qj (QM (g := gb194) (o := _) (by (with_reducible repeat (first | refine QE ?_ _ | refine QF ?_ | refine QD ?_ _)); exact BK194.out) hb)
          have n3_ := Qj (QM (g := gb195) (o := _) (by (with_reducible repeat (first | refine QE ?_ _ | refine QF ?_ | refine QD ?_ _)); exact BK195.out) hb)
          have n4_ := Qj (QT (by repeat (first | (with_reducible first | exact HB.out | apply QL | apply QG | apply QK | refine QB ?_ GE194.out | refine QB ?_ GE195.out) | exact HB.out)) hb)
          clear HO204
          clear BK194
          clear BK195
          clear HB
          revert n0_ n1_ n2_ n3_ n4_
          intro HO204 HO210 BK194 BK195 HB
          clear hb ho29
          refine hK.out _ _ ⟨(QC BK194.out 0).trans rfl,(QC BK194.out 1).trans rfl,(QC BK194.out 2).trans rfl,(QC BK194.out 3).trans rfl,(QC BK194.out 4).trans rfl,(QC BK194.out 5).trans rfl,(QC BK194.out 6).trans rfl,((HB.out.cell (World.block_lt_of_cell? w _ hw198_0)).trans hw198_0)⟩ (fun hHeld => ?_)
          clear hK K
          refine QS (a' := ?_) ?_ ?_
          rotate_left
          ·show Act.put _ (some 36) _ = _
           simp only [Act.put,Qg,Qh,Qi,QW,QX]
           rfl
          exact QS (by first | (simp only [putAll,Act.put,Qg,Qh,Qi]; done) | (simp only [putAll,Act.put,Qg,Qh,Qi]; rfl)) (hJ7_15 (v203,v209) _ ⟨hHeld,(by (with_reducible repeat (first | apply QH | apply QI | apply QJ)); exact QO HO204.out (by first | exact fun k_ hk => hk.2 | exact fun k_ hk => hk)),(by (with_reducible repeat (first | apply QH | apply QI | apply QJ)); exact QO HO210.out (by first | exact fun k_ hk => hk.2 | exact fun k_ hk => hk)),(by (with_reducible repeat (first | refine QE ?_ _ | refine QF ?_ | refine QD ?_ _)); exact BK194.out),(by (with_reducible repeat (first | refine QE ?_ _ | refine QF ?_ | refine QD ?_ _)); exact BK195.out),(by repeat (first | (with_reducible first | exact HB.out | apply QL | apply QG | apply QK | refine QB ?_ GE194.out | refine QB ?_ GE195.out) | exact HB.out))⟩)
         ·skip
          refine box_step ?hg (N := 6) ?hd (cs := #[.int .i64 0,.slice none 0 0,.slice none 0 0,.int .i64 0,.int .i64 0,.slice none 0 0,.slice none 0 0]) (t := 84) ?hr ?_; (case hd => rfl); (case hg => rfl); (case hr => first | (go_simp; done) | (go_simp; rfl))
          intro gb214 hg w28 hbox hb
          have n0_ := Qj (Qe (by (with_reducible repeat (first | apply QH | apply QI | apply QJ)); exact HO204.out) hb)
          have n1_ := Qj (QM (g := gb194) (o := _) (by (with_reducible repeat (first | refine QE ?_ _ | refine QF ?_ | refine QD ?_ _)); exact BK194.out) hb)
          have n2_ := Qj (QM (g := gb195) (o := _) (by (with_reducible repeat (first | refine QE ?_ _ | refine QF ?_ | refine QD ?_ _)); exact BK195.out) hb)
          have n3_ := Qj (QT (by repeat (first | (with_reducible first | exact HB.out | apply QL | apply QG | apply QK | refine QB ?_ GE194.out | refine QB ?_ GE195.out) | exact HB.out)) hb)
          have n4_ := Qj (hbox)
          have n5_ := Qj ((by rw [hg]; exact (QN (by repeat (first | (with_reducible first | exact HB.out | apply QL | apply QG | apply QK | refine QB ?_ GE194.out | refine QB ?_ GE195.out) | exact HB.out))) : w.heap.size ≤ gb214))
          have n6_ := Qj ((by rw [hg]; exact (QN (by repeat (first | (with_reducible first | exact HB.out | apply QL | apply QG | apply QK | refine QB ?_ GE194.out | refine QB ?_ GE195.out) | exact HB.out))) : w.heap.size ≤ gb214))
          have n7_ := Qj ((by rw [hg]; exact Nat.ne_of_lt (Qd (g := gb194) (o := _) (by (with_reducible repeat (first | refine QE ?_ _ | refine QF ?_ | refine QD ?_ _)); exact BK194.out)) : gb194 ≠ gb214))
          have n8_ := Qj ((by rw [hg]; exact Nat.ne_of_gt (Qd (g := gb194) (o := _) (by (with_reducible repeat (first | refine QE ?_ _ | refine QF ?_ | refine QD ?_ _)); exact BK194.out)) : gb214 ≠ gb194))
          have n9_ := Qj ((by rw [hg]; exact Nat.ne_of_lt (Qd (g := gb195) (o := _) (by (with_reducible repeat (first | refine QE ?_ _ | refine QF ?_ | refine QD ?_ _)); exact BK195.out)) : gb195 ≠ gb214))
          have n10_ := Qj ((by rw [hg]; exact Nat.ne_of_gt (Qd (g := gb195) (o := _) (by (with_reducible repeat (first | refine QE ?_ _ | refine QF ?_ | refine QD ?_ _)); exact BK195.out)) : gb214 ≠ gb195))
          clear HO204
          clear BK194
          clear BK195
          clear HB
          revert n0_ n1_ n2_ n3_ n4_ n5_ n6_ n7_ n8_ n9_ n10_
          intro HO204 BK194 BK195 HB BK214 GW214 GE214 NB194_214 NB214_194 NB195_214 NB214_195
          clear hb hbox hg
          refine hK.out _ _ ⟨(QC BK194.out 0).trans rfl,(QC BK194.out 1).trans rfl,(QC BK194.out 2).trans rfl,(QC BK194.out 3).trans rfl,(QC BK194.out 4).trans rfl,(QC BK194.out 5).trans rfl,(QC BK194.out 6).trans rfl,((HB.out.cell (World.block_lt_of_cell? w _ hw198_0)).trans hw198_0)⟩ (fun hHeld => ?_)
          clear hK K
          refine QS (a' := ?_) ?_ ?_
          rotate_left
          ·show Act.put _ (some 6) _ = _
           simp only [Act.put,Qg,Qh,Qi,QW,QX]
           rfl
          exact QS (by first | (simp only [putAll,Act.put,Qg,Qh,Qi]; done) | (simp only [putAll,Act.put,Qg,Qh,Qi]; rfl)) (hJ7_20 (v203,gb214) _ ⟨hHeld,(by (with_reducible repeat (first | apply QH | apply QI | apply QJ)); exact HO204.out),(by (with_reducible repeat (first | refine QE ?_ _ | refine QF ?_ | refine QD ?_ _)); exact BK194.out),(by (with_reducible repeat (first | refine QE ?_ _ | refine QF ?_ | refine QD ?_ _)); exact BK195.out),(by (with_reducible repeat (first | refine QE ?_ _ | refine QF ?_ | refine QD ?_ _)); exact BK214.out),GW214.out,GE214.out,NB194_214.out,NB214_194.out,NB195_214.out,NB214_195.out,(by repeat (first | (with_reducible first | exact HB.out | apply QL | apply QG | apply QK | refine QB ?_ GE194.out | refine QB ?_ GE195.out | refine QB ?_ GE214.out) | exact HB.out))⟩)
        ·skip
         rintro v200 w26 ⟨hS_,h0_,h1_,h2_,h3_⟩
         have n0_ : Aside0 (Kd.R (Kd.int .i64) 3 w26 w.heap.size (fun _ => True) v200 t199) := ⟨h0_⟩
         have n1_ : Aside0 (w26.heap[gb194]? = some (.cells #[.slice (some ad198) l0_0.length c0_0,.int .i64 a0_1,.int .i64 a0_2,.slice A0_3 l0_3.length c0_3,.slice A0_4 l0_4.length c0_4,.slice A0_5 l0_5.length c0_5,.int .i64 a0_6] 67 (0,0))) := ⟨h1_⟩
         have n2_ : Aside0 (w26.heap[gb195]? = some (.cells #[.int .i64 0,.slice none 0 0,.slice none 0 0,.int .i64 0,.int .i64 0,.slice none 0 0,.slice none 0 0] 84 (0,0))) := ⟨h2_⟩
         have n3_ : Aside0 (Below w.heap.size w w26) := ⟨h3_⟩
         clear BK194
         clear BK195
         clear HB
         clear h0_ h1_ h2_ h3_
         revert n0_ n1_ n2_ n3_
         intro HO201 BK194 BK195 HB
         have hHeld : spec_SightOf.S_ gb194 ad198 l0_0 c0_0 a0_1 a0_2 A0_3 l0_3 c0_3 A0_4 l0_4 c0_4 A0_5 l0_5 c0_5 a0_6 a1 A198_0 c198_0 w26 := hS_
         refine QS (a' := ?_) ?_ ?_
         rotate_left
         ·simp only [putAll,Act.put,Qg,Qh,Qi]
          rfl
         refine three_ (i := 7) (j := 15) (k := 20) (Ni := some 28) (Nj := some 36) (Nk := some 6) (ab 22 228351) (ab 22 260991) (ab 22 1276799) rfl rfl rfl rfl rfl rfl (three_of HT_.out (by kernel_rfl)) (by decide) (by decide) (by decide) (fun K hK => ?_) (fun K hK => ?_) (fun K hK => ?_)
         ·skip
          refine Qa (Kd.int .i64) _ 3 ?hg (N := 28) ?hd (xs := ([] : List Int)) (inner := []) (ok := fun _ => True) (okp := fun _ => True) ?hr ?hp (fun _ hk => hk) trivial (Below.refl _ _) (Nat.le_refl _) (by simp) ?_; (case hd => rfl); (case hg => rfl); (case hr => first | (go_simp; done) | (go_simp; rfl)); (case hp => exact (Reps.none _ _))
          intro v203 w27 ho28 hb hg_ hnew_
          clear hg_ hnew_
          (first | rw [← Ny202.out] at ho28 | (simp only [Int.reduceToNat] at ho28; rw [← Ny202.out] at ho28))
          have n0_ := Qj (QV (by (with_reducible repeat (first | apply QH | apply QI | apply QJ)); exact HO201.out) (Qb ho28) hb)
          have n1_ := Qj (QY (Qc ho28 (QZ (by (with_reducible repeat (first | apply QH | apply QI | apply QJ)); exact HO201.out))) (QN (by repeat (first | (with_reducible first | exact HB.out | apply QL | apply QG | apply QK | refine QB ?_ GE194.out | refine QB ?_ GE195.out) | exact HB.out))))
          have n2_ := Qj (QM (g := gb194) (o := _) (by (with_reducible repeat (first | refine QE ?_ _ | refine QF ?_ | refine QD ?_ _)); exact BK194.out) hb)
          have n3_ := Qj (QM (g := gb195) (o := _) (by (with_reducible repeat (first | refine QE ?_ _ | refine QF ?_ | refine QD ?_ _)); exact BK195.out) hb)
          have n4_ := Qj (QT (by repeat (first | (with_reducible first | exact HB.out | apply QL | apply QG | apply QK | refine QB ?_ GE194.out | refine QB ?_ GE195.out) | exact HB.out)) hb)
          clear HO201
          clear BK194
          clear BK195
          clear HB
          revert n0_ n1_ n2_ n3_ n4_
          intro HO201 HO204 BK194 BK195 HB
          clear hb ho28
          refine hK.out _ _ ⟨(QC BK194.out 0).trans rfl,(QC BK194.out 1).trans rfl,(QC BK194.out 2).trans rfl,(QC BK194.out 3).trans rfl,(QC BK194.out 4).trans rfl,(QC BK194.out 5).trans rfl,(QC BK194.out 6).trans rfl,((HB.out.cell (World.block_lt_of_cell? w _ hw198_0)).trans hw198_0)⟩ (fun hHeld => ?_)
          clear hK K
          refine QS (a' := ?_) ?_ ?_
          rotate_left
          ·show Act.put _ (some 28) _ = _
           simp only [Act.put,Qg,Qh,Qi,QW,QX]
           rfl
          exact QS (by first | (simp only [putAll,Act.put,Qg,Qh,Qi]; done) | (simp only [putAll,Act.put,Qg,Qh,Qi]; rfl)) (hJ6_7 (v200,v203) _ ⟨hHeld,(by (with_reducible repeat (first | apply QH | apply QI | apply QJ)); exact QO HO201.out (by first | exact fun k_ hk => hk.2 | exact fun k_ hk => hk)),(by (with_reducible repeat (first | apply QH | apply QI | apply QJ)); exact QO HO204.out (by first | exact fun k_ hk => hk.2 | exact fun k_ hk => hk)),(by (with_reducible repeat (first | refine QE ?_ _ | refine QF ?_ | refine QD ?_ _)); exact BK194.out),(by (with_reducible repeat (first | refine QE ?_ _ | refine QF ?_ | refine QD ?_ _)); exact BK195.out),(by repeat (first | (with_reducible first | exact HB.out | apply QL | apply QG | apply QK | refine QB ?_ GE194.out | refine QB ?_ GE195.out) | exact HB.out))⟩)
         ·skip
          refine Qa (Kd.int .i64) _ 3 ?hg (N := 36) ?hd (xs := ([] : List Int)) (inner := []) (ok := fun _ => True) (okp := fun _ => True) ?hr ?hp (fun _ hk => hk) trivial (Below.refl _ _) (Nat.le_refl _) (by simp) ?_; (case hd => rfl); (case hg => rfl); (case hr => first | (go_simp; done) | (go_simp; rfl)); (case hp => exact (Reps.none _ _))
          intro v209 w27 ho28 hb hg_ hnew_
          clear hg_ hnew_
          (first | rw [← Ny208.out] at ho28 | (simp only [Int.reduceToNat] at ho28; rw [← Ny208.out] at ho28))
          have n0_ := Qj (QV (by (with_reducible repeat (first | apply QH | apply QI | apply QJ)); exact HO201.out) (Qb ho28) hb)
          have n1_ := Qj (QY (Qc ho28 (QZ (by (with_reducible repeat (first | apply QH | apply QI | apply QJ)); exact HO201.out))) (QN (by repeat (first | (with_reducible first | exact HB.out | apply QL | apply QG | apply QK | refine QB ?_ GE194.out | refine QB ?_ GE195.out) | exact HB.out))))
          have n2_ := Qj (QM (g := gb194) (o := _) (by (with_reducible repeat (first | refine QE ?_ _ | refine QF ?_ | refine QD ?_ _)); exact BK194.out) hb)
          have n3_ := Qj (QM (g := gb195) (o := _) (by (with_reducible repeat (first | refine QE ?_ _ | refine QF ?_ | refine QD ?_ _)); exact BK195.out) hb)
          have n4_ := Qj (QT (by repeat (first | (with_reducible first | exact HB.out | apply QL | apply QG | apply QK | refine QB ?_ GE194.out | refine QB ?_ GE195.out) | exact HB.out)) hb)
          clear HO201
          clear BK194
          clear BK195
          clear HB
          revert n0_ n1_ n2_ n3_ n4_
          intro HO201 HO210 BK194 BK195 HB
          clear hb ho28
          refine hK.out _ _ ⟨(QC BK194.out 0).trans rfl,(QC BK194.out 1).trans rfl,(QC BK194.out 2).trans rfl,(QC BK194.out 3).trans rfl,(QC BK194.out 4).trans rfl,(QC BK194.out 5).trans rfl,(QC BK194.out 6).trans rfl,((HB.out.cell (World.block_lt_of_cell? w _ hw198_0)).trans hw198_0)⟩ (fun hHeld => ?_)
          clear hK K
          refine QS (a' := ?_) ?_ ?_
          rotate_left
          ·show Act.put _ (some 36) _ = _
           simp only [Act.put,Qg,Qh,Qi,QW,QX]
           rfl
          exact QS (by first | (simp only [putAll,Act.put,Qg,Qh,Qi]; done) | (simp only [putAll,Act.put,Qg,Qh,Qi]; rfl)) (hJ6_15 (v200,v209) _ ⟨hHeld,(by (with_reducible repeat (first | apply QH | apply QI | apply QJ)); exact QO HO201.out (by first | exact fun k_ hk => hk.2 | exact fun k_ hk => hk)),(by (with_reducible repeat (first | apply QH | apply QI | apply QJ)); exact QO HO210.out (by first | exact fun k_ hk => hk.2 | exact fun k_ hk => hk)),(by (with_reducible repeat (first | refine QE ?_ _ | refine QF ?_ | refine QD ?_ _)); exact BK194.out),(by (with_reducible repeat (first | refine QE ?_ _ | refine QF ?_ | refine QD ?_ _)); exact BK195.out),(by repeat (first | (with_reducible first | exact HB.out | apply QL | apply QG | apply QK | refine QB ?_ GE194.out | refine QB ?_ GE195.out) | exact HB.out))⟩)
         ·skip
          refine box_step ?hg (N := 6) ?hd (cs := #[.int .i64 0,.slice none 0 0,.slice none 0 0,.int .i64 0,.int .i64 0,.slice none 0 0,.slice none 0 0]) (t := 84) ?hr ?_; (case hd => rfl); (case hg => rfl); (case hr => first | (go_simp; done) | (go_simp; rfl))
          intro gb214 hg w27 hbox hb
          have n0_ := Qj (Qe (by (with_reducible repeat (first | apply QH | apply QI | apply QJ)); exact HO201.out) hb)
          have n1_ := Qj (QM (g := gb194) (o := _) (by (with_reducible repeat (first | refine QE ?_ _ | refine QF ?_ | refine QD ?_ _)); exact BK194.out) hb)
          have n2_ := Qj (QM (g := gb195) (o := _) (by (with_reducible repeat (first | refine QE ?_ _ | refine QF ?_ | refine QD ?_ _)); exact BK195.out) hb)
          have n3_ := Qj (QT (by repeat (first | (with_reducible first | exact HB.out | apply QL | apply QG | apply QK | refine QB ?_ GE194.out | refine QB ?_ GE195.out) | exact HB.out)) hb)
          have n4_ := Qj (hbox)
          have n5_ := Qj ((by rw [hg]; exact (QN (by repeat (first | (with_reducible first | exact HB.out | apply QL | apply QG | apply QK | refine QB ?_ GE194.out | refine QB ?_ GE195.out) | exact HB.out))) : w.heap.size ≤ gb214))
          have n6_ := Qj ((by rw [hg]; exact (QN (by repeat (first | (with_reducible first | exact HB.out | apply QL | apply QG | apply QK | refine QB ?_ GE194.out | refine QB ?_ GE195.out) | exact HB.out))) : w.heap.size ≤ gb214))
          have n7_ := Qj ((by rw [hg]; exact Nat.ne_of_lt (Qd (g := gb194) (o := _) (by (with_reducible repeat (first | refine QE ?_ _ | refine QF ?_ | refine QD ?_ _)); exact BK194.out)) : gb194 ≠ gb214))
          have n8_ := Qj ((by rw [hg]; exact Nat.ne_of_gt (Qd (g := gb194) (o := _) (by (with_reducible repeat (first | refine QE ?_ _ | refine QF ?_ | refine QD ?_ _)); exact BK194.out)) : gb214 ≠ gb194))
          have n9_ := Qj ((by rw [hg]; exact Nat.ne_of_lt (Qd (g := gb195) (o := _) (by (with_reducible repeat (first | refine QE ?_ _ | refine QF ?_ | refine QD ?_ _)); exact BK195.out)) : gb195 ≠ gb214))
          have n10_ := Qj ((by rw [hg]; exact Nat.ne_of_gt (Qd (g := gb195) (o := _) (by (with_reducible repeat (first | refine QE ?_ _ | refine QF ?_ | refine QD ?_ _)); exact BK195.out)) : gb214 ≠ gb195))
          clear HO201
          clear BK194
          clear BK195
          clear HB
          revert n0_ n1_ n2_ n3_ n4_ n5_ n6_ n7_ n8_ n9_ n10_
          intro HO201 BK194 BK195 HB BK214 GW214 GE214 NB194_214 NB214_194 NB195_214 NB214_195
          clear hb hbox hg
          refine hK.out _ _ ⟨(QC BK194.out 0).trans rfl,(QC BK194.out 1).trans rfl,(QC BK194.out 2).trans rfl,(QC BK194.out 3).trans rfl,(QC BK194.out 4).trans rfl,(QC BK194.out 5).trans rfl,(QC BK194.out 6).trans rfl,((HB.out.cell (World.block_lt_of_cell? w _ hw198_0)).trans hw198_0)⟩ (fun hHeld => ?_)
          clear hK K
          refine QS (a' := ?_) ?_ ?_
          rotate_left
          ·show Act.put _ (some 6) _ = _
           simp only [Act.put,Qg,Qh,Qi,QW,QX]
           rfl
          exact QS (by first | (simp only [putAll,Act.put,Qg,Qh,Qi]; done) | (simp only [putAll,Act.put,Qg,Qh,Qi]; rfl)) (hJ6_20 (v200,gb214) _ ⟨hHeld,(by (with_reducible repeat (first | apply QH | apply QI | apply QJ)); exact HO201.out),(by (with_reducible repeat (first | refine QE ?_ _ | refine QF ?_ | refine QD ?_ _)); exact BK194.out),(by (with_reducible repeat (first | refine QE ?_ _ | refine QF ?_ | refine QD ?_ _)); exact BK195.out),(by (with_reducible repeat (first | refine QE ?_ _ | refine QF ?_ | refine QD ?_ _)); exact BK214.out),GW214.out,GE214.out,NB194_214.out,NB214_194.out,NB195_214.out,NB214_195.out,(by repeat (first | (with_reducible first | exact HB.out | apply QL | apply QG | apply QK | refine QB ?_ GE194.out | refine QB ?_ GE195.out | refine QB ?_ GE214.out) | exact HB.out))⟩)
        ·skip
         rintro ⟨v209,gb214⟩ w28 ⟨hS_,h0_,h1_,h2_,h3_,h4_,h5_,h6_,h7_,h8_,h9_,h10_⟩
         have n0_ : Aside0 (Kd.R (Kd.int .i64) 3 w28 w.heap.size (fun _ => True) v209 y208) := ⟨h0_⟩
         have n1_ : Aside0 (w28.heap[gb194]? = some (.cells #[.slice (some ad198) l0_0.length c0_0,.int .i64 a0_1,.int .i64 a0_2,.slice A0_3 l0_3.length c0_3,.slice A0_4 l0_4.length c0_4,.slice A0_5 l0_5.length c0_5,.int .i64 a0_6] 67 (0,0))) := ⟨h1_⟩
         have n2_ : Aside0 (w28.heap[gb195]? = some (.cells #[.int .i64 0,.slice none 0 0,.slice none 0 0,.int .i64 0,.int .i64 0,.slice none 0 0,.slice none 0 0] 84 (0,0))) := ⟨h2_⟩
         have n3_ : Aside0 (w28.heap[gb214]? = some (.cells #[.int .i64 0,.slice none 0 0,.slice none 0 0,.int .i64 0,.int .i64 0,.slice none 0 0,.slice none 0 0] 84 (0,0))) := ⟨h3_⟩
         have n4_ : Aside0 (w.heap.size ≤ gb214) := ⟨h4_⟩
         have n5_ : Aside0 (w.heap.size ≤ gb214) := ⟨h5_⟩
         have n6_ : Aside0 (gb194 ≠ gb214) := ⟨h6_⟩
         have n7_ : Aside0 (gb214 ≠ gb194) := ⟨h7_⟩
         have n8_ : Aside0 (gb195 ≠ gb214) := ⟨h8_⟩
         have n9_ : Aside0 (gb214 ≠ gb195) := ⟨h9_⟩
         have n10_ : Aside0 (Below w.heap.size w w28) := ⟨h10_⟩
         clear BK194
         clear BK195
         clear HB
         clear h0_ h1_ h2_ h3_ h4_ h5_ h6_ h7_ h8_ h9_ h10_
         revert n0_ n1_ n2_ n3_ n4_ n5_ n6_ n7_ n8_ n9_ n10_
         intro HO210 BK194 BK195 BK214 GW214 GE214 NB194_214 NB214_194 NB195_214 NB214_195 HB
         have hHeld : spec_SightOf.S_ gb194 ad198 l0_0 c0_0 a0_1 a0_2 A0_3 l0_3 c0_3 A0_4 l0_4 c0_4 A0_5 l0_5 c0_5 a0_6 a1 A198_0 c198_0 w28 := hS_
         refine QS (a' := ?_) ?_ ?_
         rotate_left
         ·simp only [putAll,Act.put,Qg,Qh,Qi]
          rfl
         refine two_ (i := 6) (j := 7) (Ni := some 27) (Nj := some 28) (ab 22 1309567) (ab 22 1309631) rfl rfl rfl rfl (two_of HT_.out (by kernel_rfl)) (by decide) (by decide) (fun K hK => ?_) (fun K hK => ?_)
         ·skip
          refine goes_ Try.func130 (by kernel_rfl) rfl #[.slice A198_0 (rd_L1 l0_0 a1).length c198_0] (by rfl) rfl rfl (by (try simp only [List.map_toArray,List.map_cons,List.map_nil]); first | done | rfl | (simp only [List.length_drop,List.length_take]; rfl)) ?_
          with_reducible refine (spec_Sorted.calls _ _ (rd_L1 l0_0 a1) t199 _ ?side1 ?side2 A21.out).mono ?_
          (case side1 => repeat (first | exact (Kd.C_below HR198_0.out HB.out) | (with_reducible refine Kd.C_alloc ?_ _) | (with_reducible refine Kd.C_drewN ?_ _) | (with_reducible refine Kd.C_drew ?_)))
          (case side2 => exact HC198_0.out)
          rintro e w29 ⟨v200,rfl,ho0,hb⟩
          refine ⟨_,rfl,?_⟩
          have n0_ := Qj (QV (by (with_reducible repeat (first | apply QH | apply QI | apply QJ)); exact HO210.out) (Qb ho0) hb)
          have n1_ := Qj (QY (Qc ho0 (QZ (by (with_reducible repeat (first | apply QH | apply QI | apply QJ)); exact HO210.out))) (QN (by repeat (first | (with_reducible first | exact HB.out | apply QL | apply QG | apply QK | refine QB ?_ GE194.out | refine QB ?_ GE195.out | refine QB ?_ GE214.out) | exact HB.out))))
          have n2_ := Qj (QM (g := gb194) (o := _) (by (with_reducible repeat (first | refine QE ?_ _ | refine QF ?_ | refine QD ?_ _)); exact BK194.out) hb)
          have n3_ := Qj (QM (g := gb195) (o := _) (by (with_reducible repeat (first | refine QE ?_ _ | refine QF ?_ | refine QD ?_ _)); exact BK195.out) hb)
          have n4_ := Qj (QM (g := gb214) (o := _) (by (with_reducible repeat (first | refine QE ?_ _ | refine QF ?_ | refine QD ?_ _)); exact BK214.out) hb)
          have n5_ := Qj (QT (by repeat (first | (with_reducible first | exact HB.out | apply QL | apply QG | apply QK | refine QB ?_ GE194.out | refine QB ?_ GE195.out | refine QB ?_ GE214.out) | exact HB.out)) hb)
          clear HO210
          clear BK194
          clear BK195
          clear BK214
          clear HB
          revert n0_ n1_ n2_ n3_ n4_ n5_
          intro HO210 HO201 BK194 BK195 BK214 HB
          (try clear hb)
          (try clear hb2)
          (try clear hk)
          (try clear hi)
          (try clear ho0)
          refine hK.out _ _ ⟨(QC BK194.out 0).trans rfl,(QC BK194.out 1).trans rfl,(QC BK194.out 2).trans rfl,(QC BK194.out 3).trans rfl,(QC BK194.out 4).trans rfl,(QC BK194.out 5).trans rfl,(QC BK194.out 6).trans rfl,((HB.out.cell (World.block_lt_of_cell? w _ hw198_0)).trans hw198_0)⟩ (fun hHeld => ?_)
          clear hK K
          refine QS (a' := ?_) ?_ ?_
          rotate_left
          ·show Act.put _ (some 27) _ = _
           simp only [Act.put,Qg,Qh,Qi,QW,QX]
           rfl
          exact QS (by first | (simp only [putAll,Act.put,Qg,Qh,Qi]; done) | (simp only [putAll,Act.put,Qg,Qh,Qi]; rfl)) (hJ6_15_20 (v200,v209,gb214) _ ⟨hHeld,(by (with_reducible repeat (first | apply QH | apply QI | apply QJ)); exact QO HO201.out (by first | exact fun k_ hk => hk.2 | exact fun k_ hk => hk)),(by (with_reducible repeat (first | apply QH | apply QI | apply QJ)); exact QO HO210.out (by first | exact fun k_ hk => hk.2 | exact fun k_ hk => hk)),(by (with_reducible repeat (first | refine QE ?_ _ | refine QF ?_ | refine QD ?_ _)); exact BK194.out),(by (with_reducible repeat (first | refine QE ?_ _ | refine QF ?_ | refine QD ?_ _)); exact BK195.out),(by (with_reducible repeat (first | refine QE ?_ _ | refine QF ?_ | refine QD ?_ _)); exact BK214.out),GW214.out,GE214.out,NB194_214.out,NB214_194.out,NB195_214.out,NB214_195.out,(by repeat (first | (with_reducible first | exact HB.out | apply QL | apply QG | apply QK | refine QB ?_ GE194.out | refine QB ?_ GE195.out | refine QB ?_ GE214.out) | exact HB.out))⟩)
         ·skip
          refine Qa (Kd.int .i64) _ 3 ?hg (N := 28) ?hd (xs := ([] : List Int)) (inner := []) (ok := fun _ => True) (okp := fun _ => True) ?hr ?hp (fun _ hk => hk) trivial (Below.refl _ _) (Nat.le_refl _) (by simp) ?_; (case hd => rfl); (case hg => rfl); (case hr => first | (go_simp; done) | (go_simp; rfl)); (case hp => exact (Reps.none _ _))
          intro v203 w29 ho30 hb hg_ hnew_
          clear hg_ hnew_
          (first | rw [← Ny202.out] at ho30 | (simp only [Int.reduceToNat] at ho30; rw [← Ny202.out] at ho30))
          have n0_ := Qj (QV (by (with_reducible repeat (first | apply QH | apply QI | apply QJ)); exact HO210.out) (Qb ho30) hb)
          have n1_ := Qj (QY (Qc ho30 (QZ (by (with_reducible repeat (first | apply QH | apply QI | apply QJ)); exact HO210.out))) (QN (by repeat (first | (with_reducible first | exact HB.out | apply QL | apply QG | apply QK | refine QB ?_ GE194.out | refine QB ?_ GE195.out | refine QB ?_ GE214.out) | exact HB.out))))
          have n2_ := Qj (QM (g := gb194) (o := _) (by (with_reducible repeat (first | refine QE ?_ _ | refine QF ?_ | refine QD ?_ _)); exact BK194.out) hb)
          have n3_ := Qj (QM (g := gb195) (o := _) (by (with_reducible repeat (first | refine QE ?_ _ | refine QF ?_ | refine QD ?_ _)); exact BK195.out) hb)
          have n4_ := Qj (QM (g := gb214) (o := _) (by (with_reducible repeat (first | refine QE ?_ _ | refine QF ?_ | refine QD ?_ _)); exact BK214.out) hb)
          have n5_ := Qj (QT (by repeat (first | (with_reducible first | exact HB.out | apply QL | apply QG | apply QK | refine QB ?_ GE194.out | refine QB ?_ GE195.out | refine QB ?_ GE214.out) | exact HB.out)) hb)
          clear HO210
          clear BK194
          clear BK195
          clear BK214
          clear HB
          revert n0_ n1_ n2_ n3_ n4_ n5_
          intro HO210 HO204 BK194 BK195 BK214 HB
          clear hb ho30
          refine hK.out _ _ ⟨(QC BK194.out 0).trans rfl,(QC BK194.out 1).trans rfl,(QC BK194.out 2).trans rfl,(QC BK194.out 3).trans rfl,(QC BK194.out 4).trans rfl,(QC BK194.out 5).trans rfl,(QC BK194.out 6).trans rfl,((HB.out.cell (World.block_lt_of_cell? w _ hw198_0)).trans hw198_0)⟩ (fun hHeld => ?_)
          clear hK K
          refine QS (a' := ?_) ?_ ?_
          rotate_left
          ·show Act.put _ (some 28) _ = _
           simp only [Act.put,Qg,Qh,Qi,QW,QX]
           rfl
          exact QS (by first | (simp only [putAll,Act.put,Qg,Qh,Qi]; done) | (simp only [putAll,Act.put,Qg,Qh,Qi]; rfl)) (hJ7_15_20 (v203,v209,gb214) _ ⟨hHeld,(by (with_reducible repeat (first | apply QH | apply QI | apply QJ)); exact QO HO204.out (by first | exact fun k_ hk => hk.2 | exact fun k_ hk => hk)),(by (with_reducible repeat (first | apply QH | apply QI | apply QJ)); exact QO HO210.out (by first | exact fun k_ hk => hk.2 | exact fun k_ hk => hk)),(by (with_reducible repeat (first | refine QE ?_ _ | refine QF ?_ | refine QD ?_ _)); exact BK194.out),(by (with_reducible repeat (first | refine QE ?_ _ | refine QF ?_ | refine QD ?_ _)); exact BK195.out),(by (with_reducible repeat (first | refine QE ?_ _ | refine QF ?_ | refine QD ?_ _)); exact BK214.out),GW214.out,GE214.out,NB194_214.out,NB214_194.out,NB195_214.out,NB214_195.out,(by repeat (first | (with_reducible first | exact HB.out | apply QL | apply QG | apply QK | refine QB ?_ GE194.out | refine QB ?_ GE195.out | refine QB ?_ GE214.out) | exact HB.out))⟩)
        ·skip
         rintro ⟨v203,gb214⟩ w28 ⟨hS_,h0_,h1_,h2_,h3_,h4_,h5_,h6_,h7_,h8_,h9_,h10_⟩
         have n0_ : Aside0 (Kd.R (Kd.int .i64) 3 w28 w.heap.size (fun _ => True) v203 y202) := ⟨h0_⟩
         have n1_ : Aside0 (w28.heap[gb194]? = some (.cells #[.slice (some ad198) l0_0.length c0_0,.int .i64 a0_1,.int .i64 a0_2,.slice A0_3 l0_3.length c0_3,.slice A0_4 l0_4.length c0_4,.slice A0_5 l0_5.length c0_5,.int .i64 a0_6] 67 (0,0))) := ⟨h1_⟩
         have n2_ : Aside0 (w28.heap[gb195]? = some (.cells #[.int .i64 0,.slice none 0 0,.slice none 0 0,.int .i64 0,.int .i64 0,.slice none 0 0,.slice none 0 0] 84 (0,0))) := ⟨h2_⟩
         have n3_ : Aside0 (w28.heap[gb214]? = some (.cells #[.int .i64 0,.slice none 0 0,.slice none 0 0,.int .i64 0,.int .i64 0,.slice none 0 0,.slice none 0 0] 84 (0,0))) := ⟨h3_⟩
         have n4_ : Aside0 (w.heap.size ≤ gb214) := ⟨h4_⟩
         have n5_ : Aside0 (w.heap.size ≤ gb214) := ⟨h5_⟩
         have n6_ : Aside0 (gb194 ≠ gb214) := ⟨h6_⟩
         have n7_ : Aside0 (gb214 ≠ gb194) := ⟨h7_⟩
         have n8_ : Aside0 (gb195 ≠ gb214) := ⟨h8_⟩
         have n9_ : Aside0 (gb214 ≠ gb195) := ⟨h9_⟩
         have n10_ : Aside0 (Below w.heap.size w w28) := ⟨h10_⟩
         clear BK194
         clear BK195
         clear HB
         clear h0_ h1_ h2_ h3_ h4_ h5_ h6_ h7_ h8_ h9_ h10_
         revert n0_ n1_ n2_ n3_ n4_ n5_ n6_ n7_ n8_ n9_ n10_
         intro HO204 BK194 BK195 BK214 GW214 GE214 NB194_214 NB214_194 NB195_214 NB214_195 HB
         have hHeld : spec_SightOf.S_ gb194 ad198 l0_0 c0_0 a0_1 a0_2 A0_3 l0_3 c0_3 A0_4 l0_4 c0_4 A0_5 l0_5 c0_5 a0_6 a1 A198_0 c198_0 w28 := hS_
         refine QS (a' := ?_) ?_ ?_
         rotate_left
         ·simp only [putAll,Act.put,Qg,Qh,Qi]
          rfl
         refine two_ (i := 6) (j := 15) (Ni := some 27) (Nj := some 36) (ab 22 1276927) (ab 22 1309631) rfl rfl rfl rfl (two_of HT_.out (by kernel_rfl)) (by decide) (by decide) (fun K hK => ?_) (fun K hK => ?_)
         ·skip
          refine goes_ Try.func130 (by kernel_rfl) rfl #[.slice A198_0 (rd_L1 l0_0 a1).length c198_0] (by rfl) rfl rfl (by (try simp only [List.map_toArray,List.map_cons,List.map_nil]); first | done | rfl | (simp only [List.length_drop,List.length_take]; rfl)) ?_
          with_reducible refine (spec_Sorted.calls _ _ (rd_L1 l0_0 a1) t199 _ ?side1 ?side2 A21.out).mono ?_
          (case side1 => repeat (first | exact (Kd.C_below HR198_0.out HB.out) | (with_reducible refine Kd.C_alloc ?_ _) | (with_reducible refine Kd.C_drewN ?_ _) | (with_reducible refine Kd.C_drew ?_)))
          (case side2 => exact HC198_0.out)
          rintro e w29 ⟨v200,rfl,ho0,hb⟩
          refine ⟨_,rfl,?_⟩
          have n0_ := Qj (QV (by (with_reducible repeat (first | apply QH | apply QI | apply QJ)); exact HO204.out) (Qb ho0) hb)
          have n1_ := Qj (QY (Qc ho0 (QZ (by (with_reducible repeat (first | apply QH | apply QI | apply QJ)); exact HO204.out))) (QN (by repeat (first | (with_reducible first | exact HB.out | apply QL | apply QG | apply QK | refine QB ?_ GE194.out | refine QB ?_ GE195.out | refine QB ?_ GE214.out) | exact HB.out))))
          have n2_ := Qj (QM (g := gb194) (o := _) (by (with_reducible repeat (first | refine QE ?_ _ | refine QF ?_ | refine QD ?_ _)); exact BK194.out) hb)
          have n3_ := Qj (QM (g := gb195) (o := _) (by (with_reducible repeat (first | refine QE ?_ _ | refine QF ?_ | refine QD ?_ _)); exact BK195.out) hb)
          have n4_ := Qj (QM (g := gb214) (o := _) (by (with_reducible repeat (first | refine QE ?_ _ | refine QF ?_ | refine QD ?_ _)); exact BK214.out) hb)
          have n5_ := Qj (QT (by repeat (first | (with_reducible first | exact HB.out | apply QL | apply QG | apply QK | refine QB ?_ GE194.out | refine QB ?_ GE195.out | refine QB ?_ GE214.out) | exact HB.out)) hb)
          clear HO204
          clear BK194
          clear BK195
          clear BK214
          clear HB
          revert n0_ n1_ n2_ n3_ n4_ n5_
          intro HO204 HO201 BK194 BK195 BK214 HB
          (try clear hb)
          (try clear hb2)
          (try clear hk)
          (try clear hi)
          (try clear ho0)
          refine hK.out _ _ ⟨(QC BK194.out 0).trans rfl,(QC BK194.out 1).trans rfl,(QC BK194.out 2).trans rfl,(QC BK194.out 3).trans rfl,(QC BK194.out 4).trans rfl,(QC BK194.out 5).trans rfl,(QC BK194.out 6).trans rfl,((HB.out.cell (World.block_lt_of_cell? w _ hw198_0)).trans hw198_0)⟩ (fun hHeld => ?_)
          clear hK K
          refine QS (a' := ?_) ?_ ?_
          rotate_left
          ·show Act.put _ (some 27) _ = _
           simp only [Act.put,Qg,Qh,Qi,QW,QX]
           rfl
          exact QS (by first | (simp only [putAll,Act.put,Qg,Qh,Qi]; done) | (simp only [putAll,Act.put,Qg,Qh,Qi]; rfl)) (hJ6_7_20 (v200,v203,gb214) _ ⟨hHeld,(by (with_reducible repeat (first | apply QH | apply QI | apply QJ)); exact QO HO201.out (by first | exact fun k_ hk => hk.2 | exact fun k_ hk => hk)),(by (with_reducible repeat (first | apply QH | apply QI | apply QJ)); exact QO HO204.out (by first | exact fun k_ hk => hk.2 | exact fun k_ hk => hk)),(by (with_reducible repeat (first | refine QE ?_ _ | refine QF ?_ | refine QD ?_ _)); exact BK194.out),(by (with_reducible repeat (first | refine QE ?_ _ | refine QF ?_ | refine QD ?_ _)); exact BK195.out),(by (with_reducible repeat (first | refine QE ?_ _ | refine QF ?_ | refine QD ?_ _)); exact BK214.out),GW214.out,GE214.out,NB194_214.out,NB214_194.out,NB195_214.out,NB214_195.out,(by repeat (first | (with_reducible first | exact HB.out | apply QL | apply QG | apply QK | refine QB ?_ GE194.out | refine QB ?_ GE195.out | refine QB ?_ GE214.out) | exact HB.out))⟩)
         ·skip
          refine Qa (Kd.int .i64) _ 3 ?hg (N := 36) ?hd (xs := ([] : List Int)) (inner := []) (ok := fun _ => True) (okp := fun _ => True) ?hr ?hp (fun _ hk => hk) trivial (Below.refl _ _) (Nat.le_refl _) (by simp) ?_; (case hd => rfl); (case hg => rfl); (case hr => first | (go_simp; done) | (go_simp; rfl)); (case hp => exact (Reps.none _ _))
          intro v209 w29 ho30 hb hg_ hnew_
          clear hg_ hnew_
          (first | rw [← Ny208.out] at ho30 | (simp only [Int.reduceToNat] at ho30; rw [← Ny208.out] at ho30))
          have n0_ := Qj (QV (by (with_reducible repeat (first | apply QH | apply QI | apply QJ)); exact HO204.out) (Qb ho30) hb)
          have n1_ := Qj (QY (Qc ho30 (QZ (by (with_reducible repeat (first | apply QH | apply QI | apply QJ)); exact HO204.out))) (QN (by repeat (first | (with_reducible first | exact HB.out | apply QL | apply QG | apply QK | refine QB ?_ GE194.out | refine QB ?_ GE195.out | refine QB ?_ GE214.out) | exact HB.out))))
          have n2_ := Qj (QM (g := gb194) (o := _) (by (with_reducible repeat (first | refine QE ?_ _ | refine QF ?_ | refine QD ?_ _)); exact BK194.out) hb)
          have n3_ := Qj (QM (g := gb195) (o := _) (by (with_reducible repeat (first | refine QE ?_ _ | refine QF ?_ | refine QD ?_ _)); exact BK195.out) hb)
          have n4_ := Qj (QM (g := gb214) (o := _) (by (with_reducible repeat (first | refine QE ?_ _ | refine QF ?_ | refine QD ?_ _)); exact BK214.out) hb)
          have n5_ := Qj (QT (by repeat (first | (with_reducible first | exact HB.out | apply QL | apply QG | apply QK | refine QB ?_ GE194.out | refine QB ?_ GE195.out | refine QB ?_ GE214.out) | exact HB.out)) hb)
          clear HO204
          clear BK194
          clear BK195
          clear BK214
          clear HB
          revert n0_ n1_ n2_ n3_ n4_ n5_
          intro HO204 HO210 BK194 BK195 BK214 HB
          clear hb ho30
          refine hK.out _ _ ⟨(QC BK194.out 0).trans rfl,(QC BK194.out 1).trans rfl,(QC BK194.out 2).trans rfl,(QC BK194.out 3).trans rfl,(QC BK194.out 4).trans rfl,(QC BK194.out 5).trans rfl,(QC BK194.out 6).trans rfl,((HB.out.cell (World.block_lt_of_cell? w _ hw198_0)).trans hw198_0)⟩ (fun hHeld => ?_)
          clear hK K
          refine QS (a' := ?_) ?_ ?_
          rotate_left
          ·show Act.put _ (some 36) _ = _
           simp only [Act.put,Qg,Qh,Qi,QW,QX]
           rfl
          exact QS (by first | (simp only [putAll,Act.put,Qg,Qh,Qi]; done) | (simp only [putAll,Act.put,Qg,Qh,Qi]; rfl)) (hJ7_15_20 (v203,v209,gb214) _ ⟨hHeld,(by (with_reducible repeat (first | apply QH | apply QI | apply QJ)); exact QO HO204.out (by first | exact fun k_ hk => hk.2 | exact fun k_ hk => hk)),(by (with_reducible repeat (first | apply QH | apply QI | apply QJ)); exact QO HO210.out (by first | exact fun k_ hk => hk.2 | exact fun k_ hk => hk)),(by (with_reducible repeat (first | refine QE ?_ _ | refine QF ?_ | refine QD ?_ _)); exact BK194.out),(by (with_reducible repeat (first | refine QE ?_ _ | refine QF ?_ | refine QD ?_ _)); exact BK195.out),(by (with_reducible repeat (first | refine QE ?_ _ | refine QF ?_ | refine QD ?_ _)); exact BK214.out),GW214.out,GE214.out,NB194_214.out,NB214_194.out,NB195_214.out,NB214_195.out,(by repeat (first | (with_reducible first | exact HB.out | apply QL | apply QG | apply QK | refine QB ?_ GE194.out | refine QB ?_ GE195.out | refine QB ?_ GE214.out) | exact HB.out))⟩)
        ·skip
         rintro ⟨v203,v209⟩ w29 ⟨hS_,h0_,h1_,h2_,h3_,h4_⟩
         have n0_ : Aside0 (Kd.R (Kd.int .i64) 3 w29 w.heap.size (fun k_ => some k_ ≠ (v209 : Value).ownBlock) v203 y202) := ⟨h0_⟩
         have n1_ : Aside0 (Kd.R (Kd.int .i64) 3 w29 w.heap.size (fun k_ => some k_ ≠ (v203 : Value).ownBlock) v209 y208) := ⟨h1_⟩
         have n2_ : Aside0 (w29.heap[gb194]? = some (.cells #[.slice (some ad198) l0_0.length c0_0,.int .i64 a0_1,.int .i64 a0_2,.slice A0_3 l0_3.length c0_3,.slice A0_4 l0_4.length c0_4,.slice A0_5 l0_5.length c0_5,.int .i64 a0_6] 67 (0,0))) := ⟨h2_⟩
         have n3_ : Aside0 (w29.heap[gb195]? = some (.cells #[.int .i64 0,.slice none 0 0,.slice none 0 0,.int .i64 0,.int .i64 0,.slice none 0 0,.slice none 0 0] 84 (0,0))) := ⟨h3_⟩
         have n4_ : Aside0 (Below w.heap.size w w29) := ⟨h4_⟩
         clear BK194
         clear BK195
         clear HB
         clear h0_ h1_ h2_ h3_ h4_
         revert n0_ n1_ n2_ n3_ n4_
         intro HO204 HO210 BK194 BK195 HB
         have hHeld : spec_SightOf.S_ gb194 ad198 l0_0 c0_0 a0_1 a0_2 A0_3 l0_3 c0_3 A0_4 l0_4 c0_4 A0_5 l0_5 c0_5 a0_6 a1 A198_0 c198_0 w29 := hS_
         refine QS (a' := ?_) ?_ ?_
         rotate_left
         ·simp only [putAll,Act.put,Qg,Qh,Qi]
          rfl
         refine two_ (i := 6) (j := 20) (Ni := some 27) (Nj := some 6) (ab 22 261119) (ab 22 1309631) rfl rfl rfl rfl (two_of HT_.out (by kernel_rfl)) (by decide) (by decide) (fun K hK => ?_) (fun K hK => ?_)
         ·skip
          refine goes_ Try.func130 (by kernel_rfl) rfl #[.slice A198_0 (rd_L1 l0_0 a1).length c198_0] (by rfl) rfl rfl (by (try simp only [List.map_toArray,List.map_cons,List.map_nil]); first | done | rfl | (simp only [List.length_drop,List.length_take]; rfl)) ?_
          with_reducible refine (spec_Sorted.calls _ _ (rd_L1 l0_0 a1) t199 _ ?side1 ?side2 A21.out).mono ?_
          (case side1 => repeat (first | exact (Kd.C_below HR198_0.out HB.out) | (with_reducible refine Kd.C_alloc ?_ _) | (with_reducible refine Kd.C_drewN ?_ _) | (with_reducible refine Kd.C_drew ?_)))
          (case side2 => exact HC198_0.out)
          rintro e w30 ⟨v200,rfl,ho0,hb⟩
          refine ⟨_,rfl,?_⟩
          have n0_ := Qj (QV (by (with_reducible repeat (first | apply QH | apply QI | apply QJ)); exact HO204.out) (Qb ho0) hb)
          have n1_ := Qj (QV (by (with_reducible repeat (first | apply QH | apply QI | apply QJ)); exact HO210.out) (Qb ho0) hb)
          have n2_ := Qj (QY (Qc (Qc ho0 (QZ (by (with_reducible repeat (first | apply QH | apply QI | apply QJ)); exact HO204.out))) (QZ (by (with_reducible repeat (first | apply QH | apply QI | apply QJ)); exact HO210.out))) (QN (by repeat (first | (with_reducible first | exact HB.out | apply QL | apply QG | apply QK | refine QB ?_ GE194.out | refine QB ?_ GE195.out) | exact HB.out))))
          have n3_ := Qj (QM (g := gb194) (o := _) (by (with_reducible repeat (first | refine QE ?_ _ | refine QF ?_ | refine QD ?_ _)); exact BK194.out) hb)
          have n4_ := Qj (QM (g := gb195) (o := _) (by (with_reducible repeat (first | refine QE ?_ _ | refine QF ?_ | refine QD ?_ _)); exact BK195.out) hb)
          have n5_ := Qj (QT (by repeat (first | (with_reducible first | exact HB.out | apply QL | apply QG | apply QK | refine QB ?_ GE194.out | refine QB ?_ GE195.out) | exact HB.out)) hb)
          clear HO204
          clear HO210
          clear BK194
          clear BK195
          clear HB
          revert n0_ n1_ n2_ n3_ n4_ n5_
          intro HO204 HO210 HO201 BK194 BK195 HB
          (try clear hb)
          (try clear hb2)
          (try clear hk)
          (try clear hi)
          (try clear ho0)
          refine hK.out _ _ ⟨(QC BK194.out 0).trans rfl,(QC BK194.out 1).trans rfl,(QC BK194.out 2).trans rfl,(QC BK194.out 3).trans rfl,(QC BK194.out 4).trans rfl,(QC BK194.out 5).trans rfl,(QC BK194.out 6).trans rfl,((HB.out.cell (World.block_lt_of_cell? w _ hw198_0)).trans hw198_0)⟩ (fun hHeld => ?_)
          clear hK K
          refine QS (a' := ?_) ?_ ?_
          rotate_left
          ·show Act.put _ (some 27) _ = _
           simp only [Act.put,Qg,Qh,Qi,QW,QX]
           rfl
          exact QS (by first | (simp only [putAll,Act.put,Qg,Qh,Qi]; done) | (simp only [putAll,Act.put,Qg,Qh,Qi]; rfl)) (hJ6_7_15 (v200,v203,v209) _ ⟨hHeld,(by (with_reducible repeat (first | apply QH | apply QI | apply QJ)); exact QO HO201.out (fun _ hk => ⟨hk.1.2,hk.2⟩)),(by (with_reducible repeat (first | apply QH | apply QI | apply QJ)); exact QO HO204.out (fun _ hk => ⟨hk.2,hk.1⟩)),(by (with_reducible repeat (first | apply QH | apply QI | apply QJ)); exact QO HO210.out (fun _ hk => ⟨hk.2,hk.1⟩)),(by (with_reducible repeat (first | refine QE ?_ _ | refine QF ?_ | refine QD ?_ _)); exact BK194.out),(by (with_reducible repeat (first | refine QE ?_ _ | refine QF ?_ | refine QD ?_ _)); exact BK195.out),(by repeat (first | (with_reducible first | exact HB.out | apply QL | apply QG | apply QK | refine QB ?_ GE194.out | refine QB ?_ GE195.out) | exact HB.out))⟩)
         ·skip
          refine box_step ?hg (N := 6) ?hd (cs := #[.int .i64 0,.slice none 0 0,.slice none 0 0,.int .i64 0,.int .i64 0,.slice none 0 0,.slice none 0 0]) (t := 84) ?hr ?_; (case hd => rfl); (case hg => rfl); (case hr => first | (go_simp; done) | (go_simp; rfl))
          intro gb214 hg w30 hbox hb
          have n0_ := Qj (Qe (by (with_reducible repeat (first | apply QH | apply QI | apply QJ)); exact HO204.out) hb)
          have n1_ := Qj (Qe (by (with_reducible repeat (first | apply QH | apply QI | apply QJ)); exact HO210.out) hb)
          have n2_ := Qj (QM (g := gb194) (o := _) (by (with_reducible repeat (first | refine QE ?_ _ | refine QF ?_ | refine QD ?_ _)); exact BK194.out) hb)
          have n3_ := Qj (QM (g := gb195) (o := _) (by (with_reducible repeat (first | refine QE ?_ _ | refine QF ?_ | refine QD ?_ _)); exact BK195.out) hb)
          have n4_ := Qj (QT (by repeat (first | (with_reducible first | exact HB.out | apply QL | apply QG | apply QK | refine QB ?_ GE194.out | refine QB ?_ GE195.out) | exact HB.out)) hb)
          have n5_ := Qj (hbox)
          have n6_ := Qj ((by rw [hg]; exact (QN (by repeat (first | (with_reducible first | exact HB.out | apply QL | apply QG | apply QK | refine QB ?_ GE194.out | refine QB ?_ GE195.out) | exact HB.out))) : w.heap.size ≤ gb214))
          have n7_ := Qj ((by rw [hg]; exact (QN (by repeat (first | (with_reducible first | exact HB.out | apply QL | apply QG | apply QK | refine QB ?_ GE194.out | refine QB ?_ GE195.out) | exact HB.out))) : w.heap.size ≤ gb214))
          have n8_ := Qj ((by rw [hg]; exact Nat.ne_of_lt (Qd (g := gb194) (o := _) (by (with_reducible repeat (first | refine QE ?_ _ | refine QF ?_ | refine QD ?_ _)); exact BK194.out)) : gb194 ≠ gb214))
          have n9_ := Qj ((by rw [hg]; exact Nat.ne_of_gt (Qd (g := gb194) (o := _) (by (with_reducible repeat (first | refine QE ?_ _ | refine QF ?_ | refine QD ?_ _)); exact BK194.out)) : gb214 ≠ gb194))
          have n10_ := Qj ((by rw [hg]; exact Nat.ne_of_lt (Qd (g := gb195) (o := _) (by (with_reducible repeat (first | refine QE ?_ _ | refine QF ?_ | refine QD ?_ _)); exact BK195.out)) : gb195 ≠ gb214))
          have n11_ := Qj ((by rw [hg]; exact Nat.ne_of_gt (Qd (g := gb195) (o := _) (by (with_reducible repeat (first | refine QE ?_ _ | refine QF ?_ | refine QD ?_ _)); exact BK195.out)) : gb214 ≠ gb195))
          clear HO204
          clear HO210
          clear BK194
          clear BK195
          clear HB
          revert n0_ n1_ n2_ n3_ n4_ n5_ n6_ n7_ n8_ n9_ n10_ n11_
          intro HO204 HO210 BK194 BK195 HB BK214 GW214 GE214 NB194_214 NB214_194 NB195_214 NB214_195
          clear hb hbox hg
          refine hK.out _ _ ⟨(QC BK194.out 0).trans rfl,(QC BK194.out 1).trans rfl,(QC BK194.out 2).trans rfl,(QC BK194.out 3).trans rfl,(QC BK194.out 4).trans rfl,(QC BK194.out 5).trans rfl,(QC BK194.out 6).trans rfl,((HB.out.cell (World.block_lt_of_cell? w _ hw198_0)).trans hw198_0)⟩ (fun hHeld => ?_)
          clear hK K
          refine QS (a' := ?_) ?_ ?_
          rotate_left
          ·show Act.put _ (some 6) _ = _
           simp only [Act.put,Qg,Qh,Qi,QW,QX]
           rfl
          exact QS (by first | (simp only [putAll,Act.put,Qg,Qh,Qi]; done) | (simp only [putAll,Act.put,Qg,Qh,Qi]; rfl)) (hJ7_15_20 (v203,v209,gb214) _ ⟨hHeld,(by (with_reducible repeat (first | apply QH | apply QI | apply QJ)); exact HO204.out),(by (with_reducible repeat (first | apply QH | apply QI | apply QJ)); exact HO210.out),(by (with_reducible repeat (first | refine QE ?_ _ | refine QF ?_ | refine QD ?_ _)); exact BK194.out),(by (with_reducible repeat (first | refine QE ?_ _ | refine QF ?_ | refine QD ?_ _)); exact BK195.out),(by (with_reducible repeat (first | refine QE ?_ _ | refine QF ?_ | refine QD ?_ _)); exact BK214.out),GW214.out,GE214.out,NB194_214.out,NB214_194.out,NB195_214.out,NB214_195.out,(by repeat (first | (with_reducible first | exact HB.out | apply QL | apply QG | apply QK | refine QB ?_ GE194.out | refine QB ?_ GE195.out | refine QB ?_ GE214.out) | exact HB.out))⟩)
        ·skip
         rintro ⟨v200,gb214⟩ w27 ⟨hS_,h0_,h1_,h2_,h3_,h4_,h5_,h6_,h7_,h8_,h9_,h10_⟩
         have n0_ : Aside0 (Kd.R (Kd.int .i64) 3 w27 w.heap.size (fun _ => True) v200 t199) := ⟨h0_⟩
         have n1_ : Aside0 (w27.heap[gb194]? = some (.cells #[.slice (some ad198) l0_0.length c0_0,.int .i64 a0_1,.int .i64 a0_2,.slice A0_3 l0_3.length c0_3,.slice A0_4 l0_4.length c0_4,.slice A0_5 l0_5.length c0_5,.int .i64 a0_6] 67 (0,0))) := ⟨h1_⟩
         have n2_ : Aside0 (w27.heap[gb195]? = some (.cells #[.int .i64 0,.slice none 0 0,.slice none 0 0,.int .i64 0,.int .i64 0,.slice none 0 0,.slice none 0 0] 84 (0,0))) := ⟨h2_⟩
         have n3_ : Aside0 (w27.heap[gb214]? = some (.cells #[.int .i64 0,.slice none 0 0,.slice none 0 0,.int .i64 0,.int .i64 0,.slice none 0 0,.slice none 0 0] 84 (0,0))) := ⟨h3_⟩
         have n4_ : Aside0 (w.heap.size ≤ gb214) := ⟨h4_⟩
         have n5_ : Aside0 (w.heap.size ≤ gb214) := ⟨h5_⟩
         have n6_ : Aside0 (gb194 ≠ gb214) := ⟨h6_⟩
         have n7_ : Aside0 (gb214 ≠ gb194) := ⟨h7_⟩
         have n8_ : Aside0 (gb195 ≠ gb214) := ⟨h8_⟩
         have n9_ : Aside0 (gb214 ≠ gb195) := ⟨h9_⟩
         have n10_ : Aside0 (Below w.heap.size w w27) := ⟨h10_⟩
         clear BK194
         clear BK195
         clear HB
         clear h0_ h1_ h2_ h3_ h4_ h5_ h6_ h7_ h8_ h9_ h10_
         revert n0_ n1_ n2_ n3_ n4_ n5_ n6_ n7_ n8_ n9_ n10_
         intro HO201 BK194 BK195 BK214 GW214 GE214 NB194_214 NB214_194 NB195_214 NB214_195 HB
         have hHeld : spec_SightOf.S_ gb194 ad198 l0_0 c0_0 a0_1 a0_2 A0_3 l0_3 c0_3 A0_4 l0_4 c0_4 A0_5 l0_5 c0_5 a0_6 a1 A198_0 c198_0 w27 := hS_
         refine QS (a' := ?_) ?_ ?_
         rotate_left
         ·simp only [putAll,Act.put,Qg,Qh,Qi]
          rfl
         refine two_ (i := 7) (j := 15) (Ni := some 28) (Nj := some 36) (ab 22 1276927) (ab 22 1309567) rfl rfl rfl rfl (two_of HT_.out (by kernel_rfl)) (by decide) (by decide) (fun K hK => ?_) (fun K hK => ?_)
         ·skip
          refine Qa (Kd.int .i64) _ 3 ?hg (N := 28) ?hd (xs := ([] : List Int)) (inner := []) (ok := fun _ => True) (okp := fun _ => True) ?hr ?hp (fun _ hk => hk) trivial (Below.refl _ _) (Nat.le_refl _) (by simp) ?_; (case hd => rfl); (case hg => rfl); (case hr => first | (go_simp; done) | (go_simp; rfl)); (case hp => exact (Reps.none _ _))
          intro v203 w28 ho29 hb hg_ hnew_
          clear hg_ hnew_
          (first | rw [← Ny202.out] at ho29 | (simp only [Int.reduceToNat] at ho29; rw [← Ny202.out] at ho29))
          have n0_ := Qj (QV (by (with_reducible repeat (first | apply QH | apply QI | apply QJ)); exact HO201.out) (Qb ho29) hb)
          have n1_ := Qj (QY (Qc ho29 (QZ (by (with_reducible repeat (first | apply QH | apply QI | apply QJ)); exact HO201.out))) (QN (by repeat (first | (with_reducible first | exact HB.out | apply QL | apply QG | apply QK | refine QB ?_ GE194.out | refine QB ?_ GE195.out | refine QB ?_ GE214.out) | exact HB.out))))
          have n2_ := Qj (QM (g := gb194) (o := _) (by (with_reducible repeat (first | refine QE ?_ _ | refine QF ?_ | refine QD ?_ _)); exact BK194.out) hb)
          have n3_ := Qj (QM (g := gb195) (o := _) (by (with_reducible repeat (first | refine QE ?_ _ | refine QF ?_ | refine QD ?_ _)); exact BK195.out) hb)
          have n4_ := Qj (QM (g := gb214) (o := _) (by (with_reducible repeat (first | refine QE ?_ _ | refine QF ?_ | refine QD ?_ _)); exact BK214.out) hb)
          have n5_ := Qj (QT (by repeat (first | (with_reducible first | exact HB.out | apply QL | apply QG | apply QK | refine QB ?_ GE194.out | refine QB ?_ GE195.out | refine QB ?_ GE214.out) | exact HB.out)) hb)
          clear HO201
          clear BK194
          clear BK195
          clear BK214
          clear HB
          revert n0_ n1_ n2_ n3_ n4_ n5_
          intro HO201 HO204 BK194 BK195 BK214 HB
          clear hb ho29
          refine hK.out _ _ ⟨(QC BK194.out 0).trans rfl,(QC BK194.out 1).trans rfl,(QC BK194.out 2).trans rfl,(QC BK194.out 3).trans rfl,(QC BK194.out 4).trans rfl,(QC BK194.out 5).trans rfl,(QC BK194.out 6).trans rfl,((HB.out.cell (World.block_lt_of_cell? w _ hw198_0)).trans hw198_0)⟩ (fun hHeld => ?_)
          clear hK K
          refine QS (a' := ?_) ?_ ?_
          rotate_left
          ·show Act.put _ (some 28) _ = _
           simp only [Act.put,Qg,Qh,Qi,QW,QX]
           rfl
          exact QS (by first | (simp only [putAll,Act.put,Qg,Qh,Qi]; done) | (simp only [putAll,Act.put,Qg,Qh,Qi]; rfl)) (hJ6_7_20 (v200,v203,gb214) _ ⟨hHeld,(by (with_reducible repeat (first | apply QH | apply QI | apply QJ)); exact QO HO201.out (by first | exact fun k_ hk => hk.2 | exact fun k_ hk => hk)),(by (with_reducible repeat (first | apply QH | apply QI | apply QJ)); exact QO HO204.out (by first | exact fun k_ hk => hk.2 | exact fun k_ hk => hk)),(by (with_reducible repeat (first | refine QE ?_ _ | refine QF ?_ | refine QD ?_ _)); exact BK194.out),(by (with_reducible repeat (first | refine QE ?_ _ | refine QF ?_ | refine QD ?_ _)); exact BK195.out),(by (with_reducible repeat (first | refine QE ?_ _ | refine QF ?_ | refine QD ?_ _)); exact BK214.out),GW214.out,GE214.out,NB194_214.out,NB214_194.out,NB195_214.out,NB214_195.out,(by repeat (first | (with_reducible first | exact HB.out | apply QL | apply QG | apply QK | refine QB ?_ GE194.out | refine QB ?_ GE195.out | refine QB ?_ GE214.out) | exact HB.out))⟩)
         ·skip
          refine Qa (Kd.int .i64) _ 3 ?hg (N := 36) ?hd (xs := ([] : List Int)) (inner := []) (ok := fun _ => True) (okp := fun _ => True) ?hr ?hp (fun _ hk => hk) trivial (Below.refl _ _) (Nat.le_refl _) (by simp) ?_; (case hd => rfl); (case hg => rfl); (case hr => first | (go_simp; done) | (go_simp; rfl)); (case hp => exact (Reps.none _ _))
          intro v209 w28 ho29 hb hg_ hnew_
          clear hg_ hnew_
          (first | rw [← Ny208.out] at ho29 | (simp only [Int.reduceToNat] at ho29; rw [← Ny208.out] at ho29))
          have n0_ := Qj (QV (by (with_reducible repeat (first | apply QH | apply QI | apply QJ)); exact HO201.out) (Qb ho29) hb)
          have n1_ := Qj (QY (Qc ho29 (QZ (by (with_reducible repeat (first | apply QH | apply QI | apply QJ)); exact HO201.out))) (QN (by repeat (first | (with_reducible first | exact HB.out | apply QL | apply QG | apply QK | refine QB ?_ GE194.out | refine QB ?_ GE195.out | refine QB ?_ GE214.out) | exact HB.out))))
          have n2_ := Qj (QM (g := gb194) (o := _) (by (with_reducible repeat (first | refine QE ?_ _ | refine QF ?_ | refine QD ?_ _)); exact BK194.out) hb)
          have n3_ := Qj (QM (g := gb195) (o := _) (by (with_reducible repeat (first | refine QE ?_ _ | refine QF ?_ | refine QD ?_ _)); exact BK195.out) hb)
          have n4_ := Qj (QM (g := gb214) (o := _) (by (with_reducible repeat (first | refine QE ?_ _ | refine QF ?_ | refine QD ?_ _)); exact BK214.out) hb)
          have n5_ := Qj (QT (by repeat (first | (with_reducible first | exact HB.out | apply QL | apply QG | apply QK | refine QB ?_ GE194.out | refine QB ?_ GE195.out | refine QB ?_ GE214.out) | exact HB.out)) hb)
          clear HO201
          clear BK194
          clear BK195
          clear BK214
          clear HB
          revert n0_ n1_ n2_ n3_ n4_ n5_
          intro HO201 HO210 BK194 BK195 BK214 HB
          clear hb ho29
          refine hK.out _ _ ⟨(QC BK194.out 0).trans rfl,(QC BK194.out 1).trans rfl,(QC BK194.out 2).trans rfl,(QC BK194.out 3).trans rfl,(QC BK194.out 4).trans rfl,(QC BK194.out 5).trans rfl,(QC BK194.out 6).trans rfl,((HB.out.cell (World.block_lt_of_cell? w _ hw198_0)).trans hw198_0)⟩ (fun hHeld => ?_)
          clear hK K
          refine QS (a' := ?_) ?_ ?_
          rotate_left
          ·show Act.put _ (some 36) _ = _
           simp only [Act.put,Qg,Qh,Qi,QW,QX]
           rfl
          exact QS (by first | (simp only [putAll,Act.put,Qg,Qh,Qi]; done) | (simp only [putAll,Act.put,Qg,Qh,Qi]; rfl)) (hJ6_15_20 (v200,v209,gb214) _ ⟨hHeld,(by (with_reducible repeat (first | apply QH | apply QI | apply QJ)); exact QO HO201.out (by first | exact fun k_ hk => hk.2 | exact fun k_ hk => hk)),(by (with_reducible repeat (first | apply QH | apply QI | apply QJ)); exact QO HO210.out (by first | exact fun k_ hk => hk.2 | exact fun k_ hk => hk)),(by (with_reducible repeat (first | refine QE ?_ _ | refine QF ?_ | refine QD ?_ _)); exact BK194.out),(by (with_reducible repeat (first | refine QE ?_ _ | refine QF ?_ | refine QD ?_ _)); exact BK195.out),(by (with_reducible repeat (first | refine QE ?_ _ | refine QF ?_ | refine QD ?_ _)); exact BK214.out),GW214.out,GE214.out,NB194_214.out,NB214_194.out,NB195_214.out,NB214_195.out,(by repeat (first | (with_reducible first | exact HB.out | apply QL | apply QG | apply QK | refine QB ?_ GE194.out | refine QB ?_ GE195.out | refine QB ?_ GE214.out) | exact HB.out))⟩)
        ·skip
         rintro ⟨v200,v209⟩ w28 ⟨hS_,h0_,h1_,h2_,h3_,h4_⟩
         have n0_ : Aside0 (Kd.R (Kd.int .i64) 3 w28 w.heap.size (fun k_ => some k_ ≠ (v209 : Value).ownBlock) v200 t199) := ⟨h0_⟩
         have n1_ : Aside0 (Kd.R (Kd.int .i64) 3 w28 w.heap.size (fun k_ => some k_ ≠ (v200 : Value).ownBlock) v209 y208) := ⟨h1_⟩
         have n2_ : Aside0 (w28.heap[gb194]? = some (.cells #[.slice (some ad198) l0_0.length c0_0,.int .i64 a0_1,.int .i64 a0_2,.slice A0_3 l0_3.length c0_3,.slice A0_4 l0_4.length c0_4,.slice A0_5 l0_5.length c0_5,.int .i64 a0_6] 67 (0,0))) := ⟨h2_⟩
         have n3_ : Aside0 (w28.heap[gb195]? = some (.cells #[.int .i64 0,.slice none 0 0,.slice none 0 0,.int .i64 0,.int .i64 0,.slice none 0 0,.slice none 0 0] 84 (0,0))) := ⟨h3_⟩
         have n4_ : Aside0 (Below w.heap.size w w28) := ⟨h4_⟩
         clear BK194
         clear BK195
         clear HB
         clear h0_ h1_ h2_ h3_ h4_
         revert n0_ n1_ n2_ n3_ n4_
         intro HO201 HO210 BK194 BK195 HB
         have hHeld : spec_SightOf.S_ gb194 ad198 l0_0 c0_0 a0_1 a0_2 A0_3 l0_3 c0_3 A0_4 l0_4 c0_4 A0_5 l0_5 c0_5 a0_6 a1 A198_0 c198_0 w28 := hS_
         refine QS (a' := ?_) ?_ ?_
         rotate_left
         ·simp only [putAll,Act.put,Qg,Qh,Qi]
          rfl
         refine two_ (i := 7) (j := 20) (Ni := some 28) (Nj := some 6) (ab 22 261119) (ab 22 1309567) rfl rfl rfl rfl (two_of HT_.out (by kernel_rfl)) (by decide) (by decide) (fun K hK => ?_) (fun K hK => ?_)
         ·skip
          refine Qa (Kd.int .i64) _ 3 ?hg (N := 28) ?hd (xs := ([] : List Int)) (inner := []) (ok := fun _ => True) (okp := fun _ => True) ?hr ?hp (fun _ hk => hk) trivial (Below.refl _ _) (Nat.le_refl _) (by simp) ?_; (case hd => rfl); (case hg => rfl); (case hr => first | (go_simp; done) | (go_simp; rfl)); (case hp => exact (Reps.none _ _))
          intro v203 w29 ho30 hb hg_ hnew_
          clear hg_ hnew_
          (first | rw [← Ny202.out] at ho30 | (simp only [Int.reduceToNat] at ho30; rw [← Ny202.out] at ho30))
          have n0_ := Qj (QV (by (with_reducible repeat (first | apply QH | apply QI | apply QJ)); exact HO201.out) (Qb ho30) hb)
          have n1_ := Qj (QV (by (with_reducible repeat (first | apply QH | apply QI | apply QJ)); exact HO210.out) (Qb ho30) hb)
          have n2_ := Qj (QY (Qc (Qc ho30 (QZ (by (with_reducible repeat (first | apply QH | apply QI | apply QJ)); exact HO201.out))) (QZ (by (with_reducible repeat (first | apply QH | apply QI | apply QJ)); exact HO210.out))) (QN (by repeat (first | (with_reducible first | exact HB.out | apply QL | apply QG | apply QK | refine QB ?_ GE194.out | refine QB ?_ GE195.out) | exact HB.out))))
          have n3_ := Qj (QM (g := gb194) (o := _) (by (with_reducible repeat (first | refine QE ?_ _ | refine QF ?_ | refine QD ?_ _)); exact BK194.out) hb)
          have n4_ := Qj (QM (g := gb195) (o := _) (by (with_reducible repeat (first | refine QE ?_ _ | refine QF ?_ | refine QD ?_ _)); exact BK195.out) hb)
          have n5_ := Qj (QT (by repeat (first | (with_reducible first | exact HB.out | apply QL | apply QG | apply QK | refine QB ?_ GE194.out | refine QB ?_ GE195.out) | exact HB.out)) hb)
          clear HO201
          clear HO210
          clear BK194
          clear BK195
          clear HB
          revert n0_ n1_ n2_ n3_ n4_ n5_
          intro HO201 HO210 HO204 BK194 BK195 HB
          clear hb ho30
          refine hK.out _ _ ⟨(QC BK194.out 0).trans rfl,(QC BK194.out 1).trans rfl,(QC BK194.out 2).trans rfl,(QC BK194.out 3).trans rfl,(QC BK194.out 4).trans rfl,(QC BK194.out 5).trans rfl,(QC BK194.out 6).trans rfl,((HB.out.cell (World.block_lt_of_cell? w _ hw198_0)).trans hw198_0)⟩ (fun hHeld => ?_)
          clear hK K
          refine QS (a' := ?_) ?_ ?_
          rotate_left
          ·show Act.put _ (some 28) _ = _
           simp only [Act.put,Qg,Qh,Qi,QW,QX]
           rfl
          exact QS (by first | (simp only [putAll,Act.put,Qg,Qh,Qi]; done) | (simp only [putAll,Act.put,Qg,Qh,Qi]; rfl)) (hJ6_7_15 (v200,v203,v209) _ ⟨hHeld,(by (with_reducible repeat (first | apply QH | apply QI | apply QJ)); exact QO HO201.out (fun _ hk => ⟨hk.2,hk.1⟩)),(by (with_reducible repeat (first | apply QH | apply QI | apply QJ)); exact QO HO204.out (fun _ hk => ⟨hk.1.2,hk.2⟩)),(by (with_reducible repeat (first | apply QH | apply QI | apply QJ)); exact HO210.out),(by (with_reducible repeat (first | refine QE ?_ _ | refine QF ?_ | refine QD ?_ _)); exact BK194.out),(by (with_reducible repeat (first | refine QE ?_ _ | refine QF ?_ | refine QD ?_ _)); exact BK195.out),(by repeat (first | (with_reducible first | exact HB.out | apply QL | apply QG | apply QK | refine QB ?_ GE194.out | refine QB ?_ GE195.out) | exact HB.out))⟩)
         ·skip
          refine box_step ?hg (N := 6) ?hd (cs := #[.int .i64 0,.slice none 0 0,.slice none 0 0,.int .i64 0,.int .i64 0,.slice none 0 0,.slice none 0 0]) (t := 84) ?hr ?_; (case hd => rfl); (case hg => rfl); (case hr => first | (go_simp; done) | (go_simp; rfl))
          intro gb214 hg w29 hbox hb
          have n0_ := Qj (Qe (by (with_reducible repeat (first | apply QH | apply QI | apply QJ)); exact HO201.out) hb)
          have n1_ := Qj (Qe (by (with_reducible repeat (first | apply QH | apply QI | apply QJ)); exact HO210.out) hb)
          have n2_ := Qj (QM (g := gb194) (o := _) (by (with_reducible repeat (first | refine QE ?_ _ | refine QF ?_ | refine QD ?_ _)); exact BK194.out) hb)
          have n3_ := Qj (QM (g := gb195) (o := _) (by (with_reducible repeat (first | refine QE ?_ _ | refine QF ?_ | refine QD ?_ _)); exact BK195.out) hb)
          have n4_ := Qj (QT (by repeat (first | (with_reducible first | exact HB.out | apply QL | apply QG | apply QK | refine QB ?_ GE194.out | refine QB ?_ GE195.out) | exact HB.out)) hb)
          have n5_ := Qj (hbox)
          have n6_ := Qj ((by rw [hg]; exact (QN (by repeat (first | (with_reducible first | exact HB.out | apply QL | apply QG | apply QK | refine QB ?_ GE194.out | refine QB ?_ GE195.out) | exact HB.out))) : w.heap.size ≤ gb214))
          have n7_ := Qj ((by rw [hg]; exact (QN (by repeat (first | (with_reducible first | exact HB.out | apply QL | apply QG | apply QK | refine QB ?_ GE194.out | refine QB ?_ GE195.out) | exact HB.out))) : w.heap.size ≤ gb214))
          have n8_ := Qj ((by rw [hg]; exact Nat.ne_of_lt (Qd (g := gb194) (o := _) (by (with_reducible repeat (first | refine QE ?_ _ | refine QF ?_ | refine QD ?_ _)); exact BK194.out)) : gb194 ≠ gb214))
          have n9_ := Qj ((by rw [hg]; exact Nat.ne_of_gt (Qd (g := gb194) (o := _) (by (with_reducible repeat (first | refine QE ?_ _ | refine QF ?_ | refine QD ?_ _)); exact BK194.out)) : gb214 ≠ gb194))
          have n10_ := Qj ((by rw [hg]; exact Nat.ne_of_lt (Qd (g := gb195) (o := _) (by (with_reducible repeat (first | refine QE ?_ _ | refine QF ?_ | refine QD ?_ _)); exact BK195.out)) : gb195 ≠ gb214))
          have n11_ := Qj ((by rw [hg]; exact Nat.ne_of_gt (Qd (g := gb195) (o := _) (by (with_reducible repeat (first | refine QE ?_ _ | refine QF ?_ | refine QD ?_ _)); exact BK195.out)) : gb214 ≠ gb195))
          clear HO201
          clear HO210
          clear BK194
          clear BK195
          clear HB
          revert n0_ n1_ n2_ n3_ n4_ n5_ n6_ n7_ n8_ n9_ n10_ n11_
          intro HO201 HO210 BK194 BK195 HB BK214 GW214 GE214 NB194_214 NB214_194 NB195_214 NB214_195
          clear hb hbox hg
          refine hK.out _ _ ⟨(QC BK194.out 0).trans rfl,(QC BK194.out 1).trans rfl,(QC BK194.out 2).trans rfl,(QC BK194.out 3).trans rfl,(QC BK194.out 4).trans rfl,(QC BK194.out 5).trans rfl,(QC BK194.out 6).trans rfl,((HB.out.cell (World.block_lt_of_cell? w _ hw198_0)).trans hw198_0)⟩ (fun hHeld => ?_)
          clear hK K
          refine QS (a' := ?_) ?_ ?_
          rotate_left
          ·show Act.put _ (some 6) _ = _
           simp only [Act.put,Qg,Qh,Qi,QW,QX]
           rfl
          exact QS (by first | (simp only [putAll,Act.put,Qg,Qh,Qi]; done) | (simp only [putAll,Act.put,Qg,Qh,Qi]; rfl)) (hJ6_15_20 (v200,v209,gb214) _ ⟨hHeld,(by (with_reducible repeat (first | apply QH | apply QI | apply QJ)); exact HO201.out),(by (with_reducible repeat (first | apply QH | apply QI | apply QJ)); exact HO210.out),(by (with_reducible repeat (first | refine QE ?_ _ | refine QF ?_ | refine QD ?_ _)); exact BK194.out),(by (with_reducible repeat (first | refine QE ?_ _ | refine QF ?_ | refine QD ?_ _)); exact BK195.out),(by (with_reducible repeat (first | refine QE ?_ _ | refine QF ?_ | refine QD ?_ _)); exact BK214.out),GW214.out,GE214.out,NB194_214.out,NB214_194.out,NB195_214.out,NB214_195.out,(by repeat (first | (with_reducible first | exact HB.out | apply QL | apply QG | apply QK | refine QB ?_ GE194.out | refine QB ?_ GE195.out | refine QB ?_ GE214.out) | exact HB.out))⟩)
        ·skip
         rintro ⟨v200,v203⟩ w28 ⟨hS_,h0_,h1_,h2_,h3_,h4_⟩
         have n0_ : Aside0 (Kd.R (Kd.int .i64) 3 w28 w.heap.size (fun k_ => some k_ ≠ (v203 : Value).ownBlock) v200 t199) := ⟨h0_⟩
         have n1_ : Aside0 (Kd.R (Kd.int .i64) 3 w28 w.heap.size (fun k_ => some k_ ≠ (v200 : Value).ownBlock) v203 y202) := ⟨h1_⟩
         have n2_ : Aside0 (w28.heap[gb194]? = some (.cells #[.slice (some ad198) l0_0.length c0_0,.int .i64 a0_1,.int .i64 a0_2,.slice A0_3 l0_3.length c0_3,.slice A0_4 l0_4.length c0_4,.slice A0_5 l0_5.length c0_5,.int .i64 a0_6] 67 (0,0))) := ⟨h2_⟩
         have n3_ : Aside0 (w28.heap[gb195]? = some (.cells #[.int .i64 0,.slice none 0 0,.slice none 0 0,.int .i64 0,.int .i64 0,.slice none 0 0,.slice none 0 0] 84 (0,0))) := ⟨h3_⟩
         have n4_ : Aside0 (Below w.heap.size w w28) := ⟨h4_⟩
         clear BK194
         clear BK195
         clear HB
         clear h0_ h1_ h2_ h3_ h4_
         revert n0_ n1_ n2_ n3_ n4_
         intro HO201 HO204 BK194 BK195 HB
         have hHeld : spec_SightOf.S_ gb194 ad198 l0_0 c0_0 a0_1 a0_2 A0_3 l0_3 c0_3 A0_4 l0_4 c0_4 A0_5 l0_5 c0_5 a0_6 a1 A198_0 c198_0 w28 := hS_
         refine QS (a' := ?_) ?_ ?_
         rotate_left
         ·simp only [putAll,Act.put,Qg,Qh,Qi]
          rfl
         refine three_ (i := 10) (j := 15) (k := 20) (Ni := some 31) (Nj := some 36) (Nk := some 6) (ab 22 229375) (ab 22 261119) (ab 22 1276927) rfl rfl rfl rfl rfl rfl (three_of HT_.out (by kernel_rfl)) (by decide) (by decide) (by decide) (fun K hK => ?_) (fun K hK => ?_) (fun K hK => ?_)
         ·skip
          refine Kd.R_append_rows_step (Kd.int .i64) (w0 := w) w.heap.size (by rfl) (.tmp 28) (.tmp 30) 24 3 (.int .i64 0) 8 rfl Try.underlying24 info3 rfl (by decide) (by omega) v203 y202 l0_3 _ _ _ (fun k_ => some k_ ≠ (v200 : Value).ownBlock) (fun _ => False) rfl rfl ?aO ?aR (fun _ _ h => h) (fun _ h => h.elim) ?aF ?aB ?aS ?aL ?_
          (case aR => repeat (first | exact (Kd.C_below HR0_3.out HB.out) | (with_reducible refine Kd.C_alloc ?_ _) | (with_reducible refine Kd.C_drewN ?_ _) | (with_reducible refine Kd.C_drew ?_)))
          (case aB => exact (by repeat (first | (with_reducible first | exact HB.out | apply QL | apply QG | apply QK | refine QB ?_ GE194.out | refine QB ?_ GE195.out) | exact HB.out)))
          (case aF => exact (fun k_ hk => Kd.fresh' (QZ (by (with_reducible repeat (first | apply QH | apply QI | apply QJ)); exact HO201.out)) k_ hk))
          (case aO => exact (by (with_reducible repeat (first | apply QH | apply QI | apply QJ)); exact HO204.out))
          (case aS => exact (QN (by repeat (first | (with_reducible first | exact HB.out | apply QL | apply QG | apply QK | refine QB ?_ GE194.out | refine QB ?_ GE195.out) | exact HB.out))))
          (case aL => have := LMc22.out; omega)
          intro v206 w29 ho hb hg hat
          rw [← Ny205.out] at ho
          have n0_ := Qj (blk_grown (g := gb194) (o := _) (by (with_reducible repeat (first | refine QE ?_ _ | refine QF ?_ | refine QD ?_ _)); exact BK194.out) hg (Kd.R_ne HO204.out BK194.out (by decide)))
          have n1_ := Qj (blk_grown (g := gb195) (o := _) (by (with_reducible repeat (first | refine QE ?_ _ | refine QF ?_ | refine QD ?_ _)); exact BK195.out) hg (Kd.R_ne HO204.out BK195.out (by decide)))
          have n2_ := Qj (Kd.R_after (ok := (fun _ => True)) (by (with_reducible repeat (first | apply QH | apply QI | apply QJ)); exact QO HO201.out (fun _ hk => ⟨trivial,hk⟩)) hg hat)
          have n3_ := Qj (hb)
          have n4_ := Qj (ho)
          clear BK194
          clear BK195
          clear HO201
          clear HB
          clear HO204
          revert n0_ n1_ n2_ n3_ n4_
          intro BK194 BK195 HO201 HB HO207
          clear ho hb hg hat
          refine hK.out _ _ ⟨(QC BK194.out 0).trans rfl,(QC BK194.out 1).trans rfl,(QC BK194.out 2).trans rfl,(QC BK194.out 3).trans rfl,(QC BK194.out 4).trans rfl,(QC BK194.out 5).trans rfl,(QC BK194.out 6).trans rfl,((HB.out.cell (World.block_lt_of_cell? w _ hw198_0)).trans hw198_0)⟩ (fun hHeld => ?_)
          clear hK K
          refine QS (a' := ?_) ?_ ?_
          rotate_left
          ·show Act.put _ (some 31) _ = _
           simp only [Act.put,Qg,Qh,Qi,QW,QX]
           rfl
          exact QS (by first | (simp only [putAll,Act.put,Qg,Qh,Qi]; done) | (simp only [putAll,Act.put,Qg,Qh,Qi]; rfl)) (hJ6_7_10 (v200,v203,v206) _ ⟨hHeld,(by (with_reducible repeat (first | apply QH | apply QI | apply QJ)); exact QO HO201.out (by first | exact fun k_ hk => hk.2 | exact fun k_ hk => hk)),(by (with_reducible repeat (first | apply QH | apply QI | apply QJ)); exact HO207.out),(by (with_reducible repeat (first | refine QE ?_ _ | refine QF ?_ | refine QD ?_ _)); exact BK194.out),(by (with_reducible repeat (first | refine QE ?_ _ | refine QF ?_ | refine QD ?_ _)); exact BK195.out),(by repeat (first | (with_reducible first | exact HB.out | apply QL | apply QG | apply QK | refine QB ?_ GE194.out | refine QB ?_ GE195.out) | exact HB.out))⟩)
         ·skip
          refine Qa (Kd.int .i64) _ 3 ?hg (N := 36) ?hd (xs := ([] : List Int)) (inner := []) (ok := fun _ => True) (okp := fun _ => True) ?hr ?hp (fun _ hk => hk) trivial (Below.refl _ _) (Nat.le_refl _) (by simp) ?_; (case hd => rfl); (case hg => rfl); (case hr => first | (go_simp; done) | (go_simp; rfl)); (case hp => exact (Reps.none _ _))
          intro v209 w29 ho30 hb hg_ hnew_
          clear hg_ hnew_
          (first | rw [← Ny208.out] at ho30 | (simp only [Int.reduceToNat] at ho30; rw [← Ny208.out] at ho30))
          have n0_ := Qj (QV (by (with_reducible repeat (first | apply QH | apply QI | apply QJ)); exact HO201.out) (Qb ho30) hb)
          have n1_ := Qj (QV (by (with_reducible repeat (first | apply QH | apply QI | apply QJ)); exact HO204.out) (Qb ho30) hb)
          have n2_ := Qj (QY (Qc (Qc ho30 (QZ (by (with_reducible repeat (first | apply QH | apply QI | apply QJ)); exact HO201.out))) (QZ (by (with_reducible repeat (first | apply QH | apply QI | apply QJ)); exact HO204.out))) (QN (by repeat (first | (with_reducible first | exact HB.out | apply QL | apply QG | apply QK | refine QB ?_ GE194.out | refine QB ?_ GE195.out) | exact HB.out))))
          have n3_ := Qj (QM (g := gb194) (o := _) (by (with_reducible repeat (first | refine QE ?_ _ | refine QF ?_ | refine QD ?_ _)); exact BK194.out) hb)
          have n4_ := Qj (QM (g := gb195) (o := _) (by (with_reducible repeat (first | refine QE ?_ _ | refine QF ?_ | refine QD ?_ _)); exact BK195.out) hb)
          have n5_ := Qj (QT (by repeat (first | (with_reducible first | exact HB.out | apply QL | apply QG | apply QK | refine QB ?_ GE194.out | refine QB ?_ GE195.out) | exact HB.out)) hb)
          clear HO201
          clear HO204
          clear BK194
          clear BK195
          clear HB
          revert n0_ n1_ n2_ n3_ n4_ n5_
          intro HO201 HO204 HO210 BK194 BK195 HB
          clear hb ho30
          refine hK.out _ _ ⟨(QC BK194.out 0).trans rfl,(QC BK194.out 1).trans rfl,(QC BK194.out 2).trans rfl,(QC BK194.out 3).trans rfl,(QC BK194.out 4).trans rfl,(QC BK194.out 5).trans rfl,(QC BK194.out 6).trans rfl,((HB.out.cell (World.block_lt_of_cell? w _ hw198_0)).trans hw198_0)⟩ (fun hHeld => ?_)
          clear hK K
          refine QS (a' := ?_) ?_ ?_
          rotate_left
          ·show Act.put _ (some 36) _ = _
           simp only [Act.put,Qg,Qh,Qi,QW,QX]
           rfl
          exact QS (by first | (simp only [putAll,Act.put,Qg,Qh,Qi]; done) | (simp only [putAll,Act.put,Qg,Qh,Qi]; rfl)) (hJ6_7_15 (v200,v203,v209) _ ⟨hHeld,(by (with_reducible repeat (first | apply QH | apply QI | apply QJ)); exact HO201.out),(by (with_reducible repeat (first | apply QH | apply QI | apply QJ)); exact HO204.out),(by (with_reducible repeat (first | apply QH | apply QI | apply QJ)); exact QO HO210.out (fun _ hk => ⟨hk.1.2,hk.2⟩)),(by (with_reducible repeat (first | refine QE ?_ _ | refine QF ?_ | refine QD ?_ _)); exact BK194.out),(by (with_reducible repeat (first | refine QE ?_ _ | refine QF ?_ | refine QD ?_ _)); exact BK195.out),(by repeat (first | (with_reducible first | exact HB.out | apply QL | apply QG | apply QK | refine QB ?_ GE194.out | refine QB ?_ GE195.out) | exact HB.out))⟩)
         ·skip
          refine box_step ?hg (N := 6) ?hd (cs := #[.int .i64 0,.slice none 0 0,.slice none 0 0,.int .i64 0,.int .i64 0,.slice none 0 0,.slice none 0 0]) (t := 84) ?hr ?_; (case hd => rfl); (case hg => rfl); (case hr => first | (go_simp; done) | (go_simp; rfl))
          intro gb214 hg w29 hbox hb
          have n0_ := Qj (Qe (by (with_reducible repeat (first | apply QH | apply QI | apply QJ)); exact HO201.out) hb)
          have n1_ := Qj (Qe (by (with_reducible repeat (first | apply QH | apply QI | apply QJ)); exact HO204.out) hb)
          have n2_ := Qj (QM (g := gb194) (o := _) (by (with_reducible repeat (first | refine QE ?_ _ | refine QF ?_ | refine QD ?_ _)); exact BK194.out) hb)
          have n3_ := Qj (QM (g := gb195) (o := _) (by (with_reducible repeat (first | refine QE ?_ _ | refine QF ?_ | refine QD ?_ _)); exact BK195.out) hb)
          have n4_ := Qj (QT (by repeat (first | (with_reducible first | exact HB.out | apply QL | apply QG | apply QK | refine QB ?_ GE194.out | refine QB ?_ GE195.out) | exact HB.out)) hb)
          have n5_ := Qj (hbox)
          have n6_ := Qj ((by rw [hg]; exact (QN (by repeat (first | (with_reducible first | exact HB.out | apply QL | apply QG | apply QK | refine QB ?_ GE194.out | refine QB ?_ GE195.out) | exact HB.out))) : w.heap.size ≤ gb214))
          have n7_ := Qj ((by rw [hg]; exact (QN (by repeat (first | (with_reducible first | exact HB.out | apply QL | apply QG | apply QK | refine QB ?_ GE194.out | refine QB ?_ GE195.out) | exact HB.out))) : w.heap.size ≤ gb214))
          have n8_ := Qj ((by rw [hg]; exact Nat.ne_of_lt (Qd (g := gb194) (o := _) (by (with_reducible repeat (first | refine QE ?_ _ | refine QF ?_ | refine QD ?_ _)); exact BK194.out)) : gb194 ≠ gb214))
          have n9_ := Qj ((by rw [hg]; exact Nat.ne_of_gt (Qd (g := gb194) (o := _) (by (with_reducible repeat (first | refine QE ?_ _ | refine QF ?_ | refine QD ?_ _)); exact BK194.out)) : gb214 ≠ gb194))
          have n10_ := Qj ((by rw [hg]; exact Nat.ne_of_lt (Qd (g := gb195) (o := _) (by (with_reducible repeat (first | refine QE ?_ _ | refine QF ?_ | refine QD ?_ _)); exact BK195.out)) : gb195 ≠ gb214))
          have n11_ := Qj ((by rw [hg]; exact Nat.ne_of_gt (Qd (g := gb195) (o := _) (by (with_reducible repeat (first | refine QE ?_ _ | refine QF ?_ | refine QD ?_ _)); exact BK195.out)) : gb214 ≠ gb195))
          clear HO201
          clear HO204
          clear BK194
          clear BK195
          clear HB
          revert n0_ n1_ n2_ n3_ n4_ n5_ n6_ n7_ n8_ n9_ n10_ n11_
          intro HO201 HO204 BK194 BK195 HB BK214 GW214 GE214 NB194_214 NB214_194 NB195_214 NB214_195
          clear hb hbox hg
          refine hK.out _ _ ⟨(QC BK194.out 0).trans rfl,(QC BK194.out 1).trans rfl,(QC BK194.out 2).trans rfl,(QC BK194.out 3).trans rfl,(QC BK194.out 4).trans rfl,(QC BK194.out 5).trans rfl,(QC BK194.out 6).trans rfl,((HB.out.cell (World.block_lt_of_cell? w _ hw198_0)).trans hw198_0)⟩ (fun hHeld => ?_)
          clear hK K
          refine QS (a' := ?_) ?_ ?_
          rotate_left
          ·show Act.put _ (some 6) _ = _
           simp only [Act.put,Qg,Qh,Qi,QW,QX]
           rfl
          exact QS (by first | (simp only [putAll,Act.put,Qg,Qh,Qi]; done) | (simp only [putAll,Act.put,Qg,Qh,Qi]; rfl)) (hJ6_7_20 (v200,v203,gb214) _ ⟨hHeld,(by (with_reducible repeat (first | apply QH | apply QI | apply QJ)); exact HO201.out),(by (with_reducible repeat (first | apply QH | apply QI | apply QJ)); exact HO204.out),(by (with_reducible repeat (first | refine QE ?_ _ | refine QF ?_ | refine QD ?_ _)); exact BK194.out),(by (with_reducible repeat (first | refine QE ?_ _ | refine QF ?_ | refine QD ?_ _)); exact BK195.out),(by (with_reducible repeat (first | refine QE ?_ _ | refine QF ?_ | refine QD ?_ _)); exact BK214.out),GW214.out,GE214.out,NB194_214.out,NB214_194.out,NB195_214.out,NB214_195.out,(by repeat (first | (with_reducible first | exact HB.out | apply QL | apply QG | apply QK | refine QB ?_ GE194.out | refine QB ?_ GE195.out | refine QB ?_ GE214.out) | exact HB.out))⟩)
        ·skip
         rintro ⟨v203,v209,gb214⟩ w30 ⟨hS_,h0_,h1_,h2_,h3_,h4_,h5_,h6_,h7_,h8_,h9_,h10_,h11_⟩
         have n0_ : Aside0 (Kd.R (Kd.int .i64) 3 w30 w.heap.size (fun k_ => some k_ ≠ (v209 : Value).ownBlock) v203 y202) := ⟨h0_⟩
         have n1_ : Aside0 (Kd.R (Kd.int .i64) 3 w30 w.heap.size (fun k_ => some k_ ≠ (v203 : Value).ownBlock) v209 y208) := ⟨h1_⟩
         have n2_ : Aside0 (w30.heap[gb194]? = some (.cells #[.slice (some ad198) l0_0.length c0_0,.int .i64 a0_1,.int .i64 a0_2,.slice A0_3 l0_3.length c0_3,.slice A0_4 l0_4.length c0_4,.slice A0_5 l0_5.length c0_5,.int .i64 a0_6] 67 (0,0))) := ⟨h2_⟩
         have n3_ : Aside0 (w30.heap[gb195]? = some (.cells #[.int .i64 0,.slice none 0 0,.slice none 0 0,.int .i64 0,.int .i64 0,.slice none 0 0,.slice none 0 0] 84 (0,0))) := ⟨h3_⟩
         have n4_ : Aside0 (w30.heap[gb214]? = some (.cells #[.int .i64 0,.slice none 0 0,.slice none 0 0,.int .i64 0,.int .i64 0,.slice none 0 0,.slice none 0 0] 84 (0,0))) := ⟨h4_⟩
         have n5_ : Aside0 (w.heap.size ≤ gb214) := ⟨h5_⟩
         have n6_ : Aside0 (w.heap.size ≤ gb214) := ⟨h6_⟩
         have n7_ : Aside0 (gb194 ≠ gb214) := ⟨h7_⟩
         have n8_ : Aside0 (gb214 ≠ gb194) := ⟨h8_⟩
         have n9_ : Aside0 (gb195 ≠ gb214) := ⟨h9_⟩
         have n10_ : Aside0 (gb214 ≠ gb195) := ⟨h10_⟩
         have n11_ : Aside0 (Below w.heap.size w w30) := ⟨h11_⟩
         clear BK194
         clear BK195
         clear HB
         clear h0_ h1_ h2_ h3_ h4_ h5_ h6_ h7_ h8_ h9_ h10_ h11_
         revert n0_ n1_ n2_ n3_ n4_ n5_ n6_ n7_ n8_ n9_ n10_ n11_
         intro HO204 HO210 BK194 BK195 BK214 GW214 GE214 NB194_214 NB214_194 NB195_214 NB214_195 HB
         have hHeld : spec_SightOf.S_ gb194 ad198 l0_0 c0_0 a0_1 a0_2 A0_3 l0_3 c0_3 A0_4 l0_4 c0_4 A0_5 l0_5 c0_5 a0_6 a1 A198_0 c198_0 w30 := hS_
         refine QS (a' := ?_) ?_ ?_
         rotate_left
         ·simp only [putAll,Act.put,Qg,Qh,Qi]
          rfl
         refine one_ (i := 6) (N := some 27) (ab 22 1309695) rfl rfl (one_of HT_.out (by kernel_rfl)) (by decide) (fun K hK => ?_)
         refine goes_ Try.func130 (by kernel_rfl) rfl #[.slice A198_0 (rd_L1 l0_0 a1).length c198_0] (by rfl) rfl rfl (by (try simp only [List.map_toArray,List.map_cons,List.map_nil]); first | done | rfl | (simp only [List.length_drop,List.length_take]; rfl)) ?_
         with_reducible refine (spec_Sorted.calls _ _ (rd_L1 l0_0 a1) t199 _ ?side1 ?side2 A21.out).mono ?_
         (case side1 => repeat (first | exact (Kd.C_below HR198_0.out HB.out) | (with_reducible refine Kd.C_alloc ?_ _) | (with_reducible refine Kd.C_drewN ?_ _) | (with_reducible refine Kd.C_drew ?_)))
         (case side2 => exact HC198_0.out)
         rintro e w31 ⟨v200,rfl,ho0,hb⟩
         refine ⟨_,rfl,?_⟩
         have n0_ := Qj (QV (by (with_reducible repeat (first | apply QH | apply QI | apply QJ)); exact HO204.out) (Qb ho0) hb)
         have n1_ := Qj (QV (by (with_reducible repeat (first | apply QH | apply QI | apply QJ)); exact HO210.out) (Qb ho0) hb)
         have n2_ := Qj (QY (Qc (Qc ho0 (QZ (by (with_reducible repeat (first | apply QH | apply QI | apply QJ)); exact HO204.out))) (QZ (by (with_reducible repeat (first | apply QH | apply QI | apply QJ)); exact HO210.out))) (QN (by repeat (first | (with_reducible first | exact HB.out | apply QL | apply QG | apply QK | refine QB ?_ GE194.out | refine QB ?_ GE195.out | refine QB ?_ GE214.out) | exact HB.out))))
         have n3_ := Qj (QM (g := gb194) (o := _) (by (with_reducible repeat (first | refine QE ?_ _ | refine QF ?_ | refine QD ?_ _)); exact BK194.out) hb)
         have n4_ := Qj (QM (g := gb195) (o := _) (by (with_reducible repeat (first | refine QE ?_ _ | refine QF ?_ | refine QD ?_ _)); exact BK195.out) hb)
         have n5_ := Qj (QM (g := gb214) (o := _) (by (with_reducible repeat (first | refine QE ?_ _ | refine QF ?_ | refine QD ?_ _)); exact BK214.out) hb)
         have n6_ := Qj (QT (by repeat (first | (with_reducible first | exact HB.out | apply QL | apply QG | apply QK | refine QB ?_ GE194.out | refine QB ?_ GE195.out | refine QB ?_ GE214.out) | exact HB.out)) hb)
         clear HO204
         clear HO210
         clear BK194
         clear BK195
         clear BK214
         clear HB
         revert n0_ n1_ n2_ n3_ n4_ n5_ n6_
         intro HO204 HO210 HO201 BK194 BK195 BK214 HB
         (try clear hb)
         (try clear hb2)
         (try clear hk)
         (try clear hi)
         (try clear ho0)
         refine hK.out _ _ ⟨(QC BK194.out 0).trans rfl,(QC BK194.out 1).trans rfl,(QC BK194.out 2).trans rfl,(QC BK194.out 3).trans rfl,(QC BK194.out 4).trans rfl,(QC BK194.out 5).trans rfl,(QC BK194.out 6).trans rfl,((HB.out.cell (World.block_lt_of_cell? w _ hw198_0)).trans hw198_0)⟩ (fun hHeld => ?_)
         clear hK K
         refine QS (a' := ?_) ?_ ?_
         rotate_left
         ·show Act.put _ (some 27) _ = _
          simp only [Act.put,Qg,Qh,Qi,QW,QX]
          rfl
         exact QS (by first | (simp only [putAll,Act.put,Qg,Qh,Qi]; done) | (simp only [putAll,Act.put,Qg,Qh,Qi]; rfl)) (hJ6_7_15_20 (v200,v203,v209,gb214) _ ⟨hHeld,(by (with_reducible repeat (first | apply QH | apply QI | apply QJ)); exact QO HO201.out (fun _ hk => ⟨hk.1.2,hk.2⟩)),(by (with_reducible repeat (first | apply QH | apply QI | apply QJ)); exact QO HO204.out (fun _ hk => ⟨hk.2,hk.1⟩)),(by (with_reducible repeat (first | apply QH | apply QI | apply QJ)); exact QO HO210.out (fun _ hk => ⟨hk.2,hk.1⟩)),(by (with_reducible repeat (first | refine QE ?_ _ | refine QF ?_ | refine QD ?_ _)); exact BK194.out),(by (with_reducible repeat (first | refine QE ?_ _ | refine QF ?_ | refine QD ?_ _)); exact BK195.out),(by (with_reducible repeat (first | refine QE ?_ _ | refine QF ?_ | refine QD ?_ _)); exact BK214.out),GW214.out,GE214.out,NB194_214.out,NB214_194.out,NB195_214.out,NB214_195.out,(by repeat (first | (with_reducible first | exact HB.out | apply QL | apply QG | apply QK | refine QB ?_ GE194.out | refine QB ?_ GE195.out | refine QB ?_ GE214.out) | exact HB.out))⟩)
        ·skip
         rintro ⟨v200,v209,gb214⟩ w29 ⟨hS_,h0_,h1_,h2_,h3_,h4_,h5_,h6_,h7_,h8_,h9_,h10_,h11_⟩
         have n0_ : Aside0 (Kd.R (Kd.int .i64) 3 w29 w.heap.size (fun k_ => some k_ ≠ (v209 : Value).ownBlock) v200 t199) := ⟨h0_⟩
         have n1_ : Aside0 (Kd.R (Kd.int .i64) 3 w29 w.heap.size (fun k_ => some k_ ≠ (v200 : Value).ownBlock) v209 y208) := ⟨h1_⟩
         have n2_ : Aside0 (w29.heap[gb194]? = some (.cells #[.slice (some ad198) l0_0.length c0_0,.int .i64 a0_1,.int .i64 a0_2,.slice A0_3 l0_3.length c0_3,.slice A0_4 l0_4.length c0_4,.slice A0_5 l0_5.length c0_5,.int .i64 a0_6] 67 (0,0))) := ⟨h2_⟩
         have n3_ : Aside0 (w29.heap[gb195]? = some (.cells #[.int .i64 0,.slice none 0 0,.slice none 0 0,.int .i64 0,.int .i64 0,.slice none 0 0,.slice none 0 0] 84 (0,0))) := ⟨h3_⟩
         have n4_ : Aside0 (w29.heap[gb214]? = some (.cells #[.int .i64 0,.slice none 0 0,.slice none 0 0,.int .i64 0,.int .i64 0,.slice none 0 0,.slice none 0 0] 84 (0,0))) := ⟨h4_⟩
         have n5_ : Aside0 (w.heap.size ≤ gb214) := ⟨h5_⟩
         have n6_ : Aside0 (w.heap.size ≤ gb214) := ⟨h6_⟩
         have n7_ : Aside0 (gb194 ≠ gb214) := ⟨h7_⟩
         have n8_ : Aside0 (gb214 ≠ gb194) := ⟨h8_⟩
         have n9_ : Aside0 (gb195 ≠ gb214) := ⟨h9_⟩
         have n10_ : Aside0 (gb214 ≠ gb195) := ⟨h10_⟩
         have n11_ : Aside0 (Below w.heap.size w w29) := ⟨h11_⟩
         clear BK194
         clear BK195
         clear HB
         clear h0_ h1_ h2_ h3_ h4_ h5_ h6_ h7_ h8_ h9_ h10_ h11_
         revert n0_ n1_ n2_ n3_ n4_ n5_ n6_ n7_ n8_ n9_ n10_ n11_
         intro HO201 HO210 BK194 BK195 BK214 GW214 GE214 NB194_214 NB214_194 NB195_214 NB214_195 HB
         have hHeld : spec_SightOf.S_ gb194 ad198 l0_0 c0_0 a0_1 a0_2 A0_3 l0_3 c0_3 A0_4 l0_4 c0_4 A0_5 l0_5 c0_5 a0_6 a1 A198_0 c198_0 w29 := hS_
         refine QS (a' := ?_) ?_ ?_
         rotate_left
         ·simp only [putAll,Act.put,Qg,Qh,Qi]
          rfl
         refine one_ (i := 7) (N := some 28) (ab 22 1309695) rfl rfl (one_of HT_.out (by kernel_rfl)) (by decide) (fun K hK => ?_)
         refine Qa (Kd.int .i64) _ 3 ?hg (N := 28) ?hd (xs := ([] : List Int)) (inner := []) (ok := fun _ => True) (okp := fun _ => True) ?hr ?hp (fun _ hk => hk) trivial (Below.refl _ _) (Nat.le_refl _) (by simp) ?_; (case hd => rfl); (case hg => rfl); (case hr => first | (go_simp; done) | (go_simp; rfl)); (case hp => exact (Reps.none _ _))
         intro v203 w30 ho31 hb hg_ hnew_
         clear hg_ hnew_
         (first | rw [← Ny202.out] at ho31 | (simp only [Int.reduceToNat] at ho31; rw [← Ny202.out] at ho31))
         have n0_ := Qj (QV (by (with_reducible repeat (first | apply QH | apply QI | apply QJ)); exact HO201.out) (Qb ho31) hb)
         have n1_ := Qj (QV (by (with_reducible repeat (first | apply QH | apply QI | apply QJ)); exact HO210.out) (Qb ho31) hb)
         have n2_ := Qj (QY (Qc (Qc ho31 (QZ (by (with_reducible repeat (first | apply QH | apply QI | apply QJ)); exact HO201.out))) (QZ (by (with_reducible repeat (first | apply QH | apply QI | apply QJ)); exact HO210.out))) (QN (by repeat (first | (with_reducible first | exact HB.out | apply QL | apply QG | apply QK | refine QB ?_ GE194.out | refine QB ?_ GE195.out | refine QB ?_ GE214.out) | exact HB.out))))
         have n3_ := Qj (QM (g := gb194) (o := _) (by (with_reducible repeat (first | refine QE ?_ _ | refine QF ?_ | refine QD ?_ _)); exact BK194.out) hb)
         have n4_ := Qj (QM (g := gb195) (o := _) (by (with_reducible repeat (first | refine QE ?_ _ | refine QF ?_ | refine QD ?_ _)); exact BK195.out) hb)
         have n5_ := Qj (QM (g := gb214) (o := _) (by (with_reducible repeat (first | refine QE ?_ _ | refine QF ?_ | refine QD ?_ _)); exact BK214.out) hb)
         have n6_ := Qj (QT (by repeat (first | (with_reducible first | exact HB.out | apply QL | apply QG | apply QK | refine QB ?_ GE194.out | refine QB ?_ GE195.out | refine QB ?_ GE214.out) | exact HB.out)) hb)
         clear HO201
         clear HO210
         clear BK194
         clear BK195
         clear BK214
         clear HB
         revert n0_ n1_ n2_ n3_ n4_ n5_ n6_
         intro HO201 HO210 HO204 BK194 BK195 BK214 HB
         clear hb ho31
         refine hK.out _ _ ⟨(QC BK194.out 0).trans rfl,(QC BK194.out 1).trans rfl,(QC BK194.out 2).trans rfl,(QC BK194.out 3).trans rfl,(QC BK194.out 4).trans rfl,(QC BK194.out 5).trans rfl,(QC BK194.out 6).trans rfl,((HB.out.cell (World.block_lt_of_cell? w _ hw198_0)).trans hw198_0)⟩ (fun hHeld => ?_)
         clear hK K
         refine QS (a' := ?_) ?_ ?_
         rotate_left
         ·show Act.put _ (some 28) _ = _
          simp only [Act.put,Qg,Qh,Qi,QW,QX]
          rfl
         exact QS (by first | (simp only [putAll,Act.put,Qg,Qh,Qi]; done) | (simp only [putAll,Act.put,Qg,Qh,Qi]; rfl)) (hJ6_7_15_20 (v200,v203,v209,gb214) _ ⟨hHeld,(by (with_reducible repeat (first | apply QH | apply QI | apply QJ)); exact QO HO201.out (fun _ hk => ⟨hk.2,hk.1⟩)),(by (with_reducible repeat (first | apply QH | apply QI | apply QJ)); exact QO HO204.out (fun _ hk => ⟨hk.1.2,hk.2⟩)),(by (with_reducible repeat (first | apply QH | apply QI | apply QJ)); exact HO210.out),(by (with_reducible repeat (first | refine QE ?_ _ | refine QF ?_ | refine QD ?_ _)); exact BK194.out),(by (with_reducible repeat (first | refine QE ?_ _ | refine QF ?_ | refine QD ?_ _)); exact BK195.out),(by (with_reducible repeat (first | refine QE ?_ _ | refine QF ?_ | refine QD ?_ _)); exact BK214.out),GW214.out,GE214.out,NB194_214.out,NB214_194.out,NB195_214.out,NB214_195.out,(by repeat (first | (with_reducible first | exact HB.out | apply QL | apply QG | apply QK | refine QB ?_ GE194.out | refine QB ?_ GE195.out | refine QB ?_ GE214.out) | exact HB.out))⟩)
        ·skip
         rintro ⟨v200,v203,gb214⟩ w29 ⟨hS_,h0_,h1_,h2_,h3_,h4_,h5_,h6_,h7_,h8_,h9_,h10_,h11_⟩
         have n0_ : Aside0 (Kd.R (Kd.int .i64) 3 w29 w.heap.size (fun k_ => some k_ ≠ (v203 : Value).ownBlock) v200 t199) := ⟨h0_⟩
         have n1_ : Aside0 (Kd.R (Kd.int .i64) 3 w29 w.heap.size (fun k_ => some k_ ≠ (v200 : Value).ownBlock) v203 y202) := ⟨h1_⟩
         have n2_ : Aside0 (w29.heap[gb194]? = some (.cells #[.slice (some ad198) l0_0.length c0_0,.int .i64 a0_1,.int .i64 a0_2,.slice A0_3 l0_3.length c0_3,.slice A0_4 l0_4.length c0_4,.slice A0_5 l0_5.length c0_5,.int .i64 a0_6] 67 (0,0))) := ⟨h2_⟩
         have n3_ : Aside0 (w29.heap[gb195]? = some (.cells #[.int .i64 0,.slice none 0 0,.slice none 0 0,.int .i64 0,.int .i64 0,.slice none 0 0,.slice none 0 0] 84 (0,0))) := ⟨h3_⟩
         have n4_ : Aside0 (w29.heap[gb214]? = some (.cells #[.int .i64 0,.slice none 0 0,.slice none 0 0,.int .i64 0,.int .i64 0,.slice none 0 0,.slice none 0 0] 84 (0,0))) := ⟨h4_⟩
         have n5_ : Aside0 (w.heap.size ≤ gb214) := ⟨h5_⟩
         have n6_ : Aside0 (w.heap.size ≤ gb214) := ⟨h6_⟩
         have n7_ : Aside0 (gb194 ≠ gb214) := ⟨h7_⟩
         have n8_ : Aside0 (gb214 ≠ gb194) := ⟨h8_⟩
         have n9_ : Aside0 (gb195 ≠ gb214) := ⟨h9_⟩
         have n10_ : Aside0 (gb214 ≠ gb195) := ⟨h10_⟩
         have n11_ : Aside0 (Below w.heap.size w w29) := ⟨h11_⟩
         clear BK194
         clear BK195
         clear HB
         clear h0_ h1_ h2_ h3_ h4_ h5_ h6_ h7_ h8_ h9_ h10_ h11_
         revert n0_ n1_ n2_ n3_ n4_ n5_ n6_ n7_ n8_ n9_ n10_ n11_
         intro HO201 HO204 BK194 BK195 BK214 GW214 GE214 NB194_214 NB214_194 NB195_214 NB214_195 HB
         have hHeld : spec_SightOf.S_ gb194 ad198 l0_0 c0_0 a0_1 a0_2 A0_3 l0_3 c0_3 A0_4 l0_4 c0_4 A0_5 l0_5 c0_5 a0_6 a1 A198_0 c198_0 w29 := hS_
         refine QS (a' := ?_) ?_ ?_
         rotate_left
         ·simp only [putAll,Act.put,Qg,Qh,Qi]
          rfl
         refine two_ (i := 10) (j := 15) (Ni := some 31) (Nj := some 36) (ab 22 1277951) (ab 22 1309695) rfl rfl rfl rfl (two_of HT_.out (by kernel_rfl)) (by decide) (by decide) (fun K hK => ?_) (fun K hK => ?_)
         ·skip
          refine Kd.R_append_rows_step (Kd.int .i64) (w0 := w) w.heap.size (by rfl) (.tmp 28) (.tmp 30) 24 3 (.int .i64 0) 8 rfl Try.underlying24 info3 rfl (by decide) (by omega) v203 y202 l0_3 _ _ _ (fun k_ => some k_ ≠ (v200 : Value).ownBlock) (fun _ => False) rfl rfl ?aO ?aR (fun _ _ h => h) (fun _ h => h.elim) ?aF ?aB ?aS ?aL ?_
          (case aR => repeat (first | exact (Kd.C_below HR0_3.out HB.out) | (with_reducible refine Kd.C_alloc ?_ _) | (with_reducible refine Kd.C_drewN ?_ _) | (with_reducible refine Kd.C_drew ?_)))
          (case aB => exact (by repeat (first | (with_reducible first | exact HB.out | apply QL | apply QG | apply QK | refine QB ?_ GE194.out | refine QB ?_ GE195.out | refine QB ?_ GE214.out) | exact HB.out)))
          (case aF => exact (fun k_ hk => Kd.fresh' (QZ (by (with_reducible repeat (first | apply QH | apply QI | apply QJ)); exact HO201.out)) k_ hk))
          (case aO => exact (by (with_reducible repeat (first | apply QH | apply QI | apply QJ)); exact HO204.out))
          (case aS => exact (QN (by repeat (first | (with_reducible first | exact HB.out | apply QL | apply QG | apply QK | refine QB ?_ GE194.out | refine QB ?_ GE195.out | refine QB ?_ GE214.out) | exact HB.out))))
          (case aL => have := LMc22.out; omega)
          intro v206 w30 ho hb hg hat
          rw [← Ny205.out] at ho
          have n0_ := Qj (blk_grown (g := gb194) (o := _) (by (with_reducible repeat (first | refine QE ?_ _ | refine QF ?_ | refine QD ?_ _)); exact BK194.out) hg (Kd.R_ne HO204.out BK194.out (by decide)))
          have n1_ := Qj (blk_grown (g := gb195) (o := _) (by (with_reducible repeat (first | refine QE ?_ _ | refine QF ?_ | refine QD ?_ _)); exact BK195.out) hg (Kd.R_ne HO204.out BK195.out (by decide)))
          have n2_ := Qj (Kd.R_after (ok := (fun _ => True)) (by (with_reducible repeat (first | apply QH | apply QI | apply QJ)); exact QO HO201.out (fun _ hk => ⟨trivial,hk⟩)) hg hat)
          have n3_ := Qj (blk_grown (g := gb214) (o := _) (by (with_reducible repeat (first | refine QE ?_ _ | refine QF ?_ | refine QD ?_ _)); exact BK214.out) hg (Kd.R_ne HO204.out BK214.out (by decide)))
          have n4_ := Qj (hb)
          have n5_ := Qj (ho)
          clear BK194
          clear BK195
          clear HO201
          clear BK214
          clear HB
          clear HO204
          revert n0_ n1_ n2_ n3_ n4_ n5_
          intro BK194 BK195 HO201 BK214 HB HO207
          clear ho hb hg hat
          refine hK.out _ _ ⟨(QC BK194.out 0).trans rfl,(QC BK194.out 1).trans rfl,(QC BK194.out 2).trans rfl,(QC BK194.out 3).trans rfl,(QC BK194.out 4).trans rfl,(QC BK194.out 5).trans rfl,(QC BK194.out 6).trans rfl,((HB.out.cell (World.block_lt_of_cell? w _ hw198_0)).trans hw198_0)⟩ (fun hHeld => ?_)
          clear hK K
          refine QS (a' := ?_) ?_ ?_
          rotate_left
          ·show Act.put _ (some 31) _ = _
           simp only [Act.put,Qg,Qh,Qi,QW,QX]
           rfl
          exact QS (by first | (simp only [putAll,Act.put,Qg,Qh,Qi]; done) | (simp only [putAll,Act.put,Qg,Qh,Qi]; rfl)) (hJ6_7_10_20 (v200,v203,v206,gb214) _ ⟨hHeld,(by (with_reducible repeat (first | apply QH | apply QI | apply QJ)); exact QO HO201.out (by first | exact fun k_ hk => hk.2 | exact fun k_ hk => hk)),(by (with_reducible repeat (first | apply QH | apply QI | apply QJ)); exact HO207.out),(by (with_reducible repeat (first | refine QE ?_ _ | refine QF ?_ | refine QD ?_ _)); exact BK194.out),(by (with_reducible repeat (first | refine QE ?_ _ | refine QF ?_ | refine QD ?_ _)); exact BK195.out),(by (with_reducible repeat (first | refine QE ?_ _ | refine QF ?_ | refine QD ?_ _)); exact BK214.out),GW214.out,GE214.out,NB194_214.out,NB214_194.out,NB195_214.out,NB214_195.out,(by repeat (first | (with_reducible first | exact HB.out | apply QL | apply QG | apply QK | refine QB ?_ GE194.out | refine QB ?_ GE195.out | refine QB ?_ GE214.out) | exact HB.out))⟩)
         ·skip
          refine Qa (Kd.int .i64) _ 3 ?hg (N := 36) ?hd (xs := ([] : List Int)) (inner := []) (ok := fun _ => True) (okp := fun _ => True) ?hr ?hp (fun _ hk => hk) trivial (Below.refl _ _) (Nat.le_refl _) (by simp) ?_; (case hd => rfl); (case hg => rfl); (case hr => first | (go_simp; done) | (go_simp; rfl)); (case hp => exact (Reps.none _ _))
          intro v209 w30 ho31 hb hg_ hnew_
          clear hg_ hnew_
          (first | rw [← Ny208.out] at ho31 | (simp only [Int.reduceToNat] at ho31; rw [← Ny208.out] at ho31))
          have n0_ := Qj (QV (by (with_reducible repeat (first | apply QH | apply QI | apply QJ)); exact HO201.out) (Qb ho31) hb)
          have n1_ := Qj (QV (by (with_reducible repeat (first | apply QH | apply QI | apply QJ)); exact HO204.out) (Qb ho31) hb)
          have n2_ := Qj (QY (Qc (Qc ho31 (QZ (by (with_reducible repeat (first | apply QH | apply QI | apply QJ)); exact HO201.out))) (QZ (by (with_reducible repeat (first | apply QH | apply QI | apply QJ)); exact HO204.out))) (QN (by repeat (first | (with_reducible first | exact HB.out | apply QL | apply QG | apply QK | refine QB ?_ GE194.out | refine QB ?_ GE195.out | refine QB ?_ GE214.out) | exact HB.out))))
          have n3_ := Qj (QM (g := gb194) (o := _) (by (with_reducible repeat (first | refine QE ?_ _ | refine QF ?_ | refine QD ?_ _)); exact BK194.out) hb)
          have n4_ := Qj (QM (g := gb195) (o := _) (by (with_reducible repeat (first | refine QE ?_ _ | refine QF ?_ | refine QD ?_ _)); exact BK195.out) hb)
          have n5_ := Qj (QM (g := gb214) (o := _) (by (with_reducible repeat (first | refine QE ?_ _ | refine QF ?_ | refine QD ?_ _)); exact BK214.out) hb)
          have n6_ := Qj (QT (by repeat (first | (with_reducible first | exact HB.out | apply QL | apply QG | apply QK | refine QB ?_ GE194.out | refine QB ?_ GE195.out | refine QB ?_ GE214.out) | exact HB.out)) hb)
          clear HO201
          clear HO204
          clear BK194
          clear BK195
          clear BK214
          clear HB
          revert n0_ n1_ n2_ n3_ n4_ n5_ n6_
          intro HO201 HO204 HO210 BK194 BK195 BK214 HB
          clear hb ho31
          refine hK.out _ _ ⟨(QC BK194.out 0).trans rfl,(QC BK194.out 1).trans rfl,(QC BK194.out 2).trans rfl,(QC BK194.out 3).trans rfl,(QC BK194.out 4).trans rfl,(QC BK194.out 5).trans rfl,(QC BK194.out 6).trans rfl,((HB.out.cell (World.block_lt_of_cell? w _ hw198_0)).trans hw198_0)⟩ (fun hHeld => ?_)
          clear hK K
          refine QS (a' := ?_) ?_ ?_
          rotate_left
          ·show Act.put _ (some 36) _ = _
           simp only [Act.put,Qg,Qh,Qi,QW,QX]
           rfl
          exact QS (by first | (simp only [putAll,Act.put,Qg,Qh,Qi]; done) | (simp only [putAll,Act.put,Qg,Qh,Qi]; rfl)) (hJ6_7_15_20 (v200,v203,v209,gb214) _ ⟨hHeld,(by (with_reducible repeat (first | apply QH | apply QI | apply QJ)); exact HO201.out),(by (with_reducible repeat (first | apply QH | apply QI | apply QJ)); exact HO204.out),(by (with_reducible repeat (first | apply QH | apply QI | apply QJ)); exact QO HO210.out (fun _ hk => ⟨hk.1.2,hk.2⟩)),(by (with_reducible repeat (first | refine QE ?_ _ | refine QF ?_ | refine QD ?_ _)); exact BK194.out),(by (with_reducible repeat (first | refine QE ?_ _ | refine QF ?_ | refine QD ?_ _)); exact BK195.out),(by (with_reducible repeat (first | refine QE ?_ _ | refine QF ?_ | refine QD ?_ _)); exact BK214.out),GW214.out,GE214.out,NB194_214.out,NB214_194.out,NB195_214.out,NB214_195.out,(by repeat (first | (with_reducible first | exact HB.out | apply QL | apply QG | apply QK | refine QB ?_ GE194.out | refine QB ?_ GE195.out | refine QB ?_ GE214.out) | exact HB.out))⟩)
        ·skip
         rintro ⟨v200,v203,v209⟩ w30 ⟨hS_,h0_,h1_,h2_,h3_,h4_,h5_⟩
         have n0_ : Aside0 (Kd.R (Kd.int .i64) 3 w30 w.heap.size (fun k_ => some k_ ≠ (v203 : Value).ownBlock ∧ some k_ ≠ (v209 : Value).ownBlock) v200 t199) := ⟨h0_⟩
         have n1_ : Aside0 (Kd.R (Kd.int .i64) 3 w30 w.heap.size (fun k_ => some k_ ≠ (v200 : Value).ownBlock ∧ some k_ ≠ (v209 : Value).ownBlock) v203 y202) := ⟨h1_⟩
         have n2_ : Aside0 (Kd.R (Kd.int .i64) 3 w30 w.heap.size (fun k_ => some k_ ≠ (v200 : Value).ownBlock ∧ some k_ ≠ (v203 : Value).ownBlock) v209 y208) := ⟨h2_⟩
         have n3_ : Aside0 (w30.heap[gb194]? = some (.cells #[.slice (some ad198) l0_0.length c0_0,.int .i64 a0_1,.int .i64 a0_2,.slice A0_3 l0_3.length c0_3,.slice A0_4 l0_4.length c0_4,.slice A0_5 l0_5.length c0_5,.int .i64 a0_6] 67 (0,0))) := ⟨h3_⟩
         have n4_ : Aside0 (w30.heap[gb195]? = some (.cells #[.int .i64 0,.slice none 0 0,.slice none 0 0,.int .i64 0,.int .i64 0,.slice none 0 0,.slice none 0 0] 84 (0,0))) := ⟨h4_⟩
         have n5_ : Aside0 (Below w.heap.size w w30) := ⟨h5_⟩
         clear BK194
         clear BK195
         clear HB
         clear h0_ h1_ h2_ h3_ h4_ h5_
         revert n0_ n1_ n2_ n3_ n4_ n5_
         intro HO201 HO204 HO210 BK194 BK195 HB
         have hHeld : spec_SightOf.S_ gb194 ad198 l0_0 c0_0 a0_1 a0_2 A0_3 l0_3 c0_3 A0_4 l0_4 c0_4 A0_5 l0_5 c0_5 a0_6 a1 A198_0 c198_0 w30 := hS_
         refine QS (a' := ?_) ?_ ?_
         rotate_left
         ·simp only [putAll,Act.put,Qg,Qh,Qi]
          rfl
         refine two_ (i := 10) (j := 20) (Ni := some 31) (Nj := some 6) (ab 22 262143) (ab 22 1309695) rfl rfl rfl rfl (two_of HT_.out (by kernel_rfl)) (by decide) (by decide) (fun K hK => ?_) (fun K hK => ?_)
         ·skip
          refine Kd.R_append_rows_step (Kd.int .i64) (w0 := w) w.heap.size (by rfl) (.tmp 28) (.tmp 30) 24 3 (.int .i64 0) 8 rfl Try.underlying24 info3 rfl (by decide) (by omega) v203 y202 l0_3 _ _ _ (fun k_ => some k_ ≠ (v200 : Value).ownBlock ∧ some k_ ≠ (v209 : Value).ownBlock) (fun _ => False) rfl rfl ?aO ?aR (fun _ _ h => h) (fun _ h => h.elim) ?aF ?aB ?aS ?aL ?_
          (case aR => repeat (first | exact (Kd.C_below HR0_3.out HB.out) | (with_reducible refine Kd.C_alloc ?_ _) | (with_reducible refine Kd.C_drewN ?_ _) | (with_reducible refine Kd.C_drew ?_)))
          (case aB => exact (by repeat (first | (with_reducible first | exact HB.out | apply QL | apply QG | apply QK | refine QB ?_ GE194.out | refine QB ?_ GE195.out) | exact HB.out)))
          (case aF => exact (fun k_ hk => ⟨Kd.fresh' (QZ (by (with_reducible repeat (first | apply QH | apply QI | apply QJ)); exact HO201.out)) k_ hk,Kd.fresh' (QZ (by (with_reducible repeat (first | apply QH | apply QI | apply QJ)); exact HO210.out)) k_ hk⟩))
          (case aO => exact (by (with_reducible repeat (first | apply QH | apply QI | apply QJ)); exact HO204.out))
          (case aS => exact (QN (by repeat (first | (with_reducible first | exact HB.out | apply QL | apply QG | apply QK | refine QB ?_ GE194.out | refine QB ?_ GE195.out) | exact HB.out))))
          (case aL => have := LMc22.out; omega)
          intro v206 w31 ho hb hg hat
          rw [← Ny205.out] at ho
          have n0_ := Qj (blk_grown (g := gb194) (o := _) (by (with_reducible repeat (first | refine QE ?_ _ | refine QF ?_ | refine QD ?_ _)); exact BK194.out) hg (Kd.R_ne HO204.out BK194.out (by decide)))
          have n1_ := Qj (blk_grown (g := gb195) (o := _) (by (with_reducible repeat (first | refine QE ?_ _ | refine QF ?_ | refine QD ?_ _)); exact BK195.out) hg (Kd.R_ne HO204.out BK195.out (by decide)))
          have n2_ := Qj (Kd.R_after (ok := (fun k_ => some k_ ≠ (v209 : Value).ownBlock)) (by (with_reducible repeat (first | apply QH | apply QI | apply QJ)); exact QO HO201.out (fun _ hk => ⟨hk.2,hk.1⟩)) hg hat)
          have n3_ := Qj (Kd.R_after (ok := (fun k_ => some k_ ≠ (v200 : Value).ownBlock)) (by (with_reducible repeat (first | apply QH | apply QI | apply QJ)); exact HO210.out) hg hat)
          have n4_ := Qj (hb)
          have n5_ := Qj (ho)
          clear BK194
          clear BK195
          clear HO201
          clear HO210
          clear HB
          clear HO204
          revert n0_ n1_ n2_ n3_ n4_ n5_
          intro BK194 BK195 HO201 HO210 HB HO207
          clear ho hb hg hat
          refine hK.out _ _ ⟨(QC BK194.out 0).trans rfl,(QC BK194.out 1).trans rfl,(QC BK194.out 2).trans rfl,(QC BK194.out 3).trans rfl,(QC BK194.out 4).trans rfl,(QC BK194.out 5).trans rfl,(QC BK194.out 6).trans rfl,((HB.out.cell (World.block_lt_of_cell? w _ hw198_0)).trans hw198_0)⟩ (fun hHeld => ?_)
          clear hK K
          refine QS (a' := ?_) ?_ ?_
          rotate_left
          ·show Act.put _ (some 31) _ = _
           simp only [Act.put,Qg,Qh,Qi,QW,QX]
           rfl
          exact QS (by first | (simp only [putAll,Act.put,Qg,Qh,Qi]; done) | (simp only [putAll,Act.put,Qg,Qh,Qi]; rfl)) (hJ6_7_10_15 (v200,v203,v206,v209) _ ⟨hHeld,(by (with_reducible repeat (first | apply QH | apply QI | apply QJ)); exact QO HO201.out (fun _ hk => ⟨hk.2,hk.1⟩)),(by (with_reducible repeat (first | apply QH | apply QI | apply QJ)); exact HO207.out),(by (with_reducible repeat (first | apply QH | apply QI | apply QJ)); exact HO210.out),(by (with_reducible repeat (first | refine QE ?_ _ | refine QF ?_ | refine QD ?_ _)); exact BK194.out),(by (with_reducible repeat (first | refine QE ?_ _ | refine QF ?_ | refine QD ?_ _)); exact BK195.out),(by repeat (first | (with_reducible first | exact HB.out | apply QL | apply QG | apply QK | refine QB ?_ GE194.out | refine QB ?_ GE195.out) | exact HB.out))⟩)
         ·skip
          refine box_step ?hg (N := 6) ?hd (cs := #[.int .i64 0,.slice none 0 0,.slice none 0 0,.int .i64 0,.int .i64 0,.slice none 0 0,.slice none 0 0]) (t := 84) ?hr ?_; (case hd => rfl); (case hg => rfl); (case hr => first | (go_simp; done) | (go_simp; rfl))
          intro gb214 hg w31 hbox hb
          have n0_ := Qj (Qe (by (with_reducible repeat (first | apply QH | apply QI | apply QJ)); exact HO201.out) hb)
          have n1_ := Qj (Qe (by (with_reducible repeat (first | apply QH | apply QI | apply QJ)); exact HO204.out) hb)
          have n2_ := Qj (Qe (by (with_reducible repeat (first | apply QH | apply QI | apply QJ)); exact HO210.out) hb)
          have n3_ := Qj (QM (g := gb194) (o := _) (by (with_reducible repeat (first | refine QE ?_ _ | refine QF ?_ | refine QD ?_ _)); exact BK194.out) hb)
          have n4_ := Qj (QM (g := gb195) (o := _) (by (with_reducible repeat (first | refine QE ?_ _ | refine QF ?_ | refine QD ?_ _)); exact BK195.out) hb)
          have n5_ := Qj (QT (by repeat (first | (with_reducible first | exact HB.out | apply QL | apply QG | apply QK | refine QB ?_ GE194.out | refine QB ?_ GE195.out) | exact HB.out)) hb)
          have n6_ := Qj (hbox)
          have n7_ := Qj ((by rw [hg]; exact (QN (by repeat (first | (with_reducible first | exact HB.out | apply QL | apply QG | apply QK | refine QB ?_ GE194.out | refine QB ?_ GE195.out) | exact HB.out))) : w.heap.size ≤ gb214))
          have n8_ := Qj ((by rw [hg]; exact (QN (by repeat (first | (with_reducible first | exact HB.out | apply QL | apply QG | apply QK | refine QB ?_ GE194.out | refine QB ?_ GE195.out) | exact HB.out))) : w.heap.size ≤ gb214))
          have n9_ := Qj ((by rw [hg]; exact Nat.ne_of_lt (Qd (g := gb194) (o := _) (by (with_reducible repeat (first | refine QE ?_ _ | refine QF ?_ | refine QD ?_ _)); exact BK194.out)) : gb194 ≠ gb214))
          have n10_ := Qj ((by rw [hg]; exact Nat.ne_of_gt (Qd (g := gb194) (o := _) (by (with_reducible repeat (first | refine QE ?_ _ | refine QF ?_ | refine QD ?_ _)); exact BK194.out)) : gb214 ≠ gb194))
          have n11_ := Qj ((by rw [hg]; exact Nat.ne_of_lt (Qd (g := gb195) (o := _) (by (with_reducible repeat (first | refine QE ?_ _ | refine QF ?_ | refine QD ?_ _)); exact BK195.out)) : gb195 ≠ gb214))
          have n12_ := Qj ((by rw [hg]; exact Nat.ne_of_gt (Qd (g := gb195) (o := _) (by (with_reducible repeat (first | refine QE ?_ _ | refine QF ?_ | refine QD ?_ _)); exact BK195.out)) : gb214 ≠ gb195))
          clear HO201
          clear HO204
          clear HO210
          clear BK194
          clear BK195
          clear HB
          revert n0_ n1_ n2_ n3_ n4_ n5_ n6_ n7_ n8_ n9_ n10_ n11_ n12_
          intro HO201 HO204 HO210 BK194 BK195 HB BK214 GW214 GE214 NB194_214 NB214_194 NB195_214 NB214_195
          clear hb hbox hg
          refine hK.out _ _ ⟨(QC BK194.out 0).trans rfl,(QC BK194.out 1).trans rfl,(QC BK194.out 2).trans rfl,(QC BK194.out 3).trans rfl,(QC BK194.out 4).trans rfl,(QC BK194.out 5).trans rfl,(QC BK194.out 6).trans rfl,((HB.out.cell (World.block_lt_of_cell? w _ hw198_0)).trans hw198_0)⟩ (fun hHeld => ?_)
          clear hK K
          refine QS (a' := ?_) ?_ ?_
          rotate_left
          ·show Act.put _ (some 6) _ = _
           simp only [Act.put,Qg,Qh,Qi,QW,QX]
           rfl
          exact QS (by first | (simp only [putAll,Act.put,Qg,Qh,Qi]; done) | (simp only [putAll,Act.put,Qg,Qh,Qi]; rfl)) (hJ6_7_15_20 (v200,v203,v209,gb214) _ ⟨hHeld,(by (with_reducible repeat (first | apply QH | apply QI | apply QJ)); exact HO201.out),(by (with_reducible repeat (first | apply QH | apply QI | apply QJ)); exact HO204.out),(by (with_reducible repeat (first | apply QH | apply QI | apply QJ)); exact HO210.out),(by (with_reducible repeat (first | refine QE ?_ _ | refine QF ?_ | refine QD ?_ _)); exact BK194.out),(by (with_reducible repeat (first | refine QE ?_ _ | refine QF ?_ | refine QD ?_ _)); exact BK195.out),(by (with_reducible repeat (first | refine QE ?_ _ | refine QF ?_ | refine QD ?_ _)); exact BK214.out),GW214.out,GE214.out,NB194_214.out,NB214_194.out,NB195_214.out,NB214_195.out,(by repeat (first | (with_reducible first | exact HB.out | apply QL | apply QG | apply QK | refine QB ?_ GE194.out | refine QB ?_ GE195.out | refine QB ?_ GE214.out) | exact HB.out))⟩)
        ·skip
         rintro ⟨v200,v203,v206⟩ w29 ⟨hS_,h0_,h1_,h2_,h3_,h4_⟩
         have n0_ : Aside0 (Kd.R (Kd.int .i64) 3 w29 w.heap.size (fun k_ => some k_ ≠ (v206 : Value).ownBlock) v200 t199) := ⟨h0_⟩
         have n1_ : Aside0 (Kd.R (Kd.int .i64) 3 w29 w.heap.size (fun k_ => some k_ ≠ (v200 : Value).ownBlock) v206 y205) := ⟨h1_⟩
         have n2_ : Aside0 (w29.heap[gb194]? = some (.cells #[.slice (some ad198) l0_0.length c0_0,.int .i64 a0_1,.int .i64 a0_2,.slice A0_3 l0_3.length c0_3,.slice A0_4 l0_4.length c0_4,.slice A0_5 l0_5.length c0_5,.int .i64 a0_6] 67 (0,0))) := ⟨h2_⟩
         have n3_ : Aside0 (w29.heap[gb195]? = some (.cells #[.int .i64 0,.slice none 0 0,.slice none 0 0,.int .i64 0,.int .i64 0,.slice none 0 0,.slice none 0 0] 84 (0,0))) := ⟨h3_⟩
         have n4_ : Aside0 (Below w.heap.size w w29) := ⟨h4_⟩
         clear BK194
         clear BK195
         clear HB
         clear h0_ h1_ h2_ h3_ h4_
         revert n0_ n1_ n2_ n3_ n4_
         intro HO201 HO207 BK194 BK195 HB
         have hHeld : spec_SightOf.S_ gb194 ad198 l0_0 c0_0 a0_1 a0_2 A0_3 l0_3 c0_3 A0_4 l0_4 c0_4 A0_5 l0_5 c0_5 a0_6 a1 A198_0 c198_0 w29 := hS_
         refine QS (a' := ?_) ?_ ?_
         rotate_left
         ·simp only [putAll,Act.put,Qg,Qh,Qi]
          rfl
         refine two_ (i := 15) (j := 20) (Ni := some 36) (Nj := some 6) (ab 22 262143) (ab 22 1277951) rfl rfl rfl rfl (two_of HT_.out (by kernel_rfl)) (by decide) (by decide) (fun K hK => ?_) (fun K hK => ?_)
         ·skip
          refine Qa (Kd.int .i64) _ 3 ?hg (N := 36) ?hd (xs := ([] : List Int)) (inner := []) (ok := fun _ => True) (okp := fun _ => True) ?hr ?hp (fun _ hk => hk) trivial (Below.refl _ _) (Nat.le_refl _) (by simp) ?_; (case hd => rfl); (case hg => rfl); (case hr => first | (go_simp; done) | (go_simp; rfl)); (case hp => exact (Reps.none _ _))
          intro v209 w30 ho31 hb hg_ hnew_
          clear hg_ hnew_
          (first | rw [← Ny208.out] at ho31 | (simp only [Int.reduceToNat] at ho31; rw [← Ny208.out] at ho31))
          have n0_ := Qj (QV (by (with_reducible repeat (first | apply QH | apply QI | apply QJ)); exact HO201.out) (Qb ho31) hb)
          have n1_ := Qj (QV (by (with_reducible repeat (first | apply QH | apply QI | apply QJ)); exact HO207.out) (Qb ho31) hb)
          have n2_ := Qj (QY (Qc (Qc ho31 (QZ (by (with_reducible repeat (first | apply QH | apply QI | apply QJ)); exact HO201.out))) (QZ (by (with_reducible repeat (first | apply QH | apply QI | apply QJ)); exact HO207.out))) (QN (by repeat (first | (with_reducible first | exact HB.out | apply QL | apply QG | apply QK | refine QB ?_ GE194.out | refine QB ?_ GE195.out) | exact HB.out))))
          have n3_ := Qj (QM (g := gb194) (o := _) (by (with_reducible repeat (first | refine QE ?_ _ | refine QF ?_ | refine QD ?_ _)); exact BK194.out) hb)
          have n4_ := Qj (QM (g := gb195) (o := _) (by (with_reducible repeat (first | refine QE ?_ _ | refine QF ?_ | refine QD ?_ _)); exact BK195.out) hb)
          have n5_ := Qj (QT (by repeat (first | (with_reducible first | exact HB.out | apply QL | apply QG | apply QK | refine QB ?_ GE194.out | refine QB ?_ GE195.out) | exact HB.out)) hb)
          clear HO201
          clear HO207
          clear BK194
          clear BK195
          clear HB
          revert n0_ n1_ n2_ n3_ n4_ n5_
          intro HO201 HO207 HO210 BK194 BK195 HB
          clear hb ho31
          refine hK.out _ _ ⟨(QC BK194.out 0).trans rfl,(QC BK194.out 1).trans rfl,(QC BK194.out 2).trans rfl,(QC BK194.out 3).trans rfl,(QC BK194.out 4).trans rfl,(QC BK194.out 5).trans rfl,(QC BK194.out 6).trans rfl,((HB.out.cell (World.block_lt_of_cell? w _ hw198_0)).trans hw198_0)⟩ (fun hHeld => ?_)
          clear hK K
          refine QS (a' := ?_) ?_ ?_
          rotate_left
          ·show Act.put _ (some 36) _ = _
           simp only [Act.put,Qg,Qh,Qi,QW,QX]
           rfl
          exact QS (by first | (simp only [putAll,Act.put,Qg,Qh,Qi]; done) | (simp only [putAll,Act.put,Qg,Qh,Qi]; rfl)) (hJ6_7_10_15 (v200,v203,v206,v209) _ ⟨hHeld,(by (with_reducible repeat (first | apply QH | apply QI | apply QJ)); exact HO201.out),(by (with_reducible repeat (first | apply QH | apply QI | apply QJ)); exact HO207.out),(by (with_reducible repeat (first | apply QH | apply QI | apply QJ)); exact QO HO210.out (fun _ hk => ⟨hk.1.2,hk.2⟩)),(by (with_reducible repeat (first | refine QE ?_ _ | refine QF ?_ | refine QD ?_ _)); exact BK194.out),(by (with_reducible repeat (first | refine QE ?_ _ | refine QF ?_ | refine QD ?_ _)); exact BK195.out),(by repeat (first | (with_reducible first | exact HB.out | apply QL | apply QG | apply QK | refine QB ?_ GE194.out | refine QB ?_ GE195.out) | exact HB.out))⟩)
         ·skip
          refine box_step ?hg (N := 6) ?hd (cs := #[.int .i64 0,.slice none 0 0,.slice none 0 0,.int .i64 0,.int .i64 0,.slice none 0 0,.slice none 0 0]) (t := 84) ?hr ?_; (case hd => rfl); (case hg => rfl); (case hr => first | (go_simp; done) | (go_simp; rfl))
          intro gb214 hg w30 hbox hb
          have n0_ := Qj (Qe (by (with_reducible repeat (first | apply QH | apply QI | apply QJ)); exact HO201.out) hb)
          have n1_ := Qj (Qe (by (with_reducible repeat (first | apply QH | apply QI | apply QJ)); exact HO207.out) hb)
          have n2_ := Qj (QM (g := gb194) (o := _) (by (with_reducible repeat (first | refine QE ?_ _ | refine QF ?_ | refine QD ?_ _)); exact BK194.out) hb)
          have n3_ := Qj (QM (g := gb195) (o := _) (by (with_reducible repeat (first | refine QE ?_ _ | refine QF ?_ | refine QD ?_ _)); exact BK195.out) hb)
          have n4_ := Qj (QT (by repeat (first | (with_reducible first | exact HB.out | apply QL | apply QG | apply QK | refine QB ?_ GE194.out | refine QB ?_ GE195.out) | exact HB.out)) hb)
          have n5_ := Qj (hbox)
          have n6_ := Qj ((by rw [hg]; exact (QN (by repeat (first | (with_reducible first | exact HB.out | apply QL | apply QG | apply QK | refine QB ?_ GE194.out | refine QB ?_ GE195.out) | exact HB.out))) : w.heap.size ≤ gb214))
          have n7_ := Qj ((by rw [hg]; exact (QN (by repeat (first | (with_reducible first | exact HB.out | apply QL | apply QG | apply QK | refine QB ?_ GE194.out | refine QB ?_ GE195.out) | exact HB.out))) : w.heap.size ≤ gb214))
          have n8_ := Qj ((by rw [hg]; exact Nat.ne_of_lt (Qd (g := gb194) (o := _) (by (with_reducible repeat (first | refine QE ?_ _ | refine QF ?_ | refine QD ?_ _)); exact BK194.out)) : gb194 ≠ gb214))
          have n9_ := Qj ((by rw [hg]; exact Nat.ne_of_gt (Qd (g := gb194) (o := _) (by (with_reducible repeat (first | refine QE ?_ _ | refine QF ?_ | refine QD ?_ _)); exact BK194.out)) : gb214 ≠ gb194))
          have n10_ := Qj ((by rw [hg]; exact Nat.ne_of_lt (Qd (g := gb195) (o := _) (by (with_reducible repeat (first | refine QE ?_ _ | refine QF ?_ | refine QD ?_ _)); exact BK195.out)) : gb195 ≠ gb214))
          have n11_ := Qj ((by rw [hg]; exact Nat.ne_of_gt (Qd (g := gb195) (o := _) (by (with_reducible repeat (first | refine QE ?_ _ | refine QF ?_ | refine QD ?_ _)); exact BK195.out)) : gb214 ≠ gb195))
          clear HO201
          clear HO207
          clear BK194
          clear BK195
          clear HB
          revert n0_ n1_ n2_ n3_ n4_ n5_ n6_ n7_ n8_ n9_ n10_ n11_
          intro HO201 HO207 BK194 BK195 HB BK214 GW214 GE214 NB194_214 NB214_194 NB195_214 NB214_195
          clear hb hbox hg
          refine hK.out _ _ ⟨(QC BK194.out 0).trans rfl,(QC BK194.out 1).trans rfl,(QC BK194.out 2).trans rfl,(QC BK194.out 3).trans rfl,(QC BK194.out 4).trans rfl,(QC BK194.out 5).trans rfl,(QC BK194.out 6).trans rfl,((HB.out.cell (World.block_lt_of_cell? w _ hw198_0)).trans hw198_0)⟩ (fun hHeld => ?_)
          clear hK K
          refine QS (a' := ?_) ?_ ?_
          rotate_left
          ·show Act.put _ (some 6) _ = _
           simp only [Act.put,Qg,Qh,Qi,QW,QX]
           rfl
          exact QS (by first | (simp only [putAll,Act.put,Qg,Qh,Qi]; done) | (simp only [putAll,Act.put,Qg,Qh,Qi]; rfl)) (hJ6_7_10_20 (v200,v203,v206,gb214) _ ⟨hHeld,(by (with_reducible repeat (first | apply QH | apply QI | apply QJ)); exact HO201.out),(by (with_reducible repeat (first | apply QH | apply QI | apply QJ)); exact HO207.out),(by (with_reducible repeat (first | refine QE ?_ _ | refine QF ?_ | refine QD ?_ _)); exact BK194.out),(by (with_reducible repeat (first | refine QE ?_ _ | refine QF ?_ | refine QD ?_ _)); exact BK195.out),(by (with_reducible repeat (first | refine QE ?_ _ | refine QF ?_ | refine QD ?_ _)); exact BK214.out),GW214.out,GE214.out,NB194_214.out,NB214_194.out,NB195_214.out,NB214_195.out,(by repeat (first | (with_reducible first | exact HB.out | apply QL | apply QG | apply QK | refine QB ?_ GE194.out | refine QB ?_ GE195.out | refine QB ?_ GE214.out) | exact HB.out))⟩)
        ·skip
         rintro ⟨v200,v203,v209,gb214⟩ w31 ⟨hS_,h0_,h1_,h2_,h3_,h4_,h5_,h6_,h7_,h8_,h9_,h10_,h11_,h12_⟩
         have n0_ : Aside0 (Kd.R (Kd.int .i64) 3 w31 w.heap.size (fun k_ => some k_ ≠ (v203 : Value).ownBlock ∧ some k_ ≠ (v209 : Value).ownBlock) v200 t199) := ⟨h0_⟩
         have n1_ : Aside0 (Kd.R (Kd.int .i64) 3 w31 w.heap.size (fun k_ => some k_ ≠ (v200 : Value).ownBlock ∧ some k_ ≠ (v209 : Value).ownBlock) v203 y202) := ⟨h1_⟩
         have n2_ : Aside0 (Kd.R (Kd.int .i64) 3 w31 w.heap.size (fun k_ => some k_ ≠ (v200 : Value).ownBlock ∧ some k_ ≠ (v203 : Value).ownBlock) v209 y208) := ⟨h2_⟩
         have n3_ : Aside0 (w31.heap[gb194]? = some (.cells #[.slice (some ad198) l0_0.length c0_0,.int .i64 a0_1,.int .i64 a0_2,.slice A0_3 l0_3.length c0_3,.slice A0_4 l0_4.length c0_4,.slice A0_5 l0_5.length c0_5,.int .i64 a0_6] 67 (0,0))) := ⟨h3_⟩
         have n4_ : Aside0 (w31.heap[gb195]? = some (.cells #[.int .i64 0,.slice none 0 0,.slice none 0 0,.int .i64 0,.int .i64 0,.slice none 0 0,.slice none 0 0] 84 (0,0))) := ⟨h4_⟩
         have n5_ : Aside0 (w31.heap[gb214]? = some (.cells #[.int .i64 0,.slice none 0 0,.slice none 0 0,.int .i64 0,.int .i64 0,.slice none 0 0,.slice none 0 0] 84 (0,0))) := ⟨h5_⟩
         have n6_ : Aside0 (w.heap.size ≤ gb214) := ⟨h6_⟩
         have n7_ : Aside0 (w.heap.size ≤ gb214) := ⟨h7_⟩
         have n8_ : Aside0 (gb194 ≠ gb214) := ⟨h8_⟩
         have n9_ : Aside0 (gb214 ≠ gb194) := ⟨h9_⟩
         have n10_ : Aside0 (gb195 ≠ gb214) := ⟨h10_⟩
         have n11_ : Aside0 (gb214 ≠ gb195) := ⟨h11_⟩
         have n12_ : Aside0 (Below w.heap.size w w31) := ⟨h12_⟩
         clear BK194
         clear BK195
         clear HB
         clear h0_ h1_ h2_ h3_ h4_ h5_ h6_ h7_ h8_ h9_ h10_ h11_ h12_
         revert n0_ n1_ n2_ n3_ n4_ n5_ n6_ n7_ n8_ n9_ n10_ n11_ n12_
         intro HO201 HO204 HO210 BK194 BK195 BK214 GW214 GE214 NB194_214 NB214_194 NB195_214 NB214_195 HB
         have hHeld : spec_SightOf.S_ gb194 ad198 l0_0 c0_0 a0_1 a0_2 A0_3 l0_3 c0_3 A0_4 l0_4 c0_4 A0_5 l0_5 c0_5 a0_6 a1 A198_0 c198_0 w31 := hS_
         refine QS (a' := ?_) ?_ ?_
         rotate_left
         ·simp only [putAll,Act.put,Qg,Qh,Qi]
          rfl
         refine one_ (i := 10) (N := some 31) (ab 22 1310719) rfl rfl (one_of HT_.out (by kernel_rfl)) (by decide) (fun K hK => ?_)
         refine Kd.R_append_rows_step (Kd.int .i64) (w0 := w) w.heap.size (by rfl) (.tmp 28) (.tmp 30) 24 3 (.int .i64 0) 8 rfl Try.underlying24 info3 rfl (by decide) (by omega) v203 y202 l0_3 _ _ _ (fun k_ => some k_ ≠ (v200 : Value).ownBlock ∧ some k_ ≠ (v209 : Value).ownBlock) (fun _ => False) rfl rfl ?aO ?aR (fun _ _ h => h) (fun _ h => h.elim) ?aF ?aB ?aS ?aL ?_
         (case aR => repeat (first | exact (Kd.C_below HR0_3.out HB.out) | (with_reducible refine Kd.C_alloc ?_ _) | (with_reducible refine Kd.C_drewN ?_ _) | (with_reducible refine Kd.C_drew ?_)))
         (case aB => exact (by repeat (first | (with_reducible first | exact HB.out | apply QL | apply QG | apply QK | refine QB ?_ GE194.out | refine QB ?_ GE195.out | refine QB ?_ GE214.out) | exact HB.out)))
         (case aF => exact (fun k_ hk => ⟨Kd.fresh' (QZ (by (with_reducible repeat (first | apply QH | apply QI | apply QJ)); exact HO201.out)) k_ hk,Kd.fresh' (QZ (by (with_reducible repeat (first | apply QH | apply QI | apply QJ)); exact HO210.out)) k_ hk⟩))
         (case aO => exact (by (with_reducible repeat (first | apply QH | apply QI | apply QJ)); exact HO204.out))
         (case aS => exact (QN (by repeat (first | (with_reducible first | exact HB.out | apply QL | apply QG | apply QK | refine QB ?_ GE194.out | refine QB ?_ GE195.out | refine QB ?_ GE214.out) | exact HB.out))))
         (case aL => have := LMc22.out; omega)
         intro v206 w32 ho hb hg hat
         rw [← Ny205.out] at ho
         have n0_ := Qj (blk_grown (g := gb194) (o := _) (by (with_reducible repeat (first | refine QE ?_ _ | refine QF ?_ | refine QD ?_ _)); exact BK194.out) hg (Kd.R_ne HO204.out BK194.out (by decide)))
         have n1_ := Qj (blk_grown (g := gb195) (o := _) (by (with_reducible repeat (first | refine QE ?_ _ | refine QF ?_ | refine QD ?_ _)); exact BK195.out) hg (Kd.R_ne HO204.out BK195.out (by decide)))
         have n2_ := Qj (Kd.R_after (ok := (fun k_ => some k_ ≠ (v209 : Value).ownBlock)) (by (with_reducible repeat (first | apply QH | apply QI | apply QJ)); exact QO HO201.out (fun _ hk => ⟨hk.2,hk.1⟩)) hg hat)
         have n3_ := Qj (Kd.R_after (ok := (fun k_ => some k_ ≠ (v200 : Value).ownBlock)) (by (with_reducible repeat (first | apply QH | apply QI | apply QJ)); exact HO210.out) hg hat)
         have n4_ := Qj (blk_grown (g := gb214) (o := _) (by (with_reducible repeat (first | refine QE ?_ _ | refine QF ?_ | refine QD ?_ _)); exact BK214.out) hg (Kd.R_ne HO204.out BK214.out (by decide)))
         have n5_ := Qj (hb)
         have n6_ := Qj (ho)
         clear BK194
         clear BK195
         clear HO201
         clear HO210
         clear BK214
         clear HB
         clear HO204
         revert n0_ n1_ n2_ n3_ n4_ n5_ n6_
         intro BK194 BK195 HO201 HO210 BK214 HB HO207
         clear ho hb hg hat
         refine hK.out _ _ ⟨(QC BK194.out 0).trans rfl,(QC BK194.out 1).trans rfl,(QC BK194.out 2).trans rfl,(QC BK194.out 3).trans rfl,(QC BK194.out 4).trans rfl,(QC BK194.out 5).trans rfl,(QC BK194.out 6).trans rfl,((HB.out.cell (World.block_lt_of_cell? w _ hw198_0)).trans hw198_0)⟩ (fun hHeld => ?_)
         clear hK K
         refine QS (a' := ?_) ?_ ?_
         rotate_left
         ·show Act.put _ (some 31) _ = _
          simp only [Act.put,Qg,Qh,Qi,QW,QX]
          rfl
         exact QS (by first | (simp only [putAll,Act.put,Qg,Qh,Qi]; done) | (simp only [putAll,Act.put,Qg,Qh,Qi]; rfl)) (hJ6_7_10_15_20 (v200,v203,v206,v209,gb214) _ ⟨hHeld,(by (with_reducible repeat (first | apply QH | apply QI | apply QJ)); exact QO HO201.out (fun _ hk => ⟨hk.2,hk.1⟩)),(by (with_reducible repeat (first | apply QH | apply QI | apply QJ)); exact HO207.out),(by (with_reducible repeat (first | apply QH | apply QI | apply QJ)); exact HO210.out),(by (with_reducible repeat (first | refine QE ?_ _ | refine QF ?_ | refine QD ?_ _)); exact BK194.out),(by (with_reducible repeat (first | refine QE ?_ _ | refine QF ?_ | refine QD ?_ _)); exact BK195.out),(by (with_reducible repeat (first | refine QE ?_ _ | refine QF ?_ | refine QD ?_ _)); exact BK214.out),GW214.out,GE214.out,NB194_214.out,NB214_194.out,NB195_214.out,NB214_195.out,(by repeat (first | (with_reducible first | exact HB.out | apply QL | apply QG | apply QK | refine QB ?_ GE194.out | refine QB ?_ GE195.out | refine QB ?_ GE214.out) | exact HB.out))⟩)
        ·skip
         rintro ⟨v200,v203,v206,gb214⟩ w30 ⟨hS_,h0_,h1_,h2_,h3_,h4_,h5_,h6_,h7_,h8_,h9_,h10_,h11_⟩
         have n0_ : Aside0 (Kd.R (Kd.int .i64) 3 w30 w.heap.size (fun k_ => some k_ ≠ (v206 : Value).ownBlock) v200 t199) := ⟨h0_⟩
         have n1_ : Aside0 (Kd.R (Kd.int .i64) 3 w30 w.heap.size (fun k_ => some k_ ≠ (v200 : Value).ownBlock) v206 y205) := ⟨h1_⟩
         have n2_ : Aside0 (w30.heap[gb194]? = some (.cells #[.slice (some ad198) l0_0.length c0_0,.int .i64 a0_1,.int .i64 a0_2,.slice A0_3 l0_3.length c0_3,.slice A0_4 l0_4.length c0_4,.slice A0_5 l0_5.length c0_5,.int .i64 a0_6] 67 (0,0))) := ⟨h2_⟩
         have n3_ : Aside0 (w30.heap[gb195]? = some (.cells #[.int .i64 0,.slice none 0 0,.slice none 0 0,.int .i64 0,.int .i64 0,.slice none 0 0,.slice none 0 0] 84 (0,0))) := ⟨h3_⟩
         have n4_ : Aside0 (w30.heap[gb214]? = some (.cells #[.int .i64 0,.slice none 0 0,.slice none 0 0,.int .i64 0,.int .i64 0,.slice none 0 0,.slice none 0 0] 84 (0,0))) := ⟨h4_⟩
         have n5_ : Aside0 (w.heap.size ≤ gb214) := ⟨h5_⟩
         have n6_ : Aside0 (w.heap.size ≤ gb214) := ⟨h6_⟩
         have n7_ : Aside0 (gb194 ≠ gb214) := ⟨h7_⟩
         have n8_ : Aside0 (gb214 ≠ gb194) := ⟨h8_⟩
         have n9_ : Aside0 (gb195 ≠ gb214) := ⟨h9_⟩
         have n10_ : Aside0 (gb214 ≠ gb195) := ⟨h10_⟩
         have n11_ : Aside0 (Below w.heap.size w w30) := ⟨h11_⟩
         clear BK194
         clear BK195
         clear HB
         clear h0_ h1_ h2_ h3_ h4_ h5_ h6_ h7_ h8_ h9_ h10_ h11_
         revert n0_ n1_ n2_ n3_ n4_ n5_ n6_ n7_ n8_ n9_ n10_ n11_
         intro HO201 HO207 BK194 BK195 BK214 GW214 GE214 NB194_214 NB214_194 NB195_214 NB214_195 HB
         have hHeld : spec_SightOf.S_ gb194 ad198 l0_0 c0_0 a0_1 a0_2 A0_3 l0_3 c0_3 A0_4 l0_4 c0_4 A0_5 l0_5 c0_5 a0_6 a1 A198_0 c198_0 w30 := hS_
         refine QS (a' := ?_) ?_ ?_
         rotate_left
         ·simp only [putAll,Act.put,Qg,Qh,Qi]
          rfl
         refine one_ (i := 15) (N := some 36) (ab 22 1310719) rfl rfl (one_of HT_.out (by kernel_rfl)) (by decide) (fun K hK => ?_)
         refine Qa (Kd.int .i64) _ 3 ?hg (N := 36) ?hd (xs := ([] : List Int)) (inner := []) (ok := fun _ => True) (okp := fun _ => True) ?hr ?hp (fun _ hk => hk) trivial (Below.refl _ _) (Nat.le_refl _) (by simp) ?_; (case hd => rfl); (case hg => rfl); (case hr => first | (go_simp; done) | (go_simp; rfl)); (case hp => exact (Reps.none _ _))
         intro v209 w31 ho32 hb hg_ hnew_
         clear hg_ hnew_
         (first | rw [← Ny208.out] at ho32 | (simp only [Int.reduceToNat] at ho32; rw [← Ny208.out] at ho32))
         have n0_ := Qj (QV (by (with_reducible repeat (first | apply QH | apply QI | apply QJ)); exact HO201.out) (Qb ho32) hb)
         have n1_ := Qj (QV (by (with_reducible repeat (first | apply QH | apply QI | apply QJ)); exact HO207.out) (Qb ho32) hb)
         have n2_ := Qj (QY (Qc (Qc ho32 (QZ (by (with_reducible repeat (first | apply QH | apply QI | apply QJ)); exact HO201.out))) (QZ (by (with_reducible repeat (first | apply QH | apply QI | apply QJ)); exact HO207.out))) (QN (by repeat (first | (with_reducible first | exact HB.out | apply QL | apply QG | apply QK | refine QB ?_ GE194.out | refine QB ?_ GE195.out | refine QB ?_ GE214.out) | exact HB.out))))
         have n3_ := Qj (QM (g := gb194) (o := _) (by (with_reducible repeat (first | refine QE ?_ _ | refine QF ?_ | refine QD ?_ _)); exact BK194.out) hb)
         have n4_ := Qj (QM (g := gb195) (o := _) (by (with_reducible repeat (first | refine QE ?_ _ | refine QF ?_ | refine QD ?_ _)); exact BK195.out) hb)
         have n5_ := Qj (QM (g := gb214) (o := _) (by (with_reducible repeat (first | refine QE ?_ _ | refine QF ?_ | refine QD ?_ _)); exact BK214.out) hb)
         have n6_ := Qj (QT (by repeat (first | (with_reducible first | exact HB.out | apply QL | apply QG | apply QK | refine QB ?_ GE194.out | refine QB ?_ GE195.out | refine QB ?_ GE214.out) | exact HB.out)) hb)
         clear HO201
         clear HO207
         clear BK194
         clear BK195
         clear BK214
         clear HB
         revert n0_ n1_ n2_ n3_ n4_ n5_ n6_
         intro HO201 HO207 HO210 BK194 BK195 BK214 HB
         clear hb ho32
         refine hK.out _ _ ⟨(QC BK194.out 0).trans rfl,(QC BK194.out 1).trans rfl,(QC BK194.out 2).trans rfl,(QC BK194.out 3).trans rfl,(QC BK194.out 4).trans rfl,(QC BK194.out 5).trans rfl,(QC BK194.out 6).trans rfl,((HB.out.cell (World.block_lt_of_cell? w _ hw198_0)).trans hw198_0)⟩ (fun hHeld => ?_)
         clear hK K
         refine QS (a' := ?_) ?_ ?_
         rotate_left
         ·show Act.put _ (some 36) _ = _
          simp only [Act.put,Qg,Qh,Qi,QW,QX]
          rfl
         exact QS (by first | (simp only [putAll,Act.put,Qg,Qh,Qi]; done) | (simp only [putAll,Act.put,Qg,Qh,Qi]; rfl)) (hJ6_7_10_15_20 (v200,v203,v206,v209,gb214) _ ⟨hHeld,(by (with_reducible repeat (first | apply QH | apply QI | apply QJ)); exact HO201.out),(by (with_reducible repeat (first | apply QH | apply QI | apply QJ)); exact HO207.out),(by (with_reducible repeat (first | apply QH | apply QI | apply QJ)); exact QO HO210.out (fun _ hk => ⟨hk.1.2,hk.2⟩)),(by (with_reducible repeat (first | refine QE ?_ _ | refine QF ?_ | refine QD ?_ _)); exact BK194.out),(by (with_reducible repeat (first | refine QE ?_ _ | refine QF ?_ | refine QD ?_ _)); exact BK195.out),(by (with_reducible repeat (first | refine QE ?_ _ | refine QF ?_ | refine QD ?_ _)); exact BK214.out),GW214.out,GE214.out,NB194_214.out,NB214_194.out,NB195_214.out,NB214_195.out,(by repeat (first | (with_reducible first | exact HB.out | apply QL | apply QG | apply QK | refine QB ?_ GE194.out | refine QB ?_ GE195.out | refine QB ?_ GE214.out) | exact HB.out))⟩)
        ·skip
         rintro ⟨v200,v203,v206,v209⟩ w31 ⟨hS_,h0_,h1_,h2_,h3_,h4_,h5_⟩
         have n0_ : Aside0 (Kd.R (Kd.int .i64) 3 w31 w.heap.size (fun k_ => some k_ ≠ (v206 : Value).ownBlock ∧ some k_ ≠ (v209 : Value).ownBlock) v200 t199) := ⟨h0_⟩
         have n1_ : Aside0 (Kd.R (Kd.int .i64) 3 w31 w.heap.size (fun k_ => some k_ ≠ (v200 : Value).ownBlock ∧ some k_ ≠ (v209 : Value).ownBlock) v206 y205) := ⟨h1_⟩
         have n2_ : Aside0 (Kd.R (Kd.int .i64) 3 w31 w.heap.size (fun k_ => some k_ ≠ (v200 : Value).ownBlock ∧ some k_ ≠ (v206 : Value).ownBlock) v209 y208) := ⟨h2_⟩
         have n3_ : Aside0 (w31.heap[gb194]? = some (.cells #[.slice (some ad198) l0_0.length c0_0,.int .i64 a0_1,.int .i64 a0_2,.slice A0_3 l0_3.length c0_3,.slice A0_4 l0_4.length c0_4,.slice A0_5 l0_5.length c0_5,.int .i64 a0_6] 67 (0,0))) := ⟨h3_⟩
         have n4_ : Aside0 (w31.heap[gb195]? = some (.cells #[.int .i64 0,.slice none 0 0,.slice none 0 0,.int .i64 0,.int .i64 0,.slice none 0 0,.slice none 0 0] 84 (0,0))) := ⟨h4_⟩
         have n5_ : Aside0 (Below w.heap.size w w31) := ⟨h5_⟩
         clear BK194
         clear BK195
         clear HB
         clear h0_ h1_ h2_ h3_ h4_ h5_
         revert n0_ n1_ n2_ n3_ n4_ n5_
         intro HO201 HO207 HO210 BK194 BK195 HB
         have hHeld : spec_SightOf.S_ gb194 ad198 l0_0 c0_0 a0_1 a0_2 A0_3 l0_3 c0_3 A0_4 l0_4 c0_4 A0_5 l0_5 c0_5 a0_6 a1 A198_0 c198_0 w31 := hS_
         refine QS (a' := ?_) ?_ ?_
         rotate_left
         ·simp only [putAll,Act.put,Qg,Qh,Qi]
          rfl
         refine two_ (i := 18) (j := 20) (Ni := some 39) (Nj := some 6) (ab 22 524287) (ab 22 1310719) rfl rfl rfl rfl (two_of HT_.out (by kernel_rfl)) (by decide) (by decide) (fun K hK => ?_) (fun K hK => ?_)
         ·skip
          refine Kd.R_append_rows_step (Kd.int .i64) (w0 := w) w.heap.size (by rfl) (.tmp 36) (.tmp 38) 24 3 (.int .i64 0) 8 rfl Try.underlying24 info3 rfl (by decide) (by omega) v209 y208 l0_4 _ _ _ (fun k_ => some k_ ≠ (v200 : Value).ownBlock ∧ some k_ ≠ (v206 : Value).ownBlock) (fun _ => False) rfl rfl ?aO ?aR (fun _ _ h => h) (fun _ h => h.elim) ?aF ?aB ?aS ?aL ?_
          (case aR => repeat (first | exact (Kd.C_below HR0_4.out HB.out) | (with_reducible refine Kd.C_alloc ?_ _) | (with_reducible refine Kd.C_drewN ?_ _) | (with_reducible refine Kd.C_drew ?_)))
          (case aB => exact (by repeat (first | (with_reducible first | exact HB.out | apply QL | apply QG | apply QK | refine QB ?_ GE194.out | refine QB ?_ GE195.out) | exact HB.out)))
          (case aF => exact (fun k_ hk => ⟨Kd.fresh' (QZ (by (with_reducible repeat (first | apply QH | apply QI | apply QJ)); exact HO201.out)) k_ hk,Kd.fresh' (QZ (by (with_reducible repeat (first | apply QH | apply QI | apply QJ)); exact HO207.out)) k_ hk⟩))
          (case aO => exact (by (with_reducible repeat (first | apply QH | apply QI | apply QJ)); exact HO210.out))
          (case aS => exact (QN (by repeat (first | (with_reducible first | exact HB.out | apply QL | apply QG | apply QK | refine QB ?_ GE194.out | refine QB ?_ GE195.out) | exact HB.out))))
          (case aL => have := LMc23.out; omega)
          intro v212 w32 ho hb hg hat
          rw [← Ny211.out] at ho
          have n0_ := Qj (blk_grown (g := gb194) (o := _) (by (with_reducible repeat (first | refine QE ?_ _ | refine QF ?_ | refine QD ?_ _)); exact BK194.out) hg (Kd.R_ne HO210.out BK194.out (by decide)))
          have n1_ := Qj (blk_grown (g := gb195) (o := _) (by (with_reducible repeat (first | refine QE ?_ _ | refine QF ?_ | refine QD ?_ _)); exact BK195.out) hg (Kd.R_ne HO210.out BK195.out (by decide)))
          have n2_ := Qj (Kd.R_after (ok := (fun k_ => some k_ ≠ (v206 : Value).ownBlock)) (by (with_reducible repeat (first | apply QH | apply QI | apply QJ)); exact HO201.out) hg hat)
          have n3_ := Qj (Kd.R_after (ok := (fun k_ => some k_ ≠ (v200 : Value).ownBlock)) (by (with_reducible repeat (first | apply QH | apply QI | apply QJ)); exact HO207.out) hg hat)
          have n4_ := Qj (hb)
          have n5_ := Qj (ho)
          clear BK194
          clear BK195
          clear HO201
          clear HO207
          clear HB
          clear HO210
          revert n0_ n1_ n2_ n3_ n4_ n5_
          intro BK194 BK195 HO201 HO207 HB HO213
          clear ho hb hg hat
          obtain ⟨Ao33,co33,eo33⟩ := Kd.R_slice HO213.out
          (first | subst eo33 | (injection eo33 with f1_ f2_ f3_; have f4_ := f1_.symm; have f5_ := f3_.symm; clear f1_ f2_ f3_; subst f4_; subst f5_))
          obtain ⟨Ao34,co34,eo34⟩ := Kd.R_slice HO207.out
          (first | subst eo34 | (injection eo34 with f1_ f2_ f3_; have f4_ := f1_.symm; have f5_ := f3_.symm; clear f1_ f2_ f3_; subst f4_; subst f5_))
          obtain ⟨Ao35,co35,eo35⟩ := Kd.R_slice HO201.out
          (first | subst eo35 | (injection eo35 with f1_ f2_ f3_; have f4_ := f1_.symm; have f5_ := f3_.symm; clear f1_ f2_ f3_; subst f4_; subst f5_))
          refine hK.out _ _ ⟨(QC BK194.out 0).trans rfl,(QC BK194.out 1).trans rfl,(QC BK194.out 2).trans rfl,(QC BK194.out 3).trans rfl,(QC BK194.out 4).trans rfl,(QC BK194.out 5).trans rfl,(QC BK194.out 6).trans rfl,((HB.out.cell (World.block_lt_of_cell? w _ hw198_0)).trans hw198_0)⟩ (fun hHeld => ?_)
          clear hK K
          refine QS (a' := ?_) ?_ ?_
          rotate_left
          ·show Act.put _ (some 39) _ = _
           simp only [Act.put,Qg,Qh,Qi,QW,QX]
           rfl
          refine pure_ (i := 19) (N := some 40) (v := ?_) (a' := ?_) (ab 22 1048575) rfl rfl (any_of HT_.out (by kernel_rfl)) (fun _ _ _ h => h) (Or.inl ⟨by rfl,?_⟩) ?_ ?_
          rotate_left
          ·intro w'
           go_simp
           with_reducible rfl
          rotate_left
          ·simp only [Act.put,Qg,Qh,Qi,QW,QX]
           rfl
          exact QS (by first | (simp only [putAll,Act.put,Qg,Qh,Qi]; done) | (simp only [putAll,Act.put,Qg,Qh,Qi]; rfl)) (hJ6_7_10_15_18 (.slice Ao35 t199.length co35,v203,.slice Ao34 y205.length co34,v209,.slice Ao33 y211.length co33) _ ⟨hHeld,(by (with_reducible repeat (first | apply QH | apply QI | apply QJ)); exact HO201.out),(by (with_reducible repeat (first | apply QH | apply QI | apply QJ)); exact HO207.out),(by (with_reducible repeat (first | apply QH | apply QI | apply QJ)); exact HO213.out),(by (with_reducible repeat (first | refine QE ?_ _ | refine QF ?_ | refine QD ?_ _)); exact BK194.out),(by (with_reducible repeat (first | refine QE ?_ _ | refine QF ?_ | refine QD ?_ _)); exact BK195.out),(by repeat (first | (with_reducible first | exact HB.out | apply QL | apply QG | apply QK | refine QB ?_ GE194.out | refine QB ?_ GE195.out) | exact HB.out))⟩)
         ·skip
          refine box_step ?hg (N := 6) ?hd (cs := #[.int .i64 0,.slice none 0 0,.slice none 0 0,.int .i64 0,.int .i64 0,.slice none 0 0,.slice none 0 0]) (t := 84) ?hr ?_; (case hd => rfl); (case hg => rfl); (case hr => first | (go_simp; done) | (go_simp; rfl))
          intro gb214 hg w32 hbox hb
          have n0_ := Qj (Qe (by (with_reducible repeat (first | apply QH | apply QI | apply QJ)); exact HO201.out) hb)
          have n1_ := Qj (Qe (by (with_reducible repeat (first | apply QH | apply QI | apply QJ)); exact HO207.out) hb)
          have n2_ := Qj (Qe (by (with_reducible repeat (first | apply QH | apply QI | apply QJ)); exact HO210.out) hb)
          have n3_ := Qj (QM (g := gb194) (o := _) (by (with_reducible repeat (first | refine QE ?_ _ | refine QF ?_ | refine QD ?_ _)); exact BK194.out) hb)
          have n4_ := Qj (QM (g := gb195) (o := _) (by (with_reducible repeat (first | refine QE ?_ _ | refine QF ?_ | refine QD ?_ _)); exact BK195.out) hb)
          have n5_ := Qj (QT (by repeat (first | (with_reducible first | exact HB.out | apply QL | apply QG | apply QK | refine QB ?_ GE194.out | refine QB ?_ GE195.out) | exact HB.out)) hb)
          have n6_ := Qj (hbox)
          have n7_ := Qj ((by rw [hg]; exact (QN (by repeat (first | (with_reducible first | exact HB.out | apply QL | apply QG | apply QK | refine QB ?_ GE194.out | refine QB ?_ GE195.out) | exact HB.out))) : w.heap.size ≤ gb214))
          have n8_ := Qj ((by rw [hg]; exact (QN (by repeat (first | (with_reducible first | exact HB.out | apply QL | apply QG | apply QK | refine QB ?_ GE194.out | refine QB ?_ GE195.out) | exact HB.out))) : w.heap.size ≤ gb214))
          have n9_ := Qj ((by rw [hg]; exact Nat.ne_of_lt (Qd (g := gb194) (o := _) (by (with_reducible repeat (first | refine QE ?_ _ | refine QF ?_ | refine QD ?_ _)); exact BK194.out)) : gb194 ≠ gb214))
          have n10_ := Qj ((by rw [hg]; exact Nat.ne_of_gt (Qd (g := gb194) (o := _) (by (with_reducible repeat (first | refine QE ?_ _ | refine QF ?_ | refine QD ?_ _)); exact BK194.out)) : gb214 ≠ gb194))
          have n11_ := Qj ((by rw [hg]; exact Nat.ne_of_lt (Qd (g := gb195) (o := _) (by (with_reducible repeat (first | refine QE ?_ _ | refine QF ?_ | refine QD ?_ _)); exact BK195.out)) : gb195 ≠ gb214))
          have n12_ := Qj ((by rw [hg]; exact Nat.ne_of_gt (Qd (g := gb195) (o := _) (by (with_reducible repeat (first | refine QE ?_ _ | refine QF ?_ | refine QD ?_ _)); exact BK195.out)) : gb214 ≠ gb195))
          clear HO201
          clear HO207
          clear HO210
          clear BK194
          clear BK195
          clear HB
          revert n0_ n1_ n2_ n3_ n4_ n5_ n6_ n7_ n8_ n9_ n10_ n11_ n12_
          intro HO201 HO207 HO210 BK194 BK195 HB BK214 GW214 GE214 NB194_214 NB214_194 NB195_214 NB214_195
          clear hb hbox hg
          refine hK.out _ _ ⟨(QC BK194.out 0).trans rfl,(QC BK194.out 1).trans rfl,(QC BK194.out 2).trans rfl,(QC BK194.out 3).trans rfl,(QC BK194.out 4).trans rfl,(QC BK194.out 5).trans rfl,(QC BK194.out 6).trans rfl,((HB.out.cell (World.block_lt_of_cell? w _ hw198_0)).trans hw198_0)⟩ (fun hHeld => ?_)
          clear hK K
          refine QS (a' := ?_) ?_ ?_
          rotate_left
          ·show Act.put _ (some 6) _ = _
           simp only [Act.put,Qg,Qh,Qi,QW,QX]
           rfl
          exact QS (by first | (simp only [putAll,Act.put,Qg,Qh,Qi]; done) | (simp only [putAll,Act.put,Qg,Qh,Qi]; rfl)) (hJ6_7_10_15_20 (v200,v203,v206,v209,gb214) _ ⟨hHeld,(by (with_reducible repeat (first | apply QH | apply QI | apply QJ)); exact HO201.out),(by (with_reducible repeat (first | apply QH | apply QI | apply QJ)); exact HO207.out),(by (with_reducible repeat (first | apply QH | apply QI | apply QJ)); exact HO210.out),(by (with_reducible repeat (first | refine QE ?_ _ | refine QF ?_ | refine QD ?_ _)); exact BK194.out),(by (with_reducible repeat (first | refine QE ?_ _ | refine QF ?_ | refine QD ?_ _)); exact BK195.out),(by (with_reducible repeat (first | refine QE ?_ _ | refine QF ?_ | refine QD ?_ _)); exact BK214.out),GW214.out,GE214.out,NB194_214.out,NB214_194.out,NB195_214.out,NB214_195.out,(by repeat (first | (with_reducible first | exact HB.out | apply QL | apply QG | apply QK | refine QB ?_ GE194.out | refine QB ?_ GE195.out | refine QB ?_ GE214.out) | exact HB.out))⟩)
        ·skip
         rintro ⟨v200,v203,v206,v209,gb214⟩ w32 ⟨hS_,h0_,h1_,h2_,h3_,h4_,h5_,h6_,h7_,h8_,h9_,h10_,h11_,h12_⟩
         have n0_ : Aside0 (Kd.R (Kd.int .i64) 3 w32 w.heap.size (fun k_ => some k_ ≠ (v206 : Value).ownBlock ∧ some k_ ≠ (v209 : Value).ownBlock) v200 t199) := ⟨h0_⟩
         have n1_ : Aside0 (Kd.R (Kd.int .i64) 3 w32 w.heap.size (fun k_ => some k_ ≠ (v200 : Value).ownBlock ∧ some k_ ≠ (v209 : Value).ownBlock) v206 y205) := ⟨h1_⟩
         have n2_ : Aside0 (Kd.R (Kd.int .i64) 3 w32 w.heap.size (fun k_ => some k_ ≠ (v200 : Value).ownBlock ∧ some k_ ≠ (v206 : Value).ownBlock) v209 y208) := ⟨h2_⟩
         have n3_ : Aside0 (w32.heap[gb194]? = some (.cells #[.slice (some ad198) l0_0.length c0_0,.int .i64 a0_1,.int .i64 a0_2,.slice A0_3 l0_3.length c0_3,.slice A0_4 l0_4.length c0_4,.slice A0_5 l0_5.length c0_5,.int .i64 a0_6] 67 (0,0))) := ⟨h3_⟩
         have n4_ : Aside0 (w32.heap[gb195]? = some (.cells #[.int .i64 0,.slice none 0 0,.slice none 0 0,.int .i64 0,.int .i64 0,.slice none 0 0,.slice none 0 0] 84 (0,0))) := ⟨h4_⟩
         have n5_ : Aside0 (w32.heap[gb214]? = some (.cells #[.int .i64 0,.slice none 0 0,.slice none 0 0,.int .i64 0,.int .i64 0,.slice none 0 0,.slice none 0 0] 84 (0,0))) := ⟨h5_⟩
         have n6_ : Aside0 (w.heap.size ≤ gb214) := ⟨h6_⟩
         have n7_ : Aside0 (w.heap.size ≤ gb214) := ⟨h7_⟩
         have n8_ : Aside0 (gb194 ≠ gb214) := ⟨h8_⟩
         have n9_ : Aside0 (gb214 ≠ gb194) := ⟨h9_⟩
         have n10_ : Aside0 (gb195 ≠ gb214) := ⟨h10_⟩
         have n11_ : Aside0 (gb214 ≠ gb195) := ⟨h11_⟩
         have n12_ : Aside0 (Below w.heap.size w w32) := ⟨h12_⟩
         clear BK194
         clear BK195
         clear HB
         clear h0_ h1_ h2_ h3_ h4_ h5_ h6_ h7_ h8_ h9_ h10_ h11_ h12_
         revert n0_ n1_ n2_ n3_ n4_ n5_ n6_ n7_ n8_ n9_ n10_ n11_ n12_
         intro HO201 HO207 HO210 BK194 BK195 BK214 GW214 GE214 NB194_214 NB214_194 NB195_214 NB214_195 HB
         have hHeld : spec_SightOf.S_ gb194 ad198 l0_0 c0_0 a0_1 a0_2 A0_3 l0_3 c0_3 A0_4 l0_4 c0_4 A0_5 l0_5 c0_5 a0_6 a1 A198_0 c198_0 w32 := hS_
         refine QS (a' := ?_) ?_ ?_
         rotate_left
         ·simp only [putAll,Act.put,Qg,Qh,Qi]
          rfl
         refine one_ (i := 18) (N := some 39) (ab 22 1572863) rfl rfl (one_of HT_.out (by kernel_rfl)) (by decide) (fun K hK => ?_)
         refine Kd.R_append_rows_step (Kd.int .i64) (w0 := w) w.heap.size (by rfl) (.tmp 36) (.tmp 38) 24 3 (.int .i64 0) 8 rfl Try.underlying24 info3 rfl (by decide) (by omega) v209 y208 l0_4 _ _ _ (fun k_ => some k_ ≠ (v200 : Value).ownBlock ∧ some k_ ≠ (v206 : Value).ownBlock) (fun _ => False) rfl rfl ?aO ?aR (fun _ _ h => h) (fun _ h => h.elim) ?aF ?aB ?aS ?aL ?_
         (case aR => repeat (first | exact (Kd.C_below HR0_4.out HB.out) | (with_reducible refine Kd.C_alloc ?_ _) | (with_reducible refine Kd.C_drewN ?_ _) | (with_reducible refine Kd.C_drew ?_)))
         (case aB => exact (by repeat (first | (with_reducible first | exact HB.out | apply QL | apply QG | apply QK | refine QB ?_ GE194.out | refine QB ?_ GE195.out | refine QB ?_ GE214.out) | exact HB.out)))
         (case aF => exact (fun k_ hk => ⟨Kd.fresh' (QZ (by (with_reducible repeat (first | apply QH | apply QI | apply QJ)); exact HO201.out)) k_ hk,Kd.fresh' (QZ (by (with_reducible repeat (first | apply QH | apply QI | apply QJ)); exact HO207.out)) k_ hk⟩))
         (case aO => exact (by (with_reducible repeat (first | apply QH | apply QI | apply QJ)); exact HO210.out))
         (case aS => exact (QN (by repeat (first | (with_reducible first | exact HB.out | apply QL | apply QG | apply QK | refine QB ?_ GE194.out | refine QB ?_ GE195.out | refine QB ?_ GE214.out) | exact HB.out))))
         (case aL => have := LMc23.out; omega)
         intro v212 w33 ho hb hg hat
         rw [← Ny211.out] at ho
         have n0_ := Qj (blk_grown (g := gb194) (o := _) (by (with_reducible repeat (first | refine QE ?_ _ | refine QF ?_ | refine QD ?_ _)); exact BK194.out) hg (Kd.R_ne HO210.out BK194.out (by decide)))
         have n1_ := Qj (blk_grown (g := gb195) (o := _) (by (with_reducible repeat (first | refine QE ?_ _ | refine QF ?_ | refine QD ?_ _)); exact BK195.out) hg (Kd.R_ne HO210.out BK195.out (by decide)))
         have n2_ := Qj (Kd.R_after (ok := (fun k_ => some k_ ≠ (v206 : Value).ownBlock)) (by (with_reducible repeat (first | apply QH | apply QI | apply QJ)); exact HO201.out) hg hat)
         have n3_ := Qj (Kd.R_after (ok := (fun k_ => some k_ ≠ (v200 : Value).ownBlock)) (by (with_reducible repeat (first | apply QH | apply QI | apply QJ)); exact HO207.out) hg hat)
         have n4_ := Qj (blk_grown (g := gb214) (o := _) (by (with_reducible repeat (first | refine QE ?_ _ | refine QF ?_ | refine QD ?_ _)); exact BK214.out) hg (Kd.R_ne HO210.out BK214.out (by decide)))
         have n5_ := Qj (hb)
         have n6_ := Qj (ho)
         clear BK194
         clear BK195
         clear HO201
         clear HO207
         clear BK214
         clear HB
         clear HO210
         revert n0_ n1_ n2_ n3_ n4_ n5_ n6_
         intro BK194 BK195 HO201 HO207 BK214 HB HO213
         clear ho hb hg hat
         obtain ⟨Ao34,co34,eo34⟩ := Kd.R_slice HO213.out
         (first | subst eo34 | (injection eo34 with f1_ f2_ f3_; have f4_ := f1_.symm; have f5_ := f3_.symm; clear f1_ f2_ f3_; subst f4_; subst f5_))
         obtain ⟨Ao35,co35,eo35⟩ := Kd.R_slice HO207.out
         (first | subst eo35 | (injection eo35 with f1_ f2_ f3_; have f4_ := f1_.symm; have f5_ := f3_.symm; clear f1_ f2_ f3_; subst f4_; subst f5_))
         obtain ⟨Ao36,co36,eo36⟩ := Kd.R_slice HO201.out
         (first | subst eo36 | (injection eo36 with f1_ f2_ f3_; have f4_ := f1_.symm; have f5_ := f3_.symm; clear f1_ f2_ f3_; subst f4_; subst f5_))
         refine hK.out _ _ ⟨(QC BK194.out 0).trans rfl,(QC BK194.out 1).trans rfl,(QC BK194.out 2).trans rfl,(QC BK194.out 3).trans rfl,(QC BK194.out 4).trans rfl,(QC BK194.out 5).trans rfl,(QC BK194.out 6).trans rfl,((HB.out.cell (World.block_lt_of_cell? w _ hw198_0)).trans hw198_0)⟩ (fun hHeld => ?_)
         clear hK K
         refine QS (a' := ?_) ?_ ?_
         rotate_left
         ·show Act.put _ (some 39) _ = _
          simp only [Act.put,Qg,Qh,Qi,QW,QX]
          rfl
         refine pure_ (i := 19) (N := some 40) (v := ?_) (a' := ?_) (ab 22 2097151) rfl rfl (any_of HT_.out (by kernel_rfl)) (fun _ _ _ h => h) (Or.inl ⟨by rfl,?_⟩) ?_ ?_
         rotate_left
         ·intro w'
          go_simp
          with_reducible rfl
         rotate_left
         ·simp only [Act.put,Qg,Qh,Qi,QW,QX]
          rfl
         exact QS (by first | (simp only [putAll,Act.put,Qg,Qh,Qi]; done) | (simp only [putAll,Act.put,Qg,Qh,Qi]; rfl)) (hJ6_7_10_15_18_20 (.slice Ao36 t199.length co36,v203,.slice Ao35 y205.length co35,v209,.slice Ao34 y211.length co34,gb214) _ ⟨hHeld,(by (with_reducible repeat (first | apply QH | apply QI | apply QJ)); exact HO201.out),(by (with_reducible repeat (first | apply QH | apply QI | apply QJ)); exact HO207.out),(by (with_reducible repeat (first | apply QH | apply QI | apply QJ)); exact HO213.out),(by (with_reducible repeat (first | refine QE ?_ _ | refine QF ?_ | refine QD ?_ _)); exact BK194.out),(by (with_reducible repeat (first | refine QE ?_ _ | refine QF ?_ | refine QD ?_ _)); exact BK195.out),(by (with_reducible repeat (first | refine QE ?_ _ | refine QF ?_ | refine QD ?_ _)); exact BK214.out),GW214.out,GE214.out,NB194_214.out,NB214_194.out,NB195_214.out,NB214_195.out,(by repeat (first | (with_reducible first | exact HB.out | apply QL | apply QG | apply QK | refine QB ?_ GE194.out | refine QB ?_ GE195.out | refine QB ?_ GE214.out) | exact HB.out))⟩)
        ·skip
         rintro ⟨v200,v203,v206,v209,v212⟩ w35 ⟨hS_,h0_,h1_,h2_,h3_,h4_,h5_⟩
         have n0_ : Aside0 (Kd.R (Kd.int .i64) 3 w35 w.heap.size (fun k_ => some k_ ≠ (v206 : Value).ownBlock ∧ some k_ ≠ (v212 : Value).ownBlock) v200 t199) := ⟨h0_⟩
         have n1_ : Aside0 (Kd.R (Kd.int .i64) 3 w35 w.heap.size (fun k_ => some k_ ≠ (v200 : Value).ownBlock ∧ some k_ ≠ (v212 : Value).ownBlock) v206 y205) := ⟨h1_⟩
         have n2_ : Aside0 (Kd.R (Kd.int .i64) 3 w35 w.heap.size (fun k_ => some k_ ≠ (v200 : Value).ownBlock ∧ some k_ ≠ (v206 : Value).ownBlock) v212 y211) := ⟨h2_⟩
         have n3_ : Aside0 (w35.heap[gb194]? = some (.cells #[.slice (some ad198) l0_0.length c0_0,.int .i64 a0_1,.int .i64 a0_2,.slice A0_3 l0_3.length c0_3,.slice A0_4 l0_4.length c0_4,.slice A0_5 l0_5.length c0_5,.int .i64 a0_6] 67 (0,0))) := ⟨h3_⟩
         have n4_ : Aside0 (w35.heap[gb195]? = some (.cells #[.int .i64 0,.slice none 0 0,.slice none 0 0,.int .i64 0,.int .i64 0,.slice none 0 0,.slice none 0 0] 84 (0,0))) := ⟨h4_⟩
         have n5_ : Aside0 (Below w.heap.size w w35) := ⟨h5_⟩
         clear BK194
         clear BK195
         clear HB
         clear h0_ h1_ h2_ h3_ h4_ h5_
         revert n0_ n1_ n2_ n3_ n4_ n5_
         intro HO201 HO207 HO213 BK194 BK195 HB
         have hHeld : spec_SightOf.S_ gb194 ad198 l0_0 c0_0 a0_1 a0_2 A0_3 l0_3 c0_3 A0_4 l0_4 c0_4 A0_5 l0_5 c0_5 a0_6 a1 A198_0 c198_0 w35 := hS_
         obtain ⟨Ao36,co36,eo36⟩ := Kd.R_slice HO213.out
         (first | subst eo36 | (injection eo36 with f1_ f2_ f3_; have f4_ := f1_.symm; have f5_ := f3_.symm; clear f1_ f2_ f3_; subst f4_; subst f5_))
         obtain ⟨Ao37,co37,eo37⟩ := Kd.R_slice HO207.out
         (first | subst eo37 | (injection eo37 with f1_ f2_ f3_; have f4_ := f1_.symm; have f5_ := f3_.symm; clear f1_ f2_ f3_; subst f4_; subst f5_))
         obtain ⟨Ao38,co38,eo38⟩ := Kd.R_slice HO201.out
         (first | subst eo38 | (injection eo38 with f1_ f2_ f3_; have f4_ := f1_.symm; have f5_ := f3_.symm; clear f1_ f2_ f3_; subst f4_; subst f5_))
         refine QS (a' := ?_) ?_ ?_
         rotate_left
         ·simp only [putAll,Act.put,Qg,Qh,Qi]
          rfl
         refine one_ (i := 20) (N := some 6) (ab 22 2097151) rfl rfl (one_of HT_.out (by kernel_rfl)) (by decide) (fun K hK => ?_)
         refine box_step ?hg (N := 6) ?hd (cs := #[.int .i64 0,.slice none 0 0,.slice none 0 0,.int .i64 0,.int .i64 0,.slice none 0 0,.slice none 0 0]) (t := 84) ?hr ?_; (case hd => rfl); (case hg => rfl); (case hr => first | (go_simp; done) | (go_simp; rfl))
         intro gb214 hg w39 hbox hb
         have n0_ := Qj (Qe (by (with_reducible repeat (first | apply QH | apply QI | apply QJ)); exact HO201.out) hb)
         have n1_ := Qj (Qe (by (with_reducible repeat (first | apply QH | apply QI | apply QJ)); exact HO207.out) hb)
         have n2_ := Qj (Qe (by (with_reducible repeat (first | apply QH | apply QI | apply QJ)); exact HO213.out) hb)
         have n3_ := Qj (QM (g := gb194) (o := _) (by (with_reducible repeat (first | refine QE ?_ _ | refine QF ?_ | refine QD ?_ _)); exact BK194.out) hb)
         have n4_ := Qj (QM (g := gb195) (o := _) (by (with_reducible repeat (first | refine QE ?_ _ | refine QF ?_ | refine QD ?_ _)); exact BK195.out) hb)
         have n5_ := Qj (QT (by repeat (first | (with_reducible first | exact HB.out | apply QL | apply QG | apply QK | refine QB ?_ GE194.out | refine QB ?_ GE195.out) | exact HB.out)) hb)
         have n6_ := Qj (hbox)
         have n7_ := Qj ((by rw [hg]; exact (QN (by repeat (first | (with_reducible first | exact HB.out | apply QL | apply QG | apply QK | refine QB ?_ GE194.out | refine QB ?_ GE195.out) | exact HB.out))) : w.heap.size ≤ gb214))
         have n8_ := Qj ((by rw [hg]; exact (QN (by repeat (first | (with_reducible first | exact HB.out | apply QL | apply QG | apply QK | refine QB ?_ GE194.out | refine QB ?_ GE195.out) | exact HB.out))) : w.heap.size ≤ gb214))
         have n9_ := Qj ((by rw [hg]; exact Nat.ne_of_lt (Qd (g := gb194) (o := _) (by (with_reducible repeat (first | refine QE ?_ _ | refine QF ?_ | refine QD ?_ _)); exact BK194.out)) : gb194 ≠ gb214))
         have n10_ := Qj ((by rw [hg]; exact Nat.ne_of_gt (Qd (g := gb194) (o := _) (by (with_reducible repeat (first | refine QE ?_ _ | refine QF ?_ | refine QD ?_ _)); exact BK194.out)) : gb214 ≠ gb194))
         have n11_ := Qj ((by rw [hg]; exact Nat.ne_of_lt (Qd (g := gb195) (o := _) (by (with_reducible repeat (first | refine QE ?_ _ | refine QF ?_ | refine QD ?_ _)); exact BK195.out)) : gb195 ≠ gb214))
         have n12_ := Qj ((by rw [hg]; exact Nat.ne_of_gt (Qd (g := gb195) (o := _) (by (with_reducible repeat (first | refine QE ?_ _ | refine QF ?_ | refine QD ?_ _)); exact BK195.out)) : gb214 ≠ gb195))
         clear HO201
         clear HO207
         clear HO213
         clear BK194
         clear BK195
         clear HB
         revert n0_ n1_ n2_ n3_ n4_ n5_ n6_ n7_ n8_ n9_ n10_ n11_ n12_
         intro HO201 HO207 HO213 BK194 BK195 HB BK214 GW214 GE214 NB194_214 NB214_194 NB195_214 NB214_195
         clear hb hbox hg
         refine hK.out _ _ ⟨(QC BK194.out 0).trans rfl,(QC BK194.out 1).trans rfl,(QC BK194.out 2).trans rfl,(QC BK194.out 3).trans rfl,(QC BK194.out 4).trans rfl,(QC BK194.out 5).trans rfl,(QC BK194.out 6).trans rfl,((HB.out.cell (World.block_lt_of_cell? w _ hw198_0)).trans hw198_0)⟩ (fun hHeld => ?_)
         clear hK K
         refine QS (a' := ?_) ?_ ?_
         rotate_left
         ·show Act.put _ (some 6) _ = _
          simp only [Act.put,Qg,Qh,Qi,QW,QX]
          rfl
         exact QS (by first | (simp only [putAll,Act.put,Qg,Qh,Qi]; done) | (simp only [putAll,Act.put,Qg,Qh,Qi]; rfl)) (hJ6_7_10_15_18_20 (.slice Ao38 t199.length co38,v203,.slice Ao37 y205.length co37,v209,.slice Ao36 y211.length co36,gb214) _ ⟨hHeld,(by (with_reducible repeat (first | apply QH | apply QI | apply QJ)); exact HO201.out),(by (with_reducible repeat (first | apply QH | apply QI | apply QJ)); exact HO207.out),(by (with_reducible repeat (first | apply QH | apply QI | apply QJ)); exact HO213.out),(by (with_reducible repeat (first | refine QE ?_ _ | refine QF ?_ | refine QD ?_ _)); exact BK194.out),(by (with_reducible repeat (first | refine QE ?_ _ | refine QF ?_ | refine QD ?_ _)); exact BK195.out),(by (with_reducible repeat (first | refine QE ?_ _ | refine QF ?_ | refine QD ?_ _)); exact BK214.out),GW214.out,GE214.out,NB194_214.out,NB214_194.out,NB195_214.out,NB214_195.out,(by repeat (first | (with_reducible first | exact HB.out | apply QL | apply QG | apply QK | refine QB ?_ GE194.out | refine QB ?_ GE195.out | refine QB ?_ GE214.out) | exact HB.out))⟩)
        ·rintro ⟨v200,v203,v206,v209,v212,gb214⟩ w36 ⟨hS_,h0_,h1_,h2_,h3_,h4_,h5_,h6_,h7_,h8_,h9_,h10_,h11_,h12_⟩
         have n0_ : Aside0 (Kd.R (Kd.int .i64) 3 w36 w.heap.size (fun k_ => some k_ ≠ (v206 : Value).ownBlock ∧ some k_ ≠ (v212 : Value).ownBlock) v200 t199) := ⟨h0_⟩
         have n1_ : Aside0 (Kd.R (Kd.int .i64) 3 w36 w.heap.size (fun k_ => some k_ ≠ (v200 : Value).ownBlock ∧ some k_ ≠ (v212 : Value).ownBlock) v206 y205) := ⟨h1_⟩
         have n2_ : Aside0 (Kd.R (Kd.int .i64) 3 w36 w.heap.size (fun k_ => some k_ ≠ (v200 : Value).ownBlock ∧ some k_ ≠ (v206 : Value).ownBlock) v212 y211) := ⟨h2_⟩
         have n3_ : Aside0 (w36.heap[gb194]? = some (.cells #[.slice (some ad198) l0_0.length c0_0,.int .i64 a0_1,.int .i64 a0_2,.slice A0_3 l0_3.length c0_3,.slice A0_4 l0_4.length c0_4,.slice A0_5 l0_5.length c0_5,.int .i64 a0_6] 67 (0,0))) := ⟨h3_⟩
         have n4_ : Aside0 (w36.heap[gb195]? = some (.cells #[.int .i64 0,.slice none 0 0,.slice none 0 0,.int .i64 0,.int .i64 0,.slice none 0 0,.slice none 0 0] 84 (0,0))) := ⟨h4_⟩
         have n5_ : Aside0 (w36.heap[gb214]? = some (.cells #[.int .i64 0,.slice none 0 0,.slice none 0 0,.int .i64 0,.int .i64 0,.slice none 0 0,.slice none 0 0] 84 (0,0))) := ⟨h5_⟩
         have n6_ : Aside0 (w.heap.size ≤ gb214) := ⟨h6_⟩
         have n7_ : Aside0 (w.heap.size ≤ gb214) := ⟨h7_⟩
         have n8_ : Aside0 (gb194 ≠ gb214) := ⟨h8_⟩
         have n9_ : Aside0 (gb214 ≠ gb194) := ⟨h9_⟩
         have n10_ : Aside0 (gb195 ≠ gb214) := ⟨h10_⟩
         have n11_ : Aside0 (gb214 ≠ gb195) := ⟨h11_⟩
         have n12_ : Aside0 (Below w.heap.size w w36) := ⟨h12_⟩
         clear BK194
         clear BK195
         clear HB
         clear h0_ h1_ h2_ h3_ h4_ h5_ h6_ h7_ h8_ h9_ h10_ h11_ h12_
         revert n0_ n1_ n2_ n3_ n4_ n5_ n6_ n7_ n8_ n9_ n10_ n11_ n12_
         intro HO201 HO207 HO213 BK194 BK195 BK214 GW214 GE214 NB194_214 NB214_194 NB195_214 NB214_195 HB
         have hHeld : spec_SightOf.S_ gb194 ad198 l0_0 c0_0 a0_1 a0_2 A0_3 l0_3 c0_3 A0_4 l0_4 c0_4 A0_5 l0_5 c0_5 a0_6 a1 A198_0 c198_0 w36 := hS_
         obtain ⟨Ao37,co37,eo37⟩ := Kd.R_slice HO213.out
         (first | subst eo37 | (injection eo37 with f1_ f2_ f3_; have f4_ := f1_.symm; have f5_ := f3_.symm; clear f1_ f2_ f3_; subst f4_; subst f5_))
         obtain ⟨Ao38,co38,eo38⟩ := Kd.R_slice HO207.out
         (first | subst eo38 | (injection eo38 with f1_ f2_ f3_; have f4_ := f1_.symm; have f5_ := f3_.symm; clear f1_ f2_ f3_; subst f4_; subst f5_))
         obtain ⟨Ao39,co39,eo39⟩ := Kd.R_slice HO201.out
         (first | subst eo39 | (injection eo39 with f1_ f2_ f3_; have f4_ := f1_.symm; have f5_ := f3_.symm; clear f1_ f2_ f3_; subst f4_; subst f5_))
         refine QS (a' := ?_) ?_ ?_
         rotate_left
         ·simp only [putAll,Act.put,Qg,Qh,Qi]
          rfl
         refine one_ (i := 21) (N := none) (ab 22 4194303) rfl rfl (one_of HT_.out (by kernel_rfl)) (by decide) (fun K hK => ?_)
         have hs40 : w36.cell? ⟨gb214,0,none⟩ = some (.int .i64 0) := (QC BK214.out 0).trans rfl
         have hfs40 := QP BK214.out 0
         have hns40_0 := NB194_214.out
         have hns40_1 := NB195_214.out
         have hms40_0 := NB214_194.out
         have hms40_1 := NB214_195.out
         have hs41 : w36.cell? ⟨gb214,1,none⟩ = some (.slice none 0 0) := (QC BK214.out 1).trans rfl
         have hfs41 := QP BK214.out 1
         have hns41_0 := NB194_214.out
         have hns41_1 := NB195_214.out
         have hms41_0 := NB214_194.out
         have hms41_1 := NB214_195.out
         have hs42 : w36.cell? ⟨gb214,2,none⟩ = some (.slice none 0 0) := (QC BK214.out 2).trans rfl
         have hfs42 := QP BK214.out 2
         have hns42_0 := NB194_214.out
         have hns42_1 := NB195_214.out
         have hms42_0 := NB214_194.out
         have hms42_1 := NB214_195.out
         have hs43 : w36.cell? ⟨gb214,3,none⟩ = some (.int .i64 0) := (QC BK214.out 3).trans rfl
         have hfs43 := QP BK214.out 3
         have hns43_0 := NB194_214.out
         have hns43_1 := NB195_214.out
         have hms43_0 := NB214_194.out
         have hms43_1 := NB214_195.out
         have hs44 : w36.cell? ⟨gb214,4,none⟩ = some (.int .i64 0) := (QC BK214.out 4).trans rfl
         have hfs44 := QP BK214.out 4
         have hns44_0 := NB194_214.out
         have hns44_1 := NB195_214.out
         have hms44_0 := NB214_194.out
         have hms44_1 := NB214_195.out
         have hs45 : w36.cell? ⟨gb214,5,none⟩ = some (.slice none 0 0) := (QC BK214.out 5).trans rfl
         have hfs45 := QP BK214.out 5
         have hns45_0 := NB194_214.out
         have hns45_1 := NB195_214.out
         have hms45_0 := NB214_194.out
         have hms45_1 := NB214_195.out
         have hs46 : w36.cell? ⟨gb214,6,none⟩ = some (.slice none 0 0) := (QC BK214.out 6).trans rfl
         have hfs46 := QP BK214.out 6
         have hns46_0 := NB194_214.out
         have hns46_1 := NB195_214.out
         have hms46_0 := NB214_194.out
         have hms46_1 := NB214_195.out
         refine skip_ (w1 := ?_) (by rfl) rfl ?_ ?_
         rotate_left
         ·go_simp
          rfl
         refine hK.out _ _ ⟨((QR (p := ⟨gb214,_,none⟩) NB194_214.out _).trans (((QR (p := ⟨gb214,_,none⟩) NB194_214.out _).trans (((QR (p := ⟨gb214,_,none⟩) NB194_214.out _).trans (((QR (p := ⟨gb214,_,none⟩) NB194_214.out _).trans (((QR (p := ⟨gb214,_,none⟩) NB194_214.out _).trans (((QR (p := ⟨gb214,_,none⟩) NB194_214.out _).trans (((QR (p := ⟨gb214,_,none⟩) NB194_214.out _).trans (hHeld.1)))))))))))))),((QR (p := ⟨gb214,_,none⟩) NB194_214.out _).trans (((QR (p := ⟨gb214,_,none⟩) NB194_214.out _).trans (((QR (p := ⟨gb214,_,none⟩) NB194_214.out _).trans (((QR (p := ⟨gb214,_,none⟩) NB194_214.out _).trans (((QR (p := ⟨gb214,_,none⟩) NB194_214.out _).trans (((QR (p := ⟨gb214,_,none⟩) NB194_214.out _).trans (((QR (p := ⟨gb214,_,none⟩) NB194_214.out _).trans (hHeld.2.1)))))))))))))),((QR (p := ⟨gb214,_,none⟩) NB194_214.out _).trans (((QR (p := ⟨gb214,_,none⟩) NB194_214.out _).trans (((QR (p := ⟨gb214,_,none⟩) NB194_214.out _).trans (((QR (p := ⟨gb214,_,none⟩) NB194_214.out _).trans (((QR (p := ⟨gb214,_,none⟩) NB194_214.out _).trans (((QR (p := ⟨gb214,_,none⟩) NB194_214.out _).trans (((QR (p := ⟨gb214,_,none⟩) NB194_214.out _).trans (hHeld.2.2.1)))))))))))))),((QR (p := ⟨gb214,_,none⟩) NB194_214.out _).trans (((QR (p := ⟨gb214,_,none⟩) NB194_214.out _).trans (((QR (p := ⟨gb214,_,none⟩) NB194_214.out _).trans (((QR (p := ⟨gb214,_,none⟩) NB194_214.out _).trans (((QR (p := ⟨gb214,_,none⟩) NB194_214.out _).trans (((QR (p := ⟨gb214,_,none⟩) NB194_214.out _).trans (((QR (p := ⟨gb214,_,none⟩) NB194_214.out _).trans (hHeld.2.2.2.1)))))))))))))),((QR (p := ⟨gb214,_,none⟩) NB194_214.out _).trans (((QR (p := ⟨gb214,_,none⟩) NB194_214.out _).trans (((QR (p := ⟨gb214,_,none⟩) NB194_214.out _).trans (((QR (p := ⟨gb214,_,none⟩) NB194_214.out _).trans (((QR (p := ⟨gb214,_,none⟩) NB194_214.out _).trans (((QR (p := ⟨gb214,_,none⟩) NB194_214.out _).trans (((QR (p := ⟨gb214,_,none⟩) NB194_214.out _).trans (hHeld.2.2.2.2.1)))))))))))))),((QR (p := ⟨gb214,_,none⟩) NB194_214.out _).trans (((QR (p := ⟨gb214,_,none⟩) NB194_214.out _).trans (((QR (p := ⟨gb214,_,none⟩) NB194_214.out _).trans (((QR (p := ⟨gb214,_,none⟩) NB194_214.out _).trans (((QR (p := ⟨gb214,_,none⟩) NB194_214.out _).trans (((QR (p := ⟨gb214,_,none⟩) NB194_214.out _).trans (((QR (p := ⟨gb214,_,none⟩) NB194_214.out _).trans (hHeld.2.2.2.2.2.1)))))))))))))),((QR (p := ⟨gb214,_,none⟩) NB194_214.out _).trans (((QR (p := ⟨gb214,_,none⟩) NB194_214.out _).trans (((QR (p := ⟨gb214,_,none⟩) NB194_214.out _).trans (((QR (p := ⟨gb214,_,none⟩) NB194_214.out _).trans (((QR (p := ⟨gb214,_,none⟩) NB194_214.out _).trans (((QR (p := ⟨gb214,_,none⟩) NB194_214.out _).trans (((QR (p := ⟨gb214,_,none⟩) NB194_214.out _).trans (hHeld.2.2.2.2.2.2.1)))))))))))))),((QR (p := ⟨gb214,_,none⟩) (by first | exact Nat.ne_of_lt (Nat.lt_of_lt_of_le (by have := World.block_lt_of_cell? _ _ hw198_0; first | rwa [QU] at this | exact this) GW214.out) | (rw [QU]; exact Nat.ne_of_lt (Nat.lt_of_lt_of_le (by have := World.block_lt_of_cell? _ _ hw198_0; first | rwa [QU] at this | exact this) GW214.out)) | (show (Addr.add _ _).block ≠ _; rw [QU]; exact Nat.ne_of_lt (Nat.lt_of_lt_of_le (by have := World.block_lt_of_cell? _ _ hw198_0; first | rwa [QU] at this | exact this) GW214.out)) | (dsimp only; exact Nat.ne_of_lt (Nat.lt_of_lt_of_le (by have := World.block_lt_of_cell? _ _ hw198_0; first | rwa [QU] at this | exact this) GW214.out))) _).trans (((QR (p := ⟨gb214,_,none⟩) (by first | exact Nat.ne_of_lt (Nat.lt_of_lt_of_le (by have := World.block_lt_of_cell? _ _ hw198_0; first | rwa [QU] at this | exact this) GW214.out) | (rw [QU]; exact Nat.ne_of_lt (Nat.lt_of_lt_of_le (by have := World.block_lt_of_cell? _ _ hw198_0; first | rwa [QU] at this | exact this) GW214.out)) | (show (Addr.add _ _).block ≠ _; rw [QU]; exact Nat.ne_of_lt (Nat.lt_of_lt_of_le (by have := World.block_lt_of_cell? _ _ hw198_0; first | rwa [QU] at this | exact this) GW214.out)) | (dsimp only; exact Nat.ne_of_lt (Nat.lt_of_lt_of_le (by have := World.block_lt_of_cell? _ _ hw198_0; first | rwa [QU] at this | exact this) GW214.out))) _).trans (((QR (p := ⟨gb214,_,none⟩) (by first | exact Nat.ne_of_lt (Nat.lt_of_lt_of_le (by have := World.block_lt_of_cell? _ _ hw198_0; first | rwa [QU] at this | exact this) GW214.out) | (rw [QU]; exact Nat.ne_of_lt (Nat.lt_of_lt_of_le (by have := World.block_lt_of_cell? _ _ hw198_0; first | rwa [QU] at this | exact this) GW214.out)) | (show (Addr.add _ _).block ≠ _; rw [QU]; exact Nat.ne_of_lt (Nat.lt_of_lt_of_le (by have := World.block_lt_of_cell? _ _ hw198_0; first | rwa [QU] at this | exact this) GW214.out)) | (dsimp only; exact Nat.ne_of_lt (Nat.lt_of_lt_of_le (by have := World.block_lt_of_cell? _ _ hw198_0; first | rwa [QU] at this | exact this) GW214.out))) _).trans (((QR (p := ⟨gb214,_,none⟩) (by first | exact Nat.ne_of_lt (Nat.lt_of_lt_of_le (by have := World.block_lt_of_cell? _ _ hw198_0; first | rwa [QU] at this | exact this) GW214.out) | (rw [QU]; exact Nat.ne_of_lt (Nat.lt_of_lt_of_le (by have := World.block_lt_of_cell? _ _ hw198_0; first | rwa [QU] at this | exact this) GW214.out)) | (show (Addr.add _ _).block ≠ _; rw [QU]; exact Nat.ne_of_lt (Nat.lt_of_lt_of_le (by have := World.block_lt_of_cell? _ _ hw198_0; first | rwa [QU] at this | exact this) GW214.out)) | (dsimp only; exact Nat.ne_of_lt (Nat.lt_of_lt_of_le (by have := World.block_lt_of_cell? _ _ hw198_0; first | rwa [QU] at this | exact this) GW214.out))) _).trans (((QR (p := ⟨gb214,_,none⟩) (by first | exact Nat.ne_of_lt (Nat.lt_of_lt_of_le (by have := World.block_lt_of_cell? _ _ hw198_0; first | rwa [QU] at this | exact this) GW214.out) | (rw [QU]; exact Nat.ne_of_lt (Nat.lt_of_lt_of_le (by have := World.block_lt_of_cell? _ _ hw198_0; first | rwa [QU] at this | exact this) GW214.out)) | (show (Addr.add _ _).block ≠ _; rw [QU]; exact Nat.ne_of_lt (Nat.lt_of_lt_of_le (by have := World.block_lt_of_cell? _ _ hw198_0; first | rwa [QU] at this | exact this) GW214.out)) | (dsimp only; exact Nat.ne_of_lt (Nat.lt_of_lt_of_le (by have := World.block_lt_of_cell? _ _ hw198_0; first | rwa [QU] at this | exact this) GW214.out))) _).trans (((QR (p := ⟨gb214,_,none⟩) (by first | exact Nat.ne_of_lt (Nat.lt_of_lt_of_le (by have := World.block_lt_of_cell? _ _ hw198_0; first | rwa [QU] at this | exact this) GW214.out) | (rw [QU]; exact Nat.ne_of_lt (Nat.lt_of_lt_of_le (by have := World.block_lt_of_cell? _ _ hw198_0; first | rwa [QU] at this | exact this) GW214.out)) | (show (Addr.add _ _).block ≠ _; rw [QU]; exact Nat.ne_of_lt (Nat.lt_of_lt_of_le (by have := World.block_lt_of_cell? _ _ hw198_0; first | rwa [QU] at this | exact this) GW214.out)) | (dsimp only; exact Nat.ne_of_lt (Nat.lt_of_lt_of_le (by have := World.block_lt_of_cell? _ _ hw198_0; first | rwa [QU] at this | exact this) GW214.out))) _).trans (((QR (p := ⟨gb214,_,none⟩) (by first | exact Nat.ne_of_lt (Nat.lt_of_lt_of_le (by have := World.block_lt_of_cell? _ _ hw198_0; first | rwa [QU] at this | exact this) GW214.out) | (rw [QU]; exact Nat.ne_of_lt (Nat.lt_of_lt_of_le (by have := World.block_lt_of_cell? _ _ hw198_0; first | rwa [QU] at this | exact this) GW214.out)) | (show (Addr.add _ _).block ≠ _; rw [QU]; exact Nat.ne_of_lt (Nat.lt_of_lt_of_le (by have := World.block_lt_of_cell? _ _ hw198_0; first | rwa [QU] at this | exact this) GW214.out)) | (dsimp only; exact Nat.ne_of_lt (Nat.lt_of_lt_of_le (by have := World.block_lt_of_cell? _ _ hw198_0; first | rwa [QU] at this | exact this) GW214.out))) _).trans (hHeld.2.2.2.2.2.2.2))))))))))))))⟩ (fun hHeld => ?_)
         clear hK K
         refine done_ (done_of HT_.out (by kernel_rfl)) ?_
         try go_wp2
         go_loopg [7] kj2 (fun kq v7 w' => ∃ (x7_2 : Int) (x215005_2 : List Int) (u215005 : Value),v7 = .int .i64 x7_2 ∧ Aside0 (spec_SightOf.l0 kq x7_2 l0_0 a0_1 a0_2 l0_3 l0_4 l0_5 a0_6 a1 t199 y205 a0_1 a0_2 x215005_2 y211 = some (r1,r2,r3,r4,r5,r6,r7,r8)) ∧ Aside0 (kq ≤ kj2) ∧ Aside0 (Kd.R (Kd.int .i64) 3 w' w.heap.size (fun k_ => some k_ ≠ ((.slice Ao38 y205.length co38) : Value).ownBlock ∧ some k_ ≠ (u215005 : Value).ownBlock ∧ some k_ ≠ ((.slice Ao37 y211.length co37) : Value).ownBlock) (.slice Ao39 t199.length co39) t199) ∧ Aside0 (Kd.R (Kd.int .i64) 3 w' w.heap.size (fun k_ => some k_ ≠ ((.slice Ao39 t199.length co39) : Value).ownBlock ∧ some k_ ≠ (u215005 : Value).ownBlock ∧ some k_ ≠ ((.slice Ao37 y211.length co37) : Value).ownBlock) (.slice Ao38 y205.length co38) y205) ∧ Aside0 (Kd.R (Kd.int .i64) 3 w' w.heap.size (fun k_ => some k_ ≠ ((.slice Ao39 t199.length co39) : Value).ownBlock ∧ some k_ ≠ ((.slice Ao38 y205.length co38) : Value).ownBlock ∧ some k_ ≠ ((.slice Ao37 y211.length co37) : Value).ownBlock) u215005 x215005_2) ∧ Aside0 (Kd.R (Kd.int .i64) 3 w' w.heap.size (fun k_ => some k_ ≠ ((.slice Ao39 t199.length co39) : Value).ownBlock ∧ some k_ ≠ ((.slice Ao38 y205.length co38) : Value).ownBlock ∧ some k_ ≠ (u215005 : Value).ownBlock) (.slice Ao37 y211.length co37) y211) ∧ Aside0 (spec_SightOf.b1_ gb194 ad198 l0_0 c0_0 a0_1 a0_2 A0_3 l0_3 c0_3 A0_4 l0_4 c0_4 A0_5 l0_5 c0_5 a0_6 w') ∧ Aside0 (spec_SightOf.b3_ gb195 w') ∧ Aside0 (w'.heap[gb214]? = some (.cells #[.int .i64 a1,(.slice Ao39 t199.length co39),(.slice Ao38 y205.length co38),.int .i64 a0_1,.int .i64 a0_2,u215005,(.slice Ao37 y211.length co37)] 84 (0,0))) ∧ Aside0 (Below w.heap.size w w'))
         case atStart => exact ⟨(0),(([] : List Int)),(.slice none 0 0),(by first | rfl | (simp; done) | (simp [*]; done)),H',⟨Nat.le_refl _⟩,⟨by (with_reducible repeat (first | apply QH | apply QI | apply QJ)); exact QO (Qf (Qf (Qf (Qf (Qf (Qf (Qf (Kd.R_types HO201.out BK214.out (by decide))))))))) (fun _ hk => ⟨hk.1.1,⟨(by simp [Value.ownBlock]),hk.1.2⟩⟩)⟩,⟨by (with_reducible repeat (first | apply QH | apply QI | apply QJ)); exact QO (Qf (Qf (Qf (Qf (Qf (Qf (Qf (Kd.R_types HO207.out BK214.out (by decide))))))))) (fun _ hk => ⟨hk.1.1,⟨(by simp [Value.ownBlock]),hk.1.2⟩⟩)⟩,⟨by first | exact Kd.R_nil _ _ _ _ _ | exact Kd.N_nil _ _ _ _ _ | exact Kd.V_nil _ _ _ _ _ | exact Kd.Q_nil _ _ _ _ _ | exact Kd.S_nil _ _ _ _ _⟩,⟨by (with_reducible repeat (first | apply QH | apply QI | apply QJ)); exact QO (Qf (Qf (Qf (Qf (Qf (Qf (Qf (Kd.R_types HO213.out BK214.out (by decide))))))))) (fun _ hk => ⟨hk.1.1,⟨hk.1.2,(by simp [Value.ownBlock])⟩⟩)⟩,⟨by (with_reducible repeat (first | refine QE ?_ _ | refine QF ?_ | refine QD ?_ _)); refine blk_far ?_ NB194_214.out _; (with_reducible repeat (first | refine QE ?_ _ | refine QF ?_ | refine QD ?_ _)); refine blk_far ?_ NB194_214.out _; (with_reducible repeat (first | refine QE ?_ _ | refine QF ?_ | refine QD ?_ _)); refine blk_far ?_ NB194_214.out _; (with_reducible repeat (first | refine QE ?_ _ | refine QF ?_ | refine QD ?_ _)); refine blk_far ?_ NB194_214.out _; (with_reducible repeat (first | refine QE ?_ _ | refine QF ?_ | refine QD ?_ _)); refine blk_far ?_ NB194_214.out _; (with_reducible repeat (first | refine QE ?_ _ | refine QF ?_ | refine QD ?_ _)); refine blk_far ?_ NB194_214.out _; (with_reducible repeat (first | refine QE ?_ _ | refine QF ?_ | refine QD ?_ _)); refine blk_far ?_ NB194_214.out _; (with_reducible repeat (first | refine QE ?_ _ | refine QF ?_ | refine QD ?_ _)); exact BK194.out⟩,⟨by (with_reducible repeat (first | refine QE ?_ _ | refine QF ?_ | refine QD ?_ _)); refine blk_far ?_ NB195_214.out _; (with_reducible repeat (first | refine QE ?_ _ | refine QF ?_ | refine QD ?_ _)); refine blk_far ?_ NB195_214.out _; (with_reducible repeat (first | refine QE ?_ _ | refine QF ?_ | refine QD ?_ _)); refine blk_far ?_ NB195_214.out _; (with_reducible repeat (first | refine QE ?_ _ | refine QF ?_ | refine QD ?_ _)); refine blk_far ?_ NB195_214.out _; (with_reducible repeat (first | refine QE ?_ _ | refine QF ?_ | refine QD ?_ _)); refine blk_far ?_ NB195_214.out _; (with_reducible repeat (first | refine QE ?_ _ | refine QF ?_ | refine QD ?_ _)); refine blk_far ?_ NB195_214.out _; (with_reducible repeat (first | refine QE ?_ _ | refine QF ?_ | refine QD ?_ _)); refine blk_far ?_ NB195_214.out _; (with_reducible repeat (first | refine QE ?_ _ | refine QF ?_ | refine QD ?_ _)); exact BK195.out⟩,⟨by (with_reducible repeat (first | refine QE ?_ _ | refine QF ?_ | refine QD ?_ _)); refine blk_put (cs := #[.int .i64 a1,.slice Ao39 t199.length co39,.slice Ao38 y205.length co38,.int .i64 a0_1,.int .i64 a0_2,.slice none 0 0,.slice none 0 0]) ?_ 6 _ rfl; (with_reducible repeat (first | refine QE ?_ _ | refine QF ?_ | refine QD ?_ _)); refine blk_put (cs := #[.int .i64 a1,.slice Ao39 t199.length co39,.slice Ao38 y205.length co38,.int .i64 a0_1,.int .i64 a0_2,.slice none 0 0,.slice none 0 0]) ?_ 5 _ rfl; (with_reducible repeat (first | refine QE ?_ _ | refine QF ?_ | refine QD ?_ _)); refine blk_put (cs := #[.int .i64 a1,.slice Ao39 t199.length co39,.slice Ao38 y205.length co38,.int .i64 a0_1,.int .i64 0,.slice none 0 0,.slice none 0 0]) ?_ 4 _ rfl; (with_reducible repeat (first | refine QE ?_ _ | refine QF ?_ | refine QD ?_ _)); refine blk_put (cs := #[.int .i64 a1,.slice Ao39 t199.length co39,.slice Ao38 y205.length co38,.int .i64 0,.int .i64 0,.slice none 0 0,.slice none 0 0]) ?_ 3 _ rfl; (with_reducible repeat (first | refine QE ?_ _ | refine QF ?_ | refine QD ?_ _)); refine blk_put (cs := #[.int .i64 a1,.slice Ao39 t199.length co39,.slice none 0 0,.int .i64 0,.int .i64 0,.slice none 0 0,.slice none 0 0]) ?_ 2 _ rfl; (with_reducible repeat (first | refine QE ?_ _ | refine QF ?_ | refine QD ?_ _)); refine blk_put (cs := #[.int .i64 a1,.slice none 0 0,.slice none 0 0,.int .i64 0,.int .i64 0,.slice none 0 0,.slice none 0 0]) ?_ 1 _ rfl; (with_reducible repeat (first | refine QE ?_ _ | refine QF ?_ | refine QD ?_ _)); refine blk_put (cs := #[.int .i64 0,.slice none 0 0,.slice none 0 0,.int .i64 0,.int .i64 0,.slice none 0 0,.slice none 0 0]) ?_ 0 _ rfl; (with_reducible repeat (first | refine QE ?_ _ | refine QF ?_ | refine QD ?_ _)); exact BK214.out⟩,⟨by repeat (first | (with_reducible first | exact HB.out | apply QL | apply QG | apply QK | refine QB ?_ GE194.out | refine QB ?_ GE195.out | refine QB ?_ GE214.out) | exact HB.out)⟩⟩
         case round =>
          clear H'
          try clear c1
          try clear c2
          try clear p2
          try clear c19
          try clear c22
          try clear c23
          obtain ⟨x7_2,x215005_2,u215005,rfl,HA,HK2,HO_215001,HO_215002,HO_215005,HO_215006,BK194,BK195,BK214,HB⟩ := hrel
          cases gk with
          | zero => exact absurd HA.out (by simp [spec_SightOf.l0])
          | succ k2 =>
           have H := HA.out
           clear HA
           simp only [spec_SightOf.l0] at H
           have hnb50 := NB194_195.out
           have hnc50 := NB195_194.out
           have hnb51 := NB194_214.out
           have hnc51 := NB214_194.out
           have hcz52_0 : wr.cell? ⟨gb194,0,none⟩ = some (.slice (some ad198) l0_0.length c0_0) := (QC BK194.out 0).trans rfl
           have hcz52_1 : wr.cell? ⟨gb194,1,none⟩ = some (.int .i64 a0_1) := (QC BK194.out 1).trans rfl
           have hcz52_2 : wr.cell? ⟨gb194,2,none⟩ = some (.int .i64 a0_2) := (QC BK194.out 2).trans rfl
           have hcz52_3 : wr.cell? ⟨gb194,3,none⟩ = some (.slice A0_3 l0_3.length c0_3) := (QC BK194.out 3).trans rfl
           have hcz52_4 : wr.cell? ⟨gb194,4,none⟩ = some (.slice A0_4 l0_4.length c0_4) := (QC BK194.out 4).trans rfl
           have hcz52_5 : wr.cell? ⟨gb194,5,none⟩ = some (.slice A0_5 l0_5.length c0_5) := (QC BK194.out 5).trans rfl
           have hcz52_6 : wr.cell? ⟨gb194,6,none⟩ = some (.int .i64 a0_6) := (QC BK194.out 6).trans rfl
           have hfz52_0 := QP BK194.out 0
           have hfz52_1 := QP BK194.out 1
           have hfz52_2 := QP BK194.out 2
           have hfz52_3 := QP BK194.out 3
           have hfz52_4 := QP BK194.out 4
           have hfz52_5 := QP BK194.out 5
           have hfz52_6 := QP BK194.out 6
           by_cases c47 : x7_2 < (l0_0.length : Int)
           ·rw [if_pos c47] at H
            have c47b0 : decide (x7_2 < (l0_0.length : Int)) = true := decide_eq_true c47
            clear c47
            (try simp only [c47b0])
            by_cases c48 : 0 ≤ x7_2
            ·rw [if_pos c48] at H
             have c48b0 : decide (0 ≤ x7_2) = true := decide_eq_true c48
             clear c48
             by_cases c49 : x215005_2.length < 17592186044416
             ·rw [if_pos c49] at H
              have LMc49 := Qj c49
              clear c49
              obtain ⟨y216,hy216⟩ : ∃ y_ : List Int,y_ = (x215005_2 ++ [((rd_L1 l0_0 x7_2).length : Int)]) := ⟨_,rfl⟩
              replace H : (spec_SightOf.l0 k2 (wrap64 (x7_2 + 1)) l0_0 a0_1 a0_2 l0_3 l0_4 l0_5 a0_6 a1 t199 y205 a0_1 a0_2 y216 y211) = some (r1,r2,r3,r4,r5,r6,r7,r8) := by first | (rw [hy216]; with_reducible exact H) | (have H2_ := (Option.bind_some _ _).symm.trans H; rw [hy216]; with_reducible exact H2_) | (have H2_ := (Option.bind_some _ _).symm.trans H; with_reducible exact H2_) | with_reducible exact H | (rw [hy216]; exact H) | exact H
              have Ny216 := Qj hy216
              clear hy216
              have H' := Qj H
              clear H
              try go_wp2
              have n0_ := Qj (QJ HO_215001.out)
              have n1_ := Qj (QJ HO_215002.out)
              have n2_ := Qj (QJ HO_215005.out)
              have n3_ := Qj (QJ HO_215006.out)
              have n4_ := Qj (QF BK194.out)
              have n5_ := Qj (QF BK195.out)
              have n6_ := Qj (QF BK214.out)
              have n7_ := Qj (QK HB.out)
              clear HO_215001
              clear HO_215002
              clear HO_215005
              clear HO_215006
              clear BK194
              clear BK195
              clear BK214
              clear HB
              revert n0_ n1_ n2_ n3_ n4_ n5_ n6_ n7_
              intro HO_215001 HO_215002 HO_215005 HO_215006 BK194 BK195 BK214 HB
              have p215 : 0 ≤ (x7_2 : Int) := of_decide_eq_true (by first | (with_reducible assumption) | assumption)
              have q215 : x7_2 < (l0_0.length : Int) := of_decide_eq_true (by first | (with_reducible assumption) | assumption)
              obtain ⟨ad215,A215_0,c215_0,e215,hx215_0,hl215_0,hi215_0⟩ := at_L1 HR0_0.out x7_2 p215 q215
              have hw215_0 := hx215_0
              obtain rfl : ad198 = ad215 := (by injection e215)
              replace hx215_0 := (HB.out.cell (World.block_lt_of_cell? w _ hx215_0)).trans hx215_0
              have HR215_0 := Qj hi215_0
              have HC215_0 := Qj hl215_0
              clear hi215_0 hl215_0
              replace p215 := eq_true p215
              replace q215 := eq_true q215
              refine start_ (n := 12) (S := fun w' => w'.cell? ⟨gb214,0,none⟩ = some (.int .i64 a1) ∧ w'.cell? ⟨gb214,1,none⟩ = some (.slice Ao39 t199.length co39) ∧ w'.cell? ⟨gb214,2,none⟩ = some (.slice Ao38 y205.length co38) ∧ w'.cell? ⟨gb214,3,none⟩ = some (.int .i64 a0_1) ∧ w'.cell? ⟨gb214,4,none⟩ = some (.int .i64 a0_2) ∧ w'.cell? ⟨gb214,5,none⟩ = some (u215005) ∧ w'.cell? ⟨gb214,6,none⟩ = some (.slice Ao37 y211.length co37) ∧ w'.cell? ⟨gb194,0,none⟩ = some (.slice (some ad198) l0_0.length c0_0) ∧ w'.cell? ⟨gb194,1,none⟩ = some (.int .i64 a0_1) ∧ w'.cell? ⟨gb194,2,none⟩ = some (.int .i64 a0_2) ∧ w'.cell? ⟨gb194,3,none⟩ = some (.slice A0_3 l0_3.length c0_3) ∧ w'.cell? ⟨gb194,4,none⟩ = some (.slice A0_4 l0_4.length c0_4) ∧ w'.cell? ⟨gb194,5,none⟩ = some (.slice A0_5 l0_5.length c0_5) ∧ w'.cell? ⟨gb194,6,none⟩ = some (.int .i64 a0_6) ∧ w'.cell? (ad198.add (x7_2).toNat) = some (.slice A215_0 (rd_L1 l0_0 x7_2).length c215_0)) (ds := [11]) #[false,false,false,false,false,false,false,false,false,false,false,false] (by kernel_rfl) rfl rfl ⟨(QC BK214.out 0).trans rfl,(QC BK214.out 1).trans rfl,(QC BK214.out 2).trans rfl,(QC BK214.out 3).trans rfl,(QC BK214.out 4).trans rfl,(QC BK214.out 5).trans rfl,(QC BK214.out 6).trans rfl,(QC BK194.out 0).trans rfl,(QC BK194.out 1).trans rfl,(QC BK194.out 2).trans rfl,(QC BK194.out 3).trans rfl,(QC BK194.out 4).trans rfl,(QC BK194.out 5).trans rfl,(QC BK194.out 6).trans rfl,((HB.out.cell (World.block_lt_of_cell? w _ hw215_0)).trans hw215_0)⟩ (fun hHeld => ?_); refine with_tabW spec_SightOf.tab7 spec_SightOf.bits7 (fun HT_ HW_ => ?_)
              generalize wr.drew = w53 at HO_215001 HO_215002 HO_215005 HO_215006 BK194 BK195 BK214 HB HR215_0 hx215_0 hHeld ⊢
              refine pure_ (i := 0) (N := some 48) (v := ?_) (a' := ?_) #[true,false,false,false,false,false,false,false,false,false,false,false] rfl rfl (any_of HT_.out (by kernel_rfl)) (fun _ _ _ h => h) (Or.inl ⟨by rfl,?_⟩) ?_ ?_
              rotate_left
              ·intro w'
               go_simp
               with_reducible rfl
              rotate_left
              ·simp only [Act.put,Qg,Qh,Qi,QW,QX]
               rfl
              refine pure_ (i := 2) (N := some 50) (v := ?_) (a' := ?_) #[true,false,true,false,false,false,false,false,false,false,false,false] rfl rfl (any_of HT_.out (by kernel_rfl)) (fun _ _ _ h => h) (Or.inl ⟨by rfl,?_⟩) ?_ ?_
              rotate_left
              ·intro w'
               go_simp
               with_reducible rfl
              rotate_left
              ·simp only [Act.put,Qg,Qh,Qi,QW,QX]
               rfl
              refine pure_ (i := 4) (N := some 52) (v := ?_) (a' := ?_) #[true,false,true,false,true,false,false,false,false,false,false,false] rfl rfl (any_of HT_.out (by kernel_rfl)) (fun _ _ _ h => h) (Or.inl ⟨by rfl,?_⟩) ?_ ?_
              rotate_left
              ·intro w'
               go_simp
               with_reducible rfl
              rotate_left
              ·simp only [Act.put,Qg,Qh,Qi,QW,QX]
               rfl
              refine take_ (i := 1) (N := some 49) (v := ?_) (a' := ?_) #[true,true,true,false,true,false,false,false,false,false,false,false] rfl rfl (take_ofW HT_.out HW_.out (by kernel_rfl)) (fun _ _ _ h => h) (Or.inl ⟨by rfl,?_⟩) hHeld ?_ ?_
              rotate_left
              ·rintro w' ⟨s0,s1,s2,s3,s4,s5,s6,s7,s8,s9,s10,s11,s12,s13,s14⟩
               go_simp
               with_reducible rfl
              rotate_left
              ·simp only [Act.put,Qg,Qh,Qi,QW,QX]
               rfl
              refine take_ (i := 3) (N := some 51) (v := ?_) (a' := ?_) #[true,true,true,true,true,false,false,false,false,false,false,false] rfl rfl (take_ofW HT_.out HW_.out (by kernel_rfl)) (fun _ _ _ h => h) (Or.inl ⟨by rfl,?_⟩) hHeld ?_ ?_
              rotate_left
              ·rintro w' ⟨s0,s1,s2,s3,s4,s5,s6,s7,s8,s9,s10,s11,s12,s13,s14⟩
               go_simp
               with_reducible rfl
              rotate_left
              ·simp only [Act.put,Qg,Qh,Qi,QW,QX]
               rfl
              refine pure_ (i := 5) (N := some 53) (v := ?_) (a' := ?_) #[true,true,true,true,true,true,false,false,false,false,false,false] rfl rfl (any_of HT_.out (by kernel_rfl)) (fun _ _ _ h => h) (Or.inl ⟨by rfl,?_⟩) ?_ ?_
              rotate_left
              ·intro w'
               go_simp
               with_reducible rfl
              rotate_left
              ·simp only [Act.put,Qg,Qh,Qi,QW,QX]
               rfl
              refine take_ (i := 6) (N := some 54) (v := ?_) (a' := ?_) #[true,true,true,true,true,true,true,false,false,false,false,false] rfl rfl (take_ofW HT_.out HW_.out (by kernel_rfl)) (fun _ _ _ h => h) (Or.inl ⟨by rfl,?_⟩) hHeld ?_ ?_
              rotate_left
              ·rintro w' ⟨s0,s1,s2,s3,s4,s5,s6,s7,s8,s9,s10,s11,s12,s13,s14⟩
               go_simp
               with_reducible rfl
              rotate_left
              ·simp only [Act.put,Qg,Qh,Qi,QW,QX]
               rfl
              refine pure_ (i := 7) (N := some 55) (v := ?_) (a' := ?_) #[true,true,true,true,true,true,true,true,false,false,false,false] rfl rfl (any_of HT_.out (by kernel_rfl)) (fun _ _ _ h => h) (Or.inl ⟨by rfl,?_⟩) ?_ ?_
              rotate_left
              ·intro w'
               go_simp
               with_reducible rfl
              rotate_left
              ·simp only [Act.put,Qg,Qh,Qi,QW,QX]
               rfl
              refine one_ (i := 8) (N := some 56) #[true,true,true,true,true,true,true,true,true,false,false,false] rfl rfl (one_of HT_.out (by kernel_rfl)) (by decide) (fun K hK => ?_)
              refine value_ (w1 := ?_) (v := ?_) (by rfl) rfl ?_ ?_
              rotate_left 2
              ·go_simp
               constructor
               ·rfl
               ·rfl
              refine hK.out _ _ ⟨(QC (QD BK214.out _) 0).trans rfl,(QC (QD BK214.out _) 1).trans rfl,(QC (QD BK214.out _) 2).trans rfl,(QC (QD BK214.out _) 3).trans rfl,(QC (QD BK214.out _) 4).trans rfl,(QC (QD BK214.out _) 5).trans rfl,(QC (QD BK214.out _) 6).trans rfl,(QC (QD BK194.out _) 0).trans rfl,(QC (QD BK194.out _) 1).trans rfl,(QC (QD BK194.out _) 2).trans rfl,(QC (QD BK194.out _) 3).trans rfl,(QC (QD BK194.out _) 4).trans rfl,(QC (QD BK194.out _) 5).trans rfl,(QC (QD BK194.out _) 6).trans rfl,(World.cell?_alloc_lt _ _ _ (World.block_lt_of_cell? _ _ (((HB.out.cell (World.block_lt_of_cell? w _ hw215_0)).trans hw215_0)))).trans (((HB.out.cell (World.block_lt_of_cell? w _ hw215_0)).trans hw215_0))⟩ (fun hHeld => ?_)
              clear hK K
              refine QS (a' := ?_) ?_ ?_
              rotate_left
              ·show Act.put _ (some 56) _ = _
               simp only [Act.put,Qg,Qh,Qi,QW,QX]
               rfl
              refine one_ (i := 9) (N := some 57) #[true,true,true,true,true,true,true,true,true,true,false,false] rfl rfl (one_of HT_.out (by kernel_rfl)) (by decide) (fun K hK => ?_)
              refine Kd.R_append_step (Kd.int .i64) (w0 := w) w.heap.size (by rfl) (.tmp 49) (.tmp 56) 24 3 (.int .i64 0) 8 rfl Try.underlying24 info3 rfl (by decide) (by omega) u215005 x215005_2 ((rd_L1 l0_0 x7_2).length : Int) [.int .i64 ((rd_L1 l0_0 x7_2).length : Int)] (fun k_ => some k_ ≠ (.slice Ao39 t199.length co39 : Value).ownBlock ∧ some k_ ≠ (.slice Ao38 y205.length co38 : Value).ownBlock ∧ some k_ ≠ (.slice Ao37 y211.length co37 : Value).ownBlock) (fun _ => False) rfl rfl ?aP (fun _ hk => hk.elim) ?aF ?aO ?aB ?aS ?aL ?_
              (case aP => exact rfl)
              (case aB => exact (by repeat (first | (with_reducible first | exact HB.out | apply QL | apply QG | apply QK | refine QB ?_ GE194.out | refine QB ?_ GE195.out | refine QB ?_ GE214.out) | exact HB.out)))
              (case aF => exact (fun k_ hk => ⟨Kd.fresh' (QZ (by (with_reducible repeat (first | apply QH | apply QI | apply QJ)); exact HO_215001.out)) k_ hk,Kd.fresh' (QZ (by (with_reducible repeat (first | apply QH | apply QI | apply QJ)); exact HO_215002.out)) k_ hk,Kd.fresh' (QZ (by (with_reducible repeat (first | apply QH | apply QI | apply QJ)); exact HO_215006.out)) k_ hk⟩))
              (case aO => exact (by (with_reducible repeat (first | apply QH | apply QI | apply QJ)); exact HO_215005.out))
              (case aS => exact (QN (by repeat (first | (with_reducible first | exact HB.out | apply QL | apply QG | apply QK | refine QB ?_ GE194.out | refine QB ?_ GE195.out | refine QB ?_ GE214.out) | exact HB.out))))
              (case aL => have := LMc49.out; omega)
              intro v217 w54 ho hb hg hat
              rw [← Ny216.out] at ho
              have n0_ := Qj (Kd.R_after (ok := (fun k_ => some k_ ≠ (.slice Ao38 y205.length co38 : Value).ownBlock ∧ some k_ ≠ (.slice Ao37 y211.length co37 : Value).ownBlock)) (by (with_reducible repeat (first | apply QH | apply QI | apply QJ)); exact QO HO_215001.out (fun _ hk => ⟨⟨hk.1,hk.2.2⟩,hk.2.1⟩)) hg hat)
              have n1_ := Qj (Kd.R_after (ok := (fun k_ => some k_ ≠ (.slice Ao39 t199.length co39 : Value).ownBlock ∧ some k_ ≠ (.slice Ao37 y211.length co37 : Value).ownBlock)) (by (with_reducible repeat (first | apply QH | apply QI | apply QJ)); exact QO HO_215002.out (fun _ hk => ⟨⟨hk.1,hk.2.2⟩,hk.2.1⟩)) hg hat)
              have n2_ := Qj (Kd.R_after (ok := (fun k_ => some k_ ≠ (.slice Ao39 t199.length co39 : Value).ownBlock ∧ some k_ ≠ (.slice Ao38 y205.length co38 : Value).ownBlock)) (by (with_reducible repeat (first | apply QH | apply QI | apply QJ)); exact QO HO_215006.out (fun _ hk => ⟨⟨hk.1,hk.2.1⟩,hk.2.2⟩)) hg hat)
              have n3_ := Qj (blk_grown (g := gb194) (o := _) (by (with_reducible repeat (first | refine QE ?_ _ | refine QF ?_ | refine QD ?_ _)); exact BK194.out) hg (Kd.R_ne HO_215005.out BK194.out (by decide)))
              have n4_ := Qj (blk_grown (g := gb195) (o := _) (by (with_reducible repeat (first | refine QE ?_ _ | refine QF ?_ | refine QD ?_ _)); exact BK195.out) hg (Kd.R_ne HO_215005.out BK195.out (by decide)))
              have n5_ := Qj (blk_grown (g := gb214) (o := _) (by (with_reducible repeat (first | refine QE ?_ _ | refine QF ?_ | refine QD ?_ _)); exact BK214.out) hg (Kd.R_ne HO_215005.out BK214.out (by decide)))
              have n6_ := Qj (hb)
              have n7_ := Qj (ho)
              clear HO_215001
              clear HO_215002
              clear HO_215006
              clear BK194
              clear BK195
              clear BK214
              clear HB
              clear HO_215005
              revert n0_ n1_ n2_ n3_ n4_ n5_ n6_ n7_
              intro HO_215001 HO_215002 HO_215006 BK194 BK195 BK214 HB HO218
              clear ho hb hg hat
              obtain ⟨Ao55,co55,eo55⟩ := Kd.R_slice HO218.out
              (first | subst eo55 | (injection eo55 with f1_ f2_ f3_; have f4_ := f1_.symm; have f5_ := f3_.symm; clear f1_ f2_ f3_; subst f4_; subst f5_))
              refine hK.out _ _ ⟨(QC BK214.out 0).trans rfl,(QC BK214.out 1).trans rfl,(QC BK214.out 2).trans rfl,(QC BK214.out 3).trans rfl,(QC BK214.out 4).trans rfl,(QC BK214.out 5).trans rfl,(QC BK214.out 6).trans rfl,(QC BK194.out 0).trans rfl,(QC BK194.out 1).trans rfl,(QC BK194.out 2).trans rfl,(QC BK194.out 3).trans rfl,(QC BK194.out 4).trans rfl,(QC BK194.out 5).trans rfl,(QC BK194.out 6).trans rfl,((HB.out.cell (World.block_lt_of_cell? w _ hw215_0)).trans hw215_0)⟩ (fun hHeld => ?_)
              clear hK K
              refine QS (a' := ?_) ?_ ?_
              rotate_left
              ·show Act.put _ (some 57) _ = _
               simp only [Act.put,Qg,Qh,Qi,QW,QX]
               rfl
              refine pure_ (i := 10) (N := some 58) (v := ?_) (a' := ?_) #[true,true,true,true,true,true,true,true,true,true,true,false] rfl rfl (any_of HT_.out (by kernel_rfl)) (fun _ _ _ h => h) (Or.inl ⟨by rfl,?_⟩) ?_ ?_
              rotate_left
              ·intro w'
               go_simp
               with_reducible rfl
              rotate_left
              ·simp only [Act.put,Qg,Qh,Qi,QW,QX]
               rfl
              refine last_ (i := 11) (N := none) #[true,true,true,true,true,true,true,true,true,true,true,true] rfl rfl (one_of HT_.out (by kernel_rfl)) (by decide) (fun K hK => ?_)
              have hs56 : w54.cell? ⟨gb214,5,none⟩ = some (u215005) := (QC BK214.out 5).trans rfl
              have hfs56 := QP BK214.out 5
              have hns56_0 := NB194_214.out
              have hns56_1 := NB195_214.out
              have hms56_0 := NB214_194.out
              have hms56_1 := NB214_195.out
              refine skip_ (w1 := ?_) (by rfl) rfl ?_ ?_
              rotate_left
              ·go_simp
               rfl
              refine hK.out _ _ ?_
              clear hK K
              refine done_ (done_of HT_.out (by kernel_rfl)) ?_
              try go_wp2
              go_roundg k2
              case measure => have := HJ2.out; have := HK2.out; omega
              case rel => exact ⟨(wrap64 (x7_2 + 1)),(y216),(.slice Ao55 y216.length co55),(by first | rfl | (simp; done) | (simp [*]; done)),H',⟨by have := HJ2.out; have := HK2.out; omega⟩,⟨by (with_reducible repeat (first | apply QH | apply QI | apply QJ)); exact QO (Qf (Kd.R_types HO_215001.out BK214.out (by decide))) (fun _ hk => ⟨hk.1.1.1,⟨hk.1.2,hk.1.1.2⟩⟩)⟩,⟨by (with_reducible repeat (first | apply QH | apply QI | apply QJ)); exact QO (Qf (Kd.R_types HO_215002.out BK214.out (by decide))) (fun _ hk => ⟨hk.1.1.1,⟨hk.1.2,hk.1.1.2⟩⟩)⟩,⟨by (with_reducible repeat (first | apply QH | apply QI | apply QJ)); exact QO (Qf (Kd.R_types HO218.out BK214.out (by decide))) (fun _ hk => ⟨hk.1.1,⟨hk.1.2.1,hk.1.2.2⟩⟩)⟩,⟨by (with_reducible repeat (first | apply QH | apply QI | apply QJ)); exact QO (Qf (Kd.R_types HO_215006.out BK214.out (by decide))) (fun _ hk => ⟨hk.1.1.1,⟨hk.1.1.2,hk.1.2⟩⟩)⟩,⟨by (with_reducible repeat (first | refine QE ?_ _ | refine QF ?_ | refine QD ?_ _)); refine blk_far ?_ NB194_214.out _; (with_reducible repeat (first | refine QE ?_ _ | refine QF ?_ | refine QD ?_ _)); exact BK194.out⟩,⟨by (with_reducible repeat (first | refine QE ?_ _ | refine QF ?_ | refine QD ?_ _)); refine blk_far ?_ NB195_214.out _; (with_reducible repeat (first | refine QE ?_ _ | refine QF ?_ | refine QD ?_ _)); exact BK195.out⟩,⟨by (with_reducible repeat (first | refine QE ?_ _ | refine QF ?_ | refine QD ?_ _)); refine blk_put (cs := #[.int .i64 a1,.slice Ao39 t199.length co39,.slice Ao38 y205.length co38,.int .i64 a0_1,.int .i64 a0_2,u215005,.slice Ao37 y211.length co37]) ?_ 5 _ rfl; (with_reducible repeat (first | refine QE ?_ _ | refine QF ?_ | refine QD ?_ _)); exact BK214.out⟩,⟨by repeat (first | (with_reducible first | exact HB.out | apply QL | apply QG | apply QK | refine QB ?_ GE194.out | refine QB ?_ GE195.out | refine QB ?_ GE214.out) | exact HB.out)⟩⟩
             ·rw [if_neg c49] at H
              exact absurd H (by simp)
            ·rw [if_neg c48] at H
             exact absurd H (by simp)
           ·rw [if_neg c47] at H
            have c47b0 : decide (x7_2 < (l0_0.length : Int)) = false := decide_eq_false c47
            clear c47
            simp only [Option.some.injEq,Prod.mk.injEq] at H
            obtain ⟨rfl,rfl,rfl,rfl,rfl,rfl,rfl,rfl⟩ := H
            (try simp only [c47b0])
            have hnb60 := NB214_195.out
            have hnc60 := NB195_214.out
            have hcz61_0 : wr.cell? ⟨gb214,0,none⟩ = some (.int .i64 a1) := (QC BK214.out 0).trans rfl
            have hcz61_1 : wr.cell? ⟨gb214,1,none⟩ = some (.slice Ao39 t199.length co39) := (QC BK214.out 1).trans rfl
            have hcz61_2 : wr.cell? ⟨gb214,2,none⟩ = some (.slice Ao38 y205.length co38) := (QC BK214.out 2).trans rfl
            have hcz61_3 : wr.cell? ⟨gb214,3,none⟩ = some (.int .i64 a0_1) := (QC BK214.out 3).trans rfl
            have hcz61_4 : wr.cell? ⟨gb214,4,none⟩ = some (.int .i64 a0_2) := (QC BK214.out 4).trans rfl
            have hcz61_5 : wr.cell? ⟨gb214,5,none⟩ = some (u215005) := (QC BK214.out 5).trans rfl
            have hcz61_6 : wr.cell? ⟨gb214,6,none⟩ = some (.slice Ao37 y211.length co37) := (QC BK214.out 6).trans rfl
            have hfz61_0 := QP BK214.out 0
            have hfz61_1 := QP BK214.out 1
            have hfz61_2 := QP BK214.out 2
            have hfz61_3 := QP BK214.out 3
            have hfz61_4 := QP BK214.out 4
            have hfz61_5 := QP BK214.out 5
            have hfz61_6 := QP BK214.out 6
            have hcz62_0 : wr.cell? ⟨gb195,0,none⟩ = some (.int .i64 0) := (QC BK195.out 0).trans rfl
            have hcz62_1 : wr.cell? ⟨gb195,1,none⟩ = some (.slice none 0 0) := (QC BK195.out 1).trans rfl
            have hcz62_2 : wr.cell? ⟨gb195,2,none⟩ = some (.slice none 0 0) := (QC BK195.out 2).trans rfl
            have hcz62_3 : wr.cell? ⟨gb195,3,none⟩ = some (.int .i64 0) := (QC BK195.out 3).trans rfl
            have hcz62_4 : wr.cell? ⟨gb195,4,none⟩ = some (.int .i64 0) := (QC BK195.out 4).trans rfl
            have hcz62_5 : wr.cell? ⟨gb195,5,none⟩ = some (.slice none 0 0) := (QC BK195.out 5).trans rfl
            have hcz62_6 : wr.cell? ⟨gb195,6,none⟩ = some (.slice none 0 0) := (QC BK195.out 6).trans rfl
            have hfz62_0 := QP BK195.out 0
            have hfz62_1 := QP BK195.out 1
            have hfz62_2 := QP BK195.out 2
            have hfz62_3 := QP BK195.out 3
            have hfz62_4 := QP BK195.out 4
            have hfz62_5 := QP BK195.out 5
            have hfz62_6 := QP BK195.out 6
            obtain ⟨Ao63,co63,eo63⟩ := Kd.R_slice HO_215005.out
            subst eo63
            go_wp2
            refine bodyPost_ret (results_ct rfl _ _ gb195 84 #[.int .i64 a1,.slice Ao39 t199.length co39,.slice Ao38 y205.length co38,.int .i64 a0_1,.int .i64 a0_2,.slice Ao63 x215005_2.length co63,.slice Ao37 y211.length co37] (0,0) _ rfl (by (with_reducible repeat (first | refine QE ?_ _ | refine QF ?_ | refine QD ?_ _)); refine blk_put (cs := #[.int .i64 a1,.slice Ao39 t199.length co39,.slice Ao38 y205.length co38,.int .i64 a0_1,.int .i64 a0_2,.slice Ao63 x215005_2.length co63,.slice none 0 0]) ?_ 6 _ rfl; (with_reducible repeat (first | refine QE ?_ _ | refine QF ?_ | refine QD ?_ _)); refine blk_put (cs := #[.int .i64 a1,.slice Ao39 t199.length co39,.slice Ao38 y205.length co38,.int .i64 a0_1,.int .i64 a0_2,.slice none 0 0,.slice none 0 0]) ?_ 5 _ rfl; (with_reducible repeat (first | refine QE ?_ _ | refine QF ?_ | refine QD ?_ _)); refine blk_put (cs := #[.int .i64 a1,.slice Ao39 t199.length co39,.slice Ao38 y205.length co38,.int .i64 a0_1,.int .i64 0,.slice none 0 0,.slice none 0 0]) ?_ 4 _ rfl; (with_reducible repeat (first | refine QE ?_ _ | refine QF ?_ | refine QD ?_ _)); refine blk_put (cs := #[.int .i64 a1,.slice Ao39 t199.length co39,.slice Ao38 y205.length co38,.int .i64 0,.int .i64 0,.slice none 0 0,.slice none 0 0]) ?_ 3 _ rfl; (with_reducible repeat (first | refine QE ?_ _ | refine QF ?_ | refine QD ?_ _)); refine blk_put (cs := #[.int .i64 a1,.slice Ao39 t199.length co39,.slice none 0 0,.int .i64 0,.int .i64 0,.slice none 0 0,.slice none 0 0]) ?_ 2 _ rfl; (with_reducible repeat (first | refine QE ?_ _ | refine QF ?_ | refine QD ?_ _)); refine blk_put (cs := #[.int .i64 a1,.slice none 0 0,.slice none 0 0,.int .i64 0,.int .i64 0,.slice none 0 0,.slice none 0 0]) ?_ 1 _ rfl; (with_reducible repeat (first | refine QE ?_ _ | refine QF ?_ | refine QD ?_ _)); refine blk_put (cs := #[.int .i64 0,.slice none 0 0,.slice none 0 0,.int .i64 0,.int .i64 0,.slice none 0 0,.slice none 0 0]) ?_ 0 _ rfl; (with_reducible repeat (first | refine QE ?_ _ | refine QF ?_ | refine QD ?_ _)); exact BK195.out) Try.underlying84 rfl (by kernel_rfl)) rfl ?_
            exact ⟨_,_,_,_,by first | rfl | (simp [errW_none,errW_some] <;> rfl) | (simp [*,errW_none,errW_some] <;> rfl),by (with_reducible repeat (first | apply QH | apply QI | apply QJ)); exact QO (Qf (Qf (Qf (Qf (Qf (Qf (Qf (Kd.R_types HO_215001.out BK195.out (by decide))))))))) (fun _ hk => ⟨hk.1.1,⟨hk.1.2.1,hk.1.2.2⟩⟩),by (with_reducible repeat (first | apply QH | apply QI | apply QJ)); exact QO (Qf (Qf (Qf (Qf (Qf (Qf (Qf (Kd.R_types HO_215002.out BK195.out (by decide))))))))) (fun _ hk => ⟨hk.1.1,⟨hk.1.2.1,hk.1.2.2⟩⟩),by (with_reducible repeat (first | apply QH | apply QI | apply QJ)); exact QO (Qf (Qf (Qf (Qf (Qf (Qf (Qf (Kd.R_types HO_215005.out BK195.out (by decide))))))))) (fun _ hk => ⟨hk.1.1,⟨hk.1.2.1,hk.1.2.2⟩⟩),by (with_reducible repeat (first | apply QH | apply QI | apply QJ)); exact QO (Qf (Qf (Qf (Qf (Qf (Qf (Qf (Kd.R_types HO_215006.out BK195.out (by decide))))))))) (fun _ hk => ⟨hk.1.1,⟨hk.1.2.1,hk.1.2.2⟩⟩),by repeat (first | (with_reducible first | exact HB.out | apply QL | apply QG | apply QK | refine QB ?_ GE194.out | refine QB ?_ GE195.out | refine QB ?_ GE214.out) | exact HB.out)⟩
       ·rw [if_neg c23] at H
        exact absurd H (by simp)
      ·rw [if_neg c22] at H
       exact absurd H (by simp)
     ·rw [if_neg c20] at H
      exact absurd H (by simp)
    ·rw [if_neg c19] at H
     exact absurd H (by simp)

end Go.Proofs.Ytkhgeockdjjhmaa.QFnExactSightOf
