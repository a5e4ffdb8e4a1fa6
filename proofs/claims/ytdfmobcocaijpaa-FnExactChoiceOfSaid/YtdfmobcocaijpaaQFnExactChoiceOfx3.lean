/- What a call of each Go function that FnExactChoiceOf reaches comes to, as a Lean function: texts of the kit's print, turned by wip/remake.py. No condition beyond what each names. -/
import Derived.Test.YtdfmobcocaijpaaQFnExactChoiceOfx2
namespace Go.Proofs.Ytdfmobcocaijpaa.QFnExactChoiceOf
open Go.RowKit Go.Proofs.YtdfmobcocaijpaaW.PrintWords Go.Proofs.YtdfmobcocaijpaaW.PrintLast Go.Proofs.YtdfmobcocaijpaaW.PrintMore
open Go.Proofs.YtdfmobcocaijpaaW.PrintWords renaming blk_frozen → QB, blk_cell → QC, pw_below_drewN → QD, below_drew1 → QE, below_alloc → QF, below_set → QG, blk_drewN → QH, blk_alloc → QI, blk_drew → QL, below_size → QS, below_step → QT, blk_below → QU
open Go.Proofs.YtdfmobcocaijpaaW.PrintWords.Kd renaming R_alloc → QJ, R_drewN → QK, R_drew → QM, C_below → QN, C_alloc → QO, C_drewN → QP, C_drew → QR
open Go.Proofs.YtdfmobcocaijpaaW.PrintWords.Aside0 renaming mk → QV
attribute [local go_sem] max2_int min2_int max_two min_two max_three min_three max_four min_four   -- for this text's walks alone
set_option linter.unusedVariables false
set_option linter.unusedSimpArgs false

/-! ### spec_Playable: function 12 -/
mutual
def spec_Playable.j0 : Nat → List Int → Bool → Int → Int → Bool → Bool → List Int → List Int → Int → Int → List (List Int) → List Int → List Int → Int → Int → Int → Option (List Int)
 | 0,_,_,_,_,_,_,_,_,_,_,_,_,_,_,_,_ => none
 | k + 1,x3,x13,x232000,x232001,x232002,x232003,x232004,x232005,x232006,x232007,x232008,x232009,x232010,x232011,x232012,x232013 => if x13 = true then (some x3) else (if 0 ≤ x232011 then (if x232011 < (x232008.length : Int) then ((spec_Sorted.f (rd_L1 x232008 x232011)).bind fun t238 => (spec_Playable.l0 k x3 t238 0 x232000 x232001 x232002 x232003 x232004 x232005 x232006 x232007 x232008 x232009 x232010 x232011 x232012 x232013)) else (none)) else (none))
def spec_Playable.l0 : Nat → List Int → List Int → Int → Int → Int → Bool → Bool → List Int → List Int → Int → Int → List (List Int) → List Int → List Int → Int → Int → Int → Option (List Int)
 | 0,_,_,_,_,_,_,_,_,_,_,_,_,_,_,_,_,_ => none
 | k + 1,x3,x4,x5,x232000,x232001,x232002,x232003,x232004,x232005,x232006,x232007,x232008,x232009,x232010,x232011,x232012,x232013 => if x5 < (x4.length : Int) then (if 0 ≤ (wrap64 ((x232010.length : Int) - 1)) then (if (wrap64 ((x232010.length : Int) - 1)) < (x232010.length : Int) then (if 0 ≤ x5 then ((spec_FitsOn.f k x232000 x232001 x232002 x232003 x232004 x232005 x232006 x232007 (rd x232010 (wrap64 ((x232010.length : Int) - 1))) (rd x4 x5)).bind fun t243 => (if t243 = true then (if x3.length < 17592186044416 then (spec_Playable.l0 k (x3 ++ [rd x4 x5]) x4 (wrap64 (x5 + 1)) x232000 x232001 x232002 x232003 x232004 x232005 x232006 x232007 x232008 x232009 x232010 x232011 x232012 x232013) else (none)) else (spec_Playable.l0 k x3 x4 (wrap64 (x5 + 1)) x232000 x232001 x232002 x232003 x232004 x232005 x232006 x232007 x232008 x232009 x232010 x232011 x232012 x232013))) else (none)) else (none)) else (none)) else (some x3)
end
def spec_Playable.f (k : Nat) (a0_0 : Int) (a0_1 : Int) (a0_2 : Bool) (a0_3 : Bool) (l0_4 : List Int) (l0_5 : List Int) (a0_6 : Int) (a0_7 : Int) (l0_8 : List (List Int)) (l0_9 : List Int) (l0_10 : List Int) (a0_11 : Int) (a0_12 : Int) (a0_13 : Int) : Option (List Int) := (some (([] : List Int) : List Int)).bind fun y232 => ((spec_IsGame.f k a0_0 a0_1 a0_2 a0_3 l0_4 l0_5 a0_6 a0_7 l0_8 l0_9 l0_10 a0_11 a0_12 a0_13).bind fun t235 => (if t235 = true then ((spec_l24Over.f k a0_0 a0_1 a0_2 a0_3 l0_4 l0_5 a0_6 a0_7 l0_8 l0_9 l0_10 a0_11 a0_12 a0_13).bind fun t236 => (spec_Playable.j0 k y232 t236 a0_0 a0_1 a0_2 a0_3 l0_4 l0_5 a0_6 a0_7 l0_8 l0_9 l0_10 a0_11 a0_12 a0_13)) else (spec_Playable.j0 k y232 true a0_0 a0_1 a0_2 a0_3 l0_4 l0_5 a0_6 a0_7 l0_8 l0_9 l0_10 a0_11 a0_12 a0_13)))
theorem spec_Playable.mono_l : ∀ k, (∀ y0 y1 y2 y3 y4 y5 y6 y7 y8 y9 y10 y11 y12 y13 y14 y15, LeO (spec_Playable.j0 k y0 y1 y2 y3 y4 y5 y6 y7 y8 y9 y10 y11 y12 y13 y14 y15) (spec_Playable.j0 (k + 1) y0 y1 y2 y3 y4 y5 y6 y7 y8 y9 y10 y11 y12 y13 y14 y15)) ∧ (∀ y0 y1 y2 y3 y4 y5 y6 y7 y8 y9 y10 y11 y12 y13 y14 y15 y16, LeO (spec_Playable.l0 k y0 y1 y2 y3 y4 y5 y6 y7 y8 y9 y10 y11 y12 y13 y14 y15 y16) (spec_Playable.l0 (k + 1) y0 y1 y2 y3 y4 y5 y6 y7 y8 y9 y10 y11 y12 y13 y14 y15 y16))
 | 0 => ⟨fun _ _ _ _ _ _ _ _ _ _ _ _ _ _ _ _ r h => by simp [spec_Playable.j0] at h,fun _ _ _ _ _ _ _ _ _ _ _ _ _ _ _ _ _ r h => by simp [spec_Playable.l0] at h⟩
 | k + 1 => by
  obtain ⟨ih0,ih1⟩ := spec_Playable.mono_l k
  refine ⟨?_,?_⟩
  ·intro y0 y1 y2 y3 y4 y5 y6 y7 y8 y9 y10 y11 y12 y13 y14 y15
   unfold spec_Playable.j0
   repeat' first
   | (with_reducible exact ih0 _ _ _ _ _ _ _ _ _ _ _ _ _ _ _ _)
   | (with_reducible exact ih1 _ _ _ _ _ _ _ _ _ _ _ _ _ _ _ _ _)
   | (with_reducible exact spec_FitsOn.mono _ _ _ _ _ _ _ _ _ _ _)
   | (with_reducible exact spec_IsGame.mono _ _ _ _ _ _ _ _ _ _ _ _ _ _ _)
   | (with_reducible exact spec_l24Over.mono _ _ _ _ _ _ _ _ _ _ _ _ _ _ _)
   | (with_reducible exact LeO.refl _)
   | (with_reducible exact LeO.none _)
   | (with_reducible refine LeO.ite ?_ ?_)
   | (with_reducible refine LeO.bind ?_ (fun _ => ?_))
   | exact ih0 _ _ _ _ _ _ _ _ _ _ _ _ _ _ _ _
   | exact ih1 _ _ _ _ _ _ _ _ _ _ _ _ _ _ _ _ _
   | exact spec_FitsOn.mono _ _ _ _ _ _ _ _ _ _ _
   | exact spec_IsGame.mono _ _ _ _ _ _ _ _ _ _ _ _ _ _ _
   | exact spec_l24Over.mono _ _ _ _ _ _ _ _ _ _ _ _ _ _ _
   | exact LeO.none _
   | refine LeO.ite ?_ ?_
   | refine LeO.bind ?_ (fun _ => ?_)
  ·intro y0 y1 y2 y3 y4 y5 y6 y7 y8 y9 y10 y11 y12 y13 y14 y15 y16
   unfold spec_Playable.l0
   repeat' first
   | (with_reducible exact ih0 _ _ _ _ _ _ _ _ _ _ _ _ _ _ _ _)
   | (with_reducible exact ih1 _ _ _ _ _ _ _ _ _ _ _ _ _ _ _ _ _)
   | (with_reducible exact spec_FitsOn.mono _ _ _ _ _ _ _ _ _ _ _)
   | (with_reducible exact spec_IsGame.mono _ _ _ _ _ _ _ _ _ _ _ _ _ _ _)
   | (with_reducible exact spec_l24Over.mono _ _ _ _ _ _ _ _ _ _ _ _ _ _ _)
   | (with_reducible exact LeO.refl _)
   | (with_reducible exact LeO.none _)
   | (with_reducible refine LeO.ite ?_ ?_)
   | (with_reducible refine LeO.bind ?_ (fun _ => ?_))
   | exact ih0 _ _ _ _ _ _ _ _ _ _ _ _ _ _ _ _
   | exact ih1 _ _ _ _ _ _ _ _ _ _ _ _ _ _ _ _ _
   | exact spec_FitsOn.mono _ _ _ _ _ _ _ _ _ _ _
   | exact spec_IsGame.mono _ _ _ _ _ _ _ _ _ _ _ _ _ _ _
   | exact spec_l24Over.mono _ _ _ _ _ _ _ _ _ _ _ _ _ _ _
   | exact LeO.none _
   | refine LeO.ite ?_ ?_
   | refine LeO.bind ?_ (fun _ => ?_)
theorem spec_Playable.mono : ∀ a0 a1 a2 a3 a4 a5 a6 a7 a8 a9 a10 a11 a12 a13 k, LeO (spec_Playable.f k a0 a1 a2 a3 a4 a5 a6 a7 a8 a9 a10 a11 a12 a13) (spec_Playable.f (k + 1) a0 a1 a2 a3 a4 a5 a6 a7 a8 a9 a10 a11 a12 a13) := by
 intro a0 a1 a2 a3 a4 a5 a6 a7 a8 a9 a10 a11 a12 a13 k
 obtain ⟨ih0,ih1⟩ := spec_Playable.mono_l k
 unfold spec_Playable.f
 repeat' first
   | (with_reducible exact ih0 _ _ _ _ _ _ _ _ _ _ _ _ _ _ _ _)
   | (with_reducible exact ih1 _ _ _ _ _ _ _ _ _ _ _ _ _ _ _ _ _)
   | (with_reducible exact spec_FitsOn.mono _ _ _ _ _ _ _ _ _ _ _)
   | (with_reducible exact spec_IsGame.mono _ _ _ _ _ _ _ _ _ _ _ _ _ _ _)
   | (with_reducible exact spec_l24Over.mono _ _ _ _ _ _ _ _ _ _ _ _ _ _ _)
   | (with_reducible exact LeO.refl _)
   | (with_reducible exact LeO.none _)
   | (with_reducible refine LeO.ite ?_ ?_)
   | (with_reducible refine LeO.bind ?_ (fun _ => ?_))
   | exact ih0 _ _ _ _ _ _ _ _ _ _ _ _ _ _ _ _
   | exact ih1 _ _ _ _ _ _ _ _ _ _ _ _ _ _ _ _ _
   | exact spec_FitsOn.mono _ _ _ _ _ _ _ _ _ _ _
   | exact spec_IsGame.mono _ _ _ _ _ _ _ _ _ _ _ _ _ _ _
   | exact spec_l24Over.mono _ _ _ _ _ _ _ _ _ _ _ _ _ _ _
   | exact LeO.none _
   | refine LeO.ite ?_ ?_
   | refine LeO.bind ?_ (fun _ => ?_)
def spec_Playable.T8 : Bool × List (List Nat × List Nat) := (true, [([], []), ([0], [0]), ([], []), ([2], [2]), ([], []), ([4], [4]), ([5], [5]), ([6], [6]), ([3, 7], [3, 7]), ([8], [8]), ([], []), ([], []), ([10, 11], [10, 11]), ([12], [12]), ([1, 9, 13], [1, 9, 13])])
def spec_Playable.B8 : List Nat := [0, 1, 0, 4, 0, 16, 48, 112, 252, 508, 0, 0, 3072, 7168, 16383]
theorem spec_Playable.tab8 : rtab .any (opsOf Try.f12 8) = spec_Playable.T8 := by kernel_rfl
theorem spec_Playable.bits8 : waitsOk spec_Playable.T8.2 spec_Playable.B8 = true := by kernel_rfl
set_option maxHeartbeats 8000000 in
set_option maxRecDepth 100000 in
theorem spec_Playable.calls (k : Nat) (a0_0 : Int) (a0_1 : Int) (a0_2 : Bool) (a0_3 : Bool) (A0_4 : Option Addr) (c0_4 : Nat) (l0_4 : List Int) (A0_5 : Option Addr) (c0_5 : Nat) (l0_5 : List Int) (a0_6 : Int) (a0_7 : Int) (A0_8 : Option Addr) (c0_8 : Nat) (l0_8 : List (List Int)) (A0_9 : Option Addr) (c0_9 : Nat) (l0_9 : List Int) (A0_10 : Option Addr) (c0_10 : Nat) (l0_10 : List Int) (a0_11 : Int) (a0_12 : Int) (a0_13 : Int) (r : List Int) (w : World) (hr0_4 : Kd.C (Kd.int .i64) w A0_4 l0_4.length l0_4) (hc0_4 : l0_4.length ≤ c0_4) (hr0_5 : Kd.C (Kd.int .i64) w A0_5 l0_5.length l0_5) (hc0_5 : l0_5.length ≤ c0_5) (hr0_8 : Kd.C (Kd.slice 3 (Kd.int .i64)) w A0_8 l0_8.length l0_8) (hc0_8 : l0_8.length ≤ c0_8) (hr0_9 : Kd.C (Kd.int .i64) w A0_9 l0_9.length l0_9) (hc0_9 : l0_9.length ≤ c0_9) (hr0_10 : Kd.C (Kd.int .i64) w A0_10 l0_10.length l0_10) (hc0_10 : l0_10.length ≤ c0_10) (h : spec_Playable.f k a0_0 a0_1 a0_2 a0_3 l0_4 l0_5 a0_6 a0_7 l0_8 l0_9 l0_10 a0_11 a0_12 a0_13 = some r) :
  Calls Try.prog 12 #[.agg #[.int .i64 a0_0,.int .i64 a0_1,.bool a0_2,.bool a0_3,.slice A0_4 l0_4.length c0_4,.slice A0_5 l0_5.length c0_5,.int .i64 a0_6,.int .i64 a0_7,.slice A0_8 l0_8.length c0_8,.slice A0_9 l0_9.length c0_9,.slice A0_10 l0_10.length c0_10,.int .i64 a0_11,.int .i64 a0_12,.int .i64 a0_13]] w fun e w' => ∃ v0_ : Value,e = .returned (v0_) ∧ Kd.R (Kd.int .i64) 3 w' w.heap.size (fun _ => True) v0_ r ∧ Below w.heap.size w w' := by
 have hu32 := Try.underlying32
 have hu30 := Try.underlying30
 have HR0_4 := QV hr0_4
 have HC0_4 := QV hc0_4
 clear hr0_4 hc0_4
 have HR0_5 := QV hr0_5
 have HC0_5 := QV hc0_5
 clear hr0_5 hc0_5
 have HR0_8 := QV hr0_8
 have HC0_8 := QV hc0_8
 clear hr0_8 hc0_8
 have HR0_9 := QV hr0_9
 have HC0_9 := QV hc0_9
 clear hr0_9 hc0_9
 have HR0_10 := QV hr0_10
 have HC0_10 := QV hc0_10
 clear hr0_10 hc0_10
 have HB := QV (Below.refl w.heap.size w)
 have H : ((some (([] : List Int) : List Int)).bind fun y232 => ((spec_IsGame.f k a0_0 a0_1 a0_2 a0_3 l0_4 l0_5 a0_6 a0_7 l0_8 l0_9 l0_10 a0_11 a0_12 a0_13).bind fun t235 => (if t235 = true then ((spec_l24Over.f k a0_0 a0_1 a0_2 a0_3 l0_4 l0_5 a0_6 a0_7 l0_8 l0_9 l0_10 a0_11 a0_12 a0_13).bind fun t236 => (spec_Playable.j0 k y232 t236 a0_0 a0_1 a0_2 a0_3 l0_4 l0_5 a0_6 a0_7 l0_8 l0_9 l0_10 a0_11 a0_12 a0_13)) else (spec_Playable.j0 k y232 true a0_0 a0_1 a0_2 a0_3 l0_4 l0_5 a0_6 a0_7 l0_8 l0_9 l0_10 a0_11 a0_12 a0_13)))) = some r := h
 clear h
 obtain ⟨y232,hy232⟩ : ∃ y_ : List Int,y_ = (([] : List Int)) := ⟨_,rfl⟩
 replace H : ((spec_IsGame.f k a0_0 a0_1 a0_2 a0_3 l0_4 l0_5 a0_6 a0_7 l0_8 l0_9 l0_10 a0_11 a0_12 a0_13).bind fun t235 => (if t235 = true then ((spec_l24Over.f k a0_0 a0_1 a0_2 a0_3 l0_4 l0_5 a0_6 a0_7 l0_8 l0_9 l0_10 a0_11 a0_12 a0_13).bind fun t236 => (spec_Playable.j0 k y232 t236 a0_0 a0_1 a0_2 a0_3 l0_4 l0_5 a0_6 a0_7 l0_8 l0_9 l0_10 a0_11 a0_12 a0_13)) else (spec_Playable.j0 k y232 true a0_0 a0_1 a0_2 a0_3 l0_4 l0_5 a0_6 a0_7 l0_8 l0_9 l0_10 a0_11 a0_12 a0_13))) = some r := by first | (rw [hy232]; with_reducible exact H) | (have H2_ := (Option.bind_some _ _).symm.trans H; rw [hy232]; with_reducible exact H2_) | (have H2_ := (Option.bind_some _ _).symm.trans H; with_reducible exact H2_) | with_reducible exact H | (rw [hy232]; exact H) | exact H
 have Ny232 := QV hy232
 clear hy232
 have HC2 := QV H
 clear H
 go_enter Try.func12,Try.ntmps12
 go_upto_region 2 with (first | ((with_reducible refine gate_dst (N := 1) rfl ?_); refine box_event ?hg (N := 1) ?hd (cs := #[.int .i64 a0_0,.int .i64 a0_1,.bool a0_2,.bool a0_3,.slice A0_4 l0_4.length c0_4,.slice A0_5 l0_5.length c0_5,.int .i64 a0_6,.int .i64 a0_7,.slice A0_8 l0_8.length c0_8,.slice A0_9 l0_9.length c0_9,.slice A0_10 l0_10.length c0_10,.int .i64 a0_11,.int .i64 a0_12,.int .i64 a0_13]) (t := 32) ?hr ?_; (case hd => rfl); (case hg => rfl); (case hr => first | (go_simp; done) | (go_simp; rfl)); intro gb231 hg w3 hbox hb; have n0_ := QV (QT (by repeat (first | (with_reducible first | exact HB.out | apply QF | apply QD | apply QE) | exact HB.out)) hb); have n1_ := QV (hbox); have n2_ := QV ((by rw [hg]; exact (QS (by repeat (first | (with_reducible first | exact HB.out | apply QF | apply QD | apply QE) | exact HB.out))) : w.heap.size ≤ gb231)); have n3_ := QV ((by rw [hg]; exact (QS (by repeat (first | (with_reducible first | exact HB.out | apply QF | apply QD | apply QE) | exact HB.out))) : w.heap.size ≤ gb231)); clear HB; revert n0_ n1_ n2_ n3_; intro HB BK231 GW231 GE231; clear hb hbox hg) | ((with_reducible refine gate_dst (N := 6) rfl ?_); refine Kd.R_lit (Kd.int .i64) _ 3 ?hg (N := 6) ?hd (xs := ([] : List Int)) (inner := []) (ok := fun _ => True) (okp := fun _ => True) ?hr ?hp (fun _ hk => hk) trivial (Below.refl _ _) (Nat.le_refl _) (by simp) ?_; (case hd => rfl); (case hg => rfl); (case hr => first | (go_simp; done) | (go_simp; rfl)); (case hp => exact (Reps.none _ _)); intro v233 w4 ho5 hb hg_ hnew_; clear hg_ hnew_; (first | rw [← Ny232.out] at ho5 | (simp only [Int.reduceToNat] at ho5; rw [← Ny232.out] at ho5)); have n0_ := QV (Kd.R_lower ho5 (QS (by repeat (first | (with_reducible first | exact HB.out | apply QF | apply QD | apply QE | refine QG ?_ GE231.out) | exact HB.out)))); have n1_ := QV (QU (g := gb231) (o := .cells #[.int .i64 a0_0,.int .i64 a0_1,.bool a0_2,.bool a0_3,.slice A0_4 l0_4.length c0_4,.slice A0_5 l0_5.length c0_5,.int .i64 a0_6,.int .i64 a0_7,.slice A0_8 l0_8.length c0_8,.slice A0_9 l0_9.length c0_9,.slice A0_10 l0_10.length c0_10,.int .i64 a0_11,.int .i64 a0_12,.int .i64 a0_13] 32 (0,0)) (by (with_reducible repeat (first | refine QH ?_ _ | refine QL ?_ | refine QI ?_ _)); exact BK231.out) hb); have n2_ := QV (QT (by repeat (first | (with_reducible first | exact HB.out | apply QF | apply QD | apply QE | refine QG ?_ GE231.out) | exact HB.out)) hb); clear BK231; clear HB; revert n0_ n1_ n2_; intro HO234 BK231 HB; clear hb ho5))
 (try simp only [Act.put,List.setIfInBounds_toArray,List.set_cons_zero,List.set_cons_succ])
 go_cut [13] (fun v13 wc => ∃ (kq : Nat) (x13_1 : Bool),v13 = .bool x13_1 ∧ Aside0 (spec_Playable.j0 kq y232 x13_1 a0_0 a0_1 a0_2 a0_3 l0_4 l0_5 a0_6 a0_7 l0_8 l0_9 l0_10 a0_11 a0_12 a0_13 = some r) ∧ Aside0 (kq ≤ k) ∧ Aside0 (Kd.R (Kd.int .i64) 3 wc w.heap.size (fun _ => True) v233 y232) ∧ Aside0 (wc.heap[gb231]? = some (.cells #[.int .i64 a0_0,.int .i64 a0_1,.bool a0_2,.bool a0_3,(.slice A0_4 l0_4.length c0_4),(.slice A0_5 l0_5.length c0_5),.int .i64 a0_6,.int .i64 a0_7,(.slice A0_8 l0_8.length c0_8),(.slice A0_9 l0_9.length c0_9),(.slice A0_10 l0_10.length c0_10),.int .i64 a0_11,.int .i64 a0_12,.int .i64 a0_13] 32 (0,0))) ∧ Aside0 (Below w.heap.size w wc))
 case first =>
  have H := HC2.out
  clear HC2
  replace H := Option.bind_eq_some_iff.mp H
  obtain ⟨t235,A60,H⟩ := H
  have A6 := QV A60
  clear A60
  by_cases c7 : t235 = true
  rotate_left
  replace c7 := Bool.eq_false_iff.mpr c7
  subst c7
  rw [if_neg (show ¬ (false = true) by decide)] at H
  have H' := QV H
  clear H
  rotate_right
  subst c7
  rw [if_pos rfl] at H
  replace H := Option.bind_eq_some_iff.mp H
  obtain ⟨t236,A80,H⟩ := H
  have A8 := QV A80
  clear A80
  have H' := QV H
  clear H
  all_goals
   have hcz9_0 : w4.cell? ⟨gb231,0,none⟩ = some (.int .i64 a0_0) := (QC BK231.out 0).trans rfl
   have hcz9_1 : w4.cell? ⟨gb231,1,none⟩ = some (.int .i64 a0_1) := (QC BK231.out 1).trans rfl
   have hcz9_2 : w4.cell? ⟨gb231,2,none⟩ = some (.bool a0_2) := (QC BK231.out 2).trans rfl
   have hcz9_3 : w4.cell? ⟨gb231,3,none⟩ = some (.bool a0_3) := (QC BK231.out 3).trans rfl
   have hcz9_4 : w4.cell? ⟨gb231,4,none⟩ = some (.slice A0_4 l0_4.length c0_4) := (QC BK231.out 4).trans rfl
   have hcz9_5 : w4.cell? ⟨gb231,5,none⟩ = some (.slice A0_5 l0_5.length c0_5) := (QC BK231.out 5).trans rfl
   have hcz9_6 : w4.cell? ⟨gb231,6,none⟩ = some (.int .i64 a0_6) := (QC BK231.out 6).trans rfl
   have hcz9_7 : w4.cell? ⟨gb231,7,none⟩ = some (.int .i64 a0_7) := (QC BK231.out 7).trans rfl
   have hcz9_8 : w4.cell? ⟨gb231,8,none⟩ = some (.slice A0_8 l0_8.length c0_8) := (QC BK231.out 8).trans rfl
   have hcz9_9 : w4.cell? ⟨gb231,9,none⟩ = some (.slice A0_9 l0_9.length c0_9) := (QC BK231.out 9).trans rfl
   have hcz9_10 : w4.cell? ⟨gb231,10,none⟩ = some (.slice A0_10 l0_10.length c0_10) := (QC BK231.out 10).trans rfl
   have hcz9_11 : w4.cell? ⟨gb231,11,none⟩ = some (.int .i64 a0_11) := (QC BK231.out 11).trans rfl
   have hcz9_12 : w4.cell? ⟨gb231,12,none⟩ = some (.int .i64 a0_12) := (QC BK231.out 12).trans rfl
   have hcz9_13 : w4.cell? ⟨gb231,13,none⟩ = some (.int .i64 a0_13) := (QC BK231.out 13).trans rfl
   have hfz9_0 := QB BK231.out 0
   have hfz9_1 := QB BK231.out 1
   have hfz9_2 := QB BK231.out 2
   have hfz9_3 := QB BK231.out 3
   have hfz9_4 := QB BK231.out 4
   have hfz9_5 := QB BK231.out 5
   have hfz9_6 := QB BK231.out 6
   have hfz9_7 := QB BK231.out 7
   have hfz9_8 := QB BK231.out 8
   have hfz9_9 := QB BK231.out 9
   have hfz9_10 := QB BK231.out 10
   have hfz9_11 := QB BK231.out 11
   have hfz9_12 := QB BK231.out 12
   have hfz9_13 := QB BK231.out 13
   go_wp2_with (first | ((with_reducible refine gate_callee (f := 25) rfl ?_); refine goesL_ (some 8) rfl rfl Try.func25 (by kernel_rfl) rfl #[.agg #[.int .i64 a0_0,.int .i64 a0_1,.bool a0_2,.bool a0_3,.slice A0_4 l0_4.length c0_4,.slice A0_5 l0_5.length c0_5,.int .i64 a0_6,.int .i64 a0_7,.slice A0_8 l0_8.length c0_8,.slice A0_9 l0_9.length c0_9,.slice A0_10 l0_10.length c0_10,.int .i64 a0_11,.int .i64 a0_12,.int .i64 a0_13]] rfl (by (try simp only [List.map_toArray,List.map_cons,List.map_nil]); first | done | rfl | (simp only [List.length_drop,List.length_take]; rfl)) ?_; (with_reducible refine (spec_IsGame.calls k a0_0 a0_1 a0_2 a0_3 _ _ l0_4 _ _ l0_5 a0_6 a0_7 _ _ l0_8 _ _ l0_9 _ _ l0_10 a0_11 a0_12 a0_13 _ _ ?side1 ?side2 ?side3 ?side4 ?side5 ?side6 ?side7 ?side8 ?side9 ?side10 A6.out).mono ?_); (case side1 => repeat (first | exact (QN HR0_4.out HB.out) | (with_reducible refine QO ?_ _) | (with_reducible refine QP ?_ _) | (with_reducible refine QR ?_))); (case side2 => exact HC0_4.out); (case side3 => repeat (first | exact (QN HR0_5.out HB.out) | (with_reducible refine QO ?_ _) | (with_reducible refine QP ?_ _) | (with_reducible refine QR ?_))); (case side4 => exact HC0_5.out); (case side5 => repeat (first | exact (QN HR0_8.out HB.out) | (with_reducible refine QO ?_ _) | (with_reducible refine QP ?_ _) | (with_reducible refine QR ?_))); (case side6 => exact HC0_8.out); (case side7 => repeat (first | exact (QN HR0_9.out HB.out) | (with_reducible refine QO ?_ _) | (with_reducible refine QP ?_ _) | (with_reducible refine QR ?_))); (case side8 => exact HC0_9.out); (case side9 => repeat (first | exact (QN HR0_10.out HB.out) | (with_reducible refine QO ?_ _) | (with_reducible refine QP ?_ _) | (with_reducible refine QR ?_))); (case side10 => exact HC0_10.out); rintro e w10 ⟨rfl,hb⟩; refine ⟨_,rfl,?_⟩; have n0_ := QV (Kd.R_below (by (with_reducible repeat (first | apply QJ | apply QK | apply QM)); exact HO234.out) hb); have n1_ := QV (QU (g := gb231) (o := .cells #[.int .i64 a0_0,.int .i64 a0_1,.bool a0_2,.bool a0_3,.slice A0_4 l0_4.length c0_4,.slice A0_5 l0_5.length c0_5,.int .i64 a0_6,.int .i64 a0_7,.slice A0_8 l0_8.length c0_8,.slice A0_9 l0_9.length c0_9,.slice A0_10 l0_10.length c0_10,.int .i64 a0_11,.int .i64 a0_12,.int .i64 a0_13] 32 (0,0)) (by (with_reducible repeat (first | refine QH ?_ _ | refine QL ?_ | refine QI ?_ _)); exact BK231.out) hb); have n2_ := QV (QT (by repeat (first | (with_reducible first | exact HB.out | apply QF | apply QD | apply QE | refine QG ?_ GE231.out) | exact HB.out)) hb); clear HO234; clear BK231; clear HB; revert n0_ n1_ n2_; intro HO234 BK231 HB; (try clear hb); (try clear hb2); (try clear hk); (try clear hi); have hcz11_0 : w10.cell? ⟨gb231,0,none⟩ = some (.int .i64 a0_0) := (QC BK231.out 0).trans rfl; have hcz11_1 : w10.cell? ⟨gb231,1,none⟩ = some (.int .i64 a0_1) := (QC BK231.out 1).trans rfl; have hcz11_2 : w10.cell? ⟨gb231,2,none⟩ = some (.bool a0_2) := (QC BK231.out 2).trans rfl; have hcz11_3 : w10.cell? ⟨gb231,3,none⟩ = some (.bool a0_3) := (QC BK231.out 3).trans rfl; have hcz11_4 : w10.cell? ⟨gb231,4,none⟩ = some (.slice A0_4 l0_4.length c0_4) := (QC BK231.out 4).trans rfl; have hcz11_5 : w10.cell? ⟨gb231,5,none⟩ = some (.slice A0_5 l0_5.length c0_5) := (QC BK231.out 5).trans rfl; have hcz11_6 : w10.cell? ⟨gb231,6,none⟩ = some (.int .i64 a0_6) := (QC BK231.out 6).trans rfl; have hcz11_7 : w10.cell? ⟨gb231,7,none⟩ = some (.int .i64 a0_7) := (QC BK231.out 7).trans rfl; have hcz11_8 : w10.cell? ⟨gb231,8,none⟩ = some (.slice A0_8 l0_8.length c0_8) := (QC BK231.out 8).trans rfl; have hcz11_9 : w10.cell? ⟨gb231,9,none⟩ = some (.slice A0_9 l0_9.length c0_9) := (QC BK231.out 9).trans rfl; have hcz11_10 : w10.cell? ⟨gb231,10,none⟩ = some (.slice A0_10 l0_10.length c0_10) := (QC BK231.out 10).trans rfl; have hcz11_11 : w10.cell? ⟨gb231,11,none⟩ = some (.int .i64 a0_11) := (QC BK231.out 11).trans rfl; have hcz11_12 : w10.cell? ⟨gb231,12,none⟩ = some (.int .i64 a0_12) := (QC BK231.out 12).trans rfl; have hcz11_13 : w10.cell? ⟨gb231,13,none⟩ = some (.int .i64 a0_13) := (QC BK231.out 13).trans rfl; have hfz11_0 := QB BK231.out 0; have hfz11_1 := QB BK231.out 1; have hfz11_2 := QB BK231.out 2; have hfz11_3 := QB BK231.out 3; have hfz11_4 := QB BK231.out 4; have hfz11_5 := QB BK231.out 5; have hfz11_6 := QB BK231.out 6; have hfz11_7 := QB BK231.out 7; have hfz11_8 := QB BK231.out 8; have hfz11_9 := QB BK231.out 9; have hfz11_10 := QB BK231.out 10; have hfz11_11 := QB BK231.out 11; have hfz11_12 := QB BK231.out 12; have hfz11_13 := QB BK231.out 13) | (go_at_call 26; (with_reducible refine (spec_l24Over.calls k a0_0 a0_1 a0_2 a0_3 _ _ l0_4 _ _ l0_5 a0_6 a0_7 _ _ l0_8 _ _ l0_9 _ _ l0_10 a0_11 a0_12 a0_13 t236 _ ?side1 ?side2 ?side3 ?side4 ?side5 ?side6 ?side7 ?side8 ?side9 ?side10 A8.out).mono ?_); (case side1 => repeat (first | exact (QN HR0_4.out HB.out) | (with_reducible refine QO ?_ _) | (with_reducible refine QP ?_ _) | (with_reducible refine QR ?_))); (case side2 => exact HC0_4.out); (case side3 => repeat (first | exact (QN HR0_5.out HB.out) | (with_reducible refine QO ?_ _) | (with_reducible refine QP ?_ _) | (with_reducible refine QR ?_))); (case side4 => exact HC0_5.out); (case side5 => repeat (first | exact (QN HR0_8.out HB.out) | (with_reducible refine QO ?_ _) | (with_reducible refine QP ?_ _) | (with_reducible refine QR ?_))); (case side6 => exact HC0_8.out); (case side7 => repeat (first | exact (QN HR0_9.out HB.out) | (with_reducible refine QO ?_ _) | (with_reducible refine QP ?_ _) | (with_reducible refine QR ?_))); (case side8 => exact HC0_9.out); (case side9 => repeat (first | exact (QN HR0_10.out HB.out) | (with_reducible refine QO ?_ _) | (with_reducible refine QP ?_ _) | (with_reducible refine QR ?_))); (case side10 => exact HC0_10.out); rintro e w12 ⟨rfl,hb⟩; have n0_ := QV (Kd.R_below (by (with_reducible repeat (first | apply QJ | apply QK | apply QM)); exact HO234.out) hb); have n1_ := QV (QU (g := gb231) (o := .cells #[.int .i64 a0_0,.int .i64 a0_1,.bool a0_2,.bool a0_3,.slice A0_4 l0_4.length c0_4,.slice A0_5 l0_5.length c0_5,.int .i64 a0_6,.int .i64 a0_7,.slice A0_8 l0_8.length c0_8,.slice A0_9 l0_9.length c0_9,.slice A0_10 l0_10.length c0_10,.int .i64 a0_11,.int .i64 a0_12,.int .i64 a0_13] 32 (0,0)) (by (with_reducible repeat (first | refine QH ?_ _ | refine QL ?_ | refine QI ?_ _)); exact BK231.out) hb); have n2_ := QV (QT (by repeat (first | (with_reducible first | exact HB.out | apply QF | apply QD | apply QE | refine QG ?_ GE231.out) | exact HB.out)) hb); clear HO234; clear BK231; clear HB; revert n0_ n1_ n2_; intro HO234 BK231 HB; (try clear hb); (try clear hb2); (try clear hk); (try clear hi)))
   go_meet
   case rel => exact ⟨_,_,(by first | rfl | (simp; done) | (simp [*]; done)),H',⟨by first | omega | exact Nat.le_refl _⟩,⟨by (with_reducible repeat (first | apply QJ | apply QK | apply QM)); exact HO234.out⟩,⟨by (with_reducible repeat (first | refine QH ?_ _ | refine QL ?_ | refine QI ?_ _)); exact BK231.out⟩,⟨by repeat (first | (with_reducible first | exact HB.out | apply QF | apply QD | apply QE | refine QG ?_ GE231.out) | exact HB.out)⟩⟩
 case rest =>
  clear HC2
  try clear c1
  try clear c2
  try clear p2
  try clear c7
  try clear c12
  try clear hcz11_0 hcz11_1 hcz11_10 hcz11_11 hcz11_12 hcz11_13 hcz11_2 hcz11_3 hcz11_4 hcz11_5 hcz11_6 hcz11_7 hcz11_8 hcz11_9
  try clear hcz13_0 hcz13_1 hcz13_10 hcz13_11 hcz13_12 hcz13_13 hcz13_2 hcz13_3 hcz13_4 hcz13_5 hcz13_6 hcz13_7 hcz13_8 hcz13_9
  try clear hcz9_0 hcz9_1 hcz9_10 hcz9_11 hcz9_12 hcz9_13 hcz9_2 hcz9_3 hcz9_4 hcz9_5 hcz9_6 hcz9_7 hcz9_8 hcz9_9
  try clear hfz11_0 hfz11_1 hfz11_10 hfz11_11 hfz11_12 hfz11_13 hfz11_2 hfz11_3 hfz11_4 hfz11_5 hfz11_6 hfz11_7 hfz11_8 hfz11_9
  try clear hfz13_0 hfz13_1 hfz13_10 hfz13_11 hfz13_12 hfz13_13 hfz13_2 hfz13_3 hfz13_4 hfz13_5 hfz13_6 hfz13_7 hfz13_8 hfz13_9
  try clear hfz9_0 hfz9_1 hfz9_10 hfz9_11 hfz9_12 hfz9_13 hfz9_2 hfz9_3 hfz9_4 hfz9_5 hfz9_6 hfz9_7 hfz9_8 hfz9_9
  obtain ⟨kq,x13_1,rfl,HA,HJ1,HO_3,BK231,HB⟩ := hcut
  cases kq with
  | zero => exact absurd HA.out (by simp [spec_Playable.j0])
  | succ kj1 =>
   have H := HA.out
   clear HA
   simp only [spec_Playable.j0] at H
   by_cases c15 : x13_1 = true
   ·subst c15
    rw [if_pos rfl] at H
    obtain rfl := Option.some.inj H
    go_wp2
    go_ret
    exact ⟨_,by first | rfl | (simp [errW_none,errW_some] <;> rfl) | (simp [*,errW_none,errW_some] <;> rfl),by (with_reducible repeat (first | apply QJ | apply QK | apply QM)); exact HO_3.out,by repeat (first | (with_reducible first | exact HB.out | apply QF | apply QD | apply QE | refine QG ?_ GE231.out) | exact HB.out)⟩
   ·replace c15 := Bool.eq_false_iff.mpr c15
    subst c15
    rw [if_neg (show ¬ (false = true) by decide)] at H
    by_cases c16 : 0 ≤ a0_11
    ·rw [if_pos c16] at H
     have c16b0 : decide (0 ≤ a0_11) = true := decide_eq_true c16
     clear c16
     by_cases c17 : a0_11 < (l0_8.length : Int)
     ·rw [if_pos c17] at H
      have c17b0 : decide (a0_11 < (l0_8.length : Int)) = true := decide_eq_true c17
      clear c17
      replace H := Option.bind_eq_some_iff.mp H
      obtain ⟨t238,A180,H⟩ := H
      have A18 := QV A180
      clear A180
      have H' := QV H
      clear H
      have hcz19_0 : wc.cell? ⟨gb231,0,none⟩ = some (.int .i64 a0_0) := (QC BK231.out 0).trans rfl
      have hcz19_1 : wc.cell? ⟨gb231,1,none⟩ = some (.int .i64 a0_1) := (QC BK231.out 1).trans rfl
      have hcz19_2 : wc.cell? ⟨gb231,2,none⟩ = some (.bool a0_2) := (QC BK231.out 2).trans rfl
      have hcz19_3 : wc.cell? ⟨gb231,3,none⟩ = some (.bool a0_3) := (QC BK231.out 3).trans rfl
      have hcz19_4 : wc.cell? ⟨gb231,4,none⟩ = some (.slice A0_4 l0_4.length c0_4) := (QC BK231.out 4).trans rfl
      have hcz19_5 : wc.cell? ⟨gb231,5,none⟩ = some (.slice A0_5 l0_5.length c0_5) := (QC BK231.out 5).trans rfl
      have hcz19_6 : wc.cell? ⟨gb231,6,none⟩ = some (.int .i64 a0_6) := (QC BK231.out 6).trans rfl
      have hcz19_7 : wc.cell? ⟨gb231,7,none⟩ = some (.int .i64 a0_7) := (QC BK231.out 7).trans rfl
      have hcz19_8 : wc.cell? ⟨gb231,8,none⟩ = some (.slice A0_8 l0_8.length c0_8) := (QC BK231.out 8).trans rfl
      have hcz19_9 : wc.cell? ⟨gb231,9,none⟩ = some (.slice A0_9 l0_9.length c0_9) := (QC BK231.out 9).trans rfl
      have hcz19_10 : wc.cell? ⟨gb231,10,none⟩ = some (.slice A0_10 l0_10.length c0_10) := (QC BK231.out 10).trans rfl
      have hcz19_11 : wc.cell? ⟨gb231,11,none⟩ = some (.int .i64 a0_11) := (QC BK231.out 11).trans rfl
      have hcz19_12 : wc.cell? ⟨gb231,12,none⟩ = some (.int .i64 a0_12) := (QC BK231.out 12).trans rfl
      have hcz19_13 : wc.cell? ⟨gb231,13,none⟩ = some (.int .i64 a0_13) := (QC BK231.out 13).trans rfl
      have hfz19_0 := QB BK231.out 0
      have hfz19_1 := QB BK231.out 1
      have hfz19_2 := QB BK231.out 2
      have hfz19_3 := QB BK231.out 3
      have hfz19_4 := QB BK231.out 4
      have hfz19_5 := QB BK231.out 5
      have hfz19_6 := QB BK231.out 6
      have hfz19_7 := QB BK231.out 7
      have hfz19_8 := QB BK231.out 8
      have hfz19_9 := QB BK231.out 9
      have hfz19_10 := QB BK231.out 10
      have hfz19_11 := QB BK231.out 11
      have hfz19_12 := QB BK231.out 12
      have hfz19_13 := QB BK231.out 13
      have p237 : 0 ≤ (a0_11 : Int) := of_decide_eq_true (by first | (with_reducible assumption) | assumption)
      have q237 : a0_11 < (l0_8.length : Int) := of_decide_eq_true (by first | (with_reducible assumption) | assumption)
      obtain ⟨ad237,A237_0,c237_0,e237,hx237_0,hl237_0,hi237_0⟩ := at_L1 HR0_8.out a0_11 p237 q237
      cases e237
      replace hx237_0 := (HB.out.cell (World.block_lt_of_cell? w _ hx237_0)).trans hx237_0
      have HR237_0 := QV hi237_0
      have HC237_0 := QV hl237_0
      clear hi237_0 hl237_0
      replace p237 := eq_true p237
      replace q237 := eq_true q237
      go_wp2_with (first | ((with_reducible refine gate_callee (f := 27) rfl ?_); refine goesL_ (some 21) rfl rfl Try.func27 (by kernel_rfl) rfl #[.slice A237_0 (rd_L1 l0_8 a0_11).length c237_0] rfl (by (try simp only [List.map_toArray,List.map_cons,List.map_nil]); first | done | rfl | (simp only [List.length_drop,List.length_take]; rfl)) ?_; (with_reducible refine (spec_Sorted.calls _ _ (rd_L1 l0_8 a0_11) t238 _ ?side1 ?side2 A18.out).mono ?_); (case side1 => repeat (first | exact (QN HR237_0.out HB.out) | (with_reducible refine QO ?_ _) | (with_reducible refine QP ?_ _) | (with_reducible refine QR ?_))); (case side2 => exact HC237_0.out); rintro e w20 ⟨v239,rfl,ho0,hb⟩; refine ⟨_,rfl,?_⟩; have n0_ := QV (Kd.R_elder' (by (with_reducible repeat (first | apply QJ | apply QK | apply QM)); exact HO_3.out) (Kd.R_base ho0) hb); have n1_ := QV (Kd.R_lower (Kd.R_new' ho0 (Kd.R_lt (by (with_reducible repeat (first | apply QJ | apply QK | apply QM)); exact HO_3.out))) (QS (by repeat (first | (with_reducible first | exact HB.out | apply QF | apply QD | apply QE | refine QG ?_ GE231.out) | exact HB.out)))); have n2_ := QV (QU (g := gb231) (o := .cells #[.int .i64 a0_0,.int .i64 a0_1,.bool a0_2,.bool a0_3,.slice A0_4 l0_4.length c0_4,.slice A0_5 l0_5.length c0_5,.int .i64 a0_6,.int .i64 a0_7,.slice (some ad237) l0_8.length c0_8,.slice A0_9 l0_9.length c0_9,.slice A0_10 l0_10.length c0_10,.int .i64 a0_11,.int .i64 a0_12,.int .i64 a0_13] 32 (0,0)) (by (with_reducible repeat (first | refine QH ?_ _ | refine QL ?_ | refine QI ?_ _)); exact BK231.out) hb); have n3_ := QV (QT (by repeat (first | (with_reducible first | exact HB.out | apply QF | apply QD | apply QE | refine QG ?_ GE231.out) | exact HB.out)) hb); clear HO_3; clear BK231; clear HB; revert n0_ n1_ n2_ n3_; intro HO_3 HO240 BK231 HB; (try clear hb); (try clear hb2); (try clear hk); (try clear hi); (try clear ho0)))
      go_loopg [3,5] kj1 (fun kq v3 v5 w' => ∃ (x3_2 : List Int) (x5_2 : Int),v5 = .int .i64 x5_2 ∧ Aside0 (spec_Playable.l0 kq x3_2 t238 x5_2 a0_0 a0_1 a0_2 a0_3 l0_4 l0_5 a0_6 a0_7 l0_8 l0_9 l0_10 a0_11 a0_12 a0_13 = some r) ∧ Aside0 (kq ≤ kj1) ∧ Aside0 (Kd.R (Kd.int .i64) 3 w' w.heap.size (fun k_ => some k_ ≠ (v239 : Value).ownBlock) v3 x3_2) ∧ Aside0 (Kd.R (Kd.int .i64) 3 w' w.heap.size (fun k_ => some k_ ≠ (v3 : Value).ownBlock) v239 t238) ∧ Aside0 (w'.heap[gb231]? = some (.cells #[.int .i64 a0_0,.int .i64 a0_1,.bool a0_2,.bool a0_3,(.slice A0_4 l0_4.length c0_4),(.slice A0_5 l0_5.length c0_5),.int .i64 a0_6,.int .i64 a0_7,(.slice (some ad237) l0_8.length c0_8),(.slice A0_9 l0_9.length c0_9),(.slice A0_10 l0_10.length c0_10),.int .i64 a0_11,.int .i64 a0_12,.int .i64 a0_13] 32 (0,0))) ∧ Aside0 (Below w.heap.size w w'))
      case atStart => exact ⟨(y232),(0),(by first | rfl | (simp; done) | (simp [*]; done)),H',⟨Nat.le_refl _⟩,⟨by (with_reducible repeat (first | apply QJ | apply QK | apply QM)); exact Kd.R_mono HO_3.out (by first | exact fun k_ hk => hk.2 | exact fun k_ hk => hk)⟩,⟨by (with_reducible repeat (first | apply QJ | apply QK | apply QM)); exact Kd.R_mono HO240.out (by first | exact fun k_ hk => hk.2 | exact fun k_ hk => hk)⟩,⟨by (with_reducible repeat (first | refine QH ?_ _ | refine QL ?_ | refine QI ?_ _)); exact BK231.out⟩,⟨by repeat (first | (with_reducible first | exact HB.out | apply QF | apply QD | apply QE | refine QG ?_ GE231.out) | exact HB.out)⟩⟩
      case round =>
       clear H'
       try clear c1
       try clear c2
       try clear p2
       try clear q2
       try clear hx2
       try clear c7
       try clear c12
       try clear c15
       try clear c16
       try clear c16b0
       try clear c17
       try clear c17b0
       try clear hcz11_0 hcz11_1 hcz11_10 hcz11_11 hcz11_12 hcz11_13 hcz11_2 hcz11_3 hcz11_4 hcz11_5 hcz11_6 hcz11_7 hcz11_8 hcz11_9
       try clear hcz13_0 hcz13_1 hcz13_10 hcz13_11 hcz13_12 hcz13_13 hcz13_2 hcz13_3 hcz13_4 hcz13_5 hcz13_6 hcz13_7 hcz13_8 hcz13_9
       try clear hcz19_0 hcz19_1 hcz19_10 hcz19_11 hcz19_12 hcz19_13 hcz19_2 hcz19_3 hcz19_4 hcz19_5 hcz19_6 hcz19_7 hcz19_8 hcz19_9
       try clear hcz9_0 hcz9_1 hcz9_10 hcz9_11 hcz9_12 hcz9_13 hcz9_2 hcz9_3 hcz9_4 hcz9_5 hcz9_6 hcz9_7 hcz9_8 hcz9_9
       try clear hfz11_0 hfz11_1 hfz11_10 hfz11_11 hfz11_12 hfz11_13 hfz11_2 hfz11_3 hfz11_4 hfz11_5 hfz11_6 hfz11_7 hfz11_8 hfz11_9
       try clear hfz13_0 hfz13_1 hfz13_10 hfz13_11 hfz13_12 hfz13_13 hfz13_2 hfz13_3 hfz13_4 hfz13_5 hfz13_6 hfz13_7 hfz13_8 hfz13_9
       try clear hfz19_0 hfz19_1 hfz19_10 hfz19_11 hfz19_12 hfz19_13 hfz19_2 hfz19_3 hfz19_4 hfz19_5 hfz19_6 hfz19_7 hfz19_8 hfz19_9
       try clear hfz9_0 hfz9_1 hfz9_10 hfz9_11 hfz9_12 hfz9_13 hfz9_2 hfz9_3 hfz9_4 hfz9_5 hfz9_6 hfz9_7 hfz9_8 hfz9_9
       try clear hx237_0
       try clear p2
       try clear p237
       try clear q237
       obtain ⟨x3_2,x5_2,rfl,HA,HK2,HO_3,HO_4,BK231,HB⟩ := hrel
       cases gk with
       | zero => exact absurd HA.out (by simp [spec_Playable.l0])
       | succ k2 =>
        have H := HA.out
        clear HA
        simp only [spec_Playable.l0] at H
        by_cases c21 : x5_2 < (t238.length : Int)
        ·rw [if_pos c21] at H
         have c21b0 : decide (x5_2 < (t238.length : Int)) = true := decide_eq_true c21
         clear c21
         obtain ⟨ji22,hji22⟩ : ∃ j_ : Int,(wrap64 ((l0_10.length : Int) - 1)) = j_ := ⟨_,rfl⟩
         replace H : (if 0 ≤ (ji22) then (if (ji22) < (l0_10.length : Int) then (if 0 ≤ x5_2 then ((spec_FitsOn.f k2 a0_0 a0_1 a0_2 a0_3 l0_4 l0_5 a0_6 a0_7 (rd l0_10 (ji22)) (rd t238 x5_2)).bind fun t243 => (if t243 = true then (if x3_2.length < 17592186044416 then (spec_Playable.l0 k2 (x3_2 ++ [rd t238 x5_2]) t238 (wrap64 (x5_2 + 1)) a0_0 a0_1 a0_2 a0_3 l0_4 l0_5 a0_6 a0_7 l0_8 l0_9 l0_10 a0_11 a0_12 a0_13) else (none)) else (spec_Playable.l0 k2 x3_2 t238 (wrap64 (x5_2 + 1)) a0_0 a0_1 a0_2 a0_3 l0_4 l0_5 a0_6 a0_7 l0_8 l0_9 l0_10 a0_11 a0_12 a0_13))) else (none)) else (none)) else (none)) = some r := by first | (rw [hji22] at H; exact H) | (simp only [hji22] at H ⊢; exact H)
         have hji22w : (IntKind.i64.wrap ((l0_10.length : Int) - 1)) = ji22 := (i64_w _).trans hji22
         by_cases c23 : 0 ≤ (ji22)
         ·rw [if_pos c23] at H
          have c23b0 : decide (0 ≤ (ji22)) = true := decide_eq_true c23
          clear c23
          by_cases c24 : (ji22) < (l0_10.length : Int)
          ·rw [if_pos c24] at H
           have c24b0 : decide ((ji22) < (l0_10.length : Int)) = true := decide_eq_true c24
           clear c24
           by_cases c25 : 0 ≤ x5_2
           ·rw [if_pos c25] at H
            have c25b0 : decide (0 ≤ x5_2) = true := decide_eq_true c25
            clear c25
            replace H := Option.bind_eq_some_iff.mp H
            obtain ⟨t243,A260,H⟩ := H
            have A26 := QV A260
            clear A260
            obtain ⟨Ao29,co29,eo29⟩ := Kd.R_slice HO_4.out
            subst eo29
            try go_wp2
            have n0_ := QV (QM HO_3.out)
            have n1_ := QV (QM HO_4.out)
            have n2_ := QV (QL BK231.out)
            have n3_ := QV (QE HB.out)
            clear HO_3
            clear HO_4
            clear BK231
            clear HB
            revert n0_ n1_ n2_ n3_
            intro HO_3 HO_4 BK231 HB
            have p241 : 0 ≤ ((ji22) : Int) := of_decide_eq_true (by first | (with_reducible assumption) | assumption)
            have q241 : (ji22) < (l0_10.length : Int) := of_decide_eq_true (by first | (with_reducible assumption) | assumption)
            obtain ⟨ad241,e241,hx241_0⟩ := Kd.at_int HR0_10.out (ji22) p241 q241
            have hw241_0 := hx241_0
            cases e241
            replace hx241_0 := (HB.out.cell (World.block_lt_of_cell? w _ hx241_0)).trans hx241_0
            replace p241 := eq_true p241
            replace q241 := eq_true q241
            have p242 : 0 ≤ (x5_2 : Int) := of_decide_eq_true (by first | (with_reducible assumption) | assumption)
            have q242 : x5_2 < (t238.length : Int) := of_decide_eq_true (by first | (with_reducible assumption) | assumption)
            obtain ⟨ad242,e242,hx242_0⟩ := Kd.at_int (Kd.R_reads' HO_4.out).2.2 x5_2 p242 q242
            cases e242
            replace p242 := eq_true p242
            replace q242 := eq_true q242
            refine start_ (n := 15) (S := fun w' => w'.cell? ⟨gb231,0,none⟩ = some (.int .i64 a0_0) ∧ w'.cell? ⟨gb231,1,none⟩ = some (.int .i64 a0_1) ∧ w'.cell? ⟨gb231,2,none⟩ = some (.bool a0_2) ∧ w'.cell? ⟨gb231,3,none⟩ = some (.bool a0_3) ∧ w'.cell? ⟨gb231,4,none⟩ = some (.slice A0_4 l0_4.length c0_4) ∧ w'.cell? ⟨gb231,5,none⟩ = some (.slice A0_5 l0_5.length c0_5) ∧ w'.cell? ⟨gb231,6,none⟩ = some (.int .i64 a0_6) ∧ w'.cell? ⟨gb231,7,none⟩ = some (.int .i64 a0_7) ∧ w'.cell? ⟨gb231,8,none⟩ = some (.slice (some ad237) l0_8.length c0_8) ∧ w'.cell? ⟨gb231,9,none⟩ = some (.slice A0_9 l0_9.length c0_9) ∧ w'.cell? ⟨gb231,10,none⟩ = some (.slice (some ad241) l0_10.length c0_10) ∧ w'.cell? ⟨gb231,11,none⟩ = some (.int .i64 a0_11) ∧ w'.cell? ⟨gb231,12,none⟩ = some (.int .i64 a0_12) ∧ w'.cell? ⟨gb231,13,none⟩ = some (.int .i64 a0_13) ∧ w'.cell? (ad241.add ((ji22)).toNat) = some (.int .i64 (rd l0_10 (ji22))) ∧ w'.cell? (ad242.add (x5_2).toNat) = some (.int .i64 (rd t238 x5_2))) (ds := []) (ab 15 0) (by kernel_rfl) rfl rfl ⟨(QC BK231.out 0).trans rfl,(QC BK231.out 1).trans rfl,(QC BK231.out 2).trans rfl,(QC BK231.out 3).trans rfl,(QC BK231.out 4).trans rfl,(QC BK231.out 5).trans rfl,(QC BK231.out 6).trans rfl,(QC BK231.out 7).trans rfl,(QC BK231.out 8).trans rfl,(QC BK231.out 9).trans rfl,(QC BK231.out 10).trans rfl,(QC BK231.out 11).trans rfl,(QC BK231.out 12).trans rfl,(QC BK231.out 13).trans rfl,((HB.out.cell (World.block_lt_of_cell? w _ hw241_0)).trans hw241_0),hx242_0⟩ (fun hHeld => ?_); refine with_tabW spec_Playable.tab8 spec_Playable.bits8 (fun HT_ HW_ => ?_)
            generalize wr.drew = w30 at HO_3 HO_4 BK231 HB hx241_0 hx242_0 hHeld ⊢
            refine pure_ (i := 0) (N := some 28) (v := ?_) (a' := ?_) (ab 15 1) rfl rfl (any_of HT_.out (by kernel_rfl)) (fun _ _ _ h => h) (Or.inl ⟨by rfl,?_⟩) ?_ ?_
            rotate_left
            ·intro w'
             go_simp
             with_reducible rfl
            rotate_left
            ·simp only [Act.put,List.setIfInBounds_toArray,List.set_cons_zero,List.set_cons_succ,i64_w,i32_w]
             rfl
            refine pure_ (i := 2) (N := some 30) (v := ?_) (a' := ?_) (ab 15 5) rfl rfl (any_of HT_.out (by kernel_rfl)) (fun _ _ _ h => h) (Or.inl ⟨by rfl,?_⟩) ?_ ?_
            rotate_left
            ·intro w'
             go_simp
             with_reducible rfl
            rotate_left
            ·simp only [Act.put,List.setIfInBounds_toArray,List.set_cons_zero,List.set_cons_succ,i64_w,i32_w]
             rfl
            refine pure_ (i := 4) (N := some 32) (v := ?_) (a' := ?_) (ab 15 21) rfl rfl (any_of HT_.out (by kernel_rfl)) (fun _ _ _ h => h) (Or.inl ⟨by rfl,?_⟩) ?_ ?_
            rotate_left
            ·intro w'
             go_simp
             with_reducible rfl
            rotate_left
            ·simp only [Act.put,List.setIfInBounds_toArray,List.set_cons_zero,List.set_cons_succ,i64_w,i32_w]
             rfl
            refine pure_ (i := 10) (N := some 38) (v := ?_) (a' := ?_) (ab 15 1045) rfl rfl (any_of HT_.out (by kernel_rfl)) (fun _ _ _ h => h) (Or.inl ⟨by rfl,?_⟩) ?_ ?_
            rotate_left
            ·intro w'
             go_simp
             with_reducible rfl
            rotate_left
            ·simp only [Act.put,List.setIfInBounds_toArray,List.set_cons_zero,List.set_cons_succ,i64_w,i32_w]
             rfl
            refine pure_ (i := 11) (N := some 39) (v := ?_) (a' := ?_) (ab 15 3093) rfl rfl (any_of HT_.out (by kernel_rfl)) (fun _ _ _ h => h) (Or.inl ⟨by rfl,?_⟩) ?_ ?_
            rotate_left
            ·intro w'
             go_simp
             with_reducible rfl
            rotate_left
            ·simp only [Act.put,List.setIfInBounds_toArray,List.set_cons_zero,List.set_cons_succ,i64_w,i32_w]
             rfl
            refine pure_ (i := 12) (N := some 40) (v := ?_) (a' := ?_) (ab 15 7189) rfl rfl (any_of HT_.out (by kernel_rfl)) (fun _ _ _ h => h) (Or.inl ⟨by rfl,?_⟩) ?_ ?_
            rotate_left
            ·intro w'
             go_simp
             with_reducible rfl
            rotate_left
            ·simp only [Act.put,List.setIfInBounds_toArray,List.set_cons_zero,List.set_cons_succ,i64_w,i32_w]
             rfl
            refine take_ (i := 1) (N := some 29) (v := ?_) (a' := ?_) (ab 15 7191) rfl rfl (take_ofW HT_.out HW_.out (by kernel_rfl)) (fun _ _ _ h => h) (Or.inl ⟨by rfl,?_⟩) hHeld ?_ ?_
            rotate_left
            ·rintro w' ⟨s0,s1,s2,s3,s4,s5,s6,s7,s8,s9,s10,s11,s12,s13,s14,s15⟩
             go_simp
             with_reducible rfl
            rotate_left
            ·simp only [Act.put,List.setIfInBounds_toArray,List.set_cons_zero,List.set_cons_succ,i64_w,i32_w]
             rfl
            refine take_ (i := 3) (N := some 31) (v := ?_) (a' := ?_) (ab 15 7199) rfl rfl (take_ofW HT_.out HW_.out (by kernel_rfl)) (fun _ _ _ h => h) (Or.inl ⟨by rfl,?_⟩) hHeld ?_ ?_
            rotate_left
            ·rintro w' ⟨s0,s1,s2,s3,s4,s5,s6,s7,s8,s9,s10,s11,s12,s13,s14,s15⟩
             go_simp
             with_reducible rfl
            rotate_left
            ·simp only [Act.put,List.setIfInBounds_toArray,List.set_cons_zero,List.set_cons_succ,i64_w,i32_w]
             rfl
            refine take_ (i := 5) (N := some 33) (v := ?_) (a' := ?_) (ab 15 7231) rfl rfl (take_ofW HT_.out HW_.out (by kernel_rfl)) (fun _ _ _ h => h) (Or.inl ⟨by rfl,?_⟩) hHeld ?_ ?_
            rotate_left
            ·rintro w' ⟨s0,s1,s2,s3,s4,s5,s6,s7,s8,s9,s10,s11,s12,s13,s14,s15⟩
             go_simp
             with_reducible rfl
            rotate_left
            ·simp only [Act.put,List.setIfInBounds_toArray,List.set_cons_zero,List.set_cons_succ,i64_w,i32_w]
             rfl
            refine pure_ (i := 6) (N := some 34) (v := ?_) (a' := ?_) (ab 15 7295) rfl rfl (any_of HT_.out (by kernel_rfl)) (fun _ _ _ h => h) (Or.inl ⟨by rfl,?_⟩) ?_ ?_
            rotate_left
            ·intro w'
             go_simp
             with_reducible rfl
            rotate_left
            ·simp only [Act.put,List.setIfInBounds_toArray,List.set_cons_zero,List.set_cons_succ,i64_w,i32_w]
             rfl
            refine pure_ (i := 7) (N := some 35) (v := ?_) (a' := ?_) (ab 15 7423) rfl rfl (any_of HT_.out (by kernel_rfl)) (fun _ _ _ h => h) (Or.inl ⟨by rfl,?_⟩) ?_ ?_
            rotate_left
            ·intro w'
             go_simp
             with_reducible rfl
            rotate_left
            ·simp only [Act.put,List.setIfInBounds_toArray,List.set_cons_zero,List.set_cons_succ,i64_w,i32_w]
             rfl
            refine pure_ (i := 8) (N := some 36) (v := ?_) (a' := ?_) (ab 15 7679) rfl rfl (any_of HT_.out (by kernel_rfl)) (fun _ _ _ h => h) (Or.inl ⟨by rfl,?_⟩) ?_ ?_
            rotate_left
            ·intro w'
             go_simp
             with_reducible rfl
            rotate_left
            ·simp only [Act.put,List.setIfInBounds_toArray,List.set_cons_zero,List.set_cons_succ,i64_w,i32_w]
             rfl
            refine take_ (i := 9) (N := some 37) (v := ?_) (a' := ?_) (ab 15 8191) rfl rfl (take_ofW HT_.out HW_.out (by kernel_rfl)) (fun _ _ _ h => h) (Or.inl ⟨by rfl,?_⟩) hHeld ?_ ?_
            rotate_left
            ·rintro w' ⟨s0,s1,s2,s3,s4,s5,s6,s7,s8,s9,s10,s11,s12,s13,s14,s15⟩
             go_simp
             with_reducible rfl
            rotate_left
            ·simp only [Act.put,List.setIfInBounds_toArray,List.set_cons_zero,List.set_cons_succ,i64_w,i32_w]
             rfl
            refine take_ (i := 13) (N := some 41) (v := ?_) (a' := ?_) (ab 15 16383) rfl rfl (take_ofW HT_.out HW_.out (by kernel_rfl)) (fun _ _ _ h => h) (Or.inl ⟨by rfl,?_⟩) hHeld ?_ ?_
            rotate_left
            ·rintro w' ⟨s0,s1,s2,s3,s4,s5,s6,s7,s8,s9,s10,s11,s12,s13,s14,s15⟩
             go_simp
             with_reducible rfl
            rotate_left
            ·simp only [Act.put,List.setIfInBounds_toArray,List.set_cons_zero,List.set_cons_succ,i64_w,i32_w]
             rfl
            by_cases c27 : t243 = true
            ·subst c27
             rw [if_pos rfl] at H
             by_cases c28 : x3_2.length < 17592186044416
             ·rw [if_pos c28] at H
              have LMc28 := QV c28
              clear c28
              obtain ⟨y245,hy245⟩ : ∃ y_ : List Int,y_ = (x3_2 ++ [rd t238 x5_2]) := ⟨_,rfl⟩
              replace H : (spec_Playable.l0 k2 y245 t238 (wrap64 (x5_2 + 1)) a0_0 a0_1 a0_2 a0_3 l0_4 l0_5 a0_6 a0_7 l0_8 l0_9 l0_10 a0_11 a0_12 a0_13) = some r := by first | (rw [hy245]; with_reducible exact H) | (have H2_ := (Option.bind_some _ _).symm.trans H; rw [hy245]; with_reducible exact H2_) | (have H2_ := (Option.bind_some _ _).symm.trans H; with_reducible exact H2_) | with_reducible exact H | (rw [hy245]; exact H) | exact H
              have Ny245 := QV hy245
              clear hy245
              have H' := QV H
              clear H
              refine one_ (i := 14) (N := some 42) (ab 15 32767) rfl rfl (one_of HT_.out (by kernel_rfl)) (by decide) (fun K hK => ?_)
              refine goes_ Try.func28 (by kernel_rfl) rfl #[.agg #[.int .i64 a0_0,.int .i64 a0_1,.bool a0_2,.bool a0_3,.slice A0_4 l0_4.length c0_4,.slice A0_5 l0_5.length c0_5,.int .i64 a0_6,.int .i64 a0_7],.int .i64 (rd l0_10 (ji22)),.int .i64 (rd t238 x5_2)] (by rfl) rfl rfl (by (try simp only [List.map_toArray,List.map_cons,List.map_nil]); first | done | (simp only [hji22]; rfl) | rfl | (simp only [List.length_drop,List.length_take]; rfl)) ?_
              with_reducible refine (spec_FitsOn.calls k2 a0_0 a0_1 a0_2 a0_3 _ _ l0_4 _ _ l0_5 a0_6 a0_7 (rd l0_10 (ji22)) (rd t238 x5_2) true _ ?side1 ?side2 ?side3 ?side4 A26.out).mono ?_
              (case side1 => repeat (first | exact (QN HR0_4.out HB.out) | (with_reducible refine QO ?_ _) | (with_reducible refine QP ?_ _) | (with_reducible refine QR ?_)))
              (case side2 => exact HC0_4.out)
              (case side3 => repeat (first | exact (QN HR0_5.out HB.out) | (with_reducible refine QO ?_ _) | (with_reducible refine QP ?_ _) | (with_reducible refine QR ?_)))
              (case side4 => exact HC0_5.out)
              rintro e w31 ⟨rfl,hb⟩
              have HS15_ := (hb.cell (World.block_lt_of_cell? _ _ (hHeld.2.2.2.2.2.2.2.2.2.2.2.2.2.2.2))).trans (hHeld.2.2.2.2.2.2.2.2.2.2.2.2.2.2.2)
              refine ⟨_,rfl,?_⟩
              have n0_ := QV (Kd.R_below (by (with_reducible repeat (first | apply QJ | apply QK | apply QM)); exact HO_3.out) hb)
              have n1_ := QV (Kd.R_below (by (with_reducible repeat (first | apply QJ | apply QK | apply QM)); exact HO_4.out) hb)
              have n2_ := QV (QU (g := gb231) (o := .cells #[.int .i64 a0_0,.int .i64 a0_1,.bool a0_2,.bool a0_3,.slice A0_4 l0_4.length c0_4,.slice A0_5 l0_5.length c0_5,.int .i64 a0_6,.int .i64 a0_7,.slice (some ad237) l0_8.length c0_8,.slice A0_9 l0_9.length c0_9,.slice (some ad241) l0_10.length c0_10,.int .i64 a0_11,.int .i64 a0_12,.int .i64 a0_13] 32 (0,0)) (by (with_reducible repeat (first | refine QH ?_ _ | refine QL ?_ | refine QI ?_ _)); exact BK231.out) hb)
              have n3_ := QV (QT (by repeat (first | (with_reducible first | exact HB.out | apply QF | apply QD | apply QE | refine QG ?_ GE231.out) | exact HB.out)) hb)
              clear HO_3
              clear HO_4
              clear BK231
              clear HB
              revert n0_ n1_ n2_ n3_
              intro HO_3 HO_4 BK231 HB
              (try clear hb)
              (try clear hb2)
              (try clear hk)
              (try clear hi)
              refine hK.out _ _ ⟨(QC BK231.out 0).trans rfl,(QC BK231.out 1).trans rfl,(QC BK231.out 2).trans rfl,(QC BK231.out 3).trans rfl,(QC BK231.out 4).trans rfl,(QC BK231.out 5).trans rfl,(QC BK231.out 6).trans rfl,(QC BK231.out 7).trans rfl,(QC BK231.out 8).trans rfl,(QC BK231.out 9).trans rfl,(QC BK231.out 10).trans rfl,(QC BK231.out 11).trans rfl,(QC BK231.out 12).trans rfl,(QC BK231.out 13).trans rfl,((HB.out.cell (World.block_lt_of_cell? w _ hw241_0)).trans hw241_0),HS15_⟩ (fun hHeld => ?_)
              clear hK K
              refine norm_ (a' := ?_) ?_ ?_
              rotate_left
              ·show Act.put _ (some 42) _ = _
               simp only [Act.put,List.setIfInBounds_toArray,List.set_cons_zero,List.set_cons_succ,i64_w,i32_w]
               rfl
              refine done_ (done_of HT_.out (by kernel_rfl)) ?_
              have p244 : 0 ≤ (x5_2 : Int) := of_decide_eq_true (by first | (with_reducible assumption) | assumption)
              have q244 : x5_2 < (t238.length : Int) := of_decide_eq_true (by first | (with_reducible assumption) | assumption)
              obtain ⟨ad244,e244,hx244_0⟩ := Kd.at_int (Kd.R_reads' HO_4.out).2.2 x5_2 p244 q244
              obtain rfl : ad242 = ad244 := (by injection e244)
              replace p244 := eq_true p244
              replace q244 := eq_true q244
              try go_wp2_with (first | ((with_reducible refine gate_builtin (b := .append) (xs := #[.tmp 43,.tmp 48]) rfl ?_); at_builtin; refine Kd.R_append (Kd.int .i64) (w0 := w) w.heap.size rfl (.tmp 43) (.tmp 48) 22 3 (.int .i64 0) 8 rfl Try.underlying22 info3 rfl (by decide) (by omega) u3 x3_2 (rd t238 x5_2) [.int .i64 (rd t238 x5_2)] (fun k_ => some k_ ≠ (.slice (some ad242) t238.length co29 : Value).ownBlock) (fun _ => False) rfl rfl ?aP (fun _ hk => hk.elim) ?aF ?aO ?aB ?aS ?aL ?_; (case aP => exact rfl); (case aB => exact (by repeat (first | (with_reducible first | exact HB.out | apply QF | apply QD | apply QE | refine QG ?_ GE231.out) | exact HB.out))); (case aF => exact (fun k_ hk => Kd.fresh' (Kd.R_lt (by (with_reducible repeat (first | apply QJ | apply QK | apply QM)); exact HO_4.out)) k_ hk)); (case aO => exact (by (with_reducible repeat (first | apply QJ | apply QK | apply QM)); exact HO_3.out)); (case aS => exact (QS (by repeat (first | (with_reducible first | exact HB.out | apply QF | apply QD | apply QE | refine QG ?_ GE231.out) | exact HB.out)))); (case aL => have := LMc28.out; omega); intro v246 w32 ho hb hg hat; rw [← Ny245.out] at ho; have n0_ := QV (Kd.R_after (ok := (fun _ => True)) (by (with_reducible repeat (first | apply QJ | apply QK | apply QM)); exact Kd.R_mono HO_4.out (fun _ hk => ⟨trivial,hk⟩)) hg hat); have n1_ := QV (blk_grown (g := gb231) (o := .cells #[.int .i64 a0_0,.int .i64 a0_1,.bool a0_2,.bool a0_3,.slice A0_4 l0_4.length c0_4,.slice A0_5 l0_5.length c0_5,.int .i64 a0_6,.int .i64 a0_7,.slice (some ad237) l0_8.length c0_8,.slice A0_9 l0_9.length c0_9,.slice (some ad241) l0_10.length c0_10,.int .i64 a0_11,.int .i64 a0_12,.int .i64 a0_13] 32 (0,0)) (by (with_reducible repeat (first | refine QH ?_ _ | refine QL ?_ | refine QI ?_ _)); exact BK231.out) hg (Kd.R_ne HO_3.out BK231.out (by decide))); have n2_ := QV (hb); have n3_ := QV (ho); clear HO_4; clear BK231; clear HB; clear HO_3; revert n0_ n1_ n2_ n3_; intro HO_4 BK231 HB HO247; clear ho hb hg hat))
              go_roundg k2
              case measure => have := HJ1.out; have := HK2.out; omega
              case rel => exact ⟨(y245),(wrap64 (x5_2 + 1)),(by first | rfl | (simp; done) | (simp [*]; done)),H',⟨by have := HJ1.out; have := HK2.out; omega⟩,⟨by (with_reducible repeat (first | apply QJ | apply QK | apply QM)); exact HO247.out⟩,⟨by (with_reducible repeat (first | apply QJ | apply QK | apply QM)); exact Kd.R_mono HO_4.out (by first | exact fun k_ hk => hk.2 | exact fun k_ hk => hk)⟩,⟨by (with_reducible repeat (first | refine QH ?_ _ | refine QL ?_ | refine QI ?_ _)); exact BK231.out⟩,⟨by repeat (first | (with_reducible first | exact HB.out | apply QF | apply QD | apply QE | refine QG ?_ GE231.out) | exact HB.out)⟩⟩
             ·rw [if_neg c28] at H
              exact absurd H (by simp)
            ·replace c27 := Bool.eq_false_iff.mpr c27
             subst c27
             rw [if_neg (show ¬ (false = true) by decide)] at H
             have H' := QV H
             clear H
             refine one_ (i := 14) (N := some 42) (ab 15 32767) rfl rfl (one_of HT_.out (by kernel_rfl)) (by decide) (fun K hK => ?_)
             refine goes_ Try.func28 (by kernel_rfl) rfl #[.agg #[.int .i64 a0_0,.int .i64 a0_1,.bool a0_2,.bool a0_3,.slice A0_4 l0_4.length c0_4,.slice A0_5 l0_5.length c0_5,.int .i64 a0_6,.int .i64 a0_7],.int .i64 (rd l0_10 (ji22)),.int .i64 (rd t238 x5_2)] (by rfl) rfl rfl (by (try simp only [List.map_toArray,List.map_cons,List.map_nil]); first | done | (simp only [hji22]; rfl) | rfl | (simp only [List.length_drop,List.length_take]; rfl)) ?_
             with_reducible refine (spec_FitsOn.calls k2 a0_0 a0_1 a0_2 a0_3 _ _ l0_4 _ _ l0_5 a0_6 a0_7 (rd l0_10 (ji22)) (rd t238 x5_2) false _ ?side1 ?side2 ?side3 ?side4 A26.out).mono ?_
             (case side1 => repeat (first | exact (QN HR0_4.out HB.out) | (with_reducible refine QO ?_ _) | (with_reducible refine QP ?_ _) | (with_reducible refine QR ?_)))
             (case side2 => exact HC0_4.out)
             (case side3 => repeat (first | exact (QN HR0_5.out HB.out) | (with_reducible refine QO ?_ _) | (with_reducible refine QP ?_ _) | (with_reducible refine QR ?_)))
             (case side4 => exact HC0_5.out)
             rintro e w35 ⟨rfl,hb⟩
             have HS15_ := (hb.cell (World.block_lt_of_cell? _ _ (hHeld.2.2.2.2.2.2.2.2.2.2.2.2.2.2.2))).trans (hHeld.2.2.2.2.2.2.2.2.2.2.2.2.2.2.2)
             refine ⟨_,rfl,?_⟩
             have n0_ := QV (Kd.R_below (by (with_reducible repeat (first | apply QJ | apply QK | apply QM)); exact HO_3.out) hb)
             have n1_ := QV (Kd.R_below (by (with_reducible repeat (first | apply QJ | apply QK | apply QM)); exact HO_4.out) hb)
             have n2_ := QV (QU (g := gb231) (o := .cells #[.int .i64 a0_0,.int .i64 a0_1,.bool a0_2,.bool a0_3,.slice A0_4 l0_4.length c0_4,.slice A0_5 l0_5.length c0_5,.int .i64 a0_6,.int .i64 a0_7,.slice (some ad237) l0_8.length c0_8,.slice A0_9 l0_9.length c0_9,.slice (some ad241) l0_10.length c0_10,.int .i64 a0_11,.int .i64 a0_12,.int .i64 a0_13] 32 (0,0)) (by (with_reducible repeat (first | refine QH ?_ _ | refine QL ?_ | refine QI ?_ _)); exact BK231.out) hb)
             have n3_ := QV (QT (by repeat (first | (with_reducible first | exact HB.out | apply QF | apply QD | apply QE | refine QG ?_ GE231.out) | exact HB.out)) hb)
             clear HO_3
             clear HO_4
             clear BK231
             clear HB
             revert n0_ n1_ n2_ n3_
             intro HO_3 HO_4 BK231 HB
             (try clear hb)
             (try clear hb2)
             (try clear hk)
             (try clear hi)
             refine hK.out _ _ ⟨(QC BK231.out 0).trans rfl,(QC BK231.out 1).trans rfl,(QC BK231.out 2).trans rfl,(QC BK231.out 3).trans rfl,(QC BK231.out 4).trans rfl,(QC BK231.out 5).trans rfl,(QC BK231.out 6).trans rfl,(QC BK231.out 7).trans rfl,(QC BK231.out 8).trans rfl,(QC BK231.out 9).trans rfl,(QC BK231.out 10).trans rfl,(QC BK231.out 11).trans rfl,(QC BK231.out 12).trans rfl,(QC BK231.out 13).trans rfl,((HB.out.cell (World.block_lt_of_cell? w _ hw241_0)).trans hw241_0),HS15_⟩ (fun hHeld => ?_)
             clear hK K
             refine norm_ (a' := ?_) ?_ ?_
             rotate_left
             ·show Act.put _ (some 42) _ = _
              simp only [Act.put,List.setIfInBounds_toArray,List.set_cons_zero,List.set_cons_succ,i64_w,i32_w]
              rfl
             refine done_ (done_of HT_.out (by kernel_rfl)) ?_
             try go_wp2
             go_roundg k2
             case measure => have := HJ1.out; have := HK2.out; omega
             case rel => exact ⟨(x3_2),(wrap64 (x5_2 + 1)),(by first | rfl | (simp; done) | (simp [*]; done)),H',⟨by have := HJ1.out; have := HK2.out; omega⟩,⟨by (with_reducible repeat (first | apply QJ | apply QK | apply QM)); exact HO_3.out⟩,⟨by (with_reducible repeat (first | apply QJ | apply QK | apply QM)); exact HO_4.out⟩,⟨by (with_reducible repeat (first | refine QH ?_ _ | refine QL ?_ | refine QI ?_ _)); exact BK231.out⟩,⟨by repeat (first | (with_reducible first | exact HB.out | apply QF | apply QD | apply QE | refine QG ?_ GE231.out) | exact HB.out)⟩⟩
           ·rw [if_neg c25] at H
            exact absurd H (by simp)
          ·rw [if_neg c24] at H
           exact absurd H (by simp)
         ·rw [if_neg c23] at H
          exact absurd H (by simp)
        ·rw [if_neg c21] at H
         have c21b0 : decide (x5_2 < (t238.length : Int)) = false := decide_eq_false c21
         clear c21
         obtain rfl := Option.some.inj H
         obtain ⟨Ao36,co36,eo36⟩ := Kd.R_slice HO_4.out
         subst eo36
         go_wp2
         go_ret
         exact ⟨_,by first | rfl | (simp [errW_none,errW_some] <;> rfl) | (simp [*,errW_none,errW_some] <;> rfl),by (with_reducible repeat (first | apply QJ | apply QK | apply QM)); exact Kd.R_mono HO_3.out (fun _ hk => trivial),by repeat (first | (with_reducible first | exact HB.out | apply QF | apply QD | apply QE | refine QG ?_ GE231.out) | exact HB.out)⟩
     ·rw [if_neg c17] at H
      exact absurd H (by simp)
    ·rw [if_neg c16] at H
     exact absurd H (by simp)

/-! ### spec_SuitCounts: function 13 -/
def spec_SuitCounts.l0 : Nat → List Int → List Int → Int → Option (List Int)
 | 0,_,_,_ => none
 | k + 1,x0,x3,x4 => if x4 < (x0.length : Int) then (if 0 ≤ x4 then ((spec_SuitOf.f (rd x0 x4)).bind fun t252 => (if t252 ≥ 0 then (if 0 ≤ t252 then (if t252 < (x3.length : Int) then (spec_SuitCounts.l0 k x0 (x3.set (t252 : Int).toNat (wrap64 ((rd x3 t252) + 1))) (wrap64 (x4 + 1))) else (none)) else (none)) else (spec_SuitCounts.l0 k x0 x3 (wrap64 (x4 + 1))))) else (none)) else (some x3)
def spec_SuitCounts.f (k : Nat) (l0 : List Int) : Option (List Int) := if 4 ≤ 35184372088832 then (spec_SuitCounts.l0 k l0 (List.replicate 4 0) 0) else (none)
theorem spec_SuitCounts.mono_l : ∀ k, (∀ y0 y1 y2, LeO (spec_SuitCounts.l0 k y0 y1 y2) (spec_SuitCounts.l0 (k + 1) y0 y1 y2))
 | 0 => fun _ _ _ r h => by simp [spec_SuitCounts.l0] at h
 | k + 1 => by
  have ih0 := spec_SuitCounts.mono_l k
  ·intro y0 y1 y2
   unfold spec_SuitCounts.l0
   repeat' first
   | (with_reducible exact ih0 _ _ _)
   | (with_reducible exact LeO.refl _)
   | (with_reducible exact LeO.none _)
   | (with_reducible refine LeO.ite ?_ ?_)
   | (with_reducible refine LeO.bind ?_ (fun _ => ?_))
   | exact ih0 _ _ _
   | exact LeO.none _
   | refine LeO.ite ?_ ?_
   | refine LeO.bind ?_ (fun _ => ?_)
theorem spec_SuitCounts.mono : ∀ a0 k, LeO (spec_SuitCounts.f k a0) (spec_SuitCounts.f (k + 1) a0) := by
 intro a0 k
 have ih0 := spec_SuitCounts.mono_l k
 unfold spec_SuitCounts.f
 repeat' first
   | (with_reducible exact ih0 _ _ _)
   | (with_reducible exact LeO.refl _)
   | (with_reducible exact LeO.none _)
   | (with_reducible refine LeO.ite ?_ ?_)
   | (with_reducible refine LeO.bind ?_ (fun _ => ?_))
   | exact ih0 _ _ _
   | exact LeO.none _
   | refine LeO.ite ?_ ?_
   | refine LeO.bind ?_ (fun _ => ?_)
set_option maxHeartbeats 8000000 in
set_option maxRecDepth 100000 in
theorem spec_SuitCounts.calls (k : Nat) (A0 : Option Addr) (c0 : Nat) (l0 : List Int) (r : List Int) (w : World) (hr0 : Kd.C (Kd.int .i64) w A0 l0.length l0) (hc0 : l0.length ≤ c0) (h : spec_SuitCounts.f k l0 = some r) :
  Calls Try.prog 13 #[.slice A0 l0.length c0] w fun e w' => ∃ v0_ : Value,e = .returned (v0_) ∧ Kd.R (Kd.int .i64) 3 w' w.heap.size (fun _ => True) v0_ r ∧ Below w.heap.size w w' := by
 have HR0 := QV hr0
 have HC0 := QV hc0
 clear hr0 hc0
 have HB := QV (Below.refl w.heap.size w)
 have H : (if 4 ≤ 35184372088832 then (spec_SuitCounts.l0 k l0 (List.replicate 4 0) 0) else (none)) = some r := h
 clear h
 by_cases c2 : 4 ≤ 35184372088832
 ·rw [if_pos c2] at H
  have c2b0 := eq_true c2
  have c2b1 : decide (4 ≤ 35184372088832) = true := decide_eq_true c2
  clear c2
  obtain ⟨y248,hy248⟩ : ∃ y_ : List Int,y_ = (List.replicate 4 0) := ⟨_,rfl⟩
  replace H : (spec_SuitCounts.l0 k l0 y248 0) = some r := by first | (rw [hy248]; with_reducible exact H) | (have H2_ := (Option.bind_some _ _).symm.trans H; rw [hy248]; with_reducible exact H2_) | (have H2_ := (Option.bind_some _ _).symm.trans H; with_reducible exact H2_) | with_reducible exact H | (rw [hy248]; exact H) | exact H
  have Ny248 := QV hy248
  clear hy248
  have H' := QV H
  clear H
  go_enter Try.func13,Try.ntmps13
  go_wp2_with (first | ((with_reducible refine gate_dst (N := 6) rfl ?_); refine Kd.R_make (Kd.int .i64) _ 3 rfl (N := 6) rfl 22 _ _ rfl 4 rfl rfl Try.underlying22 (.int .i64 0) 8 info3 rfl (by decide) (by omega) 0 (ok := fun _ => True) (okp := fun _ => True) rfl (fun _ hk => hk) trivial (by omega) (by omega) (Below.refl _ _) (Nat.le_refl _) ?_; intro v249 w3 ho4 hb hg_ hnew_; clear hg_ hnew_; (first | rw [← Ny248.out] at ho4 | (simp only [Int.reduceToNat] at ho4; rw [← Ny248.out] at ho4)); have n0_ := QV (Kd.R_lower ho4 (QS (by repeat (first | (with_reducible first | exact HB.out | apply QF | apply QD | apply QE) | exact HB.out)))); have n1_ := QV (QT (by repeat (first | (with_reducible first | exact HB.out | apply QF | apply QD | apply QE) | exact HB.out)) hb); clear HB; revert n0_ n1_; intro HO250 HB; clear hb ho4))
  go_loopg [4] k (fun kq v4 w' => ∃ (x3_1 : List Int) (x4_1 : Int),v4 = .int .i64 x4_1 ∧ Aside0 (spec_SuitCounts.l0 kq l0 x3_1 x4_1 = some r) ∧ Aside0 (kq ≤ k) ∧ Aside0 (Kd.R (Kd.int .i64) 3 w' w.heap.size (fun _ => True) v249 x3_1) ∧ Aside0 (Below w.heap.size w w'))
  case atStart => exact ⟨(y248),(0),(by first | rfl | (simp; done) | (simp [*]; done)),H',⟨Nat.le_refl _⟩,⟨by (with_reducible repeat (first | apply QJ | apply QK | apply QM)); exact HO250.out⟩,⟨by repeat (first | (with_reducible first | exact HB.out | apply QF | apply QD | apply QE) | exact HB.out)⟩⟩
  case round =>
   clear H'
   try clear c1
   try clear c2
   try clear c2b0
   try clear c2b1
   try clear p2
   obtain ⟨x3_1,x4_1,rfl,HA,HK1,HO_3,HB⟩ := hrel
   cases gk with
   | zero => exact absurd HA.out (by simp [spec_SuitCounts.l0])
   | succ k1 =>
    have H := HA.out
    clear HA
    simp only [spec_SuitCounts.l0] at H
    by_cases c5 : x4_1 < (l0.length : Int)
    ·rw [if_pos c5] at H
     have c5b0 : decide (x4_1 < (l0.length : Int)) = true := decide_eq_true c5
     clear c5
     by_cases c6 : 0 ≤ x4_1
     ·rw [if_pos c6] at H
      have c6b0 : decide (0 ≤ x4_1) = true := decide_eq_true c6
      clear c6
      replace H := Option.bind_eq_some_iff.mp H
      obtain ⟨t252,A70,H⟩ := H
      have A7 := QV A70
      clear A70
      by_cases c8 : t252 ≥ 0
      ·rw [if_pos c8] at H
       have c8b0 : decide (0 ≤ t252) = true := decide_eq_true c8
       clear c8
       by_cases c9 : 0 ≤ t252
       ·rw [if_pos c9] at H
        have c9b0 : decide (0 ≤ t252) = true := decide_eq_true c9
        clear c9
        by_cases c10 : t252 < (x3_1.length : Int)
        ·rw [if_pos c10] at H
         have c10b0 : decide (t252 < (x3_1.length : Int)) = true := decide_eq_true c10
         clear c10
         obtain ⟨y254,hy254⟩ : ∃ y_ : List Int,y_ = (x3_1.set (t252 : Int).toNat (wrap64 ((rd x3_1 t252) + 1))) := ⟨_,rfl⟩
         replace H : (spec_SuitCounts.l0 k1 l0 y254 (wrap64 (x4_1 + 1))) = some r := by first | (rw [hy254]; with_reducible exact H) | (have H2_ := (Option.bind_some _ _).symm.trans H; rw [hy254]; with_reducible exact H2_) | (have H2_ := (Option.bind_some _ _).symm.trans H; with_reducible exact H2_) | with_reducible exact H | (rw [hy254]; exact H) | exact H
         have Ny254 := QV hy254
         clear hy254
         have H' := QV H
         clear H
         have p251 : 0 ≤ (x4_1 : Int) := of_decide_eq_true (by first | (with_reducible assumption) | assumption)
         have q251 : x4_1 < (l0.length : Int) := of_decide_eq_true (by first | (with_reducible assumption) | assumption)
         obtain ⟨ad251,e251,hx251_0⟩ := Kd.at_int HR0.out x4_1 p251 q251
         cases e251
         replace hx251_0 := (HB.out.cell (World.block_lt_of_cell? w _ hx251_0)).trans hx251_0
         replace p251 := eq_true p251
         replace q251 := eq_true q251
         go_wp2_with (first | ((with_reducible refine gate_callee (f := 14) rfl ?_); refine goesL_ (some 17) rfl rfl Try.func14 (by kernel_rfl) rfl #[.int .i64 (rd l0 x4_1)] rfl (by (try simp only [List.map_toArray,List.map_cons,List.map_nil]); first | done | rfl | (simp only [List.length_drop,List.length_take]; rfl)) ?_; (with_reducible refine (spec_SuitOf.calls (rd l0 x4_1) t252 _ A7.out).mono ?_); rintro e w' ⟨rfl,⟨nd,rfl⟩⟩; refine ⟨_,rfl,?_⟩; (try (rw [drewN_self wr]; generalize hq_ : World.drewN wr _ = wr; have n0_ : Aside0 (Kd.R (Kd.int .i64) 3 wr w.heap.size (fun _ => True) v249 x3_1) := ⟨by rw [← hq_]; exact (by (with_reducible repeat (first | apply QJ | apply QK | apply QM)); exact HO_3.out)⟩; have n1_ : Aside0 (Below w.heap.size w wr) := ⟨by rw [← hq_]; exact (by repeat (first | (with_reducible first | exact HB.out | apply QF | apply QD | apply QE) | exact HB.out))⟩; clear HO_3 HB hq_; revert n0_ n1_; intro HO_3 HB)); obtain ⟨Ao12,co12,eo12⟩ := Kd.R_slice HO_3.out; subst eo12; have p253 : 0 ≤ (t252 : Int) := of_decide_eq_true (by first | (with_reducible assumption) | assumption); have q253 : t252 < (x3_1.length : Int) := of_decide_eq_true (by first | (with_reducible assumption) | assumption); obtain ⟨ad253,e253,hx253_0⟩ := Kd.at_int (Kd.R_reads' HO_3.out).2.2 t252 p253 q253; cases e253; replace p253 := eq_true p253; replace q253 := eq_true q253; have p11 : 0 ≤ (t252 : Int) := of_decide_eq_true (by first | (with_reducible assumption) | assumption); have q11 : (t252 : Int) < ((x3_1.length : Int) : Int) := of_decide_eq_true (by first | (with_reducible assumption) | assumption); obtain ⟨go11,co11,eo11,gb11,gl11,cl11,HG11⟩ := Kd.R_form HO_3.out (by omega); (first | cases eo11 | (injection eo11 with ea_ en_ ec_; (first | subst ea_ | (injection ea_ with ea_; subst ea_)); subst ec_; clear en_)); have GB11 := QV gb11; have GG11 := QV HG11; clear gb11 gl11 HG11; (first | simp only [add_plain] at hx253_0 | skip); obtain ⟨hx11_0,hf11_0⟩ := Kd.R_celln 0 HO_3.out (t252 : Int) p11 q11; replace p11 := eq_true p11; replace q11 := eq_true q11; obtain ⟨hy13_,hz13_⟩ := Kd.R_celln 0 HO_3.out (t252 : Int) (of_decide_eq_true (by first | (with_reducible assumption) | assumption)) (of_decide_eq_true (by first | (with_reducible assumption) | assumption)); have HP13 := Kd.R_putg HO_3.out (t252 : Int) (wrap64 ((rd x3_1 t252) + 1))) | ((with_reducible refine gate_store (t := 3) (p := 27) rfl ?_); refine store_event (t := 3) (p := 27) (v := ?vo_w14) (w1 := (wr.setCell ⟨go11,(t252 : Int).toNat,none⟩ (.int .i64 (wrap64 ((rd x3_1 t252) + 1))))) ?hg ?ho ?hn ?hr ?_; (case ho => rfl); (case hg => rfl); (case hn => rfl); (case hr => first | (go_simp; done) | (go_simp; rfl)); intro w14 hw; have hg : wr.grownBy w14 (some go11) := (by rw [hw]; exact HP13.2); have hp_ : Kd.R (Kd.int .i64) 3 w14 w.heap.size (fun _ => True) (.slice (some ⟨go11,0,none⟩) x3_1.length co12) y254 := (by rw [hw,Ny254.out]; exact HP13.1); clear HP13; have n0_ := QV (hp_); have n1_ := QV ((by rw [hw]; exact QG (HB.out) GB11.out : Below w.heap.size w w14)); clear HO_3; clear HB; revert n0_ n1_; intro HO_3 HB; clear hg hw hp_))
         go_roundg k1
         case measure => have := HK1.out; omega
         case rel => exact ⟨(y254),(wrap64 (x4_1 + 1)),(by first | rfl | (simp; done) | (simp [*]; done)),H',⟨by have := HK1.out; omega⟩,⟨by (with_reducible repeat (first | apply QJ | apply QK | apply QM)); exact HO_3.out⟩,⟨by repeat (first | (with_reducible first | exact HB.out | apply QF | apply QD | apply QE) | exact HB.out)⟩⟩
        ·rw [if_neg c10] at H
         exact absurd H (by simp)
       ·rw [if_neg c9] at H
        exact absurd H (by simp)
      ·rw [if_neg c8] at H
       have c8b0 : decide (0 ≤ t252) = false := decide_eq_false c8
       clear c8
       have H' := QV H
       clear H
       have p251 : 0 ≤ (x4_1 : Int) := of_decide_eq_true (by first | (with_reducible assumption) | assumption)
       have q251 : x4_1 < (l0.length : Int) := of_decide_eq_true (by first | (with_reducible assumption) | assumption)
       obtain ⟨ad251,e251,hx251_0⟩ := Kd.at_int HR0.out x4_1 p251 q251
       cases e251
       replace hx251_0 := (HB.out.cell (World.block_lt_of_cell? w _ hx251_0)).trans hx251_0
       replace p251 := eq_true p251
       replace q251 := eq_true q251
       go_wp2_with (first | ((with_reducible refine gate_callee (f := 14) rfl ?_); refine goesL_ (some 17) rfl rfl Try.func14 (by kernel_rfl) rfl #[.int .i64 (rd l0 x4_1)] rfl (by (try simp only [List.map_toArray,List.map_cons,List.map_nil]); first | done | rfl | (simp only [List.length_drop,List.length_take]; rfl)) ?_; (with_reducible refine (spec_SuitOf.calls (rd l0 x4_1) t252 _ A7.out).mono ?_); rintro e w' ⟨rfl,⟨nd,rfl⟩⟩; refine ⟨_,rfl,?_⟩))
       go_roundg k1
       case measure => have := HK1.out; omega
       case rel => exact ⟨(x3_1),(wrap64 (x4_1 + 1)),(by first | rfl | (simp; done) | (simp [*]; done)),H',⟨by have := HK1.out; omega⟩,⟨by (with_reducible repeat (first | apply QJ | apply QK | apply QM)); exact HO_3.out⟩,⟨by repeat (first | (with_reducible first | exact HB.out | apply QF | apply QD | apply QE) | exact HB.out)⟩⟩
     ·rw [if_neg c6] at H
      exact absurd H (by simp)
    ·rw [if_neg c5] at H
     have c5b0 : decide (x4_1 < (l0.length : Int)) = false := decide_eq_false c5
     clear c5
     obtain rfl := Option.some.inj H
     go_wp2
     go_ret
     exact ⟨_,by first | rfl | (simp [errW_none,errW_some] <;> rfl) | (simp [*,errW_none,errW_some] <;> rfl),by (with_reducible repeat (first | apply QJ | apply QK | apply QM)); exact HO_3.out,by repeat (first | (with_reducible first | exact HB.out | apply QF | apply QD | apply QE) | exact HB.out)⟩
 ·rw [if_neg c2] at H
  exact absurd H (by simp)

/-! ### spec_MostOf: function 15 -/
def spec_MostOf.l0 : Nat → List Int → Int → Int → Option (Int)
 | 0,_,_,_ => none
 | k + 1,x0,x3,x4 => if x4 < (x0.length : Int) then (if x3 < 0 then (spec_MostOf.l0 k x0 x4 (wrap64 (x4 + 1))) else (if 0 ≤ x4 then (if 0 ≤ x3 then (if x3 < (x0.length : Int) then (if (rd x0 x4) > (rd x0 x3) then (spec_MostOf.l0 k x0 x4 (wrap64 (x4 + 1))) else (spec_MostOf.l0 k x0 x3 (wrap64 (x4 + 1)))) else (none)) else (none)) else (none))) else (some x3)
def spec_MostOf.f (k : Nat) (l0 : List Int) : Option (Int) := spec_MostOf.l0 k l0 (-1) 0
theorem spec_MostOf.mono_l : ∀ k, (∀ y0 y1 y2, LeO (spec_MostOf.l0 k y0 y1 y2) (spec_MostOf.l0 (k + 1) y0 y1 y2))
 | 0 => fun _ _ _ r h => by simp [spec_MostOf.l0] at h
 | k + 1 => by
  have ih0 := spec_MostOf.mono_l k
  ·intro y0 y1 y2
   unfold spec_MostOf.l0
   repeat' first
   | (with_reducible exact ih0 _ _ _)
   | (with_reducible exact LeO.refl _)
   | (with_reducible exact LeO.none _)
   | (with_reducible refine LeO.ite ?_ ?_)
   | (with_reducible refine LeO.bind ?_ (fun _ => ?_))
   | exact ih0 _ _ _
   | exact LeO.none _
   | refine LeO.ite ?_ ?_
   | refine LeO.bind ?_ (fun _ => ?_)
theorem spec_MostOf.mono : ∀ a0 k, LeO (spec_MostOf.f k a0) (spec_MostOf.f (k + 1) a0) := by
 intro a0 k
 have ih0 := spec_MostOf.mono_l k
 unfold spec_MostOf.f
 repeat' first
   | (with_reducible exact ih0 _ _ _)
   | (with_reducible exact LeO.refl _)
   | (with_reducible exact LeO.none _)
   | (with_reducible refine LeO.ite ?_ ?_)
   | (with_reducible refine LeO.bind ?_ (fun _ => ?_))
   | exact ih0 _ _ _
   | exact LeO.none _
   | refine LeO.ite ?_ ?_
   | refine LeO.bind ?_ (fun _ => ?_)
set_option maxHeartbeats 8000000 in
set_option maxRecDepth 100000 in
theorem spec_MostOf.calls (k : Nat) (A0 : Option Addr) (c0 : Nat) (l0 : List Int) (r : Int) (w : World) (hr0 : Kd.C (Kd.int .i64) w A0 l0.length l0) (hc0 : l0.length ≤ c0) (h : spec_MostOf.f k l0 = some r) :
  Calls Try.prog 15 #[.slice A0 l0.length c0] w fun e w' => e = .returned (.int .i64 r) ∧ Drawn0 w w' := by
 have HR0 := QV hr0
 have HC0 := QV hc0
 clear hr0 hc0
 have H : (spec_MostOf.l0 k l0 (-1) 0) = some r := h
 clear h
 have H' := QV H
 clear H
 go_enter Try.func15,Try.ntmps15
 go_wp2
 repeat (go_quiet (fail); try go_wp2)
 go_loopg [3,4] k (fun kq v3 v4 w' => ∃ (x3_1 : Int) (x4_1 : Int),v3 = .int .i64 x3_1 ∧ v4 = .int .i64 x4_1 ∧ Aside0 (spec_MostOf.l0 kq l0 x3_1 x4_1 = some r) ∧ Aside0 (kq ≤ k) ∧ Drawn0 w w')
 case atStart => exact ⟨((-1)),(0),(by first | rfl | (simp; done) | (simp [*]; done)),(by first | rfl | (simp; done) | (simp [*]; done)),H',⟨Nat.le_refl _⟩,by repeat (first | exact Drawn0.refl _ | apply Drawn0.step)⟩
 case round =>
  clear H'
  try clear c1
  obtain ⟨x3_1,x4_1,rfl,rfl,HA,HK1,⟨m1,rfl⟩⟩ := hrel
  cases gk with
  | zero => exact absurd HA.out (by simp [spec_MostOf.l0])
  | succ k1 =>
   have H := HA.out
   clear HA
   simp only [spec_MostOf.l0] at H
   by_cases c2 : x4_1 < (l0.length : Int)
   ·rw [if_pos c2] at H
    have c2b0 : decide (x4_1 < (l0.length : Int)) = true := decide_eq_true c2
    clear c2
    by_cases c3 : x3_1 < 0
    ·rw [if_pos c3] at H
     have c3b0 : decide (x3_1 < 0) = true := decide_eq_true c3
     clear c3
     have H' := QV H
     clear H
     go_wp2
     repeat (go_quiet (fail); try go_wp2)
     go_roundg k1
     case measure => have := HK1.out; omega
     case rel => exact ⟨(x4_1),(wrap64 (x4_1 + 1)),(by first | rfl | (simp; done) | (simp [*]; done)),(by first | rfl | (simp; done) | (simp [*]; done)),H',⟨by have := HK1.out; omega⟩,by repeat (first | exact Drawn0.refl _ | apply Drawn0.step)⟩
    ·rw [if_neg c3] at H
     have c3b0 : decide (x3_1 < 0) = false := decide_eq_false c3
     clear c3
     by_cases c4 : 0 ≤ x4_1
     ·rw [if_pos c4] at H
      have c4b0 : decide (0 ≤ x4_1) = true := decide_eq_true c4
      clear c4
      by_cases c5 : 0 ≤ x3_1
      ·rw [if_pos c5] at H
       have c5b0 : decide (0 ≤ x3_1) = true := decide_eq_true c5
       clear c5
       by_cases c6 : x3_1 < (l0.length : Int)
       ·rw [if_pos c6] at H
        have c6b0 : decide (x3_1 < (l0.length : Int)) = true := decide_eq_true c6
        clear c6
        by_cases c7 : (rd l0 x4_1) > (rd l0 x3_1)
        ·rw [if_pos c7] at H
         have c7b0 : decide ((rd l0 x3_1) < (rd l0 x4_1)) = true := decide_eq_true c7
         clear c7
         have H' := QV H
         clear H
         have p255 : 0 ≤ (x4_1 : Int) := of_decide_eq_true (by first | (with_reducible assumption) | assumption)
         have q255 : x4_1 < (l0.length : Int) := of_decide_eq_true (by first | (with_reducible assumption) | assumption)
         obtain ⟨ad255,e255,hx255_0⟩ := Kd.at_int HR0.out x4_1 p255 q255
         cases e255
         replace p255 := eq_true p255
         replace q255 := eq_true q255
         have p256 : 0 ≤ (x3_1 : Int) := of_decide_eq_true (by first | (with_reducible assumption) | assumption)
         have q256 : x3_1 < (l0.length : Int) := of_decide_eq_true (by first | (with_reducible assumption) | assumption)
         obtain ⟨ad256,e256,hx256_0⟩ := Kd.at_int HR0.out x3_1 p256 q256
         obtain rfl : ad255 = ad256 := (by injection e256)
         replace p256 := eq_true p256
         replace q256 := eq_true q256
         go_wp2
         repeat (go_quiet (fail); try go_wp2)
         go_roundg k1
         case measure => have := HK1.out; omega
         case rel => exact ⟨(x4_1),(wrap64 (x4_1 + 1)),(by first | rfl | (simp; done) | (simp [*]; done)),(by first | rfl | (simp; done) | (simp [*]; done)),H',⟨by have := HK1.out; omega⟩,by repeat (first | exact Drawn0.refl _ | apply Drawn0.step)⟩
        ·rw [if_neg c7] at H
         have c7b0 : decide ((rd l0 x3_1) < (rd l0 x4_1)) = false := decide_eq_false c7
         clear c7
         have H' := QV H
         clear H
         have p255 : 0 ≤ (x4_1 : Int) := of_decide_eq_true (by first | (with_reducible assumption) | assumption)
         have q255 : x4_1 < (l0.length : Int) := of_decide_eq_true (by first | (with_reducible assumption) | assumption)
         obtain ⟨ad255,e255,hx255_0⟩ := Kd.at_int HR0.out x4_1 p255 q255
         cases e255
         replace p255 := eq_true p255
         replace q255 := eq_true q255
         have p256 : 0 ≤ (x3_1 : Int) := of_decide_eq_true (by first | (with_reducible assumption) | assumption)
         have q256 : x3_1 < (l0.length : Int) := of_decide_eq_true (by first | (with_reducible assumption) | assumption)
         obtain ⟨ad256,e256,hx256_0⟩ := Kd.at_int HR0.out x3_1 p256 q256
         obtain rfl : ad255 = ad256 := (by injection e256)
         replace p256 := eq_true p256
         replace q256 := eq_true q256
         go_wp2
         repeat (go_quiet (fail); try go_wp2)
         go_roundg k1
         case measure => have := HK1.out; omega
         case rel => exact ⟨(x3_1),(wrap64 (x4_1 + 1)),(by first | rfl | (simp; done) | (simp [*]; done)),(by first | rfl | (simp; done) | (simp [*]; done)),H',⟨by have := HK1.out; omega⟩,by repeat (first | exact Drawn0.refl _ | apply Drawn0.step)⟩
       ·rw [if_neg c6] at H
        exact absurd H (by simp)
      ·rw [if_neg c5] at H
       exact absurd H (by simp)
     ·rw [if_neg c4] at H
      exact absurd H (by simp)
   ·rw [if_neg c2] at H
    have c2b0 : decide (x4_1 < (l0.length : Int)) = false := decide_eq_false c2
    clear c2
    obtain rfl := Option.some.inj H
    go_wp2
    repeat (go_quiet (fail); try go_wp2)
    go_ret
    exact ⟨by first | rfl | (simp; done) | (simp [*]; done),by repeat (first | exact Drawn0.refl _ | apply Drawn0.step)⟩

/-! ### spec_ChoiceOf: function 5 -/
def spec_ChoiceOf.l0 : Nat → List Int → List Int → List Int → Int → Option (Int)
 | 0,_,_,_,_ => none
 | k + 1,x5,x6,x7,x8 => if x8 < (x5.length : Int) then (if 0 ≤ x8 then ((spec_SuitOf.f (rd x5 x8)).bind fun t271 => (if 0 ≤ t271 then (if t271 < (x6.length : Int) then (if x7.length < 17592186044416 then (spec_ChoiceOf.l0 k x5 x6 (x7 ++ [rd x6 t271]) (wrap64 (x8 + 1))) else (none)) else (none)) else (none))) else (none)) else ((spec_MostOf.f k x7).bind fun t276 => (if 0 ≤ t276 then (if t276 < (x5.length : Int) then (some (rd x5 t276)) else (none)) else (none)))
def spec_ChoiceOf.f (k : Nat) (a0_0 : Int) (a0_1 : Int) (a0_2 : Bool) (a0_3 : Bool) (l0_4 : List Int) (l0_5 : List Int) (a0_6 : Int) (a0_7 : Int) (l0_8 : List (List Int)) (l0_9 : List Int) (l0_10 : List Int) (a0_11 : Int) (a0_12 : Int) (a0_13 : Int) (a1 : Int) : Option (Int) := (spec_Playable.f k a0_0 a0_1 a0_2 a0_3 l0_4 l0_5 a0_6 a0_7 l0_8 l0_9 l0_10 a0_11 a0_12 a0_13).bind fun t258 => (if (t258.length : Int) = 0 then (some (-1)) else (if a1 = 0 then (if 0 < (t258.length : Int) then (some (rd t258 0)) else (none)) else (if a1 = 1 then (if 0 ≤ (wrap64 ((t258.length : Int) - 1)) then (if (wrap64 ((t258.length : Int) - 1)) < (t258.length : Int) then (some (rd t258 (wrap64 ((t258.length : Int) - 1)))) else (none)) else (none)) else (if a1 = 2 then (if 0 ≤ a0_11 then (if a0_11 < (l0_8.length : Int) then ((spec_SuitCounts.f k (rd_L1 l0_8 a0_11)).bind fun t264 => (spec_ChoiceOf.l0 k t258 t264 (([] : List Int)) 0)) else (none)) else (none)) else (some (-1))))))
theorem spec_ChoiceOf.mono_l : ∀ k, (∀ y0 y1 y2 y3, LeO (spec_ChoiceOf.l0 k y0 y1 y2 y3) (spec_ChoiceOf.l0 (k + 1) y0 y1 y2 y3))
 | 0 => fun _ _ _ _ r h => by simp [spec_ChoiceOf.l0] at h
 | k + 1 => by
  have ih0 := spec_ChoiceOf.mono_l k
  ·intro y0 y1 y2 y3
   unfold spec_ChoiceOf.l0
   repeat' first
   | (with_reducible exact ih0 _ _ _ _)
   | (with_reducible exact spec_MostOf.mono _ _)
   | (with_reducible exact spec_Playable.mono _ _ _ _ _ _ _ _ _ _ _ _ _ _ _)
   | (with_reducible exact spec_SuitCounts.mono _ _)
   | (with_reducible exact LeO.refl _)
   | (with_reducible exact LeO.none _)
   | (with_reducible refine LeO.ite ?_ ?_)
   | (with_reducible refine LeO.bind ?_ (fun _ => ?_))
   | exact ih0 _ _ _ _
   | exact spec_MostOf.mono _ _
   | exact spec_Playable.mono _ _ _ _ _ _ _ _ _ _ _ _ _ _ _
   | exact spec_SuitCounts.mono _ _
   | exact LeO.none _
   | refine LeO.ite ?_ ?_
   | refine LeO.bind ?_ (fun _ => ?_)
theorem spec_ChoiceOf.mono : ∀ a0 a1 a2 a3 a4 a5 a6 a7 a8 a9 a10 a11 a12 a13 a14 k, LeO (spec_ChoiceOf.f k a0 a1 a2 a3 a4 a5 a6 a7 a8 a9 a10 a11 a12 a13 a14) (spec_ChoiceOf.f (k + 1) a0 a1 a2 a3 a4 a5 a6 a7 a8 a9 a10 a11 a12 a13 a14) := by
 intro a0 a1 a2 a3 a4 a5 a6 a7 a8 a9 a10 a11 a12 a13 a14 k
 have ih0 := spec_ChoiceOf.mono_l k
 unfold spec_ChoiceOf.f
 repeat' first
   | (with_reducible exact ih0 _ _ _ _)
   | (with_reducible exact spec_MostOf.mono _ _)
   | (with_reducible exact spec_Playable.mono _ _ _ _ _ _ _ _ _ _ _ _ _ _ _)
   | (with_reducible exact spec_SuitCounts.mono _ _)
   | (with_reducible exact LeO.refl _)
   | (with_reducible exact LeO.none _)
   | (with_reducible refine LeO.ite ?_ ?_)
   | (with_reducible refine LeO.bind ?_ (fun _ => ?_))
   | exact ih0 _ _ _ _
   | exact spec_MostOf.mono _ _
   | exact spec_Playable.mono _ _ _ _ _ _ _ _ _ _ _ _ _ _ _
   | exact spec_SuitCounts.mono _ _
   | exact LeO.none _
   | refine LeO.ite ?_ ?_
   | refine LeO.bind ?_ (fun _ => ?_)
set_option maxHeartbeats 8000000 in
set_option maxRecDepth 100000 in
theorem spec_ChoiceOf.calls (k : Nat) (a0_0 : Int) (a0_1 : Int) (a0_2 : Bool) (a0_3 : Bool) (A0_4 : Option Addr) (c0_4 : Nat) (l0_4 : List Int) (A0_5 : Option Addr) (c0_5 : Nat) (l0_5 : List Int) (a0_6 : Int) (a0_7 : Int) (A0_8 : Option Addr) (c0_8 : Nat) (l0_8 : List (List Int)) (A0_9 : Option Addr) (c0_9 : Nat) (l0_9 : List Int) (A0_10 : Option Addr) (c0_10 : Nat) (l0_10 : List Int) (a0_11 : Int) (a0_12 : Int) (a0_13 : Int) (a1 : Int) (r : Int) (w : World) (hr0_4 : Kd.C (Kd.int .i64) w A0_4 l0_4.length l0_4) (hc0_4 : l0_4.length ≤ c0_4) (hr0_5 : Kd.C (Kd.int .i64) w A0_5 l0_5.length l0_5) (hc0_5 : l0_5.length ≤ c0_5) (hr0_8 : Kd.C (Kd.slice 3 (Kd.int .i64)) w A0_8 l0_8.length l0_8) (hc0_8 : l0_8.length ≤ c0_8) (hr0_9 : Kd.C (Kd.int .i64) w A0_9 l0_9.length l0_9) (hc0_9 : l0_9.length ≤ c0_9) (hr0_10 : Kd.C (Kd.int .i64) w A0_10 l0_10.length l0_10) (hc0_10 : l0_10.length ≤ c0_10) (h : spec_ChoiceOf.f k a0_0 a0_1 a0_2 a0_3 l0_4 l0_5 a0_6 a0_7 l0_8 l0_9 l0_10 a0_11 a0_12 a0_13 a1 = some r) :
  Calls Try.prog 5 #[.agg #[.int .i64 a0_0,.int .i64 a0_1,.bool a0_2,.bool a0_3,.slice A0_4 l0_4.length c0_4,.slice A0_5 l0_5.length c0_5,.int .i64 a0_6,.int .i64 a0_7,.slice A0_8 l0_8.length c0_8,.slice A0_9 l0_9.length c0_9,.slice A0_10 l0_10.length c0_10,.int .i64 a0_11,.int .i64 a0_12,.int .i64 a0_13],.int .i64 a1] w fun e w' => e = .returned (.int .i64 r) ∧ Below w.heap.size w w' := by
 have hu32 := Try.underlying32
 have HR0_4 := QV hr0_4
 have HC0_4 := QV hc0_4
 clear hr0_4 hc0_4
 have HR0_5 := QV hr0_5
 have HC0_5 := QV hc0_5
 clear hr0_5 hc0_5
 have HR0_8 := QV hr0_8
 have HC0_8 := QV hc0_8
 clear hr0_8 hc0_8
 have HR0_9 := QV hr0_9
 have HC0_9 := QV hc0_9
 clear hr0_9 hc0_9
 have HR0_10 := QV hr0_10
 have HC0_10 := QV hc0_10
 clear hr0_10 hc0_10
 have HB := QV (Below.refl w.heap.size w)
 have H : ((spec_Playable.f k a0_0 a0_1 a0_2 a0_3 l0_4 l0_5 a0_6 a0_7 l0_8 l0_9 l0_10 a0_11 a0_12 a0_13).bind fun t258 => (if (t258.length : Int) = 0 then (some (-1)) else (if a1 = 0 then (if 0 < (t258.length : Int) then (some (rd t258 0)) else (none)) else (if a1 = 1 then (if 0 ≤ (wrap64 ((t258.length : Int) - 1)) then (if (wrap64 ((t258.length : Int) - 1)) < (t258.length : Int) then (some (rd t258 (wrap64 ((t258.length : Int) - 1)))) else (none)) else (none)) else (if a1 = 2 then (if 0 ≤ a0_11 then (if a0_11 < (l0_8.length : Int) then ((spec_SuitCounts.f k (rd_L1 l0_8 a0_11)).bind fun t264 => (spec_ChoiceOf.l0 k t258 t264 (([] : List Int)) 0)) else (none)) else (none)) else (some (-1))))))) = some r := h
 clear h
 replace H := Option.bind_eq_some_iff.mp H
 obtain ⟨t258,A30,H⟩ := H
 have A3 := QV A30
 clear A30
 by_cases c4 : (t258.length : Int) = 0
 ·rw [if_pos c4] at H
  have c4b0 : ((t258.length : Int) == 0) = true := beq_iff_eq.mpr c4
  have c4b1 : ((t258.length : Int) != 0) = false := bne_eq_false_iff_eq.mpr c4
  clear c4
  obtain rfl := Option.some.inj H
  go_enter Try.func5,Try.ntmps5
  go_wp2_with (first | ((with_reducible refine gate_dst (N := 2) rfl ?_); refine box_event ?hg (N := 2) ?hd (cs := #[.int .i64 a0_0,.int .i64 a0_1,.bool a0_2,.bool a0_3,.slice A0_4 l0_4.length c0_4,.slice A0_5 l0_5.length c0_5,.int .i64 a0_6,.int .i64 a0_7,.slice A0_8 l0_8.length c0_8,.slice A0_9 l0_9.length c0_9,.slice A0_10 l0_10.length c0_10,.int .i64 a0_11,.int .i64 a0_12,.int .i64 a0_13]) (t := 32) ?hr ?_; (case hd => rfl); (case hg => rfl); (case hr => first | (go_simp; done) | (go_simp; rfl)); intro gb257 hg w5 hbox hb; have n0_ := QV (QT (by repeat (first | (with_reducible first | exact HB.out | apply QF | apply QD | apply QE) | exact HB.out)) hb); have n1_ := QV (hbox); have n2_ := QV ((by rw [hg]; exact (QS (by repeat (first | (with_reducible first | exact HB.out | apply QF | apply QD | apply QE) | exact HB.out))) : w.heap.size ≤ gb257)); have n3_ := QV ((by rw [hg]; exact (QS (by repeat (first | (with_reducible first | exact HB.out | apply QF | apply QD | apply QE) | exact HB.out))) : w.heap.size ≤ gb257)); clear HB; revert n0_ n1_ n2_ n3_; intro HB BK257 GW257 GE257; clear hb hbox hg; have hcz6_0 : w5.cell? ⟨gb257,0,none⟩ = some (.int .i64 a0_0) := (QC BK257.out 0).trans rfl; have hcz6_1 : w5.cell? ⟨gb257,1,none⟩ = some (.int .i64 a0_1) := (QC BK257.out 1).trans rfl; have hcz6_2 : w5.cell? ⟨gb257,2,none⟩ = some (.bool a0_2) := (QC BK257.out 2).trans rfl; have hcz6_3 : w5.cell? ⟨gb257,3,none⟩ = some (.bool a0_3) := (QC BK257.out 3).trans rfl; have hcz6_4 : w5.cell? ⟨gb257,4,none⟩ = some (.slice A0_4 l0_4.length c0_4) := (QC BK257.out 4).trans rfl; have hcz6_5 : w5.cell? ⟨gb257,5,none⟩ = some (.slice A0_5 l0_5.length c0_5) := (QC BK257.out 5).trans rfl; have hcz6_6 : w5.cell? ⟨gb257,6,none⟩ = some (.int .i64 a0_6) := (QC BK257.out 6).trans rfl; have hcz6_7 : w5.cell? ⟨gb257,7,none⟩ = some (.int .i64 a0_7) := (QC BK257.out 7).trans rfl; have hcz6_8 : w5.cell? ⟨gb257,8,none⟩ = some (.slice A0_8 l0_8.length c0_8) := (QC BK257.out 8).trans rfl; have hcz6_9 : w5.cell? ⟨gb257,9,none⟩ = some (.slice A0_9 l0_9.length c0_9) := (QC BK257.out 9).trans rfl; have hcz6_10 : w5.cell? ⟨gb257,10,none⟩ = some (.slice A0_10 l0_10.length c0_10) := (QC BK257.out 10).trans rfl; have hcz6_11 : w5.cell? ⟨gb257,11,none⟩ = some (.int .i64 a0_11) := (QC BK257.out 11).trans rfl; have hcz6_12 : w5.cell? ⟨gb257,12,none⟩ = some (.int .i64 a0_12) := (QC BK257.out 12).trans rfl; have hcz6_13 : w5.cell? ⟨gb257,13,none⟩ = some (.int .i64 a0_13) := (QC BK257.out 13).trans rfl; have hfz6_0 := QB BK257.out 0; have hfz6_1 := QB BK257.out 1; have hfz6_2 := QB BK257.out 2; have hfz6_3 := QB BK257.out 3; have hfz6_4 := QB BK257.out 4; have hfz6_5 := QB BK257.out 5; have hfz6_6 := QB BK257.out 6; have hfz6_7 := QB BK257.out 7; have hfz6_8 := QB BK257.out 8; have hfz6_9 := QB BK257.out 9; have hfz6_10 := QB BK257.out 10; have hfz6_11 := QB BK257.out 11; have hfz6_12 := QB BK257.out 12; have hfz6_13 := QB BK257.out 13) | ((with_reducible refine gate_callee (f := 12) rfl ?_); refine goesL_ (some 10) rfl rfl Try.func12 (by kernel_rfl) rfl #[.agg #[.int .i64 a0_0,.int .i64 a0_1,.bool a0_2,.bool a0_3,.slice A0_4 l0_4.length c0_4,.slice A0_5 l0_5.length c0_5,.int .i64 a0_6,.int .i64 a0_7,.slice A0_8 l0_8.length c0_8,.slice A0_9 l0_9.length c0_9,.slice A0_10 l0_10.length c0_10,.int .i64 a0_11,.int .i64 a0_12,.int .i64 a0_13]] rfl (by (try simp only [List.map_toArray,List.map_cons,List.map_nil]); first | done | rfl | (simp only [List.length_drop,List.length_take]; rfl)) ?_; (with_reducible refine (spec_Playable.calls k a0_0 a0_1 a0_2 a0_3 _ _ l0_4 _ _ l0_5 a0_6 a0_7 _ _ l0_8 _ _ l0_9 _ _ l0_10 a0_11 a0_12 a0_13 t258 _ ?side1 ?side2 ?side3 ?side4 ?side5 ?side6 ?side7 ?side8 ?side9 ?side10 A3.out).mono ?_); (case side1 => repeat (first | exact (QN HR0_4.out HB.out) | (with_reducible refine QO ?_ _) | (with_reducible refine QP ?_ _) | (with_reducible refine QR ?_))); (case side2 => exact HC0_4.out); (case side3 => repeat (first | exact (QN HR0_5.out HB.out) | (with_reducible refine QO ?_ _) | (with_reducible refine QP ?_ _) | (with_reducible refine QR ?_))); (case side4 => exact HC0_5.out); (case side5 => repeat (first | exact (QN HR0_8.out HB.out) | (with_reducible refine QO ?_ _) | (with_reducible refine QP ?_ _) | (with_reducible refine QR ?_))); (case side6 => exact HC0_8.out); (case side7 => repeat (first | exact (QN HR0_9.out HB.out) | (with_reducible refine QO ?_ _) | (with_reducible refine QP ?_ _) | (with_reducible refine QR ?_))); (case side8 => exact HC0_9.out); (case side9 => repeat (first | exact (QN HR0_10.out HB.out) | (with_reducible refine QO ?_ _) | (with_reducible refine QP ?_ _) | (with_reducible refine QR ?_))); (case side10 => exact HC0_10.out); rintro e w7 ⟨v259,rfl,ho0,hb⟩; refine ⟨_,rfl,?_⟩; have n0_ := QV (Kd.R_lower ho0 (QS (by repeat (first | (with_reducible first | exact HB.out | apply QF | apply QD | apply QE | refine QG ?_ GE257.out) | exact HB.out)))); have n1_ := QV (QU (g := gb257) (o := .cells #[.int .i64 a0_0,.int .i64 a0_1,.bool a0_2,.bool a0_3,.slice A0_4 l0_4.length c0_4,.slice A0_5 l0_5.length c0_5,.int .i64 a0_6,.int .i64 a0_7,.slice A0_8 l0_8.length c0_8,.slice A0_9 l0_9.length c0_9,.slice A0_10 l0_10.length c0_10,.int .i64 a0_11,.int .i64 a0_12,.int .i64 a0_13] 32 (0,0)) (by (with_reducible repeat (first | refine QH ?_ _ | refine QL ?_ | refine QI ?_ _)); exact BK257.out) hb); have n2_ := QV (QT (by repeat (first | (with_reducible first | exact HB.out | apply QF | apply QD | apply QE | refine QG ?_ GE257.out) | exact HB.out)) hb); clear BK257; clear HB; revert n0_ n1_ n2_; intro HO260 BK257 HB; (try clear hb); (try clear hb2); (try clear hk); (try clear hi); (try clear ho0); obtain ⟨Ao8,co8,eo8⟩ := Kd.R_slice HO260.out; subst eo8))
  go_ret
  exact ⟨by first | rfl | (simp [errW_none,errW_some] <;> rfl) | (simp [*,errW_none,errW_some] <;> rfl),by repeat (first | (with_reducible first | exact HB.out | apply QF | apply QD | apply QE | refine QG ?_ GE257.out) | exact HB.out)⟩
 ·rw [if_neg c4] at H
  have c4b0 : ((t258.length : Int) == 0) = false := beq_eq_false_iff_ne.mpr c4
  have c4b1 : ((t258.length : Int) != 0) = true := bne_iff_ne.mpr c4
  have c4b2 : ¬ (t258 = []) := fun h_ => c4 (by rw [h_]; rfl)
  by_cases c9 : a1 = 0
  ·rw [if_pos c9] at H
   have c9b0 : (a1 == 0) = true := beq_iff_eq.mpr c9
   have c9b1 : (a1 != 0) = false := bne_eq_false_iff_eq.mpr c9
   clear c9
   by_cases c10 : 0 < (t258.length : Int)
   ·rw [if_pos c10] at H
    have c10b0 : decide (0 < (t258.length : Int)) = true := decide_eq_true c10
    have c10b1 : decide (0 < t258.length) = true := decide_eq_true (by omega)
    clear c10
    obtain rfl := Option.some.inj H
    go_enter Try.func5,Try.ntmps5
    go_wp2_with (first | ((with_reducible refine gate_dst (N := 2) rfl ?_); refine box_event ?hg (N := 2) ?hd (cs := #[.int .i64 a0_0,.int .i64 a0_1,.bool a0_2,.bool a0_3,.slice A0_4 l0_4.length c0_4,.slice A0_5 l0_5.length c0_5,.int .i64 a0_6,.int .i64 a0_7,.slice A0_8 l0_8.length c0_8,.slice A0_9 l0_9.length c0_9,.slice A0_10 l0_10.length c0_10,.int .i64 a0_11,.int .i64 a0_12,.int .i64 a0_13]) (t := 32) ?hr ?_; (case hd => rfl); (case hg => rfl); (case hr => first | (go_simp; done) | (go_simp; rfl)); intro gb257 hg w11 hbox hb; have n0_ := QV (QT (by repeat (first | (with_reducible first | exact HB.out | apply QF | apply QD | apply QE) | exact HB.out)) hb); have n1_ := QV (hbox); have n2_ := QV ((by rw [hg]; exact (QS (by repeat (first | (with_reducible first | exact HB.out | apply QF | apply QD | apply QE) | exact HB.out))) : w.heap.size ≤ gb257)); have n3_ := QV ((by rw [hg]; exact (QS (by repeat (first | (with_reducible first | exact HB.out | apply QF | apply QD | apply QE) | exact HB.out))) : w.heap.size ≤ gb257)); clear HB; revert n0_ n1_ n2_ n3_; intro HB BK257 GW257 GE257; clear hb hbox hg; have hcz12_0 : w11.cell? ⟨gb257,0,none⟩ = some (.int .i64 a0_0) := (QC BK257.out 0).trans rfl; have hcz12_1 : w11.cell? ⟨gb257,1,none⟩ = some (.int .i64 a0_1) := (QC BK257.out 1).trans rfl; have hcz12_2 : w11.cell? ⟨gb257,2,none⟩ = some (.bool a0_2) := (QC BK257.out 2).trans rfl; have hcz12_3 : w11.cell? ⟨gb257,3,none⟩ = some (.bool a0_3) := (QC BK257.out 3).trans rfl; have hcz12_4 : w11.cell? ⟨gb257,4,none⟩ = some (.slice A0_4 l0_4.length c0_4) := (QC BK257.out 4).trans rfl; have hcz12_5 : w11.cell? ⟨gb257,5,none⟩ = some (.slice A0_5 l0_5.length c0_5) := (QC BK257.out 5).trans rfl; have hcz12_6 : w11.cell? ⟨gb257,6,none⟩ = some (.int .i64 a0_6) := (QC BK257.out 6).trans rfl; have hcz12_7 : w11.cell? ⟨gb257,7,none⟩ = some (.int .i64 a0_7) := (QC BK257.out 7).trans rfl; have hcz12_8 : w11.cell? ⟨gb257,8,none⟩ = some (.slice A0_8 l0_8.length c0_8) := (QC BK257.out 8).trans rfl; have hcz12_9 : w11.cell? ⟨gb257,9,none⟩ = some (.slice A0_9 l0_9.length c0_9) := (QC BK257.out 9).trans rfl; have hcz12_10 : w11.cell? ⟨gb257,10,none⟩ = some (.slice A0_10 l0_10.length c0_10) := (QC BK257.out 10).trans rfl; have hcz12_11 : w11.cell? ⟨gb257,11,none⟩ = some (.int .i64 a0_11) := (QC BK257.out 11).trans rfl; have hcz12_12 : w11.cell? ⟨gb257,12,none⟩ = some (.int .i64 a0_12) := (QC BK257.out 12).trans rfl; have hcz12_13 : w11.cell? ⟨gb257,13,none⟩ = some (.int .i64 a0_13) := (QC BK257.out 13).trans rfl; have hfz12_0 := QB BK257.out 0; have hfz12_1 := QB BK257.out 1; have hfz12_2 := QB BK257.out 2; have hfz12_3 := QB BK257.out 3; have hfz12_4 := QB BK257.out 4; have hfz12_5 := QB BK257.out 5; have hfz12_6 := QB BK257.out 6; have hfz12_7 := QB BK257.out 7; have hfz12_8 := QB BK257.out 8; have hfz12_9 := QB BK257.out 9; have hfz12_10 := QB BK257.out 10; have hfz12_11 := QB BK257.out 11; have hfz12_12 := QB BK257.out 12; have hfz12_13 := QB BK257.out 13) | ((with_reducible refine gate_callee (f := 12) rfl ?_); refine goesL_ (some 10) rfl rfl Try.func12 (by kernel_rfl) rfl #[.agg #[.int .i64 a0_0,.int .i64 a0_1,.bool a0_2,.bool a0_3,.slice A0_4 l0_4.length c0_4,.slice A0_5 l0_5.length c0_5,.int .i64 a0_6,.int .i64 a0_7,.slice A0_8 l0_8.length c0_8,.slice A0_9 l0_9.length c0_9,.slice A0_10 l0_10.length c0_10,.int .i64 a0_11,.int .i64 a0_12,.int .i64 a0_13]] rfl (by (try simp only [List.map_toArray,List.map_cons,List.map_nil]); first | done | rfl | (simp only [List.length_drop,List.length_take]; rfl)) ?_; (with_reducible refine (spec_Playable.calls k a0_0 a0_1 a0_2 a0_3 _ _ l0_4 _ _ l0_5 a0_6 a0_7 _ _ l0_8 _ _ l0_9 _ _ l0_10 a0_11 a0_12 a0_13 t258 _ ?side1 ?side2 ?side3 ?side4 ?side5 ?side6 ?side7 ?side8 ?side9 ?side10 A3.out).mono ?_); (case side1 => repeat (first | exact (QN HR0_4.out HB.out) | (with_reducible refine QO ?_ _) | (with_reducible refine QP ?_ _) | (with_reducible refine QR ?_))); (case side2 => exact HC0_4.out); (case side3 => repeat (first | exact (QN HR0_5.out HB.out) | (with_reducible refine QO ?_ _) | (with_reducible refine QP ?_ _) | (with_reducible refine QR ?_))); (case side4 => exact HC0_5.out); (case side5 => repeat (first | exact (QN HR0_8.out HB.out) | (with_reducible refine QO ?_ _) | (with_reducible refine QP ?_ _) | (with_reducible refine QR ?_))); (case side6 => exact HC0_8.out); (case side7 => repeat (first | exact (QN HR0_9.out HB.out) | (with_reducible refine QO ?_ _) | (with_reducible refine QP ?_ _) | (with_reducible refine QR ?_))); (case side8 => exact HC0_9.out); (case side9 => repeat (first | exact (QN HR0_10.out HB.out) | (with_reducible refine QO ?_ _) | (with_reducible refine QP ?_ _) | (with_reducible refine QR ?_))); (case side10 => exact HC0_10.out); rintro e w13 ⟨v259,rfl,ho0,hb⟩; refine ⟨_,rfl,?_⟩; have n0_ := QV (Kd.R_lower ho0 (QS (by repeat (first | (with_reducible first | exact HB.out | apply QF | apply QD | apply QE | refine QG ?_ GE257.out) | exact HB.out)))); have n1_ := QV (QU (g := gb257) (o := .cells #[.int .i64 a0_0,.int .i64 a0_1,.bool a0_2,.bool a0_3,.slice A0_4 l0_4.length c0_4,.slice A0_5 l0_5.length c0_5,.int .i64 a0_6,.int .i64 a0_7,.slice A0_8 l0_8.length c0_8,.slice A0_9 l0_9.length c0_9,.slice A0_10 l0_10.length c0_10,.int .i64 a0_11,.int .i64 a0_12,.int .i64 a0_13] 32 (0,0)) (by (with_reducible repeat (first | refine QH ?_ _ | refine QL ?_ | refine QI ?_ _)); exact BK257.out) hb); have n2_ := QV (QT (by repeat (first | (with_reducible first | exact HB.out | apply QF | apply QD | apply QE | refine QG ?_ GE257.out) | exact HB.out)) hb); clear BK257; clear HB; revert n0_ n1_ n2_; intro HO260 BK257 HB; (try clear hb); (try clear hb2); (try clear hk); (try clear hi); (try clear ho0); obtain ⟨Ao14,co14,eo14⟩ := Kd.R_slice HO260.out; subst eo14; have p261 : 0 ≤ (0 : Int) := (by omega); have q261 : 0 < (t258.length : Int) := of_decide_eq_true (by first | (with_reducible assumption) | assumption); obtain ⟨ad261,e261,hx261_0⟩ := Kd.at_int (Kd.R_reads' HO260.out).2.2 0 p261 q261; cases e261; have qi261 : (0 < t258.length) = True := eq_true (by omega); (try rw [show ((0 : Int)).toNat = 0 from rfl] at hx261_0); (try rw [Addr.add_zero'] at hx261_0); replace p261 := eq_true p261; replace q261 := eq_true q261))
    go_ret
    exact ⟨by first | rfl | (simp [errW_none,errW_some] <;> rfl) | (simp [*,errW_none,errW_some] <;> rfl),by repeat (first | (with_reducible first | exact HB.out | apply QF | apply QD | apply QE | refine QG ?_ GE257.out) | exact HB.out)⟩
   ·rw [if_neg c10] at H
    exact absurd H (by simp)
  ·rw [if_neg c9] at H
   have c9b0 : (a1 == 0) = false := beq_eq_false_iff_ne.mpr c9
   have c9b1 : (a1 != 0) = true := bne_iff_ne.mpr c9
   by_cases c15 : a1 = 1
   ·rw [if_pos c15] at H
    have c15b0 : (a1 == 1) = true := beq_iff_eq.mpr c15
    have c15b1 : (a1 != 1) = false := bne_eq_false_iff_eq.mpr c15
    clear c15
    obtain ⟨ji16,hji16⟩ : ∃ j_ : Int,(wrap64 ((t258.length : Int) - 1)) = j_ := ⟨_,rfl⟩
    replace H : (if 0 ≤ (ji16) then (if (ji16) < (t258.length : Int) then (some (rd t258 (ji16))) else (none)) else (none)) = some r := by first | (rw [hji16] at H; exact H) | (simp only [hji16] at H ⊢; exact H)
    (try rw [hji16] at A3)
    have hji16w : (IntKind.i64.wrap ((t258.length : Int) - 1)) = ji16 := (i64_w _).trans hji16
    by_cases c17 : 0 ≤ (ji16)
    ·rw [if_pos c17] at H
     have c17b0 : decide (0 ≤ (ji16)) = true := decide_eq_true c17
     clear c17
     by_cases c18 : (ji16) < (t258.length : Int)
     ·rw [if_pos c18] at H
      have c18b0 : decide ((ji16) < (t258.length : Int)) = true := decide_eq_true c18
      clear c18
      obtain rfl := Option.some.inj H
      go_enter Try.func5,Try.ntmps5
      go_wp2_with (first | ((with_reducible refine gate_dst (N := 2) rfl ?_); refine box_event ?hg (N := 2) ?hd (cs := #[.int .i64 a0_0,.int .i64 a0_1,.bool a0_2,.bool a0_3,.slice A0_4 l0_4.length c0_4,.slice A0_5 l0_5.length c0_5,.int .i64 a0_6,.int .i64 a0_7,.slice A0_8 l0_8.length c0_8,.slice A0_9 l0_9.length c0_9,.slice A0_10 l0_10.length c0_10,.int .i64 a0_11,.int .i64 a0_12,.int .i64 a0_13]) (t := 32) ?hr ?_; (case hd => rfl); (case hg => rfl); (case hr => first | (go_simp; done) | (go_simp; rfl)); intro gb257 hg w19 hbox hb; have n0_ := QV (QT (by repeat (first | (with_reducible first | exact HB.out | apply QF | apply QD | apply QE) | exact HB.out)) hb); have n1_ := QV (hbox); have n2_ := QV ((by rw [hg]; exact (QS (by repeat (first | (with_reducible first | exact HB.out | apply QF | apply QD | apply QE) | exact HB.out))) : w.heap.size ≤ gb257)); have n3_ := QV ((by rw [hg]; exact (QS (by repeat (first | (with_reducible first | exact HB.out | apply QF | apply QD | apply QE) | exact HB.out))) : w.heap.size ≤ gb257)); clear HB; revert n0_ n1_ n2_ n3_; intro HB BK257 GW257 GE257; clear hb hbox hg; have hcz20_0 : w19.cell? ⟨gb257,0,none⟩ = some (.int .i64 a0_0) := (QC BK257.out 0).trans rfl; have hcz20_1 : w19.cell? ⟨gb257,1,none⟩ = some (.int .i64 a0_1) := (QC BK257.out 1).trans rfl; have hcz20_2 : w19.cell? ⟨gb257,2,none⟩ = some (.bool a0_2) := (QC BK257.out 2).trans rfl; have hcz20_3 : w19.cell? ⟨gb257,3,none⟩ = some (.bool a0_3) := (QC BK257.out 3).trans rfl; have hcz20_4 : w19.cell? ⟨gb257,4,none⟩ = some (.slice A0_4 l0_4.length c0_4) := (QC BK257.out 4).trans rfl; have hcz20_5 : w19.cell? ⟨gb257,5,none⟩ = some (.slice A0_5 l0_5.length c0_5) := (QC BK257.out 5).trans rfl; have hcz20_6 : w19.cell? ⟨gb257,6,none⟩ = some (.int .i64 a0_6) := (QC BK257.out 6).trans rfl; have hcz20_7 : w19.cell? ⟨gb257,7,none⟩ = some (.int .i64 a0_7) := (QC BK257.out 7).trans rfl; have hcz20_8 : w19.cell? ⟨gb257,8,none⟩ = some (.slice A0_8 l0_8.length c0_8) := (QC BK257.out 8).trans rfl; have hcz20_9 : w19.cell? ⟨gb257,9,none⟩ = some (.slice A0_9 l0_9.length c0_9) := (QC BK257.out 9).trans rfl; have hcz20_10 : w19.cell? ⟨gb257,10,none⟩ = some (.slice A0_10 l0_10.length c0_10) := (QC BK257.out 10).trans rfl; have hcz20_11 : w19.cell? ⟨gb257,11,none⟩ = some (.int .i64 a0_11) := (QC BK257.out 11).trans rfl; have hcz20_12 : w19.cell? ⟨gb257,12,none⟩ = some (.int .i64 a0_12) := (QC BK257.out 12).trans rfl; have hcz20_13 : w19.cell? ⟨gb257,13,none⟩ = some (.int .i64 a0_13) := (QC BK257.out 13).trans rfl; have hfz20_0 := QB BK257.out 0; have hfz20_1 := QB BK257.out 1; have hfz20_2 := QB BK257.out 2; have hfz20_3 := QB BK257.out 3; have hfz20_4 := QB BK257.out 4; have hfz20_5 := QB BK257.out 5; have hfz20_6 := QB BK257.out 6; have hfz20_7 := QB BK257.out 7; have hfz20_8 := QB BK257.out 8; have hfz20_9 := QB BK257.out 9; have hfz20_10 := QB BK257.out 10; have hfz20_11 := QB BK257.out 11; have hfz20_12 := QB BK257.out 12; have hfz20_13 := QB BK257.out 13) | ((with_reducible refine gate_callee (f := 12) rfl ?_); refine goesL_ (some 10) rfl rfl Try.func12 (by kernel_rfl) rfl #[.agg #[.int .i64 a0_0,.int .i64 a0_1,.bool a0_2,.bool a0_3,.slice A0_4 l0_4.length c0_4,.slice A0_5 l0_5.length c0_5,.int .i64 a0_6,.int .i64 a0_7,.slice A0_8 l0_8.length c0_8,.slice A0_9 l0_9.length c0_9,.slice A0_10 l0_10.length c0_10,.int .i64 a0_11,.int .i64 a0_12,.int .i64 a0_13]] rfl (by (try simp only [List.map_toArray,List.map_cons,List.map_nil]); first | done | rfl | (simp only [List.length_drop,List.length_take]; rfl)) ?_; (with_reducible refine (spec_Playable.calls k a0_0 a0_1 a0_2 a0_3 _ _ l0_4 _ _ l0_5 a0_6 a0_7 _ _ l0_8 _ _ l0_9 _ _ l0_10 a0_11 a0_12 a0_13 t258 _ ?side1 ?side2 ?side3 ?side4 ?side5 ?side6 ?side7 ?side8 ?side9 ?side10 A3.out).mono ?_); (case side1 => repeat (first | exact (QN HR0_4.out HB.out) | (with_reducible refine QO ?_ _) | (with_reducible refine QP ?_ _) | (with_reducible refine QR ?_))); (case side2 => exact HC0_4.out); (case side3 => repeat (first | exact (QN HR0_5.out HB.out) | (with_reducible refine QO ?_ _) | (with_reducible refine QP ?_ _) | (with_reducible refine QR ?_))); (case side4 => exact HC0_5.out); (case side5 => repeat (first | exact (QN HR0_8.out HB.out) | (with_reducible refine QO ?_ _) | (with_reducible refine QP ?_ _) | (with_reducible refine QR ?_))); (case side6 => exact HC0_8.out); (case side7 => repeat (first | exact (QN HR0_9.out HB.out) | (with_reducible refine QO ?_ _) | (with_reducible refine QP ?_ _) | (with_reducible refine QR ?_))); (case side8 => exact HC0_9.out); (case side9 => repeat (first | exact (QN HR0_10.out HB.out) | (with_reducible refine QO ?_ _) | (with_reducible refine QP ?_ _) | (with_reducible refine QR ?_))); (case side10 => exact HC0_10.out); rintro e w21 ⟨v259,rfl,ho0,hb⟩; refine ⟨_,rfl,?_⟩; have n0_ := QV (Kd.R_lower ho0 (QS (by repeat (first | (with_reducible first | exact HB.out | apply QF | apply QD | apply QE | refine QG ?_ GE257.out) | exact HB.out)))); have n1_ := QV (QU (g := gb257) (o := .cells #[.int .i64 a0_0,.int .i64 a0_1,.bool a0_2,.bool a0_3,.slice A0_4 l0_4.length c0_4,.slice A0_5 l0_5.length c0_5,.int .i64 a0_6,.int .i64 a0_7,.slice A0_8 l0_8.length c0_8,.slice A0_9 l0_9.length c0_9,.slice A0_10 l0_10.length c0_10,.int .i64 a0_11,.int .i64 a0_12,.int .i64 a0_13] 32 (0,0)) (by (with_reducible repeat (first | refine QH ?_ _ | refine QL ?_ | refine QI ?_ _)); exact BK257.out) hb); have n2_ := QV (QT (by repeat (first | (with_reducible first | exact HB.out | apply QF | apply QD | apply QE | refine QG ?_ GE257.out) | exact HB.out)) hb); clear BK257; clear HB; revert n0_ n1_ n2_; intro HO260 BK257 HB; (try clear hb); (try clear hb2); (try clear hk); (try clear hi); (try clear ho0); obtain ⟨Ao22,co22,eo22⟩ := Kd.R_slice HO260.out; subst eo22; have p262 : 0 ≤ ((ji16) : Int) := of_decide_eq_true (by first | (with_reducible assumption) | assumption); have q262 : (ji16) < (t258.length : Int) := of_decide_eq_true (by first | (with_reducible assumption) | assumption); obtain ⟨ad262,e262,hx262_0⟩ := Kd.at_int (Kd.R_reads' HO260.out).2.2 (ji16) p262 q262; cases e262; replace p262 := eq_true p262; replace q262 := eq_true q262))
      go_ret
      exact ⟨by first | rfl | (simp [errW_none,errW_some] <;> rfl) | (simp only [← hji16]; first | rfl | (simp [errW_none,errW_some] <;> rfl)) | (simp [*,errW_none,errW_some] <;> rfl),by repeat (first | (with_reducible first | exact HB.out | apply QF | apply QD | apply QE | refine QG ?_ GE257.out) | exact HB.out)⟩
     ·rw [if_neg c18] at H
      exact absurd H (by simp)
    ·rw [if_neg c17] at H
     exact absurd H (by simp)
   ·rw [if_neg c15] at H
    have c15b0 : (a1 == 1) = false := beq_eq_false_iff_ne.mpr c15
    have c15b1 : (a1 != 1) = true := bne_iff_ne.mpr c15
    by_cases c23 : a1 = 2
    ·rw [if_pos c23] at H
     have c23b0 : (a1 == 2) = true := beq_iff_eq.mpr c23
     have c23b1 : (a1 != 2) = false := bne_eq_false_iff_eq.mpr c23
     clear c23
     by_cases c24 : 0 ≤ a0_11
     ·rw [if_pos c24] at H
      have c24b0 : decide (0 ≤ a0_11) = true := decide_eq_true c24
      clear c24
      by_cases c25 : a0_11 < (l0_8.length : Int)
      ·rw [if_pos c25] at H
       have c25b0 : decide (a0_11 < (l0_8.length : Int)) = true := decide_eq_true c25
       clear c25
       replace H := Option.bind_eq_some_iff.mp H
       obtain ⟨t264,A260,H⟩ := H
       have A26 := QV A260
       clear A260
       obtain ⟨y267,hy267⟩ : ∃ y_ : List Int,y_ = (([] : List Int)) := ⟨_,rfl⟩
       replace H : (spec_ChoiceOf.l0 k t258 t264 y267 0) = some r := by first | (rw [hy267]; with_reducible exact H) | (have H2_ := (Option.bind_some _ _).symm.trans H; rw [hy267]; with_reducible exact H2_) | (have H2_ := (Option.bind_some _ _).symm.trans H; with_reducible exact H2_) | with_reducible exact H | (rw [hy267]; exact H) | exact H
       have Ny267 := QV hy267
       clear hy267
       have H' := QV H
       clear H
       go_enter Try.func5,Try.ntmps5
       go_wp2_with (first | ((with_reducible refine gate_dst (N := 2) rfl ?_); refine box_event ?hg (N := 2) ?hd (cs := #[.int .i64 a0_0,.int .i64 a0_1,.bool a0_2,.bool a0_3,.slice A0_4 l0_4.length c0_4,.slice A0_5 l0_5.length c0_5,.int .i64 a0_6,.int .i64 a0_7,.slice A0_8 l0_8.length c0_8,.slice A0_9 l0_9.length c0_9,.slice A0_10 l0_10.length c0_10,.int .i64 a0_11,.int .i64 a0_12,.int .i64 a0_13]) (t := 32) ?hr ?_; (case hd => rfl); (case hg => rfl); (case hr => first | (go_simp; done) | (go_simp; rfl)); intro gb257 hg w27 hbox hb; have n0_ := QV (QT (by repeat (first | (with_reducible first | exact HB.out | apply QF | apply QD | apply QE) | exact HB.out)) hb); have n1_ := QV (hbox); have n2_ := QV ((by rw [hg]; exact (QS (by repeat (first | (with_reducible first | exact HB.out | apply QF | apply QD | apply QE) | exact HB.out))) : w.heap.size ≤ gb257)); have n3_ := QV ((by rw [hg]; exact (QS (by repeat (first | (with_reducible first | exact HB.out | apply QF | apply QD | apply QE) | exact HB.out))) : w.heap.size ≤ gb257)); clear HB; revert n0_ n1_ n2_ n3_; intro HB BK257 GW257 GE257; clear hb hbox hg; have hcz28_0 : w27.cell? ⟨gb257,0,none⟩ = some (.int .i64 a0_0) := (QC BK257.out 0).trans rfl; have hcz28_1 : w27.cell? ⟨gb257,1,none⟩ = some (.int .i64 a0_1) := (QC BK257.out 1).trans rfl; have hcz28_2 : w27.cell? ⟨gb257,2,none⟩ = some (.bool a0_2) := (QC BK257.out 2).trans rfl; have hcz28_3 : w27.cell? ⟨gb257,3,none⟩ = some (.bool a0_3) := (QC BK257.out 3).trans rfl; have hcz28_4 : w27.cell? ⟨gb257,4,none⟩ = some (.slice A0_4 l0_4.length c0_4) := (QC BK257.out 4).trans rfl; have hcz28_5 : w27.cell? ⟨gb257,5,none⟩ = some (.slice A0_5 l0_5.length c0_5) := (QC BK257.out 5).trans rfl; have hcz28_6 : w27.cell? ⟨gb257,6,none⟩ = some (.int .i64 a0_6) := (QC BK257.out 6).trans rfl; have hcz28_7 : w27.cell? ⟨gb257,7,none⟩ = some (.int .i64 a0_7) := (QC BK257.out 7).trans rfl; have hcz28_8 : w27.cell? ⟨gb257,8,none⟩ = some (.slice A0_8 l0_8.length c0_8) := (QC BK257.out 8).trans rfl; have hcz28_9 : w27.cell? ⟨gb257,9,none⟩ = some (.slice A0_9 l0_9.length c0_9) := (QC BK257.out 9).trans rfl; have hcz28_10 : w27.cell? ⟨gb257,10,none⟩ = some (.slice A0_10 l0_10.length c0_10) := (QC BK257.out 10).trans rfl; have hcz28_11 : w27.cell? ⟨gb257,11,none⟩ = some (.int .i64 a0_11) := (QC BK257.out 11).trans rfl; have hcz28_12 : w27.cell? ⟨gb257,12,none⟩ = some (.int .i64 a0_12) := (QC BK257.out 12).trans rfl; have hcz28_13 : w27.cell? ⟨gb257,13,none⟩ = some (.int .i64 a0_13) := (QC BK257.out 13).trans rfl; have hfz28_0 := QB BK257.out 0; have hfz28_1 := QB BK257.out 1; have hfz28_2 := QB BK257.out 2; have hfz28_3 := QB BK257.out 3; have hfz28_4 := QB BK257.out 4; have hfz28_5 := QB BK257.out 5; have hfz28_6 := QB BK257.out 6; have hfz28_7 := QB BK257.out 7; have hfz28_8 := QB BK257.out 8; have hfz28_9 := QB BK257.out 9; have hfz28_10 := QB BK257.out 10; have hfz28_11 := QB BK257.out 11; have hfz28_12 := QB BK257.out 12; have hfz28_13 := QB BK257.out 13) | ((with_reducible refine gate_callee (f := 12) rfl ?_); refine goesL_ (some 10) rfl rfl Try.func12 (by kernel_rfl) rfl #[.agg #[.int .i64 a0_0,.int .i64 a0_1,.bool a0_2,.bool a0_3,.slice A0_4 l0_4.length c0_4,.slice A0_5 l0_5.length c0_5,.int .i64 a0_6,.int .i64 a0_7,.slice A0_8 l0_8.length c0_8,.slice A0_9 l0_9.length c0_9,.slice A0_10 l0_10.length c0_10,.int .i64 a0_11,.int .i64 a0_12,.int .i64 a0_13]] rfl (by (try simp only [List.map_toArray,List.map_cons,List.map_nil]); first | done | rfl | (simp only [List.length_drop,List.length_take]; rfl)) ?_; (with_reducible refine (spec_Playable.calls k a0_0 a0_1 a0_2 a0_3 _ _ l0_4 _ _ l0_5 a0_6 a0_7 _ _ l0_8 _ _ l0_9 _ _ l0_10 a0_11 a0_12 a0_13 t258 _ ?side1 ?side2 ?side3 ?side4 ?side5 ?side6 ?side7 ?side8 ?side9 ?side10 A3.out).mono ?_); (case side1 => repeat (first | exact (QN HR0_4.out HB.out) | (with_reducible refine QO ?_ _) | (with_reducible refine QP ?_ _) | (with_reducible refine QR ?_))); (case side2 => exact HC0_4.out); (case side3 => repeat (first | exact (QN HR0_5.out HB.out) | (with_reducible refine QO ?_ _) | (with_reducible refine QP ?_ _) | (with_reducible refine QR ?_))); (case side4 => exact HC0_5.out); (case side5 => repeat (first | exact (QN HR0_8.out HB.out) | (with_reducible refine QO ?_ _) | (with_reducible refine QP ?_ _) | (with_reducible refine QR ?_))); (case side6 => exact HC0_8.out); (case side7 => repeat (first | exact (QN HR0_9.out HB.out) | (with_reducible refine QO ?_ _) | (with_reducible refine QP ?_ _) | (with_reducible refine QR ?_))); (case side8 => exact HC0_9.out); (case side9 => repeat (first | exact (QN HR0_10.out HB.out) | (with_reducible refine QO ?_ _) | (with_reducible refine QP ?_ _) | (with_reducible refine QR ?_))); (case side10 => exact HC0_10.out); rintro e w29 ⟨v259,rfl,ho0,hb⟩; refine ⟨_,rfl,?_⟩; have n0_ := QV (Kd.R_lower ho0 (QS (by repeat (first | (with_reducible first | exact HB.out | apply QF | apply QD | apply QE | refine QG ?_ GE257.out) | exact HB.out)))); have n1_ := QV (QU (g := gb257) (o := .cells #[.int .i64 a0_0,.int .i64 a0_1,.bool a0_2,.bool a0_3,.slice A0_4 l0_4.length c0_4,.slice A0_5 l0_5.length c0_5,.int .i64 a0_6,.int .i64 a0_7,.slice A0_8 l0_8.length c0_8,.slice A0_9 l0_9.length c0_9,.slice A0_10 l0_10.length c0_10,.int .i64 a0_11,.int .i64 a0_12,.int .i64 a0_13] 32 (0,0)) (by (with_reducible repeat (first | refine QH ?_ _ | refine QL ?_ | refine QI ?_ _)); exact BK257.out) hb); have n2_ := QV (QT (by repeat (first | (with_reducible first | exact HB.out | apply QF | apply QD | apply QE | refine QG ?_ GE257.out) | exact HB.out)) hb); clear BK257; clear HB; revert n0_ n1_ n2_; intro HO260 BK257 HB; (try clear hb); (try clear hb2); (try clear hk); (try clear hi); (try clear ho0); obtain ⟨Ao30,co30,eo30⟩ := Kd.R_slice HO260.out; subst eo30; have hcz31_0 : w29.cell? ⟨gb257,0,none⟩ = some (.int .i64 a0_0) := (QC BK257.out 0).trans rfl; have hcz31_1 : w29.cell? ⟨gb257,1,none⟩ = some (.int .i64 a0_1) := (QC BK257.out 1).trans rfl; have hcz31_2 : w29.cell? ⟨gb257,2,none⟩ = some (.bool a0_2) := (QC BK257.out 2).trans rfl; have hcz31_3 : w29.cell? ⟨gb257,3,none⟩ = some (.bool a0_3) := (QC BK257.out 3).trans rfl; have hcz31_4 : w29.cell? ⟨gb257,4,none⟩ = some (.slice A0_4 l0_4.length c0_4) := (QC BK257.out 4).trans rfl; have hcz31_5 : w29.cell? ⟨gb257,5,none⟩ = some (.slice A0_5 l0_5.length c0_5) := (QC BK257.out 5).trans rfl; have hcz31_6 : w29.cell? ⟨gb257,6,none⟩ = some (.int .i64 a0_6) := (QC BK257.out 6).trans rfl; have hcz31_7 : w29.cell? ⟨gb257,7,none⟩ = some (.int .i64 a0_7) := (QC BK257.out 7).trans rfl; have hcz31_8 : w29.cell? ⟨gb257,8,none⟩ = some (.slice A0_8 l0_8.length c0_8) := (QC BK257.out 8).trans rfl; have hcz31_9 : w29.cell? ⟨gb257,9,none⟩ = some (.slice A0_9 l0_9.length c0_9) := (QC BK257.out 9).trans rfl; have hcz31_10 : w29.cell? ⟨gb257,10,none⟩ = some (.slice A0_10 l0_10.length c0_10) := (QC BK257.out 10).trans rfl; have hcz31_11 : w29.cell? ⟨gb257,11,none⟩ = some (.int .i64 a0_11) := (QC BK257.out 11).trans rfl; have hcz31_12 : w29.cell? ⟨gb257,12,none⟩ = some (.int .i64 a0_12) := (QC BK257.out 12).trans rfl; have hcz31_13 : w29.cell? ⟨gb257,13,none⟩ = some (.int .i64 a0_13) := (QC BK257.out 13).trans rfl; have hfz31_0 := QB BK257.out 0; have hfz31_1 := QB BK257.out 1; have hfz31_2 := QB BK257.out 2; have hfz31_3 := QB BK257.out 3; have hfz31_4 := QB BK257.out 4; have hfz31_5 := QB BK257.out 5; have hfz31_6 := QB BK257.out 6; have hfz31_7 := QB BK257.out 7; have hfz31_8 := QB BK257.out 8; have hfz31_9 := QB BK257.out 9; have hfz31_10 := QB BK257.out 10; have hfz31_11 := QB BK257.out 11; have hfz31_12 := QB BK257.out 12; have hfz31_13 := QB BK257.out 13; have p263 : 0 ≤ (a0_11 : Int) := of_decide_eq_true (by first | (with_reducible assumption) | assumption); have q263 : a0_11 < (l0_8.length : Int) := of_decide_eq_true (by first | (with_reducible assumption) | assumption); obtain ⟨ad263,A263_0,c263_0,e263,hx263_0,hl263_0,hi263_0⟩ := at_L1 HR0_8.out a0_11 p263 q263; cases e263; replace hx263_0 := (HB.out.cell (World.block_lt_of_cell? w _ hx263_0)).trans hx263_0; have HR263_0 := QV hi263_0; have HC263_0 := QV hl263_0; clear hi263_0 hl263_0; replace p263 := eq_true p263; replace q263 := eq_true q263) | ((with_reducible refine gate_callee (f := 13) rfl ?_); refine goesL_ (some 36) rfl rfl Try.func13 (by kernel_rfl) rfl #[.slice A263_0 (rd_L1 l0_8 a0_11).length c263_0] rfl (by (try simp only [List.map_toArray,List.map_cons,List.map_nil]); first | done | rfl | (simp only [List.length_drop,List.length_take]; rfl)) ?_; (with_reducible refine (spec_SuitCounts.calls k _ _ (rd_L1 l0_8 a0_11) t264 _ ?side1 ?side2 A26.out).mono ?_); (case side1 => repeat (first | exact (QN HR263_0.out HB.out) | (with_reducible refine QO ?_ _) | (with_reducible refine QP ?_ _) | (with_reducible refine QR ?_))); (case side2 => exact HC263_0.out); rintro e w32 ⟨v265,rfl,ho0,hb⟩; refine ⟨_,rfl,?_⟩; have n0_ := QV (Kd.R_elder' (by (with_reducible repeat (first | apply QJ | apply QK | apply QM)); exact HO260.out) (Kd.R_base ho0) hb); have n1_ := QV (Kd.R_lower (Kd.R_new' ho0 (Kd.R_lt (by (with_reducible repeat (first | apply QJ | apply QK | apply QM)); exact HO260.out))) (QS (by repeat (first | (with_reducible first | exact HB.out | apply QF | apply QD | apply QE | refine QG ?_ GE257.out) | exact HB.out)))); have n2_ := QV (QU (g := gb257) (o := .cells #[.int .i64 a0_0,.int .i64 a0_1,.bool a0_2,.bool a0_3,.slice A0_4 l0_4.length c0_4,.slice A0_5 l0_5.length c0_5,.int .i64 a0_6,.int .i64 a0_7,.slice (some ad263) l0_8.length c0_8,.slice A0_9 l0_9.length c0_9,.slice A0_10 l0_10.length c0_10,.int .i64 a0_11,.int .i64 a0_12,.int .i64 a0_13] 32 (0,0)) (by (with_reducible repeat (first | refine QH ?_ _ | refine QL ?_ | refine QI ?_ _)); exact BK257.out) hb); have n3_ := QV (QT (by repeat (first | (with_reducible first | exact HB.out | apply QF | apply QD | apply QE | refine QG ?_ GE257.out) | exact HB.out)) hb); clear HO260; clear BK257; clear HB; revert n0_ n1_ n2_ n3_; intro HO260 HO266 BK257 HB; (try clear hb); (try clear hb2); (try clear hk); (try clear hi); (try clear ho0)) | ((with_reducible refine gate_dst (N := 37) rfl ?_); refine Kd.R_lit (Kd.int .i64) _ 3 ?hg (N := 37) ?hd (xs := ([] : List Int)) (inner := []) (ok := fun _ => True) (okp := fun _ => True) ?hr ?hp (fun _ hk => hk) trivial (Below.refl _ _) (Nat.le_refl _) (by simp) ?_; (case hd => rfl); (case hg => rfl); (case hr => first | (go_simp; done) | (go_simp; rfl)); (case hp => exact (Reps.none _ _)); intro v268 w33 ho34 hb hg_ hnew_; clear hg_ hnew_; (first | rw [← Ny267.out] at ho34 | (simp only [Int.reduceToNat] at ho34; rw [← Ny267.out] at ho34)); have n0_ := QV (Kd.R_elder' (by (with_reducible repeat (first | apply QJ | apply QK | apply QM)); exact HO260.out) (Kd.R_base ho34) hb); have n1_ := QV (Kd.R_elder' (by (with_reducible repeat (first | apply QJ | apply QK | apply QM)); exact HO266.out) (Kd.R_base ho34) hb); have n2_ := QV (Kd.R_lower (Kd.R_new' (Kd.R_new' ho34 (Kd.R_lt (by (with_reducible repeat (first | apply QJ | apply QK | apply QM)); exact HO260.out))) (Kd.R_lt (by (with_reducible repeat (first | apply QJ | apply QK | apply QM)); exact HO266.out))) (QS (by repeat (first | (with_reducible first | exact HB.out | apply QF | apply QD | apply QE | refine QG ?_ GE257.out) | exact HB.out)))); have n3_ := QV (QU (g := gb257) (o := .cells #[.int .i64 a0_0,.int .i64 a0_1,.bool a0_2,.bool a0_3,.slice A0_4 l0_4.length c0_4,.slice A0_5 l0_5.length c0_5,.int .i64 a0_6,.int .i64 a0_7,.slice (some ad263) l0_8.length c0_8,.slice A0_9 l0_9.length c0_9,.slice A0_10 l0_10.length c0_10,.int .i64 a0_11,.int .i64 a0_12,.int .i64 a0_13] 32 (0,0)) (by (with_reducible repeat (first | refine QH ?_ _ | refine QL ?_ | refine QI ?_ _)); exact BK257.out) hb); have n4_ := QV (QT (by repeat (first | (with_reducible first | exact HB.out | apply QF | apply QD | apply QE | refine QG ?_ GE257.out) | exact HB.out)) hb); clear HO260; clear HO266; clear BK257; clear HB; revert n0_ n1_ n2_ n3_ n4_; intro HO260 HO266 HO269 BK257 HB; clear hb ho34))
       go_loopg [7,8] k (fun kq v7 v8 w' => ∃ (x7_1 : List Int) (x8_1 : Int),v8 = .int .i64 x8_1 ∧ Aside0 (spec_ChoiceOf.l0 kq t258 t264 x7_1 x8_1 = some r) ∧ Aside0 (kq ≤ k) ∧ Aside0 (Kd.R (Kd.int .i64) 3 w' w.heap.size (fun k_ => some k_ ≠ (v265 : Value).ownBlock ∧ some k_ ≠ (v7 : Value).ownBlock) (.slice Ao30 t258.length co30) t258) ∧ Aside0 (Kd.R (Kd.int .i64) 3 w' w.heap.size (fun k_ => some k_ ≠ ((.slice Ao30 t258.length co30) : Value).ownBlock ∧ some k_ ≠ (v7 : Value).ownBlock) v265 t264) ∧ Aside0 (Kd.R (Kd.int .i64) 3 w' w.heap.size (fun k_ => some k_ ≠ ((.slice Ao30 t258.length co30) : Value).ownBlock ∧ some k_ ≠ (v265 : Value).ownBlock) v7 x7_1) ∧ Aside0 (w'.heap[gb257]? = some (.cells #[.int .i64 a0_0,.int .i64 a0_1,.bool a0_2,.bool a0_3,(.slice A0_4 l0_4.length c0_4),(.slice A0_5 l0_5.length c0_5),.int .i64 a0_6,.int .i64 a0_7,(.slice (some ad263) l0_8.length c0_8),(.slice A0_9 l0_9.length c0_9),(.slice A0_10 l0_10.length c0_10),.int .i64 a0_11,.int .i64 a0_12,.int .i64 a0_13] 32 (0,0))) ∧ Aside0 (Below w.heap.size w w'))
       case atStart => exact ⟨(y267),(0),(by first | rfl | (simp; done) | (simp [*]; done)),H',⟨Nat.le_refl _⟩,⟨by (with_reducible repeat (first | apply QJ | apply QK | apply QM)); exact Kd.R_mono HO260.out (fun _ hk => ⟨hk.1.2,hk.2⟩)⟩,⟨by (with_reducible repeat (first | apply QJ | apply QK | apply QM)); exact Kd.R_mono HO266.out (fun _ hk => ⟨hk.1.2,hk.2⟩)⟩,⟨by (with_reducible repeat (first | apply QJ | apply QK | apply QM)); exact Kd.R_mono HO269.out (fun _ hk => ⟨hk.1.2,hk.2⟩)⟩,⟨by (with_reducible repeat (first | refine QH ?_ _ | refine QL ?_ | refine QI ?_ _)); exact BK257.out⟩,⟨by repeat (first | (with_reducible first | exact HB.out | apply QF | apply QD | apply QE | refine QG ?_ GE257.out) | exact HB.out)⟩⟩
       case round =>
        clear H'
        try clear c1
        try clear c2
        try clear p2
        try clear q2
        try clear hx2
        try clear qi2
        try clear c4
        try clear c4b0
        try clear c4b1
        try clear c4b2
        try clear c5
        try clear p6
        try clear c9
        try clear c9b0
        try clear c9b1
        try clear c10
        try clear c10b0
        try clear c10b1
        try clear c12
        try clear c13
        try clear c15
        try clear c15b0
        try clear c15b1
        try clear c17
        try clear c17b0
        try clear c18
        try clear c18b0
        try clear c23
        try clear c23b0
        try clear c23b1
        try clear c24
        try clear c24b0
        try clear c25
        try clear c25b0
        try clear c26
        try clear p26
        try clear q26
        try clear hx26
        try clear qi26
        try clear hcz12_0 hcz12_1 hcz12_10 hcz12_11 hcz12_12 hcz12_13 hcz12_2 hcz12_3 hcz12_4 hcz12_5 hcz12_6 hcz12_7 hcz12_8 hcz12_9
        try clear hcz20_0 hcz20_1 hcz20_10 hcz20_11 hcz20_12 hcz20_13 hcz20_2 hcz20_3 hcz20_4 hcz20_5 hcz20_6 hcz20_7 hcz20_8 hcz20_9
        try clear hcz28_0 hcz28_1 hcz28_10 hcz28_11 hcz28_12 hcz28_13 hcz28_2 hcz28_3 hcz28_4 hcz28_5 hcz28_6 hcz28_7 hcz28_8 hcz28_9
        try clear hcz31_0 hcz31_1 hcz31_10 hcz31_11 hcz31_12 hcz31_13 hcz31_2 hcz31_3 hcz31_4 hcz31_5 hcz31_6 hcz31_7 hcz31_8 hcz31_9
        try clear hcz6_0 hcz6_1 hcz6_10 hcz6_11 hcz6_12 hcz6_13 hcz6_2 hcz6_3 hcz6_4 hcz6_5 hcz6_6 hcz6_7 hcz6_8 hcz6_9
        try clear hfz12_0 hfz12_1 hfz12_10 hfz12_11 hfz12_12 hfz12_13 hfz12_2 hfz12_3 hfz12_4 hfz12_5 hfz12_6 hfz12_7 hfz12_8 hfz12_9
        try clear hfz20_0 hfz20_1 hfz20_10 hfz20_11 hfz20_12 hfz20_13 hfz20_2 hfz20_3 hfz20_4 hfz20_5 hfz20_6 hfz20_7 hfz20_8 hfz20_9
        try clear hfz28_0 hfz28_1 hfz28_10 hfz28_11 hfz28_12 hfz28_13 hfz28_2 hfz28_3 hfz28_4 hfz28_5 hfz28_6 hfz28_7 hfz28_8 hfz28_9
        try clear hfz31_0 hfz31_1 hfz31_10 hfz31_11 hfz31_12 hfz31_13 hfz31_2 hfz31_3 hfz31_4 hfz31_5 hfz31_6 hfz31_7 hfz31_8 hfz31_9
        try clear hfz6_0 hfz6_1 hfz6_10 hfz6_11 hfz6_12 hfz6_13 hfz6_2 hfz6_3 hfz6_4 hfz6_5 hfz6_6 hfz6_7 hfz6_8 hfz6_9
        try clear hx261_0
        try clear hx262_0
        try clear hx263_0
        try clear p261
        try clear p262
        try clear p263
        try clear q261
        try clear q262
        try clear q263
        obtain ⟨x7_1,x8_1,rfl,HA,HK1,HO_5,HO_6,HO_7,BK257,HB⟩ := hrel
        cases gk with
        | zero => exact absurd HA.out (by simp [spec_ChoiceOf.l0])
        | succ k1 =>
         have H := HA.out
         clear HA
         simp only [spec_ChoiceOf.l0] at H
         by_cases c35 : x8_1 < (t258.length : Int)
         ·rw [if_pos c35] at H
          have c35b0 : decide (x8_1 < (t258.length : Int)) = true := decide_eq_true c35
          clear c35
          by_cases c36 : 0 ≤ x8_1
          ·rw [if_pos c36] at H
           have c36b0 : decide (0 ≤ x8_1) = true := decide_eq_true c36
           clear c36
           replace H := Option.bind_eq_some_iff.mp H
           obtain ⟨t271,A370,H⟩ := H
           have A37 := QV A370
           clear A370
           by_cases c38 : 0 ≤ t271
           ·rw [if_pos c38] at H
            have c38b0 : decide (0 ≤ t271) = true := decide_eq_true c38
            clear c38
            by_cases c39 : t271 < (t264.length : Int)
            ·rw [if_pos c39] at H
             have c39b0 : decide (t271 < (t264.length : Int)) = true := decide_eq_true c39
             clear c39
             by_cases c40 : x7_1.length < 17592186044416
             ·rw [if_pos c40] at H
              have LMc40 := QV c40
              clear c40
              obtain ⟨y273,hy273⟩ : ∃ y_ : List Int,y_ = (x7_1 ++ [rd t264 t271]) := ⟨_,rfl⟩
              replace H : (spec_ChoiceOf.l0 k1 t258 t264 y273 (wrap64 (x8_1 + 1))) = some r := by first | (rw [hy273]; with_reducible exact H) | (have H2_ := (Option.bind_some _ _).symm.trans H; rw [hy273]; with_reducible exact H2_) | (have H2_ := (Option.bind_some _ _).symm.trans H; with_reducible exact H2_) | with_reducible exact H | (rw [hy273]; exact H) | exact H
              have Ny273 := QV hy273
              clear hy273
              have H' := QV H
              clear H
              have p270 : 0 ≤ (x8_1 : Int) := of_decide_eq_true (by first | (with_reducible assumption) | assumption)
              have q270 : x8_1 < (t258.length : Int) := of_decide_eq_true (by first | (with_reducible assumption) | assumption)
              obtain ⟨ad270,e270,hx270_0⟩ := Kd.at_int (Kd.R_reads' HO_5.out).2.2 x8_1 p270 q270
              cases e270
              replace p270 := eq_true p270
              replace q270 := eq_true q270
              go_wp2_with (first | ((with_reducible refine gate_callee (f := 14) rfl ?_); refine goesL_ (some 50) rfl rfl Try.func14 (by kernel_rfl) rfl #[.int .i64 (rd t258 x8_1)] rfl (by (try simp only [List.map_toArray,List.map_cons,List.map_nil]); first | done | rfl | (simp only [List.length_drop,List.length_take]; rfl)) ?_; (with_reducible refine (spec_SuitOf.calls (rd t258 x8_1) t271 _ A37.out).mono ?_); rintro e w' ⟨rfl,⟨nd,rfl⟩⟩; refine ⟨_,rfl,?_⟩; obtain ⟨Ao41,co41,eo41⟩ := Kd.R_slice HO_6.out; subst eo41; have p272 : 0 ≤ (t271 : Int) := of_decide_eq_true (by first | (with_reducible assumption) | assumption); have q272 : t271 < (t264.length : Int) := of_decide_eq_true (by first | (with_reducible assumption) | assumption); obtain ⟨ad272,e272,hx272_0⟩ := Kd.at_int (Kd.R_reads' HO_6.out).2.2 t271 p272 q272; cases e272; replace p272 := eq_true p272; replace q272 := eq_true q272) | ((with_reducible refine gate_builtin (b := .append) (xs := #[.tmp 44,.tmp 53]) rfl ?_); at_builtin; refine Kd.R_append (Kd.int .i64) (w0 := w) w.heap.size rfl (.tmp 44) (.tmp 53) 22 3 (.int .i64 0) 8 rfl Try.underlying22 info3 rfl (by decide) (by omega) u7 x7_1 (rd t264 t271) [.int .i64 (rd t264 t271)] (fun k_ => some k_ ≠ (.slice (some ad270) t258.length co30 : Value).ownBlock ∧ some k_ ≠ (.slice (some ad272) t264.length co41 : Value).ownBlock) (fun _ => False) rfl rfl ?aP (fun _ hk => hk.elim) ?aF ?aO ?aB ?aS ?aL ?_; (case aP => exact rfl); (case aB => exact (by repeat (first | (with_reducible first | exact HB.out | apply QF | apply QD | apply QE | refine QG ?_ GE257.out) | exact HB.out))); (case aF => exact (fun k_ hk => ⟨Kd.fresh' (Kd.R_lt (by (with_reducible repeat (first | apply QJ | apply QK | apply QM)); exact HO_5.out)) k_ hk,Kd.fresh' (Kd.R_lt (by (with_reducible repeat (first | apply QJ | apply QK | apply QM)); exact HO_6.out)) k_ hk⟩)); (case aO => exact (by (with_reducible repeat (first | apply QJ | apply QK | apply QM)); exact HO_7.out)); (case aS => exact (QS (by repeat (first | (with_reducible first | exact HB.out | apply QF | apply QD | apply QE | refine QG ?_ GE257.out) | exact HB.out)))); (case aL => have := LMc40.out; omega); intro v274 w42 ho hb hg hat; rw [← Ny273.out] at ho; have n0_ := QV (Kd.R_after (ok := (fun k_ => some k_ ≠ (.slice (some ad272) t264.length co41 : Value).ownBlock)) (by (with_reducible repeat (first | apply QJ | apply QK | apply QM)); exact HO_5.out) hg hat); have n1_ := QV (Kd.R_after (ok := (fun k_ => some k_ ≠ (.slice (some ad270) t258.length co30 : Value).ownBlock)) (by (with_reducible repeat (first | apply QJ | apply QK | apply QM)); exact HO_6.out) hg hat); have n2_ := QV (blk_grown (g := gb257) (o := .cells #[.int .i64 a0_0,.int .i64 a0_1,.bool a0_2,.bool a0_3,.slice A0_4 l0_4.length c0_4,.slice A0_5 l0_5.length c0_5,.int .i64 a0_6,.int .i64 a0_7,.slice (some ad263) l0_8.length c0_8,.slice A0_9 l0_9.length c0_9,.slice A0_10 l0_10.length c0_10,.int .i64 a0_11,.int .i64 a0_12,.int .i64 a0_13] 32 (0,0)) (by (with_reducible repeat (first | refine QH ?_ _ | refine QL ?_ | refine QI ?_ _)); exact BK257.out) hg (Kd.R_ne HO_7.out BK257.out (by decide))); have n3_ := QV (hb); have n4_ := QV (ho); clear HO_5; clear HO_6; clear BK257; clear HB; clear HO_7; revert n0_ n1_ n2_ n3_ n4_; intro HO_5 HO_6 BK257 HB HO275; clear ho hb hg hat))
              go_roundg k1
              case measure => have := HK1.out; omega
              case rel => exact ⟨(y273),(wrap64 (x8_1 + 1)),(by first | rfl | (simp; done) | (simp [*]; done)),H',⟨by have := HK1.out; omega⟩,⟨by (with_reducible repeat (first | apply QJ | apply QK | apply QM)); exact HO_5.out⟩,⟨by (with_reducible repeat (first | apply QJ | apply QK | apply QM)); exact HO_6.out⟩,⟨by (with_reducible repeat (first | apply QJ | apply QK | apply QM)); exact HO275.out⟩,⟨by (with_reducible repeat (first | refine QH ?_ _ | refine QL ?_ | refine QI ?_ _)); exact BK257.out⟩,⟨by repeat (first | (with_reducible first | exact HB.out | apply QF | apply QD | apply QE | refine QG ?_ GE257.out) | exact HB.out)⟩⟩
             ·rw [if_neg c40] at H
              exact absurd H (by simp)
            ·rw [if_neg c39] at H
             exact absurd H (by simp)
           ·rw [if_neg c38] at H
            exact absurd H (by simp)
          ·rw [if_neg c36] at H
           exact absurd H (by simp)
         ·rw [if_neg c35] at H
          have c35b0 : decide (x8_1 < (t258.length : Int)) = false := decide_eq_false c35
          clear c35
          replace H := Option.bind_eq_some_iff.mp H
          obtain ⟨t276,A430,H⟩ := H
          have A43 := QV A430
          clear A430
          by_cases c44 : 0 ≤ t276
          ·rw [if_pos c44] at H
           have c44b0 : decide (0 ≤ t276) = true := decide_eq_true c44
           clear c44
           by_cases c45 : t276 < (t258.length : Int)
           ·rw [if_pos c45] at H
            have c45b0 : decide (t276 < (t258.length : Int)) = true := decide_eq_true c45
            clear c45
            obtain rfl := Option.some.inj H
            obtain ⟨Ao46,co46,eo46⟩ := Kd.R_slice HO_7.out
            subst eo46
            go_wp2_with (first | ((with_reducible refine gate_callee (f := 15) rfl ?_); refine goesL_ (some 57) rfl rfl Try.func15 (by kernel_rfl) rfl #[.slice Ao46 x7_1.length co46] rfl (by (try simp only [List.map_toArray,List.map_cons,List.map_nil]); first | done | rfl | (simp only [List.length_drop,List.length_take]; rfl)) ?_; (with_reducible refine (spec_MostOf.calls k1 _ _ x7_1 t276 _ ?side1 ?side2 A43.out).mono ?_); (case side1 => repeat (first | exact (Kd.R_reads' HO_7.out).2.2 | (with_reducible refine QO ?_ _) | (with_reducible refine QP ?_ _) | (with_reducible refine QR ?_))); (case side2 => exact (Kd.R_reads' HO_7.out).2.1); rintro e w' ⟨rfl,⟨nd,rfl⟩⟩; refine ⟨_,rfl,?_⟩; have p277 : 0 ≤ (t276 : Int) := of_decide_eq_true (by first | (with_reducible assumption) | assumption); have q277 : t276 < (t258.length : Int) := of_decide_eq_true (by first | (with_reducible assumption) | assumption); obtain ⟨ad277,e277,hx277_0⟩ := Kd.at_int (Kd.R_reads' HO_5.out).2.2 t276 p277 q277; cases e277; replace p277 := eq_true p277; replace q277 := eq_true q277))
            go_ret
            exact ⟨by first | rfl | (simp [errW_none,errW_some] <;> rfl) | (simp [*,errW_none,errW_some] <;> rfl),by repeat (first | (with_reducible first | exact HB.out | apply QF | apply QD | apply QE | refine QG ?_ GE257.out) | exact HB.out)⟩
           ·rw [if_neg c45] at H
            exact absurd H (by simp)
          ·rw [if_neg c44] at H
           exact absurd H (by simp)
      ·rw [if_neg c25] at H
       exact absurd H (by simp)
     ·rw [if_neg c24] at H
      exact absurd H (by simp)
    ·rw [if_neg c23] at H
     have c23b0 : (a1 == 2) = false := beq_eq_false_iff_ne.mpr c23
     have c23b1 : (a1 != 2) = true := bne_iff_ne.mpr c23
     obtain rfl := Option.some.inj H
     go_enter Try.func5,Try.ntmps5
     go_wp2_with (first | ((with_reducible refine gate_dst (N := 2) rfl ?_); refine box_event ?hg (N := 2) ?hd (cs := #[.int .i64 a0_0,.int .i64 a0_1,.bool a0_2,.bool a0_3,.slice A0_4 l0_4.length c0_4,.slice A0_5 l0_5.length c0_5,.int .i64 a0_6,.int .i64 a0_7,.slice A0_8 l0_8.length c0_8,.slice A0_9 l0_9.length c0_9,.slice A0_10 l0_10.length c0_10,.int .i64 a0_11,.int .i64 a0_12,.int .i64 a0_13]) (t := 32) ?hr ?_; (case hd => rfl); (case hg => rfl); (case hr => first | (go_simp; done) | (go_simp; rfl)); intro gb257 hg w47 hbox hb; have n0_ := QV (QT (by repeat (first | (with_reducible first | exact HB.out | apply QF | apply QD | apply QE) | exact HB.out)) hb); have n1_ := QV (hbox); have n2_ := QV ((by rw [hg]; exact (QS (by repeat (first | (with_reducible first | exact HB.out | apply QF | apply QD | apply QE) | exact HB.out))) : w.heap.size ≤ gb257)); have n3_ := QV ((by rw [hg]; exact (QS (by repeat (first | (with_reducible first | exact HB.out | apply QF | apply QD | apply QE) | exact HB.out))) : w.heap.size ≤ gb257)); clear HB; revert n0_ n1_ n2_ n3_; intro HB BK257 GW257 GE257; clear hb hbox hg; have hcz48_0 : w47.cell? ⟨gb257,0,none⟩ = some (.int .i64 a0_0) := (QC BK257.out 0).trans rfl; have hcz48_1 : w47.cell? ⟨gb257,1,none⟩ = some (.int .i64 a0_1) := (QC BK257.out 1).trans rfl; have hcz48_2 : w47.cell? ⟨gb257,2,none⟩ = some (.bool a0_2) := (QC BK257.out 2).trans rfl; have hcz48_3 : w47.cell? ⟨gb257,3,none⟩ = some (.bool a0_3) := (QC BK257.out 3).trans rfl; have hcz48_4 : w47.cell? ⟨gb257,4,none⟩ = some (.slice A0_4 l0_4.length c0_4) := (QC BK257.out 4).trans rfl; have hcz48_5 : w47.cell? ⟨gb257,5,none⟩ = some (.slice A0_5 l0_5.length c0_5) := (QC BK257.out 5).trans rfl; have hcz48_6 : w47.cell? ⟨gb257,6,none⟩ = some (.int .i64 a0_6) := (QC BK257.out 6).trans rfl; have hcz48_7 : w47.cell? ⟨gb257,7,none⟩ = some (.int .i64 a0_7) := (QC BK257.out 7).trans rfl; have hcz48_8 : w47.cell? ⟨gb257,8,none⟩ = some (.slice A0_8 l0_8.length c0_8) := (QC BK257.out 8).trans rfl; have hcz48_9 : w47.cell? ⟨gb257,9,none⟩ = some (.slice A0_9 l0_9.length c0_9) := (QC BK257.out 9).trans rfl; have hcz48_10 : w47.cell? ⟨gb257,10,none⟩ = some (.slice A0_10 l0_10.length c0_10) := (QC BK257.out 10).trans rfl; have hcz48_11 : w47.cell? ⟨gb257,11,none⟩ = some (.int .i64 a0_11) := (QC BK257.out 11).trans rfl; have hcz48_12 : w47.cell? ⟨gb257,12,none⟩ = some (.int .i64 a0_12) := (QC BK257.out 12).trans rfl; have hcz48_13 : w47.cell? ⟨gb257,13,none⟩ = some (.int .i64 a0_13) := (QC BK257.out 13).trans rfl; have hfz48_0 := QB BK257.out 0; have hfz48_1 := QB BK257.out 1; have hfz48_2 := QB BK257.out 2; have hfz48_3 := QB BK257.out 3; have hfz48_4 := QB BK257.out 4; have hfz48_5 := QB BK257.out 5; have hfz48_6 := QB BK257.out 6; have hfz48_7 := QB BK257.out 7; have hfz48_8 := QB BK257.out 8; have hfz48_9 := QB BK257.out 9; have hfz48_10 := QB BK257.out 10; have hfz48_11 := QB BK257.out 11; have hfz48_12 := QB BK257.out 12; have hfz48_13 := QB BK257.out 13) | ((with_reducible refine gate_callee (f := 12) rfl ?_); refine goesL_ (some 10) rfl rfl Try.func12 (by kernel_rfl) rfl #[.agg #[.int .i64 a0_0,.int .i64 a0_1,.bool a0_2,.bool a0_3,.slice A0_4 l0_4.length c0_4,.slice A0_5 l0_5.length c0_5,.int .i64 a0_6,.int .i64 a0_7,.slice A0_8 l0_8.length c0_8,.slice A0_9 l0_9.length c0_9,.slice A0_10 l0_10.length c0_10,.int .i64 a0_11,.int .i64 a0_12,.int .i64 a0_13]] rfl (by (try simp only [List.map_toArray,List.map_cons,List.map_nil]); first | done | rfl | (simp only [List.length_drop,List.length_take]; rfl)) ?_; (with_reducible refine (spec_Playable.calls k a0_0 a0_1 a0_2 a0_3 _ _ l0_4 _ _ l0_5 a0_6 a0_7 _ _ l0_8 _ _ l0_9 _ _ l0_10 a0_11 a0_12 a0_13 t258 _ ?side1 ?side2 ?side3 ?side4 ?side5 ?side6 ?side7 ?side8 ?side9 ?side10 A3.out).mono ?_); (case side1 => repeat (first | exact (QN HR0_4.out HB.out) | (with_reducible refine QO ?_ _) | (with_reducible refine QP ?_ _) | (with_reducible refine QR ?_))); (case side2 => exact HC0_4.out); (case side3 => repeat (first | exact (QN HR0_5.out HB.out) | (with_reducible refine QO ?_ _) | (with_reducible refine QP ?_ _) | (with_reducible refine QR ?_))); (case side4 => exact HC0_5.out); (case side5 => repeat (first | exact (QN HR0_8.out HB.out) | (with_reducible refine QO ?_ _) | (with_reducible refine QP ?_ _) | (with_reducible refine QR ?_))); (case side6 => exact HC0_8.out); (case side7 => repeat (first | exact (QN HR0_9.out HB.out) | (with_reducible refine QO ?_ _) | (with_reducible refine QP ?_ _) | (with_reducible refine QR ?_))); (case side8 => exact HC0_9.out); (case side9 => repeat (first | exact (QN HR0_10.out HB.out) | (with_reducible refine QO ?_ _) | (with_reducible refine QP ?_ _) | (with_reducible refine QR ?_))); (case side10 => exact HC0_10.out); rintro e w49 ⟨v259,rfl,ho0,hb⟩; refine ⟨_,rfl,?_⟩; have n0_ := QV (Kd.R_lower ho0 (QS (by repeat (first | (with_reducible first | exact HB.out | apply QF | apply QD | apply QE | refine QG ?_ GE257.out) | exact HB.out)))); have n1_ := QV (QU (g := gb257) (o := .cells #[.int .i64 a0_0,.int .i64 a0_1,.bool a0_2,.bool a0_3,.slice A0_4 l0_4.length c0_4,.slice A0_5 l0_5.length c0_5,.int .i64 a0_6,.int .i64 a0_7,.slice A0_8 l0_8.length c0_8,.slice A0_9 l0_9.length c0_9,.slice A0_10 l0_10.length c0_10,.int .i64 a0_11,.int .i64 a0_12,.int .i64 a0_13] 32 (0,0)) (by (with_reducible repeat (first | refine QH ?_ _ | refine QL ?_ | refine QI ?_ _)); exact BK257.out) hb); have n2_ := QV (QT (by repeat (first | (with_reducible first | exact HB.out | apply QF | apply QD | apply QE | refine QG ?_ GE257.out) | exact HB.out)) hb); clear BK257; clear HB; revert n0_ n1_ n2_; intro HO260 BK257 HB; (try clear hb); (try clear hb2); (try clear hk); (try clear hi); (try clear ho0); obtain ⟨Ao50,co50,eo50⟩ := Kd.R_slice HO260.out; subst eo50))
     go_ret
     exact ⟨by first | rfl | (simp [errW_none,errW_some] <;> rfl) | (simp [*,errW_none,errW_some] <;> rfl),by repeat (first | (with_reducible first | exact HB.out | apply QF | apply QD | apply QE | refine QG ?_ GE257.out) | exact HB.out)⟩

/-! ### laws_toIntS: function 18 -/
def laws_toIntS.l0 : Nat → List Int → List Int → Int → Option (List Int)
 | 0,_,_,_ => none
 | k + 1,x0,x3,x4 => if x4 < (x0.length : Int) then (if 0 ≤ x4 then (if x4 < (x3.length : Int) then (laws_toIntS.l0 k x0 (x3.set (x4 : Int).toNat (rd x0 x4)) (wrap64 (x4 + 1))) else (none)) else (none)) else (some x3)
def laws_toIntS.f (k : Nat) (l0 : List Int) : Option (List Int) := if 0 ≤ (l0.length : Int) then (if ((l0.length : Int) : Int).toNat ≤ 35184372088832 then (laws_toIntS.l0 k l0 (List.replicate ((l0.length : Int) : Int).toNat 0) 0) else (none)) else (none)
theorem laws_toIntS.mono_l : ∀ k, (∀ y0 y1 y2, LeO (laws_toIntS.l0 k y0 y1 y2) (laws_toIntS.l0 (k + 1) y0 y1 y2))
 | 0 => fun _ _ _ r h => by simp [laws_toIntS.l0] at h
 | k + 1 => by
  have ih0 := laws_toIntS.mono_l k
  ·intro y0 y1 y2
   unfold laws_toIntS.l0
   repeat' first
   | (with_reducible exact ih0 _ _ _)
   | (with_reducible exact LeO.refl _)
   | (with_reducible exact LeO.none _)
   | (with_reducible refine LeO.ite ?_ ?_)
   | (with_reducible refine LeO.bind ?_ (fun _ => ?_))
   | exact ih0 _ _ _
   | exact LeO.none _
   | refine LeO.ite ?_ ?_
   | refine LeO.bind ?_ (fun _ => ?_)
theorem laws_toIntS.mono : ∀ a0 k, LeO (laws_toIntS.f k a0) (laws_toIntS.f (k + 1) a0) := by
 intro a0 k
 have ih0 := laws_toIntS.mono_l k
 unfold laws_toIntS.f
 repeat' first
   | (with_reducible exact ih0 _ _ _)
   | (with_reducible exact LeO.refl _)
   | (with_reducible exact LeO.none _)
   | (with_reducible refine LeO.ite ?_ ?_)
   | (with_reducible refine LeO.bind ?_ (fun _ => ?_))
   | exact ih0 _ _ _
   | exact LeO.none _
   | refine LeO.ite ?_ ?_
   | refine LeO.bind ?_ (fun _ => ?_)
set_option maxHeartbeats 8000000 in
set_option maxRecDepth 100000 in
theorem laws_toIntS.calls (k : Nat) (A0 : Option Addr) (c0 : Nat) (l0 : List Int) (r : List Int) (w : World) (hr0 : Kd.C (Kd.int .i64) w A0 l0.length l0) (hc0 : l0.length ≤ c0) (h : laws_toIntS.f k l0 = some r) :
  Calls Try.prog 18 #[.slice A0 l0.length c0] w fun e w' => ∃ v0_ : Value,e = .returned (v0_) ∧ Kd.R (Kd.int .i64) 3 w' w.heap.size (fun _ => True) v0_ r ∧ Below w.heap.size w w' := by
 have HR0 := QV hr0
 have HC0 := QV hc0
 clear hr0 hc0
 have HB := QV (Below.refl w.heap.size w)
 have H : (if 0 ≤ (l0.length : Int) then (if ((l0.length : Int) : Int).toNat ≤ 35184372088832 then (laws_toIntS.l0 k l0 (List.replicate ((l0.length : Int) : Int).toNat 0) 0) else (none)) else (none)) = some r := h
 clear h
 by_cases c2 : 0 ≤ (l0.length : Int)
 ·rw [if_pos c2] at H
  have c2b0 := eq_true c2
  have c2b1 : decide (0 ≤ (l0.length : Int)) = true := decide_eq_true c2
  clear c2
  by_cases c3 : ((l0.length : Int) : Int).toNat ≤ 35184372088832
  ·rw [if_pos c3] at H
   have c3b0 := eq_true c3
   have c3b1 : decide (((l0.length : Int) : Int).toNat ≤ 35184372088832) = true := decide_eq_true c3
   clear c3
   obtain ⟨y278,hy278⟩ : ∃ y_ : List Int,y_ = (List.replicate ((l0.length : Int) : Int).toNat 0) := ⟨_,rfl⟩
   replace H : (laws_toIntS.l0 k l0 y278 0) = some r := by first | (rw [hy278]; with_reducible exact H) | (have H2_ := (Option.bind_some _ _).symm.trans H; rw [hy278]; with_reducible exact H2_) | (have H2_ := (Option.bind_some _ _).symm.trans H; with_reducible exact H2_) | with_reducible exact H | (rw [hy278]; exact H) | exact H
   have Ny278 := QV hy278
   clear hy278
   have H' := QV H
   clear H
   go_enter Try.func18,Try.ntmps18
   go_wp2_with (first | ((with_reducible refine gate_dst (N := 7) rfl ?_); refine Kd.R_make (Kd.int .i64) _ 3 rfl (N := 7) rfl 22 _ _ rfl (l0.length : Int) rfl rfl Try.underlying22 (.int .i64 0) 8 info3 rfl (by decide) (by omega) 0 (ok := fun _ => True) (okp := fun _ => True) rfl (fun _ hk => hk) trivial (of_decide_eq_true (by first | (with_reducible assumption) | assumption)) (Nat.le_trans (Nat.mul_le_mul_right _ (of_decide_eq_true (by first | (with_reducible assumption) | assumption) : (l0.length : Int).toNat ≤ 35184372088832)) (by omega)) (Below.refl _ _) (Nat.le_refl _) ?_; intro v279 w4 ho5 hb hg_ hnew_; clear hg_ hnew_; (first | rw [← Ny278.out] at ho5 | (simp only [Int.reduceToNat] at ho5; rw [← Ny278.out] at ho5)); have n0_ := QV (Kd.R_lower ho5 (QS (by repeat (first | (with_reducible first | exact HB.out | apply QF | apply QD | apply QE) | exact HB.out)))); have n1_ := QV (QT (by repeat (first | (with_reducible first | exact HB.out | apply QF | apply QD | apply QE) | exact HB.out)) hb); clear HB; revert n0_ n1_; intro HO280 HB; clear hb ho5))
   go_loopg [4] k (fun kq v4 w' => ∃ (x3_1 : List Int) (x4_1 : Int),v4 = .int .i64 x4_1 ∧ Aside0 (laws_toIntS.l0 kq l0 x3_1 x4_1 = some r) ∧ Aside0 (kq ≤ k) ∧ Aside0 (Kd.R (Kd.int .i64) 3 w' w.heap.size (fun _ => True) v279 x3_1) ∧ Aside0 (Below w.heap.size w w'))
   case atStart => exact ⟨(y278),(0),(by first | rfl | (simp; done) | (simp [*]; done)),H',⟨Nat.le_refl _⟩,⟨by (with_reducible repeat (first | apply QJ | apply QK | apply QM)); exact HO280.out⟩,⟨by repeat (first | (with_reducible first | exact HB.out | apply QF | apply QD | apply QE) | exact HB.out)⟩⟩
   case round =>
    clear H'
    try clear c1
    try clear c2
    try clear c2b0
    try clear c2b1
    try clear p2
    try clear c3
    try clear c3b0
    try clear c3b1
    obtain ⟨x3_1,x4_1,rfl,HA,HK1,HO_3,HB⟩ := hrel
    cases gk with
    | zero => exact absurd HA.out (by simp [laws_toIntS.l0])
    | succ k1 =>
     have H := HA.out
     clear HA
     simp only [laws_toIntS.l0] at H
     by_cases c6 : x4_1 < (l0.length : Int)
     ·rw [if_pos c6] at H
      have c6b0 : decide (x4_1 < (l0.length : Int)) = true := decide_eq_true c6
      clear c6
      by_cases c7 : 0 ≤ x4_1
      ·rw [if_pos c7] at H
       have c7b0 : decide (0 ≤ x4_1) = true := decide_eq_true c7
       clear c7
       by_cases c8 : x4_1 < (x3_1.length : Int)
       ·rw [if_pos c8] at H
        have c8b0 : decide (x4_1 < (x3_1.length : Int)) = true := decide_eq_true c8
        clear c8
        obtain ⟨y282,hy282⟩ : ∃ y_ : List Int,y_ = (x3_1.set (x4_1 : Int).toNat (rd l0 x4_1)) := ⟨_,rfl⟩
        replace H : (laws_toIntS.l0 k1 l0 y282 (wrap64 (x4_1 + 1))) = some r := by first | (rw [hy282]; with_reducible exact H) | (have H2_ := (Option.bind_some _ _).symm.trans H; rw [hy282]; with_reducible exact H2_) | (have H2_ := (Option.bind_some _ _).symm.trans H; with_reducible exact H2_) | with_reducible exact H | (rw [hy282]; exact H) | exact H
        have Ny282 := QV hy282
        clear hy282
        have H' := QV H
        clear H
        have p281 : 0 ≤ (x4_1 : Int) := of_decide_eq_true (by first | (with_reducible assumption) | assumption)
        have q281 : x4_1 < (l0.length : Int) := of_decide_eq_true (by first | (with_reducible assumption) | assumption)
        obtain ⟨ad281,e281,hx281_0⟩ := Kd.at_int HR0.out x4_1 p281 q281
        cases e281
        replace hx281_0 := (HB.out.cell (World.block_lt_of_cell? w _ hx281_0)).trans hx281_0
        replace p281 := eq_true p281
        replace q281 := eq_true q281
        have p9 : 0 ≤ (x4_1 : Int) := of_decide_eq_true (by first | (with_reducible assumption) | assumption)
        have q9 : (x4_1 : Int) < ((x3_1.length : Int) : Int) := of_decide_eq_true (by first | (with_reducible assumption) | assumption)
        obtain ⟨go9,co9,eo9,gb9,gl9,cl9,HG9⟩ := Kd.R_form HO_3.out (by omega)
        (first | cases eo9 | (injection eo9 with ea_ en_ ec_; (first | subst ea_ | (injection ea_ with ea_; subst ea_)); subst ec_; clear en_))
        have GB9 := QV gb9
        have GG9 := QV HG9
        clear gb9 gl9 HG9
        obtain ⟨hx9_0,hf9_0⟩ := Kd.R_celln 0 HO_3.out (x4_1 : Int) p9 q9
        replace p9 := eq_true p9
        replace q9 := eq_true q9
        have HP10 := Kd.R_putg HO_3.out (x4_1 : Int) (rd l0 x4_1)
        go_wp2_with (first | ((with_reducible refine gate_store (t := 3) (p := 20) rfl ?_); refine store_event (t := 3) (p := 20) (v := ?vo_w11) (w1 := (wr.setCell ⟨go9,(x4_1 : Int).toNat,none⟩ (.int .i64 (rd l0 x4_1)))) ?hg ?ho ?hn ?hr ?_; (case ho => rfl); (case hg => rfl); (case hn => rfl); (case hr => first | (go_simp; done) | (go_simp; rfl)); intro w11 hw; have hg : wr.grownBy w11 (some go9) := (by rw [hw]; exact HP10.2); have hp_ : Kd.R (Kd.int .i64) 3 w11 w.heap.size (fun _ => True) (.slice (some ⟨go9,0,none⟩) x3_1.length co9) y282 := (by rw [hw,Ny282.out]; exact HP10.1); clear HP10; have n0_ := QV (hp_); have n1_ := QV ((by rw [hw]; exact QG (HB.out) GB9.out : Below w.heap.size w w11)); clear HO_3; clear HB; revert n0_ n1_; intro HO_3 HB; clear hg hw hp_))
        go_roundg k1
        case measure => have := HK1.out; omega
        case rel => exact ⟨(y282),(wrap64 (x4_1 + 1)),(by first | rfl | (simp; done) | (simp [*]; done)),H',⟨by have := HK1.out; omega⟩,⟨by (with_reducible repeat (first | apply QJ | apply QK | apply QM)); exact HO_3.out⟩,⟨by repeat (first | (with_reducible first | exact HB.out | apply QF | apply QD | apply QE) | exact HB.out)⟩⟩
       ·rw [if_neg c8] at H
        exact absurd H (by simp)
      ·rw [if_neg c7] at H
       exact absurd H (by simp)
     ·rw [if_neg c6] at H
      have c6b0 : decide (x4_1 < (l0.length : Int)) = false := decide_eq_false c6
      clear c6
      obtain rfl := Option.some.inj H
      go_wp2
      go_ret
      exact ⟨_,by first | rfl | (simp [errW_none,errW_some] <;> rfl) | (simp [*,errW_none,errW_some] <;> rfl),by (with_reducible repeat (first | apply QJ | apply QK | apply QM)); exact HO_3.out,by repeat (first | (with_reducible first | exact HB.out | apply QF | apply QD | apply QE) | exact HB.out)⟩
  ·rw [if_neg c3] at H
   exact absurd H (by simp)
 ·rw [if_neg c2] at H
  exact absurd H (by simp)

/-! ### laws_toRules: function 16 -/
def laws_toRules.f (k : Nat) (a0_0 : Int) (a0_1 : Int) (a0_2 : Bool) (a0_3 : Bool) (l0_4 : List Int) (l0_5 : List Int) (a0_6 : Int) (a0_7 : Int) : Option (Int × Int × Bool × Bool × List Int × List Int × Int × Int) := (laws_toIntS.f k l0_4).bind fun t286 => ((laws_toIntS.f k l0_5).bind fun t289 => (some (a0_0, a0_1, a0_2, a0_3, t286, t289, a0_6, a0_7)))
theorem laws_toRules.mono : ∀ a0 a1 a2 a3 a4 a5 a6 a7 k, LeO (laws_toRules.f k a0 a1 a2 a3 a4 a5 a6 a7) (laws_toRules.f (k + 1) a0 a1 a2 a3 a4 a5 a6 a7) := by
 intro a0 a1 a2 a3 a4 a5 a6 a7 k
 unfold laws_toRules.f
 repeat' first
   | (with_reducible exact laws_toIntS.mono _ _)
   | (with_reducible exact LeO.refl _)
   | (with_reducible exact LeO.none _)
   | (with_reducible refine LeO.ite ?_ ?_)
   | (with_reducible refine LeO.bind ?_ (fun _ => ?_))
   | exact laws_toIntS.mono _ _
   | exact LeO.none _
   | refine LeO.ite ?_ ?_
   | refine LeO.bind ?_ (fun _ => ?_)
set_option maxHeartbeats 8000000 in
set_option maxRecDepth 100000 in
theorem laws_toRules.calls (k : Nat) (a0_0 : Int) (a0_1 : Int) (a0_2 : Bool) (a0_3 : Bool) (A0_4 : Option Addr) (c0_4 : Nat) (l0_4 : List Int) (A0_5 : Option Addr) (c0_5 : Nat) (l0_5 : List Int) (a0_6 : Int) (a0_7 : Int) (r1 : Int) (r2 : Int) (r3 : Bool) (r4 : Bool) (r5 : List Int) (r6 : List Int) (r7 : Int) (r8 : Int) (w : World) (hr0_4 : Kd.C (Kd.int .i64) w A0_4 l0_4.length l0_4) (hc0_4 : l0_4.length ≤ c0_4) (hr0_5 : Kd.C (Kd.int .i64) w A0_5 l0_5.length l0_5) (hc0_5 : l0_5.length ≤ c0_5) (h : laws_toRules.f k a0_0 a0_1 a0_2 a0_3 l0_4 l0_5 a0_6 a0_7 = some (r1, r2, r3, r4, r5, r6, r7, r8)) :
  Calls Try.prog 16 #[.agg #[.int .i64 a0_0,.int .i64 a0_1,.bool a0_2,.bool a0_3,.slice A0_4 l0_4.length c0_4,.slice A0_5 l0_5.length c0_5,.int .i64 a0_6,.int .i64 a0_7]] w fun e w' => ∃ v4_ v5_ : Value,e = .returned (.agg #[.int .i64 r1,.int .i64 r2,.bool r3,.bool r4,v4_,v5_,.int .i64 r7,.int .i64 r8]) ∧ Kd.R (Kd.int .i64) 3 w' w.heap.size (fun k_ => some k_ ≠ (v5_ : Value).ownBlock) v4_ r5 ∧ Kd.R (Kd.int .i64) 3 w' w.heap.size (fun k_ => some k_ ≠ (v4_ : Value).ownBlock) v5_ r6 ∧ Below w.heap.size w w' := by
 have hu24 := Try.underlying24
 have hu30 := Try.underlying30
 have HR0_4 := QV hr0_4
 have HC0_4 := QV hc0_4
 clear hr0_4 hc0_4
 have HR0_5 := QV hr0_5
 have HC0_5 := QV hc0_5
 clear hr0_5 hc0_5
 have HB := QV (Below.refl w.heap.size w)
 have H : ((laws_toIntS.f k l0_4).bind fun t286 => ((laws_toIntS.f k l0_5).bind fun t289 => (some (a0_0,a0_1,a0_2,a0_3,t286,t289,a0_6,a0_7)))) = some (r1,r2,r3,r4,r5,r6,r7,r8) := h
 clear h
 replace H := Option.bind_eq_some_iff.mp H
 obtain ⟨t286,A20,H⟩ := H
 replace H : ((laws_toIntS.f k l0_5).bind fun t289 => (some (a0_0,a0_1,a0_2,a0_3,t286,t289,a0_6,a0_7))) = some (r1,r2,r3,r4,r5,r6,r7,r8) := H
 have A2 := QV A20
 clear A20
 replace H := Option.bind_eq_some_iff.mp H
 obtain ⟨t289,A30,H⟩ := H
 replace H : (some (a0_0,a0_1,a0_2,a0_3,t286,t289,a0_6,a0_7)) = some (r1,r2,r3,r4,r5,r6,r7,r8) := H
 have A3 := QV A30
 clear A30
 simp only [Option.some.injEq,Prod.mk.injEq] at H
 obtain ⟨rfl,rfl,rfl,rfl,rfl,rfl,rfl,rfl⟩ := H
 go_enter Try.func16,Try.ntmps16
 go_wp2_with (first | ((with_reducible refine gate_dst (N := 1) rfl ?_); refine box_event ?hg (N := 1) ?hd (cs := #[.int .i64 a0_0,.int .i64 a0_1,.bool a0_2,.bool a0_3,.slice A0_4 l0_4.length c0_4,.slice A0_5 l0_5.length c0_5,.int .i64 a0_6,.int .i64 a0_7]) (t := 24) ?hr ?_; (case hd => rfl); (case hg => rfl); (case hr => first | (go_simp; done) | (go_simp; rfl)); intro gb283 hg w4 hbox hb; have n0_ := QV (QT (by repeat (first | (with_reducible first | exact HB.out | apply QF | apply QD | apply QE) | exact HB.out)) hb); have n1_ := QV (hbox); have n2_ := QV ((by rw [hg]; exact (QS (by repeat (first | (with_reducible first | exact HB.out | apply QF | apply QD | apply QE) | exact HB.out))) : w.heap.size ≤ gb283)); have n3_ := QV ((by rw [hg]; exact (QS (by repeat (first | (with_reducible first | exact HB.out | apply QF | apply QD | apply QE) | exact HB.out))) : w.heap.size ≤ gb283)); clear HB; revert n0_ n1_ n2_ n3_; intro HB BK283 GW283 GE283; clear hb hbox hg) | ((with_reducible refine gate_dst (N := 2) rfl ?_); refine box_event ?hg (N := 2) ?hd (cs := #[.int .i64 0,.int .i64 0,.bool false,.bool false,.slice none 0 0,.slice none 0 0,.int .i64 0,.int .i64 0]) (t := 30) ?hr ?_; (case hd => rfl); (case hg => rfl); (case hr => first | (go_simp; done) | (go_simp; rfl)); intro gb284 hg w5 hbox hb; have n0_ := QV (QU (g := gb283) (o := .cells #[.int .i64 a0_0,.int .i64 a0_1,.bool a0_2,.bool a0_3,.slice A0_4 l0_4.length c0_4,.slice A0_5 l0_5.length c0_5,.int .i64 a0_6,.int .i64 a0_7] 24 (0,0)) (by (with_reducible repeat (first | refine QH ?_ _ | refine QL ?_ | refine QI ?_ _)); exact BK283.out) hb); have n1_ := QV (QT (by repeat (first | (with_reducible first | exact HB.out | apply QF | apply QD | apply QE | refine QG ?_ GE283.out) | exact HB.out)) hb); have n2_ := QV (hbox); have n3_ := QV ((by rw [hg]; exact (QS (by repeat (first | (with_reducible first | exact HB.out | apply QF | apply QD | apply QE | refine QG ?_ GE283.out) | exact HB.out))) : w.heap.size ≤ gb284)); have n4_ := QV ((by rw [hg]; exact (QS (by repeat (first | (with_reducible first | exact HB.out | apply QF | apply QD | apply QE | refine QG ?_ GE283.out) | exact HB.out))) : w.heap.size ≤ gb284)); have n5_ := QV ((by rw [hg]; exact Nat.ne_of_lt (blk_lt (g := gb283) (o := .cells #[.int .i64 a0_0,.int .i64 a0_1,.bool a0_2,.bool a0_3,.slice A0_4 l0_4.length c0_4,.slice A0_5 l0_5.length c0_5,.int .i64 a0_6,.int .i64 a0_7] 24 (0,0)) (by (with_reducible repeat (first | refine QH ?_ _ | refine QL ?_ | refine QI ?_ _)); exact BK283.out)) : gb283 ≠ gb284)); have n6_ := QV ((by rw [hg]; exact Nat.ne_of_gt (blk_lt (g := gb283) (o := .cells #[.int .i64 a0_0,.int .i64 a0_1,.bool a0_2,.bool a0_3,.slice A0_4 l0_4.length c0_4,.slice A0_5 l0_5.length c0_5,.int .i64 a0_6,.int .i64 a0_7] 24 (0,0)) (by (with_reducible repeat (first | refine QH ?_ _ | refine QL ?_ | refine QI ?_ _)); exact BK283.out)) : gb284 ≠ gb283)); clear BK283; clear HB; revert n0_ n1_ n2_ n3_ n4_ n5_ n6_; intro BK283 HB BK284 GW284 GE284 NB283_284 NB284_283; clear hb hbox hg) | ((with_reducible refine gate_dst (N := 3) rfl ?_); refine box_event ?hg (N := 3) ?hd (cs := #[.int .i64 0,.int .i64 0,.bool false,.bool false,.slice none 0 0,.slice none 0 0,.int .i64 0,.int .i64 0]) (t := 30) ?hr ?_; (case hd => rfl); (case hg => rfl); (case hr => first | (go_simp; done) | (go_simp; rfl)); intro gb285 hg w6 hbox hb; have n0_ := QV (QU (g := gb283) (o := .cells #[.int .i64 a0_0,.int .i64 a0_1,.bool a0_2,.bool a0_3,.slice A0_4 l0_4.length c0_4,.slice A0_5 l0_5.length c0_5,.int .i64 a0_6,.int .i64 a0_7] 24 (0,0)) (by (with_reducible repeat (first | refine QH ?_ _ | refine QL ?_ | refine QI ?_ _)); exact BK283.out) hb); have n1_ := QV (QU (g := gb284) (o := .cells #[.int .i64 0,.int .i64 0,.bool false,.bool false,.slice none 0 0,.slice none 0 0,.int .i64 0,.int .i64 0] 30 (0,0)) (by (with_reducible repeat (first | refine QH ?_ _ | refine QL ?_ | refine QI ?_ _)); exact BK284.out) hb); have n2_ := QV (QT (by repeat (first | (with_reducible first | exact HB.out | apply QF | apply QD | apply QE | refine QG ?_ GE283.out | refine QG ?_ GE284.out) | exact HB.out)) hb); have n3_ := QV (hbox); have n4_ := QV ((by rw [hg]; exact (QS (by repeat (first | (with_reducible first | exact HB.out | apply QF | apply QD | apply QE | refine QG ?_ GE283.out | refine QG ?_ GE284.out) | exact HB.out))) : w.heap.size ≤ gb285)); have n5_ := QV ((by rw [hg]; exact (QS (by repeat (first | (with_reducible first | exact HB.out | apply QF | apply QD | apply QE | refine QG ?_ GE283.out | refine QG ?_ GE284.out) | exact HB.out))) : w.heap.size ≤ gb285)); have n6_ := QV ((by rw [hg]; exact Nat.ne_of_lt (blk_lt (g := gb283) (o := .cells #[.int .i64 a0_0,.int .i64 a0_1,.bool a0_2,.bool a0_3,.slice A0_4 l0_4.length c0_4,.slice A0_5 l0_5.length c0_5,.int .i64 a0_6,.int .i64 a0_7] 24 (0,0)) (by (with_reducible repeat (first | refine QH ?_ _ | refine QL ?_ | refine QI ?_ _)); exact BK283.out)) : gb283 ≠ gb285)); have n7_ := QV ((by rw [hg]; exact Nat.ne_of_gt (blk_lt (g := gb283) (o := .cells #[.int .i64 a0_0,.int .i64 a0_1,.bool a0_2,.bool a0_3,.slice A0_4 l0_4.length c0_4,.slice A0_5 l0_5.length c0_5,.int .i64 a0_6,.int .i64 a0_7] 24 (0,0)) (by (with_reducible repeat (first | refine QH ?_ _ | refine QL ?_ | refine QI ?_ _)); exact BK283.out)) : gb285 ≠ gb283)); have n8_ := QV ((by rw [hg]; exact Nat.ne_of_lt (blk_lt (g := gb284) (o := .cells #[.int .i64 0,.int .i64 0,.bool false,.bool false,.slice none 0 0,.slice none 0 0,.int .i64 0,.int .i64 0] 30 (0,0)) (by (with_reducible repeat (first | refine QH ?_ _ | refine QL ?_ | refine QI ?_ _)); exact BK284.out)) : gb284 ≠ gb285)); have n9_ := QV ((by rw [hg]; exact Nat.ne_of_gt (blk_lt (g := gb284) (o := .cells #[.int .i64 0,.int .i64 0,.bool false,.bool false,.slice none 0 0,.slice none 0 0,.int .i64 0,.int .i64 0] 30 (0,0)) (by (with_reducible repeat (first | refine QH ?_ _ | refine QL ?_ | refine QI ?_ _)); exact BK284.out)) : gb285 ≠ gb284)); clear BK283; clear BK284; clear HB; revert n0_ n1_ n2_ n3_ n4_ n5_ n6_ n7_ n8_ n9_; intro BK283 BK284 HB BK285 GW285 GE285 NB283_285 NB285_283 NB284_285 NB285_284; clear hb hbox hg; have hnb7 := NB283_284.out; have hnc7 := NB284_283.out; have hnb8 := NB283_285.out; have hnc8 := NB285_283.out; have hcz9_0 : w6.cell? ⟨gb283,0,none⟩ = some (.int .i64 a0_0) := (QC BK283.out 0).trans rfl; have hcz9_1 : w6.cell? ⟨gb283,1,none⟩ = some (.int .i64 a0_1) := (QC BK283.out 1).trans rfl; have hcz9_2 : w6.cell? ⟨gb283,2,none⟩ = some (.bool a0_2) := (QC BK283.out 2).trans rfl; have hcz9_3 : w6.cell? ⟨gb283,3,none⟩ = some (.bool a0_3) := (QC BK283.out 3).trans rfl; have hcz9_4 : w6.cell? ⟨gb283,4,none⟩ = some (.slice A0_4 l0_4.length c0_4) := (QC BK283.out 4).trans rfl; have hcz9_5 : w6.cell? ⟨gb283,5,none⟩ = some (.slice A0_5 l0_5.length c0_5) := (QC BK283.out 5).trans rfl; have hcz9_6 : w6.cell? ⟨gb283,6,none⟩ = some (.int .i64 a0_6) := (QC BK283.out 6).trans rfl; have hcz9_7 : w6.cell? ⟨gb283,7,none⟩ = some (.int .i64 a0_7) := (QC BK283.out 7).trans rfl; have hfz9_0 := QB BK283.out 0; have hfz9_1 := QB BK283.out 1; have hfz9_2 := QB BK283.out 2; have hfz9_3 := QB BK283.out 3; have hfz9_4 := QB BK283.out 4; have hfz9_5 := QB BK283.out 5; have hfz9_6 := QB BK283.out 6; have hfz9_7 := QB BK283.out 7; have hnb10 := NB285_284.out; have hnc10 := NB284_285.out; have hcz11_0 : w6.cell? ⟨gb285,0,none⟩ = some (.int .i64 0) := (QC BK285.out 0).trans rfl; have hcz11_1 : w6.cell? ⟨gb285,1,none⟩ = some (.int .i64 0) := (QC BK285.out 1).trans rfl; have hcz11_2 : w6.cell? ⟨gb285,2,none⟩ = some (.bool false) := (QC BK285.out 2).trans rfl; have hcz11_3 : w6.cell? ⟨gb285,3,none⟩ = some (.bool false) := (QC BK285.out 3).trans rfl; have hcz11_4 : w6.cell? ⟨gb285,4,none⟩ = some (.slice none 0 0) := (QC BK285.out 4).trans rfl; have hcz11_5 : w6.cell? ⟨gb285,5,none⟩ = some (.slice none 0 0) := (QC BK285.out 5).trans rfl; have hcz11_6 : w6.cell? ⟨gb285,6,none⟩ = some (.int .i64 0) := (QC BK285.out 6).trans rfl; have hcz11_7 : w6.cell? ⟨gb285,7,none⟩ = some (.int .i64 0) := (QC BK285.out 7).trans rfl; have hfz11_0 := QB BK285.out 0; have hfz11_1 := QB BK285.out 1; have hfz11_2 := QB BK285.out 2; have hfz11_3 := QB BK285.out 3; have hfz11_4 := QB BK285.out 4; have hfz11_5 := QB BK285.out 5; have hfz11_6 := QB BK285.out 6; have hfz11_7 := QB BK285.out 7) | ((with_reducible refine gate_callee (f := 18) rfl ?_); refine goesL_ (some 18) rfl rfl Try.func18 (by kernel_rfl) rfl #[.slice A0_4 l0_4.length c0_4] rfl (by (try simp only [List.map_toArray,List.map_cons,List.map_nil]); first | done | rfl | (simp only [List.length_drop,List.length_take]; rfl)) ?_; (with_reducible refine (laws_toIntS.calls k _ _ l0_4 t286 _ ?side1 ?side2 A2.out).mono ?_); (case side1 => exact QN HR0_4.out (by repeat (first | (with_reducible first | exact HB.out | apply QF | apply QD | apply QE | refine QG ?_ GE283.out | refine QG ?_ GE284.out | refine QG ?_ GE285.out) | exact HB.out))); (case side2 => exact HC0_4.out); rintro e w12 ⟨v287,rfl,ho0,hb⟩; refine ⟨_,rfl,?_⟩; have n0_ := QV (Kd.R_lower ho0 (QS (by repeat (first | (with_reducible first | exact HB.out | apply QF | apply QD | apply QE | refine QG ?_ GE283.out | refine QG ?_ GE284.out | refine QG ?_ GE285.out) | exact HB.out)))); have n1_ := QV (QU (g := gb283) (o := .cells #[.int .i64 a0_0,.int .i64 a0_1,.bool a0_2,.bool a0_3,.slice A0_4 l0_4.length c0_4,.slice A0_5 l0_5.length c0_5,.int .i64 a0_6,.int .i64 a0_7] 24 (0,0)) (by (with_reducible repeat (first | refine QH ?_ _ | refine QL ?_ | refine QI ?_ _)); refine blk_far ?_ NB283_285.out _; (with_reducible repeat (first | refine QH ?_ _ | refine QL ?_ | refine QI ?_ _)); refine blk_far ?_ NB283_285.out _; (with_reducible repeat (first | refine QH ?_ _ | refine QL ?_ | refine QI ?_ _)); refine blk_far ?_ NB283_285.out _; (with_reducible repeat (first | refine QH ?_ _ | refine QL ?_ | refine QI ?_ _)); refine blk_far ?_ NB283_285.out _; (with_reducible repeat (first | refine QH ?_ _ | refine QL ?_ | refine QI ?_ _)); exact BK283.out) hb); have n2_ := QV (QU (g := gb284) (o := .cells #[.int .i64 0,.int .i64 0,.bool false,.bool false,.slice none 0 0,.slice none 0 0,.int .i64 0,.int .i64 0] 30 (0,0)) (by (with_reducible repeat (first | refine QH ?_ _ | refine QL ?_ | refine QI ?_ _)); refine blk_far ?_ NB284_285.out _; (with_reducible repeat (first | refine QH ?_ _ | refine QL ?_ | refine QI ?_ _)); refine blk_far ?_ NB284_285.out _; (with_reducible repeat (first | refine QH ?_ _ | refine QL ?_ | refine QI ?_ _)); refine blk_far ?_ NB284_285.out _; (with_reducible repeat (first | refine QH ?_ _ | refine QL ?_ | refine QI ?_ _)); refine blk_far ?_ NB284_285.out _; (with_reducible repeat (first | refine QH ?_ _ | refine QL ?_ | refine QI ?_ _)); exact BK284.out) hb); have n3_ := QV (QU (g := gb285) (o := .cells #[.int .i64 a0_0,.int .i64 a0_1,.bool a0_2,.bool a0_3,.slice none 0 0,.slice none 0 0,.int .i64 0,.int .i64 0] 30 (0,0)) (by (with_reducible repeat (first | refine QH ?_ _ | refine QL ?_ | refine QI ?_ _)); refine blk_put (cs := #[.int .i64 a0_0,.int .i64 a0_1,.bool a0_2,.bool false,.slice none 0 0,.slice none 0 0,.int .i64 0,.int .i64 0]) ?_ 3 _ rfl; (with_reducible repeat (first | refine QH ?_ _ | refine QL ?_ | refine QI ?_ _)); refine blk_put (cs := #[.int .i64 a0_0,.int .i64 a0_1,.bool false,.bool false,.slice none 0 0,.slice none 0 0,.int .i64 0,.int .i64 0]) ?_ 2 _ rfl; (with_reducible repeat (first | refine QH ?_ _ | refine QL ?_ | refine QI ?_ _)); refine blk_put (cs := #[.int .i64 a0_0,.int .i64 0,.bool false,.bool false,.slice none 0 0,.slice none 0 0,.int .i64 0,.int .i64 0]) ?_ 1 _ rfl; (with_reducible repeat (first | refine QH ?_ _ | refine QL ?_ | refine QI ?_ _)); refine blk_put (cs := #[.int .i64 0,.int .i64 0,.bool false,.bool false,.slice none 0 0,.slice none 0 0,.int .i64 0,.int .i64 0]) ?_ 0 _ rfl; (with_reducible repeat (first | refine QH ?_ _ | refine QL ?_ | refine QI ?_ _)); exact BK285.out) hb); have n4_ := QV (QT (by repeat (first | (with_reducible first | exact HB.out | apply QF | apply QD | apply QE | refine QG ?_ GE283.out | refine QG ?_ GE284.out | refine QG ?_ GE285.out) | exact HB.out)) hb); clear BK283; clear BK284; clear BK285; clear HB; revert n0_ n1_ n2_ n3_ n4_; intro HO288 BK283 BK284 BK285 HB; (try clear hb); (try clear hb2); (try clear hk); (try clear hi); (try clear ho0); obtain ⟨Ao13,co13,eo13⟩ := Kd.R_slice HO288.out; subst eo13; have hcz14_0 : w12.cell? ⟨gb285,0,none⟩ = some (.int .i64 a0_0) := (QC BK285.out 0).trans rfl; have hcz14_1 : w12.cell? ⟨gb285,1,none⟩ = some (.int .i64 a0_1) := (QC BK285.out 1).trans rfl; have hcz14_2 : w12.cell? ⟨gb285,2,none⟩ = some (.bool a0_2) := (QC BK285.out 2).trans rfl; have hcz14_3 : w12.cell? ⟨gb285,3,none⟩ = some (.bool a0_3) := (QC BK285.out 3).trans rfl; have hcz14_4 : w12.cell? ⟨gb285,4,none⟩ = some (.slice none 0 0) := (QC BK285.out 4).trans rfl; have hcz14_5 : w12.cell? ⟨gb285,5,none⟩ = some (.slice none 0 0) := (QC BK285.out 5).trans rfl; have hcz14_6 : w12.cell? ⟨gb285,6,none⟩ = some (.int .i64 0) := (QC BK285.out 6).trans rfl; have hcz14_7 : w12.cell? ⟨gb285,7,none⟩ = some (.int .i64 0) := (QC BK285.out 7).trans rfl; have hfz14_0 := QB BK285.out 0; have hfz14_1 := QB BK285.out 1; have hfz14_2 := QB BK285.out 2; have hfz14_3 := QB BK285.out 3; have hfz14_4 := QB BK285.out 4; have hfz14_5 := QB BK285.out 5; have hfz14_6 := QB BK285.out 6; have hfz14_7 := QB BK285.out 7; have hcz15_0 : w12.cell? ⟨gb283,0,none⟩ = some (.int .i64 a0_0) := (QC BK283.out 0).trans rfl; have hcz15_1 : w12.cell? ⟨gb283,1,none⟩ = some (.int .i64 a0_1) := (QC BK283.out 1).trans rfl; have hcz15_2 : w12.cell? ⟨gb283,2,none⟩ = some (.bool a0_2) := (QC BK283.out 2).trans rfl; have hcz15_3 : w12.cell? ⟨gb283,3,none⟩ = some (.bool a0_3) := (QC BK283.out 3).trans rfl; have hcz15_4 : w12.cell? ⟨gb283,4,none⟩ = some (.slice A0_4 l0_4.length c0_4) := (QC BK283.out 4).trans rfl; have hcz15_5 : w12.cell? ⟨gb283,5,none⟩ = some (.slice A0_5 l0_5.length c0_5) := (QC BK283.out 5).trans rfl; have hcz15_6 : w12.cell? ⟨gb283,6,none⟩ = some (.int .i64 a0_6) := (QC BK283.out 6).trans rfl; have hcz15_7 : w12.cell? ⟨gb283,7,none⟩ = some (.int .i64 a0_7) := (QC BK283.out 7).trans rfl; have hfz15_0 := QB BK283.out 0; have hfz15_1 := QB BK283.out 1; have hfz15_2 := QB BK283.out 2; have hfz15_3 := QB BK283.out 3; have hfz15_4 := QB BK283.out 4; have hfz15_5 := QB BK283.out 5; have hfz15_6 := QB BK283.out 6; have hfz15_7 := QB BK283.out 7) | ((with_reducible refine gate_callee (f := 18) rfl ?_); refine goesL_ (some 22) rfl rfl Try.func18 (by kernel_rfl) rfl #[.slice A0_5 l0_5.length c0_5] rfl (by (try simp only [List.map_toArray,List.map_cons,List.map_nil]); first | done | rfl | (simp only [List.length_drop,List.length_take]; rfl)) ?_; (with_reducible refine (laws_toIntS.calls k _ _ l0_5 t289 _ ?side1 ?side2 A3.out).mono ?_); (case side1 => exact QN HR0_5.out (by repeat (first | (with_reducible first | exact HB.out | apply QF | apply QD | apply QE | refine QG ?_ GE283.out | refine QG ?_ GE284.out | refine QG ?_ GE285.out) | exact HB.out))); (case side2 => exact HC0_5.out); rintro e w16 ⟨v290,rfl,ho0,hb⟩; refine ⟨_,rfl,?_⟩; have n0_ := QV (Kd.R_elder' (by (with_reducible repeat (first | apply QJ | apply QK | apply QM)); exact (Kd.R_mono (far_r (Kd.R_types HO288.out BK285.out (by decide))) (fun _ h_ => h_.1))) (Kd.R_base ho0) hb); have n1_ := QV (Kd.R_lower (Kd.R_new' ho0 (Kd.R_lt (by (with_reducible repeat (first | apply QJ | apply QK | apply QM)); exact (Kd.R_mono (far_r (Kd.R_types HO288.out BK285.out (by decide))) (fun _ h_ => h_.1))))) (QS (by repeat (first | (with_reducible first | exact HB.out | apply QF | apply QD | apply QE | refine QG ?_ GE283.out | refine QG ?_ GE284.out | refine QG ?_ GE285.out) | exact HB.out)))); have n2_ := QV (QU (g := gb283) (o := .cells #[.int .i64 a0_0,.int .i64 a0_1,.bool a0_2,.bool a0_3,.slice A0_4 l0_4.length c0_4,.slice A0_5 l0_5.length c0_5,.int .i64 a0_6,.int .i64 a0_7] 24 (0,0)) (by (with_reducible repeat (first | refine QH ?_ _ | refine QL ?_ | refine QI ?_ _)); refine blk_far ?_ NB283_285.out _; (with_reducible repeat (first | refine QH ?_ _ | refine QL ?_ | refine QI ?_ _)); exact BK283.out) hb); have n3_ := QV (QU (g := gb284) (o := .cells #[.int .i64 0,.int .i64 0,.bool false,.bool false,.slice none 0 0,.slice none 0 0,.int .i64 0,.int .i64 0] 30 (0,0)) (by (with_reducible repeat (first | refine QH ?_ _ | refine QL ?_ | refine QI ?_ _)); refine blk_far ?_ NB284_285.out _; (with_reducible repeat (first | refine QH ?_ _ | refine QL ?_ | refine QI ?_ _)); exact BK284.out) hb); have n4_ := QV (QU (g := gb285) (o := .cells #[.int .i64 a0_0,.int .i64 a0_1,.bool a0_2,.bool a0_3,.slice Ao13 t286.length co13,.slice none 0 0,.int .i64 0,.int .i64 0] 30 (0,0)) (by (with_reducible repeat (first | refine QH ?_ _ | refine QL ?_ | refine QI ?_ _)); refine blk_put (cs := #[.int .i64 a0_0,.int .i64 a0_1,.bool a0_2,.bool a0_3,.slice none 0 0,.slice none 0 0,.int .i64 0,.int .i64 0]) ?_ 4 _ rfl; (with_reducible repeat (first | refine QH ?_ _ | refine QL ?_ | refine QI ?_ _)); exact BK285.out) hb); have n5_ := QV (QT (by repeat (first | (with_reducible first | exact HB.out | apply QF | apply QD | apply QE | refine QG ?_ GE283.out | refine QG ?_ GE284.out | refine QG ?_ GE285.out) | exact HB.out)) hb); clear HO288; clear BK283; clear BK284; clear BK285; clear HB; revert n0_ n1_ n2_ n3_ n4_ n5_; intro HO288 HO291 BK283 BK284 BK285 HB; (try clear hb); (try clear hb2); (try clear hk); (try clear hi); (try clear ho0); obtain ⟨Ao17,co17,eo17⟩ := Kd.R_slice HO291.out; subst eo17; have hcz18_0 : w16.cell? ⟨gb285,0,none⟩ = some (.int .i64 a0_0) := (QC BK285.out 0).trans rfl; have hcz18_1 : w16.cell? ⟨gb285,1,none⟩ = some (.int .i64 a0_1) := (QC BK285.out 1).trans rfl; have hcz18_2 : w16.cell? ⟨gb285,2,none⟩ = some (.bool a0_2) := (QC BK285.out 2).trans rfl; have hcz18_3 : w16.cell? ⟨gb285,3,none⟩ = some (.bool a0_3) := (QC BK285.out 3).trans rfl; have hcz18_4 : w16.cell? ⟨gb285,4,none⟩ = some (.slice Ao13 t286.length co13) := (QC BK285.out 4).trans rfl; have hcz18_5 : w16.cell? ⟨gb285,5,none⟩ = some (.slice none 0 0) := (QC BK285.out 5).trans rfl; have hcz18_6 : w16.cell? ⟨gb285,6,none⟩ = some (.int .i64 0) := (QC BK285.out 6).trans rfl; have hcz18_7 : w16.cell? ⟨gb285,7,none⟩ = some (.int .i64 0) := (QC BK285.out 7).trans rfl; have hfz18_0 := QB BK285.out 0; have hfz18_1 := QB BK285.out 1; have hfz18_2 := QB BK285.out 2; have hfz18_3 := QB BK285.out 3; have hfz18_4 := QB BK285.out 4; have hfz18_5 := QB BK285.out 5; have hfz18_6 := QB BK285.out 6; have hfz18_7 := QB BK285.out 7; have hcz19_0 : w16.cell? ⟨gb283,0,none⟩ = some (.int .i64 a0_0) := (QC BK283.out 0).trans rfl; have hcz19_1 : w16.cell? ⟨gb283,1,none⟩ = some (.int .i64 a0_1) := (QC BK283.out 1).trans rfl; have hcz19_2 : w16.cell? ⟨gb283,2,none⟩ = some (.bool a0_2) := (QC BK283.out 2).trans rfl; have hcz19_3 : w16.cell? ⟨gb283,3,none⟩ = some (.bool a0_3) := (QC BK283.out 3).trans rfl; have hcz19_4 : w16.cell? ⟨gb283,4,none⟩ = some (.slice A0_4 l0_4.length c0_4) := (QC BK283.out 4).trans rfl; have hcz19_5 : w16.cell? ⟨gb283,5,none⟩ = some (.slice A0_5 l0_5.length c0_5) := (QC BK283.out 5).trans rfl; have hcz19_6 : w16.cell? ⟨gb283,6,none⟩ = some (.int .i64 a0_6) := (QC BK283.out 6).trans rfl; have hcz19_7 : w16.cell? ⟨gb283,7,none⟩ = some (.int .i64 a0_7) := (QC BK283.out 7).trans rfl; have hfz19_0 := QB BK283.out 0; have hfz19_1 := QB BK283.out 1; have hfz19_2 := QB BK283.out 2; have hfz19_3 := QB BK283.out 3; have hfz19_4 := QB BK283.out 4; have hfz19_5 := QB BK283.out 5; have hfz19_6 := QB BK283.out 6; have hfz19_7 := QB BK283.out 7; have hcz20_0 : w16.cell? ⟨gb284,0,none⟩ = some (.int .i64 0) := (QC BK284.out 0).trans rfl; have hcz20_1 : w16.cell? ⟨gb284,1,none⟩ = some (.int .i64 0) := (QC BK284.out 1).trans rfl; have hcz20_2 : w16.cell? ⟨gb284,2,none⟩ = some (.bool false) := (QC BK284.out 2).trans rfl; have hcz20_3 : w16.cell? ⟨gb284,3,none⟩ = some (.bool false) := (QC BK284.out 3).trans rfl; have hcz20_4 : w16.cell? ⟨gb284,4,none⟩ = some (.slice none 0 0) := (QC BK284.out 4).trans rfl; have hcz20_5 : w16.cell? ⟨gb284,5,none⟩ = some (.slice none 0 0) := (QC BK284.out 5).trans rfl; have hcz20_6 : w16.cell? ⟨gb284,6,none⟩ = some (.int .i64 0) := (QC BK284.out 6).trans rfl; have hcz20_7 : w16.cell? ⟨gb284,7,none⟩ = some (.int .i64 0) := (QC BK284.out 7).trans rfl; have hfz20_0 := QB BK284.out 0; have hfz20_1 := QB BK284.out 1; have hfz20_2 := QB BK284.out 2; have hfz20_3 := QB BK284.out 3; have hfz20_4 := QB BK284.out 4; have hfz20_5 := QB BK284.out 5; have hfz20_6 := QB BK284.out 6; have hfz20_7 := QB BK284.out 7))
 refine bodyPost_ret (results_cell_row rfl _ _ gb284 30 #[.int .i64 a0_0,.int .i64 a0_1,.bool a0_2,.bool a0_3,.slice Ao13 t286.length co13,.slice Ao17 t289.length co17,.int .i64 a0_6,.int .i64 a0_7] (0,0) _ rfl (by (with_reducible repeat (first | refine QH ?_ _ | refine QL ?_ | refine QI ?_ _)); refine blk_put (cs := #[.int .i64 a0_0,.int .i64 a0_1,.bool a0_2,.bool a0_3,.slice Ao13 t286.length co13,.slice Ao17 t289.length co17,.int .i64 a0_6,.int .i64 0]) ?_ 7 _ rfl; (with_reducible repeat (first | refine QH ?_ _ | refine QL ?_ | refine QI ?_ _)); refine blk_put (cs := #[.int .i64 a0_0,.int .i64 a0_1,.bool a0_2,.bool a0_3,.slice Ao13 t286.length co13,.slice Ao17 t289.length co17,.int .i64 0,.int .i64 0]) ?_ 6 _ rfl; (with_reducible repeat (first | refine QH ?_ _ | refine QL ?_ | refine QI ?_ _)); refine blk_put (cs := #[.int .i64 a0_0,.int .i64 a0_1,.bool a0_2,.bool a0_3,.slice Ao13 t286.length co13,.slice none 0 0,.int .i64 0,.int .i64 0]) ?_ 5 _ rfl; (with_reducible repeat (first | refine QH ?_ _ | refine QL ?_ | refine QI ?_ _)); refine blk_put (cs := #[.int .i64 a0_0,.int .i64 a0_1,.bool a0_2,.bool a0_3,.slice none 0 0,.slice none 0 0,.int .i64 0,.int .i64 0]) ?_ 4 _ rfl; (with_reducible repeat (first | refine QH ?_ _ | refine QL ?_ | refine QI ?_ _)); refine blk_put (cs := #[.int .i64 a0_0,.int .i64 a0_1,.bool a0_2,.bool false,.slice none 0 0,.slice none 0 0,.int .i64 0,.int .i64 0]) ?_ 3 _ rfl; (with_reducible repeat (first | refine QH ?_ _ | refine QL ?_ | refine QI ?_ _)); refine blk_put (cs := #[.int .i64 a0_0,.int .i64 a0_1,.bool false,.bool false,.slice none 0 0,.slice none 0 0,.int .i64 0,.int .i64 0]) ?_ 2 _ rfl; (with_reducible repeat (first | refine QH ?_ _ | refine QL ?_ | refine QI ?_ _)); refine blk_put (cs := #[.int .i64 a0_0,.int .i64 0,.bool false,.bool false,.slice none 0 0,.slice none 0 0,.int .i64 0,.int .i64 0]) ?_ 1 _ rfl; (with_reducible repeat (first | refine QH ?_ _ | refine QL ?_ | refine QI ?_ _)); refine blk_put (cs := #[.int .i64 0,.int .i64 0,.bool false,.bool false,.slice none 0 0,.slice none 0 0,.int .i64 0,.int .i64 0]) ?_ 0 _ rfl; (with_reducible repeat (first | refine QH ?_ _ | refine QL ?_ | refine QI ?_ _)); refine blk_far ?_ NB284_285.out _; (with_reducible repeat (first | refine QH ?_ _ | refine QL ?_ | refine QI ?_ _)); refine blk_far ?_ NB284_285.out _; (with_reducible repeat (first | refine QH ?_ _ | refine QL ?_ | refine QI ?_ _)); refine blk_far ?_ NB284_285.out _; (with_reducible repeat (first | refine QH ?_ _ | refine QL ?_ | refine QI ?_ _)); exact BK284.out) Try.underlying30 rfl (by kernel_rfl)) rfl ?_
 exact ⟨_,_,by first | rfl | (simp [errW_none,errW_some] <;> rfl) | (simp [*,errW_none,errW_some] <;> rfl),by (with_reducible repeat (first | apply QJ | apply QK | apply QM)); exact Kd.R_mono (far_r (far_r (far_r (far_r (far_r (far_r (far_r (far_r (Kd.R_far (p := ⟨gb285,7,none⟩) (Kd.R_far (p := ⟨gb285,6,none⟩) (Kd.R_far (p := ⟨gb285,5,none⟩) (Kd.R_types (Kd.R_types HO288.out BK285.out (by decide)) BK284.out (by decide)) (fun _ hk => hk.1.2) (.slice Ao17 t289.length co17)) (fun _ hk => hk.1.2) (.int .i64 a0_6)) (fun _ hk => hk.1.2) (.int .i64 a0_7)))))))))) (fun _ hk => hk.1.1.2),by (with_reducible repeat (first | apply QJ | apply QK | apply QM)); exact Kd.R_mono (far_r (far_r (far_r (far_r (far_r (far_r (far_r (far_r (Kd.R_far (p := ⟨gb285,7,none⟩) (Kd.R_far (p := ⟨gb285,6,none⟩) (Kd.R_far (p := ⟨gb285,5,none⟩) (Kd.R_types (Kd.R_types HO291.out BK285.out (by decide)) BK284.out (by decide)) (fun _ hk => hk.1.2) (.slice Ao17 t289.length co17)) (fun _ hk => hk.1.2) (.int .i64 a0_6)) (fun _ hk => hk.1.2) (.int .i64 a0_7)))))))))) (fun _ hk => hk.1.1.2),by repeat (first | (with_reducible first | exact HB.out | apply QF | apply QD | apply QE | refine QG ?_ GE283.out | refine QG ?_ GE284.out | refine QG ?_ GE285.out) | exact HB.out)⟩

/-! ### laws_toIntSS: function 17 -/
def laws_toIntSS.l0 : Nat → List (List Int) → List (List Int) → Int → Option ((List (List Int)))
 | 0,_,_,_ => none
 | k + 1,x0,x3,x4 => if x4 < (x0.length : Int) then (if 0 ≤ x4 then ((laws_toIntS.f k (rd_L1 x0 x4)).bind fun t296 => (if x4 < (x3.length : Int) then (laws_toIntSS.l0 k x0 (x3.set (x4 : Int).toNat t296) (wrap64 (x4 + 1))) else (none))) else (none)) else (some x3)
def laws_toIntSS.f (k : Nat) (l0 : List (List Int)) : Option ((List (List Int))) := if 0 ≤ (l0.length : Int) then (if ((l0.length : Int) : Int).toNat ≤ 11728124029610 then (laws_toIntSS.l0 k l0 (List.replicate ((l0.length : Int) : Int).toNat []) 0) else (none)) else (none)
theorem laws_toIntSS.mono_l : ∀ k, (∀ y0 y1 y2, LeO (laws_toIntSS.l0 k y0 y1 y2) (laws_toIntSS.l0 (k + 1) y0 y1 y2))
 | 0 => fun _ _ _ r h => by simp [laws_toIntSS.l0] at h
 | k + 1 => by
  have ih0 := laws_toIntSS.mono_l k
  ·intro y0 y1 y2
   unfold laws_toIntSS.l0
   repeat' first
   | (with_reducible exact ih0 _ _ _)
   | (with_reducible exact laws_toIntS.mono _ _)
   | (with_reducible exact LeO.refl _)
   | (with_reducible exact LeO.none _)
   | (with_reducible refine LeO.ite ?_ ?_)
   | (with_reducible refine LeO.bind ?_ (fun _ => ?_))
   | exact ih0 _ _ _
   | exact laws_toIntS.mono _ _
   | exact LeO.none _
   | refine LeO.ite ?_ ?_
   | refine LeO.bind ?_ (fun _ => ?_)
theorem laws_toIntSS.mono : ∀ a0 k, LeO (laws_toIntSS.f k a0) (laws_toIntSS.f (k + 1) a0) := by
 intro a0 k
 have ih0 := laws_toIntSS.mono_l k
 unfold laws_toIntSS.f
 repeat' first
   | (with_reducible exact ih0 _ _ _)
   | (with_reducible exact laws_toIntS.mono _ _)
   | (with_reducible exact LeO.refl _)
   | (with_reducible exact LeO.none _)
   | (with_reducible refine LeO.ite ?_ ?_)
   | (with_reducible refine LeO.bind ?_ (fun _ => ?_))
   | exact ih0 _ _ _
   | exact laws_toIntS.mono _ _
   | exact LeO.none _
   | refine LeO.ite ?_ ?_
   | refine LeO.bind ?_ (fun _ => ?_)
set_option maxHeartbeats 8000000 in
set_option maxRecDepth 100000 in
theorem laws_toIntSS.calls (k : Nat) (A0 : Option Addr) (c0 : Nat) (l0 : List (List Int)) (r : List (List Int)) (w : World) (hr0 : Kd.C (Kd.slice 3 (Kd.int .i64)) w A0 l0.length l0) (hc0 : l0.length ≤ c0) (h : laws_toIntSS.f k l0 = some r) :
  Calls Try.prog 17 #[.slice A0 l0.length c0] w fun e w' => ∃ v0_ : Value,e = .returned (v0_) ∧ Kd.S (Kd.slice 3 (Kd.int .i64)) 22 w' w.heap.size (fun _ => True) v0_ r ∧ Below w.heap.size w w' := by
 have HR0 := QV hr0
 have HC0 := QV hc0
 clear hr0 hc0
 have HB := QV (Below.refl w.heap.size w)
 have H : (if 0 ≤ (l0.length : Int) then (if ((l0.length : Int) : Int).toNat ≤ 11728124029610 then (laws_toIntSS.l0 k l0 (List.replicate ((l0.length : Int) : Int).toNat []) 0) else (none)) else (none)) = some r := h
 clear h
 by_cases c2 : 0 ≤ (l0.length : Int)
 ·rw [if_pos c2] at H
  have c2b0 := eq_true c2
  have c2b1 : decide (0 ≤ (l0.length : Int)) = true := decide_eq_true c2
  clear c2
  by_cases c3 : ((l0.length : Int) : Int).toNat ≤ 11728124029610
  ·rw [if_pos c3] at H
   have c3b0 := eq_true c3
   have c3b1 : decide (((l0.length : Int) : Int).toNat ≤ 11728124029610) = true := decide_eq_true c3
   clear c3
   obtain ⟨y292,hy292⟩ : ∃ y_ : List (List Int),y_ = (List.replicate ((l0.length : Int) : Int).toNat []) := ⟨_,rfl⟩
   replace H : (laws_toIntSS.l0 k l0 y292 0) = some r := by first | (rw [hy292]; with_reducible exact H) | (have H2_ := (Option.bind_some _ _).symm.trans H; rw [hy292]; with_reducible exact H2_) | (have H2_ := (Option.bind_some _ _).symm.trans H; with_reducible exact H2_) | with_reducible exact H | (rw [hy292]; exact H) | exact H
   have Ny292 := QV hy292
   clear hy292
   have H' := QV H
   clear H
   go_enter Try.func17,Try.ntmps17
   go_wp2_with (first | ((with_reducible refine gate_dst (N := 7) rfl ?_); refine Kd.S_make (Kd.slice 3 (Kd.int .i64)) _ 22 rfl (N := 7) rfl 25 _ _ rfl (l0.length : Int) rfl rfl Try.underlying25 (.slice none 0 0) 24 info22 rfl (by decide) (by omega) [] (ok := fun _ => True) (okp := fun _ => True) ⟨_,rfl,Kd.R_nil _ _ _ _ _⟩ (fun _ hk => hk) trivial (of_decide_eq_true (by first | (with_reducible assumption) | assumption)) (Nat.le_trans (Nat.mul_le_mul_right _ (of_decide_eq_true (by first | (with_reducible assumption) | assumption) : (l0.length : Int).toNat ≤ 11728124029610)) (by omega)) (Below.refl _ _) (Nat.le_refl _) ?_; intro v293 w4 ho5 hb hg_ hnew_; clear hg_ hnew_; (first | rw [← Ny292.out] at ho5 | (simp only [Int.reduceToNat] at ho5; rw [← Ny292.out] at ho5)); have n0_ := QV (Kd.S_lower ho5 (QS (by repeat (first | (with_reducible first | exact HB.out | apply QF | apply QD | apply QE) | exact HB.out)))); have n1_ := QV (QT (by repeat (first | (with_reducible first | exact HB.out | apply QF | apply QD | apply QE) | exact HB.out)) hb); clear HB; revert n0_ n1_; intro HO294 HB; clear hb ho5))
   go_loopg [4] k (fun kq v4 w' => ∃ (x3_1 : List (List Int)) (x4_1 : Int),v4 = .int .i64 x4_1 ∧ Aside0 (laws_toIntSS.l0 kq l0 x3_1 x4_1 = some r) ∧ Aside0 (kq ≤ k) ∧ Aside0 (Kd.S (Kd.slice 3 (Kd.int .i64)) 22 w' w.heap.size (fun _ => True) v293 x3_1) ∧ Aside0 (Below w.heap.size w w'))
   case atStart => exact ⟨(y292),(0),(by first | rfl | (simp; done) | (simp [*]; done)),H',⟨Nat.le_refl _⟩,⟨by (with_reducible repeat (first | apply Kd.S_alloc | apply Kd.S_drewN | apply Kd.S_drew)); exact HO294.out⟩,⟨by repeat (first | (with_reducible first | exact HB.out | apply QF | apply QD | apply QE) | exact HB.out)⟩⟩
   case round =>
    clear H'
    try clear c1
    try clear c2
    try clear c2b0
    try clear c2b1
    try clear p2
    try clear c3
    try clear c3b0
    try clear c3b1
    obtain ⟨x3_1,x4_1,rfl,HA,HK1,HO_3,HB⟩ := hrel
    cases gk with
    | zero => exact absurd HA.out (by simp [laws_toIntSS.l0])
    | succ k1 =>
     have H := HA.out
     clear HA
     simp only [laws_toIntSS.l0] at H
     by_cases c6 : x4_1 < (l0.length : Int)
     ·rw [if_pos c6] at H
      have c6b0 : decide (x4_1 < (l0.length : Int)) = true := decide_eq_true c6
      clear c6
      by_cases c7 : 0 ≤ x4_1
      ·rw [if_pos c7] at H
       have c7b0 : decide (0 ≤ x4_1) = true := decide_eq_true c7
       clear c7
       replace H := Option.bind_eq_some_iff.mp H
       obtain ⟨t296,A80,H⟩ := H
       have A8 := QV A80
       clear A80
       by_cases c9 : x4_1 < (x3_1.length : Int)
       ·rw [if_pos c9] at H
        have c9b0 : decide (x4_1 < (x3_1.length : Int)) = true := decide_eq_true c9
        clear c9
        obtain ⟨y299,hy299⟩ : ∃ y_ : List (List Int),y_ = (x3_1.set (x4_1 : Int).toNat t296) := ⟨_,rfl⟩
        replace H : (laws_toIntSS.l0 k1 l0 y299 (wrap64 (x4_1 + 1))) = some r := by first | (rw [hy299]; with_reducible exact H) | (have H2_ := (Option.bind_some _ _).symm.trans H; rw [hy299]; with_reducible exact H2_) | (have H2_ := (Option.bind_some _ _).symm.trans H; with_reducible exact H2_) | with_reducible exact H | (rw [hy299]; exact H) | exact H
        have Ny299 := QV hy299
        clear hy299
        have H' := QV H
        clear H
        have p295 : 0 ≤ (x4_1 : Int) := of_decide_eq_true (by first | (with_reducible assumption) | assumption)
        have q295 : x4_1 < (l0.length : Int) := of_decide_eq_true (by first | (with_reducible assumption) | assumption)
        obtain ⟨ad295,A295_0,c295_0,e295,hx295_0,hl295_0,hi295_0⟩ := at_L1 HR0.out x4_1 p295 q295
        cases e295
        replace hx295_0 := (HB.out.cell (World.block_lt_of_cell? w _ hx295_0)).trans hx295_0
        have HR295_0 := QV hi295_0
        have HC295_0 := QV hl295_0
        clear hi295_0 hl295_0
        replace p295 := eq_true p295
        replace q295 := eq_true q295
        go_wp2_with (first | ((with_reducible refine gate_callee (f := 18) rfl ?_); refine goesL_ (some 20) rfl rfl Try.func18 (by kernel_rfl) rfl #[.slice A295_0 (rd_L1 l0 x4_1).length c295_0] rfl (by (try simp only [List.map_toArray,List.map_cons,List.map_nil]); first | done | rfl | (simp only [List.length_drop,List.length_take]; rfl)) ?_; (with_reducible refine (laws_toIntS.calls k1 _ _ (rd_L1 l0 x4_1) t296 _ ?side1 ?side2 A8.out).mono ?_); (case side1 => repeat (first | exact (QN HR295_0.out HB.out) | (with_reducible refine QO ?_ _) | (with_reducible refine QP ?_ _) | (with_reducible refine QR ?_))); (case side2 => exact HC295_0.out); rintro e w11 ⟨v297,rfl,ho0,hb⟩; refine ⟨_,rfl,?_⟩; have n0_ := QV (Kd.S_elder' (by (with_reducible repeat (first | apply Kd.S_alloc | apply Kd.S_drewN | apply Kd.S_drew)); exact HO_3.out) (Kd.R_base ho0) hb); have n1_ := QV (Kd.R_lower ho0 (QS (by repeat (first | (with_reducible first | exact HB.out | apply QF | apply QD | apply QE) | exact HB.out)))); have n2_ := QV (QT (by repeat (first | (with_reducible first | exact HB.out | apply QF | apply QD | apply QE) | exact HB.out)) hb); clear HO_3; clear HB; revert n0_ n1_ n2_; intro HO_3 HO298 HB; (try clear hb); (try clear hb2); (try clear hk); (try clear hi); (try clear ho0); obtain ⟨Aov297,cov297,eov297⟩ := Kd.R_slice HO298.out; subst eov297; have p10 : 0 ≤ (x4_1 : Int) := of_decide_eq_true (by first | (with_reducible assumption) | assumption); have q10 : (x4_1 : Int) < ((x3_1.length : Int) : Int) := of_decide_eq_true (by first | (with_reducible assumption) | assumption); obtain ⟨go10,co10,eo10,gb10,gl10,cl10,HG10⟩ := Kd.S_form HO_3.out (by omega); (first | cases eo10 | (injection eo10 with ea_ en_ ec_; (first | subst ea_ | (injection ea_ with ea_; subst ea_)); subst ec_; clear en_)); have GB10 := QV gb10; have GG10 := QV HG10; clear gb10 gl10 HG10; obtain ⟨_,ce10,hcl10,hM10,hcc10,hfr10,_,_⟩ := Kd.S_elem HO_3.out [] (x4_1 : Int) p10 q10; obtain ⟨ve10_0,rfl,ge10_0⟩ := hM10; have hx10_0 := hcc10 0 _ rfl; have hf10_0 := hfr10 0; (try simp only [show ((Kd.slice 3 (Kd.int .i64))).sz = 1 from rfl,Nat.mul_one,Nat.add_zero] at hx10_0); (try simp only [show ((Kd.slice 3 (Kd.int .i64))).sz = 1 from rfl,Nat.mul_one,Nat.add_zero] at hf10_0); clear hcl10 hcc10 hfr10; (try clear hM10); replace p10 := eq_true p10; replace q10 := eq_true q10; have n_ := QV (Kd.S_mono (ok' := (fun k_ => some k_ ≠ ((.slice Aov297 t296.length cov297) : Value).ownBlock)) HO_3.out (by first | exact fun k_ hk => hk.2 | exact fun k_ hk => hk)); clear HO_3; have HO_3 := n_; clear n_; have HX12 := QV (show Kd.S (Kd.slice 3 (Kd.int .i64)) 22 w11 w.heap.size (fun k_ => ((fun _ => True)) k_ ∧ ¬ ((fun k_ => some k_ = ((.slice Aov297 t296.length cov297) : Value).ownBlock)) k_) (.slice (some ⟨go10,0,none⟩) x3_1.length co10) x3_1 from (by (with_reducible repeat (first | apply Kd.S_alloc | apply Kd.S_drewN | apply Kd.S_drew)); exact Kd.S_mono HO_3.out (fun k_ hk => ⟨trivial,fun e_ => hk e_⟩))); obtain ⟨oki12,ce12,hcl12,hM12,hcc12,hfr12,hoki12,hH12⟩ := Kd.S_elem HX12.out [] (x4_1 : Int) (of_decide_eq_true (by first | (with_reducible assumption) | assumption)) (by have h_ : (x4_1 : Int) < ((x3_1.length : Int) : Int) := of_decide_eq_true (by first | (with_reducible assumption) | assumption); first | exact h_ | (have e_ := (Kd.S_reads' HO_3.out).1; omega) | simpa using h_); obtain ⟨ve12_0,rfl,ge12_0⟩ := hM12; have HP12 := Kd.S_seg hH12 (of_decide_eq_true (by first | (with_reducible assumption) | assumption)) (by have h_ : (x4_1 : Int) < ((x3_1.length : Int) : Int) := of_decide_eq_true (by first | (with_reducible assumption) | assumption); first | exact h_ | (have e_ := (Kd.S_reads' HO_3.out).1; omega) | simpa using h_) (seg := [(.slice Aov297 t296.length cov297)]) (j := 0) (show 1 ≤ 1 from by decide) (x' := t296) (Kd.M_row (Kd.R_mono (Kd.R_tight rfl (Kd.R_mono (ok' := fun k_ => ((fun _ => True)) k_ ∧ k_ ≠ go10) (Kd.R_apart' (HO298.out) (Kd.S_typed HO_3.out) (by decide)) (fun k_ hk => ⟨trivial,fun e_ => (hk.2) (by rw [e_]; rfl)⟩))) (fun _ h_ => Or.inr (h_)))) (fun _ hk => hk) (fun k_ hk_ => ((Kd.R_mono (ok' := fun k_ => ((fun _ => True)) k_ ∧ k_ ≠ go10) (Kd.R_apart' (HO298.out) (Kd.S_typed HO_3.out) (by decide)) (fun k_ hk => ⟨trivial,fun e_ => (hk.2) (by rw [e_]; rfl)⟩))).1 k_ hk_.symm); have hx12_0 := hcc12 0 _ rfl; (try simp only [show ((Kd.slice 3 (Kd.int .i64))).sz = 1 from rfl,Nat.mul_one,Nat.add_zero] at hx12_0); have hf12_0 := hfr12 0; (try simp only [show ((Kd.slice 3 (Kd.int .i64))).sz = 1 from rfl,Nat.mul_one,Nat.add_zero] at hf12_0); clear hcl12 hcc12 hfr12 hoki12 hH12; (try clear hM12); (try simp only [show ((Kd.slice 3 (Kd.int .i64))).sz = 1 from rfl,Nat.mul_one,Nat.add_zero] at HP12)) | ((with_reducible refine gate_store (t := 22) (p := 21) rfl ?_); refine store_event (t := 22) (p := 21) (v := ?vo_w13) (w1 := (w11.setCell ⟨go10,(x4_1 : Int).toNat,none⟩ ((.slice Aov297 t296.length cov297)))) ?hg ?ho ?hn ?hr ?_; (case ho => rfl); (case hg => rfl); (case hn => rfl); (case hr => first | (go_simp; done) | (go_simp; rfl)); intro w13 hw; have hg : w11.grownBy w13 (some go10) := (by rw [hw]; exact HP12.2); have hp_ : Kd.S (Kd.slice 3 (Kd.int .i64)) 22 w13 w.heap.size (fun _ => True) (.slice (some ⟨go10,0,none⟩) x3_1.length co10) y299 := (by rw [hw,Ny299.out]; exact HP12.1); clear HP12; have n0_ := QV (hp_); have n1_ := QV ((by rw [hw]; exact QG (HB.out) GB10.out : Below w.heap.size w w13)); clear HO_3; clear HB; clear HO298; revert n0_ n1_; intro HO_3 HB; clear hg hw hp_))
        go_roundg k1
        case measure => have := HK1.out; omega
        case rel => exact ⟨(y299),(wrap64 (x4_1 + 1)),(by first | rfl | (simp; done) | (simp [*]; done)),H',⟨by have := HK1.out; omega⟩,⟨by (with_reducible repeat (first | apply Kd.S_alloc | apply Kd.S_drewN | apply Kd.S_drew)); exact HO_3.out⟩,⟨by repeat (first | (with_reducible first | exact HB.out | apply QF | apply QD | apply QE) | exact HB.out)⟩⟩
       ·rw [if_neg c9] at H
        exact absurd H (by simp)
      ·rw [if_neg c7] at H
       exact absurd H (by simp)
     ·rw [if_neg c6] at H
      have c6b0 : decide (x4_1 < (l0.length : Int)) = false := decide_eq_false c6
      clear c6
      obtain rfl := Option.some.inj H
      go_wp2
      go_ret
      exact ⟨_,by first | rfl | (simp [errW_none,errW_some] <;> rfl) | (simp [*,errW_none,errW_some] <;> rfl),by (with_reducible repeat (first | apply Kd.S_alloc | apply Kd.S_drewN | apply Kd.S_drew)); exact HO_3.out,by repeat (first | (with_reducible first | exact HB.out | apply QF | apply QD | apply QE) | exact HB.out)⟩
  ·rw [if_neg c3] at H
   exact absurd H (by simp)
 ·rw [if_neg c2] at H
  exact absurd H (by simp)

end Go.Proofs.Ytdfmobcocaijpaa.QFnExactChoiceOf
