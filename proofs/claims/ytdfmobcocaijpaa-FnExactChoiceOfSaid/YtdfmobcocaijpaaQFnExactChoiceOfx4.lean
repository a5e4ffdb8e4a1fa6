/- What a call of each Go function that FnExactChoiceOf reaches comes to, as a Lean function: texts of the kit's print, turned by wip/remake.py. No condition beyond what each names. -/
import Derived.Test.YtdfmobcocaijpaaQFnExactChoiceOfx3
namespace Go.Proofs.Ytdfmobcocaijpaa.QFnExactChoiceOf
open Go.RowKit Go.Proofs.YtdfmobcocaijpaaW.PrintWords Go.Proofs.YtdfmobcocaijpaaW.PrintLast Go.Proofs.YtdfmobcocaijpaaW.PrintMore
open Go.Proofs.YtdfmobcocaijpaaW.PrintWords renaming blk_frozen → QB, blk_cell → QC, pw_below_drewN → QD, below_drew1 → QE, blk_drewN → QF, blk_alloc → QG, below_alloc → QH, blk_drew → QI, below_set → QJ, gate_callee → QP, below_size → QR
open Go.Proofs.YtdfmobcocaijpaaW.PrintMore renaming far_r → QK
open Go.Proofs.YtdfmobcocaijpaaW.PrintWords.Kd renaming R_alloc → QL, R_drewN → QM, R_types → QN, R_drew → QO
open Go.Proofs.YtdfmobcocaijpaaW.PrintWords.Aside0 renaming mk → QS
open Option renaming bind_eq_some_iff → QT
attribute [local go_sem] max2_int min2_int max_two min_two max_three min_three max_four min_four   -- for this text's walks alone
set_option linter.unusedVariables false
set_option linter.unusedSimpArgs false

/-! ### laws_toGame: function 6 -/
def laws_toGame.f (k : Nat) (a0_0 : Int) (a0_1 : Int) (a0_2 : Bool) (a0_3 : Bool) (l0_4 : List Int) (l0_5 : List Int) (a0_6 : Int) (a0_7 : Int) (l0_8 : List (List Int)) (l0_9 : List Int) (l0_10 : List Int) (a0_11 : Int) (a0_12 : Int) (a0_13 : Int) : Option (Int × Int × Bool × Bool × List Int × List Int × Int × Int × (List (List Int)) × List Int × List Int × Int × Int × Int) := (laws_toRules.f k a0_0 a0_1 a0_2 a0_3 l0_4 l0_5 a0_6 a0_7).bind fun bt303 => ((laws_toIntSS.f k l0_8).bind fun t315 => ((laws_toIntS.f k l0_9).bind fun t318 => ((laws_toIntS.f k l0_10).bind fun t321 => (some (bt303.1, bt303.2.1, bt303.2.2.1, bt303.2.2.2.1, bt303.2.2.2.2.1, bt303.2.2.2.2.2.1, bt303.2.2.2.2.2.2.1, bt303.2.2.2.2.2.2.2, t315, t318, t321, a0_11, a0_12, a0_13)))))
theorem laws_toGame.mono : ∀ a0 a1 a2 a3 a4 a5 a6 a7 a8 a9 a10 a11 a12 a13 k, LeO (laws_toGame.f k a0 a1 a2 a3 a4 a5 a6 a7 a8 a9 a10 a11 a12 a13) (laws_toGame.f (k + 1) a0 a1 a2 a3 a4 a5 a6 a7 a8 a9 a10 a11 a12 a13) := by
 intro a0 a1 a2 a3 a4 a5 a6 a7 a8 a9 a10 a11 a12 a13 k
 unfold laws_toGame.f
 repeat' first
   | (with_reducible exact laws_toIntS.mono _ _)
   | (with_reducible exact laws_toIntSS.mono _ _)
   | (with_reducible exact laws_toRules.mono _ _ _ _ _ _ _ _ _)
   | (with_reducible exact LeO.refl _)
   | (with_reducible exact LeO.none _)
   | (with_reducible refine LeO.ite ?_ ?_)
   | (with_reducible refine LeO.bind ?_ (fun _ => ?_))
   | exact laws_toIntS.mono _ _
   | exact laws_toIntSS.mono _ _
   | exact laws_toRules.mono _ _ _ _ _ _ _ _ _
   | exact LeO.none _
   | refine LeO.ite ?_ ?_
   | refine LeO.bind ?_ (fun _ => ?_)
set_option maxHeartbeats 8000000 in
set_option maxRecDepth 100000 in
theorem laws_toGame.calls (k : Nat) (a0_0 : Int) (a0_1 : Int) (a0_2 : Bool) (a0_3 : Bool) (A0_4 : Option Addr) (c0_4 : Nat) (l0_4 : List Int) (A0_5 : Option Addr) (c0_5 : Nat) (l0_5 : List Int) (a0_6 : Int) (a0_7 : Int) (A0_8 : Option Addr) (c0_8 : Nat) (l0_8 : List (List Int)) (A0_9 : Option Addr) (c0_9 : Nat) (l0_9 : List Int) (A0_10 : Option Addr) (c0_10 : Nat) (l0_10 : List Int) (a0_11 : Int) (a0_12 : Int) (a0_13 : Int) (r1 : Int) (r2 : Int) (r3 : Bool) (r4 : Bool) (r5 : List Int) (r6 : List Int) (r7 : Int) (r8 : Int) (r9 : List (List Int)) (r10 : List Int) (r11 : List Int) (r12 : Int) (r13 : Int) (r14 : Int) (w : World) (hr0_4 : Kd.C (Kd.int .i64) w A0_4 l0_4.length l0_4) (hc0_4 : l0_4.length ≤ c0_4) (hr0_5 : Kd.C (Kd.int .i64) w A0_5 l0_5.length l0_5) (hc0_5 : l0_5.length ≤ c0_5) (hr0_8 : Kd.C (Kd.slice 3 (Kd.int .i64)) w A0_8 l0_8.length l0_8) (hc0_8 : l0_8.length ≤ c0_8) (hr0_9 : Kd.C (Kd.int .i64) w A0_9 l0_9.length l0_9) (hc0_9 : l0_9.length ≤ c0_9) (hr0_10 : Kd.C (Kd.int .i64) w A0_10 l0_10.length l0_10) (hc0_10 : l0_10.length ≤ c0_10) (h : laws_toGame.f k a0_0 a0_1 a0_2 a0_3 l0_4 l0_5 a0_6 a0_7 l0_8 l0_9 l0_10 a0_11 a0_12 a0_13 = some (r1, r2, r3, r4, r5, r6, r7, r8, r9, r10, r11, r12, r13, r14)) :
  Calls Try.prog 6 #[.agg #[.int .i64 a0_0,.int .i64 a0_1,.bool a0_2,.bool a0_3,.slice A0_4 l0_4.length c0_4,.slice A0_5 l0_5.length c0_5,.int .i64 a0_6,.int .i64 a0_7,.slice A0_8 l0_8.length c0_8,.slice A0_9 l0_9.length c0_9,.slice A0_10 l0_10.length c0_10,.int .i64 a0_11,.int .i64 a0_12,.int .i64 a0_13]] w fun e w' => ∃ v4_ v5_ v8_ v9_ v10_ : Value,e = .returned (.agg #[.int .i64 r1,.int .i64 r2,.bool r3,.bool r4,v4_,v5_,.int .i64 r7,.int .i64 r8,v8_,v9_,v10_,.int .i64 r12,.int .i64 r13,.int .i64 r14]) ∧ Kd.R (Kd.int .i64) 3 w' w.heap.size (fun k_ => some k_ ≠ (v5_ : Value).ownBlock ∧ some k_ ≠ (v9_ : Value).ownBlock ∧ some k_ ≠ (v10_ : Value).ownBlock) v4_ r5 ∧ Kd.R (Kd.int .i64) 3 w' w.heap.size (fun k_ => some k_ ≠ (v4_ : Value).ownBlock ∧ some k_ ≠ (v9_ : Value).ownBlock ∧ some k_ ≠ (v10_ : Value).ownBlock) v5_ r6 ∧ Kd.S (Kd.slice 3 (Kd.int .i64)) 22 w' w.heap.size (fun k_ => some k_ ≠ (v4_ : Value).ownBlock ∧ some k_ ≠ (v5_ : Value).ownBlock ∧ some k_ ≠ (v9_ : Value).ownBlock ∧ some k_ ≠ (v10_ : Value).ownBlock) v8_ r9 ∧ Kd.R (Kd.int .i64) 3 w' w.heap.size (fun k_ => some k_ ≠ (v4_ : Value).ownBlock ∧ some k_ ≠ (v5_ : Value).ownBlock ∧ some k_ ≠ (v10_ : Value).ownBlock) v9_ r10 ∧ Kd.R (Kd.int .i64) 3 w' w.heap.size (fun k_ => some k_ ≠ (v4_ : Value).ownBlock ∧ some k_ ≠ (v5_ : Value).ownBlock ∧ some k_ ≠ (v9_ : Value).ownBlock) v10_ r11 ∧ Below w.heap.size w w' := by
 have hu27 := Try.underlying27
 have hu32 := Try.underlying32
 have hu24 := Try.underlying24
 have hu30 := Try.underlying30
 have HR0_4 := QS hr0_4
 have HC0_4 := QS hc0_4
 clear hr0_4 hc0_4
 have HR0_5 := QS hr0_5
 have HC0_5 := QS hc0_5
 clear hr0_5 hc0_5
 have HR0_8 := QS hr0_8
 have HC0_8 := QS hc0_8
 clear hr0_8 hc0_8
 have HR0_9 := QS hr0_9
 have HC0_9 := QS hc0_9
 clear hr0_9 hc0_9
 have HR0_10 := QS hr0_10
 have HC0_10 := QS hc0_10
 clear hr0_10 hc0_10
 have HB := QS (Below.refl w.heap.size w)
 have H : ((laws_toRules.f k a0_0 a0_1 a0_2 a0_3 l0_4 l0_5 a0_6 a0_7).bind fun bt303 => ((laws_toIntSS.f k l0_8).bind fun t315 => ((laws_toIntS.f k l0_9).bind fun t318 => ((laws_toIntS.f k l0_10).bind fun t321 => (some (bt303.1,bt303.2.1,bt303.2.2.1,bt303.2.2.2.1,bt303.2.2.2.2.1,bt303.2.2.2.2.2.1,bt303.2.2.2.2.2.2.1,bt303.2.2.2.2.2.2.2,t315,t318,t321,a0_11,a0_12,a0_13)))))) = some (r1,r2,r3,r4,r5,r6,r7,r8,r9,r10,r11,r12,r13,r14) := h
 clear h
 replace H := QT.mp H
 obtain ⟨⟨t303,t304,t305,t306,t307,t310,t313,t314⟩,A20,H⟩ := H
 replace H : ((laws_toIntSS.f k l0_8).bind fun t315 => ((laws_toIntS.f k l0_9).bind fun t318 => ((laws_toIntS.f k l0_10).bind fun t321 => (some (t303,t304,t305,t306,t307,t310,t313,t314,t315,t318,t321,a0_11,a0_12,a0_13))))) = some (r1,r2,r3,r4,r5,r6,r7,r8,r9,r10,r11,r12,r13,r14) := H
 have A2 := QS A20
 clear A20
 replace H := QT.mp H
 obtain ⟨t315,A30,H⟩ := H
 replace H : ((laws_toIntS.f k l0_9).bind fun t318 => ((laws_toIntS.f k l0_10).bind fun t321 => (some (t303,t304,t305,t306,t307,t310,t313,t314,t315,t318,t321,a0_11,a0_12,a0_13)))) = some (r1,r2,r3,r4,r5,r6,r7,r8,r9,r10,r11,r12,r13,r14) := H
 have A3 := QS A30
 clear A30
 replace H := QT.mp H
 obtain ⟨t318,A40,H⟩ := H
 replace H : ((laws_toIntS.f k l0_10).bind fun t321 => (some (t303,t304,t305,t306,t307,t310,t313,t314,t315,t318,t321,a0_11,a0_12,a0_13))) = some (r1,r2,r3,r4,r5,r6,r7,r8,r9,r10,r11,r12,r13,r14) := H
 have A4 := QS A40
 clear A40
 replace H := QT.mp H
 obtain ⟨t321,A50,H⟩ := H
 replace H : (some (t303,t304,t305,t306,t307,t310,t313,t314,t315,t318,t321,a0_11,a0_12,a0_13)) = some (r1,r2,r3,r4,r5,r6,r7,r8,r9,r10,r11,r12,r13,r14) := H
 have A5 := QS A50
 clear A50
 simp only [Option.some.injEq,Prod.mk.injEq] at H
 obtain ⟨rfl,rfl,rfl,rfl,rfl,rfl,rfl,rfl,rfl,rfl,rfl,rfl,rfl,rfl⟩ := H
 go_enter Try.func6,Try.ntmps6
 go_wp2_with (first | ((with_reducible refine gate_dst (N := 1) rfl ?_); refine box_event ?hg (N := 1) ?hd (cs := #[.int .i64 a0_0,.int .i64 a0_1,.bool a0_2,.bool a0_3,.slice A0_4 l0_4.length c0_4,.slice A0_5 l0_5.length c0_5,.int .i64 a0_6,.int .i64 a0_7,.slice A0_8 l0_8.length c0_8,.slice A0_9 l0_9.length c0_9,.slice A0_10 l0_10.length c0_10,.int .i64 a0_11,.int .i64 a0_12,.int .i64 a0_13]) (t := 27) ?hr ?_; (case hd => rfl); (case hg => rfl); (case hr => first | (go_simp; done) | (go_simp; rfl)); intro gb300 hg w6 hbox hb; have n0_ := QS (below_step (by repeat (first | (with_reducible first | exact HB.out | apply QH | apply QD | apply QE) | exact HB.out)) hb); have n1_ := QS (hbox); have n2_ := QS ((by rw [hg]; exact (QR (by repeat (first | (with_reducible first | exact HB.out | apply QH | apply QD | apply QE) | exact HB.out))) : w.heap.size ≤ gb300)); have n3_ := QS ((by rw [hg]; exact (QR (by repeat (first | (with_reducible first | exact HB.out | apply QH | apply QD | apply QE) | exact HB.out))) : w.heap.size ≤ gb300)); clear HB; revert n0_ n1_ n2_ n3_; intro HB BK300 GW300 GE300; clear hb hbox hg) | ((with_reducible refine gate_dst (N := 2) rfl ?_); refine box_event ?hg (N := 2) ?hd (cs := #[.int .i64 0,.int .i64 0,.bool false,.bool false,.slice none 0 0,.slice none 0 0,.int .i64 0,.int .i64 0,.slice none 0 0,.slice none 0 0,.slice none 0 0,.int .i64 0,.int .i64 0,.int .i64 0]) (t := 32) ?hr ?_; (case hd => rfl); (case hg => rfl); (case hr => first | (go_simp; done) | (go_simp; rfl)); intro gb301 hg w7 hbox hb; have n0_ := QS (blk_below (g := gb300) (o := .cells #[.int .i64 a0_0,.int .i64 a0_1,.bool a0_2,.bool a0_3,.slice A0_4 l0_4.length c0_4,.slice A0_5 l0_5.length c0_5,.int .i64 a0_6,.int .i64 a0_7,.slice A0_8 l0_8.length c0_8,.slice A0_9 l0_9.length c0_9,.slice A0_10 l0_10.length c0_10,.int .i64 a0_11,.int .i64 a0_12,.int .i64 a0_13] 27 (0,0)) (by (with_reducible repeat (first | refine QF ?_ _ | refine QI ?_ | refine QG ?_ _)); exact BK300.out) hb); have n1_ := QS (below_step (by repeat (first | (with_reducible first | exact HB.out | apply QH | apply QD | apply QE | refine QJ ?_ GE300.out) | exact HB.out)) hb); have n2_ := QS (hbox); have n3_ := QS ((by rw [hg]; exact (QR (by repeat (first | (with_reducible first | exact HB.out | apply QH | apply QD | apply QE | refine QJ ?_ GE300.out) | exact HB.out))) : w.heap.size ≤ gb301)); have n4_ := QS ((by rw [hg]; exact (QR (by repeat (first | (with_reducible first | exact HB.out | apply QH | apply QD | apply QE | refine QJ ?_ GE300.out) | exact HB.out))) : w.heap.size ≤ gb301)); have n5_ := QS ((by rw [hg]; exact Nat.ne_of_lt (blk_lt (g := gb300) (o := .cells #[.int .i64 a0_0,.int .i64 a0_1,.bool a0_2,.bool a0_3,.slice A0_4 l0_4.length c0_4,.slice A0_5 l0_5.length c0_5,.int .i64 a0_6,.int .i64 a0_7,.slice A0_8 l0_8.length c0_8,.slice A0_9 l0_9.length c0_9,.slice A0_10 l0_10.length c0_10,.int .i64 a0_11,.int .i64 a0_12,.int .i64 a0_13] 27 (0,0)) (by (with_reducible repeat (first | refine QF ?_ _ | refine QI ?_ | refine QG ?_ _)); exact BK300.out)) : gb300 ≠ gb301)); have n6_ := QS ((by rw [hg]; exact Nat.ne_of_gt (blk_lt (g := gb300) (o := .cells #[.int .i64 a0_0,.int .i64 a0_1,.bool a0_2,.bool a0_3,.slice A0_4 l0_4.length c0_4,.slice A0_5 l0_5.length c0_5,.int .i64 a0_6,.int .i64 a0_7,.slice A0_8 l0_8.length c0_8,.slice A0_9 l0_9.length c0_9,.slice A0_10 l0_10.length c0_10,.int .i64 a0_11,.int .i64 a0_12,.int .i64 a0_13] 27 (0,0)) (by (with_reducible repeat (first | refine QF ?_ _ | refine QI ?_ | refine QG ?_ _)); exact BK300.out)) : gb301 ≠ gb300)); clear BK300; clear HB; revert n0_ n1_ n2_ n3_ n4_ n5_ n6_; intro BK300 HB BK301 GW301 GE301 NB300_301 NB301_300; clear hb hbox hg) | ((with_reducible refine gate_dst (N := 3) rfl ?_); refine box_event ?hg (N := 3) ?hd (cs := #[.int .i64 0,.int .i64 0,.bool false,.bool false,.slice none 0 0,.slice none 0 0,.int .i64 0,.int .i64 0,.slice none 0 0,.slice none 0 0,.slice none 0 0,.int .i64 0,.int .i64 0,.int .i64 0]) (t := 32) ?hr ?_; (case hd => rfl); (case hg => rfl); (case hr => first | (go_simp; done) | (go_simp; rfl)); intro gb302 hg w8 hbox hb; have n0_ := QS (blk_below (g := gb300) (o := .cells #[.int .i64 a0_0,.int .i64 a0_1,.bool a0_2,.bool a0_3,.slice A0_4 l0_4.length c0_4,.slice A0_5 l0_5.length c0_5,.int .i64 a0_6,.int .i64 a0_7,.slice A0_8 l0_8.length c0_8,.slice A0_9 l0_9.length c0_9,.slice A0_10 l0_10.length c0_10,.int .i64 a0_11,.int .i64 a0_12,.int .i64 a0_13] 27 (0,0)) (by (with_reducible repeat (first | refine QF ?_ _ | refine QI ?_ | refine QG ?_ _)); exact BK300.out) hb); have n1_ := QS (blk_below (g := gb301) (o := .cells #[.int .i64 0,.int .i64 0,.bool false,.bool false,.slice none 0 0,.slice none 0 0,.int .i64 0,.int .i64 0,.slice none 0 0,.slice none 0 0,.slice none 0 0,.int .i64 0,.int .i64 0,.int .i64 0] 32 (0,0)) (by (with_reducible repeat (first | refine QF ?_ _ | refine QI ?_ | refine QG ?_ _)); exact BK301.out) hb); have n2_ := QS (below_step (by repeat (first | (with_reducible first | exact HB.out | apply QH | apply QD | apply QE | refine QJ ?_ GE300.out | refine QJ ?_ GE301.out) | exact HB.out)) hb); have n3_ := QS (hbox); have n4_ := QS ((by rw [hg]; exact (QR (by repeat (first | (with_reducible first | exact HB.out | apply QH | apply QD | apply QE | refine QJ ?_ GE300.out | refine QJ ?_ GE301.out) | exact HB.out))) : w.heap.size ≤ gb302)); have n5_ := QS ((by rw [hg]; exact (QR (by repeat (first | (with_reducible first | exact HB.out | apply QH | apply QD | apply QE | refine QJ ?_ GE300.out | refine QJ ?_ GE301.out) | exact HB.out))) : w.heap.size ≤ gb302)); have n6_ := QS ((by rw [hg]; exact Nat.ne_of_lt (blk_lt (g := gb300) (o := .cells #[.int .i64 a0_0,.int .i64 a0_1,.bool a0_2,.bool a0_3,.slice A0_4 l0_4.length c0_4,.slice A0_5 l0_5.length c0_5,.int .i64 a0_6,.int .i64 a0_7,.slice A0_8 l0_8.length c0_8,.slice A0_9 l0_9.length c0_9,.slice A0_10 l0_10.length c0_10,.int .i64 a0_11,.int .i64 a0_12,.int .i64 a0_13] 27 (0,0)) (by (with_reducible repeat (first | refine QF ?_ _ | refine QI ?_ | refine QG ?_ _)); exact BK300.out)) : gb300 ≠ gb302)); have n7_ := QS ((by rw [hg]; exact Nat.ne_of_gt (blk_lt (g := gb300) (o := .cells #[.int .i64 a0_0,.int .i64 a0_1,.bool a0_2,.bool a0_3,.slice A0_4 l0_4.length c0_4,.slice A0_5 l0_5.length c0_5,.int .i64 a0_6,.int .i64 a0_7,.slice A0_8 l0_8.length c0_8,.slice A0_9 l0_9.length c0_9,.slice A0_10 l0_10.length c0_10,.int .i64 a0_11,.int .i64 a0_12,.int .i64 a0_13] 27 (0,0)) (by (with_reducible repeat (first | refine QF ?_ _ | refine QI ?_ | refine QG ?_ _)); exact BK300.out)) : gb302 ≠ gb300)); have n8_ := QS ((by rw [hg]; exact Nat.ne_of_lt (blk_lt (g := gb301) (o := .cells #[.int .i64 0,.int .i64 0,.bool false,.bool false,.slice none 0 0,.slice none 0 0,.int .i64 0,.int .i64 0,.slice none 0 0,.slice none 0 0,.slice none 0 0,.int .i64 0,.int .i64 0,.int .i64 0] 32 (0,0)) (by (with_reducible repeat (first | refine QF ?_ _ | refine QI ?_ | refine QG ?_ _)); exact BK301.out)) : gb301 ≠ gb302)); have n9_ := QS ((by rw [hg]; exact Nat.ne_of_gt (blk_lt (g := gb301) (o := .cells #[.int .i64 0,.int .i64 0,.bool false,.bool false,.slice none 0 0,.slice none 0 0,.int .i64 0,.int .i64 0,.slice none 0 0,.slice none 0 0,.slice none 0 0,.int .i64 0,.int .i64 0,.int .i64 0] 32 (0,0)) (by (with_reducible repeat (first | refine QF ?_ _ | refine QI ?_ | refine QG ?_ _)); exact BK301.out)) : gb302 ≠ gb301)); clear BK300; clear BK301; clear HB; revert n0_ n1_ n2_ n3_ n4_ n5_ n6_ n7_ n8_ n9_; intro BK300 BK301 HB BK302 GW302 GE302 NB300_302 NB302_300 NB301_302 NB302_301; clear hb hbox hg; have hnb9 := NB300_301.out; have hnc9 := NB301_300.out; have hnb10 := NB300_302.out; have hnc10 := NB302_300.out; have hcz11_0 : w8.cell? ⟨gb300,0,none⟩ = some (.int .i64 a0_0) := (QC BK300.out 0).trans rfl; have hcz11_1 : w8.cell? ⟨gb300,1,none⟩ = some (.int .i64 a0_1) := (QC BK300.out 1).trans rfl; have hcz11_2 : w8.cell? ⟨gb300,2,none⟩ = some (.bool a0_2) := (QC BK300.out 2).trans rfl; have hcz11_3 : w8.cell? ⟨gb300,3,none⟩ = some (.bool a0_3) := (QC BK300.out 3).trans rfl; have hcz11_4 : w8.cell? ⟨gb300,4,none⟩ = some (.slice A0_4 l0_4.length c0_4) := (QC BK300.out 4).trans rfl; have hcz11_5 : w8.cell? ⟨gb300,5,none⟩ = some (.slice A0_5 l0_5.length c0_5) := (QC BK300.out 5).trans rfl; have hcz11_6 : w8.cell? ⟨gb300,6,none⟩ = some (.int .i64 a0_6) := (QC BK300.out 6).trans rfl; have hcz11_7 : w8.cell? ⟨gb300,7,none⟩ = some (.int .i64 a0_7) := (QC BK300.out 7).trans rfl; have hcz11_8 : w8.cell? ⟨gb300,8,none⟩ = some (.slice A0_8 l0_8.length c0_8) := (QC BK300.out 8).trans rfl; have hcz11_9 : w8.cell? ⟨gb300,9,none⟩ = some (.slice A0_9 l0_9.length c0_9) := (QC BK300.out 9).trans rfl; have hcz11_10 : w8.cell? ⟨gb300,10,none⟩ = some (.slice A0_10 l0_10.length c0_10) := (QC BK300.out 10).trans rfl; have hcz11_11 : w8.cell? ⟨gb300,11,none⟩ = some (.int .i64 a0_11) := (QC BK300.out 11).trans rfl; have hcz11_12 : w8.cell? ⟨gb300,12,none⟩ = some (.int .i64 a0_12) := (QC BK300.out 12).trans rfl; have hcz11_13 : w8.cell? ⟨gb300,13,none⟩ = some (.int .i64 a0_13) := (QC BK300.out 13).trans rfl; have hfz11_0 := QB BK300.out 0; have hfz11_1 := QB BK300.out 1; have hfz11_2 := QB BK300.out 2; have hfz11_3 := QB BK300.out 3; have hfz11_4 := QB BK300.out 4; have hfz11_5 := QB BK300.out 5; have hfz11_6 := QB BK300.out 6; have hfz11_7 := QB BK300.out 7; have hfz11_8 := QB BK300.out 8; have hfz11_9 := QB BK300.out 9; have hfz11_10 := QB BK300.out 10; have hfz11_11 := QB BK300.out 11; have hfz11_12 := QB BK300.out 12; have hfz11_13 := QB BK300.out 13) | ((with_reducible refine QP (f := 16) rfl ?_); refine goesL_ (some 6) rfl rfl Try.func16 (by kernel_rfl) rfl #[.agg #[.int .i64 a0_0,.int .i64 a0_1,.bool a0_2,.bool a0_3,.slice A0_4 l0_4.length c0_4,.slice A0_5 l0_5.length c0_5,.int .i64 a0_6,.int .i64 a0_7]] rfl (by (try simp only [List.map_toArray,List.map_cons,List.map_nil]); first | done | rfl | (simp only [List.length_drop,List.length_take]; rfl)) ?_; (with_reducible refine (laws_toRules.calls k a0_0 a0_1 a0_2 a0_3 _ _ l0_4 _ _ l0_5 a0_6 a0_7 t303 t304 t305 t306 t307 t310 t313 t314 _ ?side1 ?side2 ?side3 ?side4 A2.out).mono ?_); (case side1 => repeat (first | exact (Kd.C_below HR0_4.out HB.out) | (with_reducible refine Kd.C_alloc ?_ _) | (with_reducible refine Kd.C_drewN ?_ _) | (with_reducible refine Kd.C_drew ?_))); (case side2 => exact HC0_4.out); (case side3 => repeat (first | exact (Kd.C_below HR0_5.out HB.out) | (with_reducible refine Kd.C_alloc ?_ _) | (with_reducible refine Kd.C_drewN ?_ _) | (with_reducible refine Kd.C_drew ?_))); (case side4 => exact HC0_5.out); rintro e w12 ⟨v308,v311,rfl,ho0,ho1,hb⟩; refine ⟨_,rfl,?_⟩; have n0_ := QS (Kd.R_lower ho0 (QR (by repeat (first | (with_reducible first | exact HB.out | apply QH | apply QD | apply QE | refine QJ ?_ GE300.out | refine QJ ?_ GE301.out | refine QJ ?_ GE302.out) | exact HB.out)))); have n1_ := QS (Kd.R_lower ho1 (QR (by repeat (first | (with_reducible first | exact HB.out | apply QH | apply QD | apply QE | refine QJ ?_ GE300.out | refine QJ ?_ GE301.out | refine QJ ?_ GE302.out) | exact HB.out)))); have n2_ := QS (blk_below (g := gb300) (o := .cells #[.int .i64 a0_0,.int .i64 a0_1,.bool a0_2,.bool a0_3,.slice A0_4 l0_4.length c0_4,.slice A0_5 l0_5.length c0_5,.int .i64 a0_6,.int .i64 a0_7,.slice A0_8 l0_8.length c0_8,.slice A0_9 l0_9.length c0_9,.slice A0_10 l0_10.length c0_10,.int .i64 a0_11,.int .i64 a0_12,.int .i64 a0_13] 27 (0,0)) (by (with_reducible repeat (first | refine QF ?_ _ | refine QI ?_ | refine QG ?_ _)); exact BK300.out) hb); have n3_ := QS (blk_below (g := gb301) (o := .cells #[.int .i64 0,.int .i64 0,.bool false,.bool false,.slice none 0 0,.slice none 0 0,.int .i64 0,.int .i64 0,.slice none 0 0,.slice none 0 0,.slice none 0 0,.int .i64 0,.int .i64 0,.int .i64 0] 32 (0,0)) (by (with_reducible repeat (first | refine QF ?_ _ | refine QI ?_ | refine QG ?_ _)); exact BK301.out) hb); have n4_ := QS (blk_below (g := gb302) (o := .cells #[.int .i64 0,.int .i64 0,.bool false,.bool false,.slice none 0 0,.slice none 0 0,.int .i64 0,.int .i64 0,.slice none 0 0,.slice none 0 0,.slice none 0 0,.int .i64 0,.int .i64 0,.int .i64 0] 32 (0,0)) (by (with_reducible repeat (first | refine QF ?_ _ | refine QI ?_ | refine QG ?_ _)); exact BK302.out) hb); have n5_ := QS (below_step (by repeat (first | (with_reducible first | exact HB.out | apply QH | apply QD | apply QE | refine QJ ?_ GE300.out | refine QJ ?_ GE301.out | refine QJ ?_ GE302.out) | exact HB.out)) hb); clear BK300; clear BK301; clear BK302; clear HB; revert n0_ n1_ n2_ n3_ n4_ n5_; intro HO309 HO312 BK300 BK301 BK302 HB; (try clear hb); (try clear hb2); (try clear hk); (try clear hi); (try clear ho0); (try clear ho1); have hnb13 := NB302_301.out; have hnc13 := NB301_302.out; have hcz14_0 : w12.cell? ⟨gb302,0,none⟩ = some (.int .i64 0) := (QC BK302.out 0).trans rfl; have hcz14_1 : w12.cell? ⟨gb302,1,none⟩ = some (.int .i64 0) := (QC BK302.out 1).trans rfl; have hcz14_2 : w12.cell? ⟨gb302,2,none⟩ = some (.bool false) := (QC BK302.out 2).trans rfl; have hcz14_3 : w12.cell? ⟨gb302,3,none⟩ = some (.bool false) := (QC BK302.out 3).trans rfl; have hcz14_4 : w12.cell? ⟨gb302,4,none⟩ = some (.slice none 0 0) := (QC BK302.out 4).trans rfl; have hcz14_5 : w12.cell? ⟨gb302,5,none⟩ = some (.slice none 0 0) := (QC BK302.out 5).trans rfl; have hcz14_6 : w12.cell? ⟨gb302,6,none⟩ = some (.int .i64 0) := (QC BK302.out 6).trans rfl; have hcz14_7 : w12.cell? ⟨gb302,7,none⟩ = some (.int .i64 0) := (QC BK302.out 7).trans rfl; have hcz14_8 : w12.cell? ⟨gb302,8,none⟩ = some (.slice none 0 0) := (QC BK302.out 8).trans rfl; have hcz14_9 : w12.cell? ⟨gb302,9,none⟩ = some (.slice none 0 0) := (QC BK302.out 9).trans rfl; have hcz14_10 : w12.cell? ⟨gb302,10,none⟩ = some (.slice none 0 0) := (QC BK302.out 10).trans rfl; have hcz14_11 : w12.cell? ⟨gb302,11,none⟩ = some (.int .i64 0) := (QC BK302.out 11).trans rfl; have hcz14_12 : w12.cell? ⟨gb302,12,none⟩ = some (.int .i64 0) := (QC BK302.out 12).trans rfl; have hcz14_13 : w12.cell? ⟨gb302,13,none⟩ = some (.int .i64 0) := (QC BK302.out 13).trans rfl; have hfz14_0 := QB BK302.out 0; have hfz14_1 := QB BK302.out 1; have hfz14_2 := QB BK302.out 2; have hfz14_3 := QB BK302.out 3; have hfz14_4 := QB BK302.out 4; have hfz14_5 := QB BK302.out 5; have hfz14_6 := QB BK302.out 6; have hfz14_7 := QB BK302.out 7; have hfz14_8 := QB BK302.out 8; have hfz14_9 := QB BK302.out 9; have hfz14_10 := QB BK302.out 10; have hfz14_11 := QB BK302.out 11; have hfz14_12 := QB BK302.out 12; have hfz14_13 := QB BK302.out 13; obtain ⟨Ao15,co15,eo15⟩ := Kd.R_slice HO309.out; subst eo15; obtain ⟨Ao16,co16,eo16⟩ := Kd.R_slice HO312.out; subst eo16; have hcz17_0 : w12.cell? ⟨gb300,0,none⟩ = some (.int .i64 a0_0) := (QC BK300.out 0).trans rfl; have hcz17_1 : w12.cell? ⟨gb300,1,none⟩ = some (.int .i64 a0_1) := (QC BK300.out 1).trans rfl; have hcz17_2 : w12.cell? ⟨gb300,2,none⟩ = some (.bool a0_2) := (QC BK300.out 2).trans rfl; have hcz17_3 : w12.cell? ⟨gb300,3,none⟩ = some (.bool a0_3) := (QC BK300.out 3).trans rfl; have hcz17_4 : w12.cell? ⟨gb300,4,none⟩ = some (.slice A0_4 l0_4.length c0_4) := (QC BK300.out 4).trans rfl; have hcz17_5 : w12.cell? ⟨gb300,5,none⟩ = some (.slice A0_5 l0_5.length c0_5) := (QC BK300.out 5).trans rfl; have hcz17_6 : w12.cell? ⟨gb300,6,none⟩ = some (.int .i64 a0_6) := (QC BK300.out 6).trans rfl; have hcz17_7 : w12.cell? ⟨gb300,7,none⟩ = some (.int .i64 a0_7) := (QC BK300.out 7).trans rfl; have hcz17_8 : w12.cell? ⟨gb300,8,none⟩ = some (.slice A0_8 l0_8.length c0_8) := (QC BK300.out 8).trans rfl; have hcz17_9 : w12.cell? ⟨gb300,9,none⟩ = some (.slice A0_9 l0_9.length c0_9) := (QC BK300.out 9).trans rfl; have hcz17_10 : w12.cell? ⟨gb300,10,none⟩ = some (.slice A0_10 l0_10.length c0_10) := (QC BK300.out 10).trans rfl; have hcz17_11 : w12.cell? ⟨gb300,11,none⟩ = some (.int .i64 a0_11) := (QC BK300.out 11).trans rfl; have hcz17_12 : w12.cell? ⟨gb300,12,none⟩ = some (.int .i64 a0_12) := (QC BK300.out 12).trans rfl; have hcz17_13 : w12.cell? ⟨gb300,13,none⟩ = some (.int .i64 a0_13) := (QC BK300.out 13).trans rfl; have hfz17_0 := QB BK300.out 0; have hfz17_1 := QB BK300.out 1; have hfz17_2 := QB BK300.out 2; have hfz17_3 := QB BK300.out 3; have hfz17_4 := QB BK300.out 4; have hfz17_5 := QB BK300.out 5; have hfz17_6 := QB BK300.out 6; have hfz17_7 := QB BK300.out 7; have hfz17_8 := QB BK300.out 8; have hfz17_9 := QB BK300.out 9; have hfz17_10 := QB BK300.out 10; have hfz17_11 := QB BK300.out 11; have hfz17_12 := QB BK300.out 12; have hfz17_13 := QB BK300.out 13) | ((with_reducible refine QP (f := 17) rfl ?_); refine goesL_ (some 10) rfl rfl Try.func17 (by kernel_rfl) rfl #[.slice A0_8 l0_8.length c0_8] rfl (by (try simp only [List.map_toArray,List.map_cons,List.map_nil]); first | done | rfl | (simp only [List.length_drop,List.length_take]; rfl)) ?_; (with_reducible refine (laws_toIntSS.calls k _ _ l0_8 t315 _ ?side1 ?side2 A3.out).mono ?_); (case side1 => exact Kd.C_below HR0_8.out (by repeat (first | (with_reducible first | exact HB.out | apply QH | apply QD | apply QE | refine QJ ?_ GE300.out | refine QJ ?_ GE301.out | refine QJ ?_ GE302.out) | exact HB.out))); (case side2 => exact HC0_8.out); rintro e w18 ⟨v316,rfl,ho0,hb⟩; refine ⟨_,rfl,?_⟩; have n0_ := QS (Kd.R_below (by (with_reducible repeat (first | apply QL | apply QM | apply QO)); exact (Kd.R_mono (QK (QK (QK (QK (QK (QK (QK (QK (QN HO309.out BK302.out (by decide)))))))))) (fun _ h_ => h_.1))) hb); have n1_ := QS (Kd.R_below (by (with_reducible repeat (first | apply QL | apply QM | apply QO)); exact (Kd.R_mono (QK (QK (QK (QK (QK (QK (QK (QK (QN HO312.out BK302.out (by decide)))))))))) (fun _ h_ => h_.1))) hb); have n2_ := QS (Kd.S_lower (Kd.S_new' (Kd.S_new' ho0 (Kd.R_lt (by (with_reducible repeat (first | apply QL | apply QM | apply QO)); exact (Kd.R_mono (QK (QK (QK (QK (QK (QK (QK (QK (QN HO309.out BK302.out (by decide)))))))))) (fun _ h_ => h_.1))))) (Kd.R_lt (by (with_reducible repeat (first | apply QL | apply QM | apply QO)); exact (Kd.R_mono (QK (QK (QK (QK (QK (QK (QK (QK (QN HO312.out BK302.out (by decide)))))))))) (fun _ h_ => h_.1))))) (QR (by repeat (first | (with_reducible first | exact HB.out | apply QH | apply QD | apply QE | refine QJ ?_ GE300.out | refine QJ ?_ GE301.out | refine QJ ?_ GE302.out) | exact HB.out)))); have n3_ := QS (blk_below (g := gb300) (o := .cells #[.int .i64 a0_0,.int .i64 a0_1,.bool a0_2,.bool a0_3,.slice A0_4 l0_4.length c0_4,.slice A0_5 l0_5.length c0_5,.int .i64 a0_6,.int .i64 a0_7,.slice A0_8 l0_8.length c0_8,.slice A0_9 l0_9.length c0_9,.slice A0_10 l0_10.length c0_10,.int .i64 a0_11,.int .i64 a0_12,.int .i64 a0_13] 27 (0,0)) (by (with_reducible repeat (first | refine QF ?_ _ | refine QI ?_ | refine QG ?_ _)); refine blk_far ?_ NB300_302.out _; (with_reducible repeat (first | refine QF ?_ _ | refine QI ?_ | refine QG ?_ _)); refine blk_far ?_ NB300_302.out _; (with_reducible repeat (first | refine QF ?_ _ | refine QI ?_ | refine QG ?_ _)); refine blk_far ?_ NB300_302.out _; (with_reducible repeat (first | refine QF ?_ _ | refine QI ?_ | refine QG ?_ _)); refine blk_far ?_ NB300_302.out _; (with_reducible repeat (first | refine QF ?_ _ | refine QI ?_ | refine QG ?_ _)); refine blk_far ?_ NB300_302.out _; (with_reducible repeat (first | refine QF ?_ _ | refine QI ?_ | refine QG ?_ _)); refine blk_far ?_ NB300_302.out _; (with_reducible repeat (first | refine QF ?_ _ | refine QI ?_ | refine QG ?_ _)); refine blk_far ?_ NB300_302.out _; (with_reducible repeat (first | refine QF ?_ _ | refine QI ?_ | refine QG ?_ _)); refine blk_far ?_ NB300_302.out _; (with_reducible repeat (first | refine QF ?_ _ | refine QI ?_ | refine QG ?_ _)); exact BK300.out) hb); have n4_ := QS (blk_below (g := gb301) (o := .cells #[.int .i64 0,.int .i64 0,.bool false,.bool false,.slice none 0 0,.slice none 0 0,.int .i64 0,.int .i64 0,.slice none 0 0,.slice none 0 0,.slice none 0 0,.int .i64 0,.int .i64 0,.int .i64 0] 32 (0,0)) (by (with_reducible repeat (first | refine QF ?_ _ | refine QI ?_ | refine QG ?_ _)); refine blk_far ?_ NB301_302.out _; (with_reducible repeat (first | refine QF ?_ _ | refine QI ?_ | refine QG ?_ _)); refine blk_far ?_ NB301_302.out _; (with_reducible repeat (first | refine QF ?_ _ | refine QI ?_ | refine QG ?_ _)); refine blk_far ?_ NB301_302.out _; (with_reducible repeat (first | refine QF ?_ _ | refine QI ?_ | refine QG ?_ _)); refine blk_far ?_ NB301_302.out _; (with_reducible repeat (first | refine QF ?_ _ | refine QI ?_ | refine QG ?_ _)); refine blk_far ?_ NB301_302.out _; (with_reducible repeat (first | refine QF ?_ _ | refine QI ?_ | refine QG ?_ _)); refine blk_far ?_ NB301_302.out _; (with_reducible repeat (first | refine QF ?_ _ | refine QI ?_ | refine QG ?_ _)); refine blk_far ?_ NB301_302.out _; (with_reducible repeat (first | refine QF ?_ _ | refine QI ?_ | refine QG ?_ _)); refine blk_far ?_ NB301_302.out _; (with_reducible repeat (first | refine QF ?_ _ | refine QI ?_ | refine QG ?_ _)); exact BK301.out) hb); have n5_ := QS (blk_below (g := gb302) (o := .cells #[.int .i64 t303,.int .i64 t304,.bool t305,.bool t306,.slice Ao15 t307.length co15,.slice Ao16 t310.length co16,.int .i64 t313,.int .i64 t314,.slice none 0 0,.slice none 0 0,.slice none 0 0,.int .i64 0,.int .i64 0,.int .i64 0] 32 (0,0)) (by (with_reducible repeat (first | refine QF ?_ _ | refine QI ?_ | refine QG ?_ _)); refine blk_put (cs := #[.int .i64 t303,.int .i64 t304,.bool t305,.bool t306,.slice Ao15 t307.length co15,.slice Ao16 t310.length co16,.int .i64 t313,.int .i64 0,.slice none 0 0,.slice none 0 0,.slice none 0 0,.int .i64 0,.int .i64 0,.int .i64 0]) ?_ 7 _ rfl; (with_reducible repeat (first | refine QF ?_ _ | refine QI ?_ | refine QG ?_ _)); refine blk_put (cs := #[.int .i64 t303,.int .i64 t304,.bool t305,.bool t306,.slice Ao15 t307.length co15,.slice Ao16 t310.length co16,.int .i64 0,.int .i64 0,.slice none 0 0,.slice none 0 0,.slice none 0 0,.int .i64 0,.int .i64 0,.int .i64 0]) ?_ 6 _ rfl; (with_reducible repeat (first | refine QF ?_ _ | refine QI ?_ | refine QG ?_ _)); refine blk_put (cs := #[.int .i64 t303,.int .i64 t304,.bool t305,.bool t306,.slice Ao15 t307.length co15,.slice none 0 0,.int .i64 0,.int .i64 0,.slice none 0 0,.slice none 0 0,.slice none 0 0,.int .i64 0,.int .i64 0,.int .i64 0]) ?_ 5 _ rfl; (with_reducible repeat (first | refine QF ?_ _ | refine QI ?_ | refine QG ?_ _)); refine blk_put (cs := #[.int .i64 t303,.int .i64 t304,.bool t305,.bool t306,.slice none 0 0,.slice none 0 0,.int .i64 0,.int .i64 0,.slice none 0 0,.slice none 0 0,.slice none 0 0,.int .i64 0,.int .i64 0,.int .i64 0]) ?_ 4 _ rfl; (with_reducible repeat (first | refine QF ?_ _ | refine QI ?_ | refine QG ?_ _)); refine blk_put (cs := #[.int .i64 t303,.int .i64 t304,.bool t305,.bool false,.slice none 0 0,.slice none 0 0,.int .i64 0,.int .i64 0,.slice none 0 0,.slice none 0 0,.slice none 0 0,.int .i64 0,.int .i64 0,.int .i64 0]) ?_ 3 _ rfl; (with_reducible repeat (first | refine QF ?_ _ | refine QI ?_ | refine QG ?_ _)); refine blk_put (cs := #[.int .i64 t303,.int .i64 t304,.bool false,.bool false,.slice none 0 0,.slice none 0 0,.int .i64 0,.int .i64 0,.slice none 0 0,.slice none 0 0,.slice none 0 0,.int .i64 0,.int .i64 0,.int .i64 0]) ?_ 2 _ rfl; (with_reducible repeat (first | refine QF ?_ _ | refine QI ?_ | refine QG ?_ _)); refine blk_put (cs := #[.int .i64 t303,.int .i64 0,.bool false,.bool false,.slice none 0 0,.slice none 0 0,.int .i64 0,.int .i64 0,.slice none 0 0,.slice none 0 0,.slice none 0 0,.int .i64 0,.int .i64 0,.int .i64 0]) ?_ 1 _ rfl; (with_reducible repeat (first | refine QF ?_ _ | refine QI ?_ | refine QG ?_ _)); refine blk_put (cs := #[.int .i64 0,.int .i64 0,.bool false,.bool false,.slice none 0 0,.slice none 0 0,.int .i64 0,.int .i64 0,.slice none 0 0,.slice none 0 0,.slice none 0 0,.int .i64 0,.int .i64 0,.int .i64 0]) ?_ 0 _ rfl; (with_reducible repeat (first | refine QF ?_ _ | refine QI ?_ | refine QG ?_ _)); exact BK302.out) hb); have n6_ := QS (below_step (by repeat (first | (with_reducible first | exact HB.out | apply QH | apply QD | apply QE | refine QJ ?_ GE300.out | refine QJ ?_ GE301.out | refine QJ ?_ GE302.out) | exact HB.out)) hb); clear HO309; clear HO312; clear BK300; clear BK301; clear BK302; clear HB; revert n0_ n1_ n2_ n3_ n4_ n5_ n6_; intro HO309 HO312 HO317 BK300 BK301 BK302 HB; (try clear hb); (try clear hb2); (try clear hk); (try clear hi); (try clear ho0); obtain ⟨Ao19,co19,eo19⟩ := Kd.S_slice HO317.out; subst eo19; have hcz20_0 : w18.cell? ⟨gb302,0,none⟩ = some (.int .i64 t303) := (QC BK302.out 0).trans rfl; have hcz20_1 : w18.cell? ⟨gb302,1,none⟩ = some (.int .i64 t304) := (QC BK302.out 1).trans rfl; have hcz20_2 : w18.cell? ⟨gb302,2,none⟩ = some (.bool t305) := (QC BK302.out 2).trans rfl; have hcz20_3 : w18.cell? ⟨gb302,3,none⟩ = some (.bool t306) := (QC BK302.out 3).trans rfl; have hcz20_4 : w18.cell? ⟨gb302,4,none⟩ = some (.slice Ao15 t307.length co15) := (QC BK302.out 4).trans rfl; have hcz20_5 : w18.cell? ⟨gb302,5,none⟩ = some (.slice Ao16 t310.length co16) := (QC BK302.out 5).trans rfl; have hcz20_6 : w18.cell? ⟨gb302,6,none⟩ = some (.int .i64 t313) := (QC BK302.out 6).trans rfl; have hcz20_7 : w18.cell? ⟨gb302,7,none⟩ = some (.int .i64 t314) := (QC BK302.out 7).trans rfl; have hcz20_8 : w18.cell? ⟨gb302,8,none⟩ = some (.slice none 0 0) := (QC BK302.out 8).trans rfl; have hcz20_9 : w18.cell? ⟨gb302,9,none⟩ = some (.slice none 0 0) := (QC BK302.out 9).trans rfl; have hcz20_10 : w18.cell? ⟨gb302,10,none⟩ = some (.slice none 0 0) := (QC BK302.out 10).trans rfl; have hcz20_11 : w18.cell? ⟨gb302,11,none⟩ = some (.int .i64 0) := (QC BK302.out 11).trans rfl; have hcz20_12 : w18.cell? ⟨gb302,12,none⟩ = some (.int .i64 0) := (QC BK302.out 12).trans rfl; have hcz20_13 : w18.cell? ⟨gb302,13,none⟩ = some (.int .i64 0) := (QC BK302.out 13).trans rfl; have hfz20_0 := QB BK302.out 0; have hfz20_1 := QB BK302.out 1; have hfz20_2 := QB BK302.out 2; have hfz20_3 := QB BK302.out 3; have hfz20_4 := QB BK302.out 4; have hfz20_5 := QB BK302.out 5; have hfz20_6 := QB BK302.out 6; have hfz20_7 := QB BK302.out 7; have hfz20_8 := QB BK302.out 8; have hfz20_9 := QB BK302.out 9; have hfz20_10 := QB BK302.out 10; have hfz20_11 := QB BK302.out 11; have hfz20_12 := QB BK302.out 12; have hfz20_13 := QB BK302.out 13; have hcz21_0 : w18.cell? ⟨gb300,0,none⟩ = some (.int .i64 a0_0) := (QC BK300.out 0).trans rfl; have hcz21_1 : w18.cell? ⟨gb300,1,none⟩ = some (.int .i64 a0_1) := (QC BK300.out 1).trans rfl; have hcz21_2 : w18.cell? ⟨gb300,2,none⟩ = some (.bool a0_2) := (QC BK300.out 2).trans rfl; have hcz21_3 : w18.cell? ⟨gb300,3,none⟩ = some (.bool a0_3) := (QC BK300.out 3).trans rfl; have hcz21_4 : w18.cell? ⟨gb300,4,none⟩ = some (.slice A0_4 l0_4.length c0_4) := (QC BK300.out 4).trans rfl; have hcz21_5 : w18.cell? ⟨gb300,5,none⟩ = some (.slice A0_5 l0_5.length c0_5) := (QC BK300.out 5).trans rfl; have hcz21_6 : w18.cell? ⟨gb300,6,none⟩ = some (.int .i64 a0_6) := (QC BK300.out 6).trans rfl; have hcz21_7 : w18.cell? ⟨gb300,7,none⟩ = some (.int .i64 a0_7) := (QC BK300.out 7).trans rfl; have hcz21_8 : w18.cell? ⟨gb300,8,none⟩ = some (.slice A0_8 l0_8.length c0_8) := (QC BK300.out 8).trans rfl; have hcz21_9 : w18.cell? ⟨gb300,9,none⟩ = some (.slice A0_9 l0_9.length c0_9) := (QC BK300.out 9).trans rfl; have hcz21_10 : w18.cell? ⟨gb300,10,none⟩ = some (.slice A0_10 l0_10.length c0_10) := (QC BK300.out 10).trans rfl; have hcz21_11 : w18.cell? ⟨gb300,11,none⟩ = some (.int .i64 a0_11) := (QC BK300.out 11).trans rfl; have hcz21_12 : w18.cell? ⟨gb300,12,none⟩ = some (.int .i64 a0_12) := (QC BK300.out 12).trans rfl; have hcz21_13 : w18.cell? ⟨gb300,13,none⟩ = some (.int .i64 a0_13) := (QC BK300.out 13).trans rfl; have hfz21_0 := QB BK300.out 0; have hfz21_1 := QB BK300.out 1; have hfz21_2 := QB BK300.out 2; have hfz21_3 := QB BK300.out 3; have hfz21_4 := QB BK300.out 4; have hfz21_5 := QB BK300.out 5; have hfz21_6 := QB BK300.out 6; have hfz21_7 := QB BK300.out 7; have hfz21_8 := QB BK300.out 8; have hfz21_9 := QB BK300.out 9; have hfz21_10 := QB BK300.out 10; have hfz21_11 := QB BK300.out 11; have hfz21_12 := QB BK300.out 12; have hfz21_13 := QB BK300.out 13) | ((with_reducible refine QP (f := 18) rfl ?_); refine goesL_ (some 14) rfl rfl Try.func18 (by kernel_rfl) rfl #[.slice A0_9 l0_9.length c0_9] rfl (by (try simp only [List.map_toArray,List.map_cons,List.map_nil]); first | done | rfl | (simp only [List.length_drop,List.length_take]; rfl)) ?_; (with_reducible refine (laws_toIntS.calls k _ _ l0_9 t318 _ ?side1 ?side2 A4.out).mono ?_); (case side1 => exact Kd.C_below HR0_9.out (by repeat (first | (with_reducible first | exact HB.out | apply QH | apply QD | apply QE | refine QJ ?_ GE300.out | refine QJ ?_ GE301.out | refine QJ ?_ GE302.out) | exact HB.out))); (case side2 => exact HC0_9.out); rintro e w22 ⟨v319,rfl,ho0,hb⟩; refine ⟨_,rfl,?_⟩; have n0_ := QS (Kd.R_elder' (by (with_reducible repeat (first | apply QL | apply QM | apply QO)); exact (Kd.R_mono (QK (QN HO309.out BK302.out (by decide))) (fun _ h_ => h_.1))) (Kd.R_base ho0) hb); have n1_ := QS (Kd.R_elder' (by (with_reducible repeat (first | apply QL | apply QM | apply QO)); exact (Kd.R_mono (QK (QN HO312.out BK302.out (by decide))) (fun _ h_ => h_.1))) (Kd.R_base ho0) hb); have n2_ := QS (Kd.S_elder' (by (with_reducible repeat (first | apply Kd.S_alloc | apply Kd.S_drewN | apply Kd.S_drew)); exact (Kd.S_mono (far_s (Kd.S_types HO317.out BK302.out (by decide))) (fun _ h_ => h_.1))) (Kd.R_base ho0) hb); have n3_ := QS (Kd.R_lower (Kd.R_new' (Kd.R_new' ho0 (Kd.R_lt (by (with_reducible repeat (first | apply QL | apply QM | apply QO)); exact (Kd.R_mono (QK (QN HO309.out BK302.out (by decide))) (fun _ h_ => h_.1))))) (Kd.R_lt (by (with_reducible repeat (first | apply QL | apply QM | apply QO)); exact (Kd.R_mono (QK (QN HO312.out BK302.out (by decide))) (fun _ h_ => h_.1))))) (QR (by repeat (first | (with_reducible first | exact HB.out | apply QH | apply QD | apply QE | refine QJ ?_ GE300.out | refine QJ ?_ GE301.out | refine QJ ?_ GE302.out) | exact HB.out)))); have n4_ := QS (blk_below (g := gb300) (o := .cells #[.int .i64 a0_0,.int .i64 a0_1,.bool a0_2,.bool a0_3,.slice A0_4 l0_4.length c0_4,.slice A0_5 l0_5.length c0_5,.int .i64 a0_6,.int .i64 a0_7,.slice A0_8 l0_8.length c0_8,.slice A0_9 l0_9.length c0_9,.slice A0_10 l0_10.length c0_10,.int .i64 a0_11,.int .i64 a0_12,.int .i64 a0_13] 27 (0,0)) (by (with_reducible repeat (first | refine QF ?_ _ | refine QI ?_ | refine QG ?_ _)); refine blk_far ?_ NB300_302.out _; (with_reducible repeat (first | refine QF ?_ _ | refine QI ?_ | refine QG ?_ _)); exact BK300.out) hb); have n5_ := QS (blk_below (g := gb301) (o := .cells #[.int .i64 0,.int .i64 0,.bool false,.bool false,.slice none 0 0,.slice none 0 0,.int .i64 0,.int .i64 0,.slice none 0 0,.slice none 0 0,.slice none 0 0,.int .i64 0,.int .i64 0,.int .i64 0] 32 (0,0)) (by (with_reducible repeat (first | refine QF ?_ _ | refine QI ?_ | refine QG ?_ _)); refine blk_far ?_ NB301_302.out _; (with_reducible repeat (first | refine QF ?_ _ | refine QI ?_ | refine QG ?_ _)); exact BK301.out) hb); have n6_ := QS (blk_below (g := gb302) (o := .cells #[.int .i64 t303,.int .i64 t304,.bool t305,.bool t306,.slice Ao15 t307.length co15,.slice Ao16 t310.length co16,.int .i64 t313,.int .i64 t314,.slice Ao19 t315.length co19,.slice none 0 0,.slice none 0 0,.int .i64 0,.int .i64 0,.int .i64 0] 32 (0,0)) (by (with_reducible repeat (first | refine QF ?_ _ | refine QI ?_ | refine QG ?_ _)); refine blk_put (cs := #[.int .i64 t303,.int .i64 t304,.bool t305,.bool t306,.slice Ao15 t307.length co15,.slice Ao16 t310.length co16,.int .i64 t313,.int .i64 t314,.slice none 0 0,.slice none 0 0,.slice none 0 0,.int .i64 0,.int .i64 0,.int .i64 0]) ?_ 8 _ rfl; (with_reducible repeat (first | refine QF ?_ _ | refine QI ?_ | refine QG ?_ _)); exact BK302.out) hb); have n7_ := QS (below_step (by repeat (first | (with_reducible first | exact HB.out | apply QH | apply QD | apply QE | refine QJ ?_ GE300.out | refine QJ ?_ GE301.out | refine QJ ?_ GE302.out) | exact HB.out)) hb); clear HO309; clear HO312; clear HO317; clear BK300; clear BK301; clear BK302; clear HB; revert n0_ n1_ n2_ n3_ n4_ n5_ n6_ n7_; intro HO309 HO312 HO317 HO320 BK300 BK301 BK302 HB; (try clear hb); (try clear hb2); (try clear hk); (try clear hi); (try clear ho0); obtain ⟨Ao23,co23,eo23⟩ := Kd.R_slice HO320.out; subst eo23; have hcz24_0 : w22.cell? ⟨gb302,0,none⟩ = some (.int .i64 t303) := (QC BK302.out 0).trans rfl; have hcz24_1 : w22.cell? ⟨gb302,1,none⟩ = some (.int .i64 t304) := (QC BK302.out 1).trans rfl; have hcz24_2 : w22.cell? ⟨gb302,2,none⟩ = some (.bool t305) := (QC BK302.out 2).trans rfl; have hcz24_3 : w22.cell? ⟨gb302,3,none⟩ = some (.bool t306) := (QC BK302.out 3).trans rfl; have hcz24_4 : w22.cell? ⟨gb302,4,none⟩ = some (.slice Ao15 t307.length co15) := (QC BK302.out 4).trans rfl; have hcz24_5 : w22.cell? ⟨gb302,5,none⟩ = some (.slice Ao16 t310.length co16) := (QC BK302.out 5).trans rfl; have hcz24_6 : w22.cell? ⟨gb302,6,none⟩ = some (.int .i64 t313) := (QC BK302.out 6).trans rfl; have hcz24_7 : w22.cell? ⟨gb302,7,none⟩ = some (.int .i64 t314) := (QC BK302.out 7).trans rfl; have hcz24_8 : w22.cell? ⟨gb302,8,none⟩ = some (.slice Ao19 t315.length co19) := (QC BK302.out 8).trans rfl; have hcz24_9 : w22.cell? ⟨gb302,9,none⟩ = some (.slice none 0 0) := (QC BK302.out 9).trans rfl; have hcz24_10 : w22.cell? ⟨gb302,10,none⟩ = some (.slice none 0 0) := (QC BK302.out 10).trans rfl; have hcz24_11 : w22.cell? ⟨gb302,11,none⟩ = some (.int .i64 0) := (QC BK302.out 11).trans rfl; have hcz24_12 : w22.cell? ⟨gb302,12,none⟩ = some (.int .i64 0) := (QC BK302.out 12).trans rfl; have hcz24_13 : w22.cell? ⟨gb302,13,none⟩ = some (.int .i64 0) := (QC BK302.out 13).trans rfl; have hfz24_0 := QB BK302.out 0; have hfz24_1 := QB BK302.out 1; have hfz24_2 := QB BK302.out 2; have hfz24_3 := QB BK302.out 3; have hfz24_4 := QB BK302.out 4; have hfz24_5 := QB BK302.out 5; have hfz24_6 := QB BK302.out 6; have hfz24_7 := QB BK302.out 7; have hfz24_8 := QB BK302.out 8; have hfz24_9 := QB BK302.out 9; have hfz24_10 := QB BK302.out 10; have hfz24_11 := QB BK302.out 11; have hfz24_12 := QB BK302.out 12; have hfz24_13 := QB BK302.out 13; have hcz25_0 : w22.cell? ⟨gb300,0,none⟩ = some (.int .i64 a0_0) := (QC BK300.out 0).trans rfl; have hcz25_1 : w22.cell? ⟨gb300,1,none⟩ = some (.int .i64 a0_1) := (QC BK300.out 1).trans rfl; have hcz25_2 : w22.cell? ⟨gb300,2,none⟩ = some (.bool a0_2) := (QC BK300.out 2).trans rfl; have hcz25_3 : w22.cell? ⟨gb300,3,none⟩ = some (.bool a0_3) := (QC BK300.out 3).trans rfl; have hcz25_4 : w22.cell? ⟨gb300,4,none⟩ = some (.slice A0_4 l0_4.length c0_4) := (QC BK300.out 4).trans rfl; have hcz25_5 : w22.cell? ⟨gb300,5,none⟩ = some (.slice A0_5 l0_5.length c0_5) := (QC BK300.out 5).trans rfl; have hcz25_6 : w22.cell? ⟨gb300,6,none⟩ = some (.int .i64 a0_6) := (QC BK300.out 6).trans rfl; have hcz25_7 : w22.cell? ⟨gb300,7,none⟩ = some (.int .i64 a0_7) := (QC BK300.out 7).trans rfl; have hcz25_8 : w22.cell? ⟨gb300,8,none⟩ = some (.slice A0_8 l0_8.length c0_8) := (QC BK300.out 8).trans rfl; have hcz25_9 : w22.cell? ⟨gb300,9,none⟩ = some (.slice A0_9 l0_9.length c0_9) := (QC BK300.out 9).trans rfl; have hcz25_10 : w22.cell? ⟨gb300,10,none⟩ = some (.slice A0_10 l0_10.length c0_10) := (QC BK300.out 10).trans rfl; have hcz25_11 : w22.cell? ⟨gb300,11,none⟩ = some (.int .i64 a0_11) := (QC BK300.out 11).trans rfl; have hcz25_12 : w22.cell? ⟨gb300,12,none⟩ = some (.int .i64 a0_12) := (QC BK300.out 12).trans rfl; have hcz25_13 : w22.cell? ⟨gb300,13,none⟩ = some (.int .i64 a0_13) := (QC BK300.out 13).trans rfl; have hfz25_0 := QB BK300.out 0; have hfz25_1 := QB BK300.out 1; have hfz25_2 := QB BK300.out 2; have hfz25_3 := QB BK300.out 3; have hfz25_4 := QB BK300.out 4; have hfz25_5 := QB BK300.out 5; have hfz25_6 := QB BK300.out 6; have hfz25_7 := QB BK300.out 7; have hfz25_8 := QB BK300.out 8; have hfz25_9 := QB BK300.out 9; have hfz25_10 := QB BK300.out 10; have hfz25_11 := QB BK300.out 11; have hfz25_12 := QB BK300.out 12; have hfz25_13 := QB BK300.out 13) | ((with_reducible refine QP (f := 18) rfl ?_); refine goesL_ (some 18) rfl rfl Try.func18 (by kernel_rfl) rfl #[.slice A0_10 l0_10.length c0_10] rfl (by (try simp only [List.map_toArray,List.map_cons,List.map_nil]); first | done | rfl | (simp only [List.length_drop,List.length_take]; rfl)) ?_; (with_reducible refine (laws_toIntS.calls k _ _ l0_10 t321 _ ?side1 ?side2 A5.out).mono ?_); (case side1 => exact Kd.C_below HR0_10.out (by repeat (first | (with_reducible first | exact HB.out | apply QH | apply QD | apply QE | refine QJ ?_ GE300.out | refine QJ ?_ GE301.out | refine QJ ?_ GE302.out) | exact HB.out))); (case side2 => exact HC0_10.out); rintro e w26 ⟨v322,rfl,ho0,hb⟩; refine ⟨_,rfl,?_⟩; have n0_ := QS (Kd.R_elder' (by (with_reducible repeat (first | apply QL | apply QM | apply QO)); exact (Kd.R_mono (QK (QN HO309.out BK302.out (by decide))) (fun _ h_ => h_.1))) (Kd.R_base ho0) hb); have n1_ := QS (Kd.R_elder' (by (with_reducible repeat (first | apply QL | apply QM | apply QO)); exact (Kd.R_mono (QK (QN HO312.out BK302.out (by decide))) (fun _ h_ => h_.1))) (Kd.R_base ho0) hb); have n2_ := QS (Kd.S_elder' (by (with_reducible repeat (first | apply Kd.S_alloc | apply Kd.S_drewN | apply Kd.S_drew)); exact (Kd.S_mono (far_s (Kd.S_types HO317.out BK302.out (by decide))) (fun _ h_ => h_.1))) (Kd.R_base ho0) hb); have n3_ := QS (Kd.R_elder' (by (with_reducible repeat (first | apply QL | apply QM | apply QO)); exact (Kd.R_mono (QK (QN HO320.out BK302.out (by decide))) (fun _ h_ => h_.1))) (Kd.R_base ho0) hb); have n4_ := QS (Kd.R_lower (Kd.R_new' (Kd.R_new' (Kd.R_new' ho0 (Kd.R_lt (by (with_reducible repeat (first | apply QL | apply QM | apply QO)); exact (Kd.R_mono (QK (QN HO309.out BK302.out (by decide))) (fun _ h_ => h_.1))))) (Kd.R_lt (by (with_reducible repeat (first | apply QL | apply QM | apply QO)); exact (Kd.R_mono (QK (QN HO312.out BK302.out (by decide))) (fun _ h_ => h_.1))))) (Kd.R_lt (by (with_reducible repeat (first | apply QL | apply QM | apply QO)); exact (Kd.R_mono (QK (QN HO320.out BK302.out (by decide))) (fun _ h_ => h_.1))))) (QR (by repeat (first | (with_reducible first | exact HB.out | apply QH | apply QD | apply QE | refine QJ ?_ GE300.out | refine QJ ?_ GE301.out | refine QJ ?_ GE302.out) | exact HB.out)))); have n5_ := QS (blk_below (g := gb300) (o := .cells #[.int .i64 a0_0,.int .i64 a0_1,.bool a0_2,.bool a0_3,.slice A0_4 l0_4.length c0_4,.slice A0_5 l0_5.length c0_5,.int .i64 a0_6,.int .i64 a0_7,.slice A0_8 l0_8.length c0_8,.slice A0_9 l0_9.length c0_9,.slice A0_10 l0_10.length c0_10,.int .i64 a0_11,.int .i64 a0_12,.int .i64 a0_13] 27 (0,0)) (by (with_reducible repeat (first | refine QF ?_ _ | refine QI ?_ | refine QG ?_ _)); refine blk_far ?_ NB300_302.out _; (with_reducible repeat (first | refine QF ?_ _ | refine QI ?_ | refine QG ?_ _)); exact BK300.out) hb); have n6_ := QS (blk_below (g := gb301) (o := .cells #[.int .i64 0,.int .i64 0,.bool false,.bool false,.slice none 0 0,.slice none 0 0,.int .i64 0,.int .i64 0,.slice none 0 0,.slice none 0 0,.slice none 0 0,.int .i64 0,.int .i64 0,.int .i64 0] 32 (0,0)) (by (with_reducible repeat (first | refine QF ?_ _ | refine QI ?_ | refine QG ?_ _)); refine blk_far ?_ NB301_302.out _; (with_reducible repeat (first | refine QF ?_ _ | refine QI ?_ | refine QG ?_ _)); exact BK301.out) hb); have n7_ := QS (blk_below (g := gb302) (o := .cells #[.int .i64 t303,.int .i64 t304,.bool t305,.bool t306,.slice Ao15 t307.length co15,.slice Ao16 t310.length co16,.int .i64 t313,.int .i64 t314,.slice Ao19 t315.length co19,.slice Ao23 t318.length co23,.slice none 0 0,.int .i64 0,.int .i64 0,.int .i64 0] 32 (0,0)) (by (with_reducible repeat (first | refine QF ?_ _ | refine QI ?_ | refine QG ?_ _)); refine blk_put (cs := #[.int .i64 t303,.int .i64 t304,.bool t305,.bool t306,.slice Ao15 t307.length co15,.slice Ao16 t310.length co16,.int .i64 t313,.int .i64 t314,.slice Ao19 t315.length co19,.slice none 0 0,.slice none 0 0,.int .i64 0,.int .i64 0,.int .i64 0]) ?_ 9 _ rfl; (with_reducible repeat (first | refine QF ?_ _ | refine QI ?_ | refine QG ?_ _)); exact BK302.out) hb); have n8_ := QS (below_step (by repeat (first | (with_reducible first | exact HB.out | apply QH | apply QD | apply QE | refine QJ ?_ GE300.out | refine QJ ?_ GE301.out | refine QJ ?_ GE302.out) | exact HB.out)) hb); clear HO309; clear HO312; clear HO317; clear HO320; clear BK300; clear BK301; clear BK302; clear HB; revert n0_ n1_ n2_ n3_ n4_ n5_ n6_ n7_ n8_; intro HO309 HO312 HO317 HO320 HO323 BK300 BK301 BK302 HB; (try clear hb); (try clear hb2); (try clear hk); (try clear hi); (try clear ho0); obtain ⟨Ao27,co27,eo27⟩ := Kd.R_slice HO323.out; subst eo27; have hcz28_0 : w26.cell? ⟨gb302,0,none⟩ = some (.int .i64 t303) := (QC BK302.out 0).trans rfl; have hcz28_1 : w26.cell? ⟨gb302,1,none⟩ = some (.int .i64 t304) := (QC BK302.out 1).trans rfl; have hcz28_2 : w26.cell? ⟨gb302,2,none⟩ = some (.bool t305) := (QC BK302.out 2).trans rfl; have hcz28_3 : w26.cell? ⟨gb302,3,none⟩ = some (.bool t306) := (QC BK302.out 3).trans rfl; have hcz28_4 : w26.cell? ⟨gb302,4,none⟩ = some (.slice Ao15 t307.length co15) := (QC BK302.out 4).trans rfl; have hcz28_5 : w26.cell? ⟨gb302,5,none⟩ = some (.slice Ao16 t310.length co16) := (QC BK302.out 5).trans rfl; have hcz28_6 : w26.cell? ⟨gb302,6,none⟩ = some (.int .i64 t313) := (QC BK302.out 6).trans rfl; have hcz28_7 : w26.cell? ⟨gb302,7,none⟩ = some (.int .i64 t314) := (QC BK302.out 7).trans rfl; have hcz28_8 : w26.cell? ⟨gb302,8,none⟩ = some (.slice Ao19 t315.length co19) := (QC BK302.out 8).trans rfl; have hcz28_9 : w26.cell? ⟨gb302,9,none⟩ = some (.slice Ao23 t318.length co23) := (QC BK302.out 9).trans rfl; have hcz28_10 : w26.cell? ⟨gb302,10,none⟩ = some (.slice none 0 0) := (QC BK302.out 10).trans rfl; have hcz28_11 : w26.cell? ⟨gb302,11,none⟩ = some (.int .i64 0) := (QC BK302.out 11).trans rfl; have hcz28_12 : w26.cell? ⟨gb302,12,none⟩ = some (.int .i64 0) := (QC BK302.out 12).trans rfl; have hcz28_13 : w26.cell? ⟨gb302,13,none⟩ = some (.int .i64 0) := (QC BK302.out 13).trans rfl; have hfz28_0 := QB BK302.out 0; have hfz28_1 := QB BK302.out 1; have hfz28_2 := QB BK302.out 2; have hfz28_3 := QB BK302.out 3; have hfz28_4 := QB BK302.out 4; have hfz28_5 := QB BK302.out 5; have hfz28_6 := QB BK302.out 6; have hfz28_7 := QB BK302.out 7; have hfz28_8 := QB BK302.out 8; have hfz28_9 := QB BK302.out 9; have hfz28_10 := QB BK302.out 10; have hfz28_11 := QB BK302.out 11; have hfz28_12 := QB BK302.out 12; have hfz28_13 := QB BK302.out 13; have hcz29_0 : w26.cell? ⟨gb300,0,none⟩ = some (.int .i64 a0_0) := (QC BK300.out 0).trans rfl; have hcz29_1 : w26.cell? ⟨gb300,1,none⟩ = some (.int .i64 a0_1) := (QC BK300.out 1).trans rfl; have hcz29_2 : w26.cell? ⟨gb300,2,none⟩ = some (.bool a0_2) := (QC BK300.out 2).trans rfl; have hcz29_3 : w26.cell? ⟨gb300,3,none⟩ = some (.bool a0_3) := (QC BK300.out 3).trans rfl; have hcz29_4 : w26.cell? ⟨gb300,4,none⟩ = some (.slice A0_4 l0_4.length c0_4) := (QC BK300.out 4).trans rfl; have hcz29_5 : w26.cell? ⟨gb300,5,none⟩ = some (.slice A0_5 l0_5.length c0_5) := (QC BK300.out 5).trans rfl; have hcz29_6 : w26.cell? ⟨gb300,6,none⟩ = some (.int .i64 a0_6) := (QC BK300.out 6).trans rfl; have hcz29_7 : w26.cell? ⟨gb300,7,none⟩ = some (.int .i64 a0_7) := (QC BK300.out 7).trans rfl; have hcz29_8 : w26.cell? ⟨gb300,8,none⟩ = some (.slice A0_8 l0_8.length c0_8) := (QC BK300.out 8).trans rfl; have hcz29_9 : w26.cell? ⟨gb300,9,none⟩ = some (.slice A0_9 l0_9.length c0_9) := (QC BK300.out 9).trans rfl; have hcz29_10 : w26.cell? ⟨gb300,10,none⟩ = some (.slice A0_10 l0_10.length c0_10) := (QC BK300.out 10).trans rfl; have hcz29_11 : w26.cell? ⟨gb300,11,none⟩ = some (.int .i64 a0_11) := (QC BK300.out 11).trans rfl; have hcz29_12 : w26.cell? ⟨gb300,12,none⟩ = some (.int .i64 a0_12) := (QC BK300.out 12).trans rfl; have hcz29_13 : w26.cell? ⟨gb300,13,none⟩ = some (.int .i64 a0_13) := (QC BK300.out 13).trans rfl; have hfz29_0 := QB BK300.out 0; have hfz29_1 := QB BK300.out 1; have hfz29_2 := QB BK300.out 2; have hfz29_3 := QB BK300.out 3; have hfz29_4 := QB BK300.out 4; have hfz29_5 := QB BK300.out 5; have hfz29_6 := QB BK300.out 6; have hfz29_7 := QB BK300.out 7; have hfz29_8 := QB BK300.out 8; have hfz29_9 := QB BK300.out 9; have hfz29_10 := QB BK300.out 10; have hfz29_11 := QB BK300.out 11; have hfz29_12 := QB BK300.out 12; have hfz29_13 := QB BK300.out 13; have hcz30_0 : w26.cell? ⟨gb301,0,none⟩ = some (.int .i64 0) := (QC BK301.out 0).trans rfl; have hcz30_1 : w26.cell? ⟨gb301,1,none⟩ = some (.int .i64 0) := (QC BK301.out 1).trans rfl; have hcz30_2 : w26.cell? ⟨gb301,2,none⟩ = some (.bool false) := (QC BK301.out 2).trans rfl; have hcz30_3 : w26.cell? ⟨gb301,3,none⟩ = some (.bool false) := (QC BK301.out 3).trans rfl; have hcz30_4 : w26.cell? ⟨gb301,4,none⟩ = some (.slice none 0 0) := (QC BK301.out 4).trans rfl; have hcz30_5 : w26.cell? ⟨gb301,5,none⟩ = some (.slice none 0 0) := (QC BK301.out 5).trans rfl; have hcz30_6 : w26.cell? ⟨gb301,6,none⟩ = some (.int .i64 0) := (QC BK301.out 6).trans rfl; have hcz30_7 : w26.cell? ⟨gb301,7,none⟩ = some (.int .i64 0) := (QC BK301.out 7).trans rfl; have hcz30_8 : w26.cell? ⟨gb301,8,none⟩ = some (.slice none 0 0) := (QC BK301.out 8).trans rfl; have hcz30_9 : w26.cell? ⟨gb301,9,none⟩ = some (.slice none 0 0) := (QC BK301.out 9).trans rfl; have hcz30_10 : w26.cell? ⟨gb301,10,none⟩ = some (.slice none 0 0) := (QC BK301.out 10).trans rfl; have hcz30_11 : w26.cell? ⟨gb301,11,none⟩ = some (.int .i64 0) := (QC BK301.out 11).trans rfl; have hcz30_12 : w26.cell? ⟨gb301,12,none⟩ = some (.int .i64 0) := (QC BK301.out 12).trans rfl; have hcz30_13 : w26.cell? ⟨gb301,13,none⟩ = some (.int .i64 0) := (QC BK301.out 13).trans rfl; have hfz30_0 := QB BK301.out 0; have hfz30_1 := QB BK301.out 1; have hfz30_2 := QB BK301.out 2; have hfz30_3 := QB BK301.out 3; have hfz30_4 := QB BK301.out 4; have hfz30_5 := QB BK301.out 5; have hfz30_6 := QB BK301.out 6; have hfz30_7 := QB BK301.out 7; have hfz30_8 := QB BK301.out 8; have hfz30_9 := QB BK301.out 9; have hfz30_10 := QB BK301.out 10; have hfz30_11 := QB BK301.out 11; have hfz30_12 := QB BK301.out 12; have hfz30_13 := QB BK301.out 13))
 refine bodyPost_ret (results_cell_row rfl _ _ gb301 32 #[.int .i64 t303,.int .i64 t304,.bool t305,.bool t306,.slice Ao15 t307.length co15,.slice Ao16 t310.length co16,.int .i64 t313,.int .i64 t314,.slice Ao19 t315.length co19,.slice Ao23 t318.length co23,.slice Ao27 t321.length co27,.int .i64 a0_11,.int .i64 a0_12,.int .i64 a0_13] (0,0) _ rfl (by (with_reducible repeat (first | refine QF ?_ _ | refine QI ?_ | refine QG ?_ _)); refine blk_put (cs := #[.int .i64 t303,.int .i64 t304,.bool t305,.bool t306,.slice Ao15 t307.length co15,.slice Ao16 t310.length co16,.int .i64 t313,.int .i64 t314,.slice Ao19 t315.length co19,.slice Ao23 t318.length co23,.slice Ao27 t321.length co27,.int .i64 a0_11,.int .i64 a0_12,.int .i64 0]) ?_ 13 _ rfl; (with_reducible repeat (first | refine QF ?_ _ | refine QI ?_ | refine QG ?_ _)); refine blk_put (cs := #[.int .i64 t303,.int .i64 t304,.bool t305,.bool t306,.slice Ao15 t307.length co15,.slice Ao16 t310.length co16,.int .i64 t313,.int .i64 t314,.slice Ao19 t315.length co19,.slice Ao23 t318.length co23,.slice Ao27 t321.length co27,.int .i64 a0_11,.int .i64 0,.int .i64 0]) ?_ 12 _ rfl; (with_reducible repeat (first | refine QF ?_ _ | refine QI ?_ | refine QG ?_ _)); refine blk_put (cs := #[.int .i64 t303,.int .i64 t304,.bool t305,.bool t306,.slice Ao15 t307.length co15,.slice Ao16 t310.length co16,.int .i64 t313,.int .i64 t314,.slice Ao19 t315.length co19,.slice Ao23 t318.length co23,.slice Ao27 t321.length co27,.int .i64 0,.int .i64 0,.int .i64 0]) ?_ 11 _ rfl; (with_reducible repeat (first | refine QF ?_ _ | refine QI ?_ | refine QG ?_ _)); refine blk_put (cs := #[.int .i64 t303,.int .i64 t304,.bool t305,.bool t306,.slice Ao15 t307.length co15,.slice Ao16 t310.length co16,.int .i64 t313,.int .i64 t314,.slice Ao19 t315.length co19,.slice Ao23 t318.length co23,.slice none 0 0,.int .i64 0,.int .i64 0,.int .i64 0]) ?_ 10 _ rfl; (with_reducible repeat (first | refine QF ?_ _ | refine QI ?_ | refine QG ?_ _)); refine blk_put (cs := #[.int .i64 t303,.int .i64 t304,.bool t305,.bool t306,.slice Ao15 t307.length co15,.slice Ao16 t310.length co16,.int .i64 t313,.int .i64 t314,.slice Ao19 t315.length co19,.slice none 0 0,.slice none 0 0,.int .i64 0,.int .i64 0,.int .i64 0]) ?_ 9 _ rfl; (with_reducible repeat (first | refine QF ?_ _ | refine QI ?_ | refine QG ?_ _)); refine blk_put (cs := #[.int .i64 t303,.int .i64 t304,.bool t305,.bool t306,.slice Ao15 t307.length co15,.slice Ao16 t310.length co16,.int .i64 t313,.int .i64 t314,.slice none 0 0,.slice none 0 0,.slice none 0 0,.int .i64 0,.int .i64 0,.int .i64 0]) ?_ 8 _ rfl; (with_reducible repeat (first | refine QF ?_ _ | refine QI ?_ | refine QG ?_ _)); refine blk_put (cs := #[.int .i64 t303,.int .i64 t304,.bool t305,.bool t306,.slice Ao15 t307.length co15,.slice Ao16 t310.length co16,.int .i64 t313,.int .i64 0,.slice none 0 0,.slice none 0 0,.slice none 0 0,.int .i64 0,.int .i64 0,.int .i64 0]) ?_ 7 _ rfl; (with_reducible repeat (first | refine QF ?_ _ | refine QI ?_ | refine QG ?_ _)); refine blk_put (cs := #[.int .i64 t303,.int .i64 t304,.bool t305,.bool t306,.slice Ao15 t307.length co15,.slice Ao16 t310.length co16,.int .i64 0,.int .i64 0,.slice none 0 0,.slice none 0 0,.slice none 0 0,.int .i64 0,.int .i64 0,.int .i64 0]) ?_ 6 _ rfl; (with_reducible repeat (first | refine QF ?_ _ | refine QI ?_ | refine QG ?_ _)); refine blk_put (cs := #[.int .i64 t303,.int .i64 t304,.bool t305,.bool t306,.slice Ao15 t307.length co15,.slice none 0 0,.int .i64 0,.int .i64 0,.slice none 0 0,.slice none 0 0,.slice none 0 0,.int .i64 0,.int .i64 0,.int .i64 0]) ?_ 5 _ rfl; (with_reducible repeat (first | refine QF ?_ _ | refine QI ?_ | refine QG ?_ _)); refine blk_put (cs := #[.int .i64 t303,.int .i64 t304,.bool t305,.bool t306,.slice none 0 0,.slice none 0 0,.int .i64 0,.int .i64 0,.slice none 0 0,.slice none 0 0,.slice none 0 0,.int .i64 0,.int .i64 0,.int .i64 0]) ?_ 4 _ rfl; (with_reducible repeat (first | refine QF ?_ _ | refine QI ?_ | refine QG ?_ _)); refine blk_put (cs := #[.int .i64 t303,.int .i64 t304,.bool t305,.bool false,.slice none 0 0,.slice none 0 0,.int .i64 0,.int .i64 0,.slice none 0 0,.slice none 0 0,.slice none 0 0,.int .i64 0,.int .i64 0,.int .i64 0]) ?_ 3 _ rfl; (with_reducible repeat (first | refine QF ?_ _ | refine QI ?_ | refine QG ?_ _)); refine blk_put (cs := #[.int .i64 t303,.int .i64 t304,.bool false,.bool false,.slice none 0 0,.slice none 0 0,.int .i64 0,.int .i64 0,.slice none 0 0,.slice none 0 0,.slice none 0 0,.int .i64 0,.int .i64 0,.int .i64 0]) ?_ 2 _ rfl; (with_reducible repeat (first | refine QF ?_ _ | refine QI ?_ | refine QG ?_ _)); refine blk_put (cs := #[.int .i64 t303,.int .i64 0,.bool false,.bool false,.slice none 0 0,.slice none 0 0,.int .i64 0,.int .i64 0,.slice none 0 0,.slice none 0 0,.slice none 0 0,.int .i64 0,.int .i64 0,.int .i64 0]) ?_ 1 _ rfl; (with_reducible repeat (first | refine QF ?_ _ | refine QI ?_ | refine QG ?_ _)); refine blk_put (cs := #[.int .i64 0,.int .i64 0,.bool false,.bool false,.slice none 0 0,.slice none 0 0,.int .i64 0,.int .i64 0,.slice none 0 0,.slice none 0 0,.slice none 0 0,.int .i64 0,.int .i64 0,.int .i64 0]) ?_ 0 _ rfl; (with_reducible repeat (first | refine QF ?_ _ | refine QI ?_ | refine QG ?_ _)); refine blk_far ?_ NB301_302.out _; (with_reducible repeat (first | refine QF ?_ _ | refine QI ?_ | refine QG ?_ _)); refine blk_far ?_ NB301_302.out _; (with_reducible repeat (first | refine QF ?_ _ | refine QI ?_ | refine QG ?_ _)); refine blk_far ?_ NB301_302.out _; (with_reducible repeat (first | refine QF ?_ _ | refine QI ?_ | refine QG ?_ _)); refine blk_far ?_ NB301_302.out _; (with_reducible repeat (first | refine QF ?_ _ | refine QI ?_ | refine QG ?_ _)); exact BK301.out) Try.underlying32 rfl (by kernel_rfl)) rfl ?_
 exact ⟨_,_,_,_,_,by first | rfl | (simp [errW_none,errW_some] <;> rfl) | (simp [*,errW_none,errW_some] <;> rfl),by (with_reducible repeat (first | apply QL | apply QM | apply QO)); exact Kd.R_mono (QK (QK (QK (QK (QK (QK (QK (QK (QK (QK (QK (QK (QK (QK (Kd.R_far (p := ⟨gb302,13,none⟩) (Kd.R_far (p := ⟨gb302,12,none⟩) (Kd.R_far (p := ⟨gb302,11,none⟩) (Kd.R_far (p := ⟨gb302,10,none⟩) (QN (QN HO309.out BK302.out (by decide)) BK301.out (by decide)) (fun _ hk => hk.1.2) (.slice Ao27 t321.length co27)) (fun _ hk => hk.1.2) (.int .i64 a0_11)) (fun _ hk => hk.1.2) (.int .i64 a0_12)) (fun _ hk => hk.1.2) (.int .i64 a0_13)))))))))))))))) (fun _ hk => ⟨hk.1.1.1.1,⟨hk.1.1.1.2,hk.1.1.2⟩⟩),by (with_reducible repeat (first | apply QL | apply QM | apply QO)); exact Kd.R_mono (QK (QK (QK (QK (QK (QK (QK (QK (QK (QK (QK (QK (QK (QK (Kd.R_far (p := ⟨gb302,13,none⟩) (Kd.R_far (p := ⟨gb302,12,none⟩) (Kd.R_far (p := ⟨gb302,11,none⟩) (Kd.R_far (p := ⟨gb302,10,none⟩) (QN (QN HO312.out BK302.out (by decide)) BK301.out (by decide)) (fun _ hk => hk.1.2) (.slice Ao27 t321.length co27)) (fun _ hk => hk.1.2) (.int .i64 a0_11)) (fun _ hk => hk.1.2) (.int .i64 a0_12)) (fun _ hk => hk.1.2) (.int .i64 a0_13)))))))))))))))) (fun _ hk => ⟨hk.1.1.1.1,⟨hk.1.1.1.2,hk.1.1.2⟩⟩),by (with_reducible repeat (first | apply Kd.S_alloc | apply Kd.S_drewN | apply Kd.S_drew)); exact Kd.S_mono (far_s (far_s (far_s (far_s (far_s (far_s (far_s (far_s (far_s (far_s (far_s (far_s (far_s (far_s (Kd.S_far (p := ⟨gb302,13,none⟩) (Kd.S_far (p := ⟨gb302,12,none⟩) (Kd.S_far (p := ⟨gb302,11,none⟩) (Kd.S_far (p := ⟨gb302,10,none⟩) (Kd.S_types (Kd.S_types HO317.out BK302.out (by decide)) BK301.out (by decide)) (fun _ hk => hk.1.2) (.slice Ao27 t321.length co27)) (fun _ hk => hk.1.2) (.int .i64 a0_11)) (fun _ hk => hk.1.2) (.int .i64 a0_12)) (fun _ hk => hk.1.2) (.int .i64 a0_13)))))))))))))))) (fun _ hk => ⟨hk.1.1.1.1.1.2,⟨hk.1.1.1.1.2,⟨hk.1.1.1.2,hk.1.1.2⟩⟩⟩),by (with_reducible repeat (first | apply QL | apply QM | apply QO)); exact Kd.R_mono (QK (QK (QK (QK (QK (QK (QK (QK (QK (QK (QK (QK (QK (QK (Kd.R_far (p := ⟨gb302,13,none⟩) (Kd.R_far (p := ⟨gb302,12,none⟩) (Kd.R_far (p := ⟨gb302,11,none⟩) (Kd.R_far (p := ⟨gb302,10,none⟩) (QN (QN HO320.out BK302.out (by decide)) BK301.out (by decide)) (fun _ hk => hk.1.2) (.slice Ao27 t321.length co27)) (fun _ hk => hk.1.2) (.int .i64 a0_11)) (fun _ hk => hk.1.2) (.int .i64 a0_12)) (fun _ hk => hk.1.2) (.int .i64 a0_13)))))))))))))))) (fun _ hk => ⟨hk.1.1.1.1.2,⟨hk.1.1.1.2,hk.1.1.2⟩⟩),by (with_reducible repeat (first | apply QL | apply QM | apply QO)); exact Kd.R_mono (QK (QK (QK (QK (QK (QK (QK (QK (QK (QK (QK (QK (QK (QK (Kd.R_far (p := ⟨gb302,13,none⟩) (Kd.R_far (p := ⟨gb302,12,none⟩) (Kd.R_far (p := ⟨gb302,11,none⟩) (Kd.R_far (p := ⟨gb302,10,none⟩) (QN (QN HO323.out BK302.out (by decide)) BK301.out (by decide)) (fun _ hk => hk.1.2) (.slice Ao27 t321.length co27)) (fun _ hk => hk.1.2) (.int .i64 a0_11)) (fun _ hk => hk.1.2) (.int .i64 a0_12)) (fun _ hk => hk.1.2) (.int .i64 a0_13)))))))))))))))) (fun _ hk => ⟨hk.1.1.1.1.2,⟨hk.1.1.1.2,hk.1.1.2⟩⟩),by repeat (first | (with_reducible first | exact HB.out | apply QH | apply QD | apply QE | refine QJ ?_ GE300.out | refine QJ ?_ GE301.out | refine QJ ?_ GE302.out) | exact HB.out)⟩

/-! ### impl_InRange: function 44 -/
def impl_InRange.f (a0 : Int) (a1 : Int) (a2 : Int) : Option (Bool) := if a1 ≤ a0 then (some (decide (a0 ≤ a2))) else (some false)
set_option maxHeartbeats 8000000 in
set_option maxRecDepth 100000 in
theorem impl_InRange.calls (a0 : Int) (a1 : Int) (a2 : Int) (r : Bool) (w : World) (h : impl_InRange.f a0 a1 a2 = some r) :
  Calls Try.prog 44 #[.int .i64 a0,.int .i64 a1,.int .i64 a2] w fun e w' => e = .returned (.bool r) ∧ Drawn0 w w' := by
 have H : (if a1 ≤ a0 then (some (decide (a0 ≤ a2))) else (some false)) = some r := h
 clear h
 by_cases c4 : a1 ≤ a0
 ·rw [if_pos c4] at H
  have c4b0 : decide (a1 ≤ a0) = true := decide_eq_true c4
  clear c4
  obtain rfl := Option.some.inj H
  go_enter Try.func44,Try.ntmps44
  go_wp2
  go_ret
  exact ⟨by first | rfl | (simp; done) | (simp [*]; done),by repeat (first | exact Drawn0.refl _ | apply Drawn0.step)⟩
 ·rw [if_neg c4] at H
  have c4b0 : decide (a1 ≤ a0) = false := decide_eq_false c4
  clear c4
  obtain rfl := Option.some.inj H
  go_enter Try.func44,Try.ntmps44
  go_wp2
  go_ret
  exact ⟨by first | rfl | (simp; done) | (simp [*]; done),by repeat (first | exact Drawn0.refl _ | apply Drawn0.step)⟩

/-! ### impl_isTest: function 61 -/
def impl_isTest.f (a0 : Int) : Option (Bool) := (impl_InRange.f a0 100 103).bind fun t324 => (if t324 = true then (some true) else ((impl_InRange.f a0 200 212).bind fun t325 => (if t325 = true then (some true) else ((impl_InRange.f a0 300 312).bind fun t326 => (if t326 = true then (some true) else (some (a0 == 400)))))))
set_option maxHeartbeats 8000000 in
set_option maxRecDepth 100000 in
theorem impl_isTest.calls (a0 : Int) (r : Bool) (w : World) (h : impl_isTest.f a0 = some r) :
  Calls Try.prog 61 #[.int .i64 a0] w fun e w' => e = .returned (.bool r) ∧ Drawn0 w w' := by
 have H : ((impl_InRange.f a0 100 103).bind fun t324 => (if t324 = true then (some true) else ((impl_InRange.f a0 200 212).bind fun t325 => (if t325 = true then (some true) else ((impl_InRange.f a0 300 312).bind fun t326 => (if t326 = true then (some true) else (some (a0 == 400)))))))) = some r := h
 clear h
 replace H := QT.mp H
 obtain ⟨t324,A20,H⟩ := H
 have A2 := QS A20
 clear A20
 by_cases c3 : t324 = true
 ·subst c3
  rw [if_pos rfl] at H
  obtain rfl := Option.some.inj H
  go_enter Try.func61,Try.ntmps61
  go_wp2_with (first | ((with_reducible refine QP (f := 44) rfl ?_); refine goesL_ (some 4) rfl rfl Try.func44 (by kernel_rfl) rfl #[.int .i64 a0,.int .i64 100,.int .i64 103] rfl (by (try simp only [List.map_toArray,List.map_cons,List.map_nil]); first | done | rfl | (simp only [List.length_drop,List.length_take]; rfl)) ?_; (with_reducible refine (impl_InRange.calls a0 100 103 true _ A2.out).mono ?_); rintro e w' ⟨rfl,⟨nd,rfl⟩⟩; refine ⟨_,rfl,?_⟩))
  go_ret
  exact ⟨by first | rfl | (simp; done) | (simp [*]; done),by repeat (first | exact Drawn0.refl _ | apply Drawn0.step)⟩
 ·replace c3 := Bool.eq_false_iff.mpr c3
  subst c3
  rw [if_neg (show ¬ (false = true) by decide)] at H
  replace H := QT.mp H
  obtain ⟨t325,A40,H⟩ := H
  have A4 := QS A40
  clear A40
  by_cases c5 : t325 = true
  ·subst c5
   rw [if_pos rfl] at H
   obtain rfl := Option.some.inj H
   go_enter Try.func61,Try.ntmps61
   go_wp2_with (first | ((with_reducible refine QP (f := 44) rfl ?_); refine goesL_ (some 4) rfl rfl Try.func44 (by kernel_rfl) rfl #[.int .i64 a0,.int .i64 100,.int .i64 103] rfl (by (try simp only [List.map_toArray,List.map_cons,List.map_nil]); first | done | rfl | (simp only [List.length_drop,List.length_take]; rfl)) ?_; (with_reducible refine (impl_InRange.calls a0 100 103 false _ A2.out).mono ?_); rintro e w' ⟨rfl,⟨nd,rfl⟩⟩; refine ⟨_,rfl,?_⟩) | (go_at_call 44; (with_reducible refine (impl_InRange.calls a0 200 212 true _ A4.out).mono ?_); rintro e w' ⟨rfl,⟨nd,rfl⟩⟩))
   go_ret
   exact ⟨by first | rfl | (simp; done) | (simp [*]; done),by repeat (first | exact Drawn0.refl _ | apply Drawn0.step)⟩
  ·replace c5 := Bool.eq_false_iff.mpr c5
   subst c5
   rw [if_neg (show ¬ (false = true) by decide)] at H
   replace H := QT.mp H
   obtain ⟨t326,A60,H⟩ := H
   have A6 := QS A60
   clear A60
   by_cases c7 : t326 = true
   ·subst c7
    rw [if_pos rfl] at H
    obtain rfl := Option.some.inj H
    go_enter Try.func61,Try.ntmps61
    go_wp2_with (first | ((with_reducible refine QP (f := 44) rfl ?_); refine goesL_ (some 4) rfl rfl Try.func44 (by kernel_rfl) rfl #[.int .i64 a0,.int .i64 100,.int .i64 103] rfl (by (try simp only [List.map_toArray,List.map_cons,List.map_nil]); first | done | rfl | (simp only [List.length_drop,List.length_take]; rfl)) ?_; (with_reducible refine (impl_InRange.calls a0 100 103 false _ A2.out).mono ?_); rintro e w' ⟨rfl,⟨nd,rfl⟩⟩; refine ⟨_,rfl,?_⟩) | (go_at_call 44; (with_reducible refine (impl_InRange.calls a0 200 212 false _ A4.out).mono ?_); rintro e w' ⟨rfl,⟨nd,rfl⟩⟩) | (go_at_call 44; (with_reducible refine (impl_InRange.calls a0 300 312 true _ A6.out).mono ?_); rintro e w' ⟨rfl,⟨nd,rfl⟩⟩))
    go_ret
    exact ⟨by first | rfl | (simp; done) | (simp [*]; done),by repeat (first | exact Drawn0.refl _ | apply Drawn0.step)⟩
   ·replace c7 := Bool.eq_false_iff.mpr c7
    subst c7
    rw [if_neg (show ¬ (false = true) by decide)] at H
    obtain rfl := Option.some.inj H
    go_enter Try.func61,Try.ntmps61
    go_wp2_with (first | ((with_reducible refine QP (f := 44) rfl ?_); refine goesL_ (some 4) rfl rfl Try.func44 (by kernel_rfl) rfl #[.int .i64 a0,.int .i64 100,.int .i64 103] rfl (by (try simp only [List.map_toArray,List.map_cons,List.map_nil]); first | done | rfl | (simp only [List.length_drop,List.length_take]; rfl)) ?_; (with_reducible refine (impl_InRange.calls a0 100 103 false _ A2.out).mono ?_); rintro e w' ⟨rfl,⟨nd,rfl⟩⟩; refine ⟨_,rfl,?_⟩) | (go_at_call 44; (with_reducible refine (impl_InRange.calls a0 200 212 false _ A4.out).mono ?_); rintro e w' ⟨rfl,⟨nd,rfl⟩⟩) | (go_at_call 44; (with_reducible refine (impl_InRange.calls a0 300 312 false _ A6.out).mono ?_); rintro e w' ⟨rfl,⟨nd,rfl⟩⟩))
    go_ret
    exact ⟨by first | rfl | (simp; done) | (simp [*]; done),by repeat (first | exact Drawn0.refl _ | apply Drawn0.step)⟩

/-! ### impl_IsPattern: function 56 -/
mutual
def impl_IsPattern.l0 : Nat → List Int → Int → List Int → Int → Int → Option (Bool)
 | 0,_,_,_,_,_ => none
 | k + 1,x0,x3,x6,x7,x8 => if x8 < x7 then (if 0 ≤ x8 then (if x8 < (x6.length : Int) then ((impl_isTest.f (rd x6 x8)).bind fun t329 => (if t329 = true then (impl_IsPattern.l0 k x0 (wrap64 (x3 + 1)) x6 x7 (wrap64 (x8 + 1))) else (if (rd x6 x8) = (-1) then (impl_IsPattern.j1 k x0 x3 (rd x6 x8) x6 x7 x8 (decide (x3 ≥ 1))) else (impl_IsPattern.j1 k x0 x3 (rd x6 x8) x6 x7 x8 false)))) else (none)) else (none)) else ((impl_InRange.f (x0.length : Int) 1 20).bind fun t327 => (if t327 = true then (some (x3 == 1)) else (some false)))
def impl_IsPattern.j1 : Nat → List Int → Int → Int → List Int → Int → Int → Bool → Option (Bool)
 | 0,_,_,_,_,_,_,_ => none
 | k + 1,x0,x3,x5,x6,x7,x8,x17 => if x17 = true then (impl_IsPattern.l0 k x0 x3 x6 x7 (wrap64 (x8 + 1))) else (if x5 = (-2) then (if x3 ≥ 2 then (impl_IsPattern.l0 k x0 (wrap64 (x3 - 1)) x6 x7 (wrap64 (x8 + 1))) else (some false)) else (if x5 = (-3) then (if x3 ≥ 2 then (impl_IsPattern.l0 k x0 (wrap64 (x3 - 1)) x6 x7 (wrap64 (x8 + 1))) else (some false)) else (some false)))
end
def impl_IsPattern.f (k : Nat) (l0 : List Int) : Option (Bool) := impl_IsPattern.l0 k l0 0 l0 (l0.length : Int) 0
theorem impl_IsPattern.mono_l : ∀ k, (∀ y0 y1 y2 y3 y4, LeO (impl_IsPattern.l0 k y0 y1 y2 y3 y4) (impl_IsPattern.l0 (k + 1) y0 y1 y2 y3 y4)) ∧ (∀ y0 y1 y2 y3 y4 y5 y6, LeO (impl_IsPattern.j1 k y0 y1 y2 y3 y4 y5 y6) (impl_IsPattern.j1 (k + 1) y0 y1 y2 y3 y4 y5 y6))
 | 0 => ⟨fun _ _ _ _ _ r h => by simp [impl_IsPattern.l0] at h,fun _ _ _ _ _ _ _ r h => by simp [impl_IsPattern.j1] at h⟩
 | k + 1 => by
  obtain ⟨ih0,ih1⟩ := impl_IsPattern.mono_l k
  refine ⟨?_,?_⟩
  ·intro y0 y1 y2 y3 y4
   unfold impl_IsPattern.l0
   repeat' first
   | (with_reducible exact ih0 _ _ _ _ _)
   | (with_reducible exact ih1 _ _ _ _ _ _ _)
   | (with_reducible exact LeO.refl _)
   | (with_reducible exact LeO.none _)
   | (with_reducible refine LeO.ite ?_ ?_)
   | (with_reducible refine LeO.bind ?_ (fun _ => ?_))
   | exact ih0 _ _ _ _ _
   | exact ih1 _ _ _ _ _ _ _
   | exact LeO.none _
   | refine LeO.ite ?_ ?_
   | refine LeO.bind ?_ (fun _ => ?_)
  ·intro y0 y1 y2 y3 y4 y5 y6
   unfold impl_IsPattern.j1
   repeat' first
   | (with_reducible exact ih0 _ _ _ _ _)
   | (with_reducible exact ih1 _ _ _ _ _ _ _)
   | (with_reducible exact LeO.refl _)
   | (with_reducible exact LeO.none _)
   | (with_reducible refine LeO.ite ?_ ?_)
   | (with_reducible refine LeO.bind ?_ (fun _ => ?_))
   | exact ih0 _ _ _ _ _
   | exact ih1 _ _ _ _ _ _ _
   | exact LeO.none _
   | refine LeO.ite ?_ ?_
   | refine LeO.bind ?_ (fun _ => ?_)
theorem impl_IsPattern.mono : ∀ a0 k, LeO (impl_IsPattern.f k a0) (impl_IsPattern.f (k + 1) a0) := by
 intro a0 k
 obtain ⟨ih0,ih1⟩ := impl_IsPattern.mono_l k
 unfold impl_IsPattern.f
 repeat' first
   | (with_reducible exact ih0 _ _ _ _ _)
   | (with_reducible exact ih1 _ _ _ _ _ _ _)
   | (with_reducible exact LeO.refl _)
   | (with_reducible exact LeO.none _)
   | (with_reducible refine LeO.ite ?_ ?_)
   | (with_reducible refine LeO.bind ?_ (fun _ => ?_))
   | exact ih0 _ _ _ _ _
   | exact ih1 _ _ _ _ _ _ _
   | exact LeO.none _
   | refine LeO.ite ?_ ?_
   | refine LeO.bind ?_ (fun _ => ?_)
set_option maxHeartbeats 8000000 in
set_option maxRecDepth 100000 in
theorem impl_IsPattern.calls (k : Nat) (A0 : Option Addr) (c0 : Nat) (l0 : List Int) (r : Bool) (w : World) (hr0 : Kd.C (Kd.int .i64) w A0 l0.length l0) (hc0 : l0.length ≤ c0) (h : impl_IsPattern.f k l0 = some r) :
  Calls Try.prog 56 #[.slice A0 l0.length c0] w fun e w' => e = .returned (.bool r) ∧ Drawn0 w w' := by
 have HR0 := QS hr0
 have HC0 := QS hc0
 clear hr0 hc0
 have H : (impl_IsPattern.l0 k l0 0 l0 (l0.length : Int) 0) = some r := h
 clear h
 have H' := QS H
 clear H
 go_enter Try.func56,Try.ntmps56
 go_wp2
 go_loopg [3,8] k (fun kq v3 v8 w' => ∃ (x3_1 : Int) (x8_1 : Int),v3 = .int .i64 x3_1 ∧ v8 = .int .i64 x8_1 ∧ Aside0 (impl_IsPattern.l0 kq l0 x3_1 l0 (l0.length : Int) x8_1 = some r) ∧ Aside0 (kq ≤ k) ∧ Drawn0 w w')
 case atStart => exact ⟨(0),(0),(by first | rfl | (simp; done) | (simp [*]; done)),(by first | rfl | (simp; done) | (simp [*]; done)),H',⟨Nat.le_refl _⟩,by repeat (first | exact Drawn0.refl _ | apply Drawn0.step)⟩
 case round =>
  clear H'
  obtain ⟨x3_1,x8_1,rfl,rfl,HA,HK1,⟨m1,rfl⟩⟩ := hrel
  cases gk with
  | zero => exact absurd HA.out (by simp [impl_IsPattern.l0])
  | succ k1 =>
   have H := HA.out
   clear HA
   simp only [impl_IsPattern.l0] at H
   by_cases c2 : x8_1 < (l0.length : Int)
   ·rw [if_pos c2] at H
    have c2b0 : decide (x8_1 < (l0.length : Int)) = true := decide_eq_true c2
    clear c2
    by_cases c3 : 0 ≤ x8_1
    ·rw [if_pos c3] at H
     have c3b0 : decide (0 ≤ x8_1) = true := decide_eq_true c3
     clear c3
     by_cases c4 : x8_1 < (l0.length : Int)
     ·rw [if_pos c4] at H
      have c4b0 : decide (x8_1 < (l0.length : Int)) = true := decide_eq_true c4
      clear c4
      replace H := QT.mp H
      obtain ⟨t329,A50,H⟩ := H
      have A5 := QS A50
      clear A50
      by_cases c6 : t329 = true
      ·subst c6
       rw [if_pos rfl] at H
       have H' := QS H
       clear H
       have p328 : 0 ≤ (x8_1 : Int) := of_decide_eq_true (by first | (with_reducible assumption) | assumption)
       have q328 : x8_1 < (l0.length : Int) := of_decide_eq_true (by first | (with_reducible assumption) | assumption)
       obtain ⟨ad328,e328,hx328_0⟩ := Kd.at_int HR0.out x8_1 p328 q328
       cases e328
       replace p328 := eq_true p328
       replace q328 := eq_true q328
       go_wp2_with (first | ((with_reducible refine QP (f := 61) rfl ?_); refine goesL_ (some 14) rfl rfl Try.func61 (by kernel_rfl) rfl #[.int .i64 (rd l0 x8_1)] rfl (by (try simp only [List.map_toArray,List.map_cons,List.map_nil]); first | done | rfl | (simp only [List.length_drop,List.length_take]; rfl)) ?_; (with_reducible refine (impl_isTest.calls (rd l0 x8_1) true _ A5.out).mono ?_); rintro e w' ⟨rfl,⟨nd,rfl⟩⟩; refine ⟨_,rfl,?_⟩))
       go_roundg k1
       case measure => have := HK1.out; omega
       case rel => exact ⟨(wrap64 (x3_1 + 1)),(wrap64 (x8_1 + 1)),(by first | rfl | (simp; done) | (simp [*]; done)),(by first | rfl | (simp; done) | (simp [*]; done)),H',⟨by have := HK1.out; omega⟩,by repeat (first | exact Drawn0.refl _ | apply Drawn0.step)⟩
      ·replace c6 := Bool.eq_false_iff.mpr c6
       subst c6
       rw [if_neg (show ¬ (false = true) by decide)] at H
       have HC7 := QS H
       clear H
       have p328 : 0 ≤ (x8_1 : Int) := of_decide_eq_true (by first | (with_reducible assumption) | assumption)
       have q328 : x8_1 < (l0.length : Int) := of_decide_eq_true (by first | (with_reducible assumption) | assumption)
       obtain ⟨ad328,e328,hx328_0⟩ := Kd.at_int HR0.out x8_1 p328 q328
       cases e328
       replace p328 := eq_true p328
       replace q328 := eq_true q328
       go_upto_region 8 with (first | ((with_reducible refine QP (f := 61) rfl ?_); refine goesL_ (some 14) rfl rfl Try.func61 (by kernel_rfl) rfl #[.int .i64 (rd l0 x8_1)] rfl (by (try simp only [List.map_toArray,List.map_cons,List.map_nil]); first | done | rfl | (simp only [List.length_drop,List.length_take]; rfl)) ?_; (with_reducible refine (impl_isTest.calls (rd l0 x8_1) false _ A5.out).mono ?_); rintro e w' ⟨rfl,⟨nd,rfl⟩⟩; refine ⟨_,rfl,?_⟩))
       (try simp only [Act.put,List.setIfInBounds_toArray,List.set_cons_zero,List.set_cons_succ])
       go_cut [17] (fun v17 wc => ∃ (kq : Nat) (x17_6 : Bool),v17 = .bool x17_6 ∧ Aside0 (impl_IsPattern.j1 kq l0 x3_1 (rd l0 x8_1) l0 (l0.length : Int) x8_1 x17_6 = some r) ∧ Aside0 (kq ≤ k1) ∧ Drawn0 w wc)
       case first =>
        have H := HC7.out
        clear HC7
        by_cases c8 : (rd l0 x8_1) = (-1)
        ·rw [if_pos c8] at H
         have c8b0 : ((rd l0 x8_1) == (-1)) = true := beq_iff_eq.mpr c8
         have c8b1 : ((rd l0 x8_1) != (-1)) = false := bne_eq_false_iff_eq.mpr c8
         clear c8
         (first | rw [c8b0] | (simp only [i64_w,i32_w]; rw [c8b0]) | skip)
         have H' := QS H
         clear H
         go_wp2
         go_meet
         case rel => exact ⟨_,(decide (x3_1 ≥ 1)),(by first | rfl | (simp; done) | (simp [*]; done)),H',⟨by have := HK1.out; first | omega | exact Nat.le_refl _⟩,by repeat (first | exact Drawn0.refl _ | apply Drawn0.step)⟩
        ·rw [if_neg c8] at H
         have c8b0 : ((rd l0 x8_1) == (-1)) = false := beq_eq_false_iff_ne.mpr c8
         have c8b1 : ((rd l0 x8_1) != (-1)) = true := bne_iff_ne.mpr c8
         (first | rw [c8b0] | (simp only [i64_w,i32_w]; rw [c8b0]) | skip)
         have H' := QS H
         clear H
         go_wp2
         go_meet
         case rel => exact ⟨_,(false),(by first | rfl | (simp; done) | (simp [*]; done)),H',⟨by have := HK1.out; first | omega | exact Nat.le_refl _⟩,by repeat (first | exact Drawn0.refl _ | apply Drawn0.step)⟩
       case rest =>
        clear HC7
        try clear c2
        try clear c2b0
        try clear p2
        try clear c3
        try clear c3b0
        try clear p3
        try clear q3
        try clear hx3
        try clear c4
        try clear c4b0
        try clear c5
        try clear c6
        try clear p6
        try clear c8
        try clear c8b0
        try clear c8b1
        try clear hx328_0
        try clear p328
        try clear q328
        obtain ⟨kq,x17_6,rfl,HA,HJ6,⟨mc6,rfl⟩⟩ := hcut
        cases kq with
        | zero => exact absurd HA.out (by simp [impl_IsPattern.j1])
        | succ kj6 =>
         have H := HA.out
         clear HA
         simp only [impl_IsPattern.j1] at H
         by_cases c9 : x17_6 = true
         ·subst c9
          rw [if_pos rfl] at H
          have H' := QS H
          clear H
          go_wp2
          go_roundg kj6
          case measure => have := HK1.out; have := HJ6.out; omega
          case rel => exact ⟨(x3_1),(wrap64 (x8_1 + 1)),(by first | rfl | (simp; done) | (simp [*]; done)),(by first | rfl | (simp; done) | (simp [*]; done)),H',⟨by have := HK1.out; have := HJ6.out; omega⟩,by repeat (first | exact Drawn0.refl _ | apply Drawn0.step)⟩
         ·replace c9 := Bool.eq_false_iff.mpr c9
          subst c9
          rw [if_neg (show ¬ (false = true) by decide)] at H
          by_cases c10 : (rd l0 x8_1) = (-2)
          ·rw [if_pos c10] at H
           have c10b0 : ((rd l0 x8_1) == (-2)) = true := beq_iff_eq.mpr c10
           have c10b1 : ((rd l0 x8_1) != (-2)) = false := bne_eq_false_iff_eq.mpr c10
           clear c10
           by_cases c11 : x3_1 ≥ 2
           ·rw [if_pos c11] at H
            have c11b0 : decide (2 ≤ x3_1) = true := decide_eq_true c11
            clear c11
            have H' := QS H
            clear H
            go_wp2
            go_roundg kj6
            case measure => have := HK1.out; have := HJ6.out; omega
            case rel => exact ⟨(wrap64 (x3_1 - 1)),(wrap64 (x8_1 + 1)),(by first | rfl | (simp; done) | (simp [*]; done)),(by first | rfl | (simp; done) | (simp [*]; done)),H',⟨by have := HK1.out; have := HJ6.out; omega⟩,by repeat (first | exact Drawn0.refl _ | apply Drawn0.step)⟩
           ·rw [if_neg c11] at H
            have c11b0 : decide (2 ≤ x3_1) = false := decide_eq_false c11
            clear c11
            obtain rfl := Option.some.inj H
            go_wp2
            go_ret
            exact ⟨by first | rfl | (simp; done) | (simp [*]; done),by repeat (first | exact Drawn0.refl _ | apply Drawn0.step)⟩
          ·rw [if_neg c10] at H
           have c10b0 : ((rd l0 x8_1) == (-2)) = false := beq_eq_false_iff_ne.mpr c10
           have c10b1 : ((rd l0 x8_1) != (-2)) = true := bne_iff_ne.mpr c10
           by_cases c12 : (rd l0 x8_1) = (-3)
           ·rw [if_pos c12] at H
            have c12b0 : ((rd l0 x8_1) == (-3)) = true := beq_iff_eq.mpr c12
            have c12b1 : ((rd l0 x8_1) != (-3)) = false := bne_eq_false_iff_eq.mpr c12
            clear c12
            by_cases c11 : x3_1 ≥ 2
            ·rw [if_pos c11] at H
             have c11b0 : decide (2 ≤ x3_1) = true := decide_eq_true c11
             clear c11
             have H' := QS H
             clear H
             go_wp2
             go_roundg kj6
             case measure => have := HK1.out; have := HJ6.out; omega
             case rel => exact ⟨(wrap64 (x3_1 - 1)),(wrap64 (x8_1 + 1)),(by first | rfl | (simp; done) | (simp [*]; done)),(by first | rfl | (simp; done) | (simp [*]; done)),H',⟨by have := HK1.out; have := HJ6.out; omega⟩,by repeat (first | exact Drawn0.refl _ | apply Drawn0.step)⟩
            ·rw [if_neg c11] at H
             have c11b0 : decide (2 ≤ x3_1) = false := decide_eq_false c11
             clear c11
             obtain rfl := Option.some.inj H
             go_wp2
             go_ret
             exact ⟨by first | rfl | (simp; done) | (simp [*]; done),by repeat (first | exact Drawn0.refl _ | apply Drawn0.step)⟩
           ·rw [if_neg c12] at H
            have c12b0 : ((rd l0 x8_1) == (-3)) = false := beq_eq_false_iff_ne.mpr c12
            have c12b1 : ((rd l0 x8_1) != (-3)) = true := bne_iff_ne.mpr c12
            obtain rfl := Option.some.inj H
            go_wp2
            go_ret
            exact ⟨by first | rfl | (simp; done) | (simp [*]; done),by repeat (first | exact Drawn0.refl _ | apply Drawn0.step)⟩
     ·rw [if_neg c4] at H
      exact absurd H (by simp)
    ·rw [if_neg c3] at H
     exact absurd H (by simp)
   ·rw [if_neg c2] at H
    have c2b0 : decide (x8_1 < (l0.length : Int)) = false := decide_eq_false c2
    clear c2
    replace H := QT.mp H
    obtain ⟨t327,A140,H⟩ := H
    have A14 := QS A140
    clear A140
    by_cases c15 : t327 = true
    ·subst c15
     rw [if_pos rfl] at H
     obtain rfl := Option.some.inj H
     go_wp2_with (first | ((with_reducible refine QP (f := 44) rfl ?_); refine goesL_ (some 40) rfl rfl Try.func44 (by kernel_rfl) rfl #[.int .i64 (l0.length : Int),.int .i64 1,.int .i64 20] rfl (by (try simp only [List.map_toArray,List.map_cons,List.map_nil]); first | done | rfl | (simp only [List.length_drop,List.length_take]; rfl)) ?_; (with_reducible refine (impl_InRange.calls (l0.length : Int) 1 20 true _ A14.out).mono ?_); rintro e w' ⟨rfl,⟨nd,rfl⟩⟩; refine ⟨_,rfl,?_⟩))
     go_ret
     exact ⟨by first | rfl | (simp; done) | (simp [*]; done),by repeat (first | exact Drawn0.refl _ | apply Drawn0.step)⟩
    ·replace c15 := Bool.eq_false_iff.mpr c15
     subst c15
     rw [if_neg (show ¬ (false = true) by decide)] at H
     obtain rfl := Option.some.inj H
     go_wp2_with (first | ((with_reducible refine QP (f := 44) rfl ?_); refine goesL_ (some 40) rfl rfl Try.func44 (by kernel_rfl) rfl #[.int .i64 (l0.length : Int),.int .i64 1,.int .i64 20] rfl (by (try simp only [List.map_toArray,List.map_cons,List.map_nil]); first | done | rfl | (simp only [List.length_drop,List.length_take]; rfl)) ?_; (with_reducible refine (impl_InRange.calls (l0.length : Int) 1 20 false _ A14.out).mono ?_); rintro e w' ⟨rfl,⟨nd,rfl⟩⟩; refine ⟨_,rfl,?_⟩))
     go_ret
     exact ⟨by first | rfl | (simp; done) | (simp [*]; done),by repeat (first | exact Drawn0.refl _ | apply Drawn0.step)⟩

/-! ### impl_isMaybe: function 52 -/
def impl_isMaybe.f (k : Nat) (l0 : List Int) : Option (Bool) := if (l0.length : Int) = 0 then (some true) else ((impl_IsPattern.f k l0).bind fun t330 => (some t330))
theorem impl_isMaybe.mono : ∀ a0 k, LeO (impl_isMaybe.f k a0) (impl_isMaybe.f (k + 1) a0) := by
 intro a0 k
 unfold impl_isMaybe.f
 repeat' first
   | (with_reducible exact impl_IsPattern.mono _ _)
   | (with_reducible exact LeO.refl _)
   | (with_reducible exact LeO.none _)
   | (with_reducible refine LeO.ite ?_ ?_)
   | (with_reducible refine LeO.bind ?_ (fun _ => ?_))
   | exact impl_IsPattern.mono _ _
   | exact LeO.none _
   | refine LeO.ite ?_ ?_
   | refine LeO.bind ?_ (fun _ => ?_)
set_option maxHeartbeats 8000000 in
set_option maxRecDepth 100000 in
theorem impl_isMaybe.calls (k : Nat) (A0 : Option Addr) (c0 : Nat) (l0 : List Int) (r : Bool) (w : World) (hr0 : Kd.C (Kd.int .i64) w A0 l0.length l0) (hc0 : l0.length ≤ c0) (h : impl_isMaybe.f k l0 = some r) :
  Calls Try.prog 52 #[.slice A0 l0.length c0] w fun e w' => e = .returned (.bool r) ∧ Drawn0 w w' := by
 have HR0 := QS hr0
 have HC0 := QS hc0
 clear hr0 hc0
 have H : (if (l0.length : Int) = 0 then (some true) else ((impl_IsPattern.f k l0).bind fun t330 => (some t330))) = some r := h
 clear h
 by_cases c2 : (l0.length : Int) = 0
 ·rw [if_pos c2] at H
  have c2b0 : ((l0.length : Int) == 0) = true := beq_iff_eq.mpr c2
  have c2b1 : ((l0.length : Int) != 0) = false := bne_eq_false_iff_eq.mpr c2
  clear c2
  obtain rfl := Option.some.inj H
  go_enter Try.func52,Try.ntmps52
  go_wp2
  go_ret
  exact ⟨by first | rfl | (simp; done) | (simp [*]; done),by repeat (first | exact Drawn0.refl _ | apply Drawn0.step)⟩
 ·rw [if_neg c2] at H
  have c2b0 : ((l0.length : Int) == 0) = false := beq_eq_false_iff_ne.mpr c2
  have c2b1 : ((l0.length : Int) != 0) = true := bne_iff_ne.mpr c2
  have c2b2 : ¬ (l0 = []) := fun h_ => c2 (by rw [h_]; rfl)
  replace H := QT.mp H
  obtain ⟨t330,A30,H⟩ := H
  have A3 := QS A30
  clear A30
  obtain rfl := Option.some.inj H
  go_enter Try.func52,Try.ntmps52
  go_wp2_with (first | (go_at_call 56; (with_reducible refine (impl_IsPattern.calls k _ _ l0 t330 _ ?side1 ?side2 A3.out).mono ?_); (case side1 => repeat (first | exact HR0.out | (with_reducible refine Kd.C_alloc ?_ _) | (with_reducible refine Kd.C_drewN ?_ _) | (with_reducible refine Kd.C_drew ?_))); (case side2 => exact HC0.out); rintro e w' ⟨rfl,⟨nd,rfl⟩⟩))
  go_ret
  exact ⟨by first | rfl | (simp; done) | (simp [*]; done),by repeat (first | exact Drawn0.refl _ | apply Drawn0.step)⟩

/-! ### impl_IsRules: function 41 -/
def impl_IsRules.f (k : Nat) (a0_0 : Int) (a0_1 : Int) (a0_2 : Bool) (a0_3 : Bool) (l0_4 : List Int) (l0_5 : List Int) (a0_6 : Int) (a0_7 : Int) : Option (Bool) := (impl_InRange.f a0_0 2 6).bind fun t332 => (if t332 = true then ((impl_InRange.f a0_1 1 8).bind fun t333 => (if t333 = true then (if a0_2 = true then ((impl_isMaybe.f k l0_4).bind fun t334 => (if t334 = true then ((impl_isMaybe.f k l0_5).bind fun t335 => (if t335 = true then ((impl_InRange.f a0_6 1 4).bind fun t336 => (if t336 = true then ((impl_InRange.f a0_7 1 400).bind fun t337 => (some t337)) else (some false))) else (some false))) else (some false))) else (if a0_3 = true then ((impl_isMaybe.f k l0_4).bind fun t338 => (if t338 = true then ((impl_isMaybe.f k l0_5).bind fun t339 => (if t339 = true then ((impl_InRange.f a0_6 1 4).bind fun t340 => (if t340 = true then ((impl_InRange.f a0_7 1 400).bind fun t341 => (some t341)) else (some false))) else (some false))) else (some false))) else (some false))) else (some false))) else (some false))
theorem impl_IsRules.mono : ∀ a0 a1 a2 a3 a4 a5 a6 a7 k, LeO (impl_IsRules.f k a0 a1 a2 a3 a4 a5 a6 a7) (impl_IsRules.f (k + 1) a0 a1 a2 a3 a4 a5 a6 a7) := by
 intro a0 a1 a2 a3 a4 a5 a6 a7 k
 unfold impl_IsRules.f
 repeat' first
   | (with_reducible exact impl_isMaybe.mono _ _)
   | (with_reducible exact LeO.refl _)
   | (with_reducible exact LeO.none _)
   | (with_reducible refine LeO.ite ?_ ?_)
   | (with_reducible refine LeO.bind ?_ (fun _ => ?_))
   | exact impl_isMaybe.mono _ _
   | exact LeO.none _
   | refine LeO.ite ?_ ?_
   | refine LeO.bind ?_ (fun _ => ?_)
set_option maxHeartbeats 8000000 in
set_option maxRecDepth 100000 in
theorem impl_IsRules.calls (k : Nat) (a0_0 : Int) (a0_1 : Int) (a0_2 : Bool) (a0_3 : Bool) (A0_4 : Option Addr) (c0_4 : Nat) (l0_4 : List Int) (A0_5 : Option Addr) (c0_5 : Nat) (l0_5 : List Int) (a0_6 : Int) (a0_7 : Int) (r : Bool) (w : World) (hr0_4 : Kd.C (Kd.int .i64) w A0_4 l0_4.length l0_4) (hc0_4 : l0_4.length ≤ c0_4) (hr0_5 : Kd.C (Kd.int .i64) w A0_5 l0_5.length l0_5) (hc0_5 : l0_5.length ≤ c0_5) (h : impl_IsRules.f k a0_0 a0_1 a0_2 a0_3 l0_4 l0_5 a0_6 a0_7 = some r) :
  Calls Try.prog 41 #[.agg #[.int .i64 a0_0,.int .i64 a0_1,.bool a0_2,.bool a0_3,.slice A0_4 l0_4.length c0_4,.slice A0_5 l0_5.length c0_5,.int .i64 a0_6,.int .i64 a0_7]] w fun e w' => e = .returned (.bool r) ∧ Below w.heap.size w w' := by
 have hu30 := Try.underlying30
 have HR0_4 := QS hr0_4
 have HC0_4 := QS hc0_4
 clear hr0_4 hc0_4
 have HR0_5 := QS hr0_5
 have HC0_5 := QS hc0_5
 clear hr0_5 hc0_5
 have HB := QS (Below.refl w.heap.size w)
 have H : ((impl_InRange.f a0_0 2 6).bind fun t332 => (if t332 = true then ((impl_InRange.f a0_1 1 8).bind fun t333 => (if t333 = true then (if a0_2 = true then ((impl_isMaybe.f k l0_4).bind fun t334 => (if t334 = true then ((impl_isMaybe.f k l0_5).bind fun t335 => (if t335 = true then ((impl_InRange.f a0_6 1 4).bind fun t336 => (if t336 = true then ((impl_InRange.f a0_7 1 400).bind fun t337 => (some t337)) else (some false))) else (some false))) else (some false))) else (if a0_3 = true then ((impl_isMaybe.f k l0_4).bind fun t338 => (if t338 = true then ((impl_isMaybe.f k l0_5).bind fun t339 => (if t339 = true then ((impl_InRange.f a0_6 1 4).bind fun t340 => (if t340 = true then ((impl_InRange.f a0_7 1 400).bind fun t341 => (some t341)) else (some false))) else (some false))) else (some false))) else (some false))) else (some false))) else (some false))) = some r := h
 clear h
 replace H := QT.mp H
 obtain ⟨t332,A20,H⟩ := H
 have A2 := QS A20
 clear A20
 by_cases c3 : t332 = true
 rotate_left
 replace c3 := Bool.eq_false_iff.mpr c3
 subst c3
 rw [if_neg (show ¬ (false = true) by decide)] at H
 obtain rfl := Option.some.inj H
 rotate_right
 subst c3
 rw [if_pos rfl] at H
 replace H := QT.mp H
 obtain ⟨t333,A40,H⟩ := H
 have A4 := QS A40
 clear A40
 by_cases c5 : t333 = true
 rotate_left
 replace c5 := Bool.eq_false_iff.mpr c5
 subst c5
 rw [if_neg (show ¬ (false = true) by decide)] at H
 obtain rfl := Option.some.inj H
 rotate_right
 subst c5
 rw [if_pos rfl] at H
 by_cases c6 : a0_2 = true
 rotate_left
 replace c6 := Bool.eq_false_iff.mpr c6
 subst c6
 rw [if_neg (show ¬ (false = true) by decide)] at H
 by_cases c22 : a0_3 = true
 rotate_left
 replace c22 := Bool.eq_false_iff.mpr c22
 subst c22
 rw [if_neg (show ¬ (false = true) by decide)] at H
 obtain rfl := Option.some.inj H
 rotate_right
 subst c22
 rw [if_pos rfl] at H
 replace H := QT.mp H
 obtain ⟨t334,A70,H⟩ := H
 have A7 := QS A70
 clear A70
 try (obtain rfl := Option.some.inj (A7.out.symm.trans A7.out))
 by_cases c8 : t334 = true
 rotate_left
 replace c8 := Bool.eq_false_iff.mpr c8
 subst c8
 rw [if_neg (show ¬ (false = true) by decide)] at H
 obtain rfl := Option.some.inj H
 rotate_right
 subst c8
 rw [if_pos rfl] at H
 replace H := QT.mp H
 obtain ⟨t335,A90,H⟩ := H
 have A9 := QS A90
 clear A90
 try (obtain rfl := Option.some.inj (A9.out.symm.trans A9.out))
 by_cases c10 : t335 = true
 rotate_left
 replace c10 := Bool.eq_false_iff.mpr c10
 subst c10
 rw [if_neg (show ¬ (false = true) by decide)] at H
 obtain rfl := Option.some.inj H
 rotate_right
 subst c10
 rw [if_pos rfl] at H
 replace H := QT.mp H
 obtain ⟨t336,A110,H⟩ := H
 have A11 := QS A110
 clear A110
 try (obtain rfl := Option.some.inj (A11.out.symm.trans A11.out))
 by_cases c12 : t336 = true
 rotate_left
 replace c12 := Bool.eq_false_iff.mpr c12
 subst c12
 rw [if_neg (show ¬ (false = true) by decide)] at H
 obtain rfl := Option.some.inj H
 rotate_right
 subst c12
 rw [if_pos rfl] at H
 replace H := QT.mp H
 obtain ⟨t337,A130,H⟩ := H
 have A13 := QS A130
 clear A130
 try (obtain rfl := Option.some.inj (A13.out.symm.trans A13.out))
 obtain rfl := Option.some.inj H
 rotate_right
 subst c6
 rw [if_pos rfl] at H
 replace H := QT.mp H
 obtain ⟨t334,A70,H⟩ := H
 have A7 := QS A70
 clear A70
 by_cases c8 : t334 = true
 rotate_left
 replace c8 := Bool.eq_false_iff.mpr c8
 subst c8
 rw [if_neg (show ¬ (false = true) by decide)] at H
 obtain rfl := Option.some.inj H
 rotate_right
 subst c8
 rw [if_pos rfl] at H
 replace H := QT.mp H
 obtain ⟨t335,A90,H⟩ := H
 have A9 := QS A90
 clear A90
 by_cases c10 : t335 = true
 rotate_left
 replace c10 := Bool.eq_false_iff.mpr c10
 subst c10
 rw [if_neg (show ¬ (false = true) by decide)] at H
 obtain rfl := Option.some.inj H
 rotate_right
 subst c10
 rw [if_pos rfl] at H
 replace H := QT.mp H
 obtain ⟨t336,A110,H⟩ := H
 have A11 := QS A110
 clear A110
 by_cases c12 : t336 = true
 rotate_left
 replace c12 := Bool.eq_false_iff.mpr c12
 subst c12
 rw [if_neg (show ¬ (false = true) by decide)] at H
 obtain rfl := Option.some.inj H
 rotate_right
 subst c12
 rw [if_pos rfl] at H
 replace H := QT.mp H
 obtain ⟨t337,A130,H⟩ := H
 have A13 := QS A130
 clear A130
 obtain rfl := Option.some.inj H
 all_goals
  go_enter Try.func41,Try.ntmps41
  go_wp2_with (first | ((with_reducible refine gate_dst (N := 1) rfl ?_); refine box_event ?hg (N := 1) ?hd (cs := #[.int .i64 a0_0,.int .i64 a0_1,.bool _,.bool _,.slice A0_4 l0_4.length c0_4,.slice A0_5 l0_5.length c0_5,.int .i64 a0_6,.int .i64 a0_7]) (t := 30) ?hr ?_; (case hd => rfl); (case hg => rfl); (case hr => first | (go_simp; done) | (go_simp; rfl)); intro gb331 hg w30 hbox hb; have n0_ := QS (below_step (by repeat (first | (with_reducible first | exact HB.out | apply QH | apply QD | apply QE) | exact HB.out)) hb); have n1_ := QS (hbox); have n2_ := QS ((by rw [hg]; exact (QR (by repeat (first | (with_reducible first | exact HB.out | apply QH | apply QD | apply QE) | exact HB.out))) : w.heap.size ≤ gb331)); have n3_ := QS ((by rw [hg]; exact (QR (by repeat (first | (with_reducible first | exact HB.out | apply QH | apply QD | apply QE) | exact HB.out))) : w.heap.size ≤ gb331)); clear HB; revert n0_ n1_ n2_ n3_; intro HB BK331 GW331 GE331; clear hb hbox hg; have hcz31_0 : w30.cell? ⟨gb331,0,none⟩ = some (.int .i64 a0_0) := (QC BK331.out 0).trans rfl; have hcz31_1 : w30.cell? ⟨gb331,1,none⟩ = some (.int .i64 a0_1) := (QC BK331.out 1).trans rfl; have hcz31_2 : w30.cell? ⟨gb331,2,none⟩ = some (.bool _) := (QC BK331.out 2).trans rfl; have hcz31_3 : w30.cell? ⟨gb331,3,none⟩ = some (.bool _) := (QC BK331.out 3).trans rfl; have hcz31_4 : w30.cell? ⟨gb331,4,none⟩ = some (.slice A0_4 l0_4.length c0_4) := (QC BK331.out 4).trans rfl; have hcz31_5 : w30.cell? ⟨gb331,5,none⟩ = some (.slice A0_5 l0_5.length c0_5) := (QC BK331.out 5).trans rfl; have hcz31_6 : w30.cell? ⟨gb331,6,none⟩ = some (.int .i64 a0_6) := (QC BK331.out 6).trans rfl; have hcz31_7 : w30.cell? ⟨gb331,7,none⟩ = some (.int .i64 a0_7) := (QC BK331.out 7).trans rfl; have hfz31_0 := QB BK331.out 0; have hfz31_1 := QB BK331.out 1; have hfz31_2 := QB BK331.out 2; have hfz31_3 := QB BK331.out 3; have hfz31_4 := QB BK331.out 4; have hfz31_5 := QB BK331.out 5; have hfz31_6 := QB BK331.out 6; have hfz31_7 := QB BK331.out 7) | ((with_reducible refine QP (f := 44) rfl ?_); refine goesL_ (some 5) rfl rfl Try.func44 (by kernel_rfl) rfl #[.int .i64 a0_0,.int .i64 2,.int .i64 6] rfl (by (try simp only [List.map_toArray,List.map_cons,List.map_nil]); first | done | rfl | (simp only [List.length_drop,List.length_take]; rfl)) ?_; (with_reducible refine (impl_InRange.calls a0_0 2 6 _ _ A2.out).mono ?_); rintro e w' ⟨rfl,⟨nd,rfl⟩⟩; refine ⟨_,rfl,?_⟩) | (go_at_call 44; (with_reducible refine (impl_InRange.calls a0_1 1 8 _ _ A4.out).mono ?_); rintro e w' ⟨rfl,⟨nd,rfl⟩⟩) | (go_at_call 52; (with_reducible refine (impl_isMaybe.calls k _ _ l0_4 _ _ ?side1 ?side2 A7.out).mono ?_); (case side1 => repeat (first | exact (Kd.C_below HR0_4.out (by repeat (first | (with_reducible first | exact HB.out | apply QH | apply QD | apply QE | refine QJ ?_ GE331.out) | exact HB.out))) | (with_reducible refine Kd.C_alloc ?_ _) | (with_reducible refine Kd.C_drewN ?_ _) | (with_reducible refine Kd.C_drew ?_))); (case side2 => exact HC0_4.out); rintro e w' ⟨rfl,⟨nd,rfl⟩⟩) | (go_at_call 52; (with_reducible refine (impl_isMaybe.calls k _ _ l0_5 _ _ ?side1 ?side2 A9.out).mono ?_); (case side1 => repeat (first | exact (Kd.C_below HR0_5.out (by repeat (first | (with_reducible first | exact HB.out | apply QH | apply QD | apply QE | refine QJ ?_ GE331.out) | exact HB.out))) | (with_reducible refine Kd.C_alloc ?_ _) | (with_reducible refine Kd.C_drewN ?_ _) | (with_reducible refine Kd.C_drew ?_))); (case side2 => exact HC0_5.out); rintro e w' ⟨rfl,⟨nd,rfl⟩⟩) | (go_at_call 44; (with_reducible refine (impl_InRange.calls a0_6 1 4 _ _ A11.out).mono ?_); rintro e w' ⟨rfl,⟨nd,rfl⟩⟩) | (go_at_call 44; (with_reducible refine (impl_InRange.calls a0_7 1 400 t337 _ A13.out).mono ?_); rintro e w' ⟨rfl,⟨nd,rfl⟩⟩))
  go_ret
  exact ⟨by first | rfl | (simp [errW_none,errW_some] <;> rfl) | (simp [*,errW_none,errW_some] <;> rfl),by repeat (first | (with_reducible first | exact HB.out | apply QH | apply QD | apply QE | refine QJ ?_ GE331.out) | exact HB.out)⟩

/-! ### impl_IsCard: function 34 -/
def impl_IsCard.f (a0 : Int) : Option (Bool) := (impl_InRange.f a0 0 51).bind fun t342 => (some t342)
set_option maxHeartbeats 8000000 in
set_option maxRecDepth 100000 in
theorem impl_IsCard.calls (a0 : Int) (r : Bool) (w : World) (h : impl_IsCard.f a0 = some r) :
  Calls Try.prog 34 #[.int .i64 a0] w fun e w' => e = .returned (.bool r) ∧ Drawn0 w w' := by
 have H : ((impl_InRange.f a0 0 51).bind fun t342 => (some t342)) = some r := h
 clear h
 replace H := QT.mp H
 obtain ⟨t342,A20,H⟩ := H
 have A2 := QS A20
 clear A20
 obtain rfl := Option.some.inj H
 go_enter Try.func34,Try.ntmps34
 go_wp2_with (first | ((with_reducible refine QP (f := 44) rfl ?_); refine goesL_ (some 4) rfl rfl Try.func44 (by kernel_rfl) rfl #[.int .i64 a0,.int .i64 0,.int .i64 51] rfl (by (try simp only [List.map_toArray,List.map_cons,List.map_nil]); first | done | rfl | (simp only [List.length_drop,List.length_take]; rfl)) ?_; (with_reducible refine (impl_InRange.calls a0 0 51 t342 _ A2.out).mono ?_); rintro e w' ⟨rfl,⟨nd,rfl⟩⟩; refine ⟨_,rfl,?_⟩))
 go_ret
 exact ⟨by first | rfl | (simp; done) | (simp [*]; done),by repeat (first | exact Drawn0.refl _ | apply Drawn0.step)⟩

/-! ### impl_IsHand: function 60 -/
def impl_IsHand.handF : List Bool → List Int → Bool
 | _, [] => true
 | seen, c :: r => if 0 ≤ c ∧ c ≤ 51 then (if seen.getD c.toNat false = true then false else impl_IsHand.handF (seen.set c.toNat true) r) else false
def impl_IsHand.f (l0 : List Int) : Option (Bool) := some (impl_IsHand.handF (List.replicate 52 false) l0)
theorem impl_IsHand.hand_cell {w : World} {g T : Nat} {seen : List Bool} (h : w.heap[g]? = some (.cells (bools seen).toArray T (0, 0))) (c : Int) (h0 : 0 ≤ c) (h1 : c < (seen.length : Int)) : w.cell? ⟨g, c.toNat, none⟩ = some (.bool (seen.getD c.toNat false)) := by
 have hl : c.toNat < seen.length := by omega
 rw [cell_of_row w g c.toNat _ T (0, 0) h]
 simp [bools, List.getElem?_eq_getElem hl, List.getD_eq_getElem?_getD]
theorem impl_IsHand.hand_set {w : World} {g T : Nat} {seen : List Bool} (h : w.heap[g]? = some (.cells (bools seen).toArray T (0, 0))) (c : Nat) : (w.setCell ⟨g, c, none⟩ (.bool true)).heap[g]? = some (.cells (bools (seen.set c true)).toArray T (0, 0)) := by
 simp [World.setCell, Array.getElem?_modify, h, bools, List.map_set]
theorem impl_IsHand.hand_frozen {w : World} {g T : Nat} {cs : Array Value} (h : w.heap[g]? = some (.cells cs T (0, 0))) (i : Nat) : w.frozen? ⟨g, i, none⟩ = false := by simp [World.frozen?, h]
set_option maxHeartbeats 2000000 in
set_option maxRecDepth 100000 in
theorem impl_IsHand.hand_any {P : Program} (F : P.funcs[60]? = some Try.f60) (t3 : P.underlying 3 = some (.int .i64)) (a3 : ∀ w, (isAgg 3).run P w = .ok false w) (z3 : ∀ w, (Go.sizeOf 3).run P w = .ok 1 w)
  (t4 : P.underlying 4 = some .bool) (a4 : ∀ w, (isAgg 4).run P w = .ok false w) (z4 : ∀ w, (Go.sizeOf 4).run P w = .ok 1 w)
  (t22 : P.underlying 22 = some (.slice 3)) (t68 : P.underlying 60 = some (.array 52 4))
  (Z : Array Value) (HZ : Aside0 (Z = (bools (List.replicate 52 false)).toArray)) (v68 : ∀ w, (zeroValue 60).run P w = .ok (.agg Z) w) (i68 : (P.info? 60).map (·.size) = some 52) (Z52 : Z.size = 52) (Z1 : Z.all (·.oneCell') = true)
  (E : ∀ args w, (callFunc 34 args).run P w = .ok (.enter 34 args) w)
  (Cy : ∀ (a : Int) (w : World), 0 ≤ a ∧ a ≤ 51 → Calls P 34 #[.int .i64 a] w fun e w' => e = .returned (.bool true) ∧ Drawn0 w w')
  (Cn : ∀ (a : Int) (w : World), ¬ (0 ≤ a ∧ a ≤ 51) → Calls P 34 #[.int .i64 a] w fun e w' => e = .returned (.bool false) ∧ Drawn0 w w')
  (A0 : Option Addr) (c0 : Nat) (l0 : List Int) (w : World) (hr0 : Kd.C (Kd.int .i64) w A0 l0.length l0) :
  Calls P 60 #[.slice A0 l0.length c0] w fun e w' => e = .returned (.bool (impl_IsHand.handF (List.replicate 52 false) l0)) ∧ Below w.heap.size w w' := by
 have HR0 := QS hr0
 have HL := QS hr0.2.1
 clear hr0
 have hst := run_storeCells_new (P := P) w 60 Z Z (by rw [i68, Z52]) rfl Z1
 have z68 : ∀ w, (Go.sizeOf 60).run P w = .ok 52 w := by
  intro w
  cases h : P.info? 60 with
  | none => simp [h] at i68
  | some i => simp [h] at i68; simp [Go.sizeOf, typeInfo, h, i68]
 have u68 : ∀ w, (underlying 60).run P w = .ok (.array 52 4) w := run_underlying t68
 go_enter F, Try.ntmps60
 go_wp2
 clear z68 u68 hst
 go_loopg [9] l0.length (fun g v9 wx => ∃ (i : Nat) (seen : List Bool), v9 = .int .i64 (i : Int) ∧ Aside0 (i + g = l0.length) ∧ Aside0 (seen.length = 52) ∧ Aside0 (impl_IsHand.handF seen (l0.drop i) = impl_IsHand.handF (List.replicate 52 false) l0) ∧ Aside0 (wx.heap[w.heap.size]? = some (.cells (bools seen).toArray 60 (0, 0))) ∧ Aside0 (Below w.heap.size w wx))
 case atStart => exact ⟨0, List.replicate 52 false, rfl, ⟨by simp⟩, ⟨by simp⟩, ⟨by simp⟩, ⟨by rw [← HZ.out]; exact heap_alloc_last _ _⟩, ⟨(Below.refl _ _).alloc (Nat.le_refl _) _⟩⟩
 case round =>
  obtain ⟨i, seen, rfl, HI, HS, HH, HC, HB⟩ := hrel
  cases gk with
  | zero =>
   have hi : ¬ ((i : Int) < (l0.length : Int)) := by have := HI.out; omega
   have hi' : decide ((i : Int) < (l0.length : Int)) = false := decide_eq_false hi
   have hi'' : decide (i < l0.length) = false := by have := HI.out; simp; omega
   clear hi
   have fin : impl_IsHand.handF (List.replicate 52 false) l0 = true := by
    rw [← HH.out, List.drop_of_length_le (by have := HI.out; omega)]
    cases seen <;> rfl
   have FIN := QS fin
   clear fin
   go_wp2
   go_ret
   exact ⟨by rw [FIN.out]; first | rfl | (simp; done), HB.out⟩
  | succ g =>
   have hi : (i : Int) < (l0.length : Int) := by have := HI.out; omega
   have h0 : 0 ≤ (i : Int) := by omega
   obtain ⟨ad, e1, hx⟩ := Kd.at_int (Kd.C_below HR0.out HB.out) (i : Int) h0 hi
   cases e1
   simp only [Int.toNat_natCast] at hx
   have hdrop : l0.drop i = rd l0 (i : Int) :: l0.drop (i + 1) := by
    have hn : i < l0.length := by omega
    rw [List.drop_eq_getElem_cons hn]
    unfold rd
    simp [List.getD_eq_getElem?_getD, List.getElem?_eq_getElem hn]
   have HD := QS hdrop
   clear hdrop
   generalize hc : rd l0 (i : Int) = c at *
   clear hc
   have hl2 := HL.out
   by_cases hv : 0 ≤ c ∧ c ≤ 51
   ·have hcell := impl_IsHand.hand_cell HC.out c hv.1 (by have := HS.out; omega)
    have hfz := impl_IsHand.hand_frozen HC.out c.toNat
    have HV := QS hv
    have v0 := hv.1
    have v1 := hv.2
    clear hv
    have hstep : impl_IsHand.handF seen (c :: l0.drop (i + 1)) = if seen.getD c.toNat false = true then false else impl_IsHand.handF (seen.set c.toNat true) (l0.drop (i + 1)) := by rw [impl_IsHand.handF, if_pos HV.out]
    have HT := QS hstep
    clear hstep
    generalize hs : seen.getD c.toNat false = s at hcell
    have HSS := QS hs
    clear hs
    cases s with
    | true =>
     have fin : impl_IsHand.handF (List.replicate 52 false) l0 = false := by rw [← HH.out, HD.out, HT.out, HSS.out]; rfl
     have FIN := QS fin
     clear fin
     go_wp2_with (go_at_fn 34; refine (Cy c _ HV.out).mono ?_; rintro e w' ⟨rfl, nd, rfl⟩)
     go_ret
     exact ⟨by rw [FIN.out]; first | rfl | (simp; done), by repeat (first | exact HB.out | apply QD | apply QE)⟩
    | false =>
     have nxt : impl_IsHand.handF (seen.set c.toNat true) (l0.drop (i + 1)) = impl_IsHand.handF (List.replicate 52 false) l0 := by rw [← HH.out, HD.out, HT.out, HSS.out]; rfl
     have NXT := QS nxt
     clear nxt
     go_wp2_with (go_at_fn 34; refine (Cy c _ HV.out).mono ?_; rintro e w' ⟨rfl, nd, rfl⟩)
     go_roundg g
     case measure => omega
     case rel => exact ⟨i + 1, seen.set c.toNat true, by go_num, ⟨by have := HI.out; omega⟩, ⟨by rw [List.length_set]; exact HS.out⟩, NXT, ⟨impl_IsHand.hand_set HC.out _⟩, ⟨Below.setCell (QD HB.out _) (Nat.le_refl _) _⟩⟩
   ·have fin : impl_IsHand.handF (List.replicate 52 false) l0 = false := by rw [← HH.out, HD.out, impl_IsHand.handF, if_neg hv]
    have FIN := QS fin
    clear fin
    have HV := QS hv
    clear hv
    go_wp2_with (go_at_fn 34; refine (Cn c _ HV.out).mono ?_; rintro e w' ⟨rfl, nd, rfl⟩)
    go_ret
    exact ⟨by rw [FIN.out]; first | rfl | (simp; done), by repeat (first | exact HB.out | apply QD | apply QE)⟩
theorem impl_IsHand.card_yes (a : Int) (h : 0 ≤ a ∧ a ≤ 51) : impl_IsCard.f a = some true := by simp [impl_IsCard.f, impl_InRange.f, h.1, h.2]
theorem impl_IsHand.card_no (a : Int) (h : ¬ (0 ≤ a ∧ a ≤ 51)) : impl_IsCard.f a = some false := by
 by_cases h0 : 0 ≤ a
 ·have h1 : ¬ a ≤ 51 := fun g => h ⟨h0, g⟩
  simp [impl_IsCard.f, impl_InRange.f, h0, h1]
 ·simp [impl_IsCard.f, impl_InRange.f, h0]
theorem impl_IsHand.calls (A0 : Option Addr) (c0 : Nat) (l0 : List Int) (r : Bool) (w : World) (hr0 : Kd.C (Kd.int .i64) w A0 l0.length l0) (hc0 : l0.length ≤ c0) (h : impl_IsHand.f l0 = some r) :
  Calls Try.prog 60 #[.slice A0 l0.length c0] w fun e w' => e = .returned (.bool r) ∧ Below w.heap.size w w' := by
 obtain rfl := Option.some.inj h
 exact impl_IsHand.hand_any Try.func60 Try.underlying3 Try.isAgg3 Try.sizeOf3 Try.underlying4 Try.isAgg4 Try.sizeOf4 Try.underlying22 Try.underlying60 _ ⟨by rfl⟩ Try.zeroValue60 (by kernel_rfl) rfl (by decide +kernel)
  (enters_of Try.func34 (by kernel_rfl) rfl) (fun a w h => impl_IsCard.calls a true w (impl_IsHand.card_yes a h)) (fun a w h => impl_IsCard.calls a false w (impl_IsHand.card_no a h)) A0 c0 l0 w hr0

/-! ### impl_AllApart: function 53 -/
def impl_AllApart.l0 : Nat → List Int → List (List Int) → Int → Int → Option (Bool)
 | 0,_,_,_,_ => none
 | k + 1,x3,x7,x8,x9 => if x9 < x8 then (if 0 ≤ x9 then (if x9 < (x7.length : Int) then (if x3.length + (rd_L1 x7 x9).length < 17592186044416 then (impl_AllApart.l0 k (x3 ++ (rd_L1 x7 x9)) x7 x8 (wrap64 (x9 + 1))) else (none)) else (none)) else (none)) else ((impl_IsHand.f x3).bind fun t356 => (some t356))
def impl_AllApart.f (k : Nat) (l0 : List (List Int)) : Option (Bool) := impl_AllApart.l0 k (([] : List Int)) l0 (l0.length : Int) 0
theorem impl_AllApart.mono_l : ∀ k, (∀ y0 y1 y2 y3, LeO (impl_AllApart.l0 k y0 y1 y2 y3) (impl_AllApart.l0 (k + 1) y0 y1 y2 y3))
 | 0 => fun _ _ _ _ r h => by simp [impl_AllApart.l0] at h
 | k + 1 => by
  have ih0 := impl_AllApart.mono_l k
  ·intro y0 y1 y2 y3
   unfold impl_AllApart.l0
   repeat' first
   | (with_reducible exact ih0 _ _ _ _)
   | (with_reducible exact LeO.refl _)
   | (with_reducible exact LeO.none _)
   | (with_reducible refine LeO.ite ?_ ?_)
   | (with_reducible refine LeO.bind ?_ (fun _ => ?_))
   | exact ih0 _ _ _ _
   | exact LeO.none _
   | refine LeO.ite ?_ ?_
   | refine LeO.bind ?_ (fun _ => ?_)
theorem impl_AllApart.mono : ∀ a0 k, LeO (impl_AllApart.f k a0) (impl_AllApart.f (k + 1) a0) := by
 intro a0 k
 have ih0 := impl_AllApart.mono_l k
 unfold impl_AllApart.f
 repeat' first
   | (with_reducible exact ih0 _ _ _ _)
   | (with_reducible exact LeO.refl _)
   | (with_reducible exact LeO.none _)
   | (with_reducible refine LeO.ite ?_ ?_)
   | (with_reducible refine LeO.bind ?_ (fun _ => ?_))
   | exact ih0 _ _ _ _
   | exact LeO.none _
   | refine LeO.ite ?_ ?_
   | refine LeO.bind ?_ (fun _ => ?_)
set_option maxHeartbeats 8000000 in
set_option maxRecDepth 100000 in
theorem impl_AllApart.calls (k : Nat) (A0 : Option Addr) (c0 : Nat) (l0 : List (List Int)) (r : Bool) (w : World) (hr0 : Kd.C (Kd.slice 3 (Kd.int .i64)) w A0 l0.length l0) (hc0 : l0.length ≤ c0) (h : impl_AllApart.f k l0 = some r) :
  Calls Try.prog 53 #[.slice A0 l0.length c0] w fun e w' => e = .returned (.bool r) ∧ Below w.heap.size w w' := by
 have HR0 := QS hr0
 have HC0 := QS hc0
 clear hr0 hc0
 have HB := QS (Below.refl w.heap.size w)
 have H : (impl_AllApart.l0 k (([] : List Int)) l0 (l0.length : Int) 0) = some r := h
 clear h
 obtain ⟨y349,hy349⟩ : ∃ y_ : List Int,y_ = (([] : List Int)) := ⟨_,rfl⟩
 replace H : (impl_AllApart.l0 k y349 l0 (l0.length : Int) 0) = some r := by first | (rw [hy349]; with_reducible exact H) | (have H2_ := (Option.bind_some _ _).symm.trans H; rw [hy349]; with_reducible exact H2_) | (have H2_ := (Option.bind_some _ _).symm.trans H; with_reducible exact H2_) | with_reducible exact H | (rw [hy349]; exact H) | exact H
 have Ny349 := QS hy349
 clear hy349
 have H' := QS H
 clear H
 go_enter Try.func53,Try.ntmps53
 go_wp2_with (first | ((with_reducible refine gate_dst (N := 6) rfl ?_); refine Kd.R_lit (Kd.int .i64) _ 3 ?hg (N := 6) ?hd (xs := ([] : List Int)) (inner := []) (ok := fun _ => True) (okp := fun _ => True) ?hr ?hp (fun _ hk => hk) trivial (Below.refl _ _) (Nat.le_refl _) (by simp) ?_; (case hd => rfl); (case hg => rfl); (case hr => first | (go_simp; done) | (go_simp; rfl)); (case hp => exact (Reps.none _ _)); intro v350 w2 ho3 hb hg_ hnew_; clear hg_ hnew_; (first | rw [← Ny349.out] at ho3 | (simp only [Int.reduceToNat] at ho3; rw [← Ny349.out] at ho3)); have n0_ := QS (Kd.R_lower ho3 (QR (by repeat (first | (with_reducible first | exact HB.out | apply QH | apply QD | apply QE) | exact HB.out)))); have n1_ := QS (below_step (by repeat (first | (with_reducible first | exact HB.out | apply QH | apply QD | apply QE) | exact HB.out)) hb); clear HB; revert n0_ n1_; intro HO351 HB; clear hb ho3))
 go_loopg [3,9] k (fun kq v3 v9 w' => ∃ (x3_1 : List Int) (x9_1 : Int),v9 = .int .i64 x9_1 ∧ Aside0 (impl_AllApart.l0 kq x3_1 l0 (l0.length : Int) x9_1 = some r) ∧ Aside0 (kq ≤ k) ∧ Aside0 (Kd.R (Kd.int .i64) 3 w' w.heap.size (fun _ => True) v3 x3_1) ∧ Aside0 (Below w.heap.size w w'))
 case atStart => exact ⟨(y349),(0),(by first | rfl | (simp; done) | (simp [*]; done)),H',⟨Nat.le_refl _⟩,⟨by (with_reducible repeat (first | apply QL | apply QM | apply QO)); exact HO351.out⟩,⟨by repeat (first | (with_reducible first | exact HB.out | apply QH | apply QD | apply QE) | exact HB.out)⟩⟩
 case round =>
  clear H'
  try clear p2
  obtain ⟨x3_1,x9_1,rfl,HA,HK1,HO_3,HB⟩ := hrel
  cases gk with
  | zero => exact absurd HA.out (by simp [impl_AllApart.l0])
  | succ k1 =>
   have H := HA.out
   clear HA
   simp only [impl_AllApart.l0] at H
   by_cases c4 : x9_1 < (l0.length : Int)
   ·rw [if_pos c4] at H
    have c4b0 : decide (x9_1 < (l0.length : Int)) = true := decide_eq_true c4
    clear c4
    by_cases c5 : 0 ≤ x9_1
    ·rw [if_pos c5] at H
     have c5b0 : decide (0 ≤ x9_1) = true := decide_eq_true c5
     clear c5
     by_cases c6 : x9_1 < (l0.length : Int)
     ·rw [if_pos c6] at H
      have c6b0 : decide (x9_1 < (l0.length : Int)) = true := decide_eq_true c6
      clear c6
      by_cases c7 : x3_1.length + (rd_L1 l0 x9_1).length < 17592186044416
      ·rw [if_pos c7] at H
       have LMc7 := QS c7
       clear c7
       obtain ⟨y353,hy353⟩ : ∃ y_ : List Int,y_ = (x3_1 ++ (rd_L1 l0 x9_1)) := ⟨_,rfl⟩
       replace H : (impl_AllApart.l0 k1 y353 l0 (l0.length : Int) (wrap64 (x9_1 + 1))) = some r := by first | (rw [hy353]; with_reducible exact H) | (have H2_ := (Option.bind_some _ _).symm.trans H; rw [hy353]; with_reducible exact H2_) | (have H2_ := (Option.bind_some _ _).symm.trans H; with_reducible exact H2_) | with_reducible exact H | (rw [hy353]; exact H) | exact H
       have Ny353 := QS hy353
       clear hy353
       have H' := QS H
       clear H
       have p352 : 0 ≤ (x9_1 : Int) := of_decide_eq_true (by first | (with_reducible assumption) | assumption)
       have q352 : x9_1 < (l0.length : Int) := of_decide_eq_true (by first | (with_reducible assumption) | assumption)
       obtain ⟨ad352,A352_0,c352_0,e352,hx352_0,hl352_0,hi352_0⟩ := at_L1 HR0.out x9_1 p352 q352
       cases e352
       replace hx352_0 := (HB.out.cell (World.block_lt_of_cell? w _ hx352_0)).trans hx352_0
       have HR352_0 := QS hi352_0
       have HC352_0 := QS hl352_0
       clear hi352_0 hl352_0
       replace p352 := eq_true p352
       replace q352 := eq_true q352
       go_wp2_with (first | ((with_reducible refine gate_builtin (b := .append) (xs := #[.tmp 13,.tmp 14]) rfl ?_); at_builtin; refine Kd.R_append_rows (Kd.int .i64) (w0 := w) w.heap.size rfl (.tmp 13) (.tmp 14) 22 3 (.int .i64 0) 8 rfl Try.underlying22 info3 rfl (by decide) (by omega) u3 x3_1 (rd_L1 l0 x9_1) _ _ _ (fun _ => True) (fun _ => False) rfl rfl ?aO ?aR (fun _ _ h => h) (fun _ h => h.elim) ?aF ?aB ?aS ?aL ?_; (case aR => repeat (first | exact (Kd.C_below HR352_0.out HB.out) | (with_reducible refine Kd.C_alloc ?_ _) | (with_reducible refine Kd.C_drewN ?_ _) | (with_reducible refine Kd.C_drew ?_))); (case aB => exact (by repeat (first | (with_reducible first | exact HB.out | apply QH | apply QD | apply QE) | exact HB.out))); (case aF => exact (fun _ _ => trivial)); (case aO => exact (by (with_reducible repeat (first | apply QL | apply QM | apply QO)); exact HO_3.out)); (case aS => exact (QR (by repeat (first | (with_reducible first | exact HB.out | apply QH | apply QD | apply QE) | exact HB.out)))); (case aL => have := LMc7.out; omega); intro v354 w8 ho hb hg hat; rw [← Ny353.out] at ho; have n0_ := QS (hb); have n1_ := QS (ho); clear HB; clear HO_3; revert n0_ n1_; intro HB HO355; clear ho hb hg hat))
       go_roundg k1
       case measure => have := HK1.out; omega
       case rel => exact ⟨(y353),(wrap64 (x9_1 + 1)),(by first | rfl | (simp; done) | (simp [*]; done)),H',⟨by have := HK1.out; omega⟩,⟨by (with_reducible repeat (first | apply QL | apply QM | apply QO)); exact HO355.out⟩,⟨by repeat (first | (with_reducible first | exact HB.out | apply QH | apply QD | apply QE) | exact HB.out)⟩⟩
      ·rw [if_neg c7] at H
       exact absurd H (by simp)
     ·rw [if_neg c6] at H
      exact absurd H (by simp)
    ·rw [if_neg c5] at H
     exact absurd H (by simp)
   ·rw [if_neg c4] at H
    have c4b0 : decide (x9_1 < (l0.length : Int)) = false := decide_eq_false c4
    clear c4
    replace H := QT.mp H
    obtain ⟨t356,A90,H⟩ := H
    have A9 := QS A90
    clear A90
    obtain rfl := Option.some.inj H
    obtain ⟨Ao10,co10,eo10⟩ := Kd.R_slice HO_3.out
    subst eo10
    go_wp2_with (first | ((with_reducible refine QP (f := 60) rfl ?_); refine goesL_ (some 18) rfl rfl Try.func60 (by kernel_rfl) rfl #[.slice Ao10 x3_1.length co10] rfl (by (try simp only [List.map_toArray,List.map_cons,List.map_nil]); first | done | rfl | (simp only [List.length_drop,List.length_take]; rfl)) ?_; (with_reducible refine (impl_IsHand.calls _ _ x3_1 t356 _ ?side1 ?side2 A9.out).mono ?_); (case side1 => repeat (first | exact (Kd.R_reads' HO_3.out).2.2 | (with_reducible refine Kd.C_alloc ?_ _) | (with_reducible refine Kd.C_drewN ?_ _) | (with_reducible refine Kd.C_drew ?_))); (case side2 => exact (Kd.R_reads' HO_3.out).2.1); rintro e w11 ⟨rfl,hb⟩; refine ⟨_,rfl,?_⟩; have n0_ := QS (Kd.R_below (by (with_reducible repeat (first | apply QL | apply QM | apply QO)); exact HO_3.out) hb); have n1_ := QS (below_step (by repeat (first | (with_reducible first | exact HB.out | apply QH | apply QD | apply QE) | exact HB.out)) hb); clear HO_3; clear HB; revert n0_ n1_; intro HO_3 HB; (try clear hb); (try clear hb2); (try clear hk); (try clear hi)))
    go_ret
    exact ⟨by first | rfl | (simp [errW_none,errW_some] <;> rfl) | (simp [*,errW_none,errW_some] <;> rfl),by repeat (first | (with_reducible first | exact HB.out | apply QH | apply QD | apply QE) | exact HB.out)⟩

/-! ### impl_TotalCards: function 54 -/
def impl_TotalCards.l0 : Nat → Int → List (List Int) → Int → Int → Option (Int)
 | 0,_,_,_,_ => none
 | k + 1,x3,x6,x7,x8 => if x8 < x7 then (if 0 ≤ x8 then (if x8 < (x6.length : Int) then (impl_TotalCards.l0 k (wrap64 (x3 + ((rd_L1 x6 x8).length : Int))) x6 x7 (wrap64 (x8 + 1))) else (none)) else (none)) else (some x3)
def impl_TotalCards.f (k : Nat) (l0 : List (List Int)) : Option (Int) := impl_TotalCards.l0 k 0 l0 (l0.length : Int) 0
theorem impl_TotalCards.mono_l : ∀ k, (∀ y0 y1 y2 y3, LeO (impl_TotalCards.l0 k y0 y1 y2 y3) (impl_TotalCards.l0 (k + 1) y0 y1 y2 y3))
 | 0 => fun _ _ _ _ r h => by simp [impl_TotalCards.l0] at h
 | k + 1 => by
  have ih0 := impl_TotalCards.mono_l k
  ·intro y0 y1 y2 y3
   unfold impl_TotalCards.l0
   repeat' first
   | (with_reducible exact ih0 _ _ _ _)
   | (with_reducible exact LeO.refl _)
   | (with_reducible exact LeO.none _)
   | (with_reducible refine LeO.ite ?_ ?_)
   | (with_reducible refine LeO.bind ?_ (fun _ => ?_))
   | exact ih0 _ _ _ _
   | exact LeO.none _
   | refine LeO.ite ?_ ?_
   | refine LeO.bind ?_ (fun _ => ?_)
theorem impl_TotalCards.mono : ∀ a0 k, LeO (impl_TotalCards.f k a0) (impl_TotalCards.f (k + 1) a0) := by
 intro a0 k
 have ih0 := impl_TotalCards.mono_l k
 unfold impl_TotalCards.f
 repeat' first
   | (with_reducible exact ih0 _ _ _ _)
   | (with_reducible exact LeO.refl _)
   | (with_reducible exact LeO.none _)
   | (with_reducible refine LeO.ite ?_ ?_)
   | (with_reducible refine LeO.bind ?_ (fun _ => ?_))
   | exact ih0 _ _ _ _
   | exact LeO.none _
   | refine LeO.ite ?_ ?_
   | refine LeO.bind ?_ (fun _ => ?_)
set_option maxHeartbeats 8000000 in
set_option maxRecDepth 100000 in
theorem impl_TotalCards.calls (k : Nat) (A0 : Option Addr) (c0 : Nat) (l0 : List (List Int)) (r : Int) (w : World) (hr0 : Kd.C (Kd.slice 3 (Kd.int .i64)) w A0 l0.length l0) (hc0 : l0.length ≤ c0) (h : impl_TotalCards.f k l0 = some r) :
  Calls Try.prog 54 #[.slice A0 l0.length c0] w fun e w' => e = .returned (.int .i64 r) ∧ Drawn0 w w' := by
 have HR0 := QS hr0
 have HC0 := QS hc0
 clear hr0 hc0
 have H : (impl_TotalCards.l0 k 0 l0 (l0.length : Int) 0) = some r := h
 clear h
 have H' := QS H
 clear H
 go_enter Try.func54,Try.ntmps54
 go_wp2
 go_loopg [3,8] k (fun kq v3 v8 w' => ∃ (x3_1 : Int) (x8_1 : Int),v3 = .int .i64 x3_1 ∧ v8 = .int .i64 x8_1 ∧ Aside0 (impl_TotalCards.l0 kq x3_1 l0 (l0.length : Int) x8_1 = some r) ∧ Aside0 (kq ≤ k) ∧ Drawn0 w w')
 case atStart => exact ⟨(0),(0),(by first | rfl | (simp; done) | (simp [*]; done)),(by first | rfl | (simp; done) | (simp [*]; done)),H',⟨Nat.le_refl _⟩,by repeat (first | exact Drawn0.refl _ | apply Drawn0.step)⟩
 case round =>
  clear H'
  obtain ⟨x3_1,x8_1,rfl,rfl,HA,HK1,⟨m1,rfl⟩⟩ := hrel
  cases gk with
  | zero => exact absurd HA.out (by simp [impl_TotalCards.l0])
  | succ k1 =>
   have H := HA.out
   clear HA
   simp only [impl_TotalCards.l0] at H
   by_cases c2 : x8_1 < (l0.length : Int)
   ·rw [if_pos c2] at H
    have c2b0 : decide (x8_1 < (l0.length : Int)) = true := decide_eq_true c2
    clear c2
    by_cases c3 : 0 ≤ x8_1
    ·rw [if_pos c3] at H
     have c3b0 : decide (0 ≤ x8_1) = true := decide_eq_true c3
     clear c3
     by_cases c4 : x8_1 < (l0.length : Int)
     ·rw [if_pos c4] at H
      have c4b0 : decide (x8_1 < (l0.length : Int)) = true := decide_eq_true c4
      clear c4
      have H' := QS H
      clear H
      have p357 : 0 ≤ (x8_1 : Int) := of_decide_eq_true (by first | (with_reducible assumption) | assumption)
      have q357 : x8_1 < (l0.length : Int) := of_decide_eq_true (by first | (with_reducible assumption) | assumption)
      obtain ⟨ad357,A357_0,c357_0,e357,hx357_0,hl357_0,hi357_0⟩ := at_L1 HR0.out x8_1 p357 q357
      cases e357
      have HR357_0 := QS hi357_0
      have HC357_0 := QS hl357_0
      clear hi357_0 hl357_0
      replace p357 := eq_true p357
      replace q357 := eq_true q357
      go_wp2
      go_roundg k1
      case measure => have := HK1.out; omega
      case rel => exact ⟨(wrap64 (x3_1 + ((rd_L1 l0 x8_1).length : Int))),(wrap64 (x8_1 + 1)),(by first | rfl | (simp; done) | (simp [*]; done)),(by first | rfl | (simp; done) | (simp [*]; done)),H',⟨by have := HK1.out; omega⟩,by repeat (first | exact Drawn0.refl _ | apply Drawn0.step)⟩
     ·rw [if_neg c4] at H
      exact absurd H (by simp)
    ·rw [if_neg c3] at H
     exact absurd H (by simp)
   ·rw [if_neg c2] at H
    have c2b0 : decide (x8_1 < (l0.length : Int)) = false := decide_eq_false c2
    clear c2
    obtain rfl := Option.some.inj H
    go_wp2
    go_ret
    exact ⟨by first | rfl | (simp; done) | (simp [*]; done),by repeat (first | exact Drawn0.refl _ | apply Drawn0.step)⟩

/-! ### impl_isWhole: function 42 -/
def impl_isWhole.f (k : Nat) (l0 : List (List Int)) : Option (Bool) := (impl_AllApart.f k l0).bind fun t358 => (if t358 = true then ((impl_TotalCards.f k l0).bind fun t359 => (some (t359 == 52))) else (some false))
theorem impl_isWhole.mono : ∀ a0 k, LeO (impl_isWhole.f k a0) (impl_isWhole.f (k + 1) a0) := by
 intro a0 k
 unfold impl_isWhole.f
 repeat' first
   | (with_reducible exact impl_AllApart.mono _ _)
   | (with_reducible exact impl_TotalCards.mono _ _)
   | (with_reducible exact LeO.refl _)
   | (with_reducible exact LeO.none _)
   | (with_reducible refine LeO.ite ?_ ?_)
   | (with_reducible refine LeO.bind ?_ (fun _ => ?_))
   | exact impl_AllApart.mono _ _
   | exact impl_TotalCards.mono _ _
   | exact LeO.none _
   | refine LeO.ite ?_ ?_
   | refine LeO.bind ?_ (fun _ => ?_)
set_option maxHeartbeats 8000000 in
set_option maxRecDepth 100000 in
theorem impl_isWhole.calls (k : Nat) (A0 : Option Addr) (c0 : Nat) (l0 : List (List Int)) (r : Bool) (w : World) (hr0 : Kd.C (Kd.slice 3 (Kd.int .i64)) w A0 l0.length l0) (hc0 : l0.length ≤ c0) (h : impl_isWhole.f k l0 = some r) :
  Calls Try.prog 42 #[.slice A0 l0.length c0] w fun e w' => e = .returned (.bool r) ∧ Below w.heap.size w w' := by
 have HR0 := QS hr0
 have HC0 := QS hc0
 clear hr0 hc0
 have HB := QS (Below.refl w.heap.size w)
 have H : ((impl_AllApart.f k l0).bind fun t358 => (if t358 = true then ((impl_TotalCards.f k l0).bind fun t359 => (some (t359 == 52))) else (some false))) = some r := h
 clear h
 replace H := QT.mp H
 obtain ⟨t358,A20,H⟩ := H
 have A2 := QS A20
 clear A20
 by_cases c3 : t358 = true
 ·subst c3
  rw [if_pos rfl] at H
  replace H := QT.mp H
  obtain ⟨t359,A40,H⟩ := H
  have A4 := QS A40
  clear A40
  obtain rfl := Option.some.inj H
  go_enter Try.func42,Try.ntmps42
  go_wp2_with (first | ((with_reducible refine QP (f := 53) rfl ?_); refine goesL_ (some 4) rfl rfl Try.func53 (by kernel_rfl) rfl #[.slice A0 l0.length c0] rfl (by (try simp only [List.map_toArray,List.map_cons,List.map_nil]); first | done | rfl | (simp only [List.length_drop,List.length_take]; rfl)) ?_; (with_reducible refine (impl_AllApart.calls k _ _ l0 true _ ?side1 ?side2 A2.out).mono ?_); (case side1 => repeat (first | exact HR0.out | (with_reducible refine Kd.C_alloc ?_ _) | (with_reducible refine Kd.C_drewN ?_ _) | (with_reducible refine Kd.C_drew ?_))); (case side2 => exact HC0.out); rintro e w5 ⟨rfl,hb⟩; refine ⟨_,rfl,?_⟩; have n0_ := QS (below_step (by repeat (first | (with_reducible first | exact HB.out | apply QH | apply QD | apply QE) | exact HB.out)) hb); clear HB; revert n0_; intro HB; (try clear hb); (try clear hb2); (try clear hk); (try clear hi)) | (go_at_call 54; (with_reducible refine (impl_TotalCards.calls k _ _ l0 t359 _ ?side1 ?side2 A4.out).mono ?_); (case side1 => repeat (first | exact (Kd.C_below HR0.out HB.out) | (with_reducible refine Kd.C_alloc ?_ _) | (with_reducible refine Kd.C_drewN ?_ _) | (with_reducible refine Kd.C_drew ?_))); (case side2 => exact HC0.out); rintro e w' ⟨rfl,⟨nd,rfl⟩⟩))
  go_ret
  exact ⟨by first | rfl | (simp [errW_none,errW_some] <;> rfl) | (simp [*,errW_none,errW_some] <;> rfl),by repeat (first | (with_reducible first | exact HB.out | apply QH | apply QD | apply QE) | exact HB.out)⟩
 ·replace c3 := Bool.eq_false_iff.mpr c3
  subst c3
  rw [if_neg (show ¬ (false = true) by decide)] at H
  obtain rfl := Option.some.inj H
  go_enter Try.func42,Try.ntmps42
  go_wp2_with (first | ((with_reducible refine QP (f := 53) rfl ?_); refine goesL_ (some 4) rfl rfl Try.func53 (by kernel_rfl) rfl #[.slice A0 l0.length c0] rfl (by (try simp only [List.map_toArray,List.map_cons,List.map_nil]); first | done | rfl | (simp only [List.length_drop,List.length_take]; rfl)) ?_; (with_reducible refine (impl_AllApart.calls k _ _ l0 false _ ?side1 ?side2 A2.out).mono ?_); (case side1 => repeat (first | exact HR0.out | (with_reducible refine Kd.C_alloc ?_ _) | (with_reducible refine Kd.C_drewN ?_ _) | (with_reducible refine Kd.C_drew ?_))); (case side2 => exact HC0.out); rintro e w6 ⟨rfl,hb⟩; refine ⟨_,rfl,?_⟩; have n0_ := QS (below_step (by repeat (first | (with_reducible first | exact HB.out | apply QH | apply QD | apply QE) | exact HB.out)) hb); clear HB; revert n0_; intro HB; (try clear hb); (try clear hb2); (try clear hk); (try clear hi)))
  go_ret
  exact ⟨by first | rfl | (simp [errW_none,errW_some] <;> rfl) | (simp [*,errW_none,errW_some] <;> rfl),by repeat (first | (with_reducible first | exact HB.out | apply QH | apply QD | apply QE) | exact HB.out)⟩

/-! ### impl_copyOf: function 55 -/
def impl_copyOf.f (l0 : List Int) : Option (List Int) := (some (([] : List Int) : List Int)).bind fun y360 => (if y360.length + l0.length < 17592186044416 then (some (y360 ++ l0)) else (none))
set_option maxHeartbeats 8000000 in
set_option maxRecDepth 100000 in
theorem impl_copyOf.calls (A0 : Option Addr) (c0 : Nat) (l0 : List Int) (r : List Int) (w : World) (hr0 : Kd.C (Kd.int .i64) w A0 l0.length l0) (hc0 : l0.length ≤ c0) (h : impl_copyOf.f l0 = some r) :
  Calls Try.prog 55 #[.slice A0 l0.length c0] w fun e w' => ∃ v0_ : Value,e = .returned (v0_) ∧ Kd.R (Kd.int .i64) 3 w' w.heap.size (fun _ => True) v0_ r ∧ Below w.heap.size w w' := by
 have HR0 := QS hr0
 have HC0 := QS hc0
 clear hr0 hc0
 have HB := QS (Below.refl w.heap.size w)
 have H : ((some (([] : List Int) : List Int)).bind fun y360 => (if y360.length + l0.length < 17592186044416 then (some (y360 ++ l0)) else (none))) = some r := h
 clear h
 obtain ⟨y360,hy360⟩ : ∃ y_ : List Int,y_ = (([] : List Int)) := ⟨_,rfl⟩
 replace H : (if y360.length + l0.length < 17592186044416 then (some (y360 ++ l0)) else (none)) = some r := by first | (rw [hy360]; with_reducible exact H) | (have H2_ := (Option.bind_some _ _).symm.trans H; rw [hy360]; with_reducible exact H2_) | (have H2_ := (Option.bind_some _ _).symm.trans H; with_reducible exact H2_) | with_reducible exact H | (rw [hy360]; exact H) | exact H
 have Ny360 := QS hy360
 clear hy360
 by_cases c2 : y360.length + l0.length < 17592186044416
 ·rw [if_pos c2] at H
  have LMc2 := QS c2
  clear c2
  obtain ⟨y363,hy363⟩ : ∃ y_ : List Int,y_ = (y360 ++ l0) := ⟨_,rfl⟩
  replace H : (some y363) = some r := by first | (rw [hy363]; with_reducible exact H) | (have H2_ := (Option.bind_some _ _).symm.trans H; rw [hy363]; with_reducible exact H2_) | (have H2_ := (Option.bind_some _ _).symm.trans H; with_reducible exact H2_) | with_reducible exact H | (rw [hy363]; exact H) | exact H
  have Ny363 := QS hy363
  clear hy363
  obtain rfl := Option.some.inj H
  go_enter Try.func55,Try.ntmps55
  go_wp2_with (first | ((with_reducible refine gate_dst (N := 3) rfl ?_); refine Kd.R_lit (Kd.int .i64) _ 3 ?hg (N := 3) ?hd (xs := ([] : List Int)) (inner := []) (ok := fun _ => True) (okp := fun _ => True) ?hr ?hp (fun _ hk => hk) trivial (Below.refl _ _) (Nat.le_refl _) (by simp) ?_; (case hd => rfl); (case hg => rfl); (case hr => first | (go_simp; done) | (go_simp; rfl)); (case hp => exact (Reps.none _ _)); intro v361 w3 ho4 hb hg_ hnew_; clear hg_ hnew_; (first | rw [← Ny360.out] at ho4 | (simp only [Int.reduceToNat] at ho4; rw [← Ny360.out] at ho4)); have n0_ := QS (Kd.R_lower ho4 (QR (by repeat (first | (with_reducible first | exact HB.out | apply QH | apply QD | apply QE) | exact HB.out)))); have n1_ := QS (below_step (by repeat (first | (with_reducible first | exact HB.out | apply QH | apply QD | apply QE) | exact HB.out)) hb); clear HB; revert n0_ n1_; intro HO362 HB; clear hb ho4) | ((with_reducible refine gate_builtin (b := .append) (xs := #[.tmp 3,.tmp 4]) rfl ?_); at_builtin; refine Kd.R_append_rows (Kd.int .i64) (w0 := w) w.heap.size rfl (.tmp 3) (.tmp 4) 22 3 (.int .i64 0) 8 rfl Try.underlying22 info3 rfl (by decide) (by omega) v361 y360 l0 _ _ _ (fun _ => True) (fun _ => False) rfl rfl ?aO ?aR (fun _ _ h => h) (fun _ h => h.elim) ?aF ?aB ?aS ?aL ?_; (case aR => repeat (first | exact (Kd.C_below HR0.out HB.out) | (with_reducible refine Kd.C_alloc ?_ _) | (with_reducible refine Kd.C_drewN ?_ _) | (with_reducible refine Kd.C_drew ?_))); (case aB => exact (by repeat (first | (with_reducible first | exact HB.out | apply QH | apply QD | apply QE) | exact HB.out))); (case aF => exact (fun _ _ => trivial)); (case aO => exact (by (with_reducible repeat (first | apply QL | apply QM | apply QO)); exact HO362.out)); (case aS => exact (QR (by repeat (first | (with_reducible first | exact HB.out | apply QH | apply QD | apply QE) | exact HB.out)))); (case aL => have := LMc2.out; omega); intro v364 w5 ho hb hg hat; rw [← Ny363.out] at ho; have n0_ := QS (hb); have n1_ := QS (ho); clear HB; clear HO362; revert n0_ n1_; intro HB HO365; clear ho hb hg hat))
  go_ret
  exact ⟨_,by first | rfl | (simp [errW_none,errW_some] <;> rfl) | (simp [*,errW_none,errW_some] <;> rfl),by (with_reducible repeat (first | apply QL | apply QM | apply QO)); exact HO365.out,by repeat (first | (with_reducible first | exact HB.out | apply QH | apply QD | apply QE) | exact HB.out)⟩
 ·rw [if_neg c2] at H
  exact absurd H (by simp)

/-! ### impl_copyRows: function 43 -/
def impl_copyRows.l0 : Nat → List (List Int) → List (List Int) → Int → Int → Option ((List (List Int)))
 | 0,_,_,_,_ => none
 | k + 1,x3,x7,x8,x9 => if x9 < x8 then (if 0 ≤ x9 then (if x9 < (x7.length : Int) then ((impl_copyOf.f (rd_L1 x7 x9)).bind fun t370 => (if x3.length < 5864062014805 then (impl_copyRows.l0 k (x3 ++ [t370]) x7 x8 (wrap64 (x9 + 1))) else (none))) else (none)) else (none)) else (some x3)
def impl_copyRows.f (k : Nat) (l0 : List (List Int)) : Option ((List (List Int))) := impl_copyRows.l0 k (([] : List (List Int))) l0 (l0.length : Int) 0
theorem impl_copyRows.mono_l : ∀ k, (∀ y0 y1 y2 y3, LeO (impl_copyRows.l0 k y0 y1 y2 y3) (impl_copyRows.l0 (k + 1) y0 y1 y2 y3))
 | 0 => fun _ _ _ _ r h => by simp [impl_copyRows.l0] at h
 | k + 1 => by
  have ih0 := impl_copyRows.mono_l k
  ·intro y0 y1 y2 y3
   unfold impl_copyRows.l0
   repeat' first
   | (with_reducible exact ih0 _ _ _ _)
   | (with_reducible exact LeO.refl _)
   | (with_reducible exact LeO.none _)
   | (with_reducible refine LeO.ite ?_ ?_)
   | (with_reducible refine LeO.bind ?_ (fun _ => ?_))
   | exact ih0 _ _ _ _
   | exact LeO.none _
   | refine LeO.ite ?_ ?_
   | refine LeO.bind ?_ (fun _ => ?_)
theorem impl_copyRows.mono : ∀ a0 k, LeO (impl_copyRows.f k a0) (impl_copyRows.f (k + 1) a0) := by
 intro a0 k
 have ih0 := impl_copyRows.mono_l k
 unfold impl_copyRows.f
 repeat' first
   | (with_reducible exact ih0 _ _ _ _)
   | (with_reducible exact LeO.refl _)
   | (with_reducible exact LeO.none _)
   | (with_reducible refine LeO.ite ?_ ?_)
   | (with_reducible refine LeO.bind ?_ (fun _ => ?_))
   | exact ih0 _ _ _ _
   | exact LeO.none _
   | refine LeO.ite ?_ ?_
   | refine LeO.bind ?_ (fun _ => ?_)
set_option maxHeartbeats 8000000 in
set_option maxRecDepth 100000 in
theorem impl_copyRows.calls (k : Nat) (A0 : Option Addr) (c0 : Nat) (l0 : List (List Int)) (r : List (List Int)) (w : World) (hr0 : Kd.C (Kd.slice 3 (Kd.int .i64)) w A0 l0.length l0) (hc0 : l0.length ≤ c0) (h : impl_copyRows.f k l0 = some r) :
  Calls Try.prog 43 #[.slice A0 l0.length c0] w fun e w' => ∃ v0_ : Value,e = .returned (v0_) ∧ Kd.S (Kd.slice 3 (Kd.int .i64)) 22 w' w.heap.size (fun _ => True) v0_ r ∧ Below w.heap.size w w' := by
 have HR0 := QS hr0
 have HC0 := QS hc0
 clear hr0 hc0
 have HB := QS (Below.refl w.heap.size w)
 have H : (impl_copyRows.l0 k (([] : List (List Int))) l0 (l0.length : Int) 0) = some r := h
 clear h
 obtain ⟨y366,hy366⟩ : ∃ y_ : List (List Int),y_ = (([] : List (List Int))) := ⟨_,rfl⟩
 replace H : (impl_copyRows.l0 k y366 l0 (l0.length : Int) 0) = some r := by first | (rw [hy366]; with_reducible exact H) | (have H2_ := (Option.bind_some _ _).symm.trans H; rw [hy366]; with_reducible exact H2_) | (have H2_ := (Option.bind_some _ _).symm.trans H; with_reducible exact H2_) | with_reducible exact H | (rw [hy366]; exact H) | exact H
 have Ny366 := QS hy366
 clear hy366
 have H' := QS H
 clear H
 go_enter Try.func43,Try.ntmps43
 go_wp2_with (first | ((with_reducible refine gate_dst (N := 6) rfl ?_); refine Kd.S_lit (Kd.slice 3 (Kd.int .i64)) _ 22 ?hg (N := 6) ?hd (xs := ([] : List (List Int))) (inner := []) (ok := fun _ => True) (okp := fun _ => True) ?hr ?hp (fun _ hk => hk) trivial (Below.refl _ _) (Nat.le_refl _) (by simp) ?_; (case hd => rfl); (case hg => rfl); (case hr => first | (go_simp; done) | (go_simp; rfl)); (case hp => exact (Reps.none _ _)); intro v367 w2 ho3 hb hg_ hnew_; clear hg_ hnew_; (first | rw [← Ny366.out] at ho3 | (simp only [Int.reduceToNat] at ho3; rw [← Ny366.out] at ho3)); have n0_ := QS (Kd.S_lower ho3 (QR (by repeat (first | (with_reducible first | exact HB.out | apply QH | apply QD | apply QE) | exact HB.out)))); have n1_ := QS (below_step (by repeat (first | (with_reducible first | exact HB.out | apply QH | apply QD | apply QE) | exact HB.out)) hb); clear HB; revert n0_ n1_; intro HO368 HB; clear hb ho3))
 go_loopg [3,9] k (fun kq v3 v9 w' => ∃ (x3_1 : List (List Int)) (x9_1 : Int),v9 = .int .i64 x9_1 ∧ Aside0 (impl_copyRows.l0 kq x3_1 l0 (l0.length : Int) x9_1 = some r) ∧ Aside0 (kq ≤ k) ∧ Aside0 (Kd.S (Kd.slice 3 (Kd.int .i64)) 22 w' w.heap.size (fun _ => True) v3 x3_1) ∧ Aside0 (Below w.heap.size w w'))
 case atStart => exact ⟨(y366),(0),(by first | rfl | (simp; done) | (simp [*]; done)),H',⟨Nat.le_refl _⟩,⟨by (with_reducible repeat (first | apply Kd.S_alloc | apply Kd.S_drewN | apply Kd.S_drew)); exact HO368.out⟩,⟨by repeat (first | (with_reducible first | exact HB.out | apply QH | apply QD | apply QE) | exact HB.out)⟩⟩
 case round =>
  clear H'
  try clear p2
  obtain ⟨x3_1,x9_1,rfl,HA,HK1,HO_3,HB⟩ := hrel
  cases gk with
  | zero => exact absurd HA.out (by simp [impl_copyRows.l0])
  | succ k1 =>
   have H := HA.out
   clear HA
   simp only [impl_copyRows.l0] at H
   by_cases c4 : x9_1 < (l0.length : Int)
   ·rw [if_pos c4] at H
    have c4b0 : decide (x9_1 < (l0.length : Int)) = true := decide_eq_true c4
    clear c4
    by_cases c5 : 0 ≤ x9_1
    ·rw [if_pos c5] at H
     have c5b0 : decide (0 ≤ x9_1) = true := decide_eq_true c5
     clear c5
     by_cases c6 : x9_1 < (l0.length : Int)
     ·rw [if_pos c6] at H
      have c6b0 : decide (x9_1 < (l0.length : Int)) = true := decide_eq_true c6
      clear c6
      replace H := QT.mp H
      obtain ⟨t370,A70,H⟩ := H
      have A7 := QS A70
      clear A70
      by_cases c8 : x3_1.length < 5864062014805
      ·rw [if_pos c8] at H
       have LMc8 := QS c8
       clear c8
       obtain ⟨y373,hy373⟩ : ∃ y_ : List (List Int),y_ = (x3_1 ++ [t370]) := ⟨_,rfl⟩
       replace H : (impl_copyRows.l0 k1 y373 l0 (l0.length : Int) (wrap64 (x9_1 + 1))) = some r := by first | (rw [hy373]; with_reducible exact H) | (have H2_ := (Option.bind_some _ _).symm.trans H; rw [hy373]; with_reducible exact H2_) | (have H2_ := (Option.bind_some _ _).symm.trans H; with_reducible exact H2_) | with_reducible exact H | (rw [hy373]; exact H) | exact H
       have Ny373 := QS hy373
       clear hy373
       have H' := QS H
       clear H
       have p369 : 0 ≤ (x9_1 : Int) := of_decide_eq_true (by first | (with_reducible assumption) | assumption)
       have q369 : x9_1 < (l0.length : Int) := of_decide_eq_true (by first | (with_reducible assumption) | assumption)
       obtain ⟨ad369,A369_0,c369_0,e369,hx369_0,hl369_0,hi369_0⟩ := at_L1 HR0.out x9_1 p369 q369
       cases e369
       replace hx369_0 := (HB.out.cell (World.block_lt_of_cell? w _ hx369_0)).trans hx369_0
       have HR369_0 := QS hi369_0
       have HC369_0 := QS hl369_0
       clear hi369_0 hl369_0
       replace p369 := eq_true p369
       replace q369 := eq_true q369
       go_wp2_with (first | ((with_reducible refine QP (f := 55) rfl ?_); refine goesL_ (some 15) rfl rfl Try.func55 (by kernel_rfl) rfl #[.slice A369_0 (rd_L1 l0 x9_1).length c369_0] rfl (by (try simp only [List.map_toArray,List.map_cons,List.map_nil]); first | done | rfl | (simp only [List.length_drop,List.length_take]; rfl)) ?_; (with_reducible refine (impl_copyOf.calls _ _ (rd_L1 l0 x9_1) t370 _ ?side1 ?side2 A7.out).mono ?_); (case side1 => repeat (first | exact (Kd.C_below HR369_0.out HB.out) | (with_reducible refine Kd.C_alloc ?_ _) | (with_reducible refine Kd.C_drewN ?_ _) | (with_reducible refine Kd.C_drew ?_))); (case side2 => exact HC369_0.out); rintro e w9 ⟨v371,rfl,ho0,hb⟩; refine ⟨_,rfl,?_⟩; have n0_ := QS (Kd.S_elder' (by (with_reducible repeat (first | apply Kd.S_alloc | apply Kd.S_drewN | apply Kd.S_drew)); exact HO_3.out) (Kd.R_base ho0) hb); have n1_ := QS (Kd.R_lower ho0 (QR (by repeat (first | (with_reducible first | exact HB.out | apply QH | apply QD | apply QE) | exact HB.out)))); have n2_ := QS (below_step (by repeat (first | (with_reducible first | exact HB.out | apply QH | apply QD | apply QE) | exact HB.out)) hb); clear HO_3; clear HB; revert n0_ n1_ n2_; intro HO_3 HO372 HB; (try clear hb); (try clear hb2); (try clear hk); (try clear hi); (try clear ho0); obtain ⟨Ao11,co11,eo11⟩ := Kd.R_slice HO372.out; subst eo11) | ((with_reducible refine gate_builtin (b := .append) (xs := #[.tmp 13,.tmp 16]) rfl ?_); at_builtin; refine Kd.S_append (Kd.slice 3 (Kd.int .i64)) (w0 := w) w.heap.size rfl (.tmp 13) (.tmp 16) 25 22 (.slice none 0 0) 24 rfl Try.underlying25 info22 rfl (by decide) (by omega) u3 x3_1 t370 [.slice Ao11 t370.length co11] (fun _ => True) (fun k_ => some k_ = (.slice Ao11 t370.length co11 : Value).ownBlock) rfl rfl ?aP (fun k_ hk_ => ((Kd.R_mono (ok' := fun k_ => ((fun _ => True)) k_ ∧ some k_ ≠ (u3 : Value).ownBlock) (Kd.R_apart' (HO372.out) (Kd.S_typed HO_3.out) (by decide)) (fun k_ hk => ⟨trivial,hk.2⟩))).1 k_ hk_.symm) ?aF ?aO ?aB ?aS ?aL ?_; (case aP => exact Kd.M_row (Kd.R_mono (Kd.R_tight rfl (Kd.R_mono (ok' := fun k_ => ((fun _ => True)) k_ ∧ some k_ ≠ (u3 : Value).ownBlock) (Kd.R_apart' (HO372.out) (Kd.S_typed HO_3.out) (by decide)) (fun k_ hk => ⟨trivial,hk.2⟩))) (fun _ h_ => h_))); (case aB => exact (by repeat (first | (with_reducible first | exact HB.out | apply QH | apply QD | apply QE) | exact HB.out))); (case aF => exact (fun _ _ => trivial)); (case aO => exact (by (with_reducible repeat (first | apply Kd.S_alloc | apply Kd.S_drewN | apply Kd.S_drew)); exact Kd.S_mono HO_3.out (fun k_ hk => ⟨trivial,fun e_ => hk.2 e_⟩))); (case aS => exact (QR (by repeat (first | (with_reducible first | exact HB.out | apply QH | apply QD | apply QE) | exact HB.out)))); (case aL => have := LMc8.out; omega); intro v374 w10 ho hb hg hat; rw [← Ny373.out] at ho; have n0_ := QS (hb); have n1_ := QS (ho); clear HB; clear HO_3; clear HO372; revert n0_ n1_; intro HB HO375; clear ho hb hg hat))
       go_roundg k1
       case measure => have := HK1.out; omega
       case rel => exact ⟨(y373),(wrap64 (x9_1 + 1)),(by first | rfl | (simp; done) | (simp [*]; done)),H',⟨by have := HK1.out; omega⟩,⟨by (with_reducible repeat (first | apply Kd.S_alloc | apply Kd.S_drewN | apply Kd.S_drew)); exact HO375.out⟩,⟨by repeat (first | (with_reducible first | exact HB.out | apply QH | apply QD | apply QE) | exact HB.out)⟩⟩
      ·rw [if_neg c8] at H
       exact absurd H (by simp)
     ·rw [if_neg c6] at H
      exact absurd H (by simp)
    ·rw [if_neg c5] at H
     exact absurd H (by simp)
   ·rw [if_neg c4] at H
    have c4b0 : decide (x9_1 < (l0.length : Int)) = false := decide_eq_false c4
    clear c4
    obtain rfl := Option.some.inj H
    go_wp2
    go_ret
    exact ⟨_,by first | rfl | (simp [errW_none,errW_some] <;> rfl) | (simp [*,errW_none,errW_some] <;> rfl),by (with_reducible repeat (first | apply Kd.S_alloc | apply Kd.S_drewN | apply Kd.S_drew)); exact HO_3.out,by repeat (first | (with_reducible first | exact HB.out | apply QH | apply QD | apply QE) | exact HB.out)⟩

end Go.Proofs.Ytdfmobcocaijpaa.QFnExactChoiceOf
