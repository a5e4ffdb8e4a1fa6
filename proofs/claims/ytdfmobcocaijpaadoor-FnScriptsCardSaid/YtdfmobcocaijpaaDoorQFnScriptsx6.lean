/- What a call of each Go function that FnScripts reaches comes to, as a Lean function: texts of the kit's print, turned by wip/remake.py. No condition beyond what each names. -/
import Derived.Test.YtdfmobcocaijpaaDoorQFnScriptsx5
namespace Go.Proofs.YtdfmobcocaijpaaDoor.QFnScripts
open Go.RowKit Go.Proofs.YtdfmobcocaijpaaDoorW.PrintWords Go.Proofs.YtdfmobcocaijpaaDoorW.PrintLast Go.Proofs.YtdfmobcocaijpaaDoorW.PrintMore
open Go.Proofs.YtdfmobcocaijpaaDoorW.PrintWords.Kd renaming R_alloc → QB, R_drewN → QC, R_drew → QD, R_below → QL, Q_alloc → QM, Q_drewN → QN, R_mono → QO, Q_drew → QP, R_reads' → QR, Q_below → QT, Q_far → QU, C_alloc → QV, C_drewN → QW, C_drew → QZ, Q_reads' → Qb
open Go.Proofs.YtdfmobcocaijpaaDoorW.PrintWords renaming pw_below_drewN → QE, below_set → QF, blk_drewN → QG, blk_alloc → QH, below_drew1 → QI, below_alloc → QJ, blk_drew → QK, blk_below → QS, below_step → QX, gate_callee → Qa, below_size → Qc
open Go.Proofs.YtdfmobcocaijpaaDoorW.PrintMore renaming far_r → QY
open Go.Proofs.YtdfmobcocaijpaaDoorW.PrintWords.Aside0 renaming mk → Qd
open Option renaming bind_eq_some_iff → Qe
attribute [local go_sem] max2_int min2_int max_two min_two max_three min_three max_four min_four   -- for this text's walks alone
set_option linter.unusedVariables false
set_option linter.unusedSimpArgs false

/-! ### spec_DrawSplitWords: function 14 -/
def spec_DrawSplitWords.f (k : Nat) (l0 : List Int) : Option (ByteArray × Int) := (spec_l1New.f k l0).bind fun bt607 => ((spec_EasyRules.f).bind fun bt611 => ((spec_RulesText.f k bt611.1 bt611.2.1 bt611.2.2.1 bt611.2.2.2.1 bt611.2.2.2.2.1 bt611.2.2.2.2.2.1 bt611.2.2.2.2.2.2.1 bt611.2.2.2.2.2.2.2).bind fun t623 => ((spec_l1Str.f bt607.1 bt607.2.1 bt607.2.2 (([(⟨#[]⟩ : ByteArray), (⟨#[97, 32, 98]⟩ : ByteArray), (⟨#[32, 97]⟩ : ByteArray), (⟨#[97, 32, 32, 98, 32]⟩ : ByteArray), (⟨#[97, 44, 98]⟩ : ByteArray), t623] : List ByteArray))).bind fun bt627 => ((some (([32, 44, 61] : List Int) : List Int)).bind fun y630 => ((spec_l1Below.f bt607.1 bt627.2.1 bt627.2.2 3).bind fun bt633 => (if 0 ≤ bt633.1 then (if bt633.1 < (y630.length : Int) then (some (bt627.1, rd y630 bt633.1)) else (none)) else (none)))))))
theorem spec_DrawSplitWords.mono : ∀ a0 k, LeO (spec_DrawSplitWords.f k a0) (spec_DrawSplitWords.f (k + 1) a0) := by
 intro a0 k
 unfold spec_DrawSplitWords.f
 repeat' first
   | (with_reducible exact spec_RulesText.mono _ _ _ _ _ _ _ _ _)
   | (with_reducible exact spec_l1New.mono _ _)
   | (with_reducible exact LeO.refl _)
   | (with_reducible exact LeO.none _)
   | (with_reducible refine LeO.ite ?_ ?_)
   | (with_reducible refine LeO.bind ?_ (fun _ => ?_))
   | exact spec_RulesText.mono _ _ _ _ _ _ _ _ _
   | exact spec_l1New.mono _ _
   | exact LeO.none _
   | refine LeO.ite ?_ ?_
   | refine LeO.bind ?_ (fun _ => ?_)
def spec_DrawSplitWords.T2 : Bool × List (List Nat × List Nat) := (true, [([], []), ([], []), ([1, 1], [1]), ([2], [2]), ([0, 3, 2], [0, 3]), ([], []), ([], []), ([6, 4], [6]), ([5, 7], [5, 7]), ([8], [8]), ([4, 7, 0, 1, 2, 3, 4], [4]), ([9, 10, 0, 1, 2, 3, 4, 5, 6, 7, 8, 9, 10], [9])])
def spec_DrawSplitWords.B2 : List Nat := [0, 0, 2, 6, 15, 0, 0, 95, 255, 511, 223, 2047]
theorem spec_DrawSplitWords.tab2 : rtab .any (opsOf Tryd.f14 2) = spec_DrawSplitWords.T2 := by kernel_rfl
theorem spec_DrawSplitWords.bits2 : waitsOk spec_DrawSplitWords.T2.2 spec_DrawSplitWords.B2 = true := by kernel_rfl
set_option maxHeartbeats 8000000 in
set_option maxRecDepth 100000 in
theorem spec_DrawSplitWords.calls (k : Nat) (A0 : Option Addr) (c0 : Nat) (l0 : List Int) (r1 : ByteArray) (r2 : Int) (w : World) (hr0 : Kd.C (Kd.int .u8) w A0 l0.length l0) (hc0 : l0.length ≤ c0) (h : spec_DrawSplitWords.f k l0 = some (r1, r2)) :
  Calls Tryd.prog 14 #[.slice A0 l0.length c0] w fun e w' => e = .returned (.tuple #[.string r1,.int .u8 r2]) ∧ Below w.heap.size w w' := by
 have HR0 := Qd hr0
 have HC0 := Qd hc0
 clear hr0 hc0
 have HB := Qd (Below.refl w.heap.size w)
 have H : ((spec_l1New.f k l0).bind fun bt607 => ((spec_EasyRules.f).bind fun bt611 => ((spec_RulesText.f k bt611.1 bt611.2.1 bt611.2.2.1 bt611.2.2.2.1 bt611.2.2.2.2.1 bt611.2.2.2.2.2.1 bt611.2.2.2.2.2.2.1 bt611.2.2.2.2.2.2.2).bind fun t623 => ((spec_l1Str.f bt607.1 bt607.2.1 bt607.2.2 (([(⟨#[]⟩ : ByteArray),(⟨#[97,32,98]⟩ : ByteArray),(⟨#[32,97]⟩ : ByteArray),(⟨#[97,32,32,98,32]⟩ : ByteArray),(⟨#[97,44,98]⟩ : ByteArray),t623] : List ByteArray))).bind fun bt627 => ((some (([32,44,61] : List Int) : List Int)).bind fun y630 => ((spec_l1Below.f bt607.1 bt627.2.1 bt627.2.2 3).bind fun bt633 => (if 0 ≤ bt633.1 then (if bt633.1 < (y630.length : Int) then (some (bt627.1,rd y630 bt633.1)) else (none)) else (none)))))))) = some (r1,r2) := h
 clear h
 replace H := Qe.mp H
 obtain ⟨⟨t607,t608,t609⟩,A20,H⟩ := H
 replace H : ((spec_EasyRules.f).bind fun bt611 => ((spec_RulesText.f k bt611.1 bt611.2.1 bt611.2.2.1 bt611.2.2.2.1 bt611.2.2.2.2.1 bt611.2.2.2.2.2.1 bt611.2.2.2.2.2.2.1 bt611.2.2.2.2.2.2.2).bind fun t623 => ((spec_l1Str.f t607 t608 t609 (([(⟨#[]⟩ : ByteArray),(⟨#[97,32,98]⟩ : ByteArray),(⟨#[32,97]⟩ : ByteArray),(⟨#[97,32,32,98,32]⟩ : ByteArray),(⟨#[97,44,98]⟩ : ByteArray),t623] : List ByteArray))).bind fun bt627 => ((some (([32,44,61] : List Int) : List Int)).bind fun y630 => ((spec_l1Below.f t607 bt627.2.1 bt627.2.2 3).bind fun bt633 => (if 0 ≤ bt633.1 then (if bt633.1 < (y630.length : Int) then (some (bt627.1,rd y630 bt633.1)) else (none)) else (none))))))) = some (r1,r2) := H
 have A2 := Qd A20
 clear A20
 replace H := Qe.mp H
 obtain ⟨⟨t611,t612,t613,t614,t615,t618,t621,t622⟩,A30,H⟩ := H
 replace H : ((spec_RulesText.f k t611 t612 t613 t614 t615 t618 t621 t622).bind fun t623 => ((spec_l1Str.f t607 t608 t609 (([(⟨#[]⟩ : ByteArray),(⟨#[97,32,98]⟩ : ByteArray),(⟨#[32,97]⟩ : ByteArray),(⟨#[97,32,32,98,32]⟩ : ByteArray),(⟨#[97,44,98]⟩ : ByteArray),t623] : List ByteArray))).bind fun bt627 => ((some (([32,44,61] : List Int) : List Int)).bind fun y630 => ((spec_l1Below.f t607 bt627.2.1 bt627.2.2 3).bind fun bt633 => (if 0 ≤ bt633.1 then (if bt633.1 < (y630.length : Int) then (some (bt627.1,rd y630 bt633.1)) else (none)) else (none)))))) = some (r1,r2) := H
 have A3 := Qd A30
 clear A30
 replace H := Qe.mp H
 obtain ⟨t623,A40,H⟩ := H
 replace H : ((spec_l1Str.f t607 t608 t609 (([(⟨#[]⟩ : ByteArray),(⟨#[97,32,98]⟩ : ByteArray),(⟨#[32,97]⟩ : ByteArray),(⟨#[97,32,32,98,32]⟩ : ByteArray),(⟨#[97,44,98]⟩ : ByteArray),t623] : List ByteArray))).bind fun bt627 => ((some (([32,44,61] : List Int) : List Int)).bind fun y630 => ((spec_l1Below.f t607 bt627.2.1 bt627.2.2 3).bind fun bt633 => (if 0 ≤ bt633.1 then (if bt633.1 < (y630.length : Int) then (some (bt627.1,rd y630 bt633.1)) else (none)) else (none))))) = some (r1,r2) := H
 have A4 := Qd A40
 clear A40
 obtain ⟨y624,hy624⟩ : ∃ y_ : List ByteArray,y_ = (([(⟨#[]⟩ : ByteArray),(⟨#[97,32,98]⟩ : ByteArray),(⟨#[32,97]⟩ : ByteArray),(⟨#[97,32,32,98,32]⟩ : ByteArray),(⟨#[97,44,98]⟩ : ByteArray),t623] : List ByteArray)) := ⟨_,rfl⟩
 replace H : ((spec_l1Str.f t607 t608 t609 y624).bind fun bt627 => ((some (([32,44,61] : List Int) : List Int)).bind fun y630 => ((spec_l1Below.f t607 bt627.2.1 bt627.2.2 3).bind fun bt633 => (if 0 ≤ bt633.1 then (if bt633.1 < (y630.length : Int) then (some (bt627.1,rd y630 bt633.1)) else (none)) else (none))))) = some (r1,r2) := by first | (rw [hy624]; with_reducible exact H) | (have H2_ := (Option.bind_some _ _).symm.trans H; rw [hy624]; with_reducible exact H2_) | (have H2_ := (Option.bind_some _ _).symm.trans H; with_reducible exact H2_) | with_reducible exact H | (rw [hy624]; exact H) | exact H
 have Ny624 := Qd hy624
 clear hy624
 replace H := Qe.mp H
 obtain ⟨⟨t627,t628,t629⟩,A50,H⟩ := H
 replace H : ((some (([32,44,61] : List Int) : List Int)).bind fun y630 => ((spec_l1Below.f t607 t628 t629 3).bind fun bt633 => (if 0 ≤ bt633.1 then (if bt633.1 < (y630.length : Int) then (some (t627,rd y630 bt633.1)) else (none)) else (none)))) = some (r1,r2) := H
 have A5 := Qd A50
 clear A50
 obtain ⟨y630,hy630⟩ : ∃ y_ : List Int,y_ = (([32,44,61] : List Int)) := ⟨_,rfl⟩
 replace H : ((spec_l1Below.f t607 t628 t629 3).bind fun bt633 => (if 0 ≤ bt633.1 then (if bt633.1 < (y630.length : Int) then (some (t627,rd y630 bt633.1)) else (none)) else (none))) = some (r1,r2) := by first | (rw [hy630]; with_reducible exact H) | (have H2_ := (Option.bind_some _ _).symm.trans H; rw [hy630]; with_reducible exact H2_) | (have H2_ := (Option.bind_some _ _).symm.trans H; with_reducible exact H2_) | with_reducible exact H | (rw [hy630]; exact H) | exact H
 have Ny630 := Qd hy630
 clear hy630
 replace H := Qe.mp H
 obtain ⟨⟨t633,t634,t635⟩,A60,H⟩ := H
 replace H : (if 0 ≤ t633 then (if t633 < (y630.length : Int) then (some (t627,rd y630 t633)) else (none)) else (none)) = some (r1,r2) := H
 have A6 := Qd A60
 clear A60
 by_cases c7 : 0 ≤ t633
 ·rw [if_pos c7] at H
  have c7b0 : decide (0 ≤ t633) = true := decide_eq_true c7
  clear c7
  by_cases c8 : t633 < (y630.length : Int)
  ·rw [if_pos c8] at H
   have c8b0 : decide (t633 < (y630.length : Int)) = true := decide_eq_true c8
   clear c8
   simp only [Option.some.injEq,Prod.mk.injEq] at H
   obtain ⟨rfl,rfl⟩ := H
   go_enter Tryd.func14,Tryd.ntmps14
   try go_wp2_with (first | ((with_reducible refine Qa (f := 34) rfl ?_); refine goesL_ (some 6) rfl rfl Tryd.func34 (by kernel_rfl) rfl #[.slice A0 l0.length c0] rfl (by (try simp only [List.map_toArray,List.map_cons,List.map_nil]); first | done | rfl | (simp only [List.length_drop,List.length_take]; rfl)) ?_; (with_reducible refine (spec_l1New.calls k _ _ l0 t607 t608 t609 w _ ?side1 ?side2 ?side3 A2.out).mono ?_); (case side1 => repeat (first | (with_reducible first | exact HB.out | apply QJ | apply QE | apply QI) | exact HB.out)); (case side2 => exact HR0.out); (case side3 => exact HC0.out); rintro e w9 ⟨g610,rfl,hi,hb,hb2⟩; refine ⟨_,rfl,?_⟩; have n0_ := Qd (hb); have n1_ := Qd (hi); clear HB; revert n0_ n1_; intro HB HI610; (try clear hb); (try clear hb2); (try clear hk); (try clear hi)))
   have pi636 : (0 ≤ (t633 : Int)) = True := eq_true (of_decide_eq_true (by first | (with_reducible assumption) | assumption))
   have qi636 : (t633 < (y630.length : Int)) = True := eq_true (of_decide_eq_true (by first | (with_reducible assumption) | assumption))
   have n0_ := Qd (IsS80.drew HI610.out)
   have n1_ := Qd (QI HB.out)
   clear HI610
   clear HB
   revert n0_ n1_
   intro HI610 HB
   refine start_ (n := 12) (S := fun w' => True) (ds := []) #[false,false,false,false,false,false,false,false,false,false,false,false] (by kernel_rfl) rfl rfl trivial (fun hHeld => ?_); refine with_tabW spec_DrawSplitWords.tab2 spec_DrawSplitWords.bits2 (fun HT_ HW_ => ?_)
   generalize w9.drew = w10 at HI610 HB hHeld ⊢
   refine pure_ (i := 0) (N := some 7) (v := ?_) (a' := ?_) #[true,false,false,false,false,false,false,false,false,false,false,false] rfl rfl (any_of HT_.out (by kernel_rfl)) (fun _ _ _ h => h) (Or.inl ⟨by rfl,?_⟩) ?_ ?_
   rotate_left
   ·intro w'
    go_simp
    with_reducible rfl
   rotate_left
   ·simp only [Act.put,List.setIfInBounds_toArray,List.set_cons_zero,List.set_cons_succ,i64_w,i32_w]
    rfl
   refine pure_ (i := 6) (N := some 13) (v := ?_) (a' := ?_) #[true,false,false,false,false,false,true,false,false,false,false,false] rfl rfl (any_of HT_.out (by kernel_rfl)) (fun _ _ _ h => h) (Or.inl ⟨by rfl,?_⟩) ?_ ?_
   rotate_left
   ·intro w'
    go_simp
    with_reducible rfl
   rotate_left
   ·simp only [Act.put,List.setIfInBounds_toArray,List.set_cons_zero,List.set_cons_succ,i64_w,i32_w]
    rfl
   refine inv_at [1,2,3,4,5,7,8,9,10,11] (fun a0_ b a w' => ∃ (v616 : Value) (v619 : Value) (v625 : Value) (v631 : Value) (adz_v631 : Addr) (m1_ : Value) (m8_ : Value),a = putSel a0_ b [(1,8,m1_),(2,9,.string t623),(3,10,v625),(4,11,.string t627),(5,12,v631),(7,14,.int .i64 t633),(8,15,m8_),(9,16,.int .u8 (rd y630 t633)),(10,2,.string t627),(11,3,.int .u8 (rd y630 t633))] ∧ (b 4 = false → IsS80 w w' g610 t607 t608 t609) ∧ (Below w.heap.size w w') ∧ (b 1 = true → Kd.R (Kd.int .i64) 3 w' w.heap.size (fun _ => True) v616 t615) ∧ (b 1 = true → Kd.R (Kd.int .i64) 3 w' w.heap.size (fun _ => True) v619 t618) ∧ (b 3 = true → Kd.R Kd.string 9 w' w.heap.size (fun _ => True) v625 y624) ∧ (b 4 = true → b 7 = false → IsS80 w w' g610 t607 t628 t629) ∧ (b 5 = true → Kd.R (Kd.int .u8) 5 w' w.heap.size (fun _ => True) v631 y630) ∧ (b 5 = true → ∃ c_,(v631 : Value) = .slice (some adz_v631) y630.length c_) ∧ (b 7 = true → IsS80 w w' g610 t607 t634 t635) ∧ (b 1 = true → (m1_ : Value) = .agg #[.int .i64 t611,.int .i64 t612,.bool t613,.bool t614,v616,v619,.int .i64 t621,.int .i64 t622]) ∧ (b 8 = true → (m8_ : Value) = .pointer (some (adz_v631.add (t633).toNat)))) HT_.out HW_.out (by kernel_rfl) (by kernel_rfl) ?_ ?_ ?_
   ·exact ⟨.bool false,.bool false,.bool false,.bool false,⟨0,0,none⟩,.bool false,.bool false,by simp only [putSel,Bool.false_eq_true,if_false],fun _ => HI610.out,HB.out,fun h_ => absurd h_ (by decide),fun h_ => absurd h_ (by decide),fun h_ => absurd h_ (by decide),fun h_ => absurd h_ (by decide),fun h_ => absurd h_ (by decide),fun h_ => absurd h_ (by decide),fun h_ => absurd h_ (by decide),fun h_ => absurd h_ (by decide),fun h_ => absurd h_ (by decide)⟩
   ·skip
    clear HB HI610
    refine steps_cons ?_ ?_
    ·rintro b a w' ⟨v616,v619,v625,v631,adz_v631,m1_,m8_,ha,Q_HI610,Q_HB,Q_HO617,Q_HO620,Q_HO626,Q_HI610_e4,Q_HO632,Q_HA_HO632,Q_HI610_e7,Q_X1_,Q_X8_⟩ hb_ hon hoff
     refine ⟨_,rfl,fun K hK => ?_⟩
     replace ha := Qd ha
     have HI610 := Qd (Q_HI610 (hoff 4 (by kernel_rfl)))
     have HB := Qd Q_HB
     refine goes_ Tryd.func36 (by kernel_rfl) rfl #[] (by rfl) rfl rfl (by first | (simp only [List.map_toArray,List.map_cons,List.map_nil,Act.eval,Array.getD_eq_getD_getElem?,Option.getD_some]; done) | (simp only [List.map_toArray,List.map_cons,List.map_nil,Act.eval,Array.getD_eq_getD_getElem?,Option.getD_some]; rfl)) ?_
     with_reducible refine (spec_EasyRules.calls  t611 t612 t613 t614 t615 t618 t621 t622 _ A3.out).mono ?_
     rintro e w11 ⟨v616,v619,rfl,ho0,ho1,hb⟩
     refine ⟨_,rfl,?_⟩
     have n0_ := Qd (Kd.R_lower ho0 (Qc (by repeat (first | (with_reducible first | exact HB.out | apply QJ | apply QE | apply QI | refine QF ?_ (IsS80.ge HI610.out)) | exact HB.out))))
     have n1_ := Qd (Kd.R_lower ho1 (Qc (by repeat (first | (with_reducible first | exact HB.out | apply QJ | apply QE | apply QI | refine QF ?_ (IsS80.ge HI610.out)) | exact HB.out))))
     have n2_ := Qd (IsS80.below (by repeat (first | (with_reducible first | exact HI610.out | apply IsS80.alloc | apply IsS80.drewN | apply IsS80.drew | apply IsS80.set_1 | apply IsS80.set_2) | exact HI610.out)) hb)
     have n3_ := Qd (QX (by repeat (first | (with_reducible first | exact HB.out | apply QJ | apply QE | apply QI | refine QF ?_ (IsS80.ge HI610.out)) | exact HB.out)) hb)
     have z_HO632 := fun (h0_ : b 5 = true) => (show Kd.R (Kd.int .u8) 5 w11 w.heap.size (fun _ => True) v631 y630 from by first | exact (QL (by (with_reducible repeat (first | apply QB | apply QC | apply QD)); exact (Q_HO632 h0_)) hb) | exact QO (QL (by (with_reducible repeat (first | apply QB | apply QC | apply QD)); exact (Q_HO632 h0_)) hb) (fun _ h_ => by first | trivial | exact h_ | exact h_.1))
     clear HI610
     clear HB
     revert n0_ n1_ n2_ n3_
     intro HO617 HO620 HI610 HB
     (try clear hb)
     (try clear hb2)
     (try clear hk)
     (try clear hi)
     (try clear ho0)
     (try clear ho1)
     refine hK.out _ _ ⟨v616,v619,v625,v631,adz_v631,(.agg #[.int .i64 t611,.int .i64 t612,.bool t613,.bool t614,v616,v619,.int .i64 t621,.int .i64 t622]),m8_,(by rw [ha.out]; exact putSel_upk 0 hb_ rfl rfl rfl),fun _ => (by repeat (first | (with_reducible first | exact HI610.out | apply IsS80.alloc | apply IsS80.drewN | apply IsS80.drew | apply IsS80.set_1 | apply IsS80.set_2) | exact HI610.out)),(by repeat (first | (with_reducible first | exact HB.out | apply QJ | apply QE | apply QI | refine QF ?_ (IsS80.ge HI610.out)) | exact HB.out)),fun _ => (by (with_reducible repeat (first | apply QB | apply QC | apply QD)); first | exact HO617.out | exact QO HO617.out (fun _ _ => trivial)),fun _ => (by (with_reducible repeat (first | apply QB | apply QC | apply QD)); first | exact HO620.out | exact QO HO620.out (fun _ _ => trivial)),fun h0_ => absurd ((hoff 3 (by kernel_rfl)).symm.trans h0_) (by decide),fun h0_ _ => absurd ((hoff 4 (by kernel_rfl)).symm.trans h0_) (by decide),z_HO632,Q_HA_HO632,fun h0_ => absurd ((hoff 7 (by kernel_rfl)).symm.trans h0_) (by decide),fun _ => rfl,fun h0_ => absurd ((hoff 8 (by kernel_rfl)).symm.trans h0_) (by decide)⟩
    refine steps_cons ?_ ?_
    ·rintro b a w' ⟨v616,v619,v625,v631,adz_v631,m1_,m8_,ha,Q_HI610,Q_HB,Q_HO617,Q_HO620,Q_HO626,Q_HI610_e4,Q_HO632,Q_HA_HO632,Q_HI610_e7,Q_X1_,Q_X8_⟩ hb_ hon hoff
     refine ⟨_,rfl,fun K hK => ?_⟩
     have e8 : a.tmps[8]? = some (m1_) := by rw [ha]; exact putSel_on (e := (1,8,m1_)) 0 rfl rfl (hon 1 (by kernel_rfl)) rfl
     rw [Q_X1_ (hon 1 (by kernel_rfl))] at e8
     replace ha := Qd ha
     have HI610 := Qd (Q_HI610 (hoff 4 (by kernel_rfl)))
     have HB := Qd Q_HB
     have HO617 := Qd (Q_HO617 (hon 1 (by kernel_rfl)))
     have HO620 := Qd (Q_HO620 (hon 1 (by kernel_rfl)))
     obtain ⟨Ao13,co13,eo13⟩ := Kd.R_slice HO617.out
     (first | subst eo13 | (injection eo13 with f1_ f2_ f3_; have f4_ := f1_.symm; have f5_ := f3_.symm; clear f1_ f2_ f3_; subst f4_; subst f5_))
     obtain ⟨Ao14,co14,eo14⟩ := Kd.R_slice HO620.out
     (first | subst eo14 | (injection eo14 with f1_ f2_ f3_; have f4_ := f1_.symm; have f5_ := f3_.symm; clear f1_ f2_ f3_; subst f4_; subst f5_))
     refine goes_ Tryd.func23 (by kernel_rfl) rfl #[.agg #[.int .i64 t611,.int .i64 t612,.bool t613,.bool t614,.slice Ao13 t615.length co13,.slice Ao14 t618.length co14,.int .i64 t621,.int .i64 t622]] (by rfl) rfl rfl (by first | (simp only [List.map_toArray,List.map_cons,List.map_nil,Act.eval,Array.getD_eq_getD_getElem?,Option.getD_some,e8]; done) | (simp only [List.map_toArray,List.map_cons,List.map_nil,Act.eval,Array.getD_eq_getD_getElem?,Option.getD_some,e8]; rfl)) ?_
     with_reducible refine (spec_RulesText.calls k t611 t612 t613 t614 _ _ t615 _ _ t618 t621 t622 t623 _ ?side1 ?side2 ?side3 ?side4 A4.out).mono ?_
     (case side1 => repeat (first | exact (QR HO617.out).2.2 | (with_reducible refine QV ?_ _) | (with_reducible refine QW ?_ _) | (with_reducible refine QZ ?_)))
     (case side2 => exact (QR HO617.out).2.1)
     (case side3 => repeat (first | exact (QR HO620.out).2.2 | (with_reducible refine QV ?_ _) | (with_reducible refine QW ?_ _) | (with_reducible refine QZ ?_)))
     (case side4 => exact (QR HO620.out).2.1)
     rintro e w15 ⟨rfl,hb⟩
     refine ⟨_,rfl,?_⟩
     have n0_ := Qd (QL (by (with_reducible repeat (first | apply QB | apply QC | apply QD)); exact HO617.out) hb)
     have n1_ := Qd (QL (by (with_reducible repeat (first | apply QB | apply QC | apply QD)); exact HO620.out) hb)
     have n2_ := Qd (IsS80.below (by repeat (first | (with_reducible first | exact HI610.out | apply IsS80.alloc | apply IsS80.drewN | apply IsS80.drew | apply IsS80.set_1 | apply IsS80.set_2) | exact HI610.out)) hb)
     have n3_ := Qd (QX (by repeat (first | (with_reducible first | exact HB.out | apply QJ | apply QE | apply QI | refine QF ?_ (IsS80.ge HI610.out)) | exact HB.out)) hb)
     have z_HO632 := fun (h0_ : b 5 = true) => (show Kd.R (Kd.int .u8) 5 w15 w.heap.size (fun _ => True) v631 y630 from by first | exact (QL (by (with_reducible repeat (first | apply QB | apply QC | apply QD)); exact (Q_HO632 h0_)) hb) | exact QO (QL (by (with_reducible repeat (first | apply QB | apply QC | apply QD)); exact (Q_HO632 h0_)) hb) (fun _ h_ => by first | trivial | exact h_ | exact h_.1))
     clear HO617
     clear HO620
     clear HI610
     clear HB
     revert n0_ n1_ n2_ n3_
     intro HO617 HO620 HI610 HB
     (try clear hb)
     (try clear hb2)
     (try clear hk)
     (try clear hi)
     refine hK.out _ _ ⟨.slice Ao13 t615.length co13,.slice Ao14 t618.length co14,v625,v631,adz_v631,m1_,m8_,(by rw [ha.out]; exact putSel_upk 1 hb_ rfl rfl rfl),fun _ => (by repeat (first | (with_reducible first | exact HI610.out | apply IsS80.alloc | apply IsS80.drewN | apply IsS80.drew | apply IsS80.set_1 | apply IsS80.set_2) | exact HI610.out)),(by repeat (first | (with_reducible first | exact HB.out | apply QJ | apply QE | apply QI | refine QF ?_ (IsS80.ge HI610.out)) | exact HB.out)),fun _ => (by (with_reducible repeat (first | apply QB | apply QC | apply QD)); first | exact HO617.out | exact QO HO617.out (fun _ _ => trivial)),fun _ => (by (with_reducible repeat (first | apply QB | apply QC | apply QD)); first | exact HO620.out | exact QO HO620.out (fun _ _ => trivial)),fun h0_ => absurd ((hoff 3 (by kernel_rfl)).symm.trans h0_) (by decide),fun h0_ _ => absurd ((hoff 4 (by kernel_rfl)).symm.trans h0_) (by decide),z_HO632,Q_HA_HO632,fun h0_ => absurd ((hoff 7 (by kernel_rfl)).symm.trans h0_) (by decide),Q_X1_,fun h0_ => absurd ((hoff 8 (by kernel_rfl)).symm.trans h0_) (by decide)⟩
    refine steps_cons ?_ ?_
    ·rintro b a w' ⟨v616,v619,v625,v631,adz_v631,m1_,m8_,ha,Q_HI610,Q_HB,Q_HO617,Q_HO620,Q_HO626,Q_HI610_e4,Q_HO632,Q_HA_HO632,Q_HI610_e7,Q_X1_,Q_X8_⟩ hb_ hon hoff
     refine ⟨_,rfl,fun K hK => ?_⟩
     have e9 : a.tmps[9]? = some (.string t623) := by rw [ha]; exact putSel_on (e := (2,9,.string t623)) 1 rfl rfl (hon 2 (by kernel_rfl)) rfl
     replace ha := Qd ha
     have HI610 := Qd (Q_HI610 (hoff 4 (by kernel_rfl)))
     have HB := Qd Q_HB
     have HO617 := Qd (Q_HO617 (hon 1 (by kernel_rfl)))
     have HO620 := Qd (Q_HO620 (hon 1 (by kernel_rfl)))
     refine Kd.R_lit_step Kd.string _ 9 ?hg (N := 10) ?hd (xs := ([(⟨#[]⟩ : ByteArray),(⟨#[97,32,98]⟩ : ByteArray),(⟨#[32,97]⟩ : ByteArray),(⟨#[97,32,32,98,32]⟩ : ByteArray),(⟨#[97,44,98]⟩ : ByteArray),t623] : List ByteArray)) (inner := [.string (⟨#[]⟩ : ByteArray),.string (⟨#[97,32,98]⟩ : ByteArray),.string (⟨#[32,97]⟩ : ByteArray),.string (⟨#[97,32,32,98,32]⟩ : ByteArray),.string (⟨#[97,44,98]⟩ : ByteArray),.string t623]) (ok := fun _ => True) (okp := fun _ => True) ?hr ?hp (fun _ hk => hk) trivial (Below.refl _ _) (Nat.le_refl _) (by simp) ?_; (case hd => rfl); (case hg => rfl); (case hr => first | (go_simp; done) | (go_simp; rfl)); (case hp => exact (Reps.one (show Kd.M Kd.string _ _ _ (⟨#[]⟩ : ByteArray) [.string (⟨#[]⟩ : ByteArray)] from rfl) (Reps.one (show Kd.M Kd.string _ _ _ (⟨#[97,32,98]⟩ : ByteArray) [.string (⟨#[97,32,98]⟩ : ByteArray)] from rfl) (Reps.one (show Kd.M Kd.string _ _ _ (⟨#[32,97]⟩ : ByteArray) [.string (⟨#[32,97]⟩ : ByteArray)] from rfl) (Reps.one (show Kd.M Kd.string _ _ _ (⟨#[97,32,32,98,32]⟩ : ByteArray) [.string (⟨#[97,32,32,98,32]⟩ : ByteArray)] from rfl) (Reps.one (show Kd.M Kd.string _ _ _ (⟨#[97,44,98]⟩ : ByteArray) [.string (⟨#[97,44,98]⟩ : ByteArray)] from rfl) (Reps.one (show Kd.M Kd.string _ _ _ t623 [.string t623] from rfl) (Reps.none _ _))))))))
     intro v625 w16 ho17 hb hg_ hnew_
     clear hg_ hnew_
     (first | rw [← Ny624.out] at ho17 | (simp only [Int.reduceToNat] at ho17; rw [← Ny624.out] at ho17))
     have n0_ := Qd (QL (by (with_reducible repeat (first | apply QB | apply QC | apply QD)); exact HO617.out) hb)
     have n1_ := Qd (QL (by (with_reducible repeat (first | apply QB | apply QC | apply QD)); exact HO620.out) hb)
     have n2_ := Qd (Kd.R_lower ho17 (Qc (by repeat (first | (with_reducible first | exact HB.out | apply QJ | apply QE | apply QI | refine QF ?_ (IsS80.ge HI610.out)) | exact HB.out))))
     have n3_ := Qd (IsS80.below (by repeat (first | (with_reducible first | exact HI610.out | apply IsS80.alloc | apply IsS80.drewN | apply IsS80.drew | apply IsS80.set_1 | apply IsS80.set_2) | exact HI610.out)) hb)
     have n4_ := Qd (QX (by repeat (first | (with_reducible first | exact HB.out | apply QJ | apply QE | apply QI | refine QF ?_ (IsS80.ge HI610.out)) | exact HB.out)) hb)
     have z_HO632 := fun (h0_ : b 5 = true) => (show Kd.R (Kd.int .u8) 5 w16 w.heap.size (fun _ => True) v631 y630 from by first | exact (QL (by (with_reducible repeat (first | apply QB | apply QC | apply QD)); exact (Q_HO632 h0_)) hb) | exact QO (QL (by (with_reducible repeat (first | apply QB | apply QC | apply QD)); exact (Q_HO632 h0_)) hb) (fun _ h_ => by first | trivial | exact h_ | exact h_.1))
     clear HO617
     clear HO620
     clear HI610
     clear HB
     revert n0_ n1_ n2_ n3_ n4_
     intro HO617 HO620 HO626 HI610 HB
     clear hb ho17
     refine hK.out _ _ ⟨v616,v619,v625,v631,adz_v631,m1_,m8_,(by rw [ha.out]; exact putSel_upk 2 hb_ rfl rfl rfl),fun _ => (by repeat (first | (with_reducible first | exact HI610.out | apply IsS80.alloc | apply IsS80.drewN | apply IsS80.drew | apply IsS80.set_1 | apply IsS80.set_2) | exact HI610.out)),(by repeat (first | (with_reducible first | exact HB.out | apply QJ | apply QE | apply QI | refine QF ?_ (IsS80.ge HI610.out)) | exact HB.out)),fun _ => (by (with_reducible repeat (first | apply QB | apply QC | apply QD)); first | exact HO617.out | exact QO HO617.out (fun _ _ => trivial)),fun _ => (by (with_reducible repeat (first | apply QB | apply QC | apply QD)); first | exact HO620.out | exact QO HO620.out (fun _ _ => trivial)),fun _ => (by (with_reducible repeat (first | apply QB | apply QC | apply QD)); first | exact HO626.out | exact QO HO626.out (fun _ _ => trivial)),fun h0_ _ => absurd ((hoff 4 (by kernel_rfl)).symm.trans h0_) (by decide),z_HO632,Q_HA_HO632,fun h0_ => absurd ((hoff 7 (by kernel_rfl)).symm.trans h0_) (by decide),Q_X1_,fun h0_ => absurd ((hoff 8 (by kernel_rfl)).symm.trans h0_) (by decide)⟩
    refine steps_cons ?_ ?_
    ·rintro b a w' ⟨v616,v619,v625,v631,adz_v631,m1_,m8_,ha,Q_HI610,Q_HB,Q_HO617,Q_HO620,Q_HO626,Q_HI610_e4,Q_HO632,Q_HA_HO632,Q_HI610_e7,Q_X1_,Q_X8_⟩ hb_ hon hoff
     refine ⟨_,rfl,fun K hK => ?_⟩
     have e7 : a.tmps[7]? = some (.pointer (some ⟨g610,0,none⟩)) := by rw [ha]; exact (putSel_off rfl).trans rfl
     have e10 : a.tmps[10]? = some (v625) := by rw [ha]; exact putSel_on (e := (3,10,v625)) 2 rfl rfl (hon 3 (by kernel_rfl)) rfl
     replace ha := Qd ha
     have HI610 := Qd (Q_HI610 hb_)
     have HB := Qd Q_HB
     have HO617 := Qd (Q_HO617 (hon 1 (by kernel_rfl)))
     have HO620 := Qd (Q_HO620 (hon 1 (by kernel_rfl)))
     have HO626 := Qd (Q_HO626 (hon 3 (by kernel_rfl)))
     obtain ⟨Ao18,co18,eo18⟩ := Kd.R_slice HO626.out
     (first | subst eo18 | (injection eo18 with f1_ f2_ f3_; have f4_ := f1_.symm; have f5_ := f3_.symm; clear f1_ f2_ f3_; subst f4_; subst f5_))
     refine goes_ Tryd.func37 (by kernel_rfl) rfl #[.pointer (some ⟨g610,0,none⟩),.slice Ao18 y624.length co18] (by rfl) rfl rfl (by first | (simp only [List.map_toArray,List.map_cons,List.map_nil,Act.eval,Array.getD_eq_getD_getElem?,Option.getD_some,e7,e10]; done) | (simp only [List.map_toArray,List.map_cons,List.map_nil,Act.eval,Array.getD_eq_getD_getElem?,Option.getD_some,e7,e10]; rfl)) ?_
     with_reducible refine (spec_l1Str.calls g610 t607 t608 t609 _ _ y624 t627 t628 t629 w _ ?side1 ?side2 ?side3 ?side4 ?side5 A5.out).mono ?_
     (case side1 => repeat (first | (with_reducible first | exact HI610.out | apply IsS80.alloc | apply IsS80.drewN | apply IsS80.drew | apply IsS80.set_1 | apply IsS80.set_2) | exact HI610.out))
     (case side2 => repeat (first | (with_reducible first | exact HB.out | apply QJ | apply QE | apply QI | refine QF ?_ (IsS80.ge HI610.out)) | exact HB.out))
     (case side3 => repeat (first | exact (QR HO626.out).2.2 | (with_reducible refine QV ?_ _) | (with_reducible refine QW ?_ _) | (with_reducible refine QZ ?_)))
     (case side4 => exact (QR HO626.out).2.1)
     (case side5 => exact far_slice (IsS80.own_ne HI610.out HO626.out (by decide)))
     rintro e w19 ⟨rfl,hi,hb,hk⟩
     refine ⟨_,rfl,?_⟩
     have n0_ := Qd (QO (Kd.R_keep (IsS80.apart (show IsS80 w _ g610 t607 t608 t609 from by repeat (first | (with_reducible first | exact HI610.out | apply IsS80.alloc | apply IsS80.drewN | apply IsS80.drew | apply IsS80.set_1 | apply IsS80.set_2) | exact HI610.out)) (by (with_reducible repeat (first | apply QB | apply QC | apply QD)); exact HO617.out) (by decide)) hk (fun _ h => h.2)) (fun _ h => h.1))
     have n1_ := Qd (QO (Kd.R_keep (IsS80.apart (show IsS80 w _ g610 t607 t608 t609 from by repeat (first | (with_reducible first | exact HI610.out | apply IsS80.alloc | apply IsS80.drewN | apply IsS80.drew | apply IsS80.set_1 | apply IsS80.set_2) | exact HI610.out)) (by (with_reducible repeat (first | apply QB | apply QC | apply QD)); exact HO620.out) (by decide)) hk (fun _ h => h.2)) (fun _ h => h.1))
     have n2_ := Qd (QO (Kd.R_keep (IsS80.apart (show IsS80 w _ g610 t607 t608 t609 from by repeat (first | (with_reducible first | exact HI610.out | apply IsS80.alloc | apply IsS80.drewN | apply IsS80.drew | apply IsS80.set_1 | apply IsS80.set_2) | exact HI610.out)) (by (with_reducible repeat (first | apply QB | apply QC | apply QD)); exact HO626.out) (by decide)) hk (fun _ h => h.2)) (fun _ h => h.1))
     have n3_ := Qd (hb)
     have n4_ := Qd (hi)
     have z_HO632 := fun (h0_ : b 5 = true) => (show Kd.R (Kd.int .u8) 5 w19 w.heap.size (fun _ => True) v631 y630 from by first | exact (QO (Kd.R_keep (IsS80.apart (show IsS80 w _ g610 t607 t608 t609 from by repeat (first | (with_reducible first | exact HI610.out | apply IsS80.alloc | apply IsS80.drewN | apply IsS80.drew | apply IsS80.set_1 | apply IsS80.set_2) | exact HI610.out)) (by (with_reducible repeat (first | apply QB | apply QC | apply QD)); exact (Q_HO632 h0_)) (by decide)) hk (fun _ h => h.2)) (fun _ h => h.1)) | exact QO (QO (Kd.R_keep (IsS80.apart (show IsS80 w _ g610 t607 t608 t609 from by repeat (first | (with_reducible first | exact HI610.out | apply IsS80.alloc | apply IsS80.drewN | apply IsS80.drew | apply IsS80.set_1 | apply IsS80.set_2) | exact HI610.out)) (by (with_reducible repeat (first | apply QB | apply QC | apply QD)); exact (Q_HO632 h0_)) (by decide)) hk (fun _ h => h.2)) (fun _ h => h.1)) (fun _ h_ => by first | trivial | exact h_ | exact h_.1))
     clear HO617
     clear HO620
     clear HO626
     clear HB
     clear HI610
     revert n0_ n1_ n2_ n3_ n4_
     intro HO617 HO620 HO626 HB HI610
     (try clear hb)
     (try clear hb2)
     (try clear hk)
     (try clear hi)
     refine hK.out _ _ ⟨v616,v619,.slice Ao18 y624.length co18,v631,adz_v631,m1_,m8_,(by rw [ha.out]; exact putSel_upk 3 hb_ rfl rfl rfl),fun h0_ => absurd ((up_self b 4).symm.trans h0_) (by decide),(by repeat (first | (with_reducible first | exact HB.out | apply QJ | apply QE | apply QI | refine QF ?_ (IsS80.ge HI610.out)) | exact HB.out)),fun _ => (by (with_reducible repeat (first | apply QB | apply QC | apply QD)); first | exact HO617.out | exact QO HO617.out (fun _ _ => trivial)),fun _ => (by (with_reducible repeat (first | apply QB | apply QC | apply QD)); first | exact HO620.out | exact QO HO620.out (fun _ _ => trivial)),fun _ => (by (with_reducible repeat (first | apply QB | apply QC | apply QD)); first | exact HO626.out | exact QO HO626.out (fun _ _ => trivial)),fun _ _ => (by repeat (first | (with_reducible first | exact HI610.out | apply IsS80.alloc | apply IsS80.drewN | apply IsS80.drew | apply IsS80.set_1 | apply IsS80.set_2) | exact HI610.out)),z_HO632,Q_HA_HO632,fun h0_ => absurd ((hoff 7 (by kernel_rfl)).symm.trans h0_) (by decide),Q_X1_,fun h0_ => absurd ((hoff 8 (by kernel_rfl)).symm.trans h0_) (by decide)⟩
    refine steps_cons ?_ ?_
    ·rintro b a w' ⟨v616,v619,v625,v631,adz_v631,m1_,m8_,ha,Q_HI610,Q_HB,Q_HO617,Q_HO620,Q_HO626,Q_HI610_e4,Q_HO632,Q_HA_HO632,Q_HI610_e7,Q_X1_,Q_X8_⟩ hb_ hon hoff
     refine ⟨_,rfl,fun K hK => ?_⟩
     replace ha := Qd ha
     have HB := Qd Q_HB
     refine Kd.R_lit_step (Kd.int .u8) _ 5 ?hg (N := 12) ?hd (xs := ([32,44,61] : List Int)) (inner := [.int .u8 32,.int .u8 44,.int .u8 61]) (ok := fun _ => True) (okp := fun _ => True) ?hr ?hp (fun _ hk => hk) trivial (Below.refl _ _) (Nat.le_refl _) (by simp) ?_; (case hd => rfl); (case hg => rfl); (case hr => first | (go_simp; done) | (go_simp; rfl)); (case hp => exact (Reps.one (show Kd.M (Kd.int .u8) _ _ _ 32 [.int .u8 32] from rfl) (Reps.one (show Kd.M (Kd.int .u8) _ _ _ 44 [.int .u8 44] from rfl) (Reps.one (show Kd.M (Kd.int .u8) _ _ _ 61 [.int .u8 61] from rfl) (Reps.none _ _)))))
     intro v631 w11 ho12 hb hg_ hnew_
     clear hg_ hnew_
     (first | rw [← Ny630.out] at ho12 | (simp only [Int.reduceToNat] at ho12; rw [← Ny630.out] at ho12))
     have n0_ := Qd (Kd.R_lower ho12 (Qc (by repeat (first | (with_reducible first | exact HB.out | apply QJ | apply QE | apply QI) | exact HB.out))))
     have n2_ := Qd (QX (by repeat (first | (with_reducible first | exact HB.out | apply QJ | apply QE | apply QI) | exact HB.out)) hb)
     have z_HI610 := fun (h0_ : b 4 = false) => (show IsS80 w w11 g610 t607 t608 t609 from by first | exact (IsS80.below (by repeat (first | (with_reducible first | exact (Q_HI610 h0_) | apply IsS80.alloc | apply IsS80.drewN | apply IsS80.drew | apply IsS80.set_1 | apply IsS80.set_2) | exact (Q_HI610 h0_))) hb))
     have z_HO617 := fun (h0_ : b 1 = true) => (show Kd.R (Kd.int .i64) 3 w11 w.heap.size (fun _ => True) v616 t615 from by first | exact (QL (by (with_reducible repeat (first | apply QB | apply QC | apply QD)); exact (Q_HO617 h0_)) hb) | exact QO (QL (by (with_reducible repeat (first | apply QB | apply QC | apply QD)); exact (Q_HO617 h0_)) hb) (fun _ h_ => by first | trivial | exact h_ | exact h_.1))
     have z_HO620 := fun (h0_ : b 1 = true) => (show Kd.R (Kd.int .i64) 3 w11 w.heap.size (fun _ => True) v619 t618 from by first | exact (QL (by (with_reducible repeat (first | apply QB | apply QC | apply QD)); exact (Q_HO620 h0_)) hb) | exact QO (QL (by (with_reducible repeat (first | apply QB | apply QC | apply QD)); exact (Q_HO620 h0_)) hb) (fun _ h_ => by first | trivial | exact h_ | exact h_.1))
     have z_HO626 := fun (h0_ : b 3 = true) => (show Kd.R Kd.string 9 w11 w.heap.size (fun _ => True) v625 y624 from by first | exact (QL (by (with_reducible repeat (first | apply QB | apply QC | apply QD)); exact (Q_HO626 h0_)) hb) | exact QO (QL (by (with_reducible repeat (first | apply QB | apply QC | apply QD)); exact (Q_HO626 h0_)) hb) (fun _ h_ => by first | trivial | exact h_ | exact h_.1))
     have z_HI610_e4 := fun (h0_ : b 4 = true) (h1_ : b 7 = false) => (show IsS80 w w11 g610 t607 t628 t629 from by first | exact (IsS80.below (by repeat (first | (with_reducible first | exact (Q_HI610_e4 h0_ h1_) | apply IsS80.alloc | apply IsS80.drewN | apply IsS80.drew | apply IsS80.set_1 | apply IsS80.set_2) | exact (Q_HI610_e4 h0_ h1_))) hb))
     have z_HI610_e7 := fun (h0_ : b 7 = true) => (show IsS80 w w11 g610 t607 t634 t635 from by first | exact (IsS80.below (by repeat (first | (with_reducible first | exact (Q_HI610_e7 h0_) | apply IsS80.alloc | apply IsS80.drewN | apply IsS80.drew | apply IsS80.set_1 | apply IsS80.set_2) | exact (Q_HI610_e7 h0_))) hb))
     clear HB
     revert n0_ n2_
     intro HO632 HB
     clear hb ho12
     obtain ⟨Ao13,co13,eo13⟩ := Kd.R_slice HO632.out
     subst eo13
     obtain ⟨ado13,fo13,_⟩ := Kd.at_int (QR HO632.out).2.2 0 (by decide) (by rw [Ny630.out]; simp)
     cases fo13
     refine hK.out _ _ ⟨v616,v619,v625,.slice (some ado13) y630.length co13,ado13,m1_,m8_,(by rw [ha.out]; exact putSel_upk 4 hb_ rfl rfl rfl),z_HI610,(by repeat (first | (with_reducible first | exact HB.out | apply QJ | apply QE | apply QI) | exact HB.out)),z_HO617,z_HO620,z_HO626,z_HI610_e4,fun _ => (by (with_reducible repeat (first | apply QB | apply QC | apply QD)); first | exact HO632.out | exact QO HO632.out (fun _ _ => trivial)),fun _ => ⟨_,rfl⟩,z_HI610_e7,Q_X1_,fun h0_ => absurd ((hoff 8 (by kernel_rfl)).symm.trans h0_) (by decide)⟩
    refine steps_cons ?_ ?_
    ·rintro b a w' ⟨v616,v619,v625,v631,adz_v631,m1_,m8_,ha,Q_HI610,Q_HB,Q_HO617,Q_HO620,Q_HO626,Q_HI610_e4,Q_HO632,Q_HA_HO632,Q_HI610_e7,Q_X1_,Q_X8_⟩ hb_ hon hoff
     refine ⟨_,rfl,fun K hK => ?_⟩
     have e13 : a.tmps[13]? = some (.pointer (some ⟨g610,0,none⟩)) := by rw [ha]; exact (putSel_off rfl).trans rfl
     replace ha := Qd ha
     have HB := Qd Q_HB
     have HO617 := Qd (Q_HO617 (hon 1 (by kernel_rfl)))
     have HO620 := Qd (Q_HO620 (hon 1 (by kernel_rfl)))
     have HO626 := Qd (Q_HO626 (hon 3 (by kernel_rfl)))
     have HI610 := Qd (Q_HI610_e4 (hon 4 (by kernel_rfl)) hb_)
     refine goes_ Tryd.func38 (by kernel_rfl) rfl #[.pointer (some ⟨g610,0,none⟩),.int .i64 3] (by rfl) rfl rfl (by first | (simp only [List.map_toArray,List.map_cons,List.map_nil,Act.eval,Array.getD_eq_getD_getElem?,Option.getD_some,e13]; done) | (simp only [List.map_toArray,List.map_cons,List.map_nil,Act.eval,Array.getD_eq_getD_getElem?,Option.getD_some,e13]; rfl)) ?_
     with_reducible refine (spec_l1Below.calls g610 t607 t628 t629 3 t633 t634 t635 w _ ?side1 ?side2 A6.out).mono ?_
     (case side1 => repeat (first | (with_reducible first | exact HI610.out | apply IsS80.alloc | apply IsS80.drewN | apply IsS80.drew | apply IsS80.set_1 | apply IsS80.set_2) | exact HI610.out))
     (case side2 => repeat (first | (with_reducible first | exact HB.out | apply QJ | apply QE | apply QI | refine QF ?_ (IsS80.ge HI610.out)) | exact HB.out))
     rintro e w20 ⟨rfl,hi,hb,hk⟩
     refine ⟨_,rfl,?_⟩
     have n0_ := Qd (QO (Kd.R_keep (IsS80.apart (show IsS80 w _ g610 t607 t628 t629 from by repeat (first | (with_reducible first | exact HI610.out | apply IsS80.alloc | apply IsS80.drewN | apply IsS80.drew | apply IsS80.set_1 | apply IsS80.set_2) | exact HI610.out)) (by (with_reducible repeat (first | apply QB | apply QC | apply QD)); exact HO617.out) (by decide)) hk (fun _ h => h.2)) (fun _ h => h.1))
     have n1_ := Qd (QO (Kd.R_keep (IsS80.apart (show IsS80 w _ g610 t607 t628 t629 from by repeat (first | (with_reducible first | exact HI610.out | apply IsS80.alloc | apply IsS80.drewN | apply IsS80.drew | apply IsS80.set_1 | apply IsS80.set_2) | exact HI610.out)) (by (with_reducible repeat (first | apply QB | apply QC | apply QD)); exact HO620.out) (by decide)) hk (fun _ h => h.2)) (fun _ h => h.1))
     have n2_ := Qd (QO (Kd.R_keep (IsS80.apart (show IsS80 w _ g610 t607 t628 t629 from by repeat (first | (with_reducible first | exact HI610.out | apply IsS80.alloc | apply IsS80.drewN | apply IsS80.drew | apply IsS80.set_1 | apply IsS80.set_2) | exact HI610.out)) (by (with_reducible repeat (first | apply QB | apply QC | apply QD)); exact HO626.out) (by decide)) hk (fun _ h => h.2)) (fun _ h => h.1))
     have n3_ := Qd (hb)
     have n4_ := Qd (hi)
     have z_HO632 := fun (h0_ : b 5 = true) => (show Kd.R (Kd.int .u8) 5 w20 w.heap.size (fun _ => True) v631 y630 from by first | exact (QO (Kd.R_keep (IsS80.apart (show IsS80 w _ g610 t607 t628 t629 from by repeat (first | (with_reducible first | exact HI610.out | apply IsS80.alloc | apply IsS80.drewN | apply IsS80.drew | apply IsS80.set_1 | apply IsS80.set_2) | exact HI610.out)) (by (with_reducible repeat (first | apply QB | apply QC | apply QD)); exact (Q_HO632 h0_)) (by decide)) hk (fun _ h => h.2)) (fun _ h => h.1)) | exact QO (QO (Kd.R_keep (IsS80.apart (show IsS80 w _ g610 t607 t628 t629 from by repeat (first | (with_reducible first | exact HI610.out | apply IsS80.alloc | apply IsS80.drewN | apply IsS80.drew | apply IsS80.set_1 | apply IsS80.set_2) | exact HI610.out)) (by (with_reducible repeat (first | apply QB | apply QC | apply QD)); exact (Q_HO632 h0_)) (by decide)) hk (fun _ h => h.2)) (fun _ h => h.1)) (fun _ h_ => by first | trivial | exact h_ | exact h_.1))
     clear HO617
     clear HO620
     clear HO626
     clear HB
     clear HI610
     revert n0_ n1_ n2_ n3_ n4_
     intro HO617 HO620 HO626 HB HI610
     (try clear hb)
     (try clear hb2)
     (try clear hk)
     (try clear hi)
     refine hK.out _ _ ⟨v616,v619,v625,v631,adz_v631,m1_,m8_,(by rw [ha.out]; exact putSel_upk 5 hb_ rfl rfl rfl),fun h0_ => absurd ((hon 4 (by kernel_rfl)).symm.trans h0_) (by decide),(by repeat (first | (with_reducible first | exact HB.out | apply QJ | apply QE | apply QI | refine QF ?_ (IsS80.ge HI610.out)) | exact HB.out)),fun _ => (by (with_reducible repeat (first | apply QB | apply QC | apply QD)); first | exact HO617.out | exact QO HO617.out (fun _ _ => trivial)),fun _ => (by (with_reducible repeat (first | apply QB | apply QC | apply QD)); first | exact HO620.out | exact QO HO620.out (fun _ _ => trivial)),fun _ => (by (with_reducible repeat (first | apply QB | apply QC | apply QD)); first | exact HO626.out | exact QO HO626.out (fun _ _ => trivial)),fun _ h1_ => absurd ((up_self b 7).symm.trans h1_) (by decide),z_HO632,Q_HA_HO632,fun _ => (by repeat (first | (with_reducible first | exact HI610.out | apply IsS80.alloc | apply IsS80.drewN | apply IsS80.drew | apply IsS80.set_1 | apply IsS80.set_2) | exact HI610.out)),Q_X1_,fun h0_ => absurd ((hoff 8 (by kernel_rfl)).symm.trans h0_) (by decide)⟩
    refine steps_cons ?_ ?_
    ·rintro b a w' ⟨v616,v619,v625,v631,adz_v631,m1_,m8_,ha,Q_HI610,Q_HB,Q_HO617,Q_HO620,Q_HO626,Q_HI610_e4,Q_HO632,Q_HA_HO632,Q_HI610_e7,Q_X1_,Q_X8_⟩ hb_ hon hoff
     refine ⟨_,rfl,fun K hK => ?_⟩
     have e12 : a.tmps[12]? = some (v631) := by rw [ha]; exact putSel_on (e := (5,12,v631)) 4 rfl rfl (hon 5 (by kernel_rfl)) rfl
     have e14 : a.tmps[14]? = some (.int .i64 t633) := by rw [ha]; exact putSel_on (e := (7,14,.int .i64 t633)) 5 rfl rfl (hon 7 (by kernel_rfl)) rfl
     replace ha := Qd ha
     have HB := Qd Q_HB
     have HO617 := Qd (Q_HO617 (hon 1 (by kernel_rfl)))
     have HO620 := Qd (Q_HO620 (hon 1 (by kernel_rfl)))
     have HO626 := Qd (Q_HO626 (hon 3 (by kernel_rfl)))
     have HO632 := Qd (Q_HO632 (hon 5 (by kernel_rfl)))
     have HA_HO632 := Qd (Q_HA_HO632 (hon 5 (by kernel_rfl)))
     have HI610 := Qd (Q_HI610_e7 (hon 7 (by kernel_rfl)))
     obtain ⟨c_,hv_⟩ := HA_HO632.out
     rw [hv_] at e12
     refine value_ (w1 := w') (v := .pointer (some (adz_v631.add (t633).toNat))) (by rfl) rfl ?_ ?_
     ·go_simp
      (try simp only [i64_w])
      try rfl
     refine hK.out _ _ ⟨v616,v619,v625,v631,adz_v631,m1_,(.pointer (some (adz_v631.add (t633).toNat))),(by rw [ha.out]; exact putSel_upk 6 hb_ rfl rfl rfl),fun h0_ => absurd ((hon 4 (by kernel_rfl)).symm.trans h0_) (by decide),Q_HB,Q_HO617,Q_HO620,Q_HO626,fun _ h1_ => absurd ((hon 7 (by kernel_rfl)).symm.trans h1_) (by decide),Q_HO632,Q_HA_HO632,Q_HI610_e7,Q_X1_,fun _ => rfl⟩
    refine steps_cons ?_ ?_
    ·rintro b a w' ⟨v616,v619,v625,v631,adz_v631,m1_,m8_,ha,Q_HI610,Q_HB,Q_HO617,Q_HO620,Q_HO626,Q_HI610_e4,Q_HO632,Q_HA_HO632,Q_HI610_e7,Q_X1_,Q_X8_⟩ hb_ hon hoff
     refine ⟨_,rfl,fun K hK => ?_⟩
     have e15 : a.tmps[15]? = some (m8_) := by rw [ha]; exact putSel_on (e := (8,15,m8_)) 6 rfl rfl (hon 8 (by kernel_rfl)) rfl
     rw [Q_X8_ (hon 8 (by kernel_rfl))] at e15
     replace ha := Qd ha
     have HB := Qd Q_HB
     have HO617 := Qd (Q_HO617 (hon 1 (by kernel_rfl)))
     have HO620 := Qd (Q_HO620 (hon 1 (by kernel_rfl)))
     have HO626 := Qd (Q_HO626 (hon 3 (by kernel_rfl)))
     have HO632 := Qd (Q_HO632 (hon 5 (by kernel_rfl)))
     have HA_HO632 := Qd (Q_HA_HO632 (hon 5 (by kernel_rfl)))
     have HI610 := Qd (Q_HI610_e7 (hon 7 (by kernel_rfl)))
     obtain ⟨c_,hv_⟩ := HA_HO632.out
     have hF_ := HO632.out
     rw [hv_] at hF_
     obtain ⟨ad_,ea_,hx_⟩ := Kd.at_int (QR hF_).2.2 t633 (of_eq_true pi636) (of_eq_true qi636)
     cases ea_
     refine value_ (w1 := w') (v := .int .u8 (rd y630 t633)) (by rfl) rfl ?_ ?_
     ·go_simp
      (try simp only [i64_w])
      try rfl
     refine hK.out _ _ ⟨v616,v619,v625,v631,adz_v631,m1_,m8_,(by rw [ha.out]; exact putSel_upk 7 hb_ rfl rfl rfl),fun h0_ => absurd ((hon 4 (by kernel_rfl)).symm.trans h0_) (by decide),Q_HB,Q_HO617,Q_HO620,Q_HO626,fun _ h1_ => absurd ((hon 7 (by kernel_rfl)).symm.trans h1_) (by decide),Q_HO632,Q_HA_HO632,Q_HI610_e7,Q_X1_,Q_X8_⟩
    refine steps_cons ?_ ?_
    ·rintro b a w' ⟨v616,v619,v625,v631,adz_v631,m1_,m8_,ha,Q_HI610,Q_HB,Q_HO617,Q_HO620,Q_HO626,Q_HI610_e4,Q_HO632,Q_HA_HO632,Q_HI610_e7,Q_X1_,Q_X8_⟩ hb_ hon hoff
     refine ⟨_,rfl,fun K hK => ?_⟩
     have e11 : a.tmps[11]? = some (.string t627) := by rw [ha]; exact putSel_on (e := (4,11,.string t627)) 3 rfl rfl (hon 4 (by kernel_rfl)) rfl
     replace ha := Qd ha
     have HB := Qd Q_HB
     have HO617 := Qd (Q_HO617 (hon 1 (by kernel_rfl)))
     have HO620 := Qd (Q_HO620 (hon 1 (by kernel_rfl)))
     have HO626 := Qd (Q_HO626 (hon 3 (by kernel_rfl)))
     have HI610 := Qd (Q_HI610_e7 (hon 7 (by kernel_rfl)))
     refine value_ (w1 := w') (v := .string t627) (by rfl) rfl ?_ ?_
     ·go_simp
      (try simp only [i64_w])
      try rfl
     refine hK.out _ _ ⟨v616,v619,v625,v631,adz_v631,m1_,m8_,(by rw [ha.out]; exact putSel_upk 8 hb_ rfl rfl rfl),fun h0_ => absurd ((hon 4 (by kernel_rfl)).symm.trans h0_) (by decide),Q_HB,Q_HO617,Q_HO620,Q_HO626,fun _ h1_ => absurd ((hon 7 (by kernel_rfl)).symm.trans h1_) (by decide),Q_HO632,Q_HA_HO632,Q_HI610_e7,Q_X1_,Q_X8_⟩
    refine steps_cons ?_ ?_
    ·rintro b a w' ⟨v616,v619,v625,v631,adz_v631,m1_,m8_,ha,Q_HI610,Q_HB,Q_HO617,Q_HO620,Q_HO626,Q_HI610_e4,Q_HO632,Q_HA_HO632,Q_HI610_e7,Q_X1_,Q_X8_⟩ hb_ hon hoff
     refine ⟨_,rfl,fun K hK => ?_⟩
     have e16 : a.tmps[16]? = some (.int .u8 (rd y630 t633)) := by rw [ha]; exact putSel_on (e := (9,16,.int .u8 (rd y630 t633))) 7 rfl rfl (hon 9 (by kernel_rfl)) rfl
     replace ha := Qd ha
     have HB := Qd Q_HB
     have HO617 := Qd (Q_HO617 (hon 1 (by kernel_rfl)))
     have HO620 := Qd (Q_HO620 (hon 1 (by kernel_rfl)))
     have HO626 := Qd (Q_HO626 (hon 3 (by kernel_rfl)))
     have HO632 := Qd (Q_HO632 (hon 5 (by kernel_rfl)))
     have HA_HO632 := Qd (Q_HA_HO632 (hon 5 (by kernel_rfl)))
     have HI610 := Qd (Q_HI610_e7 (hon 7 (by kernel_rfl)))
     refine value_ (w1 := w') (v := .int .u8 (rd y630 t633)) (by rfl) rfl ?_ ?_
     ·go_simp
      (try simp only [i64_w])
      try rfl
     refine hK.out _ _ ⟨v616,v619,v625,v631,adz_v631,m1_,m8_,(by rw [ha.out]; exact putSel_upk 9 hb_ rfl rfl rfl),fun h0_ => absurd ((hon 4 (by kernel_rfl)).symm.trans h0_) (by decide),Q_HB,Q_HO617,Q_HO620,Q_HO626,fun _ h1_ => absurd ((hon 7 (by kernel_rfl)).symm.trans h1_) (by decide),Q_HO632,Q_HA_HO632,Q_HI610_e7,Q_X1_,Q_X8_⟩
    exact steps_nil
   rintro b a w23 hall ⟨v616,v619,v625,v631,adz_v631,m1_,m8_,ha,Q_HI610,Q_HB,Q_HO617,Q_HO620,Q_HO626,Q_HI610_e4,Q_HO632,Q_HA_HO632,Q_HI610_e7,Q_X1_,Q_X8_⟩
   clear HB HI610
   have hb1_ := hall 1 (by kernel_rfl)
   have hb2_ := hall 2 (by kernel_rfl)
   have hb3_ := hall 3 (by kernel_rfl)
   have hb4_ := hall 4 (by kernel_rfl)
   have hb5_ := hall 5 (by kernel_rfl)
   have hb7_ := hall 7 (by kernel_rfl)
   have hb8_ := hall 8 (by kernel_rfl)
   have hb9_ := hall 9 (by kernel_rfl)
   have hb10_ := hall 10 (by kernel_rfl)
   have hb11_ := hall 11 (by kernel_rfl)
   subst ha
   obtain rfl := Q_X1_ hb1_
   obtain rfl := Q_X8_ hb8_
   simp only [putSel,hb1_,hb2_,hb3_,hb4_,hb5_,hb7_,hb8_,hb9_,hb10_,hb11_,if_true,Act.put,List.setIfInBounds_toArray,List.set_cons_zero,List.set_cons_succ]
   clear Q_HI610
   have HB := Qd Q_HB
   clear Q_HB
   have HO617 := Qd (Q_HO617 hb1_)
   clear Q_HO617
   have HO620 := Qd (Q_HO620 hb1_)
   clear Q_HO620
   have HO626 := Qd (Q_HO626 hb3_)
   clear Q_HO626
   clear Q_HI610_e4
   have HO632 := Qd (Q_HO632 hb5_)
   clear Q_HO632
   have HA_HO632 := Qd (Q_HA_HO632 hb5_)
   clear Q_HA_HO632
   have HI610 := Qd (Q_HI610_e7 hb7_)
   clear Q_HI610_e7
   clear hall hb1_ hb2_ hb3_ hb4_ hb5_ hb7_ hb8_ hb9_ hb10_ hb11_
   obtain ⟨co24,eo24⟩ := HA_HO632.out
   clear HA_HO632
   subst eo24
   try go_wp2
   go_ret2
   exact ⟨by first | rfl | (simp [errW_none,errW_some] <;> rfl) | (simp [*,errW_none,errW_some] <;> rfl),by repeat (first | (with_reducible first | exact HB.out | apply QJ | apply QE | apply QI | refine QF ?_ (IsS80.ge HI610.out)) | exact HB.out)⟩
  ·rw [if_neg c8] at H
   exact absurd H (by simp)
 ·rw [if_neg c7] at H
  exact absurd H (by simp)

/-! ### spec_DrawValueAfter: function 16 -/
def spec_DrawValueAfter.f (k : Nat) (l0 : List Int) : Option (ByteArray × ByteArray) := (spec_l1New.f k l0).bind fun bt637 => ((spec_l1Str.f bt637.1 bt637.2.1 bt637.2.2 (([(⟨#[116, 97, 107, 101, 61, 52]⟩ : ByteArray), (⟨#[116, 97, 107, 101, 61]⟩ : ByteArray), (⟨#[116, 97, 107, 101]⟩ : ByteArray), (⟨#[116, 97, 107, 101, 115, 61, 52]⟩ : ByteArray), (⟨#[]⟩ : ByteArray), (⟨#[61, 52]⟩ : ByteArray), (⟨#[116, 97, 107, 101, 61, 61, 52]⟩ : ByteArray)] : List ByteArray))).bind fun bt644 => ((spec_l1Str.f bt637.1 bt644.2.1 bt644.2.2 (([(⟨#[116, 97, 107, 101]⟩ : ByteArray), (⟨#[]⟩ : ByteArray), (⟨#[108, 105, 109, 105, 116]⟩ : ByteArray)] : List ByteArray))).bind fun bt650 => (some (bt644.1, bt650.1))))
theorem spec_DrawValueAfter.mono : ∀ a0 k, LeO (spec_DrawValueAfter.f k a0) (spec_DrawValueAfter.f (k + 1) a0) := by
 intro a0 k
 unfold spec_DrawValueAfter.f
 repeat' first
   | (with_reducible exact spec_l1New.mono _ _)
   | (with_reducible exact LeO.refl _)
   | (with_reducible exact LeO.none _)
   | (with_reducible refine LeO.ite ?_ ?_)
   | (with_reducible refine LeO.bind ?_ (fun _ => ?_))
   | exact spec_l1New.mono _ _
   | exact LeO.none _
   | refine LeO.ite ?_ ?_
   | refine LeO.bind ?_ (fun _ => ?_)
set_option maxHeartbeats 8000000 in
set_option maxRecDepth 100000 in
theorem spec_DrawValueAfter.calls (k : Nat) (A0 : Option Addr) (c0 : Nat) (l0 : List Int) (r1 : ByteArray) (r2 : ByteArray) (w : World) (hr0 : Kd.C (Kd.int .u8) w A0 l0.length l0) (hc0 : l0.length ≤ c0) (h : spec_DrawValueAfter.f k l0 = some (r1, r2)) :
  Calls Tryd.prog 16 #[.slice A0 l0.length c0] w fun e w' => e = .returned (.tuple #[.string r1,.string r2]) ∧ Below w.heap.size w w' := by
 have HR0 := Qd hr0
 have HC0 := Qd hc0
 clear hr0 hc0
 have HB := Qd (Below.refl w.heap.size w)
 have H : ((spec_l1New.f k l0).bind fun bt637 => ((spec_l1Str.f bt637.1 bt637.2.1 bt637.2.2 (([(⟨#[116,97,107,101,61,52]⟩ : ByteArray),(⟨#[116,97,107,101,61]⟩ : ByteArray),(⟨#[116,97,107,101]⟩ : ByteArray),(⟨#[116,97,107,101,115,61,52]⟩ : ByteArray),(⟨#[]⟩ : ByteArray),(⟨#[61,52]⟩ : ByteArray),(⟨#[116,97,107,101,61,61,52]⟩ : ByteArray)] : List ByteArray))).bind fun bt644 => ((spec_l1Str.f bt637.1 bt644.2.1 bt644.2.2 (([(⟨#[116,97,107,101]⟩ : ByteArray),(⟨#[]⟩ : ByteArray),(⟨#[108,105,109,105,116]⟩ : ByteArray)] : List ByteArray))).bind fun bt650 => (some (bt644.1,bt650.1))))) = some (r1,r2) := h
 clear h
 replace H := Qe.mp H
 obtain ⟨⟨t637,t638,t639⟩,A20,H⟩ := H
 replace H : ((spec_l1Str.f t637 t638 t639 (([(⟨#[116,97,107,101,61,52]⟩ : ByteArray),(⟨#[116,97,107,101,61]⟩ : ByteArray),(⟨#[116,97,107,101]⟩ : ByteArray),(⟨#[116,97,107,101,115,61,52]⟩ : ByteArray),(⟨#[]⟩ : ByteArray),(⟨#[61,52]⟩ : ByteArray),(⟨#[116,97,107,101,61,61,52]⟩ : ByteArray)] : List ByteArray))).bind fun bt644 => ((spec_l1Str.f t637 bt644.2.1 bt644.2.2 (([(⟨#[116,97,107,101]⟩ : ByteArray),(⟨#[]⟩ : ByteArray),(⟨#[108,105,109,105,116]⟩ : ByteArray)] : List ByteArray))).bind fun bt650 => (some (bt644.1,bt650.1)))) = some (r1,r2) := H
 have A2 := Qd A20
 clear A20
 obtain ⟨y641,hy641⟩ : ∃ y_ : List ByteArray,y_ = (([(⟨#[116,97,107,101,61,52]⟩ : ByteArray),(⟨#[116,97,107,101,61]⟩ : ByteArray),(⟨#[116,97,107,101]⟩ : ByteArray),(⟨#[116,97,107,101,115,61,52]⟩ : ByteArray),(⟨#[]⟩ : ByteArray),(⟨#[61,52]⟩ : ByteArray),(⟨#[116,97,107,101,61,61,52]⟩ : ByteArray)] : List ByteArray)) := ⟨_,rfl⟩
 replace H : ((spec_l1Str.f t637 t638 t639 y641).bind fun bt644 => ((spec_l1Str.f t637 bt644.2.1 bt644.2.2 (([(⟨#[116,97,107,101]⟩ : ByteArray),(⟨#[]⟩ : ByteArray),(⟨#[108,105,109,105,116]⟩ : ByteArray)] : List ByteArray))).bind fun bt650 => (some (bt644.1,bt650.1)))) = some (r1,r2) := by first | (rw [hy641]; with_reducible exact H) | (have H2_ := (Option.bind_some _ _).symm.trans H; rw [hy641]; with_reducible exact H2_) | (have H2_ := (Option.bind_some _ _).symm.trans H; with_reducible exact H2_) | with_reducible exact H | (rw [hy641]; exact H) | exact H
 have Ny641 := Qd hy641
 clear hy641
 replace H := Qe.mp H
 obtain ⟨⟨t644,t645,t646⟩,A30,H⟩ := H
 replace H : ((spec_l1Str.f t637 t645 t646 (([(⟨#[116,97,107,101]⟩ : ByteArray),(⟨#[]⟩ : ByteArray),(⟨#[108,105,109,105,116]⟩ : ByteArray)] : List ByteArray))).bind fun bt650 => (some (t644,bt650.1))) = some (r1,r2) := H
 have A3 := Qd A30
 clear A30
 obtain ⟨y647,hy647⟩ : ∃ y_ : List ByteArray,y_ = (([(⟨#[116,97,107,101]⟩ : ByteArray),(⟨#[]⟩ : ByteArray),(⟨#[108,105,109,105,116]⟩ : ByteArray)] : List ByteArray)) := ⟨_,rfl⟩
 replace H : ((spec_l1Str.f t637 t645 t646 y647).bind fun bt650 => (some (t644,bt650.1))) = some (r1,r2) := by first | (rw [hy647]; with_reducible exact H) | (have H2_ := (Option.bind_some _ _).symm.trans H; rw [hy647]; with_reducible exact H2_) | (have H2_ := (Option.bind_some _ _).symm.trans H; with_reducible exact H2_) | with_reducible exact H | (rw [hy647]; exact H) | exact H
 have Ny647 := Qd hy647
 clear hy647
 replace H := Qe.mp H
 obtain ⟨⟨t650,t651,t652⟩,A40,H⟩ := H
 replace H : (some (t644,t650)) = some (r1,r2) := H
 have A4 := Qd A40
 clear A40
 simp only [Option.some.injEq,Prod.mk.injEq] at H
 obtain ⟨rfl,rfl⟩ := H
 go_enter Tryd.func16,Tryd.ntmps16
 go_wp2_with (first | ((with_reducible refine Qa (f := 34) rfl ?_); refine goesL_ (some 7) rfl rfl Tryd.func34 (by kernel_rfl) rfl #[.slice A0 l0.length c0] rfl (by (try simp only [List.map_toArray,List.map_cons,List.map_nil]); first | done | rfl | (simp only [List.length_drop,List.length_take]; rfl)) ?_; (with_reducible refine (spec_l1New.calls k _ _ l0 t637 t638 t639 w _ ?side1 ?side2 ?side3 A2.out).mono ?_); (case side1 => repeat (first | (with_reducible first | exact HB.out | apply QJ | apply QE | apply QI) | exact HB.out)); (case side2 => exact HR0.out); (case side3 => exact HC0.out); rintro e w5 ⟨g640,rfl,hi,hb,hb2⟩; refine ⟨_,rfl,?_⟩; have n0_ := Qd (hb); have n1_ := Qd (hi); clear HB; revert n0_ n1_; intro HB HI640; (try clear hb); (try clear hb2); (try clear hk); (try clear hi)) | ((with_reducible refine gate_dst (N := 9) rfl ?_); refine Kd.R_lit Kd.string _ 9 ?hg (N := 9) ?hd (xs := ([(⟨#[116,97,107,101,61,52]⟩ : ByteArray),(⟨#[116,97,107,101,61]⟩ : ByteArray),(⟨#[116,97,107,101]⟩ : ByteArray),(⟨#[116,97,107,101,115,61,52]⟩ : ByteArray),(⟨#[]⟩ : ByteArray),(⟨#[61,52]⟩ : ByteArray),(⟨#[116,97,107,101,61,61,52]⟩ : ByteArray)] : List ByteArray)) (inner := [.string (⟨#[116,97,107,101,61,52]⟩ : ByteArray),.string (⟨#[116,97,107,101,61]⟩ : ByteArray),.string (⟨#[116,97,107,101]⟩ : ByteArray),.string (⟨#[116,97,107,101,115,61,52]⟩ : ByteArray),.string (⟨#[]⟩ : ByteArray),.string (⟨#[61,52]⟩ : ByteArray),.string (⟨#[116,97,107,101,61,61,52]⟩ : ByteArray)]) (ok := fun _ => True) (okp := fun _ => True) ?hr ?hp (fun _ hk => hk) trivial (Below.refl _ _) (Nat.le_refl _) (by simp) ?_; (case hd => rfl); (case hg => rfl); (case hr => first | (go_simp; done) | (go_simp; rfl)); (case hp => exact (Reps.one (show Kd.M Kd.string _ _ _ (⟨#[116,97,107,101,61,52]⟩ : ByteArray) [.string (⟨#[116,97,107,101,61,52]⟩ : ByteArray)] from rfl) (Reps.one (show Kd.M Kd.string _ _ _ (⟨#[116,97,107,101,61]⟩ : ByteArray) [.string (⟨#[116,97,107,101,61]⟩ : ByteArray)] from rfl) (Reps.one (show Kd.M Kd.string _ _ _ (⟨#[116,97,107,101]⟩ : ByteArray) [.string (⟨#[116,97,107,101]⟩ : ByteArray)] from rfl) (Reps.one (show Kd.M Kd.string _ _ _ (⟨#[116,97,107,101,115,61,52]⟩ : ByteArray) [.string (⟨#[116,97,107,101,115,61,52]⟩ : ByteArray)] from rfl) (Reps.one (show Kd.M Kd.string _ _ _ (⟨#[]⟩ : ByteArray) [.string (⟨#[]⟩ : ByteArray)] from rfl) (Reps.one (show Kd.M Kd.string _ _ _ (⟨#[61,52]⟩ : ByteArray) [.string (⟨#[61,52]⟩ : ByteArray)] from rfl) (Reps.one (show Kd.M Kd.string _ _ _ (⟨#[116,97,107,101,61,61,52]⟩ : ByteArray) [.string (⟨#[116,97,107,101,61,61,52]⟩ : ByteArray)] from rfl) (Reps.none _ _))))))))); intro v642 w6 ho7 hb hg_ hnew_; clear hg_ hnew_; (first | rw [← Ny641.out] at ho7 | (simp only [Int.reduceToNat] at ho7; rw [← Ny641.out] at ho7)); have n0_ := Qd (Kd.R_lower ho7 (Qc (by repeat (first | (with_reducible first | exact HB.out | apply QJ | apply QE | apply QI | refine QF ?_ (IsS80.ge HI640.out)) | exact HB.out)))); have n1_ := Qd (IsS80.below (by repeat (first | (with_reducible first | exact HI640.out | apply IsS80.alloc | apply IsS80.drewN | apply IsS80.drew | apply IsS80.set_1 | apply IsS80.set_2) | exact HI640.out)) hb); have n2_ := Qd (QX (by repeat (first | (with_reducible first | exact HB.out | apply QJ | apply QE | apply QI | refine QF ?_ (IsS80.ge HI640.out)) | exact HB.out)) hb); clear HI640; clear HB; revert n0_ n1_ n2_; intro HO643 HI640 HB; clear hb ho7; obtain ⟨Ao8,co8,eo8⟩ := Kd.R_slice HO643.out; subst eo8) | ((with_reducible refine Qa (f := 37) rfl ?_); refine goesL_ (some 10) rfl rfl Tryd.func37 (by kernel_rfl) rfl #[.pointer (some ⟨g640,0,none⟩),.slice Ao8 y641.length co8] rfl (by (try simp only [List.map_toArray,List.map_cons,List.map_nil]); first | done | rfl | (simp only [List.length_drop,List.length_take]; rfl)) ?_; (with_reducible refine (spec_l1Str.calls g640 t637 t638 t639 _ _ y641 t644 t645 t646 w _ ?side1 ?side2 ?side3 ?side4 ?side5 A3.out).mono ?_); (case side1 => repeat (first | (with_reducible first | exact HI640.out | apply IsS80.alloc | apply IsS80.drewN | apply IsS80.drew | apply IsS80.set_1 | apply IsS80.set_2) | exact HI640.out)); (case side2 => repeat (first | (with_reducible first | exact HB.out | apply QJ | apply QE | apply QI | refine QF ?_ (IsS80.ge HI640.out)) | exact HB.out)); (case side3 => repeat (first | exact (QR HO643.out).2.2 | (with_reducible refine QV ?_ _) | (with_reducible refine QW ?_ _) | (with_reducible refine QZ ?_))); (case side4 => exact (QR HO643.out).2.1); (case side5 => exact far_slice (IsS80.own_ne HI640.out HO643.out (by decide))); rintro e w9 ⟨rfl,hi,hb,hk⟩; refine ⟨_,rfl,?_⟩; have n0_ := Qd (QO (Kd.R_keep (IsS80.apart (show IsS80 w _ g640 t637 t638 t639 from by repeat (first | (with_reducible first | exact HI640.out | apply IsS80.alloc | apply IsS80.drewN | apply IsS80.drew | apply IsS80.set_1 | apply IsS80.set_2) | exact HI640.out)) (by (with_reducible repeat (first | apply QB | apply QC | apply QD)); exact HO643.out) (by decide)) hk (fun _ h => h.2)) (fun _ h => h.1)); have n1_ := Qd (hb); have n2_ := Qd (hi); clear HO643; clear HB; clear HI640; revert n0_ n1_ n2_; intro HO643 HB HI640; (try clear hb); (try clear hb2); (try clear hk); (try clear hi)) | ((with_reducible refine gate_dst (N := 13) rfl ?_); refine Kd.R_lit Kd.string _ 9 ?hg (N := 13) ?hd (xs := ([(⟨#[116,97,107,101]⟩ : ByteArray),(⟨#[]⟩ : ByteArray),(⟨#[108,105,109,105,116]⟩ : ByteArray)] : List ByteArray)) (inner := [.string (⟨#[116,97,107,101]⟩ : ByteArray),.string (⟨#[]⟩ : ByteArray),.string (⟨#[108,105,109,105,116]⟩ : ByteArray)]) (ok := fun _ => True) (okp := fun _ => True) ?hr ?hp (fun _ hk => hk) trivial (Below.refl _ _) (Nat.le_refl _) (by simp) ?_; (case hd => rfl); (case hg => rfl); (case hr => first | (go_simp; done) | (go_simp; rfl)); (case hp => exact (Reps.one (show Kd.M Kd.string _ _ _ (⟨#[116,97,107,101]⟩ : ByteArray) [.string (⟨#[116,97,107,101]⟩ : ByteArray)] from rfl) (Reps.one (show Kd.M Kd.string _ _ _ (⟨#[]⟩ : ByteArray) [.string (⟨#[]⟩ : ByteArray)] from rfl) (Reps.one (show Kd.M Kd.string _ _ _ (⟨#[108,105,109,105,116]⟩ : ByteArray) [.string (⟨#[108,105,109,105,116]⟩ : ByteArray)] from rfl) (Reps.none _ _))))); intro v648 w10 ho11 hb hg_ hnew_; clear hg_ hnew_; (first | rw [← Ny647.out] at ho11 | (simp only [Int.reduceToNat] at ho11; rw [← Ny647.out] at ho11)); have n0_ := Qd (Kd.R_elder' (by (with_reducible repeat (first | apply QB | apply QC | apply QD)); exact HO643.out) (Kd.R_base ho11) hb); have n1_ := Qd (Kd.R_lower (Kd.R_new' ho11 (Kd.R_lt (by (with_reducible repeat (first | apply QB | apply QC | apply QD)); exact HO643.out))) (Qc (by repeat (first | (with_reducible first | exact HB.out | apply QJ | apply QE | apply QI | refine QF ?_ (IsS80.ge HI640.out)) | exact HB.out)))); have n2_ := Qd (IsS80.below (by repeat (first | (with_reducible first | exact HI640.out | apply IsS80.alloc | apply IsS80.drewN | apply IsS80.drew | apply IsS80.set_1 | apply IsS80.set_2) | exact HI640.out)) hb); have n3_ := Qd (QX (by repeat (first | (with_reducible first | exact HB.out | apply QJ | apply QE | apply QI | refine QF ?_ (IsS80.ge HI640.out)) | exact HB.out)) hb); clear HO643; clear HI640; clear HB; revert n0_ n1_ n2_ n3_; intro HO643 HO649 HI640 HB; clear hb ho11; obtain ⟨Ao12,co12,eo12⟩ := Kd.R_slice HO649.out; subst eo12) | ((with_reducible refine Qa (f := 37) rfl ?_); refine goesL_ (some 14) rfl rfl Tryd.func37 (by kernel_rfl) rfl #[.pointer (some ⟨g640,0,none⟩),.slice Ao12 y647.length co12] rfl (by (try simp only [List.map_toArray,List.map_cons,List.map_nil]); first | done | rfl | (simp only [List.length_drop,List.length_take]; rfl)) ?_; (with_reducible refine (spec_l1Str.calls g640 t637 t645 t646 _ _ y647 t650 t651 t652 w _ ?side1 ?side2 ?side3 ?side4 ?side5 A4.out).mono ?_); (case side1 => repeat (first | (with_reducible first | exact HI640.out | apply IsS80.alloc | apply IsS80.drewN | apply IsS80.drew | apply IsS80.set_1 | apply IsS80.set_2) | exact HI640.out)); (case side2 => repeat (first | (with_reducible first | exact HB.out | apply QJ | apply QE | apply QI | refine QF ?_ (IsS80.ge HI640.out)) | exact HB.out)); (case side3 => repeat (first | exact (QR HO649.out).2.2 | (with_reducible refine QV ?_ _) | (with_reducible refine QW ?_ _) | (with_reducible refine QZ ?_))); (case side4 => exact (QR HO649.out).2.1); (case side5 => exact far_slice (IsS80.own_ne HI640.out HO649.out (by decide))); rintro e w13 ⟨rfl,hi,hb,hk⟩; refine ⟨_,rfl,?_⟩; have n0_ := Qd (QO (Kd.R_keep (IsS80.apart (show IsS80 w _ g640 t637 t645 t646 from by repeat (first | (with_reducible first | exact HI640.out | apply IsS80.alloc | apply IsS80.drewN | apply IsS80.drew | apply IsS80.set_1 | apply IsS80.set_2) | exact HI640.out)) (by (with_reducible repeat (first | apply QB | apply QC | apply QD)); exact HO643.out) (by decide)) hk (fun _ h => h.2)) (fun _ h => h.1)); have n1_ := Qd (QO (Kd.R_keep (IsS80.apart (show IsS80 w _ g640 t637 t645 t646 from by repeat (first | (with_reducible first | exact HI640.out | apply IsS80.alloc | apply IsS80.drewN | apply IsS80.drew | apply IsS80.set_1 | apply IsS80.set_2) | exact HI640.out)) (by (with_reducible repeat (first | apply QB | apply QC | apply QD)); exact HO649.out) (by decide)) hk (fun _ h => h.2)) (fun _ h => h.1)); have n2_ := Qd (hb); have n3_ := Qd (hi); clear HO643; clear HO649; clear HB; clear HI640; revert n0_ n1_ n2_ n3_; intro HO643 HO649 HB HI640; (try clear hb); (try clear hb2); (try clear hk); (try clear hi)))
 go_ret2
 exact ⟨by first | rfl | (simp [errW_none,errW_some] <;> rfl) | (simp [*,errW_none,errW_some] <;> rfl),by repeat (first | (with_reducible first | exact HB.out | apply QJ | apply QE | apply QI | refine QF ?_ (IsS80.ge HI640.out)) | exact HB.out)⟩

/-! ### laws_FnScripts: function 3 -/
mutual
def laws_FnScripts.j0 : Nat → List Int → Bool → Option (Bool)
 | 0, _, _ => none
 | k + 1, x0, x49 => if x49 = true then (some false) else ((spec_DrawParseRules.f k x0).bind fun t688 => ((impl_ParseRules.f k t688).bind fun bt689 => ((spec_DrawSplitWords.f k x0).bind fun bt703 => ((impl_SplitWords.f k bt703.1 bt703.2).bind fun t705 => (laws_FnScripts.l0 k x0 t688 bt689.2.2.2.2.2.2.2.2 bt703.1 t705 (wrap64 ((t705.length : Int) - 1)) 0 bt689.1 bt689.2.1 bt689.2.2.1 bt689.2.2.2.1 bt689.2.2.2.2.1 bt689.2.2.2.2.2.1 bt689.2.2.2.2.2.2.1 bt689.2.2.2.2.2.2.2.1)))))
def laws_FnScripts.l0 : Nat → List Int → ByteArray → Bool → ByteArray → List ByteArray → Int → Int → Int → Int → Bool → Bool → List Int → List Int → Int → Int → Option (Bool)
 | 0, _, _, _, _, _, _, _, _, _, _, _, _, _, _, _ => none
 | k + 1, x0, x6, x8, x9, x11, x12, x13, x703000, x703001, x703002, x703003, x703004, x703005, x703006, x703007 => if x13 < (x11.length : Int) then (if 0 ≤ x13 then (laws_FnScripts.l0 k x0 x6 x8 x9 x11 (wrap64 (x12 + ((rdOf ByteArray.empty x11 x13).size : Int))) (wrap64 (x13 + 1)) x703000 x703001 x703002 x703003 x703004 x703005 x703006 x703007) else (none)) else ((spec_DrawValueAfter.f k x0).bind fun bt709 => ((impl_ValueAfter.f bt709.1 bt709.2).bind fun bt711 => (if x8 = true then ((impl_RulesText.f k x703000 x703001 x703002 x703003 x703004 x703005 x703006 x703007).bind fun t713 => (if t713.toList = x6.toList then (if x12 = (x9.size : Int) then (if bt711.2 = true then (if bt709.2.size + 1 ≤ 9223372036854775807 then (if (bt709.2 ++ (⟨#[61]⟩ : ByteArray)).size + bt711.1.size ≤ 9223372036854775807 then (some (((bt709.2 ++ (⟨#[61]⟩ : ByteArray)) ++ bt711.1).toList == bt709.1.toList)) else (none)) else (none)) else (some true)) else (some false)) else (some false))) else (if x12 = (x9.size : Int) then (if bt711.2 = true then (if bt709.2.size + 1 ≤ 9223372036854775807 then (if (bt709.2 ++ (⟨#[61]⟩ : ByteArray)).size + bt711.1.size ≤ 9223372036854775807 then (some (((bt709.2 ++ (⟨#[61]⟩ : ByteArray)) ++ bt711.1).toList == bt709.1.toList)) else (none)) else (none)) else (some true)) else (some false)))))
end
def laws_FnScripts.f (k : Nat) (l0 : List Int) : Option (Bool) := (laws_big.f l0).bind fun t653 => (if t653 = true then (some true) else ((spec_DrawRulesText.f k l0).bind fun bt654 => ((impl_RulesText.f k bt654.1 bt654.2.1 bt654.2.2.1 bt654.2.2.2.1 bt654.2.2.2.2.1 bt654.2.2.2.2.2.1 bt654.2.2.2.2.2.2.1 bt654.2.2.2.2.2.2.2).bind fun t667 => ((impl_ParseRules.f k t667).bind fun bt668 => ((impl_IsRules.f k bt654.1 bt654.2.1 bt654.2.2.1 bt654.2.2.2.1 bt654.2.2.2.2.1 bt654.2.2.2.2.2.1 bt654.2.2.2.2.2.2.1 bt654.2.2.2.2.2.2.2).bind fun t682 => (if (bt668.2.2.2.2.2.2.2.2 != t682) = true then (laws_FnScripts.j0 k l0 true) else (if bt668.2.2.2.2.2.2.2.2 = true then ((impl_EqualRules.f k bt668.1 bt668.2.1 bt668.2.2.1 bt668.2.2.2.1 bt668.2.2.2.2.1 bt668.2.2.2.2.2.1 bt668.2.2.2.2.2.2.1 bt668.2.2.2.2.2.2.2.1 bt654.1 bt654.2.1 bt654.2.2.1 bt654.2.2.2.1 bt654.2.2.2.2.1 bt654.2.2.2.2.2.1 bt654.2.2.2.2.2.2.1 bt654.2.2.2.2.2.2.2).bind fun t683 => (if t683 = true then ((impl_IsRules.f k bt654.1 bt654.2.1 bt654.2.2.1 bt654.2.2.2.1 bt654.2.2.2.2.1 bt654.2.2.2.2.2.1 bt654.2.2.2.2.2.2.1 bt654.2.2.2.2.2.2.2).bind fun t684 => (if t684 = true then ((impl_RulesWord.f k bt654.1 bt654.2.1 bt654.2.2.1 bt654.2.2.2.1 bt654.2.2.2.2.1 bt654.2.2.2.2.2.1 bt654.2.2.2.2.2.2.1 bt654.2.2.2.2.2.2.2).bind fun t685 => (laws_FnScripts.j0 k l0 (t685.toList == ([] : List UInt8)))) else (laws_FnScripts.j0 k l0 false))) else (laws_FnScripts.j0 k l0 true))) else ((impl_IsRules.f k bt654.1 bt654.2.1 bt654.2.2.1 bt654.2.2.2.1 bt654.2.2.2.2.1 bt654.2.2.2.2.2.1 bt654.2.2.2.2.2.2.1 bt654.2.2.2.2.2.2.2).bind fun t686 => (if t686 = true then ((impl_RulesWord.f k bt654.1 bt654.2.1 bt654.2.2.1 bt654.2.2.2.1 bt654.2.2.2.2.1 bt654.2.2.2.2.2.1 bt654.2.2.2.2.2.2.1 bt654.2.2.2.2.2.2.2).bind fun t687 => (laws_FnScripts.j0 k l0 (t687.toList == ([] : List UInt8)))) else (laws_FnScripts.j0 k l0 false))))))))))
theorem laws_FnScripts.mono_l : ∀ k, (∀ y0 y1, LeO (laws_FnScripts.j0 k y0 y1) (laws_FnScripts.j0 (k + 1) y0 y1)) ∧ (∀ y0 y1 y2 y3 y4 y5 y6 y7 y8 y9 y10 y11 y12 y13 y14, LeO (laws_FnScripts.l0 k y0 y1 y2 y3 y4 y5 y6 y7 y8 y9 y10 y11 y12 y13 y14) (laws_FnScripts.l0 (k + 1) y0 y1 y2 y3 y4 y5 y6 y7 y8 y9 y10 y11 y12 y13 y14))
 | 0 => ⟨fun _ _ r h => by simp [laws_FnScripts.j0] at h, fun _ _ _ _ _ _ _ _ _ _ _ _ _ _ _ r h => by simp [laws_FnScripts.l0] at h⟩
 | k + 1 => by
  obtain ⟨ih0, ih1⟩ := laws_FnScripts.mono_l k
  refine ⟨?_, ?_⟩
  ·intro y0 y1
   unfold laws_FnScripts.j0
   repeat' first
   | (with_reducible exact ih0 _ _)
   | (with_reducible exact ih1 _ _ _ _ _ _ _ _ _ _ _ _ _ _ _)
   | (with_reducible exact impl_EqualRules.mono _ _ _ _ _ _ _ _ _ _ _ _ _ _ _ _ _)
   | (with_reducible exact impl_IsRules.mono _ _ _ _ _ _ _ _ _)
   | (with_reducible exact impl_ParseRules.mono _ _)
   | (with_reducible exact impl_RulesText.mono _ _ _ _ _ _ _ _ _)
   | (with_reducible exact impl_RulesWord.mono _ _ _ _ _ _ _ _ _)
   | (with_reducible exact impl_SplitWords.mono _ _ _)
   | (with_reducible exact spec_DrawParseRules.mono _ _)
   | (with_reducible exact spec_DrawRulesText.mono _ _)
   | (with_reducible exact spec_DrawSplitWords.mono _ _)
   | (with_reducible exact spec_DrawValueAfter.mono _ _)
   | (with_reducible exact LeO.refl _)
   | (with_reducible exact LeO.none _)
   | (with_reducible refine LeO.ite ?_ ?_)
   | (with_reducible refine LeO.bind ?_ (fun _ => ?_))
   | exact ih0 _ _
   | exact ih1 _ _ _ _ _ _ _ _ _ _ _ _ _ _ _
   | exact impl_EqualRules.mono _ _ _ _ _ _ _ _ _ _ _ _ _ _ _ _ _
   | exact impl_IsRules.mono _ _ _ _ _ _ _ _ _
   | exact impl_ParseRules.mono _ _
   | exact impl_RulesText.mono _ _ _ _ _ _ _ _ _
   | exact impl_RulesWord.mono _ _ _ _ _ _ _ _ _
   | exact impl_SplitWords.mono _ _ _
   | exact spec_DrawParseRules.mono _ _
   | exact spec_DrawRulesText.mono _ _
   | exact spec_DrawSplitWords.mono _ _
   | exact spec_DrawValueAfter.mono _ _
   | exact LeO.none _
   | refine LeO.ite ?_ ?_
   | refine LeO.bind ?_ (fun _ => ?_)
  ·intro y0 y1 y2 y3 y4 y5 y6 y7 y8 y9 y10 y11 y12 y13 y14
   unfold laws_FnScripts.l0
   repeat' first
   | (with_reducible exact ih0 _ _)
   | (with_reducible exact ih1 _ _ _ _ _ _ _ _ _ _ _ _ _ _ _)
   | (with_reducible exact impl_EqualRules.mono _ _ _ _ _ _ _ _ _ _ _ _ _ _ _ _ _)
   | (with_reducible exact impl_IsRules.mono _ _ _ _ _ _ _ _ _)
   | (with_reducible exact impl_ParseRules.mono _ _)
   | (with_reducible exact impl_RulesText.mono _ _ _ _ _ _ _ _ _)
   | (with_reducible exact impl_RulesWord.mono _ _ _ _ _ _ _ _ _)
   | (with_reducible exact impl_SplitWords.mono _ _ _)
   | (with_reducible exact spec_DrawParseRules.mono _ _)
   | (with_reducible exact spec_DrawRulesText.mono _ _)
   | (with_reducible exact spec_DrawSplitWords.mono _ _)
   | (with_reducible exact spec_DrawValueAfter.mono _ _)
   | (with_reducible exact LeO.refl _)
   | (with_reducible exact LeO.none _)
   | (with_reducible refine LeO.ite ?_ ?_)
   | (with_reducible refine LeO.bind ?_ (fun _ => ?_))
   | exact ih0 _ _
   | exact ih1 _ _ _ _ _ _ _ _ _ _ _ _ _ _ _
   | exact impl_EqualRules.mono _ _ _ _ _ _ _ _ _ _ _ _ _ _ _ _ _
   | exact impl_IsRules.mono _ _ _ _ _ _ _ _ _
   | exact impl_ParseRules.mono _ _
   | exact impl_RulesText.mono _ _ _ _ _ _ _ _ _
   | exact impl_RulesWord.mono _ _ _ _ _ _ _ _ _
   | exact impl_SplitWords.mono _ _ _
   | exact spec_DrawParseRules.mono _ _
   | exact spec_DrawRulesText.mono _ _
   | exact spec_DrawSplitWords.mono _ _
   | exact spec_DrawValueAfter.mono _ _
   | exact LeO.none _
   | refine LeO.ite ?_ ?_
   | refine LeO.bind ?_ (fun _ => ?_)
theorem laws_FnScripts.mono : ∀ a0 k, LeO (laws_FnScripts.f k a0) (laws_FnScripts.f (k + 1) a0) := by
 intro a0 k
 obtain ⟨ih0, ih1⟩ := laws_FnScripts.mono_l k
 unfold laws_FnScripts.f
 repeat' first
   | (with_reducible exact ih0 _ _)
   | (with_reducible exact ih1 _ _ _ _ _ _ _ _ _ _ _ _ _ _ _)
   | (with_reducible exact impl_EqualRules.mono _ _ _ _ _ _ _ _ _ _ _ _ _ _ _ _ _)
   | (with_reducible exact impl_IsRules.mono _ _ _ _ _ _ _ _ _)
   | (with_reducible exact impl_ParseRules.mono _ _)
   | (with_reducible exact impl_RulesText.mono _ _ _ _ _ _ _ _ _)
   | (with_reducible exact impl_RulesWord.mono _ _ _ _ _ _ _ _ _)
   | (with_reducible exact impl_SplitWords.mono _ _ _)
   | (with_reducible exact spec_DrawParseRules.mono _ _)
   | (with_reducible exact spec_DrawRulesText.mono _ _)
   | (with_reducible exact spec_DrawSplitWords.mono _ _)
   | (with_reducible exact spec_DrawValueAfter.mono _ _)
   | (with_reducible exact LeO.refl _)
   | (with_reducible exact LeO.none _)
   | (with_reducible refine LeO.ite ?_ ?_)
   | (with_reducible refine LeO.bind ?_ (fun _ => ?_))
   | exact ih0 _ _
   | exact ih1 _ _ _ _ _ _ _ _ _ _ _ _ _ _ _
   | exact impl_EqualRules.mono _ _ _ _ _ _ _ _ _ _ _ _ _ _ _ _ _
   | exact impl_IsRules.mono _ _ _ _ _ _ _ _ _
   | exact impl_ParseRules.mono _ _
   | exact impl_RulesText.mono _ _ _ _ _ _ _ _ _
   | exact impl_RulesWord.mono _ _ _ _ _ _ _ _ _
   | exact impl_SplitWords.mono _ _ _
   | exact spec_DrawParseRules.mono _ _
   | exact spec_DrawRulesText.mono _ _
   | exact spec_DrawSplitWords.mono _ _
   | exact spec_DrawValueAfter.mono _ _
   | exact LeO.none _
   | refine LeO.ite ?_ ?_
   | refine LeO.bind ?_ (fun _ => ?_)
set_option maxHeartbeats 8000000 in
set_option maxRecDepth 100000 in
theorem laws_FnScripts.calls (k : Nat) (A0 : Option Addr) (c0 : Nat) (l0 : List Int) (r : Bool) (w : World) (ht : LaidE w) (hr0 : Kd.C (Kd.int .u8) w A0 l0.length l0) (hc0 : l0.length ≤ c0) (h : laws_FnScripts.f k l0 = some r) (hT : r = true) :
  Calls Tryd.prog 3 #[.slice A0 l0.length c0] w fun e w' => e = .returned (.bool r) ∧ Below w.heap.size w w' := by
 have HTAB := Qd ht
 clear ht
 have HT := Qd hT
 clear hT
 have hu26 := Tryd.underlying26
 have HR0 := Qd hr0
 have HC0 := Qd hc0
 clear hr0 hc0
 have HB := Qd (Below.refl w.heap.size w)
 have H : ((laws_big.f l0).bind fun t653 => (if t653 = true then (some true) else ((spec_DrawRulesText.f k l0).bind fun bt654 => ((impl_RulesText.f k bt654.1 bt654.2.1 bt654.2.2.1 bt654.2.2.2.1 bt654.2.2.2.2.1 bt654.2.2.2.2.2.1 bt654.2.2.2.2.2.2.1 bt654.2.2.2.2.2.2.2).bind fun t667 => ((impl_ParseRules.f k t667).bind fun bt668 => ((impl_IsRules.f k bt654.1 bt654.2.1 bt654.2.2.1 bt654.2.2.2.1 bt654.2.2.2.2.1 bt654.2.2.2.2.2.1 bt654.2.2.2.2.2.2.1 bt654.2.2.2.2.2.2.2).bind fun t682 => (if (bt668.2.2.2.2.2.2.2.2 != t682) = true then (laws_FnScripts.j0 k l0 true) else (if bt668.2.2.2.2.2.2.2.2 = true then ((impl_EqualRules.f k bt668.1 bt668.2.1 bt668.2.2.1 bt668.2.2.2.1 bt668.2.2.2.2.1 bt668.2.2.2.2.2.1 bt668.2.2.2.2.2.2.1 bt668.2.2.2.2.2.2.2.1 bt654.1 bt654.2.1 bt654.2.2.1 bt654.2.2.2.1 bt654.2.2.2.2.1 bt654.2.2.2.2.2.1 bt654.2.2.2.2.2.2.1 bt654.2.2.2.2.2.2.2).bind fun t683 => (if t683 = true then ((impl_IsRules.f k bt654.1 bt654.2.1 bt654.2.2.1 bt654.2.2.2.1 bt654.2.2.2.2.1 bt654.2.2.2.2.2.1 bt654.2.2.2.2.2.2.1 bt654.2.2.2.2.2.2.2).bind fun t684 => (if t684 = true then ((impl_RulesWord.f k bt654.1 bt654.2.1 bt654.2.2.1 bt654.2.2.2.1 bt654.2.2.2.2.1 bt654.2.2.2.2.2.1 bt654.2.2.2.2.2.2.1 bt654.2.2.2.2.2.2.2).bind fun t685 => (laws_FnScripts.j0 k l0 (t685.toList == ([] : List UInt8)))) else (laws_FnScripts.j0 k l0 false))) else (laws_FnScripts.j0 k l0 true))) else ((impl_IsRules.f k bt654.1 bt654.2.1 bt654.2.2.1 bt654.2.2.2.1 bt654.2.2.2.2.1 bt654.2.2.2.2.2.1 bt654.2.2.2.2.2.2.1 bt654.2.2.2.2.2.2.2).bind fun t686 => (if t686 = true then ((impl_RulesWord.f k bt654.1 bt654.2.1 bt654.2.2.1 bt654.2.2.2.1 bt654.2.2.2.2.1 bt654.2.2.2.2.2.1 bt654.2.2.2.2.2.2.1 bt654.2.2.2.2.2.2.2).bind fun t687 => (laws_FnScripts.j0 k l0 (t687.toList == ([] : List UInt8)))) else (laws_FnScripts.j0 k l0 false))))))))))) = some r := h
 clear h
 replace H := Qe.mp H
 obtain ⟨t653, A20, H⟩ := H
 have A2 := Qd A20
 clear A20
 by_cases c3 : t653 = true
 ·subst c3
  rw [if_pos rfl] at H
  obtain rfl := Option.some.inj H
  go_enter Tryd.func3, Tryd.ntmps3
  go_wp2_with (first | ((with_reducible refine Qa (f := 6) rfl ?_); refine goesL_ (some 19) rfl rfl Tryd.func6 (by kernel_rfl) rfl #[.slice A0 l0.length c0] rfl (by (try simp only [List.map_toArray, List.map_cons, List.map_nil]); first | done | rfl | (simp only [List.length_drop, List.length_take]; rfl)) ?_; (with_reducible refine (laws_big.calls _ _ l0 true _ ?side1 ?side2 A2.out).mono ?_); (case side1 => repeat (first | exact HR0.out | (with_reducible refine QV ?_ _) | (with_reducible refine QW ?_ _) | (with_reducible refine QZ ?_))); (case side2 => exact HC0.out); rintro e w' ⟨rfl, ⟨nd, rfl⟩⟩; refine ⟨_, rfl, ?_⟩; refine Aside0.out ?_))
  refine Qd ?_
  go_wp2_with fail
  go_ret
  exact ⟨by first | rfl | (simp [errW_none, errW_some] <;> rfl) | (simp [*, errW_none, errW_some] <;> rfl), by repeat (first | (with_reducible first | exact HB.out | apply QJ | apply QE | apply QI) | exact HB.out)⟩
 ·replace c3 := Bool.eq_false_iff.mpr c3
  subst c3
  rw [if_neg (show ¬ (false = true) by decide)] at H
  replace H := Qe.mp H
  obtain ⟨⟨t654, t655, t656, t657, t658, t661, t664, t665⟩, A40, H⟩ := H
  replace H : ((impl_RulesText.f k t654 t655 t656 t657 t658 t661 t664 t665).bind fun t667 => ((impl_ParseRules.f k t667).bind fun bt668 => ((impl_IsRules.f k t654 t655 t656 t657 t658 t661 t664 t665).bind fun t682 => (if (bt668.2.2.2.2.2.2.2.2 != t682) = true then (laws_FnScripts.j0 k l0 true) else (if bt668.2.2.2.2.2.2.2.2 = true then ((impl_EqualRules.f k bt668.1 bt668.2.1 bt668.2.2.1 bt668.2.2.2.1 bt668.2.2.2.2.1 bt668.2.2.2.2.2.1 bt668.2.2.2.2.2.2.1 bt668.2.2.2.2.2.2.2.1 t654 t655 t656 t657 t658 t661 t664 t665).bind fun t683 => (if t683 = true then ((impl_IsRules.f k t654 t655 t656 t657 t658 t661 t664 t665).bind fun t684 => (if t684 = true then ((impl_RulesWord.f k t654 t655 t656 t657 t658 t661 t664 t665).bind fun t685 => (laws_FnScripts.j0 k l0 (t685.toList == ([] : List UInt8)))) else (laws_FnScripts.j0 k l0 false))) else (laws_FnScripts.j0 k l0 true))) else ((impl_IsRules.f k t654 t655 t656 t657 t658 t661 t664 t665).bind fun t686 => (if t686 = true then ((impl_RulesWord.f k t654 t655 t656 t657 t658 t661 t664 t665).bind fun t687 => (laws_FnScripts.j0 k l0 (t687.toList == ([] : List UInt8)))) else (laws_FnScripts.j0 k l0 false)))))))) = some r := H
  have A4 := Qd A40
  clear A40
  replace H := Qe.mp H
  obtain ⟨t667, A50, H⟩ := H
  have A5 := Qd A50
  clear A50
  replace H := Qe.mp H
  obtain ⟨⟨t668, t669, t670, t671, t672, t675, t678, t679, t680⟩, A60, H⟩ := H
  replace H : ((impl_IsRules.f k t654 t655 t656 t657 t658 t661 t664 t665).bind fun t682 => (if (t680 != t682) = true then (laws_FnScripts.j0 k l0 true) else (if t680 = true then ((impl_EqualRules.f k t668 t669 t670 t671 t672 t675 t678 t679 t654 t655 t656 t657 t658 t661 t664 t665).bind fun t683 => (if t683 = true then ((impl_IsRules.f k t654 t655 t656 t657 t658 t661 t664 t665).bind fun t684 => (if t684 = true then ((impl_RulesWord.f k t654 t655 t656 t657 t658 t661 t664 t665).bind fun t685 => (laws_FnScripts.j0 k l0 (t685.toList == ([] : List UInt8)))) else (laws_FnScripts.j0 k l0 false))) else (laws_FnScripts.j0 k l0 true))) else ((impl_IsRules.f k t654 t655 t656 t657 t658 t661 t664 t665).bind fun t686 => (if t686 = true then ((impl_RulesWord.f k t654 t655 t656 t657 t658 t661 t664 t665).bind fun t687 => (laws_FnScripts.j0 k l0 (t687.toList == ([] : List UInt8)))) else (laws_FnScripts.j0 k l0 false)))))) = some r := H
  have A6 := Qd A60
  clear A60
  have HC7 := Qd H
  clear H
  go_enter Tryd.func3, Tryd.ntmps3
  go_upto_region 5 with (first | ((with_reducible refine Qa (f := 6) rfl ?_); refine goesL_ (some 19) rfl rfl Tryd.func6 (by kernel_rfl) rfl #[.slice A0 l0.length c0] rfl (by (try simp only [List.map_toArray, List.map_cons, List.map_nil]); first | done | rfl | (simp only [List.length_drop, List.length_take]; rfl)) ?_; (with_reducible refine (laws_big.calls _ _ l0 false _ ?side1 ?side2 A2.out).mono ?_); (case side1 => repeat (first | exact HR0.out | (with_reducible refine QV ?_ _) | (with_reducible refine QW ?_ _) | (with_reducible refine QZ ?_))); (case side2 => exact HC0.out); rintro e w' ⟨rfl, ⟨nd, rfl⟩⟩; refine ⟨_, rfl, ?_⟩) | ((with_reducible refine Qa (f := 7) rfl ?_); refine goesL_ (some 21) rfl rfl Tryd.func7 (by kernel_rfl) rfl #[.slice A0 l0.length c0] rfl (by (try simp only [List.map_toArray, List.map_cons, List.map_nil]); first | done | rfl | (simp only [List.length_drop, List.length_take]; rfl)) ?_; (with_reducible refine (spec_DrawRulesText.calls k _ _ l0 t654 t655 t656 t657 t658 t661 t664 t665 _ ?side1 ?side2 A4.out).mono ?_); (case side1 => repeat (first | exact HR0.out | (with_reducible refine QV ?_ _) | (with_reducible refine QW ?_ _) | (with_reducible refine QZ ?_))); (case side2 => exact HC0.out); rintro e w8 ⟨v659, v662, rfl, ho0, ho1, hb⟩; refine ⟨_, rfl, ?_⟩; have n0_ := Qd (Kd.Q_lower ho0 (Qc (by repeat (first | (with_reducible first | exact HB.out | apply QJ | apply QE | apply QI) | exact HB.out)))); have n1_ := Qd (Kd.R_lower ho1 (Qc (by repeat (first | (with_reducible first | exact HB.out | apply QJ | apply QE | apply QI) | exact HB.out)))); have n2_ := Qd (QX (by repeat (first | (with_reducible first | exact HB.out | apply QJ | apply QE | apply QI) | exact HB.out)) hb); clear HB; have HO660 := n0_; have HO663 := n1_; have HB := n2_; clear n0_ n1_ n2_; (try clear hb); (try clear hk); (try clear ho0); (try clear ho1)) | ((with_reducible refine gate_dst (N := 3) rfl ?_); (try (refine gate_guard (by rfl) ?_; dsimp only)); refine box_event ?hg (N := 3) ?hd (cs := #[.int .i64 0, .int .i64 0, .bool false, .bool false, .slice none 0 0, .slice none 0 0, .int .i64 0, .int .i64 0]) (t := 26) ?hr ?_; (case hd => rfl); (case hg => rfl); (case hr => first | (go_simp; done) | (go_simp; rfl)); intro gb666 hg w9 hbox hb; have n0_ := Qd (QT (by (with_reducible repeat (first | apply QM | apply QN | apply QP)); exact HO660.out) hb); have n1_ := Qd (QL (by (with_reducible repeat (first | apply QB | apply QC | apply QD)); exact HO663.out) hb); have n2_ := Qd (QX (by repeat (first | (with_reducible first | exact HB.out | apply QJ | apply QE | apply QI) | exact HB.out)) hb); have n3_ := Qd (hbox); have n4_ := Qd ((by rw [hg]; exact (Qc (by repeat (first | (with_reducible first | exact HB.out | apply QJ | apply QE | apply QI) | exact HB.out))) : w.heap.size ≤ gb666)); have n5_ := Qd ((by rw [hg]; exact (Qc (by repeat (first | (with_reducible first | exact HB.out | apply QJ | apply QE | apply QI) | exact HB.out))) : w.heap.size ≤ gb666)); clear HO660; clear HO663; clear HB; have HO660 := n0_; have HO663 := n1_; have HB := n2_; have BK666 := n3_; have GW666 := n4_; have GE666 := n5_; clear n0_ n1_ n2_ n3_ n4_ n5_; clear hb hbox hg; have hcz10 := fun i => blk_cell BK666.out i; have hfz10 := fun i => blk_frozen BK666.out i; obtain ⟨Ao11, co11, eo11, _⟩ := Kd.Q_slice HO660.out; subst eo11; obtain ⟨Ao12, co12, eo12⟩ := Kd.R_slice HO663.out; subst eo12) | ((with_reducible refine Qa (f := 9) rfl ?_); refine goesL_ (some 24) rfl rfl Tryd.func9 (by kernel_rfl) rfl #[.agg #[.int .i64 t654, .int .i64 t655, .bool t656, .bool t657, .slice Ao11 t658.length co11, .slice Ao12 t661.length co12, .int .i64 t664, .int .i64 t665]] rfl (by (try simp only [List.map_toArray, List.map_cons, List.map_nil]); first | done | rfl | (simp only [List.length_drop, List.length_take]; rfl)) ?_; (with_reducible refine (impl_RulesText.calls k t654 t655 t656 t657 _ _ t658 _ _ t661 t664 t665 t667 _ ?ht_ ?side1 ?side2 ?side3 ?side4 A5.out).mono ?_); (case ht_ => exact (HTAB.out.at (by repeat (first | (with_reducible first | exact HB.out | apply QJ | apply QE | apply QI | refine QF ?_ GE666.out) | exact HB.out))).1); (case side1 => refine (Qb (e := 3) (base := w.heap.size) (ok := fun k_ => some k_ ≠ (.slice Ao12 t661.length co12 : Value).ownBlock) (n := t658.length) (c := co11) ?_).2.2; exact (by (with_reducible repeat (first | apply QM | apply QN | apply QP)); exact (Kd.Q_mono (QU (p := ⟨gb666, 7, none⟩) (QU (p := ⟨gb666, 6, none⟩) (QU (p := ⟨gb666, 5, none⟩) (QU (p := ⟨gb666, 4, none⟩) (QU (p := ⟨gb666, 3, none⟩) (QU (p := ⟨gb666, 2, none⟩) (QU (p := ⟨gb666, 1, none⟩) (QU (p := ⟨gb666, 0, none⟩) (Kd.Q_types HO660.out BK666.out (by decide)) (fun _ hk => hk.2) (.int .i64 t654)) (fun _ hk => hk.2) (.int .i64 t655)) (fun _ hk => hk.2) (.bool t656)) (fun _ hk => hk.2) (.bool t657)) (fun _ hk => hk.2) (.slice Ao11 t658.length co11)) (fun _ hk => hk.2) (.slice Ao12 t661.length co12)) (fun _ hk => hk.2) (.int .i64 t664)) (fun _ hk => hk.2) (.int .i64 t665)) (fun _ h_ => h_.1)))); (case side2 => exact (Qb HO660.out).2.1); (case side3 => refine (QR (e := 3) (base := w.heap.size) (ok := fun k_ => some k_ ≠ (.slice Ao11 t658.length co11 : Value).ownBlock) (n := t661.length) (c := co12) ?_).2.2; exact (by (with_reducible repeat (first | apply QB | apply QC | apply QD)); exact (QO (QY (QY (QY (QY (QY (QY (QY (QY (Kd.R_types HO663.out BK666.out (by decide)))))))))) (fun _ h_ => h_.1)))); (case side4 => exact (QR HO663.out).2.1); rintro e w13 ⟨rfl, hb⟩; refine ⟨_, rfl, ?_⟩; have n0_ := Qd (QT (by (with_reducible repeat (first | apply QM | apply QN | apply QP)); exact (Kd.Q_mono (QU (p := ⟨gb666, 7, none⟩) (QU (p := ⟨gb666, 6, none⟩) (QU (p := ⟨gb666, 5, none⟩) (QU (p := ⟨gb666, 4, none⟩) (QU (p := ⟨gb666, 3, none⟩) (QU (p := ⟨gb666, 2, none⟩) (QU (p := ⟨gb666, 1, none⟩) (QU (p := ⟨gb666, 0, none⟩) (Kd.Q_types HO660.out BK666.out (by decide)) (fun _ hk => hk.2) (.int .i64 t654)) (fun _ hk => hk.2) (.int .i64 t655)) (fun _ hk => hk.2) (.bool t656)) (fun _ hk => hk.2) (.bool t657)) (fun _ hk => hk.2) (.slice Ao11 t658.length co11)) (fun _ hk => hk.2) (.slice Ao12 t661.length co12)) (fun _ hk => hk.2) (.int .i64 t664)) (fun _ hk => hk.2) (.int .i64 t665)) (fun _ h_ => h_.1))) hb); have n1_ := Qd (QL (by (with_reducible repeat (first | apply QB | apply QC | apply QD)); exact (QO (QY (QY (QY (QY (QY (QY (QY (QY (Kd.R_types HO663.out BK666.out (by decide)))))))))) (fun _ h_ => h_.1))) hb); have n2_ := Qd (QS (g := gb666) (o := .cells #[.int .i64 t654, .int .i64 t655, .bool t656, .bool t657, .slice Ao11 t658.length co11, .slice Ao12 t661.length co12, .int .i64 t664, .int .i64 t665] 26 (0, 0)) (by (with_reducible repeat (first | refine QG ?_ _ | refine QK ?_ | refine QH ?_ _)); refine blk_put (cs := #[.int .i64 t654, .int .i64 t655, .bool t656, .bool t657, .slice Ao11 t658.length co11, .slice Ao12 t661.length co12, .int .i64 t664, .int .i64 0]) ?_ 7 _ rfl; (with_reducible repeat (first | refine QG ?_ _ | refine QK ?_ | refine QH ?_ _)); refine blk_put (cs := #[.int .i64 t654, .int .i64 t655, .bool t656, .bool t657, .slice Ao11 t658.length co11, .slice Ao12 t661.length co12, .int .i64 0, .int .i64 0]) ?_ 6 _ rfl; (with_reducible repeat (first | refine QG ?_ _ | refine QK ?_ | refine QH ?_ _)); refine blk_put (cs := #[.int .i64 t654, .int .i64 t655, .bool t656, .bool t657, .slice Ao11 t658.length co11, .slice none 0 0, .int .i64 0, .int .i64 0]) ?_ 5 _ rfl; (with_reducible repeat (first | refine QG ?_ _ | refine QK ?_ | refine QH ?_ _)); refine blk_put (cs := #[.int .i64 t654, .int .i64 t655, .bool t656, .bool t657, .slice none 0 0, .slice none 0 0, .int .i64 0, .int .i64 0]) ?_ 4 _ rfl; (with_reducible repeat (first | refine QG ?_ _ | refine QK ?_ | refine QH ?_ _)); refine blk_put (cs := #[.int .i64 t654, .int .i64 t655, .bool t656, .bool false, .slice none 0 0, .slice none 0 0, .int .i64 0, .int .i64 0]) ?_ 3 _ rfl; (with_reducible repeat (first | refine QG ?_ _ | refine QK ?_ | refine QH ?_ _)); refine blk_put (cs := #[.int .i64 t654, .int .i64 t655, .bool false, .bool false, .slice none 0 0, .slice none 0 0, .int .i64 0, .int .i64 0]) ?_ 2 _ rfl; (with_reducible repeat (first | refine QG ?_ _ | refine QK ?_ | refine QH ?_ _)); refine blk_put (cs := #[.int .i64 t654, .int .i64 0, .bool false, .bool false, .slice none 0 0, .slice none 0 0, .int .i64 0, .int .i64 0]) ?_ 1 _ rfl; (with_reducible repeat (first | refine QG ?_ _ | refine QK ?_ | refine QH ?_ _)); refine blk_put (cs := #[.int .i64 0, .int .i64 0, .bool false, .bool false, .slice none 0 0, .slice none 0 0, .int .i64 0, .int .i64 0]) ?_ 0 _ rfl; (with_reducible repeat (first | refine QG ?_ _ | refine QK ?_ | refine QH ?_ _)); exact BK666.out) hb); have n3_ := Qd (QX (by repeat (first | (with_reducible first | exact HB.out | apply QJ | apply QE | apply QI | refine QF ?_ GE666.out) | exact HB.out)) hb); clear HO660; clear HO663; clear BK666; clear HB; have HO660 := n0_; have HO663 := n1_; have BK666 := n2_; have HB := n3_; clear n0_ n1_ n2_ n3_; (try clear hb); (try clear hk); (try clear hi)) | ((with_reducible refine Qa (f := 8) rfl ?_); refine goesL_ (some 25) rfl rfl Tryd.func8 (by kernel_rfl) rfl #[.string t667] rfl (by (try simp only [List.map_toArray, List.map_cons, List.map_nil]); first | done | rfl | (simp only [List.length_drop, List.length_take]; rfl)) ?_; (with_reducible refine (impl_ParseRules.calls k t667 t668 t669 t670 t671 t672 t675 t678 t679 t680 _ ?ht_ A6.out).mono ?_); (case ht_ => exact HTAB.out.at (by repeat (first | (with_reducible first | exact HB.out | apply QJ | apply QE | apply QI | refine QF ?_ GE666.out) | exact HB.out))); rintro e w14 ⟨v673, v676, rfl, ho0, ho1, hb⟩; refine ⟨_, rfl, ?_⟩; have n0_ := Qd (Kd.Q_mono (Kd.Q_told (Kd.Q_told (Kd.Q_old (by (with_reducible repeat (first | apply QM | apply QN | apply QP)); exact HO660.out) hb) (Kd.R_base ho0)) (Kd.R_base ho1)) (fun _ h_ => h_.1)); have n1_ := Qd (QO (Kd.R_told (Kd.R_told (Kd.R_old (by (with_reducible repeat (first | apply QB | apply QC | apply QD)); exact HO663.out) hb) (Kd.R_base ho0)) (Kd.R_base ho1)) (fun _ h_ => h_.1)); have n2_ := Qd (Kd.R_lower (Kd.R_new' (Kd.R_new' ho0 (Kd.Q_lt (by (with_reducible repeat (first | apply QM | apply QN | apply QP)); exact HO660.out))) (Kd.R_lt (by (with_reducible repeat (first | apply QB | apply QC | apply QD)); exact HO663.out))) (Qc (by repeat (first | (with_reducible first | exact HB.out | apply QJ | apply QE | apply QI | refine QF ?_ GE666.out) | exact HB.out)))); have n3_ := Qd (Kd.R_lower (Kd.R_new' (Kd.R_new' ho1 (Kd.Q_lt (by (with_reducible repeat (first | apply QM | apply QN | apply QP)); exact HO660.out))) (Kd.R_lt (by (with_reducible repeat (first | apply QB | apply QC | apply QD)); exact HO663.out))) (Qc (by repeat (first | (with_reducible first | exact HB.out | apply QJ | apply QE | apply QI | refine QF ?_ GE666.out) | exact HB.out)))); have n4_ := Qd (QS (g := gb666) (o := .cells #[.int .i64 t654, .int .i64 t655, .bool t656, .bool t657, .slice Ao11 t658.length co11, .slice Ao12 t661.length co12, .int .i64 t664, .int .i64 t665] 26 (0, 0)) (by (with_reducible repeat (first | refine QG ?_ _ | refine QK ?_ | refine QH ?_ _)); exact BK666.out) hb); have n5_ := Qd (QX (by repeat (first | (with_reducible first | exact HB.out | apply QJ | apply QE | apply QI | refine QF ?_ GE666.out) | exact HB.out)) hb); clear HO660; clear HO663; clear BK666; clear HB; have HO660 := n0_; have HO663 := n1_; have HO674 := n2_; have HO677 := n3_; have BK666 := n4_; have HB := n5_; clear n0_ n1_ n2_ n3_ n4_ n5_; (try clear hb); (try clear hk); (try clear ho0); (try clear ho1)) | ((with_reducible refine gate_dst (N := 4) rfl ?_); (try (refine gate_guard (by rfl) ?_; dsimp only)); refine box_event ?hg (N := 4) ?hd (cs := #[.int .i64 0, .int .i64 0, .bool false, .bool false, .slice none 0 0, .slice none 0 0, .int .i64 0, .int .i64 0]) (t := 26) ?hr ?_; (case hd => rfl); (case hg => rfl); (case hr => first | (go_simp; done) | (go_simp; rfl)); intro gb681 hg w15 hbox hb; have n0_ := Qd (QT (by (with_reducible repeat (first | apply QM | apply QN | apply QP)); exact HO660.out) hb); have n1_ := Qd (QL (by (with_reducible repeat (first | apply QB | apply QC | apply QD)); exact HO663.out) hb); have n2_ := Qd (QL (by (with_reducible repeat (first | apply QB | apply QC | apply QD)); exact HO674.out) hb); have n3_ := Qd (QL (by (with_reducible repeat (first | apply QB | apply QC | apply QD)); exact HO677.out) hb); have n4_ := Qd (QS (g := gb666) (o := .cells #[.int .i64 t654, .int .i64 t655, .bool t656, .bool t657, .slice Ao11 t658.length co11, .slice Ao12 t661.length co12, .int .i64 t664, .int .i64 t665] 26 (0, 0)) (by (with_reducible repeat (first | refine QG ?_ _ | refine QK ?_ | refine QH ?_ _)); exact BK666.out) hb); have n5_ := Qd (QX (by repeat (first | (with_reducible first | exact HB.out | apply QJ | apply QE | apply QI | refine QF ?_ GE666.out) | exact HB.out)) hb); have n6_ := Qd (hbox); have n7_ := Qd ((by rw [hg]; exact (Qc (by repeat (first | (with_reducible first | exact HB.out | apply QJ | apply QE | apply QI | refine QF ?_ GE666.out) | exact HB.out))) : w.heap.size ≤ gb681)); have n8_ := Qd ((by rw [hg]; exact (Qc (by repeat (first | (with_reducible first | exact HB.out | apply QJ | apply QE | apply QI | refine QF ?_ GE666.out) | exact HB.out))) : w.heap.size ≤ gb681)); have n9_ := Qd ((by rw [hg]; exact Nat.ne_of_lt (blk_lt (g := gb666) (o := .cells #[.int .i64 t654, .int .i64 t655, .bool t656, .bool t657, .slice Ao11 t658.length co11, .slice Ao12 t661.length co12, .int .i64 t664, .int .i64 t665] 26 (0, 0)) (by (with_reducible repeat (first | refine QG ?_ _ | refine QK ?_ | refine QH ?_ _)); exact BK666.out)) : gb666 ≠ gb681)); have n10_ := Qd ((by rw [hg]; exact Nat.ne_of_gt (blk_lt (g := gb666) (o := .cells #[.int .i64 t654, .int .i64 t655, .bool t656, .bool t657, .slice Ao11 t658.length co11, .slice Ao12 t661.length co12, .int .i64 t664, .int .i64 t665] 26 (0, 0)) (by (with_reducible repeat (first | refine QG ?_ _ | refine QK ?_ | refine QH ?_ _)); exact BK666.out)) : gb681 ≠ gb666)); clear HO660; clear HO663; clear HO674; clear HO677; clear BK666; clear HB; have HO660 := n0_; have HO663 := n1_; have HO674 := n2_; have HO677 := n3_; have BK666 := n4_; have HB := n5_; have BK681 := n6_; have GW681 := n7_; have GE681 := n8_; have NB666_681 := n9_; have NB681_666 := n10_; clear n0_ n1_ n2_ n3_ n4_ n5_ n6_ n7_ n8_ n9_ n10_; clear hb hbox hg; have hnb16 := NB681_666.out; have hnc16 := NB666_681.out; have hcz17 := fun i => blk_cell BK681.out i; have hfz17 := fun i => blk_frozen BK681.out i; obtain ⟨Ao18, co18, eo18⟩ := Kd.R_slice HO674.out; subst eo18; obtain ⟨Ao19, co19, eo19⟩ := Kd.R_slice HO677.out; subst eo19))
  (try simp only [Act.put, List.setIfInBounds_toArray, List.set_cons_zero, List.set_cons_succ])
  go_cut [49] (fun v49 wc => ∃ (kq : Nat) (x49_6 : Bool), v49 = .bool x49_6 ∧ Aside0 (laws_FnScripts.j0 kq l0 x49_6 = some r) ∧ Aside0 (kq ≤ k) ∧ Aside0 (Kd.Q (Kd.int .i64) 3 wc w.heap.size (fun k_ => some k_ ≠ ((.slice Ao12 t661.length co12) : Value).ownBlock ∧ some k_ ≠ ((.slice Ao18 t672.length co18) : Value).ownBlock ∧ some k_ ≠ ((.slice Ao19 t675.length co19) : Value).ownBlock) (.slice Ao11 t658.length co11) t658) ∧ Aside0 (Kd.R (Kd.int .i64) 3 wc w.heap.size (fun k_ => some k_ ≠ ((.slice Ao11 t658.length co11) : Value).ownBlock ∧ some k_ ≠ ((.slice Ao18 t672.length co18) : Value).ownBlock ∧ some k_ ≠ ((.slice Ao19 t675.length co19) : Value).ownBlock) (.slice Ao12 t661.length co12) t661) ∧ Aside0 (Kd.Q (Kd.int .i64) 3 wc w.heap.size (fun k_ => some k_ ≠ ((.slice Ao11 t658.length co11) : Value).ownBlock ∧ some k_ ≠ ((.slice Ao12 t661.length co12) : Value).ownBlock ∧ some k_ ≠ ((.slice Ao19 t675.length co19) : Value).ownBlock) (.slice Ao18 t672.length co18) t672) ∧ Aside0 (Kd.R (Kd.int .i64) 3 wc w.heap.size (fun k_ => some k_ ≠ ((.slice Ao11 t658.length co11) : Value).ownBlock ∧ some k_ ≠ ((.slice Ao12 t661.length co12) : Value).ownBlock ∧ some k_ ≠ ((.slice Ao18 t672.length co18) : Value).ownBlock) (.slice Ao19 t675.length co19) t675) ∧ Aside0 (wc.heap[gb666]? = some (.cells #[.int .i64 t654, .int .i64 t655, .bool t656, .bool t657, (.slice Ao11 t658.length co11), (.slice Ao12 t661.length co12), .int .i64 t664, .int .i64 t665] 26 (0, 0))) ∧ Aside0 (wc.heap[gb681]? = some (.cells #[.int .i64 t668, .int .i64 t669, .bool t670, .bool t671, (.slice Ao18 t672.length co18), (.slice Ao19 t675.length co19), .int .i64 t678, .int .i64 t679] 26 (0, 0))) ∧ Aside0 (Below w.heap.size w wc))
  case first =>
   have H := HC7.out
   clear HC7
   replace H := Qe.mp H
   obtain ⟨t682, A200, H⟩ := H
   have A20 := Qd A200
   clear A200
   by_cases c21 : (t680 != t682) = true
   ·rw [if_pos c21] at H
    have c21b0 : (t680 != t682) = true := c21
    (try (have c21b1 : decide (t680 = t682) = false := by simpa using c21))
    (try (have c21b2 : (t680 == t682) = false := by simpa using c21))
    (try (have c21b3 : ¬ (t680 = t682) := by simpa using c21))
    clear c21
    (first | rw [c21b0] | (simp only [i64_w, i32_w]; rw [c21b0]) | skip)
    exact absurd H (by rw [HT.out]; cases k <;> simp [laws_FnScripts.j0])
   ·rw [if_neg c21] at H
    have c21b0 : (t680 != t682) = false := by simpa using c21
    (try (have c21b1 : decide (t680 = t682) = true := by simpa using c21))
    (try (have c21b2 : (t680 == t682) = true := by simpa using c21))
    clear c21
    (first | rw [c21b0] | (simp only [i64_w, i32_w]; rw [c21b0]) | skip)
    have hnb31 := NB666_681.out
    have hnc31 := NB681_666.out
    have hcz32 := fun i => blk_cell BK666.out i
    have hfz32 := fun i => blk_frozen BK666.out i
    go_wp2_with (first | ((with_reducible refine Qa (f := 10) rfl ?_); refine goesL_ (some 30) rfl rfl Tryd.func10 (by kernel_rfl) rfl #[.agg #[.int .i64 t654, .int .i64 t655, .bool t656, .bool t657, .slice Ao11 t658.length co11, .slice Ao12 t661.length co12, .int .i64 t664, .int .i64 t665]] rfl (by (try simp only [List.map_toArray, List.map_cons, List.map_nil]); first | done | rfl | (simp only [List.length_drop, List.length_take]; rfl)) ?_; (with_reducible refine (impl_IsRules.calls k t654 t655 t656 t657 _ _ t658 _ _ t661 t664 t665 t682 _ ?side1 ?side2 ?side3 ?side4 A20.out).mono ?_); (case side1 => refine (Qb (e := 3) (base := w.heap.size) (ok := fun k_ => ((some k_ ≠ (.slice Ao12 t661.length co12 : Value).ownBlock ∧ some k_ ≠ (.slice Ao18 t672.length co18 : Value).ownBlock) ∧ some k_ ≠ (.slice Ao19 t675.length co19 : Value).ownBlock)) (n := t658.length) (c := co11) ?_).2.2; exact (by (with_reducible repeat (first | apply QM | apply QN | apply QP)); exact (Kd.Q_mono (QU (p := ⟨gb681, 7, none⟩) (QU (p := ⟨gb681, 6, none⟩) (QU (p := ⟨gb681, 5, none⟩) (QU (p := ⟨gb681, 4, none⟩) (QU (p := ⟨gb681, 3, none⟩) (QU (p := ⟨gb681, 2, none⟩) (QU (p := ⟨gb681, 1, none⟩) (QU (p := ⟨gb681, 0, none⟩) (Kd.Q_types HO660.out BK681.out (by decide)) (fun _ hk => hk.2) (.int .i64 t668)) (fun _ hk => hk.2) (.int .i64 t669)) (fun _ hk => hk.2) (.bool t670)) (fun _ hk => hk.2) (.bool t671)) (fun _ hk => hk.2) (.slice Ao18 t672.length co18)) (fun _ hk => hk.2) (.slice Ao19 t675.length co19)) (fun _ hk => hk.2) (.int .i64 t678)) (fun _ hk => hk.2) (.int .i64 t679)) (fun _ h_ => h_.1)))); (case side2 => exact (Qb HO660.out).2.1); (case side3 => refine (QR (e := 3) (base := w.heap.size) (ok := fun k_ => ((some k_ ≠ (.slice Ao11 t658.length co11 : Value).ownBlock ∧ some k_ ≠ (.slice Ao18 t672.length co18 : Value).ownBlock) ∧ some k_ ≠ (.slice Ao19 t675.length co19 : Value).ownBlock)) (n := t661.length) (c := co12) ?_).2.2; exact (by (with_reducible repeat (first | apply QB | apply QC | apply QD)); exact (QO (QY (QY (QY (QY (QY (QY (QY (QY (Kd.R_types HO663.out BK681.out (by decide)))))))))) (fun _ h_ => h_.1)))); (case side4 => exact (QR HO663.out).2.1); rintro e w33 ⟨rfl, hb⟩; refine ⟨_, rfl, ?_⟩; have n0_ := Qd (QT (by (with_reducible repeat (first | apply QM | apply QN | apply QP)); exact (Kd.Q_mono (QU (p := ⟨gb681, 7, none⟩) (QU (p := ⟨gb681, 6, none⟩) (QU (p := ⟨gb681, 5, none⟩) (QU (p := ⟨gb681, 4, none⟩) (QU (p := ⟨gb681, 3, none⟩) (QU (p := ⟨gb681, 2, none⟩) (QU (p := ⟨gb681, 1, none⟩) (QU (p := ⟨gb681, 0, none⟩) (Kd.Q_types HO660.out BK681.out (by decide)) (fun _ hk => hk.2) (.int .i64 t668)) (fun _ hk => hk.2) (.int .i64 t669)) (fun _ hk => hk.2) (.bool t670)) (fun _ hk => hk.2) (.bool t671)) (fun _ hk => hk.2) (.slice Ao18 t672.length co18)) (fun _ hk => hk.2) (.slice Ao19 t675.length co19)) (fun _ hk => hk.2) (.int .i64 t678)) (fun _ hk => hk.2) (.int .i64 t679)) (fun _ h_ => h_.1))) hb); have n1_ := Qd (QL (by (with_reducible repeat (first | apply QB | apply QC | apply QD)); exact (QO (QY (QY (QY (QY (QY (QY (QY (QY (Kd.R_types HO663.out BK681.out (by decide)))))))))) (fun _ h_ => h_.1))) hb); have n2_ := Qd (QL (by (with_reducible repeat (first | apply QB | apply QC | apply QD)); exact (QO (QY (QY (QY (QY (QY (QY (QY (QY (Kd.R_types HO674.out BK681.out (by decide)))))))))) (fun _ h_ => h_.1))) hb); have n3_ := Qd (QL (by (with_reducible repeat (first | apply QB | apply QC | apply QD)); exact (QO (QY (QY (QY (QY (QY (QY (QY (QY (Kd.R_types HO677.out BK681.out (by decide)))))))))) (fun _ h_ => h_.1))) hb); have n4_ := Qd (QS (g := gb666) (o := .cells #[.int .i64 t654, .int .i64 t655, .bool t656, .bool t657, .slice Ao11 t658.length co11, .slice Ao12 t661.length co12, .int .i64 t664, .int .i64 t665] 26 (0, 0)) (by (with_reducible repeat (first | refine QG ?_ _ | refine QK ?_ | refine QH ?_ _)); refine blk_far ?_ NB666_681.out _; (with_reducible repeat (first | refine QG ?_ _ | refine QK ?_ | refine QH ?_ _)); refine blk_far ?_ NB666_681.out _; (with_reducible repeat (first | refine QG ?_ _ | refine QK ?_ | refine QH ?_ _)); refine blk_far ?_ NB666_681.out _; (with_reducible repeat (first | refine QG ?_ _ | refine QK ?_ | refine QH ?_ _)); refine blk_far ?_ NB666_681.out _; (with_reducible repeat (first | refine QG ?_ _ | refine QK ?_ | refine QH ?_ _)); refine blk_far ?_ NB666_681.out _; (with_reducible repeat (first | refine QG ?_ _ | refine QK ?_ | refine QH ?_ _)); refine blk_far ?_ NB666_681.out _; (with_reducible repeat (first | refine QG ?_ _ | refine QK ?_ | refine QH ?_ _)); refine blk_far ?_ NB666_681.out _; (with_reducible repeat (first | refine QG ?_ _ | refine QK ?_ | refine QH ?_ _)); refine blk_far ?_ NB666_681.out _; (with_reducible repeat (first | refine QG ?_ _ | refine QK ?_ | refine QH ?_ _)); exact BK666.out) hb); have n5_ := Qd (QS (g := gb681) (o := .cells #[.int .i64 t668, .int .i64 t669, .bool t670, .bool t671, .slice Ao18 t672.length co18, .slice Ao19 t675.length co19, .int .i64 t678, .int .i64 t679] 26 (0, 0)) (by (with_reducible repeat (first | refine QG ?_ _ | refine QK ?_ | refine QH ?_ _)); refine blk_put (cs := #[.int .i64 t668, .int .i64 t669, .bool t670, .bool t671, .slice Ao18 t672.length co18, .slice Ao19 t675.length co19, .int .i64 t678, .int .i64 0]) ?_ 7 _ rfl; (with_reducible repeat (first | refine QG ?_ _ | refine QK ?_ | refine QH ?_ _)); refine blk_put (cs := #[.int .i64 t668, .int .i64 t669, .bool t670, .bool t671, .slice Ao18 t672.length co18, .slice Ao19 t675.length co19, .int .i64 0, .int .i64 0]) ?_ 6 _ rfl; (with_reducible repeat (first | refine QG ?_ _ | refine QK ?_ | refine QH ?_ _)); refine blk_put (cs := #[.int .i64 t668, .int .i64 t669, .bool t670, .bool t671, .slice Ao18 t672.length co18, .slice none 0 0, .int .i64 0, .int .i64 0]) ?_ 5 _ rfl; (with_reducible repeat (first | refine QG ?_ _ | refine QK ?_ | refine QH ?_ _)); refine blk_put (cs := #[.int .i64 t668, .int .i64 t669, .bool t670, .bool t671, .slice none 0 0, .slice none 0 0, .int .i64 0, .int .i64 0]) ?_ 4 _ rfl; (with_reducible repeat (first | refine QG ?_ _ | refine QK ?_ | refine QH ?_ _)); refine blk_put (cs := #[.int .i64 t668, .int .i64 t669, .bool t670, .bool false, .slice none 0 0, .slice none 0 0, .int .i64 0, .int .i64 0]) ?_ 3 _ rfl; (with_reducible repeat (first | refine QG ?_ _ | refine QK ?_ | refine QH ?_ _)); refine blk_put (cs := #[.int .i64 t668, .int .i64 t669, .bool false, .bool false, .slice none 0 0, .slice none 0 0, .int .i64 0, .int .i64 0]) ?_ 2 _ rfl; (with_reducible repeat (first | refine QG ?_ _ | refine QK ?_ | refine QH ?_ _)); refine blk_put (cs := #[.int .i64 t668, .int .i64 0, .bool false, .bool false, .slice none 0 0, .slice none 0 0, .int .i64 0, .int .i64 0]) ?_ 1 _ rfl; (with_reducible repeat (first | refine QG ?_ _ | refine QK ?_ | refine QH ?_ _)); refine blk_put (cs := #[.int .i64 0, .int .i64 0, .bool false, .bool false, .slice none 0 0, .slice none 0 0, .int .i64 0, .int .i64 0]) ?_ 0 _ rfl; (with_reducible repeat (first | refine QG ?_ _ | refine QK ?_ | refine QH ?_ _)); exact BK681.out) hb); have n6_ := Qd (QX (by repeat (first | (with_reducible first | exact HB.out | apply QJ | apply QE | apply QI | refine QF ?_ GE666.out | refine QF ?_ GE681.out) | exact HB.out)) hb); clear HO660; clear HO663; clear HO674; clear HO677; clear BK666; clear BK681; clear HB; have HO660 := n0_; have HO663 := n1_; have HO674 := n2_; have HO677 := n3_; have BK666 := n4_; have BK681 := n5_; have HB := n6_; clear n0_ n1_ n2_ n3_ n4_ n5_ n6_; (try clear hb); (try clear hk); (try clear hi); refine Aside0.out ?_))
    refine Qd ?_
    by_cases c25 : t680 = true
    ·subst c25
     rw [if_pos rfl] at H
     replace H := Qe.mp H
     obtain ⟨t683, A260, H⟩ := H
     have A26 := Qd A260
     clear A260
     by_cases c27 : t683 = true
     ·subst c27
      rw [if_pos rfl] at H
      replace H := Qe.mp H
      obtain ⟨t684, A280, H⟩ := H
      have A28 := Qd A280
      clear A280
      have hcz34 := fun i => blk_cell BK681.out i
      have hfz34 := fun i => blk_frozen BK681.out i
      have hcz35 := fun i => blk_cell BK666.out i
      have hfz35 := fun i => blk_frozen BK666.out i
      go_wp2_with (first | (go_at_call 11; (with_reducible refine (impl_EqualRules.calls k t668 t669 t670 t671 _ _ t672 _ _ t675 t678 t679 t654 t655 t656 t657 _ _ t658 _ _ t661 t664 t665 true _ ?side1 ?side2 ?side3 ?side4 ?side5 ?side6 ?side7 ?side8 A26.out).mono ?_); (case side1 => repeat (first | exact (QR HO674.out).2.2 | (with_reducible refine QV ?_ _) | (with_reducible refine QW ?_ _) | (with_reducible refine QZ ?_))); (case side2 => exact (QR HO674.out).2.1); (case side3 => repeat (first | exact (QR HO677.out).2.2 | (with_reducible refine QV ?_ _) | (with_reducible refine QW ?_ _) | (with_reducible refine QZ ?_))); (case side4 => exact (QR HO677.out).2.1); (case side5 => repeat (first | exact (Qb HO660.out).2.2 | (with_reducible refine QV ?_ _) | (with_reducible refine QW ?_ _) | (with_reducible refine QZ ?_))); (case side6 => exact (Qb HO660.out).2.1); (case side7 => repeat (first | exact (QR HO663.out).2.2 | (with_reducible refine QV ?_ _) | (with_reducible refine QW ?_ _) | (with_reducible refine QZ ?_))); (case side8 => exact (QR HO663.out).2.1); rintro e w36 ⟨rfl, hb⟩; have n0_ := Qd (QT (by (with_reducible repeat (first | apply QM | apply QN | apply QP)); exact HO660.out) hb); have n1_ := Qd (QL (by (with_reducible repeat (first | apply QB | apply QC | apply QD)); exact HO663.out) hb); have n2_ := Qd (QL (by (with_reducible repeat (first | apply QB | apply QC | apply QD)); exact HO674.out) hb); have n3_ := Qd (QL (by (with_reducible repeat (first | apply QB | apply QC | apply QD)); exact HO677.out) hb); have n4_ := Qd (QS (g := gb666) (o := .cells #[.int .i64 t654, .int .i64 t655, .bool t656, .bool t657, .slice Ao11 t658.length co11, .slice Ao12 t661.length co12, .int .i64 t664, .int .i64 t665] 26 (0, 0)) (by (with_reducible repeat (first | refine QG ?_ _ | refine QK ?_ | refine QH ?_ _)); exact BK666.out) hb); have n5_ := Qd (QS (g := gb681) (o := .cells #[.int .i64 t668, .int .i64 t669, .bool t670, .bool t671, .slice Ao18 t672.length co18, .slice Ao19 t675.length co19, .int .i64 t678, .int .i64 t679] 26 (0, 0)) (by (with_reducible repeat (first | refine QG ?_ _ | refine QK ?_ | refine QH ?_ _)); exact BK681.out) hb); have n6_ := Qd (QX (by repeat (first | (with_reducible first | exact HB.out | apply QJ | apply QE | apply QI | refine QF ?_ GE666.out | refine QF ?_ GE681.out) | exact HB.out)) hb); clear HO660; clear HO663; clear HO674; clear HO677; clear BK666; clear BK681; clear HB; have HO660 := n0_; have HO663 := n1_; have HO674 := n2_; have HO677 := n3_; have BK666 := n4_; have BK681 := n5_; have HB := n6_; clear n0_ n1_ n2_ n3_ n4_ n5_ n6_; (try clear hb); (try clear hk); (try clear hi); refine Aside0.out ?_))
      refine Qd ?_
      have hcz37 := fun i => blk_cell BK666.out i
      have hfz37 := fun i => blk_frozen BK666.out i
      by_cases c29 : t684 = true
      ·subst c29
       rw [if_pos rfl] at H
       replace H := Qe.mp H
       obtain ⟨t685, A300, H⟩ := H
       have A30 := Qd A300
       clear A300
       have H' := Qd H
       clear H
       go_wp2_with (first | (go_at_call 10; (with_reducible refine (impl_IsRules.calls k t654 t655 t656 t657 _ _ t658 _ _ t661 t664 t665 true _ ?side1 ?side2 ?side3 ?side4 A28.out).mono ?_); (case side1 => repeat (first | exact (Qb HO660.out).2.2 | (with_reducible refine QV ?_ _) | (with_reducible refine QW ?_ _) | (with_reducible refine QZ ?_))); (case side2 => exact (Qb HO660.out).2.1); (case side3 => repeat (first | exact (QR HO663.out).2.2 | (with_reducible refine QV ?_ _) | (with_reducible refine QW ?_ _) | (with_reducible refine QZ ?_))); (case side4 => exact (QR HO663.out).2.1); rintro e w38 ⟨rfl, hb⟩; have n0_ := Qd (QT (by (with_reducible repeat (first | apply QM | apply QN | apply QP)); exact HO660.out) hb); have n1_ := Qd (QL (by (with_reducible repeat (first | apply QB | apply QC | apply QD)); exact HO663.out) hb); have n2_ := Qd (QL (by (with_reducible repeat (first | apply QB | apply QC | apply QD)); exact HO674.out) hb); have n3_ := Qd (QL (by (with_reducible repeat (first | apply QB | apply QC | apply QD)); exact HO677.out) hb); have n4_ := Qd (QS (g := gb666) (o := .cells #[.int .i64 t654, .int .i64 t655, .bool t656, .bool t657, .slice Ao11 t658.length co11, .slice Ao12 t661.length co12, .int .i64 t664, .int .i64 t665] 26 (0, 0)) (by (with_reducible repeat (first | refine QG ?_ _ | refine QK ?_ | refine QH ?_ _)); exact BK666.out) hb); have n5_ := Qd (QS (g := gb681) (o := .cells #[.int .i64 t668, .int .i64 t669, .bool t670, .bool t671, .slice Ao18 t672.length co18, .slice Ao19 t675.length co19, .int .i64 t678, .int .i64 t679] 26 (0, 0)) (by (with_reducible repeat (first | refine QG ?_ _ | refine QK ?_ | refine QH ?_ _)); exact BK681.out) hb); have n6_ := Qd (QX (by repeat (first | (with_reducible first | exact HB.out | apply QJ | apply QE | apply QI | refine QF ?_ GE666.out | refine QF ?_ GE681.out) | exact HB.out)) hb); clear HO660; clear HO663; clear HO674; clear HO677; clear BK666; clear BK681; clear HB; have HO660 := n0_; have HO663 := n1_; have HO674 := n2_; have HO677 := n3_; have BK666 := n4_; have BK681 := n5_; have HB := n6_; clear n0_ n1_ n2_ n3_ n4_ n5_ n6_; (try clear hb); (try clear hk); (try clear hi); refine Aside0.out ?_))
       refine Qd ?_
       have hcz39 := fun i => blk_cell BK666.out i
       have hfz39 := fun i => blk_frozen BK666.out i
       go_wp2_with (first | (go_at_call 12; (with_reducible refine (impl_RulesWord.calls k t654 t655 t656 t657 _ _ t658 _ _ t661 t664 t665 t685 _ ?side1 ?side2 ?side3 ?side4 A30.out).mono ?_); (case side1 => repeat (first | exact (Qb HO660.out).2.2 | (with_reducible refine QV ?_ _) | (with_reducible refine QW ?_ _) | (with_reducible refine QZ ?_))); (case side2 => exact (Qb HO660.out).2.1); (case side3 => repeat (first | exact (QR HO663.out).2.2 | (with_reducible refine QV ?_ _) | (with_reducible refine QW ?_ _) | (with_reducible refine QZ ?_))); (case side4 => exact (QR HO663.out).2.1); rintro e w40 ⟨rfl, hb⟩; have n0_ := Qd (QT (by (with_reducible repeat (first | apply QM | apply QN | apply QP)); exact HO660.out) hb); have n1_ := Qd (QL (by (with_reducible repeat (first | apply QB | apply QC | apply QD)); exact HO663.out) hb); have n2_ := Qd (QL (by (with_reducible repeat (first | apply QB | apply QC | apply QD)); exact HO674.out) hb); have n3_ := Qd (QL (by (with_reducible repeat (first | apply QB | apply QC | apply QD)); exact HO677.out) hb); have n4_ := Qd (QS (g := gb666) (o := .cells #[.int .i64 t654, .int .i64 t655, .bool t656, .bool t657, .slice Ao11 t658.length co11, .slice Ao12 t661.length co12, .int .i64 t664, .int .i64 t665] 26 (0, 0)) (by (with_reducible repeat (first | refine QG ?_ _ | refine QK ?_ | refine QH ?_ _)); exact BK666.out) hb); have n5_ := Qd (QS (g := gb681) (o := .cells #[.int .i64 t668, .int .i64 t669, .bool t670, .bool t671, .slice Ao18 t672.length co18, .slice Ao19 t675.length co19, .int .i64 t678, .int .i64 t679] 26 (0, 0)) (by (with_reducible repeat (first | refine QG ?_ _ | refine QK ?_ | refine QH ?_ _)); exact BK681.out) hb); have n6_ := Qd (QX (by repeat (first | (with_reducible first | exact HB.out | apply QJ | apply QE | apply QI | refine QF ?_ GE666.out | refine QF ?_ GE681.out) | exact HB.out)) hb); clear HO660; clear HO663; clear HO674; clear HO677; clear BK666; clear BK681; clear HB; have HO660 := n0_; have HO663 := n1_; have HO674 := n2_; have HO677 := n3_; have BK666 := n4_; have BK681 := n5_; have HB := n6_; clear n0_ n1_ n2_ n3_ n4_ n5_ n6_; (try clear hb); (try clear hk); (try clear hi); refine Aside0.out ?_))
       refine Qd ?_
       go_wp2_with fail
       go_meet
       case rel => exact ⟨_, ((t685.toList == ([] : List UInt8))), (by first | rfl | (simp; done) | (simp [*]; done)), H', ⟨by first | omega | exact Nat.le_refl _⟩, ⟨by (with_reducible repeat (first | apply QM | apply QN | apply QP)); exact Kd.Q_mono HO660.out (fun _ hk => ⟨hk.1.1, ⟨hk.1.2, hk.2⟩⟩)⟩, ⟨by (with_reducible repeat (first | apply QB | apply QC | apply QD)); exact QO HO663.out (fun _ hk => ⟨hk.1.1, ⟨hk.1.2, hk.2⟩⟩)⟩, ⟨Kd.Q_of_R (by (with_reducible repeat (first | apply QB | apply QC | apply QD)); exact QO HO674.out (fun _ hk => ⟨hk.1.2, ⟨hk.2, hk.1.1⟩⟩))⟩, ⟨by (with_reducible repeat (first | apply QB | apply QC | apply QD)); exact QO HO677.out (fun _ hk => ⟨hk.1.2, ⟨hk.2, hk.1.1⟩⟩)⟩, ⟨by (with_reducible repeat (first | refine QG ?_ _ | refine QK ?_ | refine QH ?_ _)); exact BK666.out⟩, ⟨by (with_reducible repeat (first | refine QG ?_ _ | refine QK ?_ | refine QH ?_ _)); exact BK681.out⟩, ⟨by repeat (first | (with_reducible first | exact HB.out | apply QJ | apply QE | apply QI | refine QF ?_ GE666.out | refine QF ?_ GE681.out) | exact HB.out)⟩⟩
      ·replace c29 := Bool.eq_false_iff.mpr c29
       subst c29
       rw [if_neg (show ¬ (false = true) by decide)] at H
       have H' := Qd H
       clear H
       go_wp2_with (first | (go_at_call 10; (with_reducible refine (impl_IsRules.calls k t654 t655 t656 t657 _ _ t658 _ _ t661 t664 t665 false _ ?side1 ?side2 ?side3 ?side4 A28.out).mono ?_); (case side1 => repeat (first | exact (Qb HO660.out).2.2 | (with_reducible refine QV ?_ _) | (with_reducible refine QW ?_ _) | (with_reducible refine QZ ?_))); (case side2 => exact (Qb HO660.out).2.1); (case side3 => repeat (first | exact (QR HO663.out).2.2 | (with_reducible refine QV ?_ _) | (with_reducible refine QW ?_ _) | (with_reducible refine QZ ?_))); (case side4 => exact (QR HO663.out).2.1); rintro e w48 ⟨rfl, hb⟩; have n0_ := Qd (QT (by (with_reducible repeat (first | apply QM | apply QN | apply QP)); exact HO660.out) hb); have n1_ := Qd (QL (by (with_reducible repeat (first | apply QB | apply QC | apply QD)); exact HO663.out) hb); have n2_ := Qd (QL (by (with_reducible repeat (first | apply QB | apply QC | apply QD)); exact HO674.out) hb); have n3_ := Qd (QL (by (with_reducible repeat (first | apply QB | apply QC | apply QD)); exact HO677.out) hb); have n4_ := Qd (QS (g := gb666) (o := .cells #[.int .i64 t654, .int .i64 t655, .bool t656, .bool t657, .slice Ao11 t658.length co11, .slice Ao12 t661.length co12, .int .i64 t664, .int .i64 t665] 26 (0, 0)) (by (with_reducible repeat (first | refine QG ?_ _ | refine QK ?_ | refine QH ?_ _)); exact BK666.out) hb); have n5_ := Qd (QS (g := gb681) (o := .cells #[.int .i64 t668, .int .i64 t669, .bool t670, .bool t671, .slice Ao18 t672.length co18, .slice Ao19 t675.length co19, .int .i64 t678, .int .i64 t679] 26 (0, 0)) (by (with_reducible repeat (first | refine QG ?_ _ | refine QK ?_ | refine QH ?_ _)); exact BK681.out) hb); have n6_ := Qd (QX (by repeat (first | (with_reducible first | exact HB.out | apply QJ | apply QE | apply QI | refine QF ?_ GE666.out | refine QF ?_ GE681.out) | exact HB.out)) hb); clear HO660; clear HO663; clear HO674; clear HO677; clear BK666; clear BK681; clear HB; have HO660 := n0_; have HO663 := n1_; have HO674 := n2_; have HO677 := n3_; have BK666 := n4_; have BK681 := n5_; have HB := n6_; clear n0_ n1_ n2_ n3_ n4_ n5_ n6_; (try clear hb); (try clear hk); (try clear hi); refine Aside0.out ?_))
       refine Qd ?_
       go_wp2_with fail
       go_meet
       case rel => exact ⟨_, (false), (by first | rfl | (simp; done) | (simp [*]; done)), H', ⟨by first | omega | exact Nat.le_refl _⟩, ⟨by (with_reducible repeat (first | apply QM | apply QN | apply QP)); exact Kd.Q_mono HO660.out (fun _ hk => ⟨hk.1.1, ⟨hk.1.2, hk.2⟩⟩)⟩, ⟨by (with_reducible repeat (first | apply QB | apply QC | apply QD)); exact QO HO663.out (fun _ hk => ⟨hk.1.1, ⟨hk.1.2, hk.2⟩⟩)⟩, ⟨Kd.Q_of_R (by (with_reducible repeat (first | apply QB | apply QC | apply QD)); exact QO HO674.out (fun _ hk => ⟨hk.1.2, ⟨hk.2, hk.1.1⟩⟩))⟩, ⟨by (with_reducible repeat (first | apply QB | apply QC | apply QD)); exact QO HO677.out (fun _ hk => ⟨hk.1.2, ⟨hk.2, hk.1.1⟩⟩)⟩, ⟨by (with_reducible repeat (first | refine QG ?_ _ | refine QK ?_ | refine QH ?_ _)); exact BK666.out⟩, ⟨by (with_reducible repeat (first | refine QG ?_ _ | refine QK ?_ | refine QH ?_ _)); exact BK681.out⟩, ⟨by repeat (first | (with_reducible first | exact HB.out | apply QJ | apply QE | apply QI | refine QF ?_ GE666.out | refine QF ?_ GE681.out) | exact HB.out)⟩⟩
     ·replace c27 := Bool.eq_false_iff.mpr c27
      subst c27
      rw [if_neg (show ¬ (false = true) by decide)] at H
      exact absurd H (by rw [HT.out]; cases k <;> simp [laws_FnScripts.j0])
    ·replace c25 := Bool.eq_false_iff.mpr c25
     subst c25
     rw [if_neg (show ¬ (false = true) by decide)] at H
     replace H := Qe.mp H
     obtain ⟨t684, A280, H⟩ := H
     have A28 := Qd A280
     clear A280
     have hcz61 := fun i => blk_cell BK666.out i
     have hfz61 := fun i => blk_frozen BK666.out i
     by_cases c29 : t684 = true
     ·subst c29
      rw [if_pos rfl] at H
      replace H := Qe.mp H
      obtain ⟨t685, A300, H⟩ := H
      have A30 := Qd A300
      clear A300
      have H' := Qd H
      clear H
      go_wp2_with (first | (go_at_call 10; (with_reducible refine (impl_IsRules.calls k t654 t655 t656 t657 _ _ t658 _ _ t661 t664 t665 true _ ?side1 ?side2 ?side3 ?side4 A28.out).mono ?_); (case side1 => repeat (first | exact (Qb HO660.out).2.2 | (with_reducible refine QV ?_ _) | (with_reducible refine QW ?_ _) | (with_reducible refine QZ ?_))); (case side2 => exact (Qb HO660.out).2.1); (case side3 => repeat (first | exact (QR HO663.out).2.2 | (with_reducible refine QV ?_ _) | (with_reducible refine QW ?_ _) | (with_reducible refine QZ ?_))); (case side4 => exact (QR HO663.out).2.1); rintro e w62 ⟨rfl, hb⟩; have n0_ := Qd (QT (by (with_reducible repeat (first | apply QM | apply QN | apply QP)); exact HO660.out) hb); have n1_ := Qd (QL (by (with_reducible repeat (first | apply QB | apply QC | apply QD)); exact HO663.out) hb); have n2_ := Qd (QL (by (with_reducible repeat (first | apply QB | apply QC | apply QD)); exact HO674.out) hb); have n3_ := Qd (QL (by (with_reducible repeat (first | apply QB | apply QC | apply QD)); exact HO677.out) hb); have n4_ := Qd (QS (g := gb666) (o := .cells #[.int .i64 t654, .int .i64 t655, .bool t656, .bool t657, .slice Ao11 t658.length co11, .slice Ao12 t661.length co12, .int .i64 t664, .int .i64 t665] 26 (0, 0)) (by (with_reducible repeat (first | refine QG ?_ _ | refine QK ?_ | refine QH ?_ _)); exact BK666.out) hb); have n5_ := Qd (QS (g := gb681) (o := .cells #[.int .i64 t668, .int .i64 t669, .bool t670, .bool t671, .slice Ao18 t672.length co18, .slice Ao19 t675.length co19, .int .i64 t678, .int .i64 t679] 26 (0, 0)) (by (with_reducible repeat (first | refine QG ?_ _ | refine QK ?_ | refine QH ?_ _)); exact BK681.out) hb); have n6_ := Qd (QX (by repeat (first | (with_reducible first | exact HB.out | apply QJ | apply QE | apply QI | refine QF ?_ GE666.out | refine QF ?_ GE681.out) | exact HB.out)) hb); clear HO660; clear HO663; clear HO674; clear HO677; clear BK666; clear BK681; clear HB; have HO660 := n0_; have HO663 := n1_; have HO674 := n2_; have HO677 := n3_; have BK666 := n4_; have BK681 := n5_; have HB := n6_; clear n0_ n1_ n2_ n3_ n4_ n5_ n6_; (try clear hb); (try clear hk); (try clear hi); refine Aside0.out ?_))
      refine Qd ?_
      have hcz63 := fun i => blk_cell BK666.out i
      have hfz63 := fun i => blk_frozen BK666.out i
      go_wp2_with (first | (go_at_call 12; (with_reducible refine (impl_RulesWord.calls k t654 t655 t656 t657 _ _ t658 _ _ t661 t664 t665 t685 _ ?side1 ?side2 ?side3 ?side4 A30.out).mono ?_); (case side1 => repeat (first | exact (Qb HO660.out).2.2 | (with_reducible refine QV ?_ _) | (with_reducible refine QW ?_ _) | (with_reducible refine QZ ?_))); (case side2 => exact (Qb HO660.out).2.1); (case side3 => repeat (first | exact (QR HO663.out).2.2 | (with_reducible refine QV ?_ _) | (with_reducible refine QW ?_ _) | (with_reducible refine QZ ?_))); (case side4 => exact (QR HO663.out).2.1); rintro e w64 ⟨rfl, hb⟩; have n0_ := Qd (QT (by (with_reducible repeat (first | apply QM | apply QN | apply QP)); exact HO660.out) hb); have n1_ := Qd (QL (by (with_reducible repeat (first | apply QB | apply QC | apply QD)); exact HO663.out) hb); have n2_ := Qd (QL (by (with_reducible repeat (first | apply QB | apply QC | apply QD)); exact HO674.out) hb); have n3_ := Qd (QL (by (with_reducible repeat (first | apply QB | apply QC | apply QD)); exact HO677.out) hb); have n4_ := Qd (QS (g := gb666) (o := .cells #[.int .i64 t654, .int .i64 t655, .bool t656, .bool t657, .slice Ao11 t658.length co11, .slice Ao12 t661.length co12, .int .i64 t664, .int .i64 t665] 26 (0, 0)) (by (with_reducible repeat (first | refine QG ?_ _ | refine QK ?_ | refine QH ?_ _)); exact BK666.out) hb); have n5_ := Qd (QS (g := gb681) (o := .cells #[.int .i64 t668, .int .i64 t669, .bool t670, .bool t671, .slice Ao18 t672.length co18, .slice Ao19 t675.length co19, .int .i64 t678, .int .i64 t679] 26 (0, 0)) (by (with_reducible repeat (first | refine QG ?_ _ | refine QK ?_ | refine QH ?_ _)); exact BK681.out) hb); have n6_ := Qd (QX (by repeat (first | (with_reducible first | exact HB.out | apply QJ | apply QE | apply QI | refine QF ?_ GE666.out | refine QF ?_ GE681.out) | exact HB.out)) hb); clear HO660; clear HO663; clear HO674; clear HO677; clear BK666; clear BK681; clear HB; have HO660 := n0_; have HO663 := n1_; have HO674 := n2_; have HO677 := n3_; have BK666 := n4_; have BK681 := n5_; have HB := n6_; clear n0_ n1_ n2_ n3_ n4_ n5_ n6_; (try clear hb); (try clear hk); (try clear hi); refine Aside0.out ?_))
      refine Qd ?_
      go_wp2_with fail
      go_meet
      case rel => exact ⟨_, ((t685.toList == ([] : List UInt8))), (by first | rfl | (simp; done) | (simp [*]; done)), H', ⟨by first | omega | exact Nat.le_refl _⟩, ⟨by (with_reducible repeat (first | apply QM | apply QN | apply QP)); exact Kd.Q_mono HO660.out (fun _ hk => ⟨hk.1.1, ⟨hk.1.2, hk.2⟩⟩)⟩, ⟨by (with_reducible repeat (first | apply QB | apply QC | apply QD)); exact QO HO663.out (fun _ hk => ⟨hk.1.1, ⟨hk.1.2, hk.2⟩⟩)⟩, ⟨Kd.Q_of_R (by (with_reducible repeat (first | apply QB | apply QC | apply QD)); exact QO HO674.out (fun _ hk => ⟨hk.1.2, ⟨hk.2, hk.1.1⟩⟩))⟩, ⟨by (with_reducible repeat (first | apply QB | apply QC | apply QD)); exact QO HO677.out (fun _ hk => ⟨hk.1.2, ⟨hk.2, hk.1.1⟩⟩)⟩, ⟨by (with_reducible repeat (first | refine QG ?_ _ | refine QK ?_ | refine QH ?_ _)); exact BK666.out⟩, ⟨by (with_reducible repeat (first | refine QG ?_ _ | refine QK ?_ | refine QH ?_ _)); exact BK681.out⟩, ⟨by repeat (first | (with_reducible first | exact HB.out | apply QJ | apply QE | apply QI | refine QF ?_ GE666.out | refine QF ?_ GE681.out) | exact HB.out)⟩⟩
     ·replace c29 := Bool.eq_false_iff.mpr c29
      subst c29
      rw [if_neg (show ¬ (false = true) by decide)] at H
      have H' := Qd H
      clear H
      go_wp2_with (first | (go_at_call 10; (with_reducible refine (impl_IsRules.calls k t654 t655 t656 t657 _ _ t658 _ _ t661 t664 t665 false _ ?side1 ?side2 ?side3 ?side4 A28.out).mono ?_); (case side1 => repeat (first | exact (Qb HO660.out).2.2 | (with_reducible refine QV ?_ _) | (with_reducible refine QW ?_ _) | (with_reducible refine QZ ?_))); (case side2 => exact (Qb HO660.out).2.1); (case side3 => repeat (first | exact (QR HO663.out).2.2 | (with_reducible refine QV ?_ _) | (with_reducible refine QW ?_ _) | (with_reducible refine QZ ?_))); (case side4 => exact (QR HO663.out).2.1); rintro e w69 ⟨rfl, hb⟩; have n0_ := Qd (QT (by (with_reducible repeat (first | apply QM | apply QN | apply QP)); exact HO660.out) hb); have n1_ := Qd (QL (by (with_reducible repeat (first | apply QB | apply QC | apply QD)); exact HO663.out) hb); have n2_ := Qd (QL (by (with_reducible repeat (first | apply QB | apply QC | apply QD)); exact HO674.out) hb); have n3_ := Qd (QL (by (with_reducible repeat (first | apply QB | apply QC | apply QD)); exact HO677.out) hb); have n4_ := Qd (QS (g := gb666) (o := .cells #[.int .i64 t654, .int .i64 t655, .bool t656, .bool t657, .slice Ao11 t658.length co11, .slice Ao12 t661.length co12, .int .i64 t664, .int .i64 t665] 26 (0, 0)) (by (with_reducible repeat (first | refine QG ?_ _ | refine QK ?_ | refine QH ?_ _)); exact BK666.out) hb); have n5_ := Qd (QS (g := gb681) (o := .cells #[.int .i64 t668, .int .i64 t669, .bool t670, .bool t671, .slice Ao18 t672.length co18, .slice Ao19 t675.length co19, .int .i64 t678, .int .i64 t679] 26 (0, 0)) (by (with_reducible repeat (first | refine QG ?_ _ | refine QK ?_ | refine QH ?_ _)); exact BK681.out) hb); have n6_ := Qd (QX (by repeat (first | (with_reducible first | exact HB.out | apply QJ | apply QE | apply QI | refine QF ?_ GE666.out | refine QF ?_ GE681.out) | exact HB.out)) hb); clear HO660; clear HO663; clear HO674; clear HO677; clear BK666; clear BK681; clear HB; have HO660 := n0_; have HO663 := n1_; have HO674 := n2_; have HO677 := n3_; have BK666 := n4_; have BK681 := n5_; have HB := n6_; clear n0_ n1_ n2_ n3_ n4_ n5_ n6_; (try clear hb); (try clear hk); (try clear hi); refine Aside0.out ?_))
      refine Qd ?_
      go_wp2_with fail
      go_meet
      case rel => exact ⟨_, (false), (by first | rfl | (simp; done) | (simp [*]; done)), H', ⟨by first | omega | exact Nat.le_refl _⟩, ⟨by (with_reducible repeat (first | apply QM | apply QN | apply QP)); exact Kd.Q_mono HO660.out (fun _ hk => ⟨hk.1.1, ⟨hk.1.2, hk.2⟩⟩)⟩, ⟨by (with_reducible repeat (first | apply QB | apply QC | apply QD)); exact QO HO663.out (fun _ hk => ⟨hk.1.1, ⟨hk.1.2, hk.2⟩⟩)⟩, ⟨Kd.Q_of_R (by (with_reducible repeat (first | apply QB | apply QC | apply QD)); exact QO HO674.out (fun _ hk => ⟨hk.1.2, ⟨hk.2, hk.1.1⟩⟩))⟩, ⟨by (with_reducible repeat (first | apply QB | apply QC | apply QD)); exact QO HO677.out (fun _ hk => ⟨hk.1.2, ⟨hk.2, hk.1.1⟩⟩)⟩, ⟨by (with_reducible repeat (first | refine QG ?_ _ | refine QK ?_ | refine QH ?_ _)); exact BK666.out⟩, ⟨by (with_reducible repeat (first | refine QG ?_ _ | refine QK ?_ | refine QH ?_ _)); exact BK681.out⟩, ⟨by repeat (first | (with_reducible first | exact HB.out | apply QJ | apply QE | apply QI | refine QF ?_ GE666.out | refine QF ?_ GE681.out) | exact HB.out)⟩⟩
  case rest =>
   clear HC7
   try clear c3
   try clear c21
   try clear c21b0
   try clear c21b1
   try clear c21b2
   try clear c25
   try clear c27
   try clear c29
   try clear hcz10
   try clear hcz17
   try clear hcz32
   try clear hcz34
   try clear hcz35
   try clear hcz37
   try clear hcz39
   try clear hcz61
   try clear hcz63
   try clear hfz10
   try clear hfz17
   try clear hfz32
   try clear hfz34
   try clear hfz35
   try clear hfz37
   try clear hfz39
   try clear hfz61
   try clear hfz63
   obtain ⟨kq, x49_6, rfl, HA, HJ6, HO_667004, HO_667005, HO_682004, HO_682005, BK666, BK681, HB⟩ := hcut
   cases kq with
   | zero => exact absurd HA.out (by simp [laws_FnScripts.j0])
   | succ kj6 =>
    have H := HA.out
    clear HA
    simp only [laws_FnScripts.j0] at H
    by_cases c70 : x49_6 = true
    ·subst c70
     rw [if_pos rfl] at H
     exact absurd (Option.some.inj H) (by rw [HT.out]; decide)
    ·replace c70 := Bool.eq_false_iff.mpr c70
     subst c70
     rw [if_neg (show ¬ (false = true) by decide)] at H
     replace H := Qe.mp H
     obtain ⟨t688, A710, H⟩ := H
     have A71 := Qd A710
     clear A710
     replace H := Qe.mp H
     obtain ⟨⟨t689, t690, t691, t692, t693, t696, t699, t700, t701⟩, A720, H⟩ := H
     replace H : ((spec_DrawSplitWords.f kj6 l0).bind fun bt703 => ((impl_SplitWords.f kj6 bt703.1 bt703.2).bind fun t705 => (laws_FnScripts.l0 kj6 l0 t688 t701 bt703.1 t705 (wrap64 ((t705.length : Int) - 1)) 0 t689 t690 t691 t692 t693 t696 t699 t700))) = some r := H
     have A72 := Qd A720
     clear A720
     replace H := Qe.mp H
     obtain ⟨⟨t703, t704⟩, A730, H⟩ := H
     replace H : ((impl_SplitWords.f kj6 t703 t704).bind fun t705 => (laws_FnScripts.l0 kj6 l0 t688 t701 t703 t705 (wrap64 ((t705.length : Int) - 1)) 0 t689 t690 t691 t692 t693 t696 t699 t700)) = some r := H
     have A73 := Qd A730
     clear A730
     replace H := Qe.mp H
     obtain ⟨t705, A740, H⟩ := H
     have A74 := Qd A740
     clear A740
     have H' := Qd H
     clear H
     go_wp2_with (first | ((with_reducible refine Qa (f := 13) rfl ?_); refine goesL_ (some 51) rfl rfl Tryd.func13 (by kernel_rfl) rfl #[.slice A0 l0.length c0] rfl (by (try simp only [List.map_toArray, List.map_cons, List.map_nil]); first | done | rfl | (simp only [List.length_drop, List.length_take]; rfl)) ?_; (with_reducible refine (spec_DrawParseRules.calls kj6 _ _ l0 t688 _ ?side1 ?side2 A71.out).mono ?_); (case side1 => repeat (first | exact (Kd.C_below HR0.out HB.out) | (with_reducible refine QV ?_ _) | (with_reducible refine QW ?_ _) | (with_reducible refine QZ ?_))); (case side2 => exact HC0.out); rintro e w75 ⟨rfl, hb⟩; refine ⟨_, rfl, ?_⟩; have n0_ := Qd (QT (by (with_reducible repeat (first | apply QM | apply QN | apply QP)); exact HO_667004.out) hb); have n1_ := Qd (QL (by (with_reducible repeat (first | apply QB | apply QC | apply QD)); exact HO_667005.out) hb); have n2_ := Qd (QT (by (with_reducible repeat (first | apply QM | apply QN | apply QP)); exact HO_682004.out) hb); have n3_ := Qd (QL (by (with_reducible repeat (first | apply QB | apply QC | apply QD)); exact HO_682005.out) hb); have n4_ := Qd (QS (g := gb666) (o := .cells #[.int .i64 t654, .int .i64 t655, .bool t656, .bool t657, .slice Ao11 t658.length co11, .slice Ao12 t661.length co12, .int .i64 t664, .int .i64 t665] 26 (0, 0)) (by (with_reducible repeat (first | refine QG ?_ _ | refine QK ?_ | refine QH ?_ _)); exact BK666.out) hb); have n5_ := Qd (QS (g := gb681) (o := .cells #[.int .i64 t668, .int .i64 t669, .bool t670, .bool t671, .slice Ao18 t672.length co18, .slice Ao19 t675.length co19, .int .i64 t678, .int .i64 t679] 26 (0, 0)) (by (with_reducible repeat (first | refine QG ?_ _ | refine QK ?_ | refine QH ?_ _)); exact BK681.out) hb); have n6_ := Qd (QX (by repeat (first | (with_reducible first | exact HB.out | apply QJ | apply QE | apply QI | refine QF ?_ GE666.out | refine QF ?_ GE681.out) | exact HB.out)) hb); clear HO_667004; clear HO_667005; clear HO_682004; clear HO_682005; clear BK666; clear BK681; clear HB; have HO_667004 := n0_; have HO_667005 := n1_; have HO_682004 := n2_; have HO_682005 := n3_; have BK666 := n4_; have BK681 := n5_; have HB := n6_; clear n0_ n1_ n2_ n3_ n4_ n5_ n6_; (try clear hb); (try clear hk); (try clear hi); refine Aside0.out ?_))
     refine Qd ?_
     go_wp2_with (first | ((with_reducible refine Qa (f := 8) rfl ?_); refine goesL_ (some 54) rfl rfl Tryd.func8 (by kernel_rfl) rfl #[.string t688] rfl (by (try simp only [List.map_toArray, List.map_cons, List.map_nil]); first | done | rfl | (simp only [List.length_drop, List.length_take]; rfl)) ?_; (with_reducible refine (impl_ParseRules.calls kj6 t688 t689 t690 t691 t692 t693 t696 t699 t700 t701 _ ?ht_ A72.out).mono ?_); (case ht_ => exact HTAB.out.at (by repeat (first | (with_reducible first | exact HB.out | apply QJ | apply QE | apply QI | refine QF ?_ GE666.out | refine QF ?_ GE681.out) | exact HB.out))); rintro e w76 ⟨v694, v697, rfl, ho0, ho1, hb⟩; refine ⟨_, rfl, ?_⟩; have n0_ := Qd (Kd.Q_mono (Kd.Q_told (Kd.Q_told (Kd.Q_old (by (with_reducible repeat (first | apply QM | apply QN | apply QP)); exact HO_667004.out) hb) (Kd.R_base ho0)) (Kd.R_base ho1)) (fun _ h_ => h_.1)); have n1_ := Qd (QO (Kd.R_told (Kd.R_told (Kd.R_old (by (with_reducible repeat (first | apply QB | apply QC | apply QD)); exact HO_667005.out) hb) (Kd.R_base ho0)) (Kd.R_base ho1)) (fun _ h_ => h_.1)); have n2_ := Qd (Kd.Q_mono (Kd.Q_told (Kd.Q_told (Kd.Q_old (by (with_reducible repeat (first | apply QM | apply QN | apply QP)); exact HO_682004.out) hb) (Kd.R_base ho0)) (Kd.R_base ho1)) (fun _ h_ => h_.1)); have n3_ := Qd (QO (Kd.R_told (Kd.R_told (Kd.R_old (by (with_reducible repeat (first | apply QB | apply QC | apply QD)); exact HO_682005.out) hb) (Kd.R_base ho0)) (Kd.R_base ho1)) (fun _ h_ => h_.1)); have n4_ := Qd (Kd.R_lower (Kd.R_new' (Kd.R_new' (Kd.R_new' (Kd.R_new' ho0 (Kd.Q_lt (by (with_reducible repeat (first | apply QM | apply QN | apply QP)); exact HO_667004.out))) (Kd.R_lt (by (with_reducible repeat (first | apply QB | apply QC | apply QD)); exact HO_667005.out))) (Kd.Q_lt (by (with_reducible repeat (first | apply QM | apply QN | apply QP)); exact HO_682004.out))) (Kd.R_lt (by (with_reducible repeat (first | apply QB | apply QC | apply QD)); exact HO_682005.out))) (Qc (by repeat (first | (with_reducible first | exact HB.out | apply QJ | apply QE | apply QI | refine QF ?_ GE666.out | refine QF ?_ GE681.out) | exact HB.out)))); have n5_ := Qd (Kd.R_lower (Kd.R_new' (Kd.R_new' (Kd.R_new' (Kd.R_new' ho1 (Kd.Q_lt (by (with_reducible repeat (first | apply QM | apply QN | apply QP)); exact HO_667004.out))) (Kd.R_lt (by (with_reducible repeat (first | apply QB | apply QC | apply QD)); exact HO_667005.out))) (Kd.Q_lt (by (with_reducible repeat (first | apply QM | apply QN | apply QP)); exact HO_682004.out))) (Kd.R_lt (by (with_reducible repeat (first | apply QB | apply QC | apply QD)); exact HO_682005.out))) (Qc (by repeat (first | (with_reducible first | exact HB.out | apply QJ | apply QE | apply QI | refine QF ?_ GE666.out | refine QF ?_ GE681.out) | exact HB.out)))); have n6_ := Qd (QS (g := gb666) (o := .cells #[.int .i64 t654, .int .i64 t655, .bool t656, .bool t657, .slice Ao11 t658.length co11, .slice Ao12 t661.length co12, .int .i64 t664, .int .i64 t665] 26 (0, 0)) (by (with_reducible repeat (first | refine QG ?_ _ | refine QK ?_ | refine QH ?_ _)); exact BK666.out) hb); have n7_ := Qd (QS (g := gb681) (o := .cells #[.int .i64 t668, .int .i64 t669, .bool t670, .bool t671, .slice Ao18 t672.length co18, .slice Ao19 t675.length co19, .int .i64 t678, .int .i64 t679] 26 (0, 0)) (by (with_reducible repeat (first | refine QG ?_ _ | refine QK ?_ | refine QH ?_ _)); exact BK681.out) hb); have n8_ := Qd (QX (by repeat (first | (with_reducible first | exact HB.out | apply QJ | apply QE | apply QI | refine QF ?_ GE666.out | refine QF ?_ GE681.out) | exact HB.out)) hb); clear HO_667004; clear HO_667005; clear HO_682004; clear HO_682005; clear BK666; clear BK681; clear HB; have HO_667004 := n0_; have HO_667005 := n1_; have HO_682004 := n2_; have HO_682005 := n3_; have HO695 := n4_; have HO698 := n5_; have BK666 := n6_; have BK681 := n7_; have HB := n8_; clear n0_ n1_ n2_ n3_ n4_ n5_ n6_ n7_ n8_; (try clear hb); (try clear hk); (try clear ho0); (try clear ho1); refine Aside0.out ?_))
     refine Qd ?_
     go_wp2_with (first | ((with_reducible refine gate_dst (N := 7) rfl ?_); (try (refine gate_guard (by rfl) ?_; dsimp only)); refine box_event ?hg (N := 7) ?hd (cs := #[.int .i64 0, .int .i64 0, .bool false, .bool false, .slice none 0 0, .slice none 0 0, .int .i64 0, .int .i64 0]) (t := 26) ?hr ?_; (case hd => rfl); (case hg => rfl); (case hr => first | (go_simp; done) | (go_simp; rfl)); intro gb702 hg w77 hbox hb; have n0_ := Qd (QT (by (with_reducible repeat (first | apply QM | apply QN | apply QP)); exact HO_667004.out) hb); have n1_ := Qd (QL (by (with_reducible repeat (first | apply QB | apply QC | apply QD)); exact HO_667005.out) hb); have n2_ := Qd (QT (by (with_reducible repeat (first | apply QM | apply QN | apply QP)); exact HO_682004.out) hb); have n3_ := Qd (QL (by (with_reducible repeat (first | apply QB | apply QC | apply QD)); exact HO_682005.out) hb); have n4_ := Qd (QL (by (with_reducible repeat (first | apply QB | apply QC | apply QD)); exact HO695.out) hb); have n5_ := Qd (QL (by (with_reducible repeat (first | apply QB | apply QC | apply QD)); exact HO698.out) hb); have n6_ := Qd (QS (g := gb666) (o := .cells #[.int .i64 t654, .int .i64 t655, .bool t656, .bool t657, .slice Ao11 t658.length co11, .slice Ao12 t661.length co12, .int .i64 t664, .int .i64 t665] 26 (0, 0)) (by (with_reducible repeat (first | refine QG ?_ _ | refine QK ?_ | refine QH ?_ _)); exact BK666.out) hb); have n7_ := Qd (QS (g := gb681) (o := .cells #[.int .i64 t668, .int .i64 t669, .bool t670, .bool t671, .slice Ao18 t672.length co18, .slice Ao19 t675.length co19, .int .i64 t678, .int .i64 t679] 26 (0, 0)) (by (with_reducible repeat (first | refine QG ?_ _ | refine QK ?_ | refine QH ?_ _)); exact BK681.out) hb); have n8_ := Qd (QX (by repeat (first | (with_reducible first | exact HB.out | apply QJ | apply QE | apply QI | refine QF ?_ GE666.out | refine QF ?_ GE681.out) | exact HB.out)) hb); have n9_ := Qd (hbox); have n10_ := Qd ((by rw [hg]; exact (Qc (by repeat (first | (with_reducible first | exact HB.out | apply QJ | apply QE | apply QI | refine QF ?_ GE666.out | refine QF ?_ GE681.out) | exact HB.out))) : w.heap.size ≤ gb702)); have n11_ := Qd ((by rw [hg]; exact (Qc (by repeat (first | (with_reducible first | exact HB.out | apply QJ | apply QE | apply QI | refine QF ?_ GE666.out | refine QF ?_ GE681.out) | exact HB.out))) : w.heap.size ≤ gb702)); have n12_ := Qd ((by rw [hg]; exact Nat.ne_of_lt (blk_lt (g := gb666) (o := .cells #[.int .i64 t654, .int .i64 t655, .bool t656, .bool t657, .slice Ao11 t658.length co11, .slice Ao12 t661.length co12, .int .i64 t664, .int .i64 t665] 26 (0, 0)) (by (with_reducible repeat (first | refine QG ?_ _ | refine QK ?_ | refine QH ?_ _)); exact BK666.out)) : gb666 ≠ gb702)); have n13_ := Qd ((by rw [hg]; exact Nat.ne_of_gt (blk_lt (g := gb666) (o := .cells #[.int .i64 t654, .int .i64 t655, .bool t656, .bool t657, .slice Ao11 t658.length co11, .slice Ao12 t661.length co12, .int .i64 t664, .int .i64 t665] 26 (0, 0)) (by (with_reducible repeat (first | refine QG ?_ _ | refine QK ?_ | refine QH ?_ _)); exact BK666.out)) : gb702 ≠ gb666)); have n14_ := Qd ((by rw [hg]; exact Nat.ne_of_lt (blk_lt (g := gb681) (o := .cells #[.int .i64 t668, .int .i64 t669, .bool t670, .bool t671, .slice Ao18 t672.length co18, .slice Ao19 t675.length co19, .int .i64 t678, .int .i64 t679] 26 (0, 0)) (by (with_reducible repeat (first | refine QG ?_ _ | refine QK ?_ | refine QH ?_ _)); exact BK681.out)) : gb681 ≠ gb702)); have n15_ := Qd ((by rw [hg]; exact Nat.ne_of_gt (blk_lt (g := gb681) (o := .cells #[.int .i64 t668, .int .i64 t669, .bool t670, .bool t671, .slice Ao18 t672.length co18, .slice Ao19 t675.length co19, .int .i64 t678, .int .i64 t679] 26 (0, 0)) (by (with_reducible repeat (first | refine QG ?_ _ | refine QK ?_ | refine QH ?_ _)); exact BK681.out)) : gb702 ≠ gb681)); clear HO_667004; clear HO_667005; clear HO_682004; clear HO_682005; clear HO695; clear HO698; clear BK666; clear BK681; clear HB; have HO_667004 := n0_; have HO_667005 := n1_; have HO_682004 := n2_; have HO_682005 := n3_; have HO695 := n4_; have HO698 := n5_; have BK666 := n6_; have BK681 := n7_; have HB := n8_; have BK702 := n9_; have GW702 := n10_; have GE702 := n11_; have NB666_702 := n12_; have NB702_666 := n13_; have NB681_702 := n14_; have NB702_681 := n15_; clear n0_ n1_ n2_ n3_ n4_ n5_ n6_ n7_ n8_ n9_ n10_ n11_ n12_ n13_ n14_ n15_; clear hb hbox hg; have hnb78 := NB702_666.out; have hnc78 := NB666_702.out; have hnb79 := NB702_681.out; have hnc79 := NB681_702.out; have hcz80 := fun i => blk_cell BK702.out i; have hfz80 := fun i => blk_frozen BK702.out i; obtain ⟨Ao81, co81, eo81⟩ := Kd.R_slice HO695.out; subst eo81; obtain ⟨Ao82, co82, eo82⟩ := Kd.R_slice HO698.out; subst eo82) | ((with_reducible refine Qa (f := 14) rfl ?_); refine goesL_ (some 59) rfl rfl Tryd.func14 (by kernel_rfl) rfl #[.slice A0 l0.length c0] rfl (by (try simp only [List.map_toArray, List.map_cons, List.map_nil]); first | done | rfl | (simp only [List.length_drop, List.length_take]; rfl)) ?_; (with_reducible refine (spec_DrawSplitWords.calls kj6 _ _ l0 t703 t704 _ ?side1 ?side2 A73.out).mono ?_); (case side1 => exact Kd.C_below HR0.out (by repeat (first | (with_reducible first | exact HB.out | apply QJ | apply QE | apply QI | refine QF ?_ GE666.out | refine QF ?_ GE681.out | refine QF ?_ GE702.out) | exact HB.out))); (case side2 => exact HC0.out); rintro e w83 ⟨rfl, hb⟩; refine ⟨_, rfl, ?_⟩; have n0_ := Qd (QT (by (with_reducible repeat (first | apply QM | apply QN | apply QP)); exact (Kd.Q_mono (QU (p := ⟨gb702, 7, none⟩) (QU (p := ⟨gb702, 6, none⟩) (QU (p := ⟨gb702, 5, none⟩) (QU (p := ⟨gb702, 4, none⟩) (QU (p := ⟨gb702, 3, none⟩) (QU (p := ⟨gb702, 2, none⟩) (QU (p := ⟨gb702, 1, none⟩) (QU (p := ⟨gb702, 0, none⟩) (Kd.Q_types HO_667004.out BK702.out (by decide)) (fun _ hk => hk.2) (.int .i64 t689)) (fun _ hk => hk.2) (.int .i64 t690)) (fun _ hk => hk.2) (.bool t691)) (fun _ hk => hk.2) (.bool t692)) (fun _ hk => hk.2) (.slice Ao81 t693.length co81)) (fun _ hk => hk.2) (.slice Ao82 t696.length co82)) (fun _ hk => hk.2) (.int .i64 t699)) (fun _ hk => hk.2) (.int .i64 t700)) (fun _ h_ => h_.1))) hb); have n1_ := Qd (QL (by (with_reducible repeat (first | apply QB | apply QC | apply QD)); exact (QO (QY (QY (QY (QY (QY (QY (QY (QY (Kd.R_types HO_667005.out BK702.out (by decide)))))))))) (fun _ h_ => h_.1))) hb); have n2_ := Qd (QT (by (with_reducible repeat (first | apply QM | apply QN | apply QP)); exact (Kd.Q_mono (QU (p := ⟨gb702, 7, none⟩) (QU (p := ⟨gb702, 6, none⟩) (QU (p := ⟨gb702, 5, none⟩) (QU (p := ⟨gb702, 4, none⟩) (QU (p := ⟨gb702, 3, none⟩) (QU (p := ⟨gb702, 2, none⟩) (QU (p := ⟨gb702, 1, none⟩) (QU (p := ⟨gb702, 0, none⟩) (Kd.Q_types HO_682004.out BK702.out (by decide)) (fun _ hk => hk.2) (.int .i64 t689)) (fun _ hk => hk.2) (.int .i64 t690)) (fun _ hk => hk.2) (.bool t691)) (fun _ hk => hk.2) (.bool t692)) (fun _ hk => hk.2) (.slice Ao81 t693.length co81)) (fun _ hk => hk.2) (.slice Ao82 t696.length co82)) (fun _ hk => hk.2) (.int .i64 t699)) (fun _ hk => hk.2) (.int .i64 t700)) (fun _ h_ => h_.1))) hb); have n3_ := Qd (QL (by (with_reducible repeat (first | apply QB | apply QC | apply QD)); exact (QO (QY (QY (QY (QY (QY (QY (QY (QY (Kd.R_types HO_682005.out BK702.out (by decide)))))))))) (fun _ h_ => h_.1))) hb); have n4_ := Qd (QL (by (with_reducible repeat (first | apply QB | apply QC | apply QD)); exact (QO (QY (QY (QY (QY (QY (QY (QY (QY (Kd.R_types HO695.out BK702.out (by decide)))))))))) (fun _ h_ => h_.1))) hb); have n5_ := Qd (QL (by (with_reducible repeat (first | apply QB | apply QC | apply QD)); exact (QO (QY (QY (QY (QY (QY (QY (QY (QY (Kd.R_types HO698.out BK702.out (by decide)))))))))) (fun _ h_ => h_.1))) hb); have n6_ := Qd (QS (g := gb666) (o := .cells #[.int .i64 t654, .int .i64 t655, .bool t656, .bool t657, .slice Ao11 t658.length co11, .slice Ao12 t661.length co12, .int .i64 t664, .int .i64 t665] 26 (0, 0)) (by (with_reducible repeat (first | refine QG ?_ _ | refine QK ?_ | refine QH ?_ _)); refine blk_far ?_ NB666_702.out _; (with_reducible repeat (first | refine QG ?_ _ | refine QK ?_ | refine QH ?_ _)); refine blk_far ?_ NB666_702.out _; (with_reducible repeat (first | refine QG ?_ _ | refine QK ?_ | refine QH ?_ _)); refine blk_far ?_ NB666_702.out _; (with_reducible repeat (first | refine QG ?_ _ | refine QK ?_ | refine QH ?_ _)); refine blk_far ?_ NB666_702.out _; (with_reducible repeat (first | refine QG ?_ _ | refine QK ?_ | refine QH ?_ _)); refine blk_far ?_ NB666_702.out _; (with_reducible repeat (first | refine QG ?_ _ | refine QK ?_ | refine QH ?_ _)); refine blk_far ?_ NB666_702.out _; (with_reducible repeat (first | refine QG ?_ _ | refine QK ?_ | refine QH ?_ _)); refine blk_far ?_ NB666_702.out _; (with_reducible repeat (first | refine QG ?_ _ | refine QK ?_ | refine QH ?_ _)); refine blk_far ?_ NB666_702.out _; (with_reducible repeat (first | refine QG ?_ _ | refine QK ?_ | refine QH ?_ _)); exact BK666.out) hb); have n7_ := Qd (QS (g := gb681) (o := .cells #[.int .i64 t668, .int .i64 t669, .bool t670, .bool t671, .slice Ao18 t672.length co18, .slice Ao19 t675.length co19, .int .i64 t678, .int .i64 t679] 26 (0, 0)) (by (with_reducible repeat (first | refine QG ?_ _ | refine QK ?_ | refine QH ?_ _)); refine blk_far ?_ NB681_702.out _; (with_reducible repeat (first | refine QG ?_ _ | refine QK ?_ | refine QH ?_ _)); refine blk_far ?_ NB681_702.out _; (with_reducible repeat (first | refine QG ?_ _ | refine QK ?_ | refine QH ?_ _)); refine blk_far ?_ NB681_702.out _; (with_reducible repeat (first | refine QG ?_ _ | refine QK ?_ | refine QH ?_ _)); refine blk_far ?_ NB681_702.out _; (with_reducible repeat (first | refine QG ?_ _ | refine QK ?_ | refine QH ?_ _)); refine blk_far ?_ NB681_702.out _; (with_reducible repeat (first | refine QG ?_ _ | refine QK ?_ | refine QH ?_ _)); refine blk_far ?_ NB681_702.out _; (with_reducible repeat (first | refine QG ?_ _ | refine QK ?_ | refine QH ?_ _)); refine blk_far ?_ NB681_702.out _; (with_reducible repeat (first | refine QG ?_ _ | refine QK ?_ | refine QH ?_ _)); refine blk_far ?_ NB681_702.out _; (with_reducible repeat (first | refine QG ?_ _ | refine QK ?_ | refine QH ?_ _)); exact BK681.out) hb); have n8_ := Qd (QS (g := gb702) (o := .cells #[.int .i64 t689, .int .i64 t690, .bool t691, .bool t692, .slice Ao81 t693.length co81, .slice Ao82 t696.length co82, .int .i64 t699, .int .i64 t700] 26 (0, 0)) (by (with_reducible repeat (first | refine QG ?_ _ | refine QK ?_ | refine QH ?_ _)); refine blk_put (cs := #[.int .i64 t689, .int .i64 t690, .bool t691, .bool t692, .slice Ao81 t693.length co81, .slice Ao82 t696.length co82, .int .i64 t699, .int .i64 0]) ?_ 7 _ rfl; (with_reducible repeat (first | refine QG ?_ _ | refine QK ?_ | refine QH ?_ _)); refine blk_put (cs := #[.int .i64 t689, .int .i64 t690, .bool t691, .bool t692, .slice Ao81 t693.length co81, .slice Ao82 t696.length co82, .int .i64 0, .int .i64 0]) ?_ 6 _ rfl; (with_reducible repeat (first | refine QG ?_ _ | refine QK ?_ | refine QH ?_ _)); refine blk_put (cs := #[.int .i64 t689, .int .i64 t690, .bool t691, .bool t692, .slice Ao81 t693.length co81, .slice none 0 0, .int .i64 0, .int .i64 0]) ?_ 5 _ rfl; (with_reducible repeat (first | refine QG ?_ _ | refine QK ?_ | refine QH ?_ _)); refine blk_put (cs := #[.int .i64 t689, .int .i64 t690, .bool t691, .bool t692, .slice none 0 0, .slice none 0 0, .int .i64 0, .int .i64 0]) ?_ 4 _ rfl; (with_reducible repeat (first | refine QG ?_ _ | refine QK ?_ | refine QH ?_ _)); refine blk_put (cs := #[.int .i64 t689, .int .i64 t690, .bool t691, .bool false, .slice none 0 0, .slice none 0 0, .int .i64 0, .int .i64 0]) ?_ 3 _ rfl; (with_reducible repeat (first | refine QG ?_ _ | refine QK ?_ | refine QH ?_ _)); refine blk_put (cs := #[.int .i64 t689, .int .i64 t690, .bool false, .bool false, .slice none 0 0, .slice none 0 0, .int .i64 0, .int .i64 0]) ?_ 2 _ rfl; (with_reducible repeat (first | refine QG ?_ _ | refine QK ?_ | refine QH ?_ _)); refine blk_put (cs := #[.int .i64 t689, .int .i64 0, .bool false, .bool false, .slice none 0 0, .slice none 0 0, .int .i64 0, .int .i64 0]) ?_ 1 _ rfl; (with_reducible repeat (first | refine QG ?_ _ | refine QK ?_ | refine QH ?_ _)); refine blk_put (cs := #[.int .i64 0, .int .i64 0, .bool false, .bool false, .slice none 0 0, .slice none 0 0, .int .i64 0, .int .i64 0]) ?_ 0 _ rfl; (with_reducible repeat (first | refine QG ?_ _ | refine QK ?_ | refine QH ?_ _)); exact BK702.out) hb); have n9_ := Qd (QX (by repeat (first | (with_reducible first | exact HB.out | apply QJ | apply QE | apply QI | refine QF ?_ GE666.out | refine QF ?_ GE681.out | refine QF ?_ GE702.out) | exact HB.out)) hb); clear HO_667004; clear HO_667005; clear HO_682004; clear HO_682005; clear HO695; clear HO698; clear BK666; clear BK681; clear BK702; clear HB; have HO_667004 := n0_; have HO_667005 := n1_; have HO_682004 := n2_; have HO_682005 := n3_; have HO695 := n4_; have HO698 := n5_; have BK666 := n6_; have BK681 := n7_; have BK702 := n8_; have HB := n9_; clear n0_ n1_ n2_ n3_ n4_ n5_ n6_ n7_ n8_ n9_; (try clear hb); (try clear hk); (try clear hi); refine Aside0.out ?_))
     refine Qd ?_
     go_wp2_with (first | ((with_reducible refine Qa (f := 15) rfl ?_); refine goesL_ (some 64) rfl rfl Tryd.func15 (by kernel_rfl) rfl #[.string t703, .int .u8 t704] rfl (by (try simp only [List.map_toArray, List.map_cons, List.map_nil]); first | done | rfl | (simp only [List.length_drop, List.length_take]; rfl)) ?_; (with_reducible refine (impl_SplitWords.calls kj6 t703 t704 t705 _ A74.out).mono ?_); rintro e w84 ⟨v706, rfl, ho0, hb⟩; refine ⟨_, rfl, ?_⟩; have n0_ := Qd (QT (by (with_reducible repeat (first | apply QM | apply QN | apply QP)); exact HO_667004.out) hb); have n1_ := Qd (QL (by (with_reducible repeat (first | apply QB | apply QC | apply QD)); exact HO_667005.out) hb); have n2_ := Qd (QT (by (with_reducible repeat (first | apply QM | apply QN | apply QP)); exact HO_682004.out) hb); have n3_ := Qd (QL (by (with_reducible repeat (first | apply QB | apply QC | apply QD)); exact HO_682005.out) hb); have n4_ := Qd (QL (by (with_reducible repeat (first | apply QB | apply QC | apply QD)); exact HO695.out) hb); have n5_ := Qd (QL (by (with_reducible repeat (first | apply QB | apply QC | apply QD)); exact HO698.out) hb); have n6_ := Qd (Kd.R_lower ho0 (Qc (by repeat (first | (with_reducible first | exact HB.out | apply QJ | apply QE | apply QI | refine QF ?_ GE666.out | refine QF ?_ GE681.out | refine QF ?_ GE702.out) | exact HB.out)))); have n7_ := Qd (QS (g := gb666) (o := .cells #[.int .i64 t654, .int .i64 t655, .bool t656, .bool t657, .slice Ao11 t658.length co11, .slice Ao12 t661.length co12, .int .i64 t664, .int .i64 t665] 26 (0, 0)) (by (with_reducible repeat (first | refine QG ?_ _ | refine QK ?_ | refine QH ?_ _)); exact BK666.out) hb); have n8_ := Qd (QS (g := gb681) (o := .cells #[.int .i64 t668, .int .i64 t669, .bool t670, .bool t671, .slice Ao18 t672.length co18, .slice Ao19 t675.length co19, .int .i64 t678, .int .i64 t679] 26 (0, 0)) (by (with_reducible repeat (first | refine QG ?_ _ | refine QK ?_ | refine QH ?_ _)); exact BK681.out) hb); have n9_ := Qd (QS (g := gb702) (o := .cells #[.int .i64 t689, .int .i64 t690, .bool t691, .bool t692, .slice Ao81 t693.length co81, .slice Ao82 t696.length co82, .int .i64 t699, .int .i64 t700] 26 (0, 0)) (by (with_reducible repeat (first | refine QG ?_ _ | refine QK ?_ | refine QH ?_ _)); exact BK702.out) hb); have n10_ := Qd (QX (by repeat (first | (with_reducible first | exact HB.out | apply QJ | apply QE | apply QI | refine QF ?_ GE666.out | refine QF ?_ GE681.out | refine QF ?_ GE702.out) | exact HB.out)) hb); clear HO_667004; clear HO_667005; clear HO_682004; clear HO_682005; clear HO695; clear HO698; clear BK666; clear BK681; clear BK702; clear HB; have HO_667004 := n0_; have HO_667005 := n1_; have HO_682004 := n2_; have HO_682005 := n3_; have HO695 := n4_; have HO698 := n5_; have HO707 := n6_; have BK666 := n7_; have BK681 := n8_; have BK702 := n9_; have HB := n10_; clear n0_ n1_ n2_ n3_ n4_ n5_ n6_ n7_ n8_ n9_ n10_; (try clear hb); (try clear hk); (try clear ho0); refine Aside0.out ?_))
     refine Qd ?_
     obtain ⟨Ao85, co85, eo85⟩ := Kd.R_slice HO707.out
     subst eo85
     go_wp2_with fail
     go_loopg [12, 13] kj6 (fun kq v12 v13 w' => ∃ (x12_2 : Int) (x13_2 : Int), v12 = .int .i64 x12_2 ∧ v13 = .int .i64 x13_2 ∧ Aside0 (laws_FnScripts.l0 kq l0 t688 t701 t703 t705 x12_2 x13_2 t689 t690 t691 t692 t693 t696 t699 t700 = some r) ∧ Aside0 (kq ≤ kj6) ∧ Aside0 (Kd.R Kd.string 9 w' w.heap.size (fun _ => True) (.slice Ao85 t705.length co85) t705) ∧ Aside0 (Kd.Q (Kd.int .i64) 3 w' w.heap.size (fun k_ => some k_ ≠ ((.slice Ao12 t661.length co12) : Value).ownBlock ∧ some k_ ≠ ((.slice Ao18 t672.length co18) : Value).ownBlock ∧ some k_ ≠ ((.slice Ao19 t675.length co19) : Value).ownBlock ∧ some k_ ≠ ((.slice Ao81 t693.length co81) : Value).ownBlock ∧ some k_ ≠ ((.slice Ao82 t696.length co82) : Value).ownBlock) (.slice Ao11 t658.length co11) t658) ∧ Aside0 (Kd.R (Kd.int .i64) 3 w' w.heap.size (fun k_ => some k_ ≠ ((.slice Ao11 t658.length co11) : Value).ownBlock ∧ some k_ ≠ ((.slice Ao18 t672.length co18) : Value).ownBlock ∧ some k_ ≠ ((.slice Ao19 t675.length co19) : Value).ownBlock ∧ some k_ ≠ ((.slice Ao81 t693.length co81) : Value).ownBlock ∧ some k_ ≠ ((.slice Ao82 t696.length co82) : Value).ownBlock) (.slice Ao12 t661.length co12) t661) ∧ Aside0 (Kd.Q (Kd.int .i64) 3 w' w.heap.size (fun k_ => some k_ ≠ ((.slice Ao11 t658.length co11) : Value).ownBlock ∧ some k_ ≠ ((.slice Ao12 t661.length co12) : Value).ownBlock ∧ some k_ ≠ ((.slice Ao19 t675.length co19) : Value).ownBlock ∧ some k_ ≠ ((.slice Ao81 t693.length co81) : Value).ownBlock ∧ some k_ ≠ ((.slice Ao82 t696.length co82) : Value).ownBlock) (.slice Ao18 t672.length co18) t672) ∧ Aside0 (Kd.R (Kd.int .i64) 3 w' w.heap.size (fun k_ => some k_ ≠ ((.slice Ao11 t658.length co11) : Value).ownBlock ∧ some k_ ≠ ((.slice Ao12 t661.length co12) : Value).ownBlock ∧ some k_ ≠ ((.slice Ao18 t672.length co18) : Value).ownBlock ∧ some k_ ≠ ((.slice Ao81 t693.length co81) : Value).ownBlock ∧ some k_ ≠ ((.slice Ao82 t696.length co82) : Value).ownBlock) (.slice Ao19 t675.length co19) t675) ∧ Aside0 (Kd.Q (Kd.int .i64) 3 w' w.heap.size (fun k_ => some k_ ≠ ((.slice Ao11 t658.length co11) : Value).ownBlock ∧ some k_ ≠ ((.slice Ao12 t661.length co12) : Value).ownBlock ∧ some k_ ≠ ((.slice Ao18 t672.length co18) : Value).ownBlock ∧ some k_ ≠ ((.slice Ao19 t675.length co19) : Value).ownBlock ∧ some k_ ≠ ((.slice Ao82 t696.length co82) : Value).ownBlock) (.slice Ao81 t693.length co81) t693) ∧ Aside0 (Kd.R (Kd.int .i64) 3 w' w.heap.size (fun k_ => some k_ ≠ ((.slice Ao11 t658.length co11) : Value).ownBlock ∧ some k_ ≠ ((.slice Ao12 t661.length co12) : Value).ownBlock ∧ some k_ ≠ ((.slice Ao18 t672.length co18) : Value).ownBlock ∧ some k_ ≠ ((.slice Ao19 t675.length co19) : Value).ownBlock ∧ some k_ ≠ ((.slice Ao81 t693.length co81) : Value).ownBlock) (.slice Ao82 t696.length co82) t696) ∧ Aside0 (w'.heap[gb666]? = some (.cells #[.int .i64 t654, .int .i64 t655, .bool t656, .bool t657, (.slice Ao11 t658.length co11), (.slice Ao12 t661.length co12), .int .i64 t664, .int .i64 t665] 26 (0, 0))) ∧ Aside0 (w'.heap[gb681]? = some (.cells #[.int .i64 t668, .int .i64 t669, .bool t670, .bool t671, (.slice Ao18 t672.length co18), (.slice Ao19 t675.length co19), .int .i64 t678, .int .i64 t679] 26 (0, 0))) ∧ Aside0 (w'.heap[gb702]? = some (.cells #[.int .i64 t689, .int .i64 t690, .bool t691, .bool t692, (.slice Ao81 t693.length co81), (.slice Ao82 t696.length co82), .int .i64 t699, .int .i64 t700] 26 (0, 0))) ∧ Aside0 (Below w.heap.size w w'))
     case atStart => exact ⟨(wrap64 ((t705.length : Int) - 1)), (0), (by first | rfl | (simp; done) | (simp [*]; done)), (by first | rfl | (simp; done) | (simp [*]; done)), H', ⟨Nat.le_refl _⟩, ⟨by (with_reducible repeat (first | apply QB | apply QC | apply QD)); exact HO707.out⟩, ⟨by (with_reducible repeat (first | apply QM | apply QN | apply QP)); exact Kd.Q_mono HO_667004.out (fun _ hk => ⟨hk.1.1.1, ⟨hk.1.1.2.1, ⟨hk.1.1.2.2, ⟨hk.1.2, hk.2⟩⟩⟩⟩)⟩, ⟨by (with_reducible repeat (first | apply QB | apply QC | apply QD)); exact QO HO_667005.out (fun _ hk => ⟨hk.1.1.1, ⟨hk.1.1.2.1, ⟨hk.1.1.2.2, ⟨hk.1.2, hk.2⟩⟩⟩⟩)⟩, ⟨by (with_reducible repeat (first | apply QM | apply QN | apply QP)); exact Kd.Q_mono HO_682004.out (fun _ hk => ⟨hk.1.1.1, ⟨hk.1.1.2.1, ⟨hk.1.1.2.2, ⟨hk.1.2, hk.2⟩⟩⟩⟩)⟩, ⟨by (with_reducible repeat (first | apply QB | apply QC | apply QD)); exact QO HO_682005.out (fun _ hk => ⟨hk.1.1.1, ⟨hk.1.1.2.1, ⟨hk.1.1.2.2, ⟨hk.1.2, hk.2⟩⟩⟩⟩)⟩, ⟨Kd.Q_of_R (by (with_reducible repeat (first | apply QB | apply QC | apply QD)); exact QO HO695.out (fun _ hk => ⟨hk.1.1.1.2, ⟨hk.1.1.2, ⟨hk.1.2, ⟨hk.2, hk.1.1.1.1⟩⟩⟩⟩))⟩, ⟨by (with_reducible repeat (first | apply QB | apply QC | apply QD)); exact QO HO698.out (fun _ hk => ⟨hk.1.1.1.2, ⟨hk.1.1.2, ⟨hk.1.2, ⟨hk.2, hk.1.1.1.1⟩⟩⟩⟩)⟩, ⟨by (with_reducible repeat (first | refine QG ?_ _ | refine QK ?_ | refine QH ?_ _)); exact BK666.out⟩, ⟨by (with_reducible repeat (first | refine QG ?_ _ | refine QK ?_ | refine QH ?_ _)); exact BK681.out⟩, ⟨by (with_reducible repeat (first | refine QG ?_ _ | refine QK ?_ | refine QH ?_ _)); exact BK702.out⟩, ⟨by repeat (first | (with_reducible first | exact HB.out | apply QJ | apply QE | apply QI | refine QF ?_ GE666.out | refine QF ?_ GE681.out | refine QF ?_ GE702.out) | exact HB.out)⟩⟩
     case round =>
      clear H'
      try clear c3
      try clear c21
      try clear c21b0
      try clear c21b1
      try clear c21b2
      try clear c25
      try clear c27
      try clear c29
      try clear c70
      try clear hcz10
      try clear hcz17
      try clear hcz32
      try clear hcz34
      try clear hcz35
      try clear hcz37
      try clear hcz39
      try clear hcz61
      try clear hcz63
      try clear hcz80
      try clear hfz10
      try clear hfz17
      try clear hfz32
      try clear hfz34
      try clear hfz35
      try clear hfz37
      try clear hfz39
      try clear hfz61
      try clear hfz63
      try clear hfz80
      obtain ⟨x12_2, x13_2, rfl, rfl, HA, HK2, HO_11, HO_667004, HO_667005, HO_682004, HO_682005, HO_703004, HO_703005, BK666, BK681, BK702, HB⟩ := hrel
      cases gk with
      | zero => exact absurd HA.out (by simp [laws_FnScripts.l0])
      | succ k2 =>
       have H := HA.out
       clear HA
       simp only [laws_FnScripts.l0] at H
       by_cases c86 : x13_2 < (t705.length : Int)
       ·rw [if_pos c86] at H
        have c86b0 : decide (x13_2 < (t705.length : Int)) = true := decide_eq_true c86
        clear c86
        by_cases c87 : 0 ≤ x13_2
        ·rw [if_pos c87] at H
         have c87b0 : decide (0 ≤ x13_2) = true := decide_eq_true c87
         clear c87
         have H' := Qd H
         clear H
         have p708 : 0 ≤ (x13_2 : Int) := of_decide_eq_true (by first | (with_reducible assumption) | assumption)
         have q708 : x13_2 < (t705.length : Int) := of_decide_eq_true (by first | (with_reducible assumption) | assumption)
         obtain ⟨ad708, e708, hx708_0⟩ := Kd.at_string (QR HO_11.out).2.2 x13_2 p708 q708
         cases e708
         replace p708 := eq_true p708
         replace q708 := eq_true q708
         go_wp2
         go_roundg k2
         case measure => have := HJ6.out; have := HK2.out; omega
         case rel => exact ⟨(wrap64 (x12_2 + ((rdOf ByteArray.empty t705 x13_2).size : Int))), (wrap64 (x13_2 + 1)), (by first | rfl | (simp; done) | (simp [*]; done)), (by first | rfl | (simp; done) | (simp [*]; done)), H', ⟨by have := HJ6.out; have := HK2.out; omega⟩, ⟨by (with_reducible repeat (first | apply QB | apply QC | apply QD)); exact HO_11.out⟩, ⟨by (with_reducible repeat (first | apply QM | apply QN | apply QP)); exact HO_667004.out⟩, ⟨by (with_reducible repeat (first | apply QB | apply QC | apply QD)); exact HO_667005.out⟩, ⟨by (with_reducible repeat (first | apply QM | apply QN | apply QP)); exact HO_682004.out⟩, ⟨by (with_reducible repeat (first | apply QB | apply QC | apply QD)); exact HO_682005.out⟩, ⟨by (with_reducible repeat (first | apply QM | apply QN | apply QP)); exact HO_703004.out⟩, ⟨by (with_reducible repeat (first | apply QB | apply QC | apply QD)); exact HO_703005.out⟩, ⟨by (with_reducible repeat (first | refine QG ?_ _ | refine QK ?_ | refine QH ?_ _)); exact BK666.out⟩, ⟨by (with_reducible repeat (first | refine QG ?_ _ | refine QK ?_ | refine QH ?_ _)); exact BK681.out⟩, ⟨by (with_reducible repeat (first | refine QG ?_ _ | refine QK ?_ | refine QH ?_ _)); exact BK702.out⟩, ⟨by repeat (first | (with_reducible first | exact HB.out | apply QJ | apply QE | apply QI | refine QF ?_ GE666.out | refine QF ?_ GE681.out | refine QF ?_ GE702.out) | exact HB.out)⟩⟩
        ·rw [if_neg c87] at H
         exact absurd H (by simp)
       ·rw [if_neg c86] at H
        have c86b0 : decide (x13_2 < (t705.length : Int)) = false := decide_eq_false c86
        clear c86
        replace H := Qe.mp H
        obtain ⟨⟨t709, t710⟩, A880, H⟩ := H
        replace H : ((impl_ValueAfter.f t709 t710).bind fun bt711 => (if t701 = true then ((impl_RulesText.f k2 t689 t690 t691 t692 t693 t696 t699 t700).bind fun t713 => (if t713.toList = t688.toList then (if x12_2 = (t703.size : Int) then (if bt711.2 = true then (if t710.size + 1 ≤ 9223372036854775807 then (if (t710 ++ (⟨#[61]⟩ : ByteArray)).size + bt711.1.size ≤ 9223372036854775807 then (some (((t710 ++ (⟨#[61]⟩ : ByteArray)) ++ bt711.1).toList == t709.toList)) else (none)) else (none)) else (some true)) else (some false)) else (some false))) else (if x12_2 = (t703.size : Int) then (if bt711.2 = true then (if t710.size + 1 ≤ 9223372036854775807 then (if (t710 ++ (⟨#[61]⟩ : ByteArray)).size + bt711.1.size ≤ 9223372036854775807 then (some (((t710 ++ (⟨#[61]⟩ : ByteArray)) ++ bt711.1).toList == t709.toList)) else (none)) else (none)) else (some true)) else (some false)))) = some r := H
        have A88 := Qd A880
        clear A880
        replace H := Qe.mp H
        obtain ⟨⟨t711, t712⟩, A890, H⟩ := H
        replace H : (if t701 = true then ((impl_RulesText.f k2 t689 t690 t691 t692 t693 t696 t699 t700).bind fun t713 => (if t713.toList = t688.toList then (if x12_2 = (t703.size : Int) then (if t712 = true then (if t710.size + 1 ≤ 9223372036854775807 then (if (t710 ++ (⟨#[61]⟩ : ByteArray)).size + t711.size ≤ 9223372036854775807 then (some (((t710 ++ (⟨#[61]⟩ : ByteArray)) ++ t711).toList == t709.toList)) else (none)) else (none)) else (some true)) else (some false)) else (some false))) else (if x12_2 = (t703.size : Int) then (if t712 = true then (if t710.size + 1 ≤ 9223372036854775807 then (if (t710 ++ (⟨#[61]⟩ : ByteArray)).size + t711.size ≤ 9223372036854775807 then (some (((t710 ++ (⟨#[61]⟩ : ByteArray)) ++ t711).toList == t709.toList)) else (none)) else (none)) else (some true)) else (some false))) = some r := H
        have A89 := Qd A890
        clear A890
        by_cases c90 : t701 = true
        ·subst c90
         rw [if_pos rfl] at H
         replace H := Qe.mp H
         obtain ⟨t713, A910, H⟩ := H
         have A91 := Qd A910
         clear A910
         by_cases c92 : t713.toList = t688.toList
         ·rw [if_pos c92] at H
          have c92b0 : (t713.toList == t688.toList) = true := beq_iff_eq.mpr c92
          have c92b1 : (t713.toList != t688.toList) = false := bne_eq_false_iff_eq.mpr c92
          clear c92
          by_cases c93 : x12_2 = (t703.size : Int)
          ·rw [if_pos c93] at H
           have c93b0 : (x12_2 == (t703.size : Int)) = true := beq_iff_eq.mpr c93
           have c93b1 : (x12_2 != (t703.size : Int)) = false := bne_eq_false_iff_eq.mpr c93
           clear c93
           by_cases c94 : t712 = true
           ·subst c94
            rw [if_pos rfl] at H
            by_cases c95 : t710.size + 1 ≤ 9223372036854775807
            ·rw [if_pos c95] at H
             have c95b0 := eq_true c95
             have c95b1 : decide (t710.size + 1 ≤ 9223372036854775807) = true := decide_eq_true c95
             try have c95b2 : (9223372036854775807 < t710.size + 1) = False := eq_false (Nat.not_lt.2 c95)
             by_cases c96 : (t710 ++ (⟨#[61]⟩ : ByteArray)).size + t711.size ≤ 9223372036854775807
             ·rw [if_pos c96] at H
              have c96b0 := eq_true c96
              have c96b1 : decide ((t710 ++ (⟨#[61]⟩ : ByteArray)).size + t711.size ≤ 9223372036854775807) = true := decide_eq_true c96
              try have c96b2 : (9223372036854775807 < (t710 ++ (⟨#[61]⟩ : ByteArray)).size + t711.size) = False := eq_false (Nat.not_lt.2 c96)
              have c96b3 := c96b2
              (try simp only [ByteArray.size_append, ba_size, List.size_toArray, List.length_cons, List.length_nil, Nat.reduceAdd, Nat.zero_add] at c96b3)
              obtain rfl := Option.some.inj H
              go_wp2_with (first | ((with_reducible refine Qa (f := 16) rfl ?_); refine goesL_ (some 83) rfl rfl Tryd.func16 (by kernel_rfl) rfl #[.slice A0 l0.length c0] rfl (by (try simp only [List.map_toArray, List.map_cons, List.map_nil]); first | done | rfl | (simp only [List.length_drop, List.length_take]; rfl)) ?_; (with_reducible refine (spec_DrawValueAfter.calls k2 _ _ l0 t709 t710 _ ?side1 ?side2 A88.out).mono ?_); (case side1 => repeat (first | exact (Kd.C_below HR0.out HB.out) | (with_reducible refine QV ?_ _) | (with_reducible refine QW ?_ _) | (with_reducible refine QZ ?_))); (case side2 => exact HC0.out); rintro e w97 ⟨rfl, hb⟩; refine ⟨_, rfl, ?_⟩; have n0_ := Qd (QL (by (with_reducible repeat (first | apply QB | apply QC | apply QD)); exact HO_11.out) hb); have n1_ := Qd (QT (by (with_reducible repeat (first | apply QM | apply QN | apply QP)); exact HO_667004.out) hb); have n2_ := Qd (QL (by (with_reducible repeat (first | apply QB | apply QC | apply QD)); exact HO_667005.out) hb); have n3_ := Qd (QT (by (with_reducible repeat (first | apply QM | apply QN | apply QP)); exact HO_682004.out) hb); have n4_ := Qd (QL (by (with_reducible repeat (first | apply QB | apply QC | apply QD)); exact HO_682005.out) hb); have n5_ := Qd (QT (by (with_reducible repeat (first | apply QM | apply QN | apply QP)); exact HO_703004.out) hb); have n6_ := Qd (QL (by (with_reducible repeat (first | apply QB | apply QC | apply QD)); exact HO_703005.out) hb); have n7_ := Qd (QS (g := gb666) (o := .cells #[.int .i64 t654, .int .i64 t655, .bool t656, .bool t657, .slice Ao11 t658.length co11, .slice Ao12 t661.length co12, .int .i64 t664, .int .i64 t665] 26 (0, 0)) (by (with_reducible repeat (first | refine QG ?_ _ | refine QK ?_ | refine QH ?_ _)); exact BK666.out) hb); have n8_ := Qd (QS (g := gb681) (o := .cells #[.int .i64 t668, .int .i64 t669, .bool t670, .bool t671, .slice Ao18 t672.length co18, .slice Ao19 t675.length co19, .int .i64 t678, .int .i64 t679] 26 (0, 0)) (by (with_reducible repeat (first | refine QG ?_ _ | refine QK ?_ | refine QH ?_ _)); exact BK681.out) hb); have n9_ := Qd (QS (g := gb702) (o := .cells #[.int .i64 t689, .int .i64 t690, .bool t691, .bool t692, .slice Ao81 t693.length co81, .slice Ao82 t696.length co82, .int .i64 t699, .int .i64 t700] 26 (0, 0)) (by (with_reducible repeat (first | refine QG ?_ _ | refine QK ?_ | refine QH ?_ _)); exact BK702.out) hb); have n10_ := Qd (QX (by repeat (first | (with_reducible first | exact HB.out | apply QJ | apply QE | apply QI | refine QF ?_ GE666.out | refine QF ?_ GE681.out | refine QF ?_ GE702.out) | exact HB.out)) hb); clear HO_11; clear HO_667004; clear HO_667005; clear HO_682004; clear HO_682005; clear HO_703004; clear HO_703005; clear BK666; clear BK681; clear BK702; clear HB; have HO_11 := n0_; have HO_667004 := n1_; have HO_667005 := n2_; have HO_682004 := n3_; have HO_682005 := n4_; have HO_703004 := n5_; have HO_703005 := n6_; have BK666 := n7_; have BK681 := n8_; have BK702 := n9_; have HB := n10_; clear n0_ n1_ n2_ n3_ n4_ n5_ n6_ n7_ n8_ n9_ n10_; (try clear hb); (try clear hk); (try clear hi); refine Aside0.out ?_))
              refine Qd ?_
              go_wp2_with (first | ((with_reducible refine Qa (f := 17) rfl ?_); refine goesL_ (some 89) rfl rfl Tryd.func17 (by kernel_rfl) rfl #[.string t709, .string t710] rfl (by (try simp only [List.map_toArray, List.map_cons, List.map_nil]); first | done | rfl | (simp only [List.length_drop, List.length_take]; rfl)) ?_; (with_reducible refine (impl_ValueAfter.calls t709 t710 t711 true _ A89.out).mono ?_); rintro e w' ⟨rfl, ⟨nd, rfl⟩⟩; refine ⟨_, rfl, ?_⟩; refine Aside0.out ?_))
              refine Qd ?_
              have hnb98 := NB702_666.out
              have hnc98 := NB666_702.out
              have hnb99 := NB702_681.out
              have hnc99 := NB681_702.out
              have hcz100 := fun i => blk_cell BK702.out i
              have hfz100 := fun i => blk_frozen BK702.out i
              go_wp2_with (first | (go_at_call 9; (with_reducible refine (impl_RulesText.calls k2 t689 t690 t691 t692 _ _ t693 _ _ t696 t699 t700 t713 _ ?ht_ ?side1 ?side2 ?side3 ?side4 A91.out).mono ?_); (case ht_ => exact (HTAB.out.at (by repeat (first | (with_reducible first | exact HB.out | apply QJ | apply QE | apply QI | refine QF ?_ GE666.out | refine QF ?_ GE681.out | refine QF ?_ GE702.out) | exact HB.out))).1); (case side1 => repeat (first | exact (Qb HO_703004.out).2.2 | (with_reducible refine QV ?_ _) | (with_reducible refine QW ?_ _) | (with_reducible refine QZ ?_))); (case side2 => exact (Qb HO_703004.out).2.1); (case side3 => repeat (first | exact (QR HO_703005.out).2.2 | (with_reducible refine QV ?_ _) | (with_reducible refine QW ?_ _) | (with_reducible refine QZ ?_))); (case side4 => exact (QR HO_703005.out).2.1); rintro e w101 ⟨rfl, hb⟩; have n0_ := Qd (QL (by (with_reducible repeat (first | apply QB | apply QC | apply QD)); exact HO_11.out) hb); have n1_ := Qd (QT (by (with_reducible repeat (first | apply QM | apply QN | apply QP)); exact HO_667004.out) hb); have n2_ := Qd (QL (by (with_reducible repeat (first | apply QB | apply QC | apply QD)); exact HO_667005.out) hb); have n3_ := Qd (QT (by (with_reducible repeat (first | apply QM | apply QN | apply QP)); exact HO_682004.out) hb); have n4_ := Qd (QL (by (with_reducible repeat (first | apply QB | apply QC | apply QD)); exact HO_682005.out) hb); have n5_ := Qd (QT (by (with_reducible repeat (first | apply QM | apply QN | apply QP)); exact HO_703004.out) hb); have n6_ := Qd (QL (by (with_reducible repeat (first | apply QB | apply QC | apply QD)); exact HO_703005.out) hb); have n7_ := Qd (QS (g := gb666) (o := .cells #[.int .i64 t654, .int .i64 t655, .bool t656, .bool t657, .slice Ao11 t658.length co11, .slice Ao12 t661.length co12, .int .i64 t664, .int .i64 t665] 26 (0, 0)) (by (with_reducible repeat (first | refine QG ?_ _ | refine QK ?_ | refine QH ?_ _)); exact BK666.out) hb); have n8_ := Qd (QS (g := gb681) (o := .cells #[.int .i64 t668, .int .i64 t669, .bool t670, .bool t671, .slice Ao18 t672.length co18, .slice Ao19 t675.length co19, .int .i64 t678, .int .i64 t679] 26 (0, 0)) (by (with_reducible repeat (first | refine QG ?_ _ | refine QK ?_ | refine QH ?_ _)); exact BK681.out) hb); have n9_ := Qd (QS (g := gb702) (o := .cells #[.int .i64 t689, .int .i64 t690, .bool t691, .bool t692, .slice Ao81 t693.length co81, .slice Ao82 t696.length co82, .int .i64 t699, .int .i64 t700] 26 (0, 0)) (by (with_reducible repeat (first | refine QG ?_ _ | refine QK ?_ | refine QH ?_ _)); exact BK702.out) hb); have n10_ := Qd (QX (by repeat (first | (with_reducible first | exact HB.out | apply QJ | apply QE | apply QI | refine QF ?_ GE666.out | refine QF ?_ GE681.out | refine QF ?_ GE702.out) | exact HB.out)) hb); clear HO_11; clear HO_667004; clear HO_667005; clear HO_682004; clear HO_682005; clear HO_703004; clear HO_703005; clear BK666; clear BK681; clear BK702; clear HB; have HO_11 := n0_; have HO_667004 := n1_; have HO_667005 := n2_; have HO_682004 := n3_; have HO_682005 := n4_; have HO_703004 := n5_; have HO_703005 := n6_; have BK666 := n7_; have BK681 := n8_; have BK702 := n9_; have HB := n10_; clear n0_ n1_ n2_ n3_ n4_ n5_ n6_ n7_ n8_ n9_ n10_; (try clear hb); (try clear hk); (try clear hi); refine Aside0.out ?_))
              refine Qd ?_
              go_wp2_with fail
              go_ret
              exact ⟨by first | rfl | (simp [errW_none, errW_some] <;> rfl) | (simp [*, errW_none, errW_some] <;> rfl), by repeat (first | (with_reducible first | exact HB.out | apply QJ | apply QE | apply QI | refine QF ?_ GE666.out | refine QF ?_ GE681.out | refine QF ?_ GE702.out) | exact HB.out)⟩
             ·rw [if_neg c96] at H
              exact absurd H (by simp)
            ·rw [if_neg c95] at H
             exact absurd H (by simp)
           ·replace c94 := Bool.eq_false_iff.mpr c94
            subst c94
            rw [if_neg (show ¬ (false = true) by decide)] at H
            obtain rfl := Option.some.inj H
            go_wp2_with (first | ((with_reducible refine Qa (f := 16) rfl ?_); refine goesL_ (some 83) rfl rfl Tryd.func16 (by kernel_rfl) rfl #[.slice A0 l0.length c0] rfl (by (try simp only [List.map_toArray, List.map_cons, List.map_nil]); first | done | rfl | (simp only [List.length_drop, List.length_take]; rfl)) ?_; (with_reducible refine (spec_DrawValueAfter.calls k2 _ _ l0 t709 t710 _ ?side1 ?side2 A88.out).mono ?_); (case side1 => repeat (first | exact (Kd.C_below HR0.out HB.out) | (with_reducible refine QV ?_ _) | (with_reducible refine QW ?_ _) | (with_reducible refine QZ ?_))); (case side2 => exact HC0.out); rintro e w102 ⟨rfl, hb⟩; refine ⟨_, rfl, ?_⟩; have n0_ := Qd (QL (by (with_reducible repeat (first | apply QB | apply QC | apply QD)); exact HO_11.out) hb); have n1_ := Qd (QT (by (with_reducible repeat (first | apply QM | apply QN | apply QP)); exact HO_667004.out) hb); have n2_ := Qd (QL (by (with_reducible repeat (first | apply QB | apply QC | apply QD)); exact HO_667005.out) hb); have n3_ := Qd (QT (by (with_reducible repeat (first | apply QM | apply QN | apply QP)); exact HO_682004.out) hb); have n4_ := Qd (QL (by (with_reducible repeat (first | apply QB | apply QC | apply QD)); exact HO_682005.out) hb); have n5_ := Qd (QT (by (with_reducible repeat (first | apply QM | apply QN | apply QP)); exact HO_703004.out) hb); have n6_ := Qd (QL (by (with_reducible repeat (first | apply QB | apply QC | apply QD)); exact HO_703005.out) hb); have n7_ := Qd (QS (g := gb666) (o := .cells #[.int .i64 t654, .int .i64 t655, .bool t656, .bool t657, .slice Ao11 t658.length co11, .slice Ao12 t661.length co12, .int .i64 t664, .int .i64 t665] 26 (0, 0)) (by (with_reducible repeat (first | refine QG ?_ _ | refine QK ?_ | refine QH ?_ _)); exact BK666.out) hb); have n8_ := Qd (QS (g := gb681) (o := .cells #[.int .i64 t668, .int .i64 t669, .bool t670, .bool t671, .slice Ao18 t672.length co18, .slice Ao19 t675.length co19, .int .i64 t678, .int .i64 t679] 26 (0, 0)) (by (with_reducible repeat (first | refine QG ?_ _ | refine QK ?_ | refine QH ?_ _)); exact BK681.out) hb); have n9_ := Qd (QS (g := gb702) (o := .cells #[.int .i64 t689, .int .i64 t690, .bool t691, .bool t692, .slice Ao81 t693.length co81, .slice Ao82 t696.length co82, .int .i64 t699, .int .i64 t700] 26 (0, 0)) (by (with_reducible repeat (first | refine QG ?_ _ | refine QK ?_ | refine QH ?_ _)); exact BK702.out) hb); have n10_ := Qd (QX (by repeat (first | (with_reducible first | exact HB.out | apply QJ | apply QE | apply QI | refine QF ?_ GE666.out | refine QF ?_ GE681.out | refine QF ?_ GE702.out) | exact HB.out)) hb); clear HO_11; clear HO_667004; clear HO_667005; clear HO_682004; clear HO_682005; clear HO_703004; clear HO_703005; clear BK666; clear BK681; clear BK702; clear HB; have HO_11 := n0_; have HO_667004 := n1_; have HO_667005 := n2_; have HO_682004 := n3_; have HO_682005 := n4_; have HO_703004 := n5_; have HO_703005 := n6_; have BK666 := n7_; have BK681 := n8_; have BK702 := n9_; have HB := n10_; clear n0_ n1_ n2_ n3_ n4_ n5_ n6_ n7_ n8_ n9_ n10_; (try clear hb); (try clear hk); (try clear hi); refine Aside0.out ?_))
            refine Qd ?_
            go_wp2_with (first | ((with_reducible refine Qa (f := 17) rfl ?_); refine goesL_ (some 89) rfl rfl Tryd.func17 (by kernel_rfl) rfl #[.string t709, .string t710] rfl (by (try simp only [List.map_toArray, List.map_cons, List.map_nil]); first | done | rfl | (simp only [List.length_drop, List.length_take]; rfl)) ?_; (with_reducible refine (impl_ValueAfter.calls t709 t710 t711 false _ A89.out).mono ?_); rintro e w' ⟨rfl, ⟨nd, rfl⟩⟩; refine ⟨_, rfl, ?_⟩; refine Aside0.out ?_))
            refine Qd ?_
            have hnb103 := NB702_666.out
            have hnc103 := NB666_702.out
            have hnb104 := NB702_681.out
            have hnc104 := NB681_702.out
            have hcz105 := fun i => blk_cell BK702.out i
            have hfz105 := fun i => blk_frozen BK702.out i
            go_wp2_with (first | (go_at_call 9; (with_reducible refine (impl_RulesText.calls k2 t689 t690 t691 t692 _ _ t693 _ _ t696 t699 t700 t713 _ ?ht_ ?side1 ?side2 ?side3 ?side4 A91.out).mono ?_); (case ht_ => exact (HTAB.out.at (by repeat (first | (with_reducible first | exact HB.out | apply QJ | apply QE | apply QI | refine QF ?_ GE666.out | refine QF ?_ GE681.out | refine QF ?_ GE702.out) | exact HB.out))).1); (case side1 => repeat (first | exact (Qb HO_703004.out).2.2 | (with_reducible refine QV ?_ _) | (with_reducible refine QW ?_ _) | (with_reducible refine QZ ?_))); (case side2 => exact (Qb HO_703004.out).2.1); (case side3 => repeat (first | exact (QR HO_703005.out).2.2 | (with_reducible refine QV ?_ _) | (with_reducible refine QW ?_ _) | (with_reducible refine QZ ?_))); (case side4 => exact (QR HO_703005.out).2.1); rintro e w106 ⟨rfl, hb⟩; have n0_ := Qd (QL (by (with_reducible repeat (first | apply QB | apply QC | apply QD)); exact HO_11.out) hb); have n1_ := Qd (QT (by (with_reducible repeat (first | apply QM | apply QN | apply QP)); exact HO_667004.out) hb); have n2_ := Qd (QL (by (with_reducible repeat (first | apply QB | apply QC | apply QD)); exact HO_667005.out) hb); have n3_ := Qd (QT (by (with_reducible repeat (first | apply QM | apply QN | apply QP)); exact HO_682004.out) hb); have n4_ := Qd (QL (by (with_reducible repeat (first | apply QB | apply QC | apply QD)); exact HO_682005.out) hb); have n5_ := Qd (QT (by (with_reducible repeat (first | apply QM | apply QN | apply QP)); exact HO_703004.out) hb); have n6_ := Qd (QL (by (with_reducible repeat (first | apply QB | apply QC | apply QD)); exact HO_703005.out) hb); have n7_ := Qd (QS (g := gb666) (o := .cells #[.int .i64 t654, .int .i64 t655, .bool t656, .bool t657, .slice Ao11 t658.length co11, .slice Ao12 t661.length co12, .int .i64 t664, .int .i64 t665] 26 (0, 0)) (by (with_reducible repeat (first | refine QG ?_ _ | refine QK ?_ | refine QH ?_ _)); exact BK666.out) hb); have n8_ := Qd (QS (g := gb681) (o := .cells #[.int .i64 t668, .int .i64 t669, .bool t670, .bool t671, .slice Ao18 t672.length co18, .slice Ao19 t675.length co19, .int .i64 t678, .int .i64 t679] 26 (0, 0)) (by (with_reducible repeat (first | refine QG ?_ _ | refine QK ?_ | refine QH ?_ _)); exact BK681.out) hb); have n9_ := Qd (QS (g := gb702) (o := .cells #[.int .i64 t689, .int .i64 t690, .bool t691, .bool t692, .slice Ao81 t693.length co81, .slice Ao82 t696.length co82, .int .i64 t699, .int .i64 t700] 26 (0, 0)) (by (with_reducible repeat (first | refine QG ?_ _ | refine QK ?_ | refine QH ?_ _)); exact BK702.out) hb); have n10_ := Qd (QX (by repeat (first | (with_reducible first | exact HB.out | apply QJ | apply QE | apply QI | refine QF ?_ GE666.out | refine QF ?_ GE681.out | refine QF ?_ GE702.out) | exact HB.out)) hb); clear HO_11; clear HO_667004; clear HO_667005; clear HO_682004; clear HO_682005; clear HO_703004; clear HO_703005; clear BK666; clear BK681; clear BK702; clear HB; have HO_11 := n0_; have HO_667004 := n1_; have HO_667005 := n2_; have HO_682004 := n3_; have HO_682005 := n4_; have HO_703004 := n5_; have HO_703005 := n6_; have BK666 := n7_; have BK681 := n8_; have BK702 := n9_; have HB := n10_; clear n0_ n1_ n2_ n3_ n4_ n5_ n6_ n7_ n8_ n9_ n10_; (try clear hb); (try clear hk); (try clear hi); refine Aside0.out ?_))
            refine Qd ?_
            go_wp2_with fail
            go_ret
            exact ⟨by first | rfl | (simp [errW_none, errW_some] <;> rfl) | (simp [*, errW_none, errW_some] <;> rfl), by repeat (first | (with_reducible first | exact HB.out | apply QJ | apply QE | apply QI | refine QF ?_ GE666.out | refine QF ?_ GE681.out | refine QF ?_ GE702.out) | exact HB.out)⟩
          ·rw [if_neg c93] at H
           have c93b0 : (x12_2 == (t703.size : Int)) = false := beq_eq_false_iff_ne.mpr c93
           have c93b1 : (x12_2 != (t703.size : Int)) = true := bne_iff_ne.mpr c93
           exact absurd (Option.some.inj H) (by rw [HT.out]; decide)
         ·rw [if_neg c92] at H
          have c92b0 : (t713.toList == t688.toList) = false := beq_eq_false_iff_ne.mpr c92
          have c92b1 : (t713.toList != t688.toList) = true := bne_iff_ne.mpr c92
          exact absurd (Option.some.inj H) (by rw [HT.out]; decide)
        ·replace c90 := Bool.eq_false_iff.mpr c90
         subst c90
         rw [if_neg (show ¬ (false = true) by decide)] at H
         by_cases c93 : x12_2 = (t703.size : Int)
         ·rw [if_pos c93] at H
          have c93b0 : (x12_2 == (t703.size : Int)) = true := beq_iff_eq.mpr c93
          have c93b1 : (x12_2 != (t703.size : Int)) = false := bne_eq_false_iff_eq.mpr c93
          clear c93
          by_cases c94 : t712 = true
          ·subst c94
           rw [if_pos rfl] at H
           by_cases c95 : t710.size + 1 ≤ 9223372036854775807
           ·rw [if_pos c95] at H
            have c95b0 := eq_true c95
            have c95b1 : decide (t710.size + 1 ≤ 9223372036854775807) = true := decide_eq_true c95
            try have c95b2 : (9223372036854775807 < t710.size + 1) = False := eq_false (Nat.not_lt.2 c95)
            by_cases c120 : (t710 ++ (⟨#[61]⟩ : ByteArray)).size + t711.size ≤ 9223372036854775807
            ·rw [if_pos c120] at H
             have c120b0 := eq_true c120
             have c120b1 : decide ((t710 ++ (⟨#[61]⟩ : ByteArray)).size + t711.size ≤ 9223372036854775807) = true := decide_eq_true c120
             try have c120b2 : (9223372036854775807 < (t710 ++ (⟨#[61]⟩ : ByteArray)).size + t711.size) = False := eq_false (Nat.not_lt.2 c120)
             have c120b3 := c120b2
             (try simp only [ByteArray.size_append, ba_size, List.size_toArray, List.length_cons, List.length_nil, Nat.reduceAdd, Nat.zero_add] at c120b3)
             obtain rfl := Option.some.inj H
             go_wp2_with (first | ((with_reducible refine Qa (f := 16) rfl ?_); refine goesL_ (some 83) rfl rfl Tryd.func16 (by kernel_rfl) rfl #[.slice A0 l0.length c0] rfl (by (try simp only [List.map_toArray, List.map_cons, List.map_nil]); first | done | rfl | (simp only [List.length_drop, List.length_take]; rfl)) ?_; (with_reducible refine (spec_DrawValueAfter.calls k2 _ _ l0 t709 t710 _ ?side1 ?side2 A88.out).mono ?_); (case side1 => repeat (first | exact (Kd.C_below HR0.out HB.out) | (with_reducible refine QV ?_ _) | (with_reducible refine QW ?_ _) | (with_reducible refine QZ ?_))); (case side2 => exact HC0.out); rintro e w121 ⟨rfl, hb⟩; refine ⟨_, rfl, ?_⟩; have n0_ := Qd (QL (by (with_reducible repeat (first | apply QB | apply QC | apply QD)); exact HO_11.out) hb); have n1_ := Qd (QT (by (with_reducible repeat (first | apply QM | apply QN | apply QP)); exact HO_667004.out) hb); have n2_ := Qd (QL (by (with_reducible repeat (first | apply QB | apply QC | apply QD)); exact HO_667005.out) hb); have n3_ := Qd (QT (by (with_reducible repeat (first | apply QM | apply QN | apply QP)); exact HO_682004.out) hb); have n4_ := Qd (QL (by (with_reducible repeat (first | apply QB | apply QC | apply QD)); exact HO_682005.out) hb); have n5_ := Qd (QT (by (with_reducible repeat (first | apply QM | apply QN | apply QP)); exact HO_703004.out) hb); have n6_ := Qd (QL (by (with_reducible repeat (first | apply QB | apply QC | apply QD)); exact HO_703005.out) hb); have n7_ := Qd (QS (g := gb666) (o := .cells #[.int .i64 t654, .int .i64 t655, .bool t656, .bool t657, .slice Ao11 t658.length co11, .slice Ao12 t661.length co12, .int .i64 t664, .int .i64 t665] 26 (0, 0)) (by (with_reducible repeat (first | refine QG ?_ _ | refine QK ?_ | refine QH ?_ _)); exact BK666.out) hb); have n8_ := Qd (QS (g := gb681) (o := .cells #[.int .i64 t668, .int .i64 t669, .bool t670, .bool t671, .slice Ao18 t672.length co18, .slice Ao19 t675.length co19, .int .i64 t678, .int .i64 t679] 26 (0, 0)) (by (with_reducible repeat (first | refine QG ?_ _ | refine QK ?_ | refine QH ?_ _)); exact BK681.out) hb); have n9_ := Qd (QS (g := gb702) (o := .cells #[.int .i64 t689, .int .i64 t690, .bool t691, .bool t692, .slice Ao81 t693.length co81, .slice Ao82 t696.length co82, .int .i64 t699, .int .i64 t700] 26 (0, 0)) (by (with_reducible repeat (first | refine QG ?_ _ | refine QK ?_ | refine QH ?_ _)); exact BK702.out) hb); have n10_ := Qd (QX (by repeat (first | (with_reducible first | exact HB.out | apply QJ | apply QE | apply QI | refine QF ?_ GE666.out | refine QF ?_ GE681.out | refine QF ?_ GE702.out) | exact HB.out)) hb); clear HO_11; clear HO_667004; clear HO_667005; clear HO_682004; clear HO_682005; clear HO_703004; clear HO_703005; clear BK666; clear BK681; clear BK702; clear HB; have HO_11 := n0_; have HO_667004 := n1_; have HO_667005 := n2_; have HO_682004 := n3_; have HO_682005 := n4_; have HO_703004 := n5_; have HO_703005 := n6_; have BK666 := n7_; have BK681 := n8_; have BK702 := n9_; have HB := n10_; clear n0_ n1_ n2_ n3_ n4_ n5_ n6_ n7_ n8_ n9_ n10_; (try clear hb); (try clear hk); (try clear hi); refine Aside0.out ?_))
             refine Qd ?_
             go_wp2_with (first | ((with_reducible refine Qa (f := 17) rfl ?_); refine goesL_ (some 89) rfl rfl Tryd.func17 (by kernel_rfl) rfl #[.string t709, .string t710] rfl (by (try simp only [List.map_toArray, List.map_cons, List.map_nil]); first | done | rfl | (simp only [List.length_drop, List.length_take]; rfl)) ?_; (with_reducible refine (impl_ValueAfter.calls t709 t710 t711 true _ A89.out).mono ?_); rintro e w' ⟨rfl, ⟨nd, rfl⟩⟩; refine ⟨_, rfl, ?_⟩; refine Aside0.out ?_))
             refine Qd ?_
             go_wp2_with fail
             go_ret
             exact ⟨by first | rfl | (simp [errW_none, errW_some] <;> rfl) | (simp [*, errW_none, errW_some] <;> rfl), by repeat (first | (with_reducible first | exact HB.out | apply QJ | apply QE | apply QI | refine QF ?_ GE666.out | refine QF ?_ GE681.out | refine QF ?_ GE702.out) | exact HB.out)⟩
            ·rw [if_neg c120] at H
             exact absurd H (by simp)
           ·rw [if_neg c95] at H
            exact absurd H (by simp)
          ·replace c94 := Bool.eq_false_iff.mpr c94
           subst c94
           rw [if_neg (show ¬ (false = true) by decide)] at H
           obtain rfl := Option.some.inj H
           go_wp2_with (first | ((with_reducible refine Qa (f := 16) rfl ?_); refine goesL_ (some 83) rfl rfl Tryd.func16 (by kernel_rfl) rfl #[.slice A0 l0.length c0] rfl (by (try simp only [List.map_toArray, List.map_cons, List.map_nil]); first | done | rfl | (simp only [List.length_drop, List.length_take]; rfl)) ?_; (with_reducible refine (spec_DrawValueAfter.calls k2 _ _ l0 t709 t710 _ ?side1 ?side2 A88.out).mono ?_); (case side1 => repeat (first | exact (Kd.C_below HR0.out HB.out) | (with_reducible refine QV ?_ _) | (with_reducible refine QW ?_ _) | (with_reducible refine QZ ?_))); (case side2 => exact HC0.out); rintro e w122 ⟨rfl, hb⟩; refine ⟨_, rfl, ?_⟩; have n0_ := Qd (QL (by (with_reducible repeat (first | apply QB | apply QC | apply QD)); exact HO_11.out) hb); have n1_ := Qd (QT (by (with_reducible repeat (first | apply QM | apply QN | apply QP)); exact HO_667004.out) hb); have n2_ := Qd (QL (by (with_reducible repeat (first | apply QB | apply QC | apply QD)); exact HO_667005.out) hb); have n3_ := Qd (QT (by (with_reducible repeat (first | apply QM | apply QN | apply QP)); exact HO_682004.out) hb); have n4_ := Qd (QL (by (with_reducible repeat (first | apply QB | apply QC | apply QD)); exact HO_682005.out) hb); have n5_ := Qd (QT (by (with_reducible repeat (first | apply QM | apply QN | apply QP)); exact HO_703004.out) hb); have n6_ := Qd (QL (by (with_reducible repeat (first | apply QB | apply QC | apply QD)); exact HO_703005.out) hb); have n7_ := Qd (QS (g := gb666) (o := .cells #[.int .i64 t654, .int .i64 t655, .bool t656, .bool t657, .slice Ao11 t658.length co11, .slice Ao12 t661.length co12, .int .i64 t664, .int .i64 t665] 26 (0, 0)) (by (with_reducible repeat (first | refine QG ?_ _ | refine QK ?_ | refine QH ?_ _)); exact BK666.out) hb); have n8_ := Qd (QS (g := gb681) (o := .cells #[.int .i64 t668, .int .i64 t669, .bool t670, .bool t671, .slice Ao18 t672.length co18, .slice Ao19 t675.length co19, .int .i64 t678, .int .i64 t679] 26 (0, 0)) (by (with_reducible repeat (first | refine QG ?_ _ | refine QK ?_ | refine QH ?_ _)); exact BK681.out) hb); have n9_ := Qd (QS (g := gb702) (o := .cells #[.int .i64 t689, .int .i64 t690, .bool t691, .bool t692, .slice Ao81 t693.length co81, .slice Ao82 t696.length co82, .int .i64 t699, .int .i64 t700] 26 (0, 0)) (by (with_reducible repeat (first | refine QG ?_ _ | refine QK ?_ | refine QH ?_ _)); exact BK702.out) hb); have n10_ := Qd (QX (by repeat (first | (with_reducible first | exact HB.out | apply QJ | apply QE | apply QI | refine QF ?_ GE666.out | refine QF ?_ GE681.out | refine QF ?_ GE702.out) | exact HB.out)) hb); clear HO_11; clear HO_667004; clear HO_667005; clear HO_682004; clear HO_682005; clear HO_703004; clear HO_703005; clear BK666; clear BK681; clear BK702; clear HB; have HO_11 := n0_; have HO_667004 := n1_; have HO_667005 := n2_; have HO_682004 := n3_; have HO_682005 := n4_; have HO_703004 := n5_; have HO_703005 := n6_; have BK666 := n7_; have BK681 := n8_; have BK702 := n9_; have HB := n10_; clear n0_ n1_ n2_ n3_ n4_ n5_ n6_ n7_ n8_ n9_ n10_; (try clear hb); (try clear hk); (try clear hi); refine Aside0.out ?_))
           refine Qd ?_
           go_wp2_with (first | ((with_reducible refine Qa (f := 17) rfl ?_); refine goesL_ (some 89) rfl rfl Tryd.func17 (by kernel_rfl) rfl #[.string t709, .string t710] rfl (by (try simp only [List.map_toArray, List.map_cons, List.map_nil]); first | done | rfl | (simp only [List.length_drop, List.length_take]; rfl)) ?_; (with_reducible refine (impl_ValueAfter.calls t709 t710 t711 false _ A89.out).mono ?_); rintro e w' ⟨rfl, ⟨nd, rfl⟩⟩; refine ⟨_, rfl, ?_⟩; refine Aside0.out ?_))
           refine Qd ?_
           go_wp2_with fail
           go_ret
           exact ⟨by first | rfl | (simp [errW_none, errW_some] <;> rfl) | (simp [*, errW_none, errW_some] <;> rfl), by repeat (first | (with_reducible first | exact HB.out | apply QJ | apply QE | apply QI | refine QF ?_ GE666.out | refine QF ?_ GE681.out | refine QF ?_ GE702.out) | exact HB.out)⟩
         ·rw [if_neg c93] at H
          have c93b0 : (x12_2 == (t703.size : Int)) = false := beq_eq_false_iff_ne.mpr c93
          have c93b1 : (x12_2 != (t703.size : Int)) = true := bne_iff_ne.mpr c93
          exact absurd (Option.some.inj H) (by rw [HT.out]; decide)

/-- THE ONE PURE STATEMENT of laws_FnScripts: yours. -/
def laws_FnScripts.Pure : Prop := ∀ (l0 : List Int), l0.length ≤ maxLen → l0.length * 1 ≤ 140737488351232 → (∀ x ∈ l0, (Lit.int .u8 x).wf = true) → ∃ k, laws_FnScripts.f k l0 = some true
theorem laws_FnScripts.walk (P : laws_FnScripts.Pure) (a0 : Option Addr) (len0 cap0 : Nat) (z0 : List Int) (w : World) (ht : LaidE w) (w0 : (a0 = none ∧ len0 = 0 ∧ cap0 = 0 ∧ z0 = []) ∨ ∃ x, a0 = some x ∧ len0 ≤ cap0 ∧ cap0 ≤ maxLen ∧ z0.length = cap0 ∧ (∀ i, i < z0.length → w.cell? (x.add i) = some (.int .u8 (z0.getD i 0))) ∧ ∀ n ∈ z0, (Lit.int .u8 n).wf = true) (y0 : len0 * 1 ≤ 140737488351232) :
  Calls Tryd.prog 3 #[.slice a0 len0 cap0] w fun e w' => e = .returned (.bool true) ∧ Below w.heap.size w w' := by
 obtain ⟨l0, rfl, hr0, hm0, hw0, hc0⟩ := ReadsInt.ofRowC w0
 obtain ⟨k, h⟩ := P l0 hm0 y0 hw0
 refine (laws_FnScripts.calls k _ _ l0 true w ht (Kd.C_of_reads (d := (0 : Int)) (h1 := fun _ => rfl) hr0) hc0 h rfl).mono ?_
 rintro e w' ⟨rfl, hd⟩
 exact ⟨rfl, hd⟩

end Go.Proofs.YtdfmobcocaijpaaDoor.QFnScripts
