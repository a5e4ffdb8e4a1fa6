/- What a call of each Go function that FnExactParseRules reaches comes to, as a Lean function: texts of the kit's print, turned by wip/remake.py. No condition beyond what each names. -/
import Derived.Test.YtdfmobcocaijpaaDoorQFnExactParseRulesx3
namespace Go.Proofs.YtdfmobcocaijpaaDoor.QFnExactParseRules
open Go.RowKit Go.Proofs.YtdfmobcocaijpaaDoorW.PrintWords Go.Proofs.YtdfmobcocaijpaaDoorW.PrintLast Go.Proofs.YtdfmobcocaijpaaDoorW.PrintMore
open Go.Proofs.YtdfmobcocaijpaaDoorW.PrintWords renaming pw_below_drewN → QB, below_drew1 → QC, below_alloc → QD, blk_frozen → QE, blk_cell → QF
open Go.Proofs.YtdfmobcocaijpaaDoorW.PrintLast renaming i64_w → QG, i32_w → QH, any_of → QI, pure_ → QJ
open List renaming setIfInBounds_toArray → QK, set_cons_zero → QL, set_cons_succ → QM
open Go.Proofs.YtdfmobcocaijpaaDoorW.PrintWords.Aside0 renaming mk → QN
open Option renaming bind_eq_some_iff → QO
attribute [local go_sem] max2_int min2_int max_two min_two max_three min_three max_four min_four   -- for this text's walks alone
set_option linter.unusedVariables false
set_option linter.unusedSimpArgs false

/-! ### spec_IsPattern: function 84 -/
mutual
def spec_IsPattern.l0 : Nat → List Int → Int → Int → Option (Bool)
 | 0,_,_,_ => none
 | k + 1,x0,x3,x4 => if x4 < (x0.length : Int) then (if 0 ≤ x4 then ((spec_l8Leaf.f (rd x0 x4)).bind fun t277 => (if t277 = true then (spec_IsPattern.l0 k x0 (wrap64 (x3 + 1)) (wrap64 (x4 + 1))) else (if (rd x0 x4) = (-1) then (spec_IsPattern.j1 k x0 x3 x4 (decide (x3 ≥ 1))) else (spec_IsPattern.j1 k x0 x3 x4 false)))) else (none)) else (if x3 = 1 then (some (decide ((x0.length : Int) ≤ 20))) else (some false))
def spec_IsPattern.j1 : Nat → List Int → Int → Int → Bool → Option (Bool)
 | 0,_,_,_,_ => none
 | k + 1,x0,x3,x4,x19 => if x19 = true then (spec_IsPattern.l0 k x0 x3 (wrap64 (x4 + 1))) else (if 0 ≤ x4 then (if x4 < (x0.length : Int) then (if (rd x0 x4) = (-2) then (if x3 ≥ 2 then (spec_IsPattern.l0 k x0 (wrap64 (x3 - 1)) (wrap64 (x4 + 1))) else (some false)) else (if (rd x0 x4) = (-3) then (if x3 ≥ 2 then (spec_IsPattern.l0 k x0 (wrap64 (x3 - 1)) (wrap64 (x4 + 1))) else (some false)) else (some false))) else (none)) else (none))
end
def spec_IsPattern.f (k : Nat) (l0 : List Int) : Option (Bool) := spec_IsPattern.l0 k l0 0 0
theorem spec_IsPattern.mono_l : ∀ k, (∀ y0 y1 y2, LeO (spec_IsPattern.l0 k y0 y1 y2) (spec_IsPattern.l0 (k + 1) y0 y1 y2)) ∧ (∀ y0 y1 y2 y3, LeO (spec_IsPattern.j1 k y0 y1 y2 y3) (spec_IsPattern.j1 (k + 1) y0 y1 y2 y3))
 | 0 => ⟨fun _ _ _ r h => by simp [spec_IsPattern.l0] at h,fun _ _ _ _ r h => by simp [spec_IsPattern.j1] at h⟩
 | k + 1 => by
  obtain ⟨ih0,ih1⟩ := spec_IsPattern.mono_l k
  refine ⟨?_,?_⟩
  ·intro y0 y1 y2
   unfold spec_IsPattern.l0
   repeat' first
   | (with_reducible exact ih0 _ _ _)
   | (with_reducible exact ih1 _ _ _ _)
   | (with_reducible exact LeO.refl _)
   | (with_reducible exact LeO.none _)
   | (with_reducible refine LeO.ite ?_ ?_)
   | (with_reducible refine LeO.bind ?_ (fun _ => ?_))
   | exact ih0 _ _ _
   | exact ih1 _ _ _ _
   | exact LeO.none _
   | refine LeO.ite ?_ ?_
   | refine LeO.bind ?_ (fun _ => ?_)
  ·intro y0 y1 y2 y3
   unfold spec_IsPattern.j1
   repeat' first
   | (with_reducible exact ih0 _ _ _)
   | (with_reducible exact ih1 _ _ _ _)
   | (with_reducible exact LeO.refl _)
   | (with_reducible exact LeO.none _)
   | (with_reducible refine LeO.ite ?_ ?_)
   | (with_reducible refine LeO.bind ?_ (fun _ => ?_))
   | exact ih0 _ _ _
   | exact ih1 _ _ _ _
   | exact LeO.none _
   | refine LeO.ite ?_ ?_
   | refine LeO.bind ?_ (fun _ => ?_)
theorem spec_IsPattern.mono : ∀ a0 k, LeO (spec_IsPattern.f k a0) (spec_IsPattern.f (k + 1) a0) := by
 intro a0 k
 obtain ⟨ih0,ih1⟩ := spec_IsPattern.mono_l k
 unfold spec_IsPattern.f
 repeat' first
   | (with_reducible exact ih0 _ _ _)
   | (with_reducible exact ih1 _ _ _ _)
   | (with_reducible exact LeO.refl _)
   | (with_reducible exact LeO.none _)
   | (with_reducible refine LeO.ite ?_ ?_)
   | (with_reducible refine LeO.bind ?_ (fun _ => ?_))
   | exact ih0 _ _ _
   | exact ih1 _ _ _ _
   | exact LeO.none _
   | refine LeO.ite ?_ ?_
   | refine LeO.bind ?_ (fun _ => ?_)
set_option maxHeartbeats 8000000 in
set_option maxRecDepth 100000 in
theorem spec_IsPattern.calls (k : Nat) (A0 : Option Addr) (c0 : Nat) (l0 : List Int) (r : Bool) (w : World) (hr0 : Kd.C (Kd.int .i64) w A0 l0.length l0) (hc0 : l0.length ≤ c0) (h : spec_IsPattern.f k l0 = some r) :
  Calls Tryd.prog 84 #[.slice A0 l0.length c0] w fun e w' => e = .returned (.bool r) ∧ Drawn0 w w' := by
 have HR0 := QN hr0
 have HC0 := QN hc0
 clear hr0 hc0
 have H : (spec_IsPattern.l0 k l0 0 0) = some r := h
 clear h
 have H' := QN H
 clear H
 go_enter Tryd.func84,Tryd.ntmps84
 go_wp2
 go_loopg [3,4] k (fun kq v3 v4 w' => ∃ (x3_1 : Int) (x4_1 : Int),v3 = .int .i64 x3_1 ∧ v4 = .int .i64 x4_1 ∧ Aside0 (spec_IsPattern.l0 kq l0 x3_1 x4_1 = some r) ∧ Aside0 (kq ≤ k) ∧ Drawn0 w w')
 case atStart => exact ⟨(0),(0),(by first | rfl | (simp; done) | (simp [*]; done)),(by first | rfl | (simp; done) | (simp [*]; done)),H',⟨Nat.le_refl _⟩,by repeat (first | exact Drawn0.refl _ | apply Drawn0.step)⟩
 case round =>
  clear H'
  obtain ⟨x3_1,x4_1,rfl,rfl,HA,HK1,⟨m1,rfl⟩⟩ := hrel
  cases gk with
  | zero => exact absurd HA.out (by simp [spec_IsPattern.l0])
  | succ k1 =>
   have H := HA.out
   clear HA
   simp only [spec_IsPattern.l0] at H
   by_cases c2 : x4_1 < (l0.length : Int)
   ·rw [if_pos c2] at H
    have c2b0 : decide (x4_1 < (l0.length : Int)) = true := decide_eq_true c2
    clear c2
    by_cases c3 : 0 ≤ x4_1
    ·rw [if_pos c3] at H
     have c3b0 : decide (0 ≤ x4_1) = true := decide_eq_true c3
     clear c3
     replace H := QO.mp H
     obtain ⟨t277,A40,H⟩ := H
     have A4 := QN A40
     clear A40
     by_cases c5 : t277 = true
     ·subst c5
      rw [if_pos rfl] at H
      have H' := QN H
      clear H
      have p276 : 0 ≤ (x4_1 : Int) := of_decide_eq_true (by first | (with_reducible assumption) | assumption)
      have q276 : x4_1 < (l0.length : Int) := of_decide_eq_true (by first | (with_reducible assumption) | assumption)
      obtain ⟨ad276,e276,hx276_0⟩ := Kd.at_int HR0.out x4_1 p276 q276
      cases e276
      replace p276 := eq_true p276
      replace q276 := eq_true q276
      go_wp2_with (first | ((with_reducible refine gate_callee (f := 96) rfl ?_); refine goesL_ (some 16) rfl rfl Tryd.func96 (by kernel_rfl) rfl #[.int .i64 (rd l0 x4_1)] rfl (by (try simp only [List.map_toArray,List.map_cons,List.map_nil]); first | done | rfl | (simp only [List.length_drop,List.length_take]; rfl)) ?_; (with_reducible refine (spec_l8Leaf.calls (rd l0 x4_1) true _ A4.out).mono ?_); rintro e w' ⟨rfl,⟨nd,rfl⟩⟩; refine ⟨_,rfl,?_⟩))
      go_roundg k1
      case measure => have := HK1.out; omega
      case rel => exact ⟨(wrap64 (x3_1 + 1)),(wrap64 (x4_1 + 1)),(by first | rfl | (simp; done) | (simp [*]; done)),(by first | rfl | (simp; done) | (simp [*]; done)),H',⟨by have := HK1.out; omega⟩,by repeat (first | exact Drawn0.refl _ | apply Drawn0.step)⟩
     ·replace c5 := Bool.eq_false_iff.mpr c5
      subst c5
      rw [if_neg (show ¬ (false = true) by decide)] at H
      have HC6 := QN H
      clear H
      have p276 : 0 ≤ (x4_1 : Int) := of_decide_eq_true (by first | (with_reducible assumption) | assumption)
      have q276 : x4_1 < (l0.length : Int) := of_decide_eq_true (by first | (with_reducible assumption) | assumption)
      obtain ⟨ad276,e276,hx276_0⟩ := Kd.at_int HR0.out x4_1 p276 q276
      cases e276
      replace p276 := eq_true p276
      replace q276 := eq_true q276
      go_upto_region 8 with (first | ((with_reducible refine gate_callee (f := 96) rfl ?_); refine goesL_ (some 16) rfl rfl Tryd.func96 (by kernel_rfl) rfl #[.int .i64 (rd l0 x4_1)] rfl (by (try simp only [List.map_toArray,List.map_cons,List.map_nil]); first | done | rfl | (simp only [List.length_drop,List.length_take]; rfl)) ?_; (with_reducible refine (spec_l8Leaf.calls (rd l0 x4_1) false _ A4.out).mono ?_); rintro e w' ⟨rfl,⟨nd,rfl⟩⟩; refine ⟨_,rfl,?_⟩))
      (try simp only [Act.put,QK,QL,QM])
      go_cut [19] (fun v19 wc => ∃ (kq : Nat) (x19_5 : Bool),v19 = .bool x19_5 ∧ Aside0 (spec_IsPattern.j1 kq l0 x3_1 x4_1 x19_5 = some r) ∧ Aside0 (kq ≤ k1) ∧ Drawn0 w wc)
      case first =>
       have H := HC6.out
       clear HC6
       by_cases c7 : (rd l0 x4_1) = (-1)
       ·rw [if_pos c7] at H
        have c7b0 : ((rd l0 x4_1) == (-1)) = true := beq_iff_eq.mpr c7
        have c7b1 : ((rd l0 x4_1) != (-1)) = false := bne_eq_false_iff_eq.mpr c7
        clear c7
        (first | rw [c7b0] | (simp only [QG,QH]; rw [c7b0]) | skip)
        have H' := QN H
        clear H
        have p278 : 0 ≤ (x4_1 : Int) := of_decide_eq_true (by first | (with_reducible assumption) | assumption)
        have q278 : x4_1 < (l0.length : Int) := of_decide_eq_true (by first | (with_reducible assumption) | assumption)
        obtain ⟨ad278,e278,hx278_0⟩ := Kd.at_int HR0.out x4_1 p278 q278
        obtain rfl : ad276 = ad278 := (by injection e278)
        replace p278 := eq_true p278
        replace q278 := eq_true q278
        go_wp2
        go_meet
        case rel => exact ⟨_,(decide (x3_1 ≥ 1)),(by first | rfl | (simp; done) | (simp [*]; done)),H',⟨by have := HK1.out; first | omega | exact Nat.le_refl _⟩,by repeat (first | exact Drawn0.refl _ | apply Drawn0.step)⟩
       ·rw [if_neg c7] at H
        have c7b0 : ((rd l0 x4_1) == (-1)) = false := beq_eq_false_iff_ne.mpr c7
        have c7b1 : ((rd l0 x4_1) != (-1)) = true := bne_iff_ne.mpr c7
        (first | rw [c7b0] | (simp only [QG,QH]; rw [c7b0]) | skip)
        have H' := QN H
        clear H
        have p278 : 0 ≤ (x4_1 : Int) := of_decide_eq_true (by first | (with_reducible assumption) | assumption)
        have q278 : x4_1 < (l0.length : Int) := of_decide_eq_true (by first | (with_reducible assumption) | assumption)
        obtain ⟨ad278,e278,hx278_0⟩ := Kd.at_int HR0.out x4_1 p278 q278
        obtain rfl : ad276 = ad278 := (by injection e278)
        replace p278 := eq_true p278
        replace q278 := eq_true q278
        go_wp2
        go_meet
        case rel => exact ⟨_,(false),(by first | rfl | (simp; done) | (simp [*]; done)),H',⟨by have := HK1.out; first | omega | exact Nat.le_refl _⟩,by repeat (first | exact Drawn0.refl _ | apply Drawn0.step)⟩
      case rest =>
       clear HC6
       try clear c2
       try clear c2b0
       try clear p2
       try clear q2
       try clear hx2
       try clear c3
       try clear c3b0
       try clear c5
       try clear p6
       try clear c7
       try clear c7b0
       try clear c7b1
       try clear hx276_0
       try clear hx278_0
       try clear p276
       try clear p278
       try clear q276
       try clear q278
       obtain ⟨kq,x19_5,rfl,HA,HJ5,⟨mc5,rfl⟩⟩ := hcut
       cases kq with
       | zero => exact absurd HA.out (by simp [spec_IsPattern.j1])
       | succ kj5 =>
        have H := HA.out
        clear HA
        simp only [spec_IsPattern.j1] at H
        by_cases c8 : x19_5 = true
        ·subst c8
         rw [if_pos rfl] at H
         have H' := QN H
         clear H
         go_wp2
         go_roundg kj5
         case measure => have := HK1.out; have := HJ5.out; omega
         case rel => exact ⟨(x3_1),(wrap64 (x4_1 + 1)),(by first | rfl | (simp; done) | (simp [*]; done)),(by first | rfl | (simp; done) | (simp [*]; done)),H',⟨by have := HK1.out; have := HJ5.out; omega⟩,by repeat (first | exact Drawn0.refl _ | apply Drawn0.step)⟩
        ·replace c8 := Bool.eq_false_iff.mpr c8
         subst c8
         rw [if_neg (show ¬ (false = true) by decide)] at H
         by_cases c9 : 0 ≤ x4_1
         ·rw [if_pos c9] at H
          have c9b0 : decide (0 ≤ x4_1) = true := decide_eq_true c9
          clear c9
          by_cases c10 : x4_1 < (l0.length : Int)
          ·rw [if_pos c10] at H
           have c10b0 : decide (x4_1 < (l0.length : Int)) = true := decide_eq_true c10
           clear c10
           by_cases c11 : (rd l0 x4_1) = (-2)
           ·rw [if_pos c11] at H
            have c11b0 : ((rd l0 x4_1) == (-2)) = true := beq_iff_eq.mpr c11
            have c11b1 : ((rd l0 x4_1) != (-2)) = false := bne_eq_false_iff_eq.mpr c11
            clear c11
            by_cases c12 : x3_1 ≥ 2
            ·rw [if_pos c12] at H
             have c12b0 : decide (2 ≤ x3_1) = true := decide_eq_true c12
             clear c12
             have H' := QN H
             clear H
             have p279 : 0 ≤ (x4_1 : Int) := of_decide_eq_true (by first | (with_reducible assumption) | assumption)
             have q279 : x4_1 < (l0.length : Int) := of_decide_eq_true (by first | (with_reducible assumption) | assumption)
             obtain ⟨ad279,e279,hx279_0⟩ := Kd.at_int HR0.out x4_1 p279 q279
             obtain rfl : ad276 = ad279 := (by injection e279)
             replace p279 := eq_true p279
             replace q279 := eq_true q279
             go_wp2
             go_roundg kj5
             case measure => have := HK1.out; have := HJ5.out; omega
             case rel => exact ⟨(wrap64 (x3_1 - 1)),(wrap64 (x4_1 + 1)),(by first | rfl | (simp; done) | (simp [*]; done)),(by first | rfl | (simp; done) | (simp [*]; done)),H',⟨by have := HK1.out; have := HJ5.out; omega⟩,by repeat (first | exact Drawn0.refl _ | apply Drawn0.step)⟩
            ·rw [if_neg c12] at H
             have c12b0 : decide (2 ≤ x3_1) = false := decide_eq_false c12
             clear c12
             obtain rfl := Option.some.inj H
             have p279 : 0 ≤ (x4_1 : Int) := of_decide_eq_true (by first | (with_reducible assumption) | assumption)
             have q279 : x4_1 < (l0.length : Int) := of_decide_eq_true (by first | (with_reducible assumption) | assumption)
             obtain ⟨ad279,e279,hx279_0⟩ := Kd.at_int HR0.out x4_1 p279 q279
             obtain rfl : ad276 = ad279 := (by injection e279)
             replace p279 := eq_true p279
             replace q279 := eq_true q279
             go_wp2
             go_ret
             exact ⟨by first | rfl | (simp; done) | (simp [*]; done),by repeat (first | exact Drawn0.refl _ | apply Drawn0.step)⟩
           ·rw [if_neg c11] at H
            have c11b0 : ((rd l0 x4_1) == (-2)) = false := beq_eq_false_iff_ne.mpr c11
            have c11b1 : ((rd l0 x4_1) != (-2)) = true := bne_iff_ne.mpr c11
            by_cases c13 : (rd l0 x4_1) = (-3)
            ·rw [if_pos c13] at H
             have c13b0 : ((rd l0 x4_1) == (-3)) = true := beq_iff_eq.mpr c13
             have c13b1 : ((rd l0 x4_1) != (-3)) = false := bne_eq_false_iff_eq.mpr c13
             clear c13
             by_cases c12 : x3_1 ≥ 2
             ·rw [if_pos c12] at H
              have c12b0 : decide (2 ≤ x3_1) = true := decide_eq_true c12
              clear c12
              have H' := QN H
              clear H
              have p279 : 0 ≤ (x4_1 : Int) := of_decide_eq_true (by first | (with_reducible assumption) | assumption)
              have q279 : x4_1 < (l0.length : Int) := of_decide_eq_true (by first | (with_reducible assumption) | assumption)
              obtain ⟨ad279,e279,hx279_0⟩ := Kd.at_int HR0.out x4_1 p279 q279
              obtain rfl : ad276 = ad279 := (by injection e279)
              replace p279 := eq_true p279
              replace q279 := eq_true q279
              have p280 : 0 ≤ (x4_1 : Int) := of_decide_eq_true (by first | (with_reducible assumption) | assumption)
              have q280 : x4_1 < (l0.length : Int) := of_decide_eq_true (by first | (with_reducible assumption) | assumption)
              obtain ⟨ad280,e280,hx280_0⟩ := Kd.at_int HR0.out x4_1 p280 q280
              obtain rfl : ad276 = ad280 := (by injection e280)
              replace p280 := eq_true p280
              replace q280 := eq_true q280
              go_wp2
              go_roundg kj5
              case measure => have := HK1.out; have := HJ5.out; omega
              case rel => exact ⟨(wrap64 (x3_1 - 1)),(wrap64 (x4_1 + 1)),(by first | rfl | (simp; done) | (simp [*]; done)),(by first | rfl | (simp; done) | (simp [*]; done)),H',⟨by have := HK1.out; have := HJ5.out; omega⟩,by repeat (first | exact Drawn0.refl _ | apply Drawn0.step)⟩
             ·rw [if_neg c12] at H
              have c12b0 : decide (2 ≤ x3_1) = false := decide_eq_false c12
              clear c12
              obtain rfl := Option.some.inj H
              have p279 : 0 ≤ (x4_1 : Int) := of_decide_eq_true (by first | (with_reducible assumption) | assumption)
              have q279 : x4_1 < (l0.length : Int) := of_decide_eq_true (by first | (with_reducible assumption) | assumption)
              obtain ⟨ad279,e279,hx279_0⟩ := Kd.at_int HR0.out x4_1 p279 q279
              obtain rfl : ad276 = ad279 := (by injection e279)
              replace p279 := eq_true p279
              replace q279 := eq_true q279
              have p280 : 0 ≤ (x4_1 : Int) := of_decide_eq_true (by first | (with_reducible assumption) | assumption)
              have q280 : x4_1 < (l0.length : Int) := of_decide_eq_true (by first | (with_reducible assumption) | assumption)
              obtain ⟨ad280,e280,hx280_0⟩ := Kd.at_int HR0.out x4_1 p280 q280
              obtain rfl : ad276 = ad280 := (by injection e280)
              replace p280 := eq_true p280
              replace q280 := eq_true q280
              go_wp2
              go_ret
              exact ⟨by first | rfl | (simp; done) | (simp [*]; done),by repeat (first | exact Drawn0.refl _ | apply Drawn0.step)⟩
            ·rw [if_neg c13] at H
             have c13b0 : ((rd l0 x4_1) == (-3)) = false := beq_eq_false_iff_ne.mpr c13
             have c13b1 : ((rd l0 x4_1) != (-3)) = true := bne_iff_ne.mpr c13
             obtain rfl := Option.some.inj H
             have p279 : 0 ≤ (x4_1 : Int) := of_decide_eq_true (by first | (with_reducible assumption) | assumption)
             have q279 : x4_1 < (l0.length : Int) := of_decide_eq_true (by first | (with_reducible assumption) | assumption)
             obtain ⟨ad279,e279,hx279_0⟩ := Kd.at_int HR0.out x4_1 p279 q279
             obtain rfl : ad276 = ad279 := (by injection e279)
             replace p279 := eq_true p279
             replace q279 := eq_true q279
             have p280 : 0 ≤ (x4_1 : Int) := of_decide_eq_true (by first | (with_reducible assumption) | assumption)
             have q280 : x4_1 < (l0.length : Int) := of_decide_eq_true (by first | (with_reducible assumption) | assumption)
             obtain ⟨ad280,e280,hx280_0⟩ := Kd.at_int HR0.out x4_1 p280 q280
             obtain rfl : ad276 = ad280 := (by injection e280)
             replace p280 := eq_true p280
             replace q280 := eq_true q280
             go_wp2
             go_ret
             exact ⟨by first | rfl | (simp; done) | (simp [*]; done),by repeat (first | exact Drawn0.refl _ | apply Drawn0.step)⟩
          ·rw [if_neg c10] at H
           exact absurd H (by simp)
         ·rw [if_neg c9] at H
          exact absurd H (by simp)
    ·rw [if_neg c3] at H
     exact absurd H (by simp)
   ·rw [if_neg c2] at H
    have c2b0 : decide (x4_1 < (l0.length : Int)) = false := decide_eq_false c2
    clear c2
    by_cases c15 : x3_1 = 1
    ·rw [if_pos c15] at H
     have c15b0 : (x3_1 == 1) = true := beq_iff_eq.mpr c15
     have c15b1 : (x3_1 != 1) = false := bne_eq_false_iff_eq.mpr c15
     clear c15
     obtain rfl := Option.some.inj H
     go_wp2
     go_ret
     exact ⟨by first | rfl | (simp; done) | (simp [*]; done),by repeat (first | exact Drawn0.refl _ | apply Drawn0.step)⟩
    ·rw [if_neg c15] at H
     have c15b0 : (x3_1 == 1) = false := beq_eq_false_iff_ne.mpr c15
     have c15b1 : (x3_1 != 1) = true := bne_iff_ne.mpr c15
     obtain rfl := Option.some.inj H
     go_wp2
     go_ret
     exact ⟨by first | rfl | (simp; done) | (simp [*]; done),by repeat (first | exact Drawn0.refl _ | apply Drawn0.step)⟩

/-! ### spec_l22Pattern: function 69 -/
def spec_l22Pattern.f (k : Nat) (l0 : List Int) : Option (Bool) := if (l0.length : Int) = 0 then (some true) else ((spec_IsPattern.f k l0).bind fun t281 => (some t281))
theorem spec_l22Pattern.mono : ∀ a0 k, LeO (spec_l22Pattern.f k a0) (spec_l22Pattern.f (k + 1) a0) := by
 intro a0 k
 unfold spec_l22Pattern.f
 repeat' first
   | (with_reducible exact spec_IsPattern.mono _ _)
   | (with_reducible exact LeO.refl _)
   | (with_reducible exact LeO.none _)
   | (with_reducible refine LeO.ite ?_ ?_)
   | (with_reducible refine LeO.bind ?_ (fun _ => ?_))
   | exact spec_IsPattern.mono _ _
   | exact LeO.none _
   | refine LeO.ite ?_ ?_
   | refine LeO.bind ?_ (fun _ => ?_)
set_option maxHeartbeats 8000000 in
set_option maxRecDepth 100000 in
theorem spec_l22Pattern.calls (k : Nat) (A0 : Option Addr) (c0 : Nat) (l0 : List Int) (r : Bool) (w : World) (hr0 : Kd.C (Kd.int .i64) w A0 l0.length l0) (hc0 : l0.length ≤ c0) (h : spec_l22Pattern.f k l0 = some r) :
  Calls Tryd.prog 69 #[.slice A0 l0.length c0] w fun e w' => e = .returned (.bool r) ∧ Drawn0 w w' := by
 have HR0 := QN hr0
 have HC0 := QN hc0
 clear hr0 hc0
 have H : (if (l0.length : Int) = 0 then (some true) else ((spec_IsPattern.f k l0).bind fun t281 => (some t281))) = some r := h
 clear h
 by_cases c2 : (l0.length : Int) = 0
 ·rw [if_pos c2] at H
  have c2b0 : ((l0.length : Int) == 0) = true := beq_iff_eq.mpr c2
  have c2b1 : ((l0.length : Int) != 0) = false := bne_eq_false_iff_eq.mpr c2
  clear c2
  obtain rfl := Option.some.inj H
  go_enter Tryd.func69,Tryd.ntmps69
  go_wp2
  go_ret
  exact ⟨by first | rfl | (simp; done) | (simp [*]; done),by repeat (first | exact Drawn0.refl _ | apply Drawn0.step)⟩
 ·rw [if_neg c2] at H
  have c2b0 : ((l0.length : Int) == 0) = false := beq_eq_false_iff_ne.mpr c2
  have c2b1 : ((l0.length : Int) != 0) = true := bne_iff_ne.mpr c2
  have c2b2 : ¬ (l0 = []) := fun h_ => c2 (by rw [h_]; rfl)
  replace H := QO.mp H
  obtain ⟨t281,A30,H⟩ := H
  have A3 := QN A30
  clear A30
  obtain rfl := Option.some.inj H
  go_enter Tryd.func69,Tryd.ntmps69
  go_wp2_with (first | (go_at_call 84; (with_reducible refine (spec_IsPattern.calls k _ _ l0 t281 _ ?side1 ?side2 A3.out).mono ?_); (case side1 => repeat (first | exact HR0.out | (with_reducible refine Kd.C_alloc ?_ _) | (with_reducible refine Kd.C_drewN ?_ _) | (with_reducible refine Kd.C_drew ?_))); (case side2 => exact HC0.out); rintro e w' ⟨rfl,⟨nd,rfl⟩⟩))
  go_ret
  exact ⟨by first | rfl | (simp; done) | (simp [*]; done),by repeat (first | exact Drawn0.refl _ | apply Drawn0.step)⟩

/-! ### spec_IsRules: function 48 -/
def spec_IsRules.f (k : Nat) (a0_0 : Int) (a0_1 : Int) (a0_2 : Bool) (a0_3 : Bool) (l0_4 : List Int) (l0_5 : List Int) (a0_6 : Int) (a0_7 : Int) : Option (Bool) := (spec_l1In.f a0_0 2 6).bind fun t283 => (if t283 = true then ((spec_l1In.f a0_1 1 8).bind fun t284 => (if t284 = true then (if a0_2 = true then ((spec_l22Pattern.f k l0_4).bind fun t285 => (if t285 = true then ((spec_l22Pattern.f k l0_5).bind fun t286 => (if t286 = true then ((spec_l1In.f a0_6 1 4).bind fun t287 => (if t287 = true then ((spec_l1In.f a0_7 1 400).bind fun t288 => (some t288)) else (some false))) else (some false))) else (some false))) else (if a0_3 = true then ((spec_l22Pattern.f k l0_4).bind fun t289 => (if t289 = true then ((spec_l22Pattern.f k l0_5).bind fun t290 => (if t290 = true then ((spec_l1In.f a0_6 1 4).bind fun t291 => (if t291 = true then ((spec_l1In.f a0_7 1 400).bind fun t292 => (some t292)) else (some false))) else (some false))) else (some false))) else (some false))) else (some false))) else (some false))
theorem spec_IsRules.mono : ∀ a0 a1 a2 a3 a4 a5 a6 a7 k, LeO (spec_IsRules.f k a0 a1 a2 a3 a4 a5 a6 a7) (spec_IsRules.f (k + 1) a0 a1 a2 a3 a4 a5 a6 a7) := by
 intro a0 a1 a2 a3 a4 a5 a6 a7 k
 unfold spec_IsRules.f
 repeat' first
   | (with_reducible exact spec_l22Pattern.mono _ _)
   | (with_reducible exact LeO.refl _)
   | (with_reducible exact LeO.none _)
   | (with_reducible refine LeO.ite ?_ ?_)
   | (with_reducible refine LeO.bind ?_ (fun _ => ?_))
   | exact spec_l22Pattern.mono _ _
   | exact LeO.none _
   | refine LeO.ite ?_ ?_
   | refine LeO.bind ?_ (fun _ => ?_)
set_option maxHeartbeats 8000000 in
set_option maxRecDepth 100000 in
theorem spec_IsRules.calls (k : Nat) (a0_0 : Int) (a0_1 : Int) (a0_2 : Bool) (a0_3 : Bool) (A0_4 : Option Addr) (c0_4 : Nat) (l0_4 : List Int) (A0_5 : Option Addr) (c0_5 : Nat) (l0_5 : List Int) (a0_6 : Int) (a0_7 : Int) (r : Bool) (w : World) (hr0_4 : Kd.C (Kd.int .i64) w A0_4 l0_4.length l0_4) (hc0_4 : l0_4.length ≤ c0_4) (hr0_5 : Kd.C (Kd.int .i64) w A0_5 l0_5.length l0_5) (hc0_5 : l0_5.length ≤ c0_5) (h : spec_IsRules.f k a0_0 a0_1 a0_2 a0_3 l0_4 l0_5 a0_6 a0_7 = some r) :
  Calls Tryd.prog 48 #[.agg #[.int .i64 a0_0,.int .i64 a0_1,.bool a0_2,.bool a0_3,.slice A0_4 l0_4.length c0_4,.slice A0_5 l0_5.length c0_5,.int .i64 a0_6,.int .i64 a0_7]] w fun e w' => e = .returned (.bool r) ∧ Below w.heap.size w w' := by
 have hu26 := Tryd.underlying26
 have HR0_4 := QN hr0_4
 have HC0_4 := QN hc0_4
 clear hr0_4 hc0_4
 have HR0_5 := QN hr0_5
 have HC0_5 := QN hc0_5
 clear hr0_5 hc0_5
 have HB := QN (Below.refl w.heap.size w)
 have H : ((spec_l1In.f a0_0 2 6).bind fun t283 => (if t283 = true then ((spec_l1In.f a0_1 1 8).bind fun t284 => (if t284 = true then (if a0_2 = true then ((spec_l22Pattern.f k l0_4).bind fun t285 => (if t285 = true then ((spec_l22Pattern.f k l0_5).bind fun t286 => (if t286 = true then ((spec_l1In.f a0_6 1 4).bind fun t287 => (if t287 = true then ((spec_l1In.f a0_7 1 400).bind fun t288 => (some t288)) else (some false))) else (some false))) else (some false))) else (if a0_3 = true then ((spec_l22Pattern.f k l0_4).bind fun t289 => (if t289 = true then ((spec_l22Pattern.f k l0_5).bind fun t290 => (if t290 = true then ((spec_l1In.f a0_6 1 4).bind fun t291 => (if t291 = true then ((spec_l1In.f a0_7 1 400).bind fun t292 => (some t292)) else (some false))) else (some false))) else (some false))) else (some false))) else (some false))) else (some false))) = some r := h
 clear h
 replace H := QO.mp H
 obtain ⟨t283,A20,H⟩ := H
 have A2 := QN A20
 clear A20
 by_cases c3 : t283 = true
 rotate_left
 replace c3 := Bool.eq_false_iff.mpr c3
 subst c3
 rw [if_neg (show ¬ (false = true) by decide)] at H
 obtain rfl := Option.some.inj H
 rotate_right
 subst c3
 rw [if_pos rfl] at H
 replace H := QO.mp H
 obtain ⟨t284,A40,H⟩ := H
 have A4 := QN A40
 clear A40
 by_cases c5 : t284 = true
 rotate_left
 replace c5 := Bool.eq_false_iff.mpr c5
 subst c5
 rw [if_neg (show ¬ (false = true) by decide)] at H
 obtain rfl := Option.some.inj H
 rotate_right
 subst c5
 rw [if_pos rfl] at H
 by_cases c6 : a0_2 = true
 rotate_left
 replace c6 := Bool.eq_false_iff.mpr c6
 subst c6
 rw [if_neg (show ¬ (false = true) by decide)] at H
 by_cases c22 : a0_3 = true
 rotate_left
 replace c22 := Bool.eq_false_iff.mpr c22
 subst c22
 rw [if_neg (show ¬ (false = true) by decide)] at H
 obtain rfl := Option.some.inj H
 rotate_right
 subst c22
 rw [if_pos rfl] at H
 replace H := QO.mp H
 obtain ⟨t285,A70,H⟩ := H
 have A7 := QN A70
 clear A70
 try (obtain rfl := Option.some.inj (A7.out.symm.trans A7.out))
 by_cases c8 : t285 = true
 rotate_left
 replace c8 := Bool.eq_false_iff.mpr c8
 subst c8
 rw [if_neg (show ¬ (false = true) by decide)] at H
 obtain rfl := Option.some.inj H
 rotate_right
 subst c8
 rw [if_pos rfl] at H
 replace H := QO.mp H
 obtain ⟨t286,A90,H⟩ := H
 have A9 := QN A90
 clear A90
 try (obtain rfl := Option.some.inj (A9.out.symm.trans A9.out))
 by_cases c10 : t286 = true
 rotate_left
 replace c10 := Bool.eq_false_iff.mpr c10
 subst c10
 rw [if_neg (show ¬ (false = true) by decide)] at H
 obtain rfl := Option.some.inj H
 rotate_right
 subst c10
 rw [if_pos rfl] at H
 replace H := QO.mp H
 obtain ⟨t287,A110,H⟩ := H
 have A11 := QN A110
 clear A110
 try (obtain rfl := Option.some.inj (A11.out.symm.trans A11.out))
 by_cases c12 : t287 = true
 rotate_left
 replace c12 := Bool.eq_false_iff.mpr c12
 subst c12
 rw [if_neg (show ¬ (false = true) by decide)] at H
 obtain rfl := Option.some.inj H
 rotate_right
 subst c12
 rw [if_pos rfl] at H
 replace H := QO.mp H
 obtain ⟨t288,A130,H⟩ := H
 have A13 := QN A130
 clear A130
 try (obtain rfl := Option.some.inj (A13.out.symm.trans A13.out))
 obtain rfl := Option.some.inj H
 rotate_right
 subst c6
 rw [if_pos rfl] at H
 replace H := QO.mp H
 obtain ⟨t285,A70,H⟩ := H
 have A7 := QN A70
 clear A70
 by_cases c8 : t285 = true
 rotate_left
 replace c8 := Bool.eq_false_iff.mpr c8
 subst c8
 rw [if_neg (show ¬ (false = true) by decide)] at H
 obtain rfl := Option.some.inj H
 rotate_right
 subst c8
 rw [if_pos rfl] at H
 replace H := QO.mp H
 obtain ⟨t286,A90,H⟩ := H
 have A9 := QN A90
 clear A90
 by_cases c10 : t286 = true
 rotate_left
 replace c10 := Bool.eq_false_iff.mpr c10
 subst c10
 rw [if_neg (show ¬ (false = true) by decide)] at H
 obtain rfl := Option.some.inj H
 rotate_right
 subst c10
 rw [if_pos rfl] at H
 replace H := QO.mp H
 obtain ⟨t287,A110,H⟩ := H
 have A11 := QN A110
 clear A110
 by_cases c12 : t287 = true
 rotate_left
 replace c12 := Bool.eq_false_iff.mpr c12
 subst c12
 rw [if_neg (show ¬ (false = true) by decide)] at H
 obtain rfl := Option.some.inj H
 rotate_right
 subst c12
 rw [if_pos rfl] at H
 replace H := QO.mp H
 obtain ⟨t288,A130,H⟩ := H
 have A13 := QN A130
 clear A130
 obtain rfl := Option.some.inj H
 all_goals
  go_enter Tryd.func48,Tryd.ntmps48
  go_wp2_with (first | ((with_reducible refine gate_dst (N := 1) rfl ?_); refine box_event ?hg (N := 1) ?hd (cs := #[.int .i64 a0_0,.int .i64 a0_1,.bool _,.bool _,.slice A0_4 l0_4.length c0_4,.slice A0_5 l0_5.length c0_5,.int .i64 a0_6,.int .i64 a0_7]) (t := 26) ?hr ?_; (case hd => rfl); (case hg => rfl); (case hr => first | (go_simp; done) | (go_simp; rfl)); intro gb282 hg w30 hbox hb; have n0_ := QN (below_step (by repeat (first | (with_reducible first | exact HB.out | apply QD | apply QB | apply QC) | exact HB.out)) hb); have n1_ := QN (hbox); have n2_ := QN ((by rw [hg]; exact (below_size (by repeat (first | (with_reducible first | exact HB.out | apply QD | apply QB | apply QC) | exact HB.out))) : w.heap.size ≤ gb282)); have n3_ := QN ((by rw [hg]; exact (below_size (by repeat (first | (with_reducible first | exact HB.out | apply QD | apply QB | apply QC) | exact HB.out))) : w.heap.size ≤ gb282)); clear HB; revert n0_ n1_ n2_ n3_; intro HB BK282 GW282 GE282; clear hb hbox hg; have hcz31_0 : w30.cell? ⟨gb282,0,none⟩ = some (.int .i64 a0_0) := (QF BK282.out 0).trans rfl; have hcz31_1 : w30.cell? ⟨gb282,1,none⟩ = some (.int .i64 a0_1) := (QF BK282.out 1).trans rfl; have hcz31_2 : w30.cell? ⟨gb282,2,none⟩ = some (.bool _) := (QF BK282.out 2).trans rfl; have hcz31_3 : w30.cell? ⟨gb282,3,none⟩ = some (.bool _) := (QF BK282.out 3).trans rfl; have hcz31_4 : w30.cell? ⟨gb282,4,none⟩ = some (.slice A0_4 l0_4.length c0_4) := (QF BK282.out 4).trans rfl; have hcz31_5 : w30.cell? ⟨gb282,5,none⟩ = some (.slice A0_5 l0_5.length c0_5) := (QF BK282.out 5).trans rfl; have hcz31_6 : w30.cell? ⟨gb282,6,none⟩ = some (.int .i64 a0_6) := (QF BK282.out 6).trans rfl; have hcz31_7 : w30.cell? ⟨gb282,7,none⟩ = some (.int .i64 a0_7) := (QF BK282.out 7).trans rfl; have hfz31_0 := QE BK282.out 0; have hfz31_1 := QE BK282.out 1; have hfz31_2 := QE BK282.out 2; have hfz31_3 := QE BK282.out 3; have hfz31_4 := QE BK282.out 4; have hfz31_5 := QE BK282.out 5; have hfz31_6 := QE BK282.out 6; have hfz31_7 := QE BK282.out 7) | ((with_reducible refine gate_callee (f := 66) rfl ?_); refine goesL_ (some 5) rfl rfl Tryd.func66 (by kernel_rfl) rfl #[.int .i64 a0_0,.int .i64 2,.int .i64 6] rfl (by (try simp only [List.map_toArray,List.map_cons,List.map_nil]); first | done | rfl | (simp only [List.length_drop,List.length_take]; rfl)) ?_; (with_reducible refine (spec_l1In.calls a0_0 2 6 _ _ A2.out).mono ?_); rintro e w' ⟨rfl,⟨nd,rfl⟩⟩; refine ⟨_,rfl,?_⟩) | (go_at_call 66; (with_reducible refine (spec_l1In.calls a0_1 1 8 _ _ A4.out).mono ?_); rintro e w' ⟨rfl,⟨nd,rfl⟩⟩) | (go_at_call 69; (with_reducible refine (spec_l22Pattern.calls k _ _ l0_4 _ _ ?side1 ?side2 A7.out).mono ?_); (case side1 => repeat (first | exact (Kd.C_below HR0_4.out (by repeat (first | (with_reducible first | exact HB.out | apply QD | apply QB | apply QC | refine below_set ?_ GE282.out) | exact HB.out))) | (with_reducible refine Kd.C_alloc ?_ _) | (with_reducible refine Kd.C_drewN ?_ _) | (with_reducible refine Kd.C_drew ?_))); (case side2 => exact HC0_4.out); rintro e w' ⟨rfl,⟨nd,rfl⟩⟩) | (go_at_call 69; (with_reducible refine (spec_l22Pattern.calls k _ _ l0_5 _ _ ?side1 ?side2 A9.out).mono ?_); (case side1 => repeat (first | exact (Kd.C_below HR0_5.out (by repeat (first | (with_reducible first | exact HB.out | apply QD | apply QB | apply QC | refine below_set ?_ GE282.out) | exact HB.out))) | (with_reducible refine Kd.C_alloc ?_ _) | (with_reducible refine Kd.C_drewN ?_ _) | (with_reducible refine Kd.C_drew ?_))); (case side2 => exact HC0_5.out); rintro e w' ⟨rfl,⟨nd,rfl⟩⟩) | (go_at_call 66; (with_reducible refine (spec_l1In.calls a0_6 1 4 _ _ A11.out).mono ?_); rintro e w' ⟨rfl,⟨nd,rfl⟩⟩) | (go_at_call 66; (with_reducible refine (spec_l1In.calls a0_7 1 400 t288 _ A13.out).mono ?_); rintro e w' ⟨rfl,⟨nd,rfl⟩⟩))
  go_ret
  exact ⟨by first | rfl | (simp [errW_none,errW_some] <;> rfl) | (simp [*,errW_none,errW_some] <;> rfl),by repeat (first | (with_reducible first | exact HB.out | apply QD | apply QB | apply QC | refine below_set ?_ GE282.out) | exact HB.out)⟩

/-! ### spec_FormatInt: function 49 -/
def spec_FormatInt.l0 : Nat → Int → ByteArray → Int → Option (ByteArray)
 | 0,_,_,_ => none
 | k + 1,x0,x3,x4 => if x4 = 0 then (if x0 < 0 then (if 1 + x3.size ≤ 9223372036854775807 then (some ((⟨#[45]⟩ : ByteArray) ++ x3)) else (none)) else (some x3)) else (if (Int.tmod x4 10) < 0 then ((some (([(wrap64 (48 + (wrap64 (-(Int.tmod x4 10))))) % 256] : List Int) : List Int)).bind fun y293 => (if (strOfNums y293).size + x3.size ≤ 9223372036854775807 then (spec_FormatInt.l0 k x0 ((strOfNums y293) ++ x3) (wrap64 (Int.tdiv x4 10))) else (none))) else ((some (([(wrap64 (48 + (Int.tmod x4 10))) % 256] : List Int) : List Int)).bind fun y296 => (if (strOfNums y296).size + x3.size ≤ 9223372036854775807 then (spec_FormatInt.l0 k x0 ((strOfNums y296) ++ x3) (wrap64 (Int.tdiv x4 10))) else (none))))
def spec_FormatInt.f (k : Nat) (a0 : Int) : Option (ByteArray) := if a0 = 0 then (some (⟨#[48]⟩ : ByteArray)) else (spec_FormatInt.l0 k a0 (⟨#[]⟩ : ByteArray) a0)
theorem spec_FormatInt.mono_l : ∀ k, (∀ y0 y1 y2, LeO (spec_FormatInt.l0 k y0 y1 y2) (spec_FormatInt.l0 (k + 1) y0 y1 y2))
 | 0 => fun _ _ _ r h => by simp [spec_FormatInt.l0] at h
 | k + 1 => by
  have ih0 := spec_FormatInt.mono_l k
  ·intro y0 y1 y2
   unfold spec_FormatInt.l0
   repeat' first
   | (with_reducible exact ih0 _ _ _)
   | (with_reducible exact LeO.refl _)
   | (with_reducible exact LeO.none _)
   | (with_reducible refine LeO.ite ?_ ?_)
   | (with_reducible refine LeO.bind ?_ (fun _ => ?_))
   | exact ih0 _ _ _
   | exact LeO.none _
   | refine LeO.ite ?_ ?_
   | refine LeO.bind ?_ (fun _ => ?_)
theorem spec_FormatInt.mono : ∀ a0 k, LeO (spec_FormatInt.f k a0) (spec_FormatInt.f (k + 1) a0) := by
 intro a0 k
 have ih0 := spec_FormatInt.mono_l k
 unfold spec_FormatInt.f
 repeat' first
   | (with_reducible exact ih0 _ _ _)
   | (with_reducible exact LeO.refl _)
   | (with_reducible exact LeO.none _)
   | (with_reducible refine LeO.ite ?_ ?_)
   | (with_reducible refine LeO.bind ?_ (fun _ => ?_))
   | exact ih0 _ _ _
   | exact LeO.none _
   | refine LeO.ite ?_ ?_
   | refine LeO.bind ?_ (fun _ => ?_)
set_option maxHeartbeats 8000000 in
set_option maxRecDepth 100000 in
theorem spec_FormatInt.calls (k : Nat) (a0 : Int) (r : ByteArray) (w : World) (h : spec_FormatInt.f k a0 = some r) :
  Calls Tryd.prog 49 #[.int .i64 a0] w fun e w' => e = .returned (.string r) ∧ Below w.heap.size w w' := by
 have HB := QN (Below.refl w.heap.size w)
 have H : (if a0 = 0 then (some (⟨#[48]⟩ : ByteArray)) else (spec_FormatInt.l0 k a0 (⟨#[]⟩ : ByteArray) a0)) = some r := h
 clear h
 by_cases c2 : a0 = 0
 ·rw [if_pos c2] at H
  have c2b0 : (a0 == 0) = true := beq_iff_eq.mpr c2
  have c2b1 : (a0 != 0) = false := bne_eq_false_iff_eq.mpr c2
  clear c2
  obtain rfl := Option.some.inj H
  go_enter Tryd.func49,Tryd.ntmps49
  go_wp2
  go_ret
  exact ⟨by first | rfl | (simp [errW_none,errW_some] <;> rfl) | (simp [*,errW_none,errW_some] <;> rfl),by repeat (first | (with_reducible first | exact HB.out | apply QD | apply QB | apply QC) | exact HB.out)⟩
 ·rw [if_neg c2] at H
  have c2b0 : (a0 == 0) = false := beq_eq_false_iff_ne.mpr c2
  have c2b1 : (a0 != 0) = true := bne_iff_ne.mpr c2
  have H' := QN H
  clear H
  go_enter Tryd.func49,Tryd.ntmps49
  go_wp2
  go_loopg [3,4] k (fun kq v3 v4 w' => ∃ (x3_1 : ByteArray) (x4_1 : Int),v3 = .string x3_1 ∧ v4 = .int .i64 x4_1 ∧ Aside0 (spec_FormatInt.l0 kq a0 x3_1 x4_1 = some r) ∧ Aside0 (kq ≤ k) ∧ Aside0 (Below w.heap.size w w'))
  case atStart => exact ⟨((⟨#[]⟩ : ByteArray)),(a0),(by first | rfl | (simp; done) | (simp [*]; done)),(by first | rfl | (simp; done) | (simp [*]; done)),H',⟨Nat.le_refl _⟩,⟨by repeat (first | (with_reducible first | exact HB.out | apply QD | apply QB | apply QC) | exact HB.out)⟩⟩
  case round =>
   clear H'
   try clear c2
   try clear c2b0
   try clear c2b1
   try clear p2
   obtain ⟨x3_1,x4_1,rfl,rfl,HA,HK1,HB⟩ := hrel
   cases gk with
   | zero => exact absurd HA.out (by simp [spec_FormatInt.l0])
   | succ k1 =>
    have H := HA.out
    clear HA
    simp only [spec_FormatInt.l0] at H
    by_cases c3 : x4_1 = 0
    ·rw [if_pos c3] at H
     have c3b0 : (x4_1 == 0) = true := beq_iff_eq.mpr c3
     have c3b1 : (x4_1 != 0) = false := bne_eq_false_iff_eq.mpr c3
     clear c3
     by_cases c4 : a0 < 0
     ·rw [if_pos c4] at H
      have c4b0 : decide (a0 < 0) = true := decide_eq_true c4
      clear c4
      by_cases c5 : 1 + x3_1.size ≤ 9223372036854775807
      ·rw [if_pos c5] at H
       have c5b0 := eq_true c5
       have c5b1 : decide (1 + x3_1.size ≤ 9223372036854775807) = true := decide_eq_true c5
       try have c5b2 : (9223372036854775807 < 1 + x3_1.size) = False := eq_false (Nat.not_lt.2 c5)
       obtain rfl := Option.some.inj H
       go_wp2
       go_ret
       exact ⟨by first | rfl | (simp [errW_none,errW_some] <;> rfl) | (simp [*,errW_none,errW_some] <;> rfl),by repeat (first | (with_reducible first | exact HB.out | apply QD | apply QB | apply QC) | exact HB.out)⟩
      ·rw [if_neg c5] at H
       exact absurd H (by simp)
     ·rw [if_neg c4] at H
      have c4b0 : decide (a0 < 0) = false := decide_eq_false c4
      clear c4
      obtain rfl := Option.some.inj H
      go_wp2
      go_ret
      exact ⟨by first | rfl | (simp [errW_none,errW_some] <;> rfl) | (simp [*,errW_none,errW_some] <;> rfl),by repeat (first | (with_reducible first | exact HB.out | apply QD | apply QB | apply QC) | exact HB.out)⟩
    ·rw [if_neg c3] at H
     have c3b0 : (x4_1 == 0) = false := beq_eq_false_iff_ne.mpr c3
     have c3b1 : (x4_1 != 0) = true := bne_iff_ne.mpr c3
     by_cases c6 : (Int.tmod x4_1 10) < 0
     ·rw [if_pos c6] at H
      have c6b0 : decide ((Int.tmod x4_1 10) < 0) = true := decide_eq_true c6
      clear c6
      obtain ⟨y293,hy293⟩ : ∃ y_ : List Int,y_ = (([(wrap64 (48 + (wrap64 (-(Int.tmod x4_1 10))))) % 256] : List Int)) := ⟨_,rfl⟩
      replace H : (if (strOfNums y293).size + x3_1.size ≤ 9223372036854775807 then (spec_FormatInt.l0 k1 a0 ((strOfNums y293) ++ x3_1) (wrap64 (Int.tdiv x4_1 10))) else (none)) = some r := by first | (rw [hy293]; with_reducible exact H) | (have H2_ := (Option.bind_some _ _).symm.trans H; rw [hy293]; with_reducible exact H2_) | (have H2_ := (Option.bind_some _ _).symm.trans H; with_reducible exact H2_) | with_reducible exact H | (rw [hy293]; exact H) | exact H
      have Ny293 := QN hy293
      clear hy293
      by_cases c7 : (strOfNums y293).size + x3_1.size ≤ 9223372036854775807
      ·rw [if_pos c7] at H
       have c7b0 := eq_true c7
       have c7b1 : decide ((strOfNums y293).size + x3_1.size ≤ 9223372036854775807) = true := decide_eq_true c7
       try have c7b2 : (9223372036854775807 < (strOfNums y293).size + x3_1.size) = False := eq_false (Nat.not_lt.2 c7)
       have H' := QN H
       clear H
       go_wp2_with (first | ((with_reducible refine gate_dst (N := 22) rfl ?_); refine Kd.R_lit (Kd.int .u8) _ 5 ?hg (N := 22) ?hd (xs := ([(wrap64 (48 + (wrap64 (-(Int.tmod x4_1 10))))) % 256] : List Int)) (inner := [.int .u8 ((wrap64 (48 + (wrap64 (-(Int.tmod x4_1 10))))) % 256)]) (ok := fun _ => True) (okp := fun _ => True) ?hr ?hp (fun _ hk => hk) trivial (Below.refl _ _) (Nat.le_refl _) (by simp) ?_; (case hd => rfl); (case hg => rfl); (case hr => first | (go_simp; done) | (go_simp; rfl)); (case hp => exact (Reps.one (show Kd.M (Kd.int .u8) _ _ _ ((wrap64 (48 + (wrap64 (-(Int.tmod x4_1 10))))) % 256) [.int .u8 ((wrap64 (48 + (wrap64 (-(Int.tmod x4_1 10))))) % 256)] from rfl) (Reps.none _ _))); intro v294 w8 ho9 hb hg_ hnew_; clear hg_ hnew_; (first | rw [← Ny293.out] at ho9 | (simp only [Int.reduceToNat] at ho9; rw [← Ny293.out] at ho9)); have n0_ := QN (Kd.R_lower ho9 (below_size (by repeat (first | (with_reducible first | exact HB.out | apply QD | apply QB | apply QC) | exact HB.out)))); have n1_ := QN (below_step (by repeat (first | (with_reducible first | exact HB.out | apply QD | apply QB | apply QC) | exact HB.out)) hb); clear HB; revert n0_ n1_; intro HO295 HB; clear hb ho9; have hcv10 := own_string (P := Tryd.prog) Tryd.underlying22 Tryd.underlying5 Tryd.underlying9 (Kd.own_of_R HO295.out)))
       go_roundg k1
       case measure => have := HK1.out; omega
       case rel => exact ⟨((strOfNums y293) ++ x3_1),(wrap64 (Int.tdiv x4_1 10)),(by first | rfl | (simp; done) | (simp [*]; done)),(by first | rfl | (simp; done) | (simp [*]; done)),H',⟨by have := HK1.out; omega⟩,⟨by repeat (first | (with_reducible first | exact HB.out | apply QD | apply QB | apply QC) | exact HB.out)⟩⟩
      ·rw [if_neg c7] at H
       exact absurd H (by simp)
     ·rw [if_neg c6] at H
      have c6b0 : decide ((Int.tmod x4_1 10) < 0) = false := decide_eq_false c6
      clear c6
      obtain ⟨y296,hy296⟩ : ∃ y_ : List Int,y_ = (([(wrap64 (48 + (Int.tmod x4_1 10))) % 256] : List Int)) := ⟨_,rfl⟩
      replace H : (if (strOfNums y296).size + x3_1.size ≤ 9223372036854775807 then (spec_FormatInt.l0 k1 a0 ((strOfNums y296) ++ x3_1) (wrap64 (Int.tdiv x4_1 10))) else (none)) = some r := by first | (rw [hy296]; with_reducible exact H) | (have H2_ := (Option.bind_some _ _).symm.trans H; rw [hy296]; with_reducible exact H2_) | (have H2_ := (Option.bind_some _ _).symm.trans H; with_reducible exact H2_) | with_reducible exact H | (rw [hy296]; exact H) | exact H
      have Ny296 := QN hy296
      clear hy296
      by_cases c11 : (strOfNums y296).size + x3_1.size ≤ 9223372036854775807
      ·rw [if_pos c11] at H
       have c11b0 := eq_true c11
       have c11b1 : decide ((strOfNums y296).size + x3_1.size ≤ 9223372036854775807) = true := decide_eq_true c11
       try have c11b2 : (9223372036854775807 < (strOfNums y296).size + x3_1.size) = False := eq_false (Nat.not_lt.2 c11)
       have H' := QN H
       clear H
       go_wp2_with (first | ((with_reducible refine gate_dst (N := 22) rfl ?_); refine Kd.R_lit (Kd.int .u8) _ 5 ?hg (N := 22) ?hd (xs := ([(wrap64 (48 + (Int.tmod x4_1 10))) % 256] : List Int)) (inner := [.int .u8 ((wrap64 (48 + (Int.tmod x4_1 10))) % 256)]) (ok := fun _ => True) (okp := fun _ => True) ?hr ?hp (fun _ hk => hk) trivial (Below.refl _ _) (Nat.le_refl _) (by simp) ?_; (case hd => rfl); (case hg => rfl); (case hr => first | (go_simp; done) | (go_simp; rfl)); (case hp => exact (Reps.one (show Kd.M (Kd.int .u8) _ _ _ ((wrap64 (48 + (Int.tmod x4_1 10))) % 256) [.int .u8 ((wrap64 (48 + (Int.tmod x4_1 10))) % 256)] from rfl) (Reps.none _ _))); intro v297 w12 ho13 hb hg_ hnew_; clear hg_ hnew_; (first | rw [← Ny296.out] at ho13 | (simp only [Int.reduceToNat] at ho13; rw [← Ny296.out] at ho13)); have n0_ := QN (Kd.R_lower ho13 (below_size (by repeat (first | (with_reducible first | exact HB.out | apply QD | apply QB | apply QC) | exact HB.out)))); have n1_ := QN (below_step (by repeat (first | (with_reducible first | exact HB.out | apply QD | apply QB | apply QC) | exact HB.out)) hb); clear HB; revert n0_ n1_; intro HO298 HB; clear hb ho13; have hcv14 := own_string (P := Tryd.prog) Tryd.underlying22 Tryd.underlying5 Tryd.underlying9 (Kd.own_of_R HO298.out)))
       go_roundg k1
       case measure => have := HK1.out; omega
       case rel => exact ⟨((strOfNums y296) ++ x3_1),(wrap64 (Int.tdiv x4_1 10)),(by first | rfl | (simp; done) | (simp [*]; done)),(by first | rfl | (simp; done) | (simp [*]; done)),H',⟨by have := HK1.out; omega⟩,⟨by repeat (first | (with_reducible first | exact HB.out | apply QD | apply QB | apply QC) | exact HB.out)⟩⟩
      ·rw [if_neg c11] at H
       exact absurd H (by simp)

/-! ### spec_RulesWord: function 50 -/
def spec_RulesWord.j0 : Nat → Bool → Int → Int → Bool → Bool → List Int → List Int → Int → Int → Option (ByteArray)
 | 0,_,_,_,_,_,_,_,_,_ => none
 | k + 1,x3,x300000,x300001,x300002,x300003,x300004,x300005,x300006,x300007 => if x3 = true then (some (⟨#[98,111,116,104]⟩ : ByteArray)) else (if x300002 = true then (some (⟨#[115,117,105,116]⟩ : ByteArray)) else (if x300003 = true then (some (⟨#[114,97,110,107]⟩ : ByteArray)) else (some (⟨#[]⟩ : ByteArray))))
def spec_RulesWord.f (k : Nat) (a0_0 : Int) (a0_1 : Int) (a0_2 : Bool) (a0_3 : Bool) (l0_4 : List Int) (l0_5 : List Int) (a0_6 : Int) (a0_7 : Int) : Option (ByteArray) := if a0_2 = true then (spec_RulesWord.j0 k a0_3 a0_0 a0_1 a0_2 a0_3 l0_4 l0_5 a0_6 a0_7) else (spec_RulesWord.j0 k false a0_0 a0_1 a0_2 a0_3 l0_4 l0_5 a0_6 a0_7)
theorem spec_RulesWord.mono_l : ∀ k, (∀ y0 y1 y2 y3 y4 y5 y6 y7 y8, LeO (spec_RulesWord.j0 k y0 y1 y2 y3 y4 y5 y6 y7 y8) (spec_RulesWord.j0 (k + 1) y0 y1 y2 y3 y4 y5 y6 y7 y8))
 | 0 => fun _ _ _ _ _ _ _ _ _ r h => by simp [spec_RulesWord.j0] at h
 | k + 1 => by
  have ih0 := spec_RulesWord.mono_l k
  ·intro y0 y1 y2 y3 y4 y5 y6 y7 y8
   unfold spec_RulesWord.j0
   repeat' first
   | (with_reducible exact ih0 _ _ _ _ _ _ _ _ _)
   | (with_reducible exact LeO.refl _)
   | (with_reducible exact LeO.none _)
   | (with_reducible refine LeO.ite ?_ ?_)
   | (with_reducible refine LeO.bind ?_ (fun _ => ?_))
   | exact ih0 _ _ _ _ _ _ _ _ _
   | exact LeO.none _
   | refine LeO.ite ?_ ?_
   | refine LeO.bind ?_ (fun _ => ?_)
theorem spec_RulesWord.mono : ∀ a0 a1 a2 a3 a4 a5 a6 a7 k, LeO (spec_RulesWord.f k a0 a1 a2 a3 a4 a5 a6 a7) (spec_RulesWord.f (k + 1) a0 a1 a2 a3 a4 a5 a6 a7) := by
 intro a0 a1 a2 a3 a4 a5 a6 a7 k
 have ih0 := spec_RulesWord.mono_l k
 unfold spec_RulesWord.f
 repeat' first
   | (with_reducible exact ih0 _ _ _ _ _ _ _ _ _)
   | (with_reducible exact LeO.refl _)
   | (with_reducible exact LeO.none _)
   | (with_reducible refine LeO.ite ?_ ?_)
   | (with_reducible refine LeO.bind ?_ (fun _ => ?_))
   | exact ih0 _ _ _ _ _ _ _ _ _
   | exact LeO.none _
   | refine LeO.ite ?_ ?_
   | refine LeO.bind ?_ (fun _ => ?_)
set_option maxHeartbeats 8000000 in
set_option maxRecDepth 100000 in
theorem spec_RulesWord.calls (k : Nat) (a0_0 : Int) (a0_1 : Int) (a0_2 : Bool) (a0_3 : Bool) (A0_4 : Option Addr) (c0_4 : Nat) (l0_4 : List Int) (A0_5 : Option Addr) (c0_5 : Nat) (l0_5 : List Int) (a0_6 : Int) (a0_7 : Int) (r : ByteArray) (w : World) (hr0_4 : Kd.C (Kd.int .i64) w A0_4 l0_4.length l0_4) (hc0_4 : l0_4.length ≤ c0_4) (hr0_5 : Kd.C (Kd.int .i64) w A0_5 l0_5.length l0_5) (hc0_5 : l0_5.length ≤ c0_5) (h : spec_RulesWord.f k a0_0 a0_1 a0_2 a0_3 l0_4 l0_5 a0_6 a0_7 = some r) :
  Calls Tryd.prog 50 #[.agg #[.int .i64 a0_0,.int .i64 a0_1,.bool a0_2,.bool a0_3,.slice A0_4 l0_4.length c0_4,.slice A0_5 l0_5.length c0_5,.int .i64 a0_6,.int .i64 a0_7]] w fun e w' => e = .returned (.string r) ∧ Below w.heap.size w w' := by
 have hu26 := Tryd.underlying26
 have HR0_4 := QN hr0_4
 have HC0_4 := QN hc0_4
 clear hr0_4 hc0_4
 have HR0_5 := QN hr0_5
 have HC0_5 := QN hc0_5
 clear hr0_5 hc0_5
 have HB := QN (Below.refl w.heap.size w)
 have H : (if a0_2 = true then (spec_RulesWord.j0 k a0_3 a0_0 a0_1 a0_2 a0_3 l0_4 l0_5 a0_6 a0_7) else (spec_RulesWord.j0 k false a0_0 a0_1 a0_2 a0_3 l0_4 l0_5 a0_6 a0_7)) = some r := h
 clear h
 have HC2 := QN H
 clear H
 go_enter Tryd.func50,Tryd.ntmps50
 go_upto_region 1 with (first | ((with_reducible refine gate_dst (N := 1) rfl ?_); refine box_event ?hg (N := 1) ?hd (cs := #[.int .i64 a0_0,.int .i64 a0_1,.bool a0_2,.bool a0_3,.slice A0_4 l0_4.length c0_4,.slice A0_5 l0_5.length c0_5,.int .i64 a0_6,.int .i64 a0_7]) (t := 26) ?hr ?_; (case hd => rfl); (case hg => rfl); (case hr => first | (go_simp; done) | (go_simp; rfl)); intro gb299 hg w3 hbox hb; have n0_ := QN (below_step (by repeat (first | (with_reducible first | exact HB.out | apply QD | apply QB | apply QC) | exact HB.out)) hb); have n1_ := QN (hbox); have n2_ := QN ((by rw [hg]; exact (below_size (by repeat (first | (with_reducible first | exact HB.out | apply QD | apply QB | apply QC) | exact HB.out))) : w.heap.size ≤ gb299)); have n3_ := QN ((by rw [hg]; exact (below_size (by repeat (first | (with_reducible first | exact HB.out | apply QD | apply QB | apply QC) | exact HB.out))) : w.heap.size ≤ gb299)); clear HB; revert n0_ n1_ n2_ n3_; intro HB BK299 GW299 GE299; clear hb hbox hg))
 (try simp only [Act.put,QK,QL,QM])
 go_cut [3] (fun v3 wc => ∃ (kq : Nat) (x3_1 : Bool),v3 = .bool x3_1 ∧ Aside0 (spec_RulesWord.j0 kq x3_1 a0_0 a0_1 a0_2 a0_3 l0_4 l0_5 a0_6 a0_7 = some r) ∧ Aside0 (kq ≤ k) ∧ Aside0 (wc.heap[gb299]? = some (.cells #[.int .i64 a0_0,.int .i64 a0_1,.bool a0_2,.bool a0_3,(.slice A0_4 l0_4.length c0_4),(.slice A0_5 l0_5.length c0_5),.int .i64 a0_6,.int .i64 a0_7] 26 (0,0))) ∧ Aside0 (Below w.heap.size w wc))
 case first =>
  have H := HC2.out
  clear HC2
  by_cases c4 : a0_2 = true
  ·subst c4
   rw [if_pos rfl] at H
   have H' := QN H
   clear H
   have hcz5_0 : w3.cell? ⟨gb299,0,none⟩ = some (.int .i64 a0_0) := (QF BK299.out 0).trans rfl
   have hcz5_1 : w3.cell? ⟨gb299,1,none⟩ = some (.int .i64 a0_1) := (QF BK299.out 1).trans rfl
   have hcz5_2 : w3.cell? ⟨gb299,2,none⟩ = some (.bool true) := (QF BK299.out 2).trans rfl
   have hcz5_3 : w3.cell? ⟨gb299,3,none⟩ = some (.bool a0_3) := (QF BK299.out 3).trans rfl
   have hcz5_4 : w3.cell? ⟨gb299,4,none⟩ = some (.slice A0_4 l0_4.length c0_4) := (QF BK299.out 4).trans rfl
   have hcz5_5 : w3.cell? ⟨gb299,5,none⟩ = some (.slice A0_5 l0_5.length c0_5) := (QF BK299.out 5).trans rfl
   have hcz5_6 : w3.cell? ⟨gb299,6,none⟩ = some (.int .i64 a0_6) := (QF BK299.out 6).trans rfl
   have hcz5_7 : w3.cell? ⟨gb299,7,none⟩ = some (.int .i64 a0_7) := (QF BK299.out 7).trans rfl
   have hfz5_0 := QE BK299.out 0
   have hfz5_1 := QE BK299.out 1
   have hfz5_2 := QE BK299.out 2
   have hfz5_3 := QE BK299.out 3
   have hfz5_4 := QE BK299.out 4
   have hfz5_5 := QE BK299.out 5
   have hfz5_6 := QE BK299.out 6
   have hfz5_7 := QE BK299.out 7
   go_wp2
   go_meet
   case rel => exact ⟨_,(a0_3),(by first | rfl | (simp; done) | (simp [*]; done)),H',⟨by first | omega | exact Nat.le_refl _⟩,⟨by (with_reducible repeat (first | refine blk_drewN ?_ _ | refine blk_drew ?_ | refine blk_alloc ?_ _)); exact BK299.out⟩,⟨by repeat (first | (with_reducible first | exact HB.out | apply QD | apply QB | apply QC | refine below_set ?_ GE299.out) | exact HB.out)⟩⟩
  ·replace c4 := Bool.eq_false_iff.mpr c4
   subst c4
   rw [if_neg (show ¬ (false = true) by decide)] at H
   have H' := QN H
   clear H
   have hcz6_0 : w3.cell? ⟨gb299,0,none⟩ = some (.int .i64 a0_0) := (QF BK299.out 0).trans rfl
   have hcz6_1 : w3.cell? ⟨gb299,1,none⟩ = some (.int .i64 a0_1) := (QF BK299.out 1).trans rfl
   have hcz6_2 : w3.cell? ⟨gb299,2,none⟩ = some (.bool false) := (QF BK299.out 2).trans rfl
   have hcz6_3 : w3.cell? ⟨gb299,3,none⟩ = some (.bool a0_3) := (QF BK299.out 3).trans rfl
   have hcz6_4 : w3.cell? ⟨gb299,4,none⟩ = some (.slice A0_4 l0_4.length c0_4) := (QF BK299.out 4).trans rfl
   have hcz6_5 : w3.cell? ⟨gb299,5,none⟩ = some (.slice A0_5 l0_5.length c0_5) := (QF BK299.out 5).trans rfl
   have hcz6_6 : w3.cell? ⟨gb299,6,none⟩ = some (.int .i64 a0_6) := (QF BK299.out 6).trans rfl
   have hcz6_7 : w3.cell? ⟨gb299,7,none⟩ = some (.int .i64 a0_7) := (QF BK299.out 7).trans rfl
   have hfz6_0 := QE BK299.out 0
   have hfz6_1 := QE BK299.out 1
   have hfz6_2 := QE BK299.out 2
   have hfz6_3 := QE BK299.out 3
   have hfz6_4 := QE BK299.out 4
   have hfz6_5 := QE BK299.out 5
   have hfz6_6 := QE BK299.out 6
   have hfz6_7 := QE BK299.out 7
   go_wp2
   go_meet
   case rel => exact ⟨_,(false),(by first | rfl | (simp; done) | (simp [*]; done)),H',⟨by first | omega | exact Nat.le_refl _⟩,⟨by (with_reducible repeat (first | refine blk_drewN ?_ _ | refine blk_drew ?_ | refine blk_alloc ?_ _)); exact BK299.out⟩,⟨by repeat (first | (with_reducible first | exact HB.out | apply QD | apply QB | apply QC | refine below_set ?_ GE299.out) | exact HB.out)⟩⟩
 case rest =>
  clear HC2
  try clear p2
  try clear c4
  try clear c5
  try clear hcz5_0 hcz5_1 hcz5_2 hcz5_3 hcz5_4 hcz5_5 hcz5_6 hcz5_7
  try clear hcz6_0 hcz6_1 hcz6_2 hcz6_3 hcz6_4 hcz6_5 hcz6_6 hcz6_7
  try clear hfz5_0 hfz5_1 hfz5_2 hfz5_3 hfz5_4 hfz5_5 hfz5_6 hfz5_7
  try clear hfz6_0 hfz6_1 hfz6_2 hfz6_3 hfz6_4 hfz6_5 hfz6_6 hfz6_7
  obtain ⟨kq,x3_1,rfl,HA,HJ1,BK299,HB⟩ := hcut
  cases kq with
  | zero => exact absurd HA.out (by simp [spec_RulesWord.j0])
  | succ kj1 =>
   have H := HA.out
   clear HA
   simp only [spec_RulesWord.j0] at H
   by_cases c7 : x3_1 = true
   rotate_left
   replace c7 := Bool.eq_false_iff.mpr c7
   subst c7
   rw [if_neg (show ¬ (false = true) by decide)] at H
   by_cases c8 : a0_2 = true
   rotate_left
   replace c8 := Bool.eq_false_iff.mpr c8
   subst c8
   rw [if_neg (show ¬ (false = true) by decide)] at H
   by_cases c10 : a0_3 = true
   rotate_left
   replace c10 := Bool.eq_false_iff.mpr c10
   subst c10
   rw [if_neg (show ¬ (false = true) by decide)] at H
   obtain rfl := Option.some.inj H
   rotate_right
   subst c10
   rw [if_pos rfl] at H
   obtain rfl := Option.some.inj H
   rotate_right
   subst c8
   rw [if_pos rfl] at H
   obtain rfl := Option.some.inj H
   rotate_right
   ·subst c7
    rw [if_pos rfl] at H
    obtain rfl := Option.some.inj H
    go_wp2
    go_ret
    exact ⟨by first | rfl | (simp [errW_none,errW_some] <;> rfl) | (simp [*,errW_none,errW_some] <;> rfl),by repeat (first | (with_reducible first | exact HB.out | apply QD | apply QB | apply QC | refine below_set ?_ GE299.out) | exact HB.out)⟩
   all_goals
    have hcz12_0 : wc.cell? ⟨gb299,0,none⟩ = some (.int .i64 a0_0) := (QF BK299.out 0).trans rfl
    have hcz12_1 : wc.cell? ⟨gb299,1,none⟩ = some (.int .i64 a0_1) := (QF BK299.out 1).trans rfl
    have hcz12_2 : wc.cell? ⟨gb299,2,none⟩ = some (.bool _) := (QF BK299.out 2).trans rfl
    have hcz12_3 : wc.cell? ⟨gb299,3,none⟩ = some (.bool _) := (QF BK299.out 3).trans rfl
    have hcz12_4 : wc.cell? ⟨gb299,4,none⟩ = some (.slice A0_4 l0_4.length c0_4) := (QF BK299.out 4).trans rfl
    have hcz12_5 : wc.cell? ⟨gb299,5,none⟩ = some (.slice A0_5 l0_5.length c0_5) := (QF BK299.out 5).trans rfl
    have hcz12_6 : wc.cell? ⟨gb299,6,none⟩ = some (.int .i64 a0_6) := (QF BK299.out 6).trans rfl
    have hcz12_7 : wc.cell? ⟨gb299,7,none⟩ = some (.int .i64 a0_7) := (QF BK299.out 7).trans rfl
    have hfz12_0 := QE BK299.out 0
    have hfz12_1 := QE BK299.out 1
    have hfz12_2 := QE BK299.out 2
    have hfz12_3 := QE BK299.out 3
    have hfz12_4 := QE BK299.out 4
    have hfz12_5 := QE BK299.out 5
    have hfz12_6 := QE BK299.out 6
    have hfz12_7 := QE BK299.out 7
    go_wp2
    go_ret
    exact ⟨by first | rfl | (simp [errW_none,errW_some] <;> rfl) | (simp [*,errW_none,errW_some] <;> rfl),by repeat (first | (with_reducible first | exact HB.out | apply QD | apply QB | apply QC | refine below_set ?_ GE299.out) | exact HB.out)⟩

/-! ### spec_l9Rank: function 97 -/
def spec_l9Rank.f (a0 : Int) : Option (ByteArray) := if 0 ≤ a0 then (if a0 ≤ (wrap64 (a0 + 1)) then (if (wrap64 (a0 + 1)) ≤ 13 then (some ((⟨#[50, 51, 52, 53, 54, 55, 56, 57, 84, 74, 81, 75, 65]⟩ : ByteArray).extract (a0 : Int).toNat ((wrap64 (a0 + 1)) : Int).toNat)) else (none)) else (none)) else (none)
set_option maxHeartbeats 8000000 in
set_option maxRecDepth 100000 in
theorem spec_l9Rank.calls (a0 : Int) (r : ByteArray) (w : World) (h : spec_l9Rank.f a0 = some r) :
  Calls Tryd.prog 97 #[.int .i64 a0] w fun e w' => e = .returned (.string r) ∧ Drawn0 w w' := by
 have H : (if 0 ≤ a0 then (if a0 ≤ (wrap64 (a0 + 1)) then (if (wrap64 (a0 + 1)) ≤ 13 then (some ((⟨#[50,51,52,53,54,55,56,57,84,74,81,75,65]⟩ : ByteArray).extract (a0 : Int).toNat ((wrap64 (a0 + 1)) : Int).toNat)) else (none)) else (none)) else (none)) = some r := h
 clear h
 by_cases c2 : 0 ≤ a0
 ·rw [if_pos c2] at H
  have c2b0 := eq_true c2
  have c2b1 : decide (0 ≤ a0) = true := decide_eq_true c2
  clear c2
  by_cases c3 : a0 ≤ (wrap64 (a0 + 1))
  ·rw [if_pos c3] at H
   have c3b0 := eq_true c3
   have c3b1 : decide (a0 ≤ (wrap64 (a0 + 1))) = true := decide_eq_true c3
   by_cases c4 : (wrap64 (a0 + 1)) ≤ 13
   ·rw [if_pos c4] at H
    have c4b0 := eq_true c4
    have c4b1 : decide ((wrap64 (a0 + 1)) ≤ 13) = true := decide_eq_true c4
    obtain rfl := Option.some.inj H
    go_enter Tryd.func97,Tryd.ntmps97
    go_wp2
    go_ret
    exact ⟨by first | rfl | (simp; done) | (simp [*]; done),by repeat (first | exact Drawn0.refl _ | apply Drawn0.step)⟩
   ·rw [if_neg c4] at H
    exact absurd H (by simp)
  ·rw [if_neg c3] at H
   exact absurd H (by simp)
 ·rw [if_neg c2] at H
  exact absurd H (by simp)

/-! ### spec_l9Leaf: function 85 -/
def spec_l9Leaf.f (a0 : Int) : Option (ByteArray) := if a0 = 400 then (some (⟨#[114]⟩ : ByteArray)) else (if a0 ≥ 300 then ((spec_l9Rank.f (wrap64 (a0 - 300))).bind fun t300 => (if t300.size + 1 ≤ 9223372036854775807 then (some (t300 ++ (⟨#[43]⟩ : ByteArray))) else (none))) else (if a0 ≥ 200 then ((spec_l9Rank.f (wrap64 (a0 - 200))).bind fun t301 => (some t301)) else (if 0 ≤ (wrap64 (a0 - 100)) then (if (wrap64 (a0 - 100)) ≤ (wrap64 ((wrap64 (a0 - 100)) + 1)) then (if (wrap64 ((wrap64 (a0 - 100)) + 1)) ≤ 4 then (some ((⟨#[99, 100, 104, 115]⟩ : ByteArray).extract ((wrap64 (a0 - 100)) : Int).toNat ((wrap64 ((wrap64 (a0 - 100)) + 1)) : Int).toNat)) else (none)) else (none)) else (none))))
set_option maxHeartbeats 8000000 in
set_option maxRecDepth 100000 in
theorem spec_l9Leaf.calls (a0 : Int) (r : ByteArray) (w : World) (h : spec_l9Leaf.f a0 = some r) :
  Calls Tryd.prog 85 #[.int .i64 a0] w fun e w' => e = .returned (.string r) ∧ Drawn0 w w' := by
 have H : (if a0 = 400 then (some (⟨#[114]⟩ : ByteArray)) else (if a0 ≥ 300 then ((spec_l9Rank.f (wrap64 (a0 - 300))).bind fun t300 => (if t300.size + 1 ≤ 9223372036854775807 then (some (t300 ++ (⟨#[43]⟩ : ByteArray))) else (none))) else (if a0 ≥ 200 then ((spec_l9Rank.f (wrap64 (a0 - 200))).bind fun t301 => (some t301)) else (if 0 ≤ (wrap64 (a0 - 100)) then (if (wrap64 (a0 - 100)) ≤ (wrap64 ((wrap64 (a0 - 100)) + 1)) then (if (wrap64 ((wrap64 (a0 - 100)) + 1)) ≤ 4 then (some ((⟨#[99,100,104,115]⟩ : ByteArray).extract ((wrap64 (a0 - 100)) : Int).toNat ((wrap64 ((wrap64 (a0 - 100)) + 1)) : Int).toNat)) else (none)) else (none)) else (none))))) = some r := h
 clear h
 by_cases c2 : a0 = 400
 ·rw [if_pos c2] at H
  have c2b0 : (a0 == 400) = true := beq_iff_eq.mpr c2
  have c2b1 : (a0 != 400) = false := bne_eq_false_iff_eq.mpr c2
  clear c2
  obtain rfl := Option.some.inj H
  go_enter Tryd.func85,Tryd.ntmps85
  go_wp2
  go_ret
  exact ⟨by first | rfl | (simp; done) | (simp [*]; done),by repeat (first | exact Drawn0.refl _ | apply Drawn0.step)⟩
 ·rw [if_neg c2] at H
  have c2b0 : (a0 == 400) = false := beq_eq_false_iff_ne.mpr c2
  have c2b1 : (a0 != 400) = true := bne_iff_ne.mpr c2
  by_cases c3 : a0 ≥ 300
  ·rw [if_pos c3] at H
   have c3b0 : decide (300 ≤ a0) = true := decide_eq_true c3
   clear c3
   replace H := QO.mp H
   obtain ⟨t300,A40,H⟩ := H
   have A4 := QN A40
   clear A40
   by_cases c5 : t300.size + 1 ≤ 9223372036854775807
   ·rw [if_pos c5] at H
    have c5b0 := eq_true c5
    have c5b1 : decide (t300.size + 1 ≤ 9223372036854775807) = true := decide_eq_true c5
    try have c5b2 : (9223372036854775807 < t300.size + 1) = False := eq_false (Nat.not_lt.2 c5)
    obtain rfl := Option.some.inj H
    go_enter Tryd.func85,Tryd.ntmps85
    go_wp2_with (first | ((with_reducible refine gate_callee (f := 97) rfl ?_); refine goesL_ (some 11) rfl rfl Tryd.func97 (by kernel_rfl) rfl #[.int .i64 (wrap64 (a0 - 300))] rfl (by (try simp only [List.map_toArray,List.map_cons,List.map_nil]); first | done | rfl | (simp only [List.length_drop,List.length_take]; rfl)) ?_; (with_reducible refine (spec_l9Rank.calls (wrap64 (a0 - 300)) t300 _ A4.out).mono ?_); rintro e w' ⟨rfl,⟨nd,rfl⟩⟩; refine ⟨_,rfl,?_⟩))
    go_ret
    exact ⟨by first | rfl | (simp; done) | (simp [*]; done),by repeat (first | exact Drawn0.refl _ | apply Drawn0.step)⟩
   ·rw [if_neg c5] at H
    exact absurd H (by simp)
  ·rw [if_neg c3] at H
   have c3b0 : decide (300 ≤ a0) = false := decide_eq_false c3
   clear c3
   by_cases c6 : a0 ≥ 200
   ·rw [if_pos c6] at H
    have c6b0 : decide (200 ≤ a0) = true := decide_eq_true c6
    clear c6
    replace H := QO.mp H
    obtain ⟨t301,A70,H⟩ := H
    have A7 := QN A70
    clear A70
    obtain rfl := Option.some.inj H
    go_enter Tryd.func85,Tryd.ntmps85
    go_wp2_with (first | ((with_reducible refine gate_callee (f := 97) rfl ?_); refine goesL_ (some 18) rfl rfl Tryd.func97 (by kernel_rfl) rfl #[.int .i64 (wrap64 (a0 - 200))] rfl (by (try simp only [List.map_toArray,List.map_cons,List.map_nil]); first | done | rfl | (simp only [List.length_drop,List.length_take]; rfl)) ?_; (with_reducible refine (spec_l9Rank.calls (wrap64 (a0 - 200)) t301 _ A7.out).mono ?_); rintro e w' ⟨rfl,⟨nd,rfl⟩⟩; refine ⟨_,rfl,?_⟩))
    go_ret
    exact ⟨by first | rfl | (simp; done) | (simp [*]; done),by repeat (first | exact Drawn0.refl _ | apply Drawn0.step)⟩
   ·rw [if_neg c6] at H
    have c6b0 : decide (200 ≤ a0) = false := decide_eq_false c6
    clear c6
    obtain ⟨ji8,hji8⟩ : ∃ j_ : Int,(wrap64 (a0 - 100)) = j_ := ⟨_,rfl⟩
    replace H : (if 0 ≤ (ji8) then (if (ji8) ≤ (wrap64 ((ji8) + 1)) then (if (wrap64 ((ji8) + 1)) ≤ 4 then (some ((⟨#[99,100,104,115]⟩ : ByteArray).extract ((ji8) : Int).toNat ((wrap64 ((ji8) + 1)) : Int).toNat)) else (none)) else (none)) else (none)) = some r := by first | (rw [hji8] at H; exact H) | (simp only [hji8] at H ⊢; exact H)
    have hji8w : (IntKind.i64.wrap (a0 - 100)) = ji8 := (QG _).trans hji8
    by_cases c9 : 0 ≤ (ji8)
    ·rw [if_pos c9] at H
     have c9b0 := eq_true c9
     have c9b1 : decide (0 ≤ (ji8)) = true := decide_eq_true c9
     clear c9
     by_cases c10 : (ji8) ≤ (wrap64 ((ji8) + 1))
     ·rw [if_pos c10] at H
      have c10b0 := eq_true c10
      have c10b1 : decide ((ji8) ≤ (wrap64 ((ji8) + 1))) = true := decide_eq_true c10
      by_cases c11 : (wrap64 ((ji8) + 1)) ≤ 4
      ·rw [if_pos c11] at H
       have c11b0 := eq_true c11
       have c11b1 : decide ((wrap64 ((ji8) + 1)) ≤ 4) = true := decide_eq_true c11
       obtain rfl := Option.some.inj H
       go_enter Tryd.func85,Tryd.ntmps85
       go_wp2
       go_ret
       exact ⟨by first | rfl | (simp; done) | (simp only [← hji8] <;> (first | rfl | simp)) | (simp [*]; done),by repeat (first | exact Drawn0.refl _ | apply Drawn0.step)⟩
      ·rw [if_neg c11] at H
       exact absurd H (by simp)
     ·rw [if_neg c10] at H
      exact absurd H (by simp)
    ·rw [if_neg c9] at H
     exact absurd H (by simp)

/-! ### spec_PatternText: function 68 -/
def spec_PatternText.l0 : Nat → List Int → List ByteArray → Int → Option (ByteArray)
 | 0,_,_,_ => none
 | k + 1,x0,x3,x4 => if x4 < (x0.length : Int) then (if 0 ≤ x4 then (if (rd x0 x4) = (-1) then (if 0 ≤ (wrap64 ((x3.length : Int) - 1)) then (if (wrap64 ((x3.length : Int) - 1)) < (x3.length : Int) then (if 1 + (rdOf ByteArray.empty x3 (wrap64 ((x3.length : Int) - 1))).size ≤ 9223372036854775807 then (spec_PatternText.l0 k x0 (x3.set ((wrap64 ((x3.length : Int) - 1)) : Int).toNat ((⟨#[33]⟩ : ByteArray) ++ (rdOf ByteArray.empty x3 (wrap64 ((x3.length : Int) - 1))))) (wrap64 (x4 + 1))) else (none)) else (none)) else (none)) else (if (rd x0 x4) = (-2) then (if 0 ≤ (wrap64 ((x3.length : Int) - 2)) then (if (wrap64 ((x3.length : Int) - 2)) < (x3.length : Int) then (if 1 + (rdOf ByteArray.empty x3 (wrap64 ((x3.length : Int) - 2))).size ≤ 9223372036854775807 then (if ((⟨#[40]⟩ : ByteArray) ++ (rdOf ByteArray.empty x3 (wrap64 ((x3.length : Int) - 2)))).size + 1 ≤ 9223372036854775807 then (if 0 ≤ (wrap64 ((x3.length : Int) - 1)) then (if (wrap64 ((x3.length : Int) - 1)) < (x3.length : Int) then (if (((⟨#[40]⟩ : ByteArray) ++ (rdOf ByteArray.empty x3 (wrap64 ((x3.length : Int) - 2)))) ++ (⟨#[38]⟩ : ByteArray)).size + (rdOf ByteArray.empty x3 (wrap64 ((x3.length : Int) - 1))).size ≤ 9223372036854775807 then (if ((((⟨#[40]⟩ : ByteArray) ++ (rdOf ByteArray.empty x3 (wrap64 ((x3.length : Int) - 2)))) ++ (⟨#[38]⟩ : ByteArray)) ++ (rdOf ByteArray.empty x3 (wrap64 ((x3.length : Int) - 1)))).size + 1 ≤ 9223372036854775807 then (if (wrap64 ((x3.length : Int) - 2)) ≤ (x3.length : Int) then ((some (x3.take ((wrap64 ((x3.length : Int) - 2)) : Int).toNat : List ByteArray)).bind fun y312 => (if y312.length < 8796093022208 then (spec_PatternText.l0 k x0 (y312 ++ [((((⟨#[40]⟩ : ByteArray) ++ (rdOf ByteArray.empty x3 (wrap64 ((x3.length : Int) - 2)))) ++ (⟨#[38]⟩ : ByteArray)) ++ (rdOf ByteArray.empty x3 (wrap64 ((x3.length : Int) - 1)))) ++ (⟨#[41]⟩ : ByteArray)]) (wrap64 (x4 + 1))) else (none))) else (none)) else (none)) else (none)) else (none)) else (none)) else (none)) else (none)) else (none)) else (none)) else (if (rd x0 x4) = (-3) then (if 0 ≤ (wrap64 ((x3.length : Int) - 2)) then (if (wrap64 ((x3.length : Int) - 2)) < (x3.length : Int) then (if 1 + (rdOf ByteArray.empty x3 (wrap64 ((x3.length : Int) - 2))).size ≤ 9223372036854775807 then (if ((⟨#[40]⟩ : ByteArray) ++ (rdOf ByteArray.empty x3 (wrap64 ((x3.length : Int) - 2)))).size + 1 ≤ 9223372036854775807 then (if 0 ≤ (wrap64 ((x3.length : Int) - 1)) then (if (wrap64 ((x3.length : Int) - 1)) < (x3.length : Int) then (if (((⟨#[40]⟩ : ByteArray) ++ (rdOf ByteArray.empty x3 (wrap64 ((x3.length : Int) - 2)))) ++ (⟨#[124]⟩ : ByteArray)).size + (rdOf ByteArray.empty x3 (wrap64 ((x3.length : Int) - 1))).size ≤ 9223372036854775807 then (if ((((⟨#[40]⟩ : ByteArray) ++ (rdOf ByteArray.empty x3 (wrap64 ((x3.length : Int) - 2)))) ++ (⟨#[124]⟩ : ByteArray)) ++ (rdOf ByteArray.empty x3 (wrap64 ((x3.length : Int) - 1)))).size + 1 ≤ 9223372036854775807 then (if (wrap64 ((x3.length : Int) - 2)) ≤ (x3.length : Int) then ((some (x3.take ((wrap64 ((x3.length : Int) - 2)) : Int).toNat : List ByteArray)).bind fun y320 => (if y320.length < 8796093022208 then (spec_PatternText.l0 k x0 (y320 ++ [((((⟨#[40]⟩ : ByteArray) ++ (rdOf ByteArray.empty x3 (wrap64 ((x3.length : Int) - 2)))) ++ (⟨#[124]⟩ : ByteArray)) ++ (rdOf ByteArray.empty x3 (wrap64 ((x3.length : Int) - 1)))) ++ (⟨#[41]⟩ : ByteArray)]) (wrap64 (x4 + 1))) else (none))) else (none)) else (none)) else (none)) else (none)) else (none)) else (none)) else (none)) else (none)) else (none)) else ((spec_l9Leaf.f (rd x0 x4)).bind fun t327 => (if x3.length < 8796093022208 then (spec_PatternText.l0 k x0 (x3 ++ [t327]) (wrap64 (x4 + 1))) else (none)))))) else (none)) else (if 0 < (x3.length : Int) then (some (rdOf ByteArray.empty x3 0)) else (none))
def spec_PatternText.f (k : Nat) (l0 : List Int) : Option (ByteArray) := (spec_IsPattern.f k l0).bind fun t302 => (if t302 = true then (spec_PatternText.l0 k l0 (([] : List ByteArray)) 0) else (some (⟨#[]⟩ : ByteArray)))
theorem spec_PatternText.mono_l : ∀ k, (∀ y0 y1 y2, LeO (spec_PatternText.l0 k y0 y1 y2) (spec_PatternText.l0 (k + 1) y0 y1 y2))
 | 0 => fun _ _ _ r h => by simp [spec_PatternText.l0] at h
 | k + 1 => by
  have ih0 := spec_PatternText.mono_l k
  ·intro y0 y1 y2
   unfold spec_PatternText.l0
   repeat' first
   | (with_reducible exact ih0 _ _ _)
   | (with_reducible exact spec_IsPattern.mono _ _)
   | (with_reducible exact LeO.refl _)
   | (with_reducible exact LeO.none _)
   | (with_reducible refine LeO.ite ?_ ?_)
   | (with_reducible refine LeO.bind ?_ (fun _ => ?_))
   | exact ih0 _ _ _
   | exact spec_IsPattern.mono _ _
   | exact LeO.none _
   | refine LeO.ite ?_ ?_
   | refine LeO.bind ?_ (fun _ => ?_)
theorem spec_PatternText.mono : ∀ a0 k, LeO (spec_PatternText.f k a0) (spec_PatternText.f (k + 1) a0) := by
 intro a0 k
 have ih0 := spec_PatternText.mono_l k
 unfold spec_PatternText.f
 repeat' first
   | (with_reducible exact ih0 _ _ _)
   | (with_reducible exact spec_IsPattern.mono _ _)
   | (with_reducible exact LeO.refl _)
   | (with_reducible exact LeO.none _)
   | (with_reducible refine LeO.ite ?_ ?_)
   | (with_reducible refine LeO.bind ?_ (fun _ => ?_))
   | exact ih0 _ _ _
   | exact spec_IsPattern.mono _ _
   | exact LeO.none _
   | refine LeO.ite ?_ ?_
   | refine LeO.bind ?_ (fun _ => ?_)
def spec_PatternText.T13 : Bool × List (List Nat × List Nat) := (true, [([], []), ([], []), ([1], [1]), ([0, 2], [0, 2]), ([], []), ([], []), ([5], [5]), ([4, 6], [4, 6]), ([7], [7]), ([8], [8]), ([9], [9]), ([], []), ([], []), ([12], [12]), ([11, 13], [11, 13]), ([14], [14]), ([10, 15], [10, 15]), ([16], [16]), ([17], [17]), ([3, 18], [3, 18]), ([19, 19, 0, 1, 2, 3, 4, 5, 6, 7, 8, 9, 10, 11, 12, 13, 14, 15, 16, 17, 18, 19], [0, 4, 11, 19])])
def spec_PatternText.B13 : List Nat := [0, 0, 2, 7, 0, 0, 32, 112, 240, 496, 1008, 0, 0, 4096, 14336, 30720, 65520, 131056, 262128, 524287, 1048575]
theorem spec_PatternText.tab13 : rtab .any (opsOf Tryd.f68 13) = spec_PatternText.T13 := by kernel_rfl
theorem spec_PatternText.bits13 : waitsOk spec_PatternText.T13.2 spec_PatternText.B13 = true := by kernel_rfl
def spec_PatternText.T15 : Bool × List (List Nat × List Nat) := (true, [([], []), ([], []), ([1], [1]), ([0, 2], [0, 2]), ([], []), ([], []), ([5], [5]), ([4, 6], [4, 6]), ([7], [7]), ([8], [8]), ([9], [9]), ([], []), ([], []), ([12], [12]), ([11, 13], [11, 13]), ([14], [14]), ([10, 15], [10, 15]), ([16], [16]), ([17], [17]), ([3, 18], [3, 18]), ([19, 19, 0, 1, 2, 3, 4, 5, 6, 7, 8, 9, 10, 11, 12, 13, 14, 15, 16, 17, 18, 19], [0, 4, 11, 19])])
def spec_PatternText.B15 : List Nat := [0, 0, 2, 7, 0, 0, 32, 112, 240, 496, 1008, 0, 0, 4096, 14336, 30720, 65520, 131056, 262128, 524287, 1048575]
theorem spec_PatternText.tab15 : rtab .any (opsOf Tryd.f68 15) = spec_PatternText.T15 := by kernel_rfl
theorem spec_PatternText.bits15 : waitsOk spec_PatternText.T15.2 spec_PatternText.B15 = true := by kernel_rfl
set_option maxHeartbeats 8000000 in
set_option maxRecDepth 100000 in
theorem spec_PatternText.calls (k : Nat) (A0 : Option Addr) (c0 : Nat) (l0 : List Int) (r : ByteArray) (w : World) (hr0 : Kd.C (Kd.int .i64) w A0 l0.length l0) (hc0 : l0.length ≤ c0) (h : spec_PatternText.f k l0 = some r) :
  Calls Tryd.prog 68 #[.slice A0 l0.length c0] w fun e w' => e = .returned (.string r) ∧ Below w.heap.size w w' := by
 have HR0 := QN hr0
 have HC0 := QN hc0
 clear hr0 hc0
 have HB := QN (Below.refl w.heap.size w)
 have H : ((spec_IsPattern.f k l0).bind fun t302 => (if t302 = true then (spec_PatternText.l0 k l0 (([] : List ByteArray)) 0) else (some (⟨#[]⟩ : ByteArray)))) = some r := h
 clear h
 replace H := QO.mp H
 obtain ⟨t302,A20,H⟩ := H
 have A2 := QN A20
 clear A20
 by_cases c3 : t302 = true
 ·subst c3
  rw [if_pos rfl] at H
  obtain ⟨y303,hy303⟩ : ∃ y_ : List ByteArray,y_ = (([] : List ByteArray)) := ⟨_,rfl⟩
  replace H : (spec_PatternText.l0 k l0 y303 0) = some r := by first | (rw [hy303]; with_reducible exact H) | (have H2_ := (Option.bind_some _ _).symm.trans H; rw [hy303]; with_reducible exact H2_) | (have H2_ := (Option.bind_some _ _).symm.trans H; with_reducible exact H2_) | with_reducible exact H | (rw [hy303]; exact H) | exact H
  have Ny303 := QN hy303
  clear hy303
  have H' := QN H
  clear H
  go_enter Tryd.func68,Tryd.ntmps68
  go_wp2_with (first | ((with_reducible refine gate_callee (f := 84) rfl ?_); refine goesL_ (some 7) rfl rfl Tryd.func84 (by kernel_rfl) rfl #[.slice A0 l0.length c0] rfl (by (try simp only [List.map_toArray,List.map_cons,List.map_nil]); first | done | rfl | (simp only [List.length_drop,List.length_take]; rfl)) ?_; (with_reducible refine (spec_IsPattern.calls k _ _ l0 true _ ?side1 ?side2 A2.out).mono ?_); (case side1 => repeat (first | exact HR0.out | (with_reducible refine Kd.C_alloc ?_ _) | (with_reducible refine Kd.C_drewN ?_ _) | (with_reducible refine Kd.C_drew ?_))); (case side2 => exact HC0.out); rintro e w' ⟨rfl,⟨nd,rfl⟩⟩; refine ⟨_,rfl,?_⟩) | ((with_reducible refine gate_dst (N := 9) rfl ?_); refine Kd.R_lit Kd.string _ 9 ?hg (N := 9) ?hd (xs := ([] : List ByteArray)) (inner := []) (ok := fun _ => True) (okp := fun _ => True) ?hr ?hp (fun _ hk => hk) trivial (Below.refl _ _) (Nat.le_refl _) (by simp) ?_; (case hd => rfl); (case hg => rfl); (case hr => first | (go_simp; done) | (go_simp; rfl)); (case hp => exact (Reps.none _ _)); intro v304 w4 ho5 hb hg_ hnew_; clear hg_ hnew_; (first | rw [← Ny303.out] at ho5 | (simp only [Int.reduceToNat] at ho5; rw [← Ny303.out] at ho5)); have n0_ := QN (Kd.R_lower ho5 (below_size (by repeat (first | (with_reducible first | exact HB.out | apply QD | apply QB | apply QC) | exact HB.out)))); have n1_ := QN (below_step (by repeat (first | (with_reducible first | exact HB.out | apply QD | apply QB | apply QC) | exact HB.out)) hb); clear HB; revert n0_ n1_; intro HO305 HB; clear hb ho5))
  go_loopg [3,4] k (fun kq v3 v4 w' => ∃ (x3_1 : List ByteArray) (x4_1 : Int),v4 = .int .i64 x4_1 ∧ Aside0 (spec_PatternText.l0 kq l0 x3_1 x4_1 = some r) ∧ Aside0 (kq ≤ k) ∧ Aside0 (Kd.R Kd.string 9 w' w.heap.size (fun _ => True) v3 x3_1) ∧ Aside0 (Below w.heap.size w w'))
  case atStart => exact ⟨(y303),(0),(by first | rfl | (simp; done) | (simp [*]; done)),H',⟨Nat.le_refl _⟩,⟨by (with_reducible repeat (first | apply Kd.R_alloc | apply Kd.R_drewN | apply Kd.R_drew)); exact HO305.out⟩,⟨by repeat (first | (with_reducible first | exact HB.out | apply QD | apply QB | apply QC) | exact HB.out)⟩⟩
  case round =>
   clear H'
   try clear p2
   try clear c3
   obtain ⟨x3_1,x4_1,rfl,HA,HK1,HO_3,HB⟩ := hrel
   cases gk with
   | zero => exact absurd HA.out (by simp [spec_PatternText.l0])
   | succ k1 =>
    have H := HA.out
    clear HA
    simp only [spec_PatternText.l0] at H
    by_cases c6 : x4_1 < (l0.length : Int)
    ·rw [if_pos c6] at H
     have c6b0 : decide (x4_1 < (l0.length : Int)) = true := decide_eq_true c6
     clear c6
     by_cases c7 : 0 ≤ x4_1
     ·rw [if_pos c7] at H
      have c7b0 : decide (0 ≤ x4_1) = true := decide_eq_true c7
      clear c7
      by_cases c8 : (rd l0 x4_1) = (-1)
      ·rw [if_pos c8] at H
       have c8b0 : ((rd l0 x4_1) == (-1)) = true := beq_iff_eq.mpr c8
       have c8b1 : ((rd l0 x4_1) != (-1)) = false := bne_eq_false_iff_eq.mpr c8
       clear c8
       obtain ⟨ji9,hji9⟩ : ∃ j_ : Int,(wrap64 ((x3_1.length : Int) - 1)) = j_ := ⟨_,rfl⟩
       replace H : (if 0 ≤ (ji9) then (if (ji9) < (x3_1.length : Int) then (if 1 + (rdOf ByteArray.empty x3_1 (ji9)).size ≤ 9223372036854775807 then (spec_PatternText.l0 k1 l0 (x3_1.set ((ji9) : Int).toNat ((⟨#[33]⟩ : ByteArray) ++ (rdOf ByteArray.empty x3_1 (ji9)))) (wrap64 (x4_1 + 1))) else (none)) else (none)) else (none)) = some r := by first | (rw [hji9] at H; exact H) | (simp only [hji9] at H ⊢; exact H)
       have hji9w : (IntKind.i64.wrap ((x3_1.length : Int) - 1)) = ji9 := (QG _).trans hji9
       by_cases c10 : 0 ≤ (ji9)
       ·rw [if_pos c10] at H
        have c10b0 : decide (0 ≤ (ji9)) = true := decide_eq_true c10
        clear c10
        by_cases c11 : (ji9) < (x3_1.length : Int)
        ·rw [if_pos c11] at H
         have c11b0 : decide ((ji9) < (x3_1.length : Int)) = true := decide_eq_true c11
         clear c11
         by_cases c12 : 1 + (rdOf ByteArray.empty x3_1 (ji9)).size ≤ 9223372036854775807
         ·rw [if_pos c12] at H
          have c12b0 := eq_true c12
          have c12b1 : decide (1 + (rdOf ByteArray.empty x3_1 (ji9)).size ≤ 9223372036854775807) = true := decide_eq_true c12
          try have c12b2 : (9223372036854775807 < 1 + (rdOf ByteArray.empty x3_1 (ji9)).size) = False := eq_false (Nat.not_lt.2 c12)
          obtain ⟨y309,hy309⟩ : ∃ y_ : List ByteArray,y_ = (x3_1.set ((ji9) : Int).toNat ((⟨#[33]⟩ : ByteArray) ++ (rdOf ByteArray.empty x3_1 (ji9)))) := ⟨_,rfl⟩
          replace H : (spec_PatternText.l0 k1 l0 y309 (wrap64 (x4_1 + 1))) = some r := by first | (rw [hy309]; with_reducible exact H) | (have H2_ := (Option.bind_some _ _).symm.trans H; rw [hy309]; with_reducible exact H2_) | (have H2_ := (Option.bind_some _ _).symm.trans H; with_reducible exact H2_) | with_reducible exact H | (rw [hy309]; exact H) | exact H
          have Ny309 := QN hy309
          clear hy309
          have H' := QN H
          clear H
          obtain ⟨Ao14,co14,eo14⟩ := Kd.R_slice HO_3.out
          subst eo14
          have p307 : 0 ≤ (x4_1 : Int) := of_decide_eq_true (by first | (with_reducible assumption) | assumption)
          have q307 : x4_1 < (l0.length : Int) := of_decide_eq_true (by first | (with_reducible assumption) | assumption)
          obtain ⟨ad307,e307,hx307_0⟩ := Kd.at_int HR0.out x4_1 p307 q307
          cases e307
          replace hx307_0 := (HB.out.cell (World.block_lt_of_cell? w _ hx307_0)).trans hx307_0
          replace p307 := eq_true p307
          replace q307 := eq_true q307
          have p308 : 0 ≤ ((ji9) : Int) := of_decide_eq_true (by first | (with_reducible assumption) | assumption)
          have q308 : (ji9) < (x3_1.length : Int) := of_decide_eq_true (by first | (with_reducible assumption) | assumption)
          obtain ⟨ad308,e308,hx308_0⟩ := Kd.at_string (Kd.R_reads' HO_3.out).2.2 (ji9) p308 q308
          cases e308
          replace p308 := eq_true p308
          replace q308 := eq_true q308
          have p13 : 0 ≤ ((ji9) : Int) := of_decide_eq_true (by first | (with_reducible assumption) | assumption)
          have q13 : ((ji9) : Int) < ((x3_1.length : Int) : Int) := of_decide_eq_true (by first | (with_reducible assumption) | assumption)
          obtain ⟨go13,co13,eo13,gb13,gl13,cl13,HG13⟩ := Kd.R_form HO_3.out (by omega)
          (first | cases eo13 | (injection eo13 with ea_ en_ ec_; (first | subst ea_ | (injection ea_ with ea_; subst ea_)); subst ec_; clear en_))
          have GB13 := QN gb13
          have GG13 := QN HG13
          clear gb13 gl13 HG13
          (first | simp only [add_plain] at hx308_0 | skip)
          obtain ⟨hx13_0,hf13_0⟩ := Kd.R_celln (⟨#[]⟩ : ByteArray) HO_3.out ((ji9) : Int) p13 q13
          replace p13 := eq_true p13
          replace q13 := eq_true q13
          have HP15 := Kd.R_putg HO_3.out ((ji9) : Int) ((⟨#[33]⟩ : ByteArray) ++ (rdOf ByteArray.empty x3_1 (ji9)))
          go_wp2_with (first | ((with_reducible refine gate_store (t := 9) (p := 41) rfl ?_); refine store_event (t := 9) (p := 41) (v := ?vo_w16) (w1 := (wr.setCell ⟨go13,((ji9) : Int).toNat,none⟩ (.string ((⟨#[33]⟩ : ByteArray) ++ (rdOf ByteArray.empty x3_1 (ji9)))))) ?hg ?ho ?hn ?hr ?_; (case ho => rfl); (case hg => rfl); (case hn => rfl); (case hr => first | (go_simp; done) | (go_simp; rfl)); intro w16 hw; have hg : wr.grownBy w16 (some go13) := (by rw [hw]; exact HP15.2); have hp_ : Kd.R Kd.string 9 w16 w.heap.size (fun _ => True) (.slice (some ⟨go13,0,none⟩) x3_1.length co14) y309 := (by rw [hw,Ny309.out]; exact HP15.1); clear HP15; have n0_ := QN (hp_); have n1_ := QN ((by rw [hw]; exact below_set (HB.out) GB13.out : Below w.heap.size w w16)); clear HO_3; clear HB; revert n0_ n1_; intro HO_3 HB; clear hg hw hp_))
          go_roundg k1
          case measure => have := HK1.out; omega
          case rel => exact ⟨(y309),(wrap64 (x4_1 + 1)),(by first | rfl | (simp; done) | (simp [*]; done)),H',⟨by have := HK1.out; omega⟩,⟨by (with_reducible repeat (first | apply Kd.R_alloc | apply Kd.R_drewN | apply Kd.R_drew)); exact HO_3.out⟩,⟨by repeat (first | (with_reducible first | exact HB.out | apply QD | apply QB | apply QC) | exact HB.out)⟩⟩
         ·rw [if_neg c12] at H
          exact absurd H (by simp)
        ·rw [if_neg c11] at H
         exact absurd H (by simp)
       ·rw [if_neg c10] at H
        exact absurd H (by simp)
      ·rw [if_neg c8] at H
       have c8b0 : ((rd l0 x4_1) == (-1)) = false := beq_eq_false_iff_ne.mpr c8
       have c8b1 : ((rd l0 x4_1) != (-1)) = true := bne_iff_ne.mpr c8
       by_cases c17 : (rd l0 x4_1) = (-2)
       ·rw [if_pos c17] at H
        have c17b0 : ((rd l0 x4_1) == (-2)) = true := beq_iff_eq.mpr c17
        have c17b1 : ((rd l0 x4_1) != (-2)) = false := bne_eq_false_iff_eq.mpr c17
        clear c17
        obtain ⟨ji18,hji18⟩ : ∃ j_ : Int,(wrap64 ((x3_1.length : Int) - 2)) = j_ := ⟨_,rfl⟩
        replace H : (if 0 ≤ (ji18) then (if (ji18) < (x3_1.length : Int) then (if 1 + (rdOf ByteArray.empty x3_1 (ji18)).size ≤ 9223372036854775807 then (if ((⟨#[40]⟩ : ByteArray) ++ (rdOf ByteArray.empty x3_1 (ji18))).size + 1 ≤ 9223372036854775807 then (if 0 ≤ (wrap64 ((x3_1.length : Int) - 1)) then (if (wrap64 ((x3_1.length : Int) - 1)) < (x3_1.length : Int) then (if (((⟨#[40]⟩ : ByteArray) ++ (rdOf ByteArray.empty x3_1 (ji18))) ++ (⟨#[38]⟩ : ByteArray)).size + (rdOf ByteArray.empty x3_1 (wrap64 ((x3_1.length : Int) - 1))).size ≤ 9223372036854775807 then (if ((((⟨#[40]⟩ : ByteArray) ++ (rdOf ByteArray.empty x3_1 (ji18))) ++ (⟨#[38]⟩ : ByteArray)) ++ (rdOf ByteArray.empty x3_1 (wrap64 ((x3_1.length : Int) - 1)))).size + 1 ≤ 9223372036854775807 then (if (ji18) ≤ (x3_1.length : Int) then ((some (x3_1.take ((ji18) : Int).toNat : List ByteArray)).bind fun y312 => (if y312.length < 8796093022208 then (spec_PatternText.l0 k1 l0 (y312 ++ [((((⟨#[40]⟩ : ByteArray) ++ (rdOf ByteArray.empty x3_1 (ji18))) ++ (⟨#[38]⟩ : ByteArray)) ++ (rdOf ByteArray.empty x3_1 (wrap64 ((x3_1.length : Int) - 1)))) ++ (⟨#[41]⟩ : ByteArray)]) (wrap64 (x4_1 + 1))) else (none))) else (none)) else (none)) else (none)) else (none)) else (none)) else (none)) else (none)) else (none)) else (none)) = some r := by first | (rw [hji18] at H; exact H) | (simp only [hji18] at H ⊢; exact H)
        have hji18w : (IntKind.i64.wrap ((x3_1.length : Int) - 2)) = ji18 := (QG _).trans hji18
        by_cases c19 : 0 ≤ (ji18)
        ·rw [if_pos c19] at H
         have c19b0 : decide (0 ≤ (ji18)) = true := decide_eq_true c19
         clear c19
         by_cases c20 : (ji18) < (x3_1.length : Int)
         ·rw [if_pos c20] at H
          have c20b0 : decide ((ji18) < (x3_1.length : Int)) = true := decide_eq_true c20
          clear c20
          by_cases c21 : 1 + (rdOf ByteArray.empty x3_1 (ji18)).size ≤ 9223372036854775807
          ·rw [if_pos c21] at H
           have c21b0 := eq_true c21
           have c21b1 : decide (1 + (rdOf ByteArray.empty x3_1 (ji18)).size ≤ 9223372036854775807) = true := decide_eq_true c21
           try have c21b2 : (9223372036854775807 < 1 + (rdOf ByteArray.empty x3_1 (ji18)).size) = False := eq_false (Nat.not_lt.2 c21)
           by_cases c22 : ((⟨#[40]⟩ : ByteArray) ++ (rdOf ByteArray.empty x3_1 (ji18))).size + 1 ≤ 9223372036854775807
           ·rw [if_pos c22] at H
            have c22b0 := eq_true c22
            have c22b1 : decide (((⟨#[40]⟩ : ByteArray) ++ (rdOf ByteArray.empty x3_1 (ji18))).size + 1 ≤ 9223372036854775807) = true := decide_eq_true c22
            try have c22b2 : (9223372036854775807 < ((⟨#[40]⟩ : ByteArray) ++ (rdOf ByteArray.empty x3_1 (ji18))).size + 1) = False := eq_false (Nat.not_lt.2 c22)
            have c22b3 := c22b2
            (try simp only [ByteArray.size_append,ba_size,List.size_toArray,List.length_cons,List.length_nil,Nat.reduceAdd,Nat.zero_add] at c22b3)
            obtain ⟨ji23,hji23⟩ : ∃ j_ : Int,(wrap64 ((x3_1.length : Int) - 1)) = j_ := ⟨_,rfl⟩
            replace H : (if 0 ≤ (ji23) then (if (ji23) < (x3_1.length : Int) then (if (((⟨#[40]⟩ : ByteArray) ++ (rdOf ByteArray.empty x3_1 (ji18))) ++ (⟨#[38]⟩ : ByteArray)).size + (rdOf ByteArray.empty x3_1 (ji23)).size ≤ 9223372036854775807 then (if ((((⟨#[40]⟩ : ByteArray) ++ (rdOf ByteArray.empty x3_1 (ji18))) ++ (⟨#[38]⟩ : ByteArray)) ++ (rdOf ByteArray.empty x3_1 (ji23))).size + 1 ≤ 9223372036854775807 then (if (ji18) ≤ (x3_1.length : Int) then ((some (x3_1.take ((ji18) : Int).toNat : List ByteArray)).bind fun y312 => (if y312.length < 8796093022208 then (spec_PatternText.l0 k1 l0 (y312 ++ [((((⟨#[40]⟩ : ByteArray) ++ (rdOf ByteArray.empty x3_1 (ji18))) ++ (⟨#[38]⟩ : ByteArray)) ++ (rdOf ByteArray.empty x3_1 (ji23))) ++ (⟨#[41]⟩ : ByteArray)]) (wrap64 (x4_1 + 1))) else (none))) else (none)) else (none)) else (none)) else (none)) else (none)) = some r := by first | (rw [hji23] at H; exact H) | (simp only [hji23] at H ⊢; exact H)
            have hji23w : (IntKind.i64.wrap ((x3_1.length : Int) - 1)) = ji23 := (QG _).trans hji23
            by_cases c24 : 0 ≤ (ji23)
            ·rw [if_pos c24] at H
             have c24b0 : decide (0 ≤ (ji23)) = true := decide_eq_true c24
             clear c24
             by_cases c25 : (ji23) < (x3_1.length : Int)
             ·rw [if_pos c25] at H
              have c25b0 : decide ((ji23) < (x3_1.length : Int)) = true := decide_eq_true c25
              clear c25
              by_cases c26 : (((⟨#[40]⟩ : ByteArray) ++ (rdOf ByteArray.empty x3_1 (ji18))) ++ (⟨#[38]⟩ : ByteArray)).size + (rdOf ByteArray.empty x3_1 (ji23)).size ≤ 9223372036854775807
              ·rw [if_pos c26] at H
               have c26b0 := eq_true c26
               have c26b1 : decide ((((⟨#[40]⟩ : ByteArray) ++ (rdOf ByteArray.empty x3_1 (ji18))) ++ (⟨#[38]⟩ : ByteArray)).size + (rdOf ByteArray.empty x3_1 (ji23)).size ≤ 9223372036854775807) = true := decide_eq_true c26
               try have c26b2 : (9223372036854775807 < (((⟨#[40]⟩ : ByteArray) ++ (rdOf ByteArray.empty x3_1 (ji18))) ++ (⟨#[38]⟩ : ByteArray)).size + (rdOf ByteArray.empty x3_1 (ji23)).size) = False := eq_false (Nat.not_lt.2 c26)
               have c26b3 := c26b2
               (try simp only [ByteArray.size_append,ba_size,List.size_toArray,List.length_cons,List.length_nil,Nat.reduceAdd,Nat.zero_add] at c26b3)
               by_cases c27 : ((((⟨#[40]⟩ : ByteArray) ++ (rdOf ByteArray.empty x3_1 (ji18))) ++ (⟨#[38]⟩ : ByteArray)) ++ (rdOf ByteArray.empty x3_1 (ji23))).size + 1 ≤ 9223372036854775807
               ·rw [if_pos c27] at H
                have c27b0 := eq_true c27
                have c27b1 : decide (((((⟨#[40]⟩ : ByteArray) ++ (rdOf ByteArray.empty x3_1 (ji18))) ++ (⟨#[38]⟩ : ByteArray)) ++ (rdOf ByteArray.empty x3_1 (ji23))).size + 1 ≤ 9223372036854775807) = true := decide_eq_true c27
                try have c27b2 : (9223372036854775807 < ((((⟨#[40]⟩ : ByteArray) ++ (rdOf ByteArray.empty x3_1 (ji18))) ++ (⟨#[38]⟩ : ByteArray)) ++ (rdOf ByteArray.empty x3_1 (ji23))).size + 1) = False := eq_false (Nat.not_lt.2 c27)
                have c27b3 := c27b2
                (try simp only [ByteArray.size_append,ba_size,List.size_toArray,List.length_cons,List.length_nil,Nat.reduceAdd,Nat.zero_add] at c27b3)
                by_cases c28 : (ji18) ≤ (x3_1.length : Int)
                ·rw [if_pos c28] at H
                 have c28b0 := eq_true c28
                 have c28b1 : decide ((ji18) ≤ (x3_1.length : Int)) = true := decide_eq_true c28
                 clear c28
                 obtain ⟨y312,hy312⟩ : ∃ y_ : List ByteArray,y_ = (x3_1.take ((ji18) : Int).toNat) := ⟨_,rfl⟩
                 replace H : (if y312.length < 8796093022208 then (spec_PatternText.l0 k1 l0 (y312 ++ [((((⟨#[40]⟩ : ByteArray) ++ (rdOf ByteArray.empty x3_1 (ji18))) ++ (⟨#[38]⟩ : ByteArray)) ++ (rdOf ByteArray.empty x3_1 (ji23))) ++ (⟨#[41]⟩ : ByteArray)]) (wrap64 (x4_1 + 1))) else (none)) = some r := by first | (rw [hy312]; with_reducible exact H) | (have H2_ := (Option.bind_some _ _).symm.trans H; rw [hy312]; with_reducible exact H2_) | (have H2_ := (Option.bind_some _ _).symm.trans H; with_reducible exact H2_) | with_reducible exact H | (rw [hy312]; exact H) | exact H
                 have Ny312 := QN hy312
                 clear hy312
                 by_cases c29 : y312.length < 8796093022208
                 ·rw [if_pos c29] at H
                  have LMc29 := QN c29
                  clear c29
                  obtain ⟨y315,hy315⟩ : ∃ y_ : List ByteArray,y_ = (y312 ++ [((((⟨#[40]⟩ : ByteArray) ++ (rdOf ByteArray.empty x3_1 (ji18))) ++ (⟨#[38]⟩ : ByteArray)) ++ (rdOf ByteArray.empty x3_1 (ji23))) ++ (⟨#[41]⟩ : ByteArray)]) := ⟨_,rfl⟩
                  replace H : (spec_PatternText.l0 k1 l0 y315 (wrap64 (x4_1 + 1))) = some r := by first | (rw [hy315]; with_reducible exact H) | (have H2_ := (Option.bind_some _ _).symm.trans H; rw [hy315]; with_reducible exact H2_) | (have H2_ := (Option.bind_some _ _).symm.trans H; with_reducible exact H2_) | with_reducible exact H | (rw [hy315]; exact H) | exact H
                  have Ny315 := QN hy315
                  clear hy315
                  have H' := QN H
                  clear H
                  obtain ⟨Ao30,co30,eo30⟩ := Kd.R_slice HO_3.out
                  subst eo30
                  have p307 : 0 ≤ (x4_1 : Int) := of_decide_eq_true (by first | (with_reducible assumption) | assumption)
                  have q307 : x4_1 < (l0.length : Int) := of_decide_eq_true (by first | (with_reducible assumption) | assumption)
                  obtain ⟨ad307,e307,hx307_0⟩ := Kd.at_int HR0.out x4_1 p307 q307
                  cases e307
                  replace hx307_0 := (HB.out.cell (World.block_lt_of_cell? w _ hx307_0)).trans hx307_0
                  replace p307 := eq_true p307
                  replace q307 := eq_true q307
                  try go_wp2
                  have n0_ := QN (Kd.R_drew HO_3.out)
                  have n1_ := QN (QC HB.out)
                  clear HO_3
                  clear HB
                  revert n0_ n1_
                  intro HO_3 HB
                  have p310 : 0 ≤ ((ji18) : Int) := of_decide_eq_true (by first | (with_reducible assumption) | assumption)
                  have q310 : (ji18) < (x3_1.length : Int) := of_decide_eq_true (by first | (with_reducible assumption) | assumption)
                  obtain ⟨ad310,e310,hx310_0⟩ := Kd.at_string (Kd.R_reads' HO_3.out).2.2 (ji18) p310 q310
                  cases e310
                  replace p310 := eq_true p310
                  replace q310 := eq_true q310
                  have p311 : 0 ≤ ((ji23) : Int) := of_decide_eq_true (by first | (with_reducible assumption) | assumption)
                  have q311 : (ji23) < (x3_1.length : Int) := of_decide_eq_true (by first | (with_reducible assumption) | assumption)
                  obtain ⟨ad311,e311,hx311_0⟩ := Kd.at_string (Kd.R_reads' HO_3.out).2.2 (ji23) p311 q311
                  obtain rfl : ad310 = ad311 := (by injection e311)
                  replace p311 := eq_true p311
                  replace q311 := eq_true q311
                  have q32 : ((ji18) : Int) ≤ ((x3_1.length : Int) : Int) := of_decide_eq_true (by first | (with_reducible assumption) | assumption)
                  obtain ⟨i032,hi032,_,hsz32,_⟩ := info_parts info9
                  have hcut32 := cut_to (P := Tryd.prog) 36 9 .i64 Tryd.underlying36 hi032 (some ad310) x3_1.length co30 (ji18) (of_decide_eq_true (by first | (with_reducible assumption) | assumption)) q32 (Kd.R_reads' HO_3.out).2.1
                  have hr32 := Kd.R_take (m := ((ji18) : Int).toNat) HO_3.out (by omega)
                  have hy32 : y312.length = ((ji18) : Int).toNat := (by rw [Ny312.out,List.length_take]; omega)
                  rw [← Ny312.out] at hr32
                  rw [← hy32] at hr32 hcut32
                  clear hy32 hi032 hsz32 HO_3
                  have HO314 := QN hr32
                  clear hr32
                  replace q32 := eq_true q32
                  refine start_ (n := 21) (S := fun w' => w'.cell? (ad310.add ((ji18)).toNat) = some (.string (rdOf ByteArray.empty x3_1 (ji18))) ∧ w'.cell? (ad310.add ((ji23)).toNat) = some (.string (rdOf ByteArray.empty x3_1 (ji23)))) (ds := [18,19]) (ab 21 0) (by kernel_rfl) rfl rfl ⟨hx310_0,hx311_0⟩ (fun hHeld => ?_); refine with_tabW spec_PatternText.tab13 spec_PatternText.bits13 (fun HT_ HW_ => ?_)
                  generalize wr.drew = w31 at HB HO314 hx310_0 hx311_0 hHeld ⊢
                  refine QJ (i := 0) (N := some 44) (v := ?_) (a' := ?_) (ab 21 1) rfl rfl (QI HT_.out (by kernel_rfl)) (fun _ _ _ h => h) (Or.inl ⟨by rfl,?_⟩) ?_ ?_
                  rotate_left
                  ·intro w'
                   go_simp
                   with_reducible rfl
                  rotate_left
                  ·simp only [Act.put,QK,QL,QM,QG,QH]
                   rfl
                  refine QJ (i := 1) (N := some 45) (v := ?_) (a' := ?_) (ab 21 3) rfl rfl (QI HT_.out (by kernel_rfl)) (fun _ _ _ h => h) (Or.inl ⟨by rfl,?_⟩) ?_ ?_
                  rotate_left
                  ·intro w'
                   go_simp
                   with_reducible rfl
                  rotate_left
                  ·simp only [Act.put,QK,QL,QM,QG,QH]
                   rfl
                  refine QJ (i := 2) (N := some 46) (v := ?_) (a' := ?_) (ab 21 7) rfl rfl (QI HT_.out (by kernel_rfl)) (fun _ _ _ h => h) (Or.inl ⟨by rfl,?_⟩) ?_ ?_
                  rotate_left
                  ·intro w'
                   go_simp
                   with_reducible rfl
                  rotate_left
                  ·simp only [Act.put,QK,QL,QM,QG,QH]
                   rfl
                  refine QJ (i := 4) (N := some 48) (v := ?_) (a' := ?_) (ab 21 23) rfl rfl (QI HT_.out (by kernel_rfl)) (fun _ _ _ h => h) (Or.inl ⟨by rfl,?_⟩) ?_ ?_
                  rotate_left
                  ·intro w'
                   go_simp
                   with_reducible rfl
                  rotate_left
                  ·simp only [Act.put,QK,QL,QM,QG,QH]
                   rfl
                  refine QJ (i := 5) (N := some 49) (v := ?_) (a' := ?_) (ab 21 55) rfl rfl (QI HT_.out (by kernel_rfl)) (fun _ _ _ h => h) (Or.inl ⟨by rfl,?_⟩) ?_ ?_
                  rotate_left
                  ·intro w'
                   go_simp
                   with_reducible rfl
                  rotate_left
                  ·simp only [Act.put,QK,QL,QM,QG,QH]
                   rfl
                  refine QJ (i := 6) (N := some 50) (v := ?_) (a' := ?_) (ab 21 119) rfl rfl (QI HT_.out (by kernel_rfl)) (fun _ _ _ h => h) (Or.inl ⟨by rfl,?_⟩) ?_ ?_
                  rotate_left
                  ·intro w'
                   go_simp
                   with_reducible rfl
                  rotate_left
                  ·simp only [Act.put,QK,QL,QM,QG,QH]
                   rfl
                  refine QJ (i := 7) (N := some 51) (v := ?_) (a' := ?_) (ab 21 247) rfl rfl (QI HT_.out (by kernel_rfl)) (fun _ _ _ h => h) (Or.inl ⟨by rfl,?_⟩) ?_ ?_
                  rotate_left
                  ·intro w'
                   go_simp
                   with_reducible rfl
                  rotate_left
                  ·simp only [Act.put,QK,QL,QM,QG,QH]
                   rfl
                  refine QJ (i := 11) (N := some 55) (v := ?_) (a' := ?_) (ab 21 2295) rfl rfl (QI HT_.out (by kernel_rfl)) (fun _ _ _ h => h) (Or.inl ⟨by rfl,?_⟩) ?_ ?_
                  rotate_left
                  ·intro w'
                   go_simp
                   with_reducible rfl
                  rotate_left
                  ·simp only [Act.put,QK,QL,QM,QG,QH]
                   rfl
                  refine QJ (i := 12) (N := some 56) (v := ?_) (a' := ?_) (ab 21 6391) rfl rfl (QI HT_.out (by kernel_rfl)) (fun _ _ _ h => h) (Or.inl ⟨by rfl,?_⟩) ?_ ?_
                  rotate_left
                  ·intro w'
                   go_simp
                   with_reducible rfl
                  rotate_left
                  ·simp only [Act.put,QK,QL,QM,QG,QH]
                   rfl
                  refine QJ (i := 13) (N := some 57) (v := ?_) (a' := ?_) (ab 21 14583) rfl rfl (QI HT_.out (by kernel_rfl)) (fun _ _ _ h => h) (Or.inl ⟨by rfl,?_⟩) ?_ ?_
                  rotate_left
                  ·intro w'
                   go_simp
                   with_reducible rfl
                  rotate_left
                  ·simp only [Act.put,QK,QL,QM,QG,QH]
                   rfl
                  refine QJ (i := 14) (N := some 58) (v := ?_) (a' := ?_) (ab 21 30967) rfl rfl (QI HT_.out (by kernel_rfl)) (fun _ _ _ h => h) (Or.inl ⟨by rfl,?_⟩) ?_ ?_
                  rotate_left
                  ·intro w'
                   go_simp
                   with_reducible rfl
                  rotate_left
                  ·simp only [Act.put,QK,QL,QM,QG,QH]
                   rfl
                  refine QJ (i := 3) (N := some 47) (v := ?_) (a' := ?_) (ab 21 30975) rfl rfl (QI HT_.out (by kernel_rfl)) (fun _ _ _ h => h) (Or.inl ⟨by rfl,?_⟩) ?_ ?_
                  rotate_left
                  ·intro w'
                   go_simp
                   with_reducible rfl
                  rotate_left
                  ·simp only [Act.put,QK,QL,QM,QG,QH]
                   rfl
                  refine take_ (i := 8) (N := some 52) (v := ?_) (a' := ?_) (ab 21 31231) rfl rfl (take_ofW HT_.out HW_.out (by kernel_rfl)) (fun _ _ _ h => h) (Or.inl ⟨by rfl,?_⟩) hHeld ?_ ?_
                  rotate_left
                  ·rintro w' ⟨s0,s1⟩
                   go_simp
                   with_reducible rfl
                  rotate_left
                  ·simp only [Act.put,QK,QL,QM,QG,QH]
                   rfl
                  refine QJ (i := 9) (N := some 53) (v := ?_) (a' := ?_) (ab 21 31743) rfl rfl (QI HT_.out (by kernel_rfl)) (fun _ _ _ h => h) (Or.inl ⟨by rfl,?_⟩) ?_ ?_
                  rotate_left
                  ·intro w'
                   go_simp
                   with_reducible rfl
                  rotate_left
                  ·simp only [Act.put,QK,QL,QM,QG,QH]
                   rfl
                  refine QJ (i := 10) (N := some 54) (v := ?_) (a' := ?_) (ab 21 32767) rfl rfl (QI HT_.out (by kernel_rfl)) (fun _ _ _ h => h) (Or.inl ⟨by rfl,?_⟩) ?_ ?_
                  rotate_left
                  ·intro w'
                   go_simp
                   with_reducible rfl
                  rotate_left
                  ·simp only [Act.put,QK,QL,QM,QG,QH]
                   rfl
                  refine take_ (i := 15) (N := some 59) (v := ?_) (a' := ?_) (ab 21 65535) rfl rfl (take_ofW HT_.out HW_.out (by kernel_rfl)) (fun _ _ _ h => h) (Or.inl ⟨by rfl,?_⟩) hHeld ?_ ?_
                  rotate_left
                  ·rintro w' ⟨s0,s1⟩
                   go_simp
                   with_reducible rfl
                  rotate_left
                  ·simp only [Act.put,QK,QL,QM,QG,QH]
                   rfl
                  refine QJ (i := 16) (N := some 60) (v := ?_) (a' := ?_) (ab 21 131071) rfl rfl (QI HT_.out (by kernel_rfl)) (fun _ _ _ h => h) (Or.inl ⟨by rfl,?_⟩) ?_ ?_
                  rotate_left
                  ·intro w'
                   go_simp
                   with_reducible rfl
                  rotate_left
                  ·simp only [Act.put,QK,QL,QM,QG,QH]
                   rfl
                  refine QJ (i := 17) (N := some 61) (v := ?_) (a' := ?_) (ab 21 262143) rfl rfl (QI HT_.out (by kernel_rfl)) (fun _ _ _ h => h) (Or.inl ⟨by rfl,?_⟩) ?_ ?_
                  rotate_left
                  ·intro w'
                   go_simp
                   with_reducible rfl
                  rotate_left
                  ·simp only [Act.put,QK,QL,QM,QG,QH]
                   rfl
                  refine last_ (i := 18) (N := some 62) (ab 21 524287) rfl rfl (one_of HT_.out (by kernel_rfl)) (by decide) (fun K hK => ?_)
                  refine value_ (w1 := ?_) (v := ?_) (by rfl) rfl ?_ ?_
                  rotate_left 2
                  ·go_simp
                   constructor
                   ·rfl
                   ·rfl
                  refine hK.out _ _ ?_
                  clear hK K
                  refine norm_ (a' := ?_) ?_ ?_
                  rotate_left
                  ·show Act.put _ (some 62) _ = _
                   simp only [Act.put,QK,QL,QM,QG,QH]
                   rfl
                  refine last_ (i := 19) (N := some 63) (ab 21 1048575) rfl rfl (one_of HT_.out (by kernel_rfl)) (by decide) (fun K hK => ?_)
                  refine Kd.R_append_step Kd.string (w0 := w) w.heap.size (by rfl) (.tmp 47) (.tmp 62) 36 9 (.string ⟨#[]⟩) 16 rfl Tryd.underlying36 info9 rfl (by decide) (by omega) (.slice (some ad310) y312.length co30) y312 (((((⟨#[40]⟩ : ByteArray) ++ (rdOf ByteArray.empty x3_1 (ji18))) ++ (⟨#[38]⟩ : ByteArray)) ++ (rdOf ByteArray.empty x3_1 (ji23))) ++ (⟨#[41]⟩ : ByteArray)) [.string (((((⟨#[40]⟩ : ByteArray) ++ (rdOf ByteArray.empty x3_1 (ji18))) ++ (⟨#[38]⟩ : ByteArray)) ++ (rdOf ByteArray.empty x3_1 (ji23))) ++ (⟨#[41]⟩ : ByteArray))] (fun _ => True) (fun _ => False) rfl rfl ?aP (fun _ hk => hk.elim) ?aF ?aO ?aB ?aS ?aL ?_
                  (case aP => exact rfl)
                  (case aB => exact (by repeat (first | (with_reducible first | exact HB.out | apply QD | apply QB | apply QC) | exact HB.out)))
                  (case aF => exact (fun _ _ => trivial))
                  (case aO => exact (by (with_reducible repeat (first | apply Kd.R_alloc | apply Kd.R_drewN | apply Kd.R_drew)); exact HO314.out))
                  (case aS => exact (below_size (by repeat (first | (with_reducible first | exact HB.out | apply QD | apply QB | apply QC) | exact HB.out))))
                  (case aL => have := LMc29.out; omega)
                  intro v316 w33 ho hb hg hat
                  rw [← Ny315.out] at ho
                  have n0_ := QN (hb)
                  have n1_ := QN (ho)
                  clear HB
                  clear HO314
                  revert n0_ n1_
                  intro HB HO317
                  clear ho hb hg hat
                  refine hK.out _ _ ?_
                  clear hK K
                  refine norm_ (a' := ?_) ?_ ?_
                  rotate_left
                  ·show Act.put _ (some 63) _ = _
                   simp only [Act.put,QK,QL,QM,QG,QH]
                   rfl
                  refine QJ (i := 20) (N := some 3) (v := ?_) (a' := ?_) (ab 21 2097151) rfl rfl (QI HT_.out (by kernel_rfl)) (fun _ _ _ h => h) (Or.inl ⟨by rfl,?_⟩) ?_ ?_
                  rotate_left
                  ·intro w'
                   go_simp
                   with_reducible rfl
                  rotate_left
                  ·simp only [Act.put,QK,QL,QM,QG,QH]
                   rfl
                  refine done_ (done_of HT_.out (by kernel_rfl)) ?_
                  try go_wp2
                  go_roundg k1
                  case measure => have := HK1.out; omega
                  case rel => exact ⟨(y315),(wrap64 (x4_1 + 1)),(by first | rfl | (simp; done) | (simp [*]; done)),H',⟨by have := HK1.out; omega⟩,⟨by (with_reducible repeat (first | apply Kd.R_alloc | apply Kd.R_drewN | apply Kd.R_drew)); exact HO317.out⟩,⟨by repeat (first | (with_reducible first | exact HB.out | apply QD | apply QB | apply QC) | exact HB.out)⟩⟩
                 ·rw [if_neg c29] at H
                  exact absurd H (by simp)
                ·rw [if_neg c28] at H
                 exact absurd H (by simp)
               ·rw [if_neg c27] at H
                exact absurd H (by simp)
              ·rw [if_neg c26] at H
               exact absurd H (by simp)
             ·rw [if_neg c25] at H
              exact absurd H (by simp)
            ·rw [if_neg c24] at H
             exact absurd H (by simp)
           ·rw [if_neg c22] at H
            exact absurd H (by simp)
          ·rw [if_neg c21] at H
           exact absurd H (by simp)
         ·rw [if_neg c20] at H
          exact absurd H (by simp)
        ·rw [if_neg c19] at H
         exact absurd H (by simp)
       ·rw [if_neg c17] at H
        have c17b0 : ((rd l0 x4_1) == (-2)) = false := beq_eq_false_iff_ne.mpr c17
        have c17b1 : ((rd l0 x4_1) != (-2)) = true := bne_iff_ne.mpr c17
        by_cases c34 : (rd l0 x4_1) = (-3)
        ·rw [if_pos c34] at H
         have c34b0 : ((rd l0 x4_1) == (-3)) = true := beq_iff_eq.mpr c34
         have c34b1 : ((rd l0 x4_1) != (-3)) = false := bne_eq_false_iff_eq.mpr c34
         clear c34
         obtain ⟨ji35,hji35⟩ : ∃ j_ : Int,(wrap64 ((x3_1.length : Int) - 2)) = j_ := ⟨_,rfl⟩
         replace H : (if 0 ≤ (ji35) then (if (ji35) < (x3_1.length : Int) then (if 1 + (rdOf ByteArray.empty x3_1 (ji35)).size ≤ 9223372036854775807 then (if ((⟨#[40]⟩ : ByteArray) ++ (rdOf ByteArray.empty x3_1 (ji35))).size + 1 ≤ 9223372036854775807 then (if 0 ≤ (wrap64 ((x3_1.length : Int) - 1)) then (if (wrap64 ((x3_1.length : Int) - 1)) < (x3_1.length : Int) then (if (((⟨#[40]⟩ : ByteArray) ++ (rdOf ByteArray.empty x3_1 (ji35))) ++ (⟨#[124]⟩ : ByteArray)).size + (rdOf ByteArray.empty x3_1 (wrap64 ((x3_1.length : Int) - 1))).size ≤ 9223372036854775807 then (if ((((⟨#[40]⟩ : ByteArray) ++ (rdOf ByteArray.empty x3_1 (ji35))) ++ (⟨#[124]⟩ : ByteArray)) ++ (rdOf ByteArray.empty x3_1 (wrap64 ((x3_1.length : Int) - 1)))).size + 1 ≤ 9223372036854775807 then (if (ji35) ≤ (x3_1.length : Int) then ((some (x3_1.take ((ji35) : Int).toNat : List ByteArray)).bind fun y320 => (if y320.length < 8796093022208 then (spec_PatternText.l0 k1 l0 (y320 ++ [((((⟨#[40]⟩ : ByteArray) ++ (rdOf ByteArray.empty x3_1 (ji35))) ++ (⟨#[124]⟩ : ByteArray)) ++ (rdOf ByteArray.empty x3_1 (wrap64 ((x3_1.length : Int) - 1)))) ++ (⟨#[41]⟩ : ByteArray)]) (wrap64 (x4_1 + 1))) else (none))) else (none)) else (none)) else (none)) else (none)) else (none)) else (none)) else (none)) else (none)) else (none)) = some r := by first | (rw [hji35] at H; exact H) | (simp only [hji35] at H ⊢; exact H)
         have hji35w : (IntKind.i64.wrap ((x3_1.length : Int) - 2)) = ji35 := (QG _).trans hji35
         by_cases c36 : 0 ≤ (ji35)
         ·rw [if_pos c36] at H
          have c36b0 : decide (0 ≤ (ji35)) = true := decide_eq_true c36
          clear c36
          by_cases c37 : (ji35) < (x3_1.length : Int)
          ·rw [if_pos c37] at H
           have c37b0 : decide ((ji35) < (x3_1.length : Int)) = true := decide_eq_true c37
           clear c37
           by_cases c38 : 1 + (rdOf ByteArray.empty x3_1 (ji35)).size ≤ 9223372036854775807
           ·rw [if_pos c38] at H
            have c38b0 := eq_true c38
            have c38b1 : decide (1 + (rdOf ByteArray.empty x3_1 (ji35)).size ≤ 9223372036854775807) = true := decide_eq_true c38
            try have c38b2 : (9223372036854775807 < 1 + (rdOf ByteArray.empty x3_1 (ji35)).size) = False := eq_false (Nat.not_lt.2 c38)
            by_cases c39 : ((⟨#[40]⟩ : ByteArray) ++ (rdOf ByteArray.empty x3_1 (ji35))).size + 1 ≤ 9223372036854775807
            ·rw [if_pos c39] at H
             have c39b0 := eq_true c39
             have c39b1 : decide (((⟨#[40]⟩ : ByteArray) ++ (rdOf ByteArray.empty x3_1 (ji35))).size + 1 ≤ 9223372036854775807) = true := decide_eq_true c39
             try have c39b2 : (9223372036854775807 < ((⟨#[40]⟩ : ByteArray) ++ (rdOf ByteArray.empty x3_1 (ji35))).size + 1) = False := eq_false (Nat.not_lt.2 c39)
             have c39b3 := c39b2
             (try simp only [ByteArray.size_append,ba_size,List.size_toArray,List.length_cons,List.length_nil,Nat.reduceAdd,Nat.zero_add] at c39b3)
             obtain ⟨ji40,hji40⟩ : ∃ j_ : Int,(wrap64 ((x3_1.length : Int) - 1)) = j_ := ⟨_,rfl⟩
             replace H : (if 0 ≤ (ji40) then (if (ji40) < (x3_1.length : Int) then (if (((⟨#[40]⟩ : ByteArray) ++ (rdOf ByteArray.empty x3_1 (ji35))) ++ (⟨#[124]⟩ : ByteArray)).size + (rdOf ByteArray.empty x3_1 (ji40)).size ≤ 9223372036854775807 then (if ((((⟨#[40]⟩ : ByteArray) ++ (rdOf ByteArray.empty x3_1 (ji35))) ++ (⟨#[124]⟩ : ByteArray)) ++ (rdOf ByteArray.empty x3_1 (ji40))).size + 1 ≤ 9223372036854775807 then (if (ji35) ≤ (x3_1.length : Int) then ((some (x3_1.take ((ji35) : Int).toNat : List ByteArray)).bind fun y320 => (if y320.length < 8796093022208 then (spec_PatternText.l0 k1 l0 (y320 ++ [((((⟨#[40]⟩ : ByteArray) ++ (rdOf ByteArray.empty x3_1 (ji35))) ++ (⟨#[124]⟩ : ByteArray)) ++ (rdOf ByteArray.empty x3_1 (ji40))) ++ (⟨#[41]⟩ : ByteArray)]) (wrap64 (x4_1 + 1))) else (none))) else (none)) else (none)) else (none)) else (none)) else (none)) = some r := by first | (rw [hji40] at H; exact H) | (simp only [hji40] at H ⊢; exact H)
             have hji40w : (IntKind.i64.wrap ((x3_1.length : Int) - 1)) = ji40 := (QG _).trans hji40
             by_cases c41 : 0 ≤ (ji40)
             ·rw [if_pos c41] at H
              have c41b0 : decide (0 ≤ (ji40)) = true := decide_eq_true c41
              clear c41
              by_cases c42 : (ji40) < (x3_1.length : Int)
              ·rw [if_pos c42] at H
               have c42b0 : decide ((ji40) < (x3_1.length : Int)) = true := decide_eq_true c42
               clear c42
               by_cases c43 : (((⟨#[40]⟩ : ByteArray) ++ (rdOf ByteArray.empty x3_1 (ji35))) ++ (⟨#[124]⟩ : ByteArray)).size + (rdOf ByteArray.empty x3_1 (ji40)).size ≤ 9223372036854775807
               ·rw [if_pos c43] at H
                have c43b0 := eq_true c43
                have c43b1 : decide ((((⟨#[40]⟩ : ByteArray) ++ (rdOf ByteArray.empty x3_1 (ji35))) ++ (⟨#[124]⟩ : ByteArray)).size + (rdOf ByteArray.empty x3_1 (ji40)).size ≤ 9223372036854775807) = true := decide_eq_true c43
                try have c43b2 : (9223372036854775807 < (((⟨#[40]⟩ : ByteArray) ++ (rdOf ByteArray.empty x3_1 (ji35))) ++ (⟨#[124]⟩ : ByteArray)).size + (rdOf ByteArray.empty x3_1 (ji40)).size) = False := eq_false (Nat.not_lt.2 c43)
                have c43b3 := c43b2
                (try simp only [ByteArray.size_append,ba_size,List.size_toArray,List.length_cons,List.length_nil,Nat.reduceAdd,Nat.zero_add] at c43b3)
                by_cases c44 : ((((⟨#[40]⟩ : ByteArray) ++ (rdOf ByteArray.empty x3_1 (ji35))) ++ (⟨#[124]⟩ : ByteArray)) ++ (rdOf ByteArray.empty x3_1 (ji40))).size + 1 ≤ 9223372036854775807
                ·rw [if_pos c44] at H
                 have c44b0 := eq_true c44
                 have c44b1 : decide (((((⟨#[40]⟩ : ByteArray) ++ (rdOf ByteArray.empty x3_1 (ji35))) ++ (⟨#[124]⟩ : ByteArray)) ++ (rdOf ByteArray.empty x3_1 (ji40))).size + 1 ≤ 9223372036854775807) = true := decide_eq_true c44
                 try have c44b2 : (9223372036854775807 < ((((⟨#[40]⟩ : ByteArray) ++ (rdOf ByteArray.empty x3_1 (ji35))) ++ (⟨#[124]⟩ : ByteArray)) ++ (rdOf ByteArray.empty x3_1 (ji40))).size + 1) = False := eq_false (Nat.not_lt.2 c44)
                 have c44b3 := c44b2
                 (try simp only [ByteArray.size_append,ba_size,List.size_toArray,List.length_cons,List.length_nil,Nat.reduceAdd,Nat.zero_add] at c44b3)
                 by_cases c45 : (ji35) ≤ (x3_1.length : Int)
                 ·rw [if_pos c45] at H
                  have c45b0 := eq_true c45
                  have c45b1 : decide ((ji35) ≤ (x3_1.length : Int)) = true := decide_eq_true c45
                  clear c45
                  obtain ⟨y320,hy320⟩ : ∃ y_ : List ByteArray,y_ = (x3_1.take ((ji35) : Int).toNat) := ⟨_,rfl⟩
                  replace H : (if y320.length < 8796093022208 then (spec_PatternText.l0 k1 l0 (y320 ++ [((((⟨#[40]⟩ : ByteArray) ++ (rdOf ByteArray.empty x3_1 (ji35))) ++ (⟨#[124]⟩ : ByteArray)) ++ (rdOf ByteArray.empty x3_1 (ji40))) ++ (⟨#[41]⟩ : ByteArray)]) (wrap64 (x4_1 + 1))) else (none)) = some r := by first | (rw [hy320]; with_reducible exact H) | (have H2_ := (Option.bind_some _ _).symm.trans H; rw [hy320]; with_reducible exact H2_) | (have H2_ := (Option.bind_some _ _).symm.trans H; with_reducible exact H2_) | with_reducible exact H | (rw [hy320]; exact H) | exact H
                  have Ny320 := QN hy320
                  clear hy320
                  by_cases c46 : y320.length < 8796093022208
                  ·rw [if_pos c46] at H
                   have LMc46 := QN c46
                   clear c46
                   obtain ⟨y323,hy323⟩ : ∃ y_ : List ByteArray,y_ = (y320 ++ [((((⟨#[40]⟩ : ByteArray) ++ (rdOf ByteArray.empty x3_1 (ji35))) ++ (⟨#[124]⟩ : ByteArray)) ++ (rdOf ByteArray.empty x3_1 (ji40))) ++ (⟨#[41]⟩ : ByteArray)]) := ⟨_,rfl⟩
                   replace H : (spec_PatternText.l0 k1 l0 y323 (wrap64 (x4_1 + 1))) = some r := by first | (rw [hy323]; with_reducible exact H) | (have H2_ := (Option.bind_some _ _).symm.trans H; rw [hy323]; with_reducible exact H2_) | (have H2_ := (Option.bind_some _ _).symm.trans H; with_reducible exact H2_) | with_reducible exact H | (rw [hy323]; exact H) | exact H
                   have Ny323 := QN hy323
                   clear hy323
                   have H' := QN H
                   clear H
                   obtain ⟨Ao47,co47,eo47⟩ := Kd.R_slice HO_3.out
                   subst eo47
                   have p307 : 0 ≤ (x4_1 : Int) := of_decide_eq_true (by first | (with_reducible assumption) | assumption)
                   have q307 : x4_1 < (l0.length : Int) := of_decide_eq_true (by first | (with_reducible assumption) | assumption)
                   obtain ⟨ad307,e307,hx307_0⟩ := Kd.at_int HR0.out x4_1 p307 q307
                   cases e307
                   replace hx307_0 := (HB.out.cell (World.block_lt_of_cell? w _ hx307_0)).trans hx307_0
                   replace p307 := eq_true p307
                   replace q307 := eq_true q307
                   try go_wp2
                   have n0_ := QN (Kd.R_drew HO_3.out)
                   have n1_ := QN (QC HB.out)
                   clear HO_3
                   clear HB
                   revert n0_ n1_
                   intro HO_3 HB
                   have p318 : 0 ≤ ((ji35) : Int) := of_decide_eq_true (by first | (with_reducible assumption) | assumption)
                   have q318 : (ji35) < (x3_1.length : Int) := of_decide_eq_true (by first | (with_reducible assumption) | assumption)
                   obtain ⟨ad318,e318,hx318_0⟩ := Kd.at_string (Kd.R_reads' HO_3.out).2.2 (ji35) p318 q318
                   cases e318
                   replace p318 := eq_true p318
                   replace q318 := eq_true q318
                   have p319 : 0 ≤ ((ji40) : Int) := of_decide_eq_true (by first | (with_reducible assumption) | assumption)
                   have q319 : (ji40) < (x3_1.length : Int) := of_decide_eq_true (by first | (with_reducible assumption) | assumption)
                   obtain ⟨ad319,e319,hx319_0⟩ := Kd.at_string (Kd.R_reads' HO_3.out).2.2 (ji40) p319 q319
                   obtain rfl : ad318 = ad319 := (by injection e319)
                   replace p319 := eq_true p319
                   replace q319 := eq_true q319
                   have q49 : ((ji35) : Int) ≤ ((x3_1.length : Int) : Int) := of_decide_eq_true (by first | (with_reducible assumption) | assumption)
                   obtain ⟨i049,hi049,_,hsz49,_⟩ := info_parts info9
                   have hcut49 := cut_to (P := Tryd.prog) 36 9 .i64 Tryd.underlying36 hi049 (some ad318) x3_1.length co47 (ji35) (of_decide_eq_true (by first | (with_reducible assumption) | assumption)) q49 (Kd.R_reads' HO_3.out).2.1
                   have hr49 := Kd.R_take (m := ((ji35) : Int).toNat) HO_3.out (by omega)
                   have hy49 : y320.length = ((ji35) : Int).toNat := (by rw [Ny320.out,List.length_take]; omega)
                   rw [← Ny320.out] at hr49
                   rw [← hy49] at hr49 hcut49
                   clear hy49 hi049 hsz49 HO_3
                   have HO322 := QN hr49
                   clear hr49
                   replace q49 := eq_true q49
                   refine start_ (n := 21) (S := fun w' => w'.cell? (ad318.add ((ji35)).toNat) = some (.string (rdOf ByteArray.empty x3_1 (ji35))) ∧ w'.cell? (ad318.add ((ji40)).toNat) = some (.string (rdOf ByteArray.empty x3_1 (ji40)))) (ds := [18,19]) (ab 21 0) (by kernel_rfl) rfl rfl ⟨hx318_0,hx319_0⟩ (fun hHeld => ?_); refine with_tabW spec_PatternText.tab15 spec_PatternText.bits15 (fun HT_ HW_ => ?_)
                   generalize wr.drew = w48 at HB HO322 hx318_0 hx319_0 hHeld ⊢
                   refine QJ (i := 0) (N := some 66) (v := ?_) (a' := ?_) (ab 21 1) rfl rfl (QI HT_.out (by kernel_rfl)) (fun _ _ _ h => h) (Or.inl ⟨by rfl,?_⟩) ?_ ?_
                   rotate_left
                   ·intro w'
                    go_simp
                    with_reducible rfl
                   rotate_left
                   ·simp only [Act.put,QK,QL,QM,QG,QH]
                    rfl
                   refine QJ (i := 1) (N := some 67) (v := ?_) (a' := ?_) (ab 21 3) rfl rfl (QI HT_.out (by kernel_rfl)) (fun _ _ _ h => h) (Or.inl ⟨by rfl,?_⟩) ?_ ?_
                   rotate_left
                   ·intro w'
                    go_simp
                    with_reducible rfl
                   rotate_left
                   ·simp only [Act.put,QK,QL,QM,QG,QH]
                    rfl
                   refine QJ (i := 2) (N := some 68) (v := ?_) (a' := ?_) (ab 21 7) rfl rfl (QI HT_.out (by kernel_rfl)) (fun _ _ _ h => h) (Or.inl ⟨by rfl,?_⟩) ?_ ?_
                   rotate_left
                   ·intro w'
                    go_simp
                    with_reducible rfl
                   rotate_left
                   ·simp only [Act.put,QK,QL,QM,QG,QH]
                    rfl
                   refine QJ (i := 4) (N := some 70) (v := ?_) (a' := ?_) (ab 21 23) rfl rfl (QI HT_.out (by kernel_rfl)) (fun _ _ _ h => h) (Or.inl ⟨by rfl,?_⟩) ?_ ?_
                   rotate_left
                   ·intro w'
                    go_simp
                    with_reducible rfl
                   rotate_left
                   ·simp only [Act.put,QK,QL,QM,QG,QH]
                    rfl
                   refine QJ (i := 5) (N := some 71) (v := ?_) (a' := ?_) (ab 21 55) rfl rfl (QI HT_.out (by kernel_rfl)) (fun _ _ _ h => h) (Or.inl ⟨by rfl,?_⟩) ?_ ?_
                   rotate_left
                   ·intro w'
                    go_simp
                    with_reducible rfl
                   rotate_left
                   ·simp only [Act.put,QK,QL,QM,QG,QH]
                    rfl
                   refine QJ (i := 6) (N := some 72) (v := ?_) (a' := ?_) (ab 21 119) rfl rfl (QI HT_.out (by kernel_rfl)) (fun _ _ _ h => h) (Or.inl ⟨by rfl,?_⟩) ?_ ?_
                   rotate_left
                   ·intro w'
                    go_simp
                    with_reducible rfl
                   rotate_left
                   ·simp only [Act.put,QK,QL,QM,QG,QH]
                    rfl
                   refine QJ (i := 7) (N := some 73) (v := ?_) (a' := ?_) (ab 21 247) rfl rfl (QI HT_.out (by kernel_rfl)) (fun _ _ _ h => h) (Or.inl ⟨by rfl,?_⟩) ?_ ?_
                   rotate_left
                   ·intro w'
                    go_simp
                    with_reducible rfl
                   rotate_left
                   ·simp only [Act.put,QK,QL,QM,QG,QH]
                    rfl
                   refine QJ (i := 11) (N := some 77) (v := ?_) (a' := ?_) (ab 21 2295) rfl rfl (QI HT_.out (by kernel_rfl)) (fun _ _ _ h => h) (Or.inl ⟨by rfl,?_⟩) ?_ ?_
                   rotate_left
                   ·intro w'
                    go_simp
                    with_reducible rfl
                   rotate_left
                   ·simp only [Act.put,QK,QL,QM,QG,QH]
                    rfl
                   refine QJ (i := 12) (N := some 78) (v := ?_) (a' := ?_) (ab 21 6391) rfl rfl (QI HT_.out (by kernel_rfl)) (fun _ _ _ h => h) (Or.inl ⟨by rfl,?_⟩) ?_ ?_
                   rotate_left
                   ·intro w'
                    go_simp
                    with_reducible rfl
                   rotate_left
                   ·simp only [Act.put,QK,QL,QM,QG,QH]
                    rfl
                   refine QJ (i := 13) (N := some 79) (v := ?_) (a' := ?_) (ab 21 14583) rfl rfl (QI HT_.out (by kernel_rfl)) (fun _ _ _ h => h) (Or.inl ⟨by rfl,?_⟩) ?_ ?_
                   rotate_left
                   ·intro w'
                    go_simp
                    with_reducible rfl
                   rotate_left
                   ·simp only [Act.put,QK,QL,QM,QG,QH]
                    rfl
                   refine QJ (i := 14) (N := some 80) (v := ?_) (a' := ?_) (ab 21 30967) rfl rfl (QI HT_.out (by kernel_rfl)) (fun _ _ _ h => h) (Or.inl ⟨by rfl,?_⟩) ?_ ?_
                   rotate_left
                   ·intro w'
                    go_simp
                    with_reducible rfl
                   rotate_left
                   ·simp only [Act.put,QK,QL,QM,QG,QH]
                    rfl
                   refine QJ (i := 3) (N := some 69) (v := ?_) (a' := ?_) (ab 21 30975) rfl rfl (QI HT_.out (by kernel_rfl)) (fun _ _ _ h => h) (Or.inl ⟨by rfl,?_⟩) ?_ ?_
                   rotate_left
                   ·intro w'
                    go_simp
                    with_reducible rfl
                   rotate_left
                   ·simp only [Act.put,QK,QL,QM,QG,QH]
                    rfl
                   refine take_ (i := 8) (N := some 74) (v := ?_) (a' := ?_) (ab 21 31231) rfl rfl (take_ofW HT_.out HW_.out (by kernel_rfl)) (fun _ _ _ h => h) (Or.inl ⟨by rfl,?_⟩) hHeld ?_ ?_
                   rotate_left
                   ·rintro w' ⟨s0,s1⟩
                    go_simp
                    with_reducible rfl
                   rotate_left
                   ·simp only [Act.put,QK,QL,QM,QG,QH]
                    rfl
                   refine QJ (i := 9) (N := some 75) (v := ?_) (a' := ?_) (ab 21 31743) rfl rfl (QI HT_.out (by kernel_rfl)) (fun _ _ _ h => h) (Or.inl ⟨by rfl,?_⟩) ?_ ?_
                   rotate_left
                   ·intro w'
                    go_simp
                    with_reducible rfl
                   rotate_left
                   ·simp only [Act.put,QK,QL,QM,QG,QH]
                    rfl
                   refine QJ (i := 10) (N := some 76) (v := ?_) (a' := ?_) (ab 21 32767) rfl rfl (QI HT_.out (by kernel_rfl)) (fun _ _ _ h => h) (Or.inl ⟨by rfl,?_⟩) ?_ ?_
                   rotate_left
                   ·intro w'
                    go_simp
                    with_reducible rfl
                   rotate_left
                   ·simp only [Act.put,QK,QL,QM,QG,QH]
                    rfl
                   refine take_ (i := 15) (N := some 81) (v := ?_) (a' := ?_) (ab 21 65535) rfl rfl (take_ofW HT_.out HW_.out (by kernel_rfl)) (fun _ _ _ h => h) (Or.inl ⟨by rfl,?_⟩) hHeld ?_ ?_
                   rotate_left
                   ·rintro w' ⟨s0,s1⟩
                    go_simp
                    with_reducible rfl
                   rotate_left
                   ·simp only [Act.put,QK,QL,QM,QG,QH]
                    rfl
                   refine QJ (i := 16) (N := some 82) (v := ?_) (a' := ?_) (ab 21 131071) rfl rfl (QI HT_.out (by kernel_rfl)) (fun _ _ _ h => h) (Or.inl ⟨by rfl,?_⟩) ?_ ?_
                   rotate_left
                   ·intro w'
                    go_simp
                    with_reducible rfl
                   rotate_left
                   ·simp only [Act.put,QK,QL,QM,QG,QH]
                    rfl
                   refine QJ (i := 17) (N := some 83) (v := ?_) (a' := ?_) (ab 21 262143) rfl rfl (QI HT_.out (by kernel_rfl)) (fun _ _ _ h => h) (Or.inl ⟨by rfl,?_⟩) ?_ ?_
                   rotate_left
                   ·intro w'
                    go_simp
                    with_reducible rfl
                   rotate_left
                   ·simp only [Act.put,QK,QL,QM,QG,QH]
                    rfl
                   refine last_ (i := 18) (N := some 84) (ab 21 524287) rfl rfl (one_of HT_.out (by kernel_rfl)) (by decide) (fun K hK => ?_)
                   refine value_ (w1 := ?_) (v := ?_) (by rfl) rfl ?_ ?_
                   rotate_left 2
                   ·go_simp
                    constructor
                    ·rfl
                    ·rfl
                   refine hK.out _ _ ?_
                   clear hK K
                   refine norm_ (a' := ?_) ?_ ?_
                   rotate_left
                   ·show Act.put _ (some 84) _ = _
                    simp only [Act.put,QK,QL,QM,QG,QH]
                    rfl
                   refine last_ (i := 19) (N := some 85) (ab 21 1048575) rfl rfl (one_of HT_.out (by kernel_rfl)) (by decide) (fun K hK => ?_)
                   refine Kd.R_append_step Kd.string (w0 := w) w.heap.size (by rfl) (.tmp 69) (.tmp 84) 36 9 (.string ⟨#[]⟩) 16 rfl Tryd.underlying36 info9 rfl (by decide) (by omega) (.slice (some ad318) y320.length co47) y320 (((((⟨#[40]⟩ : ByteArray) ++ (rdOf ByteArray.empty x3_1 (ji35))) ++ (⟨#[124]⟩ : ByteArray)) ++ (rdOf ByteArray.empty x3_1 (ji40))) ++ (⟨#[41]⟩ : ByteArray)) [.string (((((⟨#[40]⟩ : ByteArray) ++ (rdOf ByteArray.empty x3_1 (ji35))) ++ (⟨#[124]⟩ : ByteArray)) ++ (rdOf ByteArray.empty x3_1 (ji40))) ++ (⟨#[41]⟩ : ByteArray))] (fun _ => True) (fun _ => False) rfl rfl ?aP (fun _ hk => hk.elim) ?aF ?aO ?aB ?aS ?aL ?_
                   (case aP => exact rfl)
                   (case aB => exact (by repeat (first | (with_reducible first | exact HB.out | apply QD | apply QB | apply QC) | exact HB.out)))
                   (case aF => exact (fun _ _ => trivial))
                   (case aO => exact (by (with_reducible repeat (first | apply Kd.R_alloc | apply Kd.R_drewN | apply Kd.R_drew)); exact HO322.out))
                   (case aS => exact (below_size (by repeat (first | (with_reducible first | exact HB.out | apply QD | apply QB | apply QC) | exact HB.out))))
                   (case aL => have := LMc46.out; omega)
                   intro v324 w50 ho hb hg hat
                   rw [← Ny323.out] at ho
                   have n0_ := QN (hb)
                   have n1_ := QN (ho)
                   clear HB
                   clear HO322
                   revert n0_ n1_
                   intro HB HO325
                   clear ho hb hg hat
                   refine hK.out _ _ ?_
                   clear hK K
                   refine norm_ (a' := ?_) ?_ ?_
                   rotate_left
                   ·show Act.put _ (some 85) _ = _
                    simp only [Act.put,QK,QL,QM,QG,QH]
                    rfl
                   refine QJ (i := 20) (N := some 3) (v := ?_) (a' := ?_) (ab 21 2097151) rfl rfl (QI HT_.out (by kernel_rfl)) (fun _ _ _ h => h) (Or.inl ⟨by rfl,?_⟩) ?_ ?_
                   rotate_left
                   ·intro w'
                    go_simp
                    with_reducible rfl
                   rotate_left
                   ·simp only [Act.put,QK,QL,QM,QG,QH]
                    rfl
                   refine done_ (done_of HT_.out (by kernel_rfl)) ?_
                   try go_wp2
                   go_roundg k1
                   case measure => have := HK1.out; omega
                   case rel => exact ⟨(y323),(wrap64 (x4_1 + 1)),(by first | rfl | (simp; done) | (simp [*]; done)),H',⟨by have := HK1.out; omega⟩,⟨by (with_reducible repeat (first | apply Kd.R_alloc | apply Kd.R_drewN | apply Kd.R_drew)); exact HO325.out⟩,⟨by repeat (first | (with_reducible first | exact HB.out | apply QD | apply QB | apply QC) | exact HB.out)⟩⟩
                  ·rw [if_neg c46] at H
                   exact absurd H (by simp)
                 ·rw [if_neg c45] at H
                  exact absurd H (by simp)
                ·rw [if_neg c44] at H
                 exact absurd H (by simp)
               ·rw [if_neg c43] at H
                exact absurd H (by simp)
              ·rw [if_neg c42] at H
               exact absurd H (by simp)
             ·rw [if_neg c41] at H
              exact absurd H (by simp)
            ·rw [if_neg c39] at H
             exact absurd H (by simp)
           ·rw [if_neg c38] at H
            exact absurd H (by simp)
          ·rw [if_neg c37] at H
           exact absurd H (by simp)
         ·rw [if_neg c36] at H
          exact absurd H (by simp)
        ·rw [if_neg c34] at H
         have c34b0 : ((rd l0 x4_1) == (-3)) = false := beq_eq_false_iff_ne.mpr c34
         have c34b1 : ((rd l0 x4_1) != (-3)) = true := bne_iff_ne.mpr c34
         replace H := QO.mp H
         obtain ⟨t327,A510,H⟩ := H
         have A51 := QN A510
         clear A510
         by_cases c52 : x3_1.length < 8796093022208
         ·rw [if_pos c52] at H
          have LMc52 := QN c52
          clear c52
          obtain ⟨y328,hy328⟩ : ∃ y_ : List ByteArray,y_ = (x3_1 ++ [t327]) := ⟨_,rfl⟩
          replace H : (spec_PatternText.l0 k1 l0 y328 (wrap64 (x4_1 + 1))) = some r := by first | (rw [hy328]; with_reducible exact H) | (have H2_ := (Option.bind_some _ _).symm.trans H; rw [hy328]; with_reducible exact H2_) | (have H2_ := (Option.bind_some _ _).symm.trans H; with_reducible exact H2_) | with_reducible exact H | (rw [hy328]; exact H) | exact H
          have Ny328 := QN hy328
          clear hy328
          have H' := QN H
          clear H
          obtain ⟨Ao53,co53,eo53⟩ := Kd.R_slice HO_3.out
          subst eo53
          have p307 : 0 ≤ (x4_1 : Int) := of_decide_eq_true (by first | (with_reducible assumption) | assumption)
          have q307 : x4_1 < (l0.length : Int) := of_decide_eq_true (by first | (with_reducible assumption) | assumption)
          obtain ⟨ad307,e307,hx307_0⟩ := Kd.at_int HR0.out x4_1 p307 q307
          cases e307
          replace hx307_0 := (HB.out.cell (World.block_lt_of_cell? w _ hx307_0)).trans hx307_0
          replace p307 := eq_true p307
          replace q307 := eq_true q307
          have p326 : 0 ≤ (x4_1 : Int) := of_decide_eq_true (by first | (with_reducible assumption) | assumption)
          have q326 : x4_1 < (l0.length : Int) := of_decide_eq_true (by first | (with_reducible assumption) | assumption)
          obtain ⟨ad326,e326,hx326_0⟩ := Kd.at_int HR0.out x4_1 p326 q326
          obtain rfl : ad307 = ad326 := (by injection e326)
          replace hx326_0 := (HB.out.cell (World.block_lt_of_cell? w _ hx326_0)).trans hx326_0
          replace p326 := eq_true p326
          replace q326 := eq_true q326
          go_wp2_with (first | ((with_reducible refine gate_callee (f := 85) rfl ?_); refine goesL_ (some 27) rfl rfl Tryd.func85 (by kernel_rfl) rfl #[.int .i64 (rd l0 x4_1)] rfl (by (try simp only [List.map_toArray,List.map_cons,List.map_nil]); first | done | rfl | (simp only [List.length_drop,List.length_take]; rfl)) ?_; (with_reducible refine (spec_l9Leaf.calls (rd l0 x4_1) t327 _ A51.out).mono ?_); rintro e w' ⟨rfl,⟨nd,rfl⟩⟩; refine ⟨_,rfl,?_⟩) | ((with_reducible refine gate_builtin (b := .append) (xs := #[.tmp 22,.tmp 28]) rfl ?_); at_builtin; refine Kd.R_append Kd.string (w0 := w) w.heap.size rfl (.tmp 22) (.tmp 28) 36 9 (.string ⟨#[]⟩) 16 rfl Tryd.underlying36 info9 rfl (by decide) (by omega) (.slice Ao53 x3_1.length co53) x3_1 t327 [.string t327] (fun _ => True) (fun _ => False) rfl rfl ?aP (fun _ hk => hk.elim) ?aF ?aO ?aB ?aS ?aL ?_; (case aP => exact rfl); (case aB => exact (by repeat (first | (with_reducible first | exact HB.out | apply QD | apply QB | apply QC) | exact HB.out))); (case aF => exact (fun _ _ => trivial)); (case aO => exact (by (with_reducible repeat (first | apply Kd.R_alloc | apply Kd.R_drewN | apply Kd.R_drew)); exact HO_3.out)); (case aS => exact (below_size (by repeat (first | (with_reducible first | exact HB.out | apply QD | apply QB | apply QC) | exact HB.out)))); (case aL => have := LMc52.out; omega); intro v329 w54 ho hb hg hat; rw [← Ny328.out] at ho; have n0_ := QN (hb); have n1_ := QN (ho); clear HB; clear HO_3; revert n0_ n1_; intro HB HO330; clear ho hb hg hat))
          go_roundg k1
          case measure => have := HK1.out; omega
          case rel => exact ⟨(y328),(wrap64 (x4_1 + 1)),(by first | rfl | (simp; done) | (simp [*]; done)),H',⟨by have := HK1.out; omega⟩,⟨by (with_reducible repeat (first | apply Kd.R_alloc | apply Kd.R_drewN | apply Kd.R_drew)); exact HO330.out⟩,⟨by repeat (first | (with_reducible first | exact HB.out | apply QD | apply QB | apply QC) | exact HB.out)⟩⟩
         ·rw [if_neg c52] at H
          exact absurd H (by simp)
     ·rw [if_neg c7] at H
      exact absurd H (by simp)
    ·rw [if_neg c6] at H
     have c6b0 : decide (x4_1 < (l0.length : Int)) = false := decide_eq_false c6
     clear c6
     by_cases c55 : 0 < (x3_1.length : Int)
     ·rw [if_pos c55] at H
      have c55b0 : decide (0 < (x3_1.length : Int)) = true := decide_eq_true c55
      have c55b1 : decide (0 < x3_1.length) = true := decide_eq_true (by omega)
      clear c55
      obtain rfl := Option.some.inj H
      obtain ⟨Ao56,co56,eo56⟩ := Kd.R_slice HO_3.out
      subst eo56
      have p306 : 0 ≤ (0 : Int) := (by omega)
      have q306 : 0 < (x3_1.length : Int) := of_decide_eq_true (by first | (with_reducible assumption) | assumption)
      obtain ⟨ad306,e306,hx306_0⟩ := Kd.at_string (Kd.R_reads' HO_3.out).2.2 0 p306 q306
      cases e306
      have qi306 : (0 < x3_1.length) = True := eq_true (by omega)
      (try rw [show ((0 : Int)).toNat = 0 from rfl] at hx306_0)
      (try rw [Addr.add_zero'] at hx306_0)
      replace p306 := eq_true p306
      replace q306 := eq_true q306
      go_wp2
      go_ret
      exact ⟨by first | rfl | (simp [errW_none,errW_some] <;> rfl) | (simp [*,errW_none,errW_some] <;> rfl),by repeat (first | (with_reducible first | exact HB.out | apply QD | apply QB | apply QC) | exact HB.out)⟩
     ·rw [if_neg c55] at H
      exact absurd H (by simp)
 ·replace c3 := Bool.eq_false_iff.mpr c3
  subst c3
  rw [if_neg (show ¬ (false = true) by decide)] at H
  obtain rfl := Option.some.inj H
  go_enter Tryd.func68,Tryd.ntmps68
  go_wp2_with (first | ((with_reducible refine gate_callee (f := 84) rfl ?_); refine goesL_ (some 7) rfl rfl Tryd.func84 (by kernel_rfl) rfl #[.slice A0 l0.length c0] rfl (by (try simp only [List.map_toArray,List.map_cons,List.map_nil]); first | done | rfl | (simp only [List.length_drop,List.length_take]; rfl)) ?_; (with_reducible refine (spec_IsPattern.calls k _ _ l0 false _ ?side1 ?side2 A2.out).mono ?_); (case side1 => repeat (first | exact HR0.out | (with_reducible refine Kd.C_alloc ?_ _) | (with_reducible refine Kd.C_drewN ?_ _) | (with_reducible refine Kd.C_drew ?_))); (case side2 => exact HC0.out); rintro e w' ⟨rfl,⟨nd,rfl⟩⟩; refine ⟨_,rfl,?_⟩))
  go_ret
  exact ⟨by first | rfl | (simp [errW_none,errW_some] <;> rfl) | (simp [*,errW_none,errW_some] <;> rfl),by repeat (first | (with_reducible first | exact HB.out | apply QD | apply QB | apply QC) | exact HB.out)⟩

/-! ### spec_l23Pattern: function 51 -/
def spec_l23Pattern.f (k : Nat) (l0 : List Int) : Option (ByteArray) := if (l0.length : Int) = 0 then (some (⟨#[45]⟩ : ByteArray)) else ((spec_PatternText.f k l0).bind fun t331 => (some t331))
theorem spec_l23Pattern.mono : ∀ a0 k, LeO (spec_l23Pattern.f k a0) (spec_l23Pattern.f (k + 1) a0) := by
 intro a0 k
 unfold spec_l23Pattern.f
 repeat' first
   | (with_reducible exact spec_PatternText.mono _ _)
   | (with_reducible exact LeO.refl _)
   | (with_reducible exact LeO.none _)
   | (with_reducible refine LeO.ite ?_ ?_)
   | (with_reducible refine LeO.bind ?_ (fun _ => ?_))
   | exact spec_PatternText.mono _ _
   | exact LeO.none _
   | refine LeO.ite ?_ ?_
   | refine LeO.bind ?_ (fun _ => ?_)
set_option maxHeartbeats 8000000 in
set_option maxRecDepth 100000 in
theorem spec_l23Pattern.calls (k : Nat) (A0 : Option Addr) (c0 : Nat) (l0 : List Int) (r : ByteArray) (w : World) (hr0 : Kd.C (Kd.int .i64) w A0 l0.length l0) (hc0 : l0.length ≤ c0) (h : spec_l23Pattern.f k l0 = some r) :
  Calls Tryd.prog 51 #[.slice A0 l0.length c0] w fun e w' => e = .returned (.string r) ∧ Below w.heap.size w w' := by
 have HR0 := QN hr0
 have HC0 := QN hc0
 clear hr0 hc0
 have HB := QN (Below.refl w.heap.size w)
 have H : (if (l0.length : Int) = 0 then (some (⟨#[45]⟩ : ByteArray)) else ((spec_PatternText.f k l0).bind fun t331 => (some t331))) = some r := h
 clear h
 by_cases c2 : (l0.length : Int) = 0
 ·rw [if_pos c2] at H
  have c2b0 : ((l0.length : Int) == 0) = true := beq_iff_eq.mpr c2
  have c2b1 : ((l0.length : Int) != 0) = false := bne_eq_false_iff_eq.mpr c2
  clear c2
  obtain rfl := Option.some.inj H
  go_enter Tryd.func51,Tryd.ntmps51
  go_wp2
  go_ret
  exact ⟨by first | rfl | (simp [errW_none,errW_some] <;> rfl) | (simp [*,errW_none,errW_some] <;> rfl),by repeat (first | (with_reducible first | exact HB.out | apply QD | apply QB | apply QC) | exact HB.out)⟩
 ·rw [if_neg c2] at H
  have c2b0 : ((l0.length : Int) == 0) = false := beq_eq_false_iff_ne.mpr c2
  have c2b1 : ((l0.length : Int) != 0) = true := bne_iff_ne.mpr c2
  have c2b2 : ¬ (l0 = []) := fun h_ => c2 (by rw [h_]; rfl)
  replace H := QO.mp H
  obtain ⟨t331,A30,H⟩ := H
  have A3 := QN A30
  clear A30
  obtain rfl := Option.some.inj H
  go_enter Tryd.func51,Tryd.ntmps51
  go_wp2_with (first | ((with_reducible refine gate_callee (f := 68) rfl ?_); refine goesL_ (some 7) rfl rfl Tryd.func68 (by kernel_rfl) rfl #[.slice A0 l0.length c0] rfl (by (try simp only [List.map_toArray,List.map_cons,List.map_nil]); first | done | rfl | (simp only [List.length_drop,List.length_take]; rfl)) ?_; (with_reducible refine (spec_PatternText.calls k _ _ l0 t331 _ ?side1 ?side2 A3.out).mono ?_); (case side1 => repeat (first | exact HR0.out | (with_reducible refine Kd.C_alloc ?_ _) | (with_reducible refine Kd.C_drewN ?_ _) | (with_reducible refine Kd.C_drew ?_))); (case side2 => exact HC0.out); rintro e w4 ⟨rfl,hb⟩; refine ⟨_,rfl,?_⟩; have n0_ := QN (below_step (by repeat (first | (with_reducible first | exact HB.out | apply QD | apply QB | apply QC) | exact HB.out)) hb); clear HB; revert n0_; intro HB; (try clear hb); (try clear hb2); (try clear hk); (try clear hi)))
  go_ret
  exact ⟨by first | rfl | (simp [errW_none,errW_some] <;> rfl) | (simp [*,errW_none,errW_some] <;> rfl),by repeat (first | (with_reducible first | exact HB.out | apply QD | apply QB | apply QC) | exact HB.out)⟩

/-! ### spec_RulesText: function 23 -/
def spec_RulesText.f (k : Nat) (a0_0 : Int) (a0_1 : Int) (a0_2 : Bool) (a0_3 : Bool) (l0_4 : List Int) (l0_5 : List Int) (a0_6 : Int) (a0_7 : Int) : Option (ByteArray) := (spec_IsRules.f k a0_0 a0_1 a0_2 a0_3 l0_4 l0_5 a0_6 a0_7).bind fun t333 => (if t333 = true then ((spec_FormatInt.f k a0_0).bind fun t334 => (if 8 + t334.size ≤ 9223372036854775807 then (if ((⟨#[112, 108, 97, 121, 101, 114, 115, 61]⟩ : ByteArray) ++ t334).size + 6 ≤ 9223372036854775807 then ((spec_FormatInt.f k a0_1).bind fun t335 => (if (((⟨#[112, 108, 97, 121, 101, 114, 115, 61]⟩ : ByteArray) ++ t334) ++ (⟨#[32, 101, 97, 99, 104, 61]⟩ : ByteArray)).size + t335.size ≤ 9223372036854775807 then (if ((((⟨#[112, 108, 97, 121, 101, 114, 115, 61]⟩ : ByteArray) ++ t334) ++ (⟨#[32, 101, 97, 99, 104, 61]⟩ : ByteArray)) ++ t335).size + 7 ≤ 9223372036854775807 then ((spec_RulesWord.f k a0_0 a0_1 a0_2 a0_3 l0_4 l0_5 a0_6 a0_7).bind fun t336 => (if (((((⟨#[112, 108, 97, 121, 101, 114, 115, 61]⟩ : ByteArray) ++ t334) ++ (⟨#[32, 101, 97, 99, 104, 61]⟩ : ByteArray)) ++ t335) ++ (⟨#[32, 109, 97, 116, 99, 104, 61]⟩ : ByteArray)).size + t336.size ≤ 9223372036854775807 then (if ((((((⟨#[112, 108, 97, 121, 101, 114, 115, 61]⟩ : ByteArray) ++ t334) ++ (⟨#[32, 101, 97, 99, 104, 61]⟩ : ByteArray)) ++ t335) ++ (⟨#[32, 109, 97, 116, 99, 104, 61]⟩ : ByteArray)) ++ t336).size + 6 ≤ 9223372036854775807 then ((spec_l23Pattern.f k l0_4).bind fun t337 => (if (((((((⟨#[112, 108, 97, 121, 101, 114, 115, 61]⟩ : ByteArray) ++ t334) ++ (⟨#[32, 101, 97, 99, 104, 61]⟩ : ByteArray)) ++ t335) ++ (⟨#[32, 109, 97, 116, 99, 104, 61]⟩ : ByteArray)) ++ t336) ++ (⟨#[32, 119, 105, 108, 100, 61]⟩ : ByteArray)).size + t337.size ≤ 9223372036854775807 then (if ((((((((⟨#[112, 108, 97, 121, 101, 114, 115, 61]⟩ : ByteArray) ++ t334) ++ (⟨#[32, 101, 97, 99, 104, 61]⟩ : ByteArray)) ++ t335) ++ (⟨#[32, 109, 97, 116, 99, 104, 61]⟩ : ByteArray)) ++ t336) ++ (⟨#[32, 119, 105, 108, 100, 61]⟩ : ByteArray)) ++ t337).size + 6 ≤ 9223372036854775807 then ((spec_l23Pattern.f k l0_5).bind fun t338 => (if (((((((((⟨#[112, 108, 97, 121, 101, 114, 115, 61]⟩ : ByteArray) ++ t334) ++ (⟨#[32, 101, 97, 99, 104, 61]⟩ : ByteArray)) ++ t335) ++ (⟨#[32, 109, 97, 116, 99, 104, 61]⟩ : ByteArray)) ++ t336) ++ (⟨#[32, 119, 105, 108, 100, 61]⟩ : ByteArray)) ++ t337) ++ (⟨#[32, 115, 107, 105, 112, 61]⟩ : ByteArray)).size + t338.size ≤ 9223372036854775807 then (if ((((((((((⟨#[112, 108, 97, 121, 101, 114, 115, 61]⟩ : ByteArray) ++ t334) ++ (⟨#[32, 101, 97, 99, 104, 61]⟩ : ByteArray)) ++ t335) ++ (⟨#[32, 109, 97, 116, 99, 104, 61]⟩ : ByteArray)) ++ t336) ++ (⟨#[32, 119, 105, 108, 100, 61]⟩ : ByteArray)) ++ t337) ++ (⟨#[32, 115, 107, 105, 112, 61]⟩ : ByteArray)) ++ t338).size + 6 ≤ 9223372036854775807 then ((spec_FormatInt.f k a0_6).bind fun t339 => (if (((((((((((⟨#[112, 108, 97, 121, 101, 114, 115, 61]⟩ : ByteArray) ++ t334) ++ (⟨#[32, 101, 97, 99, 104, 61]⟩ : ByteArray)) ++ t335) ++ (⟨#[32, 109, 97, 116, 99, 104, 61]⟩ : ByteArray)) ++ t336) ++ (⟨#[32, 119, 105, 108, 100, 61]⟩ : ByteArray)) ++ t337) ++ (⟨#[32, 115, 107, 105, 112, 61]⟩ : ByteArray)) ++ t338) ++ (⟨#[32, 116, 97, 107, 101, 61]⟩ : ByteArray)).size + t339.size ≤ 9223372036854775807 then (if ((((((((((((⟨#[112, 108, 97, 121, 101, 114, 115, 61]⟩ : ByteArray) ++ t334) ++ (⟨#[32, 101, 97, 99, 104, 61]⟩ : ByteArray)) ++ t335) ++ (⟨#[32, 109, 97, 116, 99, 104, 61]⟩ : ByteArray)) ++ t336) ++ (⟨#[32, 119, 105, 108, 100, 61]⟩ : ByteArray)) ++ t337) ++ (⟨#[32, 115, 107, 105, 112, 61]⟩ : ByteArray)) ++ t338) ++ (⟨#[32, 116, 97, 107, 101, 61]⟩ : ByteArray)) ++ t339).size + 7 ≤ 9223372036854775807 then ((spec_FormatInt.f k a0_7).bind fun t340 => (if (((((((((((((⟨#[112, 108, 97, 121, 101, 114, 115, 61]⟩ : ByteArray) ++ t334) ++ (⟨#[32, 101, 97, 99, 104, 61]⟩ : ByteArray)) ++ t335) ++ (⟨#[32, 109, 97, 116, 99, 104, 61]⟩ : ByteArray)) ++ t336) ++ (⟨#[32, 119, 105, 108, 100, 61]⟩ : ByteArray)) ++ t337) ++ (⟨#[32, 115, 107, 105, 112, 61]⟩ : ByteArray)) ++ t338) ++ (⟨#[32, 116, 97, 107, 101, 61]⟩ : ByteArray)) ++ t339) ++ (⟨#[32, 108, 105, 109, 105, 116, 61]⟩ : ByteArray)).size + t340.size ≤ 9223372036854775807 then (some ((((((((((((((⟨#[112, 108, 97, 121, 101, 114, 115, 61]⟩ : ByteArray) ++ t334) ++ (⟨#[32, 101, 97, 99, 104, 61]⟩ : ByteArray)) ++ t335) ++ (⟨#[32, 109, 97, 116, 99, 104, 61]⟩ : ByteArray)) ++ t336) ++ (⟨#[32, 119, 105, 108, 100, 61]⟩ : ByteArray)) ++ t337) ++ (⟨#[32, 115, 107, 105, 112, 61]⟩ : ByteArray)) ++ t338) ++ (⟨#[32, 116, 97, 107, 101, 61]⟩ : ByteArray)) ++ t339) ++ (⟨#[32, 108, 105, 109, 105, 116, 61]⟩ : ByteArray)) ++ t340)) else (none))) else (none)) else (none))) else (none)) else (none))) else (none)) else (none))) else (none)) else (none))) else (none)) else (none))) else (none)) else (none))) else (some (⟨#[]⟩ : ByteArray)))
theorem spec_RulesText.mono : ∀ a0 a1 a2 a3 a4 a5 a6 a7 k, LeO (spec_RulesText.f k a0 a1 a2 a3 a4 a5 a6 a7) (spec_RulesText.f (k + 1) a0 a1 a2 a3 a4 a5 a6 a7) := by
 intro a0 a1 a2 a3 a4 a5 a6 a7 k
 unfold spec_RulesText.f
 repeat' first
   | (with_reducible exact spec_FormatInt.mono _ _)
   | (with_reducible exact spec_IsRules.mono _ _ _ _ _ _ _ _ _)
   | (with_reducible exact spec_RulesWord.mono _ _ _ _ _ _ _ _ _)
   | (with_reducible exact spec_l23Pattern.mono _ _)
   | (with_reducible exact LeO.refl _)
   | (with_reducible exact LeO.none _)
   | (with_reducible refine LeO.ite ?_ ?_)
   | (with_reducible refine LeO.bind ?_ (fun _ => ?_))
   | exact spec_FormatInt.mono _ _
   | exact spec_IsRules.mono _ _ _ _ _ _ _ _ _
   | exact spec_RulesWord.mono _ _ _ _ _ _ _ _ _
   | exact spec_l23Pattern.mono _ _
   | exact LeO.none _
   | refine LeO.ite ?_ ?_
   | refine LeO.bind ?_ (fun _ => ?_)
def spec_RulesText.T3 : Bool × List (List Nat × List Nat) := (true, [([], []), ([0], [0]), ([1], [1]), ([2], [2]), ([3], [3]), ([], []), ([5], [5]), ([6, 2], [6]), ([4, 7], [4, 7]), ([8], [8]), ([], []), ([10, 7], [10]), ([9, 11], [9, 11]), ([12], [12]), ([], []), ([14], [14]), ([15, 11], [15]), ([13, 16], [13, 16]), ([17], [17]), ([], []), ([19], [19]), ([20, 16], [20]), ([18, 21], [18, 21]), ([22], [22]), ([], []), ([24], [24]), ([25, 21], [25]), ([23, 26], [23, 26]), ([27], [27]), ([], []), ([29], [29]), ([30, 26], [30]), ([28, 31], [28, 31]), ([32, 31, 0, 1, 2, 3, 4, 5, 6, 7, 8, 9, 10, 11, 12, 13, 14, 15, 16, 17, 18, 19, 20, 21, 22, 23, 24, 25, 26, 27, 28, 29, 30, 31, 32], [32])])
def spec_RulesText.B3 : List Nat := [0, 1, 3, 7, 15, 0, 32, 103, 255, 511, 0, 1255, 4095, 8191, 0, 16384, 52455, 131071, 262143, 0, 524288, 1690855, 4194303, 8388607, 0, 16777216, 54119655, 134217727, 268435455, 0, 536870912, 1731841255, 4294967295, 8589934591]
theorem spec_RulesText.tab3 : rtab .any (opsOf Tryd.f23 3) = spec_RulesText.T3 := by kernel_rfl
theorem spec_RulesText.bits3 : waitsOk spec_RulesText.T3.2 spec_RulesText.B3 = true := by kernel_rfl
set_option maxHeartbeats 8000000 in
set_option maxRecDepth 100000 in
theorem spec_RulesText.calls (k : Nat) (a0_0 : Int) (a0_1 : Int) (a0_2 : Bool) (a0_3 : Bool) (A0_4 : Option Addr) (c0_4 : Nat) (l0_4 : List Int) (A0_5 : Option Addr) (c0_5 : Nat) (l0_5 : List Int) (a0_6 : Int) (a0_7 : Int) (r : ByteArray) (w : World) (hr0_4 : Kd.C (Kd.int .i64) w A0_4 l0_4.length l0_4) (hc0_4 : l0_4.length ≤ c0_4) (hr0_5 : Kd.C (Kd.int .i64) w A0_5 l0_5.length l0_5) (hc0_5 : l0_5.length ≤ c0_5) (h : spec_RulesText.f k a0_0 a0_1 a0_2 a0_3 l0_4 l0_5 a0_6 a0_7 = some r) :
  Calls Tryd.prog 23 #[.agg #[.int .i64 a0_0,.int .i64 a0_1,.bool a0_2,.bool a0_3,.slice A0_4 l0_4.length c0_4,.slice A0_5 l0_5.length c0_5,.int .i64 a0_6,.int .i64 a0_7]] w fun e w' => e = .returned (.string r) ∧ Below w.heap.size w w' := by
 have hu26 := Tryd.underlying26
 have HR0_4 := QN hr0_4
 have HC0_4 := QN hc0_4
 clear hr0_4 hc0_4
 have HR0_5 := QN hr0_5
 have HC0_5 := QN hc0_5
 clear hr0_5 hc0_5
 have HB := QN (Below.refl w.heap.size w)
 have H := h
 unfold spec_RulesText.f at H
 clear h
 replace H := QO.mp H
 obtain ⟨t333,A20,H⟩ := H
 have A2 := QN A20
 clear A20
 by_cases c3 : t333 = true
 ·subst c3
  rw [if_pos rfl] at H
  replace H := QO.mp H
  obtain ⟨t334,A40,H⟩ := H
  have A4 := QN A40
  clear A40
  by_cases c5 : 8 + t334.size ≤ 9223372036854775807
  ·rw [if_pos c5] at H
   have c5b0 := eq_true c5
   have c5b1 : decide (8 + t334.size ≤ 9223372036854775807) = true := decide_eq_true c5
   try have c5b2 : (9223372036854775807 < 8 + t334.size) = False := eq_false (Nat.not_lt.2 c5)
   by_cases c6 : ((⟨#[112,108,97,121,101,114,115,61]⟩ : ByteArray) ++ t334).size + 6 ≤ 9223372036854775807
   ·rw [if_pos c6] at H
    have c6b0 := eq_true c6
    have c6b1 : decide (((⟨#[112,108,97,121,101,114,115,61]⟩ : ByteArray) ++ t334).size + 6 ≤ 9223372036854775807) = true := decide_eq_true c6
    try have c6b2 : (9223372036854775807 < ((⟨#[112,108,97,121,101,114,115,61]⟩ : ByteArray) ++ t334).size + 6) = False := eq_false (Nat.not_lt.2 c6)
    have c6b3 := c6b2
    (try simp only [ByteArray.size_append,ba_size,List.size_toArray,List.length_cons,List.length_nil,Nat.reduceAdd,Nat.zero_add] at c6b3)
    replace H := QO.mp H
    obtain ⟨t335,A70,H⟩ := H
    have A7 := QN A70
    clear A70
    by_cases c8 : (((⟨#[112,108,97,121,101,114,115,61]⟩ : ByteArray) ++ t334) ++ (⟨#[32,101,97,99,104,61]⟩ : ByteArray)).size + t335.size ≤ 9223372036854775807
    ·rw [if_pos c8] at H
     have c8b0 := eq_true c8
     have c8b1 : decide ((((⟨#[112,108,97,121,101,114,115,61]⟩ : ByteArray) ++ t334) ++ (⟨#[32,101,97,99,104,61]⟩ : ByteArray)).size + t335.size ≤ 9223372036854775807) = true := decide_eq_true c8
     try have c8b2 : (9223372036854775807 < (((⟨#[112,108,97,121,101,114,115,61]⟩ : ByteArray) ++ t334) ++ (⟨#[32,101,97,99,104,61]⟩ : ByteArray)).size + t335.size) = False := eq_false (Nat.not_lt.2 c8)
     have c8b3 := c8b2
     (try simp only [ByteArray.size_append,ba_size,List.size_toArray,List.length_cons,List.length_nil,Nat.reduceAdd,Nat.zero_add] at c8b3)
     by_cases c9 : ((((⟨#[112,108,97,121,101,114,115,61]⟩ : ByteArray) ++ t334) ++ (⟨#[32,101,97,99,104,61]⟩ : ByteArray)) ++ t335).size + 7 ≤ 9223372036854775807
     ·rw [if_pos c9] at H
      have c9b0 := eq_true c9
      have c9b1 : decide (((((⟨#[112,108,97,121,101,114,115,61]⟩ : ByteArray) ++ t334) ++ (⟨#[32,101,97,99,104,61]⟩ : ByteArray)) ++ t335).size + 7 ≤ 9223372036854775807) = true := decide_eq_true c9
      try have c9b2 : (9223372036854775807 < ((((⟨#[112,108,97,121,101,114,115,61]⟩ : ByteArray) ++ t334) ++ (⟨#[32,101,97,99,104,61]⟩ : ByteArray)) ++ t335).size + 7) = False := eq_false (Nat.not_lt.2 c9)
      have c9b3 := c9b2
      (try simp only [ByteArray.size_append,ba_size,List.size_toArray,List.length_cons,List.length_nil,Nat.reduceAdd,Nat.zero_add] at c9b3)
      replace H := QO.mp H
      obtain ⟨t336,A100,H⟩ := H
      have A10 := QN A100
      clear A100
      by_cases c11 : (((((⟨#[112,108,97,121,101,114,115,61]⟩ : ByteArray) ++ t334) ++ (⟨#[32,101,97,99,104,61]⟩ : ByteArray)) ++ t335) ++ (⟨#[32,109,97,116,99,104,61]⟩ : ByteArray)).size + t336.size ≤ 9223372036854775807
      ·rw [if_pos c11] at H
       have c11b0 := eq_true c11
       have c11b1 : decide ((((((⟨#[112,108,97,121,101,114,115,61]⟩ : ByteArray) ++ t334) ++ (⟨#[32,101,97,99,104,61]⟩ : ByteArray)) ++ t335) ++ (⟨#[32,109,97,116,99,104,61]⟩ : ByteArray)).size + t336.size ≤ 9223372036854775807) = true := decide_eq_true c11
       try have c11b2 : (9223372036854775807 < (((((⟨#[112,108,97,121,101,114,115,61]⟩ : ByteArray) ++ t334) ++ (⟨#[32,101,97,99,104,61]⟩ : ByteArray)) ++ t335) ++ (⟨#[32,109,97,116,99,104,61]⟩ : ByteArray)).size + t336.size) = False := eq_false (Nat.not_lt.2 c11)
       have c11b3 := c11b2
       (try simp only [ByteArray.size_append,ba_size,List.size_toArray,List.length_cons,List.length_nil,Nat.reduceAdd,Nat.zero_add] at c11b3)
       by_cases c12 : ((((((⟨#[112,108,97,121,101,114,115,61]⟩ : ByteArray) ++ t334) ++ (⟨#[32,101,97,99,104,61]⟩ : ByteArray)) ++ t335) ++ (⟨#[32,109,97,116,99,104,61]⟩ : ByteArray)) ++ t336).size + 6 ≤ 9223372036854775807
       ·rw [if_pos c12] at H
        have c12b0 := eq_true c12
        have c12b1 : decide (((((((⟨#[112,108,97,121,101,114,115,61]⟩ : ByteArray) ++ t334) ++ (⟨#[32,101,97,99,104,61]⟩ : ByteArray)) ++ t335) ++ (⟨#[32,109,97,116,99,104,61]⟩ : ByteArray)) ++ t336).size + 6 ≤ 9223372036854775807) = true := decide_eq_true c12
        try have c12b2 : (9223372036854775807 < ((((((⟨#[112,108,97,121,101,114,115,61]⟩ : ByteArray) ++ t334) ++ (⟨#[32,101,97,99,104,61]⟩ : ByteArray)) ++ t335) ++ (⟨#[32,109,97,116,99,104,61]⟩ : ByteArray)) ++ t336).size + 6) = False := eq_false (Nat.not_lt.2 c12)
        have c12b3 := c12b2
        (try simp only [ByteArray.size_append,ba_size,List.size_toArray,List.length_cons,List.length_nil,Nat.reduceAdd,Nat.zero_add] at c12b3)
        replace H := QO.mp H
        obtain ⟨t337,A130,H⟩ := H
        have A13 := QN A130
        clear A130
        by_cases c14 : (((((((⟨#[112,108,97,121,101,114,115,61]⟩ : ByteArray) ++ t334) ++ (⟨#[32,101,97,99,104,61]⟩ : ByteArray)) ++ t335) ++ (⟨#[32,109,97,116,99,104,61]⟩ : ByteArray)) ++ t336) ++ (⟨#[32,119,105,108,100,61]⟩ : ByteArray)).size + t337.size ≤ 9223372036854775807
        ·rw [if_pos c14] at H
         have c14b0 := eq_true c14
         have c14b1 : decide ((((((((⟨#[112,108,97,121,101,114,115,61]⟩ : ByteArray) ++ t334) ++ (⟨#[32,101,97,99,104,61]⟩ : ByteArray)) ++ t335) ++ (⟨#[32,109,97,116,99,104,61]⟩ : ByteArray)) ++ t336) ++ (⟨#[32,119,105,108,100,61]⟩ : ByteArray)).size + t337.size ≤ 9223372036854775807) = true := decide_eq_true c14
         try have c14b2 : (9223372036854775807 < (((((((⟨#[112,108,97,121,101,114,115,61]⟩ : ByteArray) ++ t334) ++ (⟨#[32,101,97,99,104,61]⟩ : ByteArray)) ++ t335) ++ (⟨#[32,109,97,116,99,104,61]⟩ : ByteArray)) ++ t336) ++ (⟨#[32,119,105,108,100,61]⟩ : ByteArray)).size + t337.size) = False := eq_false (Nat.not_lt.2 c14)
         have c14b3 := c14b2
         (try simp only [ByteArray.size_append,ba_size,List.size_toArray,List.length_cons,List.length_nil,Nat.reduceAdd,Nat.zero_add] at c14b3)
         by_cases c15 : ((((((((⟨#[112,108,97,121,101,114,115,61]⟩ : ByteArray) ++ t334) ++ (⟨#[32,101,97,99,104,61]⟩ : ByteArray)) ++ t335) ++ (⟨#[32,109,97,116,99,104,61]⟩ : ByteArray)) ++ t336) ++ (⟨#[32,119,105,108,100,61]⟩ : ByteArray)) ++ t337).size + 6 ≤ 9223372036854775807
         ·rw [if_pos c15] at H
          have c15b0 := eq_true c15
          have c15b1 : decide (((((((((⟨#[112,108,97,121,101,114,115,61]⟩ : ByteArray) ++ t334) ++ (⟨#[32,101,97,99,104,61]⟩ : ByteArray)) ++ t335) ++ (⟨#[32,109,97,116,99,104,61]⟩ : ByteArray)) ++ t336) ++ (⟨#[32,119,105,108,100,61]⟩ : ByteArray)) ++ t337).size + 6 ≤ 9223372036854775807) = true := decide_eq_true c15
          try have c15b2 : (9223372036854775807 < ((((((((⟨#[112,108,97,121,101,114,115,61]⟩ : ByteArray) ++ t334) ++ (⟨#[32,101,97,99,104,61]⟩ : ByteArray)) ++ t335) ++ (⟨#[32,109,97,116,99,104,61]⟩ : ByteArray)) ++ t336) ++ (⟨#[32,119,105,108,100,61]⟩ : ByteArray)) ++ t337).size + 6) = False := eq_false (Nat.not_lt.2 c15)
          have c15b3 := c15b2
          (try simp only [ByteArray.size_append,ba_size,List.size_toArray,List.length_cons,List.length_nil,Nat.reduceAdd,Nat.zero_add] at c15b3)
          replace H := QO.mp H
          obtain ⟨t338,A160,H⟩ := H
          have A16 := QN A160
          clear A160
          by_cases c17 : (((((((((⟨#[112,108,97,121,101,114,115,61]⟩ : ByteArray) ++ t334) ++ (⟨#[32,101,97,99,104,61]⟩ : ByteArray)) ++ t335) ++ (⟨#[32,109,97,116,99,104,61]⟩ : ByteArray)) ++ t336) ++ (⟨#[32,119,105,108,100,61]⟩ : ByteArray)) ++ t337) ++ (⟨#[32,115,107,105,112,61]⟩ : ByteArray)).size + t338.size ≤ 9223372036854775807
          ·rw [if_pos c17] at H
           have c17b0 := eq_true c17
           have c17b1 : decide ((((((((((⟨#[112,108,97,121,101,114,115,61]⟩ : ByteArray) ++ t334) ++ (⟨#[32,101,97,99,104,61]⟩ : ByteArray)) ++ t335) ++ (⟨#[32,109,97,116,99,104,61]⟩ : ByteArray)) ++ t336) ++ (⟨#[32,119,105,108,100,61]⟩ : ByteArray)) ++ t337) ++ (⟨#[32,115,107,105,112,61]⟩ : ByteArray)).size + t338.size ≤ 9223372036854775807) = true := decide_eq_true c17
           try have c17b2 : (9223372036854775807 < (((((((((⟨#[112,108,97,121,101,114,115,61]⟩ : ByteArray) ++ t334) ++ (⟨#[32,101,97,99,104,61]⟩ : ByteArray)) ++ t335) ++ (⟨#[32,109,97,116,99,104,61]⟩ : ByteArray)) ++ t336) ++ (⟨#[32,119,105,108,100,61]⟩ : ByteArray)) ++ t337) ++ (⟨#[32,115,107,105,112,61]⟩ : ByteArray)).size + t338.size) = False := eq_false (Nat.not_lt.2 c17)
           have c17b3 := c17b2
           (try simp only [ByteArray.size_append,ba_size,List.size_toArray,List.length_cons,List.length_nil,Nat.reduceAdd,Nat.zero_add] at c17b3)
           by_cases c18 : ((((((((((⟨#[112,108,97,121,101,114,115,61]⟩ : ByteArray) ++ t334) ++ (⟨#[32,101,97,99,104,61]⟩ : ByteArray)) ++ t335) ++ (⟨#[32,109,97,116,99,104,61]⟩ : ByteArray)) ++ t336) ++ (⟨#[32,119,105,108,100,61]⟩ : ByteArray)) ++ t337) ++ (⟨#[32,115,107,105,112,61]⟩ : ByteArray)) ++ t338).size + 6 ≤ 9223372036854775807
           ·rw [if_pos c18] at H
            have c18b0 := eq_true c18
            have c18b1 : decide (((((((((((⟨#[112,108,97,121,101,114,115,61]⟩ : ByteArray) ++ t334) ++ (⟨#[32,101,97,99,104,61]⟩ : ByteArray)) ++ t335) ++ (⟨#[32,109,97,116,99,104,61]⟩ : ByteArray)) ++ t336) ++ (⟨#[32,119,105,108,100,61]⟩ : ByteArray)) ++ t337) ++ (⟨#[32,115,107,105,112,61]⟩ : ByteArray)) ++ t338).size + 6 ≤ 9223372036854775807) = true := decide_eq_true c18
            try have c18b2 : (9223372036854775807 < ((((((((((⟨#[112,108,97,121,101,114,115,61]⟩ : ByteArray) ++ t334) ++ (⟨#[32,101,97,99,104,61]⟩ : ByteArray)) ++ t335) ++ (⟨#[32,109,97,116,99,104,61]⟩ : ByteArray)) ++ t336) ++ (⟨#[32,119,105,108,100,61]⟩ : ByteArray)) ++ t337) ++ (⟨#[32,115,107,105,112,61]⟩ : ByteArray)) ++ t338).size + 6) = False := eq_false (Nat.not_lt.2 c18)
            have c18b3 := c18b2
            (try simp only [ByteArray.size_append,ba_size,List.size_toArray,List.length_cons,List.length_nil,Nat.reduceAdd,Nat.zero_add] at c18b3)
            replace H := QO.mp H
            obtain ⟨t339,A190,H⟩ := H
            have A19 := QN A190
            clear A190
            by_cases c20 : (((((((((((⟨#[112,108,97,121,101,114,115,61]⟩ : ByteArray) ++ t334) ++ (⟨#[32,101,97,99,104,61]⟩ : ByteArray)) ++ t335) ++ (⟨#[32,109,97,116,99,104,61]⟩ : ByteArray)) ++ t336) ++ (⟨#[32,119,105,108,100,61]⟩ : ByteArray)) ++ t337) ++ (⟨#[32,115,107,105,112,61]⟩ : ByteArray)) ++ t338) ++ (⟨#[32,116,97,107,101,61]⟩ : ByteArray)).size + t339.size ≤ 9223372036854775807
            ·rw [if_pos c20] at H
             have c20b0 := eq_true c20
             have c20b1 : decide ((((((((((((⟨#[112,108,97,121,101,114,115,61]⟩ : ByteArray) ++ t334) ++ (⟨#[32,101,97,99,104,61]⟩ : ByteArray)) ++ t335) ++ (⟨#[32,109,97,116,99,104,61]⟩ : ByteArray)) ++ t336) ++ (⟨#[32,119,105,108,100,61]⟩ : ByteArray)) ++ t337) ++ (⟨#[32,115,107,105,112,61]⟩ : ByteArray)) ++ t338) ++ (⟨#[32,116,97,107,101,61]⟩ : ByteArray)).size + t339.size ≤ 9223372036854775807) = true := decide_eq_true c20
             try have c20b2 : (9223372036854775807 < (((((((((((⟨#[112,108,97,121,101,114,115,61]⟩ : ByteArray) ++ t334) ++ (⟨#[32,101,97,99,104,61]⟩ : ByteArray)) ++ t335) ++ (⟨#[32,109,97,116,99,104,61]⟩ : ByteArray)) ++ t336) ++ (⟨#[32,119,105,108,100,61]⟩ : ByteArray)) ++ t337) ++ (⟨#[32,115,107,105,112,61]⟩ : ByteArray)) ++ t338) ++ (⟨#[32,116,97,107,101,61]⟩ : ByteArray)).size + t339.size) = False := eq_false (Nat.not_lt.2 c20)
             have c20b3 := c20b2
             (try simp only [ByteArray.size_append,ba_size,List.size_toArray,List.length_cons,List.length_nil,Nat.reduceAdd,Nat.zero_add] at c20b3)
             by_cases c21 : ((((((((((((⟨#[112,108,97,121,101,114,115,61]⟩ : ByteArray) ++ t334) ++ (⟨#[32,101,97,99,104,61]⟩ : ByteArray)) ++ t335) ++ (⟨#[32,109,97,116,99,104,61]⟩ : ByteArray)) ++ t336) ++ (⟨#[32,119,105,108,100,61]⟩ : ByteArray)) ++ t337) ++ (⟨#[32,115,107,105,112,61]⟩ : ByteArray)) ++ t338) ++ (⟨#[32,116,97,107,101,61]⟩ : ByteArray)) ++ t339).size + 7 ≤ 9223372036854775807
             ·rw [if_pos c21] at H
              have c21b0 := eq_true c21
              have c21b1 : decide (((((((((((((⟨#[112,108,97,121,101,114,115,61]⟩ : ByteArray) ++ t334) ++ (⟨#[32,101,97,99,104,61]⟩ : ByteArray)) ++ t335) ++ (⟨#[32,109,97,116,99,104,61]⟩ : ByteArray)) ++ t336) ++ (⟨#[32,119,105,108,100,61]⟩ : ByteArray)) ++ t337) ++ (⟨#[32,115,107,105,112,61]⟩ : ByteArray)) ++ t338) ++ (⟨#[32,116,97,107,101,61]⟩ : ByteArray)) ++ t339).size + 7 ≤ 9223372036854775807) = true := decide_eq_true c21
              try have c21b2 : (9223372036854775807 < ((((((((((((⟨#[112,108,97,121,101,114,115,61]⟩ : ByteArray) ++ t334) ++ (⟨#[32,101,97,99,104,61]⟩ : ByteArray)) ++ t335) ++ (⟨#[32,109,97,116,99,104,61]⟩ : ByteArray)) ++ t336) ++ (⟨#[32,119,105,108,100,61]⟩ : ByteArray)) ++ t337) ++ (⟨#[32,115,107,105,112,61]⟩ : ByteArray)) ++ t338) ++ (⟨#[32,116,97,107,101,61]⟩ : ByteArray)) ++ t339).size + 7) = False := eq_false (Nat.not_lt.2 c21)
              have c21b3 := c21b2
              (try simp only [ByteArray.size_append,ba_size,List.size_toArray,List.length_cons,List.length_nil,Nat.reduceAdd,Nat.zero_add] at c21b3)
              replace H := QO.mp H
              obtain ⟨t340,A220,H⟩ := H
              have A22 := QN A220
              clear A220
              by_cases c23 : (((((((((((((⟨#[112,108,97,121,101,114,115,61]⟩ : ByteArray) ++ t334) ++ (⟨#[32,101,97,99,104,61]⟩ : ByteArray)) ++ t335) ++ (⟨#[32,109,97,116,99,104,61]⟩ : ByteArray)) ++ t336) ++ (⟨#[32,119,105,108,100,61]⟩ : ByteArray)) ++ t337) ++ (⟨#[32,115,107,105,112,61]⟩ : ByteArray)) ++ t338) ++ (⟨#[32,116,97,107,101,61]⟩ : ByteArray)) ++ t339) ++ (⟨#[32,108,105,109,105,116,61]⟩ : ByteArray)).size + t340.size ≤ 9223372036854775807
              ·rw [if_pos c23] at H
               have c23b0 := eq_true c23
               have c23b1 : decide ((((((((((((((⟨#[112,108,97,121,101,114,115,61]⟩ : ByteArray) ++ t334) ++ (⟨#[32,101,97,99,104,61]⟩ : ByteArray)) ++ t335) ++ (⟨#[32,109,97,116,99,104,61]⟩ : ByteArray)) ++ t336) ++ (⟨#[32,119,105,108,100,61]⟩ : ByteArray)) ++ t337) ++ (⟨#[32,115,107,105,112,61]⟩ : ByteArray)) ++ t338) ++ (⟨#[32,116,97,107,101,61]⟩ : ByteArray)) ++ t339) ++ (⟨#[32,108,105,109,105,116,61]⟩ : ByteArray)).size + t340.size ≤ 9223372036854775807) = true := decide_eq_true c23
               try have c23b2 : (9223372036854775807 < (((((((((((((⟨#[112,108,97,121,101,114,115,61]⟩ : ByteArray) ++ t334) ++ (⟨#[32,101,97,99,104,61]⟩ : ByteArray)) ++ t335) ++ (⟨#[32,109,97,116,99,104,61]⟩ : ByteArray)) ++ t336) ++ (⟨#[32,119,105,108,100,61]⟩ : ByteArray)) ++ t337) ++ (⟨#[32,115,107,105,112,61]⟩ : ByteArray)) ++ t338) ++ (⟨#[32,116,97,107,101,61]⟩ : ByteArray)) ++ t339) ++ (⟨#[32,108,105,109,105,116,61]⟩ : ByteArray)).size + t340.size) = False := eq_false (Nat.not_lt.2 c23)
               have c23b3 := c23b2
               (try simp only [ByteArray.size_append,ba_size,List.size_toArray,List.length_cons,List.length_nil,Nat.reduceAdd,Nat.zero_add] at c23b3)
               obtain rfl := Option.some.inj H
               go_enter Tryd.func23,Tryd.ntmps23
               try go_wp2_with (first | ((with_reducible refine gate_dst (N := 1) rfl ?_); refine box_event ?hg (N := 1) ?hd (cs := #[.int .i64 a0_0,.int .i64 a0_1,.bool a0_2,.bool a0_3,.slice A0_4 l0_4.length c0_4,.slice A0_5 l0_5.length c0_5,.int .i64 a0_6,.int .i64 a0_7]) (t := 26) ?hr ?_; (case hd => rfl); (case hg => rfl); (case hr => first | (go_simp; done) | (go_simp; rfl)); intro gb332 hg w24 hbox hb; have n0_ := QN (below_step (by repeat (first | (with_reducible first | exact HB.out | apply QD | apply QB | apply QC) | exact HB.out)) hb); have n1_ := QN (hbox); have n2_ := QN ((by rw [hg]; exact (below_size (by repeat (first | (with_reducible first | exact HB.out | apply QD | apply QB | apply QC) | exact HB.out))) : w.heap.size ≤ gb332)); have n3_ := QN ((by rw [hg]; exact (below_size (by repeat (first | (with_reducible first | exact HB.out | apply QD | apply QB | apply QC) | exact HB.out))) : w.heap.size ≤ gb332)); clear HB; revert n0_ n1_ n2_ n3_; intro HB BK332 GW332 GE332; clear hb hbox hg; have hcz25_0 : w24.cell? ⟨gb332,0,none⟩ = some (.int .i64 a0_0) := (QF BK332.out 0).trans rfl; have hcz25_1 : w24.cell? ⟨gb332,1,none⟩ = some (.int .i64 a0_1) := (QF BK332.out 1).trans rfl; have hcz25_2 : w24.cell? ⟨gb332,2,none⟩ = some (.bool a0_2) := (QF BK332.out 2).trans rfl; have hcz25_3 : w24.cell? ⟨gb332,3,none⟩ = some (.bool a0_3) := (QF BK332.out 3).trans rfl; have hcz25_4 : w24.cell? ⟨gb332,4,none⟩ = some (.slice A0_4 l0_4.length c0_4) := (QF BK332.out 4).trans rfl; have hcz25_5 : w24.cell? ⟨gb332,5,none⟩ = some (.slice A0_5 l0_5.length c0_5) := (QF BK332.out 5).trans rfl; have hcz25_6 : w24.cell? ⟨gb332,6,none⟩ = some (.int .i64 a0_6) := (QF BK332.out 6).trans rfl; have hcz25_7 : w24.cell? ⟨gb332,7,none⟩ = some (.int .i64 a0_7) := (QF BK332.out 7).trans rfl; have hfz25_0 := QE BK332.out 0; have hfz25_1 := QE BK332.out 1; have hfz25_2 := QE BK332.out 2; have hfz25_3 := QE BK332.out 3; have hfz25_4 := QE BK332.out 4; have hfz25_5 := QE BK332.out 5; have hfz25_6 := QE BK332.out 6; have hfz25_7 := QE BK332.out 7) | ((with_reducible refine gate_callee (f := 48) rfl ?_); refine goesL_ (some 4) rfl rfl Tryd.func48 (by kernel_rfl) rfl #[.agg #[.int .i64 a0_0,.int .i64 a0_1,.bool a0_2,.bool a0_3,.slice A0_4 l0_4.length c0_4,.slice A0_5 l0_5.length c0_5,.int .i64 a0_6,.int .i64 a0_7]] rfl (by (try simp only [List.map_toArray,List.map_cons,List.map_nil]); first | done | rfl | (simp only [List.length_drop,List.length_take]; rfl)) ?_; (with_reducible refine (spec_IsRules.calls k a0_0 a0_1 a0_2 a0_3 _ _ l0_4 _ _ l0_5 a0_6 a0_7 true _ ?side1 ?side2 ?side3 ?side4 A2.out).mono ?_); (case side1 => repeat (first | exact (Kd.C_below HR0_4.out HB.out) | (with_reducible refine Kd.C_alloc ?_ _) | (with_reducible refine Kd.C_drewN ?_ _) | (with_reducible refine Kd.C_drew ?_))); (case side2 => exact HC0_4.out); (case side3 => repeat (first | exact (Kd.C_below HR0_5.out HB.out) | (with_reducible refine Kd.C_alloc ?_ _) | (with_reducible refine Kd.C_drewN ?_ _) | (with_reducible refine Kd.C_drew ?_))); (case side4 => exact HC0_5.out); rintro e w26 ⟨rfl,hb⟩; refine ⟨_,rfl,?_⟩; have n0_ := QN (blk_below (g := gb332) (o := _) (by (with_reducible repeat (first | refine blk_drewN ?_ _ | refine blk_drew ?_ | refine blk_alloc ?_ _)); exact BK332.out) hb); have n1_ := QN (below_step (by repeat (first | (with_reducible first | exact HB.out | apply QD | apply QB | apply QC | refine below_set ?_ GE332.out) | exact HB.out)) hb); clear BK332; clear HB; revert n0_ n1_; intro BK332 HB; (try clear hb); (try clear hb2); (try clear hk); (try clear hi)))
               have n0_ := QN (blk_drew BK332.out)
               have n1_ := QN (QC HB.out)
               clear BK332
               clear HB
               revert n0_ n1_
               intro BK332 HB
               refine start_ (n := 34) (S := fun w' => w'.cell? ⟨gb332,0,none⟩ = some (.int .i64 a0_0) ∧ w'.cell? ⟨gb332,1,none⟩ = some (.int .i64 a0_1) ∧ w'.cell? ⟨gb332,2,none⟩ = some (.bool a0_2) ∧ w'.cell? ⟨gb332,3,none⟩ = some (.bool a0_3) ∧ w'.cell? ⟨gb332,4,none⟩ = some (.slice A0_4 l0_4.length c0_4) ∧ w'.cell? ⟨gb332,5,none⟩ = some (.slice A0_5 l0_5.length c0_5) ∧ w'.cell? ⟨gb332,6,none⟩ = some (.int .i64 a0_6) ∧ w'.cell? ⟨gb332,7,none⟩ = some (.int .i64 a0_7)) (ds := []) (ab 34 0) (by kernel_rfl) rfl rfl ⟨(QF BK332.out 0).trans rfl,(QF BK332.out 1).trans rfl,(QF BK332.out 2).trans rfl,(QF BK332.out 3).trans rfl,(QF BK332.out 4).trans rfl,(QF BK332.out 5).trans rfl,(QF BK332.out 6).trans rfl,(QF BK332.out 7).trans rfl⟩ (fun hHeld => ?_); refine with_tabW spec_RulesText.tab3 spec_RulesText.bits3 (fun HT_ HW_ => ?_)
               generalize w26.drew = w27 at BK332 HB hHeld ⊢
               refine QJ (i := 0) (N := some 6) (v := ?_) (a' := ?_) (ab 34 1) rfl rfl (QI HT_.out (by kernel_rfl)) (fun _ _ _ h => h) (Or.inl ⟨by rfl,?_⟩) ?_ ?_
               rotate_left
               ·intro w'
                go_simp
                with_reducible rfl
               rotate_left
               ·simp only [Act.put,QK,QL,QM,QG,QH]
                rfl
               refine QJ (i := 5) (N := some 11) (v := ?_) (a' := ?_) (ab 34 33) rfl rfl (QI HT_.out (by kernel_rfl)) (fun _ _ _ h => h) (Or.inl ⟨by rfl,?_⟩) ?_ ?_
               rotate_left
               ·intro w'
                go_simp
                with_reducible rfl
               rotate_left
               ·simp only [Act.put,QK,QL,QM,QG,QH]
                rfl
               refine QJ (i := 14) (N := some 20) (v := ?_) (a' := ?_) (ab 34 16417) rfl rfl (QI HT_.out (by kernel_rfl)) (fun _ _ _ h => h) (Or.inl ⟨by rfl,?_⟩) ?_ ?_
               rotate_left
               ·intro w'
                go_simp
                with_reducible rfl
               rotate_left
               ·simp only [Act.put,QK,QL,QM,QG,QH]
                rfl
               refine QJ (i := 19) (N := some 25) (v := ?_) (a' := ?_) (ab 34 540705) rfl rfl (QI HT_.out (by kernel_rfl)) (fun _ _ _ h => h) (Or.inl ⟨by rfl,?_⟩) ?_ ?_
               rotate_left
               ·intro w'
                go_simp
                with_reducible rfl
               rotate_left
               ·simp only [Act.put,QK,QL,QM,QG,QH]
                rfl
               refine QJ (i := 24) (N := some 30) (v := ?_) (a' := ?_) (ab 34 17317921) rfl rfl (QI HT_.out (by kernel_rfl)) (fun _ _ _ h => h) (Or.inl ⟨by rfl,?_⟩) ?_ ?_
               rotate_left
               ·intro w'
                go_simp
                with_reducible rfl
               rotate_left
               ·simp only [Act.put,QK,QL,QM,QG,QH]
                rfl
               refine QJ (i := 29) (N := some 35) (v := ?_) (a' := ?_) (ab 34 554188833) rfl rfl (QI HT_.out (by kernel_rfl)) (fun _ _ _ h => h) (Or.inl ⟨by rfl,?_⟩) ?_ ?_
               rotate_left
               ·intro w'
                go_simp
                with_reducible rfl
               rotate_left
               ·simp only [Act.put,QK,QL,QM,QG,QH]
                rfl
               refine take_ (i := 1) (N := some 7) (v := ?_) (a' := ?_) (ab 34 554188835) rfl rfl (take_ofW HT_.out HW_.out (by kernel_rfl)) (fun _ _ _ h => h) (Or.inl ⟨by rfl,?_⟩) hHeld ?_ ?_
               rotate_left
               ·rintro w' ⟨s0,s1,s2,s3,s4,s5,s6,s7⟩
                go_simp
                with_reducible rfl
               rotate_left
               ·simp only [Act.put,QK,QL,QM,QG,QH]
                rfl
               refine take_ (i := 6) (N := some 12) (v := ?_) (a' := ?_) (ab 34 554188899) rfl rfl (take_ofW HT_.out HW_.out (by kernel_rfl)) (fun _ _ _ h => h) (Or.inl ⟨by rfl,?_⟩) hHeld ?_ ?_
               rotate_left
               ·rintro w' ⟨s0,s1,s2,s3,s4,s5,s6,s7⟩
                go_simp
                with_reducible rfl
               rotate_left
               ·simp only [Act.put,QK,QL,QM,QG,QH]
                rfl
               refine take_ (i := 10) (N := some 16) (v := ?_) (a' := ?_) (ab 34 554189923) rfl rfl (take_ofW HT_.out HW_.out (by kernel_rfl)) (fun _ _ _ h => h) (Or.inl ⟨by rfl,?_⟩) hHeld ?_ ?_
               rotate_left
               ·rintro w' ⟨s0,s1,s2,s3,s4,s5,s6,s7⟩
                go_simp
                with_reducible rfl
               rotate_left
               ·simp only [Act.put,QK,QL,QM,QG,QH]
                rfl
               refine take_ (i := 15) (N := some 21) (v := ?_) (a' := ?_) (ab 34 554222691) rfl rfl (take_ofW HT_.out HW_.out (by kernel_rfl)) (fun _ _ _ h => h) (Or.inl ⟨by rfl,?_⟩) hHeld ?_ ?_
               rotate_left
               ·rintro w' ⟨s0,s1,s2,s3,s4,s5,s6,s7⟩
                go_simp
                with_reducible rfl
               rotate_left
               ·simp only [Act.put,QK,QL,QM,QG,QH]
                rfl
               refine take_ (i := 20) (N := some 26) (v := ?_) (a' := ?_) (ab 34 555271267) rfl rfl (take_ofW HT_.out HW_.out (by kernel_rfl)) (fun _ _ _ h => h) (Or.inl ⟨by rfl,?_⟩) hHeld ?_ ?_
               rotate_left
               ·rintro w' ⟨s0,s1,s2,s3,s4,s5,s6,s7⟩
                go_simp
                with_reducible rfl
               rotate_left
               ·simp only [Act.put,QK,QL,QM,QG,QH]
                rfl
               refine take_ (i := 25) (N := some 31) (v := ?_) (a' := ?_) (ab 34 588825699) rfl rfl (take_ofW HT_.out HW_.out (by kernel_rfl)) (fun _ _ _ h => h) (Or.inl ⟨by rfl,?_⟩) hHeld ?_ ?_
               rotate_left
               ·rintro w' ⟨s0,s1,s2,s3,s4,s5,s6,s7⟩
                go_simp
                with_reducible rfl
               rotate_left
               ·simp only [Act.put,QK,QL,QM,QG,QH]
                rfl
               refine take_ (i := 30) (N := some 36) (v := ?_) (a' := ?_) (ab 34 1662567523) rfl rfl (take_ofW HT_.out HW_.out (by kernel_rfl)) (fun _ _ _ h => h) (Or.inl ⟨by rfl,?_⟩) hHeld ?_ ?_
               rotate_left
               ·rintro w' ⟨s0,s1,s2,s3,s4,s5,s6,s7⟩
                go_simp
                with_reducible rfl
               rotate_left
               ·simp only [Act.put,QK,QL,QM,QG,QH]
                rfl
               refine one_ (i := 2) (N := some 8) (ab 34 1662567527) rfl rfl (one_of HT_.out (by kernel_rfl)) (by decide) (fun K hK => ?_)
               refine goes_ Tryd.func49 (by kernel_rfl) rfl #[.int .i64 a0_0] (by rfl) rfl rfl (by (try simp only [List.map_toArray,List.map_cons,List.map_nil]); first | done | rfl | (simp only [List.length_drop,List.length_take]; rfl)) ?_
               with_reducible refine (spec_FormatInt.calls k a0_0 t334 _ A4.out).mono ?_
               rintro e w28 ⟨rfl,hb⟩
               refine ⟨_,rfl,?_⟩
               have n0_ := QN (blk_below (g := gb332) (o := _) (by (with_reducible repeat (first | refine blk_drewN ?_ _ | refine blk_drew ?_ | refine blk_alloc ?_ _)); exact BK332.out) hb)
               have n1_ := QN (below_step (by repeat (first | (with_reducible first | exact HB.out | apply QD | apply QB | apply QC | refine below_set ?_ GE332.out) | exact HB.out)) hb)
               clear BK332
               clear HB
               revert n0_ n1_
               intro BK332 HB
               (try clear hb)
               (try clear hb2)
               (try clear hk)
               (try clear hi)
               refine hK.out _ _ (by (repeat' apply And.intro) <;> first | exact (QF BK332.out _).trans rfl) (fun hHeld => ?_)
               clear hK K
               refine norm_ (a' := ?_) ?_ ?_
               rotate_left
               ·show Act.put _ (some 8) _ = _
                simp only [Act.put,QK,QL,QM,QG,QH]
                rfl
               refine QJ (i := 3) (N := some 9) (v := ?_) (a' := ?_) (ab 34 1662567535) rfl rfl (QI HT_.out (by kernel_rfl)) (fun _ _ _ h => h) (Or.inl ⟨by rfl,?_⟩) ?_ ?_
               rotate_left
               ·intro w'
                go_simp
                with_reducible rfl
               rotate_left
               ·simp only [Act.put,QK,QL,QM,QG,QH]
                rfl
               refine QJ (i := 4) (N := some 10) (v := ?_) (a' := ?_) (ab 34 1662567551) rfl rfl (QI HT_.out (by kernel_rfl)) (fun _ _ _ h => h) (Or.inl ⟨by rfl,?_⟩) ?_ ?_
               rotate_left
               ·intro w'
                go_simp
                with_reducible rfl
               rotate_left
               ·simp only [Act.put,QK,QL,QM,QG,QH]
                rfl
               refine one_ (i := 7) (N := some 13) (ab 34 1662567679) rfl rfl (one_of HT_.out (by kernel_rfl)) (by decide) (fun K hK => ?_)
               refine goes_ Tryd.func49 (by kernel_rfl) rfl #[.int .i64 a0_1] (by rfl) rfl rfl (by (try simp only [List.map_toArray,List.map_cons,List.map_nil]); first | done | rfl | (simp only [List.length_drop,List.length_take]; rfl)) ?_
               with_reducible refine (spec_FormatInt.calls k a0_1 t335 _ A7.out).mono ?_
               rintro e w29 ⟨rfl,hb⟩
               refine ⟨_,rfl,?_⟩
               have n0_ := QN (blk_below (g := gb332) (o := _) (by (with_reducible repeat (first | refine blk_drewN ?_ _ | refine blk_drew ?_ | refine blk_alloc ?_ _)); exact BK332.out) hb)
               have n1_ := QN (below_step (by repeat (first | (with_reducible first | exact HB.out | apply QD | apply QB | apply QC | refine below_set ?_ GE332.out) | exact HB.out)) hb)
               clear BK332
               clear HB
               revert n0_ n1_
               intro BK332 HB
               (try clear hb)
               (try clear hb2)
               (try clear hk)
               (try clear hi)
               refine hK.out _ _ (by (repeat' apply And.intro) <;> first | exact (QF BK332.out _).trans rfl) (fun hHeld => ?_)
               clear hK K
               refine norm_ (a' := ?_) ?_ ?_
               rotate_left
               ·show Act.put _ (some 13) _ = _
                simp only [Act.put,QK,QL,QM,QG,QH]
                rfl
               refine QJ (i := 8) (N := some 14) (v := ?_) (a' := ?_) (ab 34 1662567935) rfl rfl (QI HT_.out (by kernel_rfl)) (fun _ _ _ h => h) (Or.inl ⟨by rfl,?_⟩) ?_ ?_
               rotate_left
               ·intro w'
                go_simp
                with_reducible rfl
               rotate_left
               ·simp only [Act.put,QK,QL,QM,QG,QH]
                rfl
               refine QJ (i := 9) (N := some 15) (v := ?_) (a' := ?_) (ab 34 1662568447) rfl rfl (QI HT_.out (by kernel_rfl)) (fun _ _ _ h => h) (Or.inl ⟨by rfl,?_⟩) ?_ ?_
               rotate_left
               ·intro w'
                go_simp
                with_reducible rfl
               rotate_left
               ·simp only [Act.put,QK,QL,QM,QG,QH]
                rfl
               refine one_ (i := 11) (N := some 17) (ab 34 1662570495) rfl rfl (one_of HT_.out (by kernel_rfl)) (by decide) (fun K hK => ?_)
               refine goes_ Tryd.func50 (by kernel_rfl) rfl #[.agg #[.int .i64 a0_0,.int .i64 a0_1,.bool a0_2,.bool a0_3,.slice A0_4 l0_4.length c0_4,.slice A0_5 l0_5.length c0_5,.int .i64 a0_6,.int .i64 a0_7]] (by rfl) rfl rfl (by (try simp only [List.map_toArray,List.map_cons,List.map_nil]); first | done | rfl | (simp only [List.length_drop,List.length_take]; rfl)) ?_
               with_reducible refine (spec_RulesWord.calls k a0_0 a0_1 a0_2 a0_3 _ _ l0_4 _ _ l0_5 a0_6 a0_7 t336 _ ?side1 ?side2 ?side3 ?side4 A10.out).mono ?_
               (case side1 => repeat (first | exact (Kd.C_below HR0_4.out HB.out) | (with_reducible refine Kd.C_alloc ?_ _) | (with_reducible refine Kd.C_drewN ?_ _) | (with_reducible refine Kd.C_drew ?_)))
               (case side2 => exact HC0_4.out)
               (case side3 => repeat (first | exact (Kd.C_below HR0_5.out HB.out) | (with_reducible refine Kd.C_alloc ?_ _) | (with_reducible refine Kd.C_drewN ?_ _) | (with_reducible refine Kd.C_drew ?_)))
               (case side4 => exact HC0_5.out)
               rintro e w30 ⟨rfl,hb⟩
               refine ⟨_,rfl,?_⟩
               have n0_ := QN (blk_below (g := gb332) (o := _) (by (with_reducible repeat (first | refine blk_drewN ?_ _ | refine blk_drew ?_ | refine blk_alloc ?_ _)); exact BK332.out) hb)
               have n1_ := QN (below_step (by repeat (first | (with_reducible first | exact HB.out | apply QD | apply QB | apply QC | refine below_set ?_ GE332.out) | exact HB.out)) hb)
               clear BK332
               clear HB
               revert n0_ n1_
               intro BK332 HB
               (try clear hb)
               (try clear hb2)
               (try clear hk)
               (try clear hi)
               refine hK.out _ _ (by (repeat' apply And.intro) <;> first | exact (QF BK332.out _).trans rfl) (fun hHeld => ?_)
               clear hK K
               refine norm_ (a' := ?_) ?_ ?_
               rotate_left
               ·show Act.put _ (some 17) _ = _
                simp only [Act.put,QK,QL,QM,QG,QH]
                rfl
               refine QJ (i := 12) (N := some 18) (v := ?_) (a' := ?_) (ab 34 1662574591) rfl rfl (QI HT_.out (by kernel_rfl)) (fun _ _ _ h => h) (Or.inl ⟨by rfl,?_⟩) ?_ ?_
               rotate_left
               ·intro w'
                go_simp
                with_reducible rfl
               rotate_left
               ·simp only [Act.put,QK,QL,QM,QG,QH]
                rfl
               refine QJ (i := 13) (N := some 19) (v := ?_) (a' := ?_) (ab 34 1662582783) rfl rfl (QI HT_.out (by kernel_rfl)) (fun _ _ _ h => h) (Or.inl ⟨by rfl,?_⟩) ?_ ?_
               rotate_left
               ·intro w'
                go_simp
                with_reducible rfl
               rotate_left
               ·simp only [Act.put,QK,QL,QM,QG,QH]
                rfl
               refine one_ (i := 16) (N := some 22) (ab 34 1662648319) rfl rfl (one_of HT_.out (by kernel_rfl)) (by decide) (fun K hK => ?_)
               refine goes_ Tryd.func51 (by kernel_rfl) rfl #[.slice A0_4 l0_4.length c0_4] (by rfl) rfl rfl (by (try simp only [List.map_toArray,List.map_cons,List.map_nil]); first | done | rfl | (simp only [List.length_drop,List.length_take]; rfl)) ?_
               with_reducible refine (spec_l23Pattern.calls k _ _ l0_4 t337 _ ?side1 ?side2 A13.out).mono ?_
               (case side1 => repeat (first | exact (Kd.C_below HR0_4.out HB.out) | (with_reducible refine Kd.C_alloc ?_ _) | (with_reducible refine Kd.C_drewN ?_ _) | (with_reducible refine Kd.C_drew ?_)))
               (case side2 => exact HC0_4.out)
               rintro e w31 ⟨rfl,hb⟩
               refine ⟨_,rfl,?_⟩
               have n0_ := QN (blk_below (g := gb332) (o := _) (by (with_reducible repeat (first | refine blk_drewN ?_ _ | refine blk_drew ?_ | refine blk_alloc ?_ _)); exact BK332.out) hb)
               have n1_ := QN (below_step (by repeat (first | (with_reducible first | exact HB.out | apply QD | apply QB | apply QC | refine below_set ?_ GE332.out) | exact HB.out)) hb)
               clear BK332
               clear HB
               revert n0_ n1_
               intro BK332 HB
               (try clear hb)
               (try clear hb2)
               (try clear hk)
               (try clear hi)
               refine hK.out _ _ (by (repeat' apply And.intro) <;> first | exact (QF BK332.out _).trans rfl) (fun hHeld => ?_)
               clear hK K
               refine norm_ (a' := ?_) ?_ ?_
               rotate_left
               ·show Act.put _ (some 22) _ = _
                simp only [Act.put,QK,QL,QM,QG,QH]
                rfl
               refine QJ (i := 17) (N := some 23) (v := ?_) (a' := ?_) (ab 34 1662779391) rfl rfl (QI HT_.out (by kernel_rfl)) (fun _ _ _ h => h) (Or.inl ⟨by rfl,?_⟩) ?_ ?_
               rotate_left
               ·intro w'
                go_simp
                with_reducible rfl
               rotate_left
               ·simp only [Act.put,QK,QL,QM,QG,QH]
                rfl
               refine QJ (i := 18) (N := some 24) (v := ?_) (a' := ?_) (ab 34 1663041535) rfl rfl (QI HT_.out (by kernel_rfl)) (fun _ _ _ h => h) (Or.inl ⟨by rfl,?_⟩) ?_ ?_
               rotate_left
               ·intro w'
                go_simp
                with_reducible rfl
               rotate_left
               ·simp only [Act.put,QK,QL,QM,QG,QH]
                rfl
               refine one_ (i := 21) (N := some 27) (ab 34 1665138687) rfl rfl (one_of HT_.out (by kernel_rfl)) (by decide) (fun K hK => ?_)
               refine goes_ Tryd.func51 (by kernel_rfl) rfl #[.slice A0_5 l0_5.length c0_5] (by rfl) rfl rfl (by (try simp only [List.map_toArray,List.map_cons,List.map_nil]); first | done | rfl | (simp only [List.length_drop,List.length_take]; rfl)) ?_
               with_reducible refine (spec_l23Pattern.calls k _ _ l0_5 t338 _ ?side1 ?side2 A16.out).mono ?_
               (case side1 => repeat (first | exact (Kd.C_below HR0_5.out HB.out) | (with_reducible refine Kd.C_alloc ?_ _) | (with_reducible refine Kd.C_drewN ?_ _) | (with_reducible refine Kd.C_drew ?_)))
               (case side2 => exact HC0_5.out)
               rintro e w32 ⟨rfl,hb⟩
               refine ⟨_,rfl,?_⟩
               have n0_ := QN (blk_below (g := gb332) (o := _) (by (with_reducible repeat (first | refine blk_drewN ?_ _ | refine blk_drew ?_ | refine blk_alloc ?_ _)); exact BK332.out) hb)
               have n1_ := QN (below_step (by repeat (first | (with_reducible first | exact HB.out | apply QD | apply QB | apply QC | refine below_set ?_ GE332.out) | exact HB.out)) hb)
               clear BK332
               clear HB
               revert n0_ n1_
               intro BK332 HB
               (try clear hb)
               (try clear hb2)
               (try clear hk)
               (try clear hi)
               refine hK.out _ _ (by (repeat' apply And.intro) <;> first | exact (QF BK332.out _).trans rfl) (fun hHeld => ?_)
               clear hK K
               refine norm_ (a' := ?_) ?_ ?_
               rotate_left
               ·show Act.put _ (some 27) _ = _
                simp only [Act.put,QK,QL,QM,QG,QH]
                rfl
               refine QJ (i := 22) (N := some 28) (v := ?_) (a' := ?_) (ab 34 1669332991) rfl rfl (QI HT_.out (by kernel_rfl)) (fun _ _ _ h => h) (Or.inl ⟨by rfl,?_⟩) ?_ ?_
               rotate_left
               ·intro w'
                go_simp
                with_reducible rfl
               rotate_left
               ·simp only [Act.put,QK,QL,QM,QG,QH]
                rfl
               refine QJ (i := 23) (N := some 29) (v := ?_) (a' := ?_) (ab 34 1677721599) rfl rfl (QI HT_.out (by kernel_rfl)) (fun _ _ _ h => h) (Or.inl ⟨by rfl,?_⟩) ?_ ?_
               rotate_left
               ·intro w'
                go_simp
                with_reducible rfl
               rotate_left
               ·simp only [Act.put,QK,QL,QM,QG,QH]
                rfl
               refine one_ (i := 26) (N := some 32) (ab 34 1744830463) rfl rfl (one_of HT_.out (by kernel_rfl)) (by decide) (fun K hK => ?_)
               refine goes_ Tryd.func49 (by kernel_rfl) rfl #[.int .i64 a0_6] (by rfl) rfl rfl (by (try simp only [List.map_toArray,List.map_cons,List.map_nil]); first | done | rfl | (simp only [List.length_drop,List.length_take]; rfl)) ?_
               with_reducible refine (spec_FormatInt.calls k a0_6 t339 _ A19.out).mono ?_
               rintro e w33 ⟨rfl,hb⟩
               refine ⟨_,rfl,?_⟩
               have n0_ := QN (blk_below (g := gb332) (o := _) (by (with_reducible repeat (first | refine blk_drewN ?_ _ | refine blk_drew ?_ | refine blk_alloc ?_ _)); exact BK332.out) hb)
               have n1_ := QN (below_step (by repeat (first | (with_reducible first | exact HB.out | apply QD | apply QB | apply QC | refine below_set ?_ GE332.out) | exact HB.out)) hb)
               clear BK332
               clear HB
               revert n0_ n1_
               intro BK332 HB
               (try clear hb)
               (try clear hb2)
               (try clear hk)
               (try clear hi)
               refine hK.out _ _ (by (repeat' apply And.intro) <;> first | exact (QF BK332.out _).trans rfl) (fun hHeld => ?_)
               clear hK K
               refine norm_ (a' := ?_) ?_ ?_
               rotate_left
               ·show Act.put _ (some 32) _ = _
                simp only [Act.put,QK,QL,QM,QG,QH]
                rfl
               refine QJ (i := 27) (N := some 33) (v := ?_) (a' := ?_) (ab 34 1879048191) rfl rfl (QI HT_.out (by kernel_rfl)) (fun _ _ _ h => h) (Or.inl ⟨by rfl,?_⟩) ?_ ?_
               rotate_left
               ·intro w'
                go_simp
                with_reducible rfl
               rotate_left
               ·simp only [Act.put,QK,QL,QM,QG,QH]
                rfl
               refine QJ (i := 28) (N := some 34) (v := ?_) (a' := ?_) (ab 34 2147483647) rfl rfl (QI HT_.out (by kernel_rfl)) (fun _ _ _ h => h) (Or.inl ⟨by rfl,?_⟩) ?_ ?_
               rotate_left
               ·intro w'
                go_simp
                with_reducible rfl
               rotate_left
               ·simp only [Act.put,QK,QL,QM,QG,QH]
                rfl
               refine one_ (i := 31) (N := some 37) (ab 34 4294967295) rfl rfl (one_of HT_.out (by kernel_rfl)) (by decide) (fun K hK => ?_)
               refine goes_ Tryd.func49 (by kernel_rfl) rfl #[.int .i64 a0_7] (by rfl) rfl rfl (by (try simp only [List.map_toArray,List.map_cons,List.map_nil]); first | done | rfl | (simp only [List.length_drop,List.length_take]; rfl)) ?_
               with_reducible refine (spec_FormatInt.calls k a0_7 t340 _ A22.out).mono ?_
               rintro e w34 ⟨rfl,hb⟩
               refine ⟨_,rfl,?_⟩
               have n0_ := QN (blk_below (g := gb332) (o := _) (by (with_reducible repeat (first | refine blk_drewN ?_ _ | refine blk_drew ?_ | refine blk_alloc ?_ _)); exact BK332.out) hb)
               have n1_ := QN (below_step (by repeat (first | (with_reducible first | exact HB.out | apply QD | apply QB | apply QC | refine below_set ?_ GE332.out) | exact HB.out)) hb)
               clear BK332
               clear HB
               revert n0_ n1_
               intro BK332 HB
               (try clear hb)
               (try clear hb2)
               (try clear hk)
               (try clear hi)
               refine hK.out _ _ (by (repeat' apply And.intro) <;> first | exact (QF BK332.out _).trans rfl) (fun hHeld => ?_)
               clear hK K
               refine norm_ (a' := ?_) ?_ ?_
               rotate_left
               ·show Act.put _ (some 37) _ = _
                simp only [Act.put,QK,QL,QM,QG,QH]
                rfl
               refine QJ (i := 32) (N := some 38) (v := ?_) (a' := ?_) (ab 34 8589934591) rfl rfl (QI HT_.out (by kernel_rfl)) (fun _ _ _ h => h) (Or.inl ⟨by rfl,?_⟩) ?_ ?_
               rotate_left
               ·intro w'
                go_simp
                with_reducible rfl
               rotate_left
               ·simp only [Act.put,QK,QL,QM,QG,QH]
                rfl
               refine QJ (i := 33) (N := some 2) (v := ?_) (a' := ?_) (ab 34 17179869183) rfl rfl (QI HT_.out (by kernel_rfl)) (fun _ _ _ h => h) (Or.inl ⟨by rfl,?_⟩) ?_ ?_
               rotate_left
               ·intro w'
                go_simp
                with_reducible rfl
               rotate_left
               ·simp only [Act.put,QK,QL,QM,QG,QH]
                rfl
               refine done_ (done_of HT_.out (by kernel_rfl)) ?_
               try go_wp2
               go_ret
               exact ⟨by first | rfl | (simp [errW_none,errW_some] <;> rfl) | (simp [*,errW_none,errW_some] <;> rfl),by repeat (first | (with_reducible first | exact HB.out | apply QD | apply QB | apply QC | refine below_set ?_ GE332.out) | exact HB.out)⟩
              ·rw [if_neg c23] at H
               exact absurd H (by simp)
             ·rw [if_neg c21] at H
              exact absurd H (by simp)
            ·rw [if_neg c20] at H
             exact absurd H (by simp)
           ·rw [if_neg c18] at H
            exact absurd H (by simp)
          ·rw [if_neg c17] at H
           exact absurd H (by simp)
         ·rw [if_neg c15] at H
          exact absurd H (by simp)
        ·rw [if_neg c14] at H
         exact absurd H (by simp)
       ·rw [if_neg c12] at H
        exact absurd H (by simp)
      ·rw [if_neg c11] at H
       exact absurd H (by simp)
     ·rw [if_neg c9] at H
      exact absurd H (by simp)
    ·rw [if_neg c8] at H
     exact absurd H (by simp)
   ·rw [if_neg c6] at H
    exact absurd H (by simp)
  ·rw [if_neg c5] at H
   exact absurd H (by simp)
 ·replace c3 := Bool.eq_false_iff.mpr c3
  subst c3
  rw [if_neg (show ¬ (false = true) by decide)] at H
  obtain rfl := Option.some.inj H
  go_enter Tryd.func23,Tryd.ntmps23
  go_wp2_with (first | ((with_reducible refine gate_dst (N := 1) rfl ?_); refine box_event ?hg (N := 1) ?hd (cs := #[.int .i64 a0_0,.int .i64 a0_1,.bool a0_2,.bool a0_3,.slice A0_4 l0_4.length c0_4,.slice A0_5 l0_5.length c0_5,.int .i64 a0_6,.int .i64 a0_7]) (t := 26) ?hr ?_; (case hd => rfl); (case hg => rfl); (case hr => first | (go_simp; done) | (go_simp; rfl)); intro gb332 hg w35 hbox hb; have n0_ := QN (below_step (by repeat (first | (with_reducible first | exact HB.out | apply QD | apply QB | apply QC) | exact HB.out)) hb); have n1_ := QN (hbox); have n2_ := QN ((by rw [hg]; exact (below_size (by repeat (first | (with_reducible first | exact HB.out | apply QD | apply QB | apply QC) | exact HB.out))) : w.heap.size ≤ gb332)); have n3_ := QN ((by rw [hg]; exact (below_size (by repeat (first | (with_reducible first | exact HB.out | apply QD | apply QB | apply QC) | exact HB.out))) : w.heap.size ≤ gb332)); clear HB; revert n0_ n1_ n2_ n3_; intro HB BK332 GW332 GE332; clear hb hbox hg; have hcz36_0 : w35.cell? ⟨gb332,0,none⟩ = some (.int .i64 a0_0) := (QF BK332.out 0).trans rfl; have hcz36_1 : w35.cell? ⟨gb332,1,none⟩ = some (.int .i64 a0_1) := (QF BK332.out 1).trans rfl; have hcz36_2 : w35.cell? ⟨gb332,2,none⟩ = some (.bool a0_2) := (QF BK332.out 2).trans rfl; have hcz36_3 : w35.cell? ⟨gb332,3,none⟩ = some (.bool a0_3) := (QF BK332.out 3).trans rfl; have hcz36_4 : w35.cell? ⟨gb332,4,none⟩ = some (.slice A0_4 l0_4.length c0_4) := (QF BK332.out 4).trans rfl; have hcz36_5 : w35.cell? ⟨gb332,5,none⟩ = some (.slice A0_5 l0_5.length c0_5) := (QF BK332.out 5).trans rfl; have hcz36_6 : w35.cell? ⟨gb332,6,none⟩ = some (.int .i64 a0_6) := (QF BK332.out 6).trans rfl; have hcz36_7 : w35.cell? ⟨gb332,7,none⟩ = some (.int .i64 a0_7) := (QF BK332.out 7).trans rfl; have hfz36_0 := QE BK332.out 0; have hfz36_1 := QE BK332.out 1; have hfz36_2 := QE BK332.out 2; have hfz36_3 := QE BK332.out 3; have hfz36_4 := QE BK332.out 4; have hfz36_5 := QE BK332.out 5; have hfz36_6 := QE BK332.out 6; have hfz36_7 := QE BK332.out 7) | ((with_reducible refine gate_callee (f := 48) rfl ?_); refine goesL_ (some 4) rfl rfl Tryd.func48 (by kernel_rfl) rfl #[.agg #[.int .i64 a0_0,.int .i64 a0_1,.bool a0_2,.bool a0_3,.slice A0_4 l0_4.length c0_4,.slice A0_5 l0_5.length c0_5,.int .i64 a0_6,.int .i64 a0_7]] rfl (by (try simp only [List.map_toArray,List.map_cons,List.map_nil]); first | done | rfl | (simp only [List.length_drop,List.length_take]; rfl)) ?_; (with_reducible refine (spec_IsRules.calls k a0_0 a0_1 a0_2 a0_3 _ _ l0_4 _ _ l0_5 a0_6 a0_7 false _ ?side1 ?side2 ?side3 ?side4 A2.out).mono ?_); (case side1 => repeat (first | exact (Kd.C_below HR0_4.out HB.out) | (with_reducible refine Kd.C_alloc ?_ _) | (with_reducible refine Kd.C_drewN ?_ _) | (with_reducible refine Kd.C_drew ?_))); (case side2 => exact HC0_4.out); (case side3 => repeat (first | exact (Kd.C_below HR0_5.out HB.out) | (with_reducible refine Kd.C_alloc ?_ _) | (with_reducible refine Kd.C_drewN ?_ _) | (with_reducible refine Kd.C_drew ?_))); (case side4 => exact HC0_5.out); rintro e w37 ⟨rfl,hb⟩; refine ⟨_,rfl,?_⟩; have n0_ := QN (blk_below (g := gb332) (o := _) (by (with_reducible repeat (first | refine blk_drewN ?_ _ | refine blk_drew ?_ | refine blk_alloc ?_ _)); exact BK332.out) hb); have n1_ := QN (below_step (by repeat (first | (with_reducible first | exact HB.out | apply QD | apply QB | apply QC | refine below_set ?_ GE332.out) | exact HB.out)) hb); clear BK332; clear HB; revert n0_ n1_; intro BK332 HB; (try clear hb); (try clear hb2); (try clear hk); (try clear hi)))
  go_ret
  exact ⟨by first | rfl | (simp [errW_none,errW_some] <;> rfl) | (simp [*,errW_none,errW_some] <;> rfl),by repeat (first | (with_reducible first | exact HB.out | apply QD | apply QB | apply QC | refine below_set ?_ GE332.out) | exact HB.out)⟩

end Go.Proofs.YtdfmobcocaijpaaDoor.QFnExactParseRules
