/- What a call of each Go function that FnExactParseRules reaches comes to, as a Lean function: texts of the kit's print, turned by wip/remake.py. No condition beyond what each names. -/
import Derived.Test.YtdfmobcocaijpaaDoorQFnExactParseRulesx0
namespace Go.Proofs.YtdfmobcocaijpaaDoor.QFnExactParseRules
open Go.RowKit Go.Proofs.YtdfmobcocaijpaaDoorW.PrintWords Go.Proofs.YtdfmobcocaijpaaDoorW.PrintLast Go.Proofs.YtdfmobcocaijpaaDoorW.PrintMore
open Go.Proofs.YtdfmobcocaijpaaDoorW.PrintWords renaming pw_below_drewN → QB, below_drew1 → QC, below_alloc → QD, blk_cell → QE, blk_frozen → QF, below_set → QJ, gate_callee → QK
open Go.Proofs.YtdfmobcocaijpaaDoorW.PrintLast renaming i64_w → QG, i32_w → QH, any_of → QI
open List renaming setIfInBounds_toArray → QL, set_cons_zero → QM, set_cons_succ → QN
open Go.Proofs.YtdfmobcocaijpaaDoorW.PrintWords.Aside0 renaming mk → QO
open Option renaming bind_eq_some_iff → QP
attribute [local go_sem] max2_int min2_int max_two min_two max_three min_three max_four min_four   -- for this text's walks alone
set_option linter.unusedVariables false
set_option linter.unusedSimpArgs false

/-! ### impl_InRange: function 31 -/
def impl_InRange.f (a0 : Int) (a1 : Int) (a2 : Int) : Option (Bool) := if a1 ≤ a0 then (some (decide (a0 ≤ a2))) else (some false)
set_option maxHeartbeats 8000000 in
set_option maxRecDepth 100000 in
theorem impl_InRange.calls (a0 : Int) (a1 : Int) (a2 : Int) (r : Bool) (w : World) (h : impl_InRange.f a0 a1 a2 = some r) :
  Calls Tryd.prog 31 #[.int .i64 a0,.int .i64 a1,.int .i64 a2] w fun e w' => e = .returned (.bool r) ∧ Drawn0 w w' := by
 have H : (if a1 ≤ a0 then (some (decide (a0 ≤ a2))) else (some false)) = some r := h
 clear h
 by_cases c4 : a1 ≤ a0
 ·rw [if_pos c4] at H
  have c4b0 : decide (a1 ≤ a0) = true := decide_eq_true c4
  clear c4
  obtain rfl := Option.some.inj H
  go_enter Tryd.func31,Tryd.ntmps31
  go_wp2
  go_ret
  exact ⟨by first | rfl | (simp; done) | (simp [*]; done),by repeat (first | exact Drawn0.refl _ | apply Drawn0.step)⟩
 ·rw [if_neg c4] at H
  have c4b0 : decide (a1 ≤ a0) = false := decide_eq_false c4
  clear c4
  obtain rfl := Option.some.inj H
  go_enter Tryd.func31,Tryd.ntmps31
  go_wp2
  go_ret
  exact ⟨by first | rfl | (simp; done) | (simp [*]; done),by repeat (first | exact Drawn0.refl _ | apply Drawn0.step)⟩

/-! ### impl_isTest: function 79 -/
def impl_isTest.f (a0 : Int) : Option (Bool) := (impl_InRange.f a0 100 103).bind fun t101 => (if t101 = true then (some true) else ((impl_InRange.f a0 200 212).bind fun t102 => (if t102 = true then (some true) else ((impl_InRange.f a0 300 312).bind fun t103 => (if t103 = true then (some true) else (some (a0 == 400)))))))
set_option maxHeartbeats 8000000 in
set_option maxRecDepth 100000 in
theorem impl_isTest.calls (a0 : Int) (r : Bool) (w : World) (h : impl_isTest.f a0 = some r) :
  Calls Tryd.prog 79 #[.int .i64 a0] w fun e w' => e = .returned (.bool r) ∧ Drawn0 w w' := by
 have H : ((impl_InRange.f a0 100 103).bind fun t101 => (if t101 = true then (some true) else ((impl_InRange.f a0 200 212).bind fun t102 => (if t102 = true then (some true) else ((impl_InRange.f a0 300 312).bind fun t103 => (if t103 = true then (some true) else (some (a0 == 400)))))))) = some r := h
 clear h
 replace H := QP.mp H
 obtain ⟨t101,A20,H⟩ := H
 have A2 := QO A20
 clear A20
 by_cases c3 : t101 = true
 ·subst c3
  rw [if_pos rfl] at H
  obtain rfl := Option.some.inj H
  go_enter Tryd.func79,Tryd.ntmps79
  go_wp2_with (first | ((with_reducible refine QK (f := 31) rfl ?_); refine goesL_ (some 4) rfl rfl Tryd.func31 (by kernel_rfl) rfl #[.int .i64 a0,.int .i64 100,.int .i64 103] rfl (by (try simp only [List.map_toArray,List.map_cons,List.map_nil]); first | done | rfl | (simp only [List.length_drop,List.length_take]; rfl)) ?_; (with_reducible refine (impl_InRange.calls a0 100 103 true _ A2.out).mono ?_); rintro e w' ⟨rfl,⟨nd,rfl⟩⟩; refine ⟨_,rfl,?_⟩))
  go_ret
  exact ⟨by first | rfl | (simp; done) | (simp [*]; done),by repeat (first | exact Drawn0.refl _ | apply Drawn0.step)⟩
 ·replace c3 := Bool.eq_false_iff.mpr c3
  subst c3
  rw [if_neg (show ¬ (false = true) by decide)] at H
  replace H := QP.mp H
  obtain ⟨t102,A40,H⟩ := H
  have A4 := QO A40
  clear A40
  by_cases c5 : t102 = true
  ·subst c5
   rw [if_pos rfl] at H
   obtain rfl := Option.some.inj H
   go_enter Tryd.func79,Tryd.ntmps79
   go_wp2_with (first | ((with_reducible refine QK (f := 31) rfl ?_); refine goesL_ (some 4) rfl rfl Tryd.func31 (by kernel_rfl) rfl #[.int .i64 a0,.int .i64 100,.int .i64 103] rfl (by (try simp only [List.map_toArray,List.map_cons,List.map_nil]); first | done | rfl | (simp only [List.length_drop,List.length_take]; rfl)) ?_; (with_reducible refine (impl_InRange.calls a0 100 103 false _ A2.out).mono ?_); rintro e w' ⟨rfl,⟨nd,rfl⟩⟩; refine ⟨_,rfl,?_⟩) | (go_at_call 31; (with_reducible refine (impl_InRange.calls a0 200 212 true _ A4.out).mono ?_); rintro e w' ⟨rfl,⟨nd,rfl⟩⟩))
   go_ret
   exact ⟨by first | rfl | (simp; done) | (simp [*]; done),by repeat (first | exact Drawn0.refl _ | apply Drawn0.step)⟩
  ·replace c5 := Bool.eq_false_iff.mpr c5
   subst c5
   rw [if_neg (show ¬ (false = true) by decide)] at H
   replace H := QP.mp H
   obtain ⟨t103,A60,H⟩ := H
   have A6 := QO A60
   clear A60
   by_cases c7 : t103 = true
   ·subst c7
    rw [if_pos rfl] at H
    obtain rfl := Option.some.inj H
    go_enter Tryd.func79,Tryd.ntmps79
    go_wp2_with (first | ((with_reducible refine QK (f := 31) rfl ?_); refine goesL_ (some 4) rfl rfl Tryd.func31 (by kernel_rfl) rfl #[.int .i64 a0,.int .i64 100,.int .i64 103] rfl (by (try simp only [List.map_toArray,List.map_cons,List.map_nil]); first | done | rfl | (simp only [List.length_drop,List.length_take]; rfl)) ?_; (with_reducible refine (impl_InRange.calls a0 100 103 false _ A2.out).mono ?_); rintro e w' ⟨rfl,⟨nd,rfl⟩⟩; refine ⟨_,rfl,?_⟩) | (go_at_call 31; (with_reducible refine (impl_InRange.calls a0 200 212 false _ A4.out).mono ?_); rintro e w' ⟨rfl,⟨nd,rfl⟩⟩) | (go_at_call 31; (with_reducible refine (impl_InRange.calls a0 300 312 true _ A6.out).mono ?_); rintro e w' ⟨rfl,⟨nd,rfl⟩⟩))
    go_ret
    exact ⟨by first | rfl | (simp; done) | (simp [*]; done),by repeat (first | exact Drawn0.refl _ | apply Drawn0.step)⟩
   ·replace c7 := Bool.eq_false_iff.mpr c7
    subst c7
    rw [if_neg (show ¬ (false = true) by decide)] at H
    obtain rfl := Option.some.inj H
    go_enter Tryd.func79,Tryd.ntmps79
    go_wp2_with (first | ((with_reducible refine QK (f := 31) rfl ?_); refine goesL_ (some 4) rfl rfl Tryd.func31 (by kernel_rfl) rfl #[.int .i64 a0,.int .i64 100,.int .i64 103] rfl (by (try simp only [List.map_toArray,List.map_cons,List.map_nil]); first | done | rfl | (simp only [List.length_drop,List.length_take]; rfl)) ?_; (with_reducible refine (impl_InRange.calls a0 100 103 false _ A2.out).mono ?_); rintro e w' ⟨rfl,⟨nd,rfl⟩⟩; refine ⟨_,rfl,?_⟩) | (go_at_call 31; (with_reducible refine (impl_InRange.calls a0 200 212 false _ A4.out).mono ?_); rintro e w' ⟨rfl,⟨nd,rfl⟩⟩) | (go_at_call 31; (with_reducible refine (impl_InRange.calls a0 300 312 false _ A6.out).mono ?_); rintro e w' ⟨rfl,⟨nd,rfl⟩⟩))
    go_ret
    exact ⟨by first | rfl | (simp; done) | (simp [*]; done),by repeat (first | exact Drawn0.refl _ | apply Drawn0.step)⟩

/-! ### impl_IsPattern: function 60 -/
mutual
def impl_IsPattern.l0 : Nat → List Int → Int → List Int → Int → Int → Option (Bool)
 | 0,_,_,_,_,_ => none
 | k + 1,x0,x3,x6,x7,x8 => if x8 < x7 then (if 0 ≤ x8 then (if x8 < (x6.length : Int) then ((impl_isTest.f (rd x6 x8)).bind fun t106 => (if t106 = true then (impl_IsPattern.l0 k x0 (wrap64 (x3 + 1)) x6 x7 (wrap64 (x8 + 1))) else (if (rd x6 x8) = (-1) then (impl_IsPattern.j1 k x0 x3 (rd x6 x8) x6 x7 x8 (decide (x3 ≥ 1))) else (impl_IsPattern.j1 k x0 x3 (rd x6 x8) x6 x7 x8 false)))) else (none)) else (none)) else ((impl_InRange.f (x0.length : Int) 1 20).bind fun t104 => (if t104 = true then (some (x3 == 1)) else (some false)))
def impl_IsPattern.j1 : Nat → List Int → Int → Int → List Int → Int → Int → Bool → Option (Bool)
 | 0,_,_,_,_,_,_,_ => none
 | k + 1,x0,x3,x5,x6,x7,x8,x17 => if x17 = true then (impl_IsPattern.l0 k x0 x3 x6 x7 (wrap64 (x8 + 1))) else (if x5 = (-2) then (if x3 ≥ 2 then (impl_IsPattern.l0 k x0 (wrap64 (x3 - 1)) x6 x7 (wrap64 (x8 + 1))) else (some false)) else (if x5 = (-3) then (if x3 ≥ 2 then (impl_IsPattern.l0 k x0 (wrap64 (x3 - 1)) x6 x7 (wrap64 (x8 + 1))) else (some false)) else (some false)))
end
def impl_IsPattern.f (k : Nat) (l0 : List Int) : Option (Bool) := impl_IsPattern.l0 k l0 0 l0 (l0.length : Int) 0
theorem impl_IsPattern.mono_l : ∀ k, (∀ y0 y1 y2 y3 y4, LeO (impl_IsPattern.l0 k y0 y1 y2 y3 y4) (impl_IsPattern.l0 (k + 1) y0 y1 y2 y3 y4)) ∧ (∀ y0 y1 y2 y3 y4 y5 y6, LeO (impl_IsPattern.j1 k y0 y1 y2 y3 y4 y5 y6) (impl_IsPattern.j1 (k + 1) y0 y1 y2 y3 y4 y5 y6))
 | 0 => ⟨fun _ _ _ _ _ r h => by simp [impl_IsPattern.l0] at h,fun _ _ _ _ _ _ _ r h => by simp [impl_IsPattern.j1] at h⟩
 | k + 1 => by
  obtain ⟨ih0,ih1⟩ := impl_IsPattern.mono_l k
  refine ⟨?_,?_⟩
  ·intro y0 y1 y2 y3 y4
   unfold impl_IsPattern.l0
   repeat' first
   | (with_reducible exact ih0 _ _ _ _ _)
   | (with_reducible exact ih1 _ _ _ _ _ _ _)
   | (with_reducible exact LeO.refl _)
   | (with_reducible exact LeO.none _)
   | (with_reducible refine LeO.ite ?_ ?_)
   | (with_reducible refine LeO.bind ?_ (fun _ => ?_))
   | exact ih0 _ _ _ _ _
   | exact ih1 _ _ _ _ _ _ _
   | exact LeO.none _
   | refine LeO.ite ?_ ?_
   | refine LeO.bind ?_ (fun _ => ?_)
  ·intro y0 y1 y2 y3 y4 y5 y6
   unfold impl_IsPattern.j1
   repeat' first
   | (with_reducible exact ih0 _ _ _ _ _)
   | (with_reducible exact ih1 _ _ _ _ _ _ _)
   | (with_reducible exact LeO.refl _)
   | (with_reducible exact LeO.none _)
   | (with_reducible refine LeO.ite ?_ ?_)
   | (with_reducible refine LeO.bind ?_ (fun _ => ?_))
   | exact ih0 _ _ _ _ _
   | exact ih1 _ _ _ _ _ _ _
   | exact LeO.none _
   | refine LeO.ite ?_ ?_
   | refine LeO.bind ?_ (fun _ => ?_)
theorem impl_IsPattern.mono : ∀ a0 k, LeO (impl_IsPattern.f k a0) (impl_IsPattern.f (k + 1) a0) := by
 intro a0 k
 obtain ⟨ih0,ih1⟩ := impl_IsPattern.mono_l k
 unfold impl_IsPattern.f
 repeat' first
   | (with_reducible exact ih0 _ _ _ _ _)
   | (with_reducible exact ih1 _ _ _ _ _ _ _)
   | (with_reducible exact LeO.refl _)
   | (with_reducible exact LeO.none _)
   | (with_reducible refine LeO.ite ?_ ?_)
   | (with_reducible refine LeO.bind ?_ (fun _ => ?_))
   | exact ih0 _ _ _ _ _
   | exact ih1 _ _ _ _ _ _ _
   | exact LeO.none _
   | refine LeO.ite ?_ ?_
   | refine LeO.bind ?_ (fun _ => ?_)
set_option maxHeartbeats 8000000 in
set_option maxRecDepth 100000 in
theorem impl_IsPattern.calls (k : Nat) (A0 : Option Addr) (c0 : Nat) (l0 : List Int) (r : Bool) (w : World) (hr0 : Kd.C (Kd.int .i64) w A0 l0.length l0) (hc0 : l0.length ≤ c0) (h : impl_IsPattern.f k l0 = some r) :
  Calls Tryd.prog 60 #[.slice A0 l0.length c0] w fun e w' => e = .returned (.bool r) ∧ Drawn0 w w' := by
 have HR0 := QO hr0
 have HC0 := QO hc0
 clear hr0 hc0
 have H : (impl_IsPattern.l0 k l0 0 l0 (l0.length : Int) 0) = some r := h
 clear h
 have H' := QO H
 clear H
 go_enter Tryd.func60,Tryd.ntmps60
 go_wp2
 go_loopg [3,8] k (fun kq v3 v8 w' => ∃ (x3_1 : Int) (x8_1 : Int),v3 = .int .i64 x3_1 ∧ v8 = .int .i64 x8_1 ∧ Aside0 (impl_IsPattern.l0 kq l0 x3_1 l0 (l0.length : Int) x8_1 = some r) ∧ Aside0 (kq ≤ k) ∧ Drawn0 w w')
 case atStart => exact ⟨(0),(0),(by first | rfl | (simp; done) | (simp [*]; done)),(by first | rfl | (simp; done) | (simp [*]; done)),H',⟨Nat.le_refl _⟩,by repeat (first | exact Drawn0.refl _ | apply Drawn0.step)⟩
 case round =>
  clear H'
  obtain ⟨x3_1,x8_1,rfl,rfl,HA,HK1,⟨m1,rfl⟩⟩ := hrel
  cases gk with
  | zero => exact absurd HA.out (by simp [impl_IsPattern.l0])
  | succ k1 =>
   have H := HA.out
   clear HA
   simp only [impl_IsPattern.l0] at H
   by_cases c2 : x8_1 < (l0.length : Int)
   ·rw [if_pos c2] at H
    have c2b0 : decide (x8_1 < (l0.length : Int)) = true := decide_eq_true c2
    clear c2
    by_cases c3 : 0 ≤ x8_1
    ·rw [if_pos c3] at H
     have c3b0 : decide (0 ≤ x8_1) = true := decide_eq_true c3
     clear c3
     by_cases c4 : x8_1 < (l0.length : Int)
     ·rw [if_pos c4] at H
      have c4b0 : decide (x8_1 < (l0.length : Int)) = true := decide_eq_true c4
      clear c4
      replace H := QP.mp H
      obtain ⟨t106,A50,H⟩ := H
      have A5 := QO A50
      clear A50
      by_cases c6 : t106 = true
      ·subst c6
       rw [if_pos rfl] at H
       have H' := QO H
       clear H
       have p105 : 0 ≤ (x8_1 : Int) := of_decide_eq_true (by first | (with_reducible assumption) | assumption)
       have q105 : x8_1 < (l0.length : Int) := of_decide_eq_true (by first | (with_reducible assumption) | assumption)
       obtain ⟨ad105,e105,hx105_0⟩ := Kd.at_int HR0.out x8_1 p105 q105
       cases e105
       replace p105 := eq_true p105
       replace q105 := eq_true q105
       go_wp2_with (first | ((with_reducible refine QK (f := 79) rfl ?_); refine goesL_ (some 14) rfl rfl Tryd.func79 (by kernel_rfl) rfl #[.int .i64 (rd l0 x8_1)] rfl (by (try simp only [List.map_toArray,List.map_cons,List.map_nil]); first | done | rfl | (simp only [List.length_drop,List.length_take]; rfl)) ?_; (with_reducible refine (impl_isTest.calls (rd l0 x8_1) true _ A5.out).mono ?_); rintro e w' ⟨rfl,⟨nd,rfl⟩⟩; refine ⟨_,rfl,?_⟩))
       go_roundg k1
       case measure => have := HK1.out; omega
       case rel => exact ⟨(wrap64 (x3_1 + 1)),(wrap64 (x8_1 + 1)),(by first | rfl | (simp; done) | (simp [*]; done)),(by first | rfl | (simp; done) | (simp [*]; done)),H',⟨by have := HK1.out; omega⟩,by repeat (first | exact Drawn0.refl _ | apply Drawn0.step)⟩
      ·replace c6 := Bool.eq_false_iff.mpr c6
       subst c6
       rw [if_neg (show ¬ (false = true) by decide)] at H
       have HC7 := QO H
       clear H
       have p105 : 0 ≤ (x8_1 : Int) := of_decide_eq_true (by first | (with_reducible assumption) | assumption)
       have q105 : x8_1 < (l0.length : Int) := of_decide_eq_true (by first | (with_reducible assumption) | assumption)
       obtain ⟨ad105,e105,hx105_0⟩ := Kd.at_int HR0.out x8_1 p105 q105
       cases e105
       replace p105 := eq_true p105
       replace q105 := eq_true q105
       go_upto_region 8 with (first | ((with_reducible refine QK (f := 79) rfl ?_); refine goesL_ (some 14) rfl rfl Tryd.func79 (by kernel_rfl) rfl #[.int .i64 (rd l0 x8_1)] rfl (by (try simp only [List.map_toArray,List.map_cons,List.map_nil]); first | done | rfl | (simp only [List.length_drop,List.length_take]; rfl)) ?_; (with_reducible refine (impl_isTest.calls (rd l0 x8_1) false _ A5.out).mono ?_); rintro e w' ⟨rfl,⟨nd,rfl⟩⟩; refine ⟨_,rfl,?_⟩))
       (try simp only [Act.put,QL,QM,QN])
       go_cut [17] (fun v17 wc => ∃ (kq : Nat) (x17_6 : Bool),v17 = .bool x17_6 ∧ Aside0 (impl_IsPattern.j1 kq l0 x3_1 (rd l0 x8_1) l0 (l0.length : Int) x8_1 x17_6 = some r) ∧ Aside0 (kq ≤ k1) ∧ Drawn0 w wc)
       case first =>
        have H := HC7.out
        clear HC7
        by_cases c8 : (rd l0 x8_1) = (-1)
        ·rw [if_pos c8] at H
         have c8b0 : ((rd l0 x8_1) == (-1)) = true := beq_iff_eq.mpr c8
         have c8b1 : ((rd l0 x8_1) != (-1)) = false := bne_eq_false_iff_eq.mpr c8
         clear c8
         (first | rw [c8b0] | (simp only [QG,QH]; rw [c8b0]) | skip)
         have H' := QO H
         clear H
         go_wp2
         go_meet
         case rel => exact ⟨_,(decide (x3_1 ≥ 1)),(by first | rfl | (simp; done) | (simp [*]; done)),H',⟨by have := HK1.out; first | omega | exact Nat.le_refl _⟩,by repeat (first | exact Drawn0.refl _ | apply Drawn0.step)⟩
        ·rw [if_neg c8] at H
         have c8b0 : ((rd l0 x8_1) == (-1)) = false := beq_eq_false_iff_ne.mpr c8
         have c8b1 : ((rd l0 x8_1) != (-1)) = true := bne_iff_ne.mpr c8
         (first | rw [c8b0] | (simp only [QG,QH]; rw [c8b0]) | skip)
         have H' := QO H
         clear H
         go_wp2
         go_meet
         case rel => exact ⟨_,(false),(by first | rfl | (simp; done) | (simp [*]; done)),H',⟨by have := HK1.out; first | omega | exact Nat.le_refl _⟩,by repeat (first | exact Drawn0.refl _ | apply Drawn0.step)⟩
       case rest =>
        clear HC7
        try clear p1
        try clear q1
        try clear hx1
        try clear c2
        try clear c2b0
        try clear p2
        try clear c3
        try clear c3b0
        try clear c4
        try clear c4b0
        try clear c6
        try clear p6
        try clear c7
        try clear c8
        try clear c8b0
        try clear c8b1
        try clear hx105_0
        try clear p105
        try clear q105
        obtain ⟨kq,x17_6,rfl,HA,HJ6,⟨mc6,rfl⟩⟩ := hcut
        cases kq with
        | zero => exact absurd HA.out (by simp [impl_IsPattern.j1])
        | succ kj6 =>
         have H := HA.out
         clear HA
         simp only [impl_IsPattern.j1] at H
         by_cases c9 : x17_6 = true
         ·subst c9
          rw [if_pos rfl] at H
          have H' := QO H
          clear H
          go_wp2
          go_roundg kj6
          case measure => have := HK1.out; have := HJ6.out; omega
          case rel => exact ⟨(x3_1),(wrap64 (x8_1 + 1)),(by first | rfl | (simp; done) | (simp [*]; done)),(by first | rfl | (simp; done) | (simp [*]; done)),H',⟨by have := HK1.out; have := HJ6.out; omega⟩,by repeat (first | exact Drawn0.refl _ | apply Drawn0.step)⟩
         ·replace c9 := Bool.eq_false_iff.mpr c9
          subst c9
          rw [if_neg (show ¬ (false = true) by decide)] at H
          by_cases c10 : (rd l0 x8_1) = (-2)
          ·rw [if_pos c10] at H
           have c10b0 : ((rd l0 x8_1) == (-2)) = true := beq_iff_eq.mpr c10
           have c10b1 : ((rd l0 x8_1) != (-2)) = false := bne_eq_false_iff_eq.mpr c10
           clear c10
           by_cases c11 : x3_1 ≥ 2
           ·rw [if_pos c11] at H
            have c11b0 : decide (2 ≤ x3_1) = true := decide_eq_true c11
            clear c11
            have H' := QO H
            clear H
            go_wp2
            go_roundg kj6
            case measure => have := HK1.out; have := HJ6.out; omega
            case rel => exact ⟨(wrap64 (x3_1 - 1)),(wrap64 (x8_1 + 1)),(by first | rfl | (simp; done) | (simp [*]; done)),(by first | rfl | (simp; done) | (simp [*]; done)),H',⟨by have := HK1.out; have := HJ6.out; omega⟩,by repeat (first | exact Drawn0.refl _ | apply Drawn0.step)⟩
           ·rw [if_neg c11] at H
            have c11b0 : decide (2 ≤ x3_1) = false := decide_eq_false c11
            clear c11
            obtain rfl := Option.some.inj H
            go_wp2
            go_ret
            exact ⟨by first | rfl | (simp; done) | (simp [*]; done),by repeat (first | exact Drawn0.refl _ | apply Drawn0.step)⟩
          ·rw [if_neg c10] at H
           have c10b0 : ((rd l0 x8_1) == (-2)) = false := beq_eq_false_iff_ne.mpr c10
           have c10b1 : ((rd l0 x8_1) != (-2)) = true := bne_iff_ne.mpr c10
           by_cases c12 : (rd l0 x8_1) = (-3)
           ·rw [if_pos c12] at H
            have c12b0 : ((rd l0 x8_1) == (-3)) = true := beq_iff_eq.mpr c12
            have c12b1 : ((rd l0 x8_1) != (-3)) = false := bne_eq_false_iff_eq.mpr c12
            clear c12
            by_cases c11 : x3_1 ≥ 2
            ·rw [if_pos c11] at H
             have c11b0 : decide (2 ≤ x3_1) = true := decide_eq_true c11
             clear c11
             have H' := QO H
             clear H
             go_wp2
             go_roundg kj6
             case measure => have := HK1.out; have := HJ6.out; omega
             case rel => exact ⟨(wrap64 (x3_1 - 1)),(wrap64 (x8_1 + 1)),(by first | rfl | (simp; done) | (simp [*]; done)),(by first | rfl | (simp; done) | (simp [*]; done)),H',⟨by have := HK1.out; have := HJ6.out; omega⟩,by repeat (first | exact Drawn0.refl _ | apply Drawn0.step)⟩
            ·rw [if_neg c11] at H
             have c11b0 : decide (2 ≤ x3_1) = false := decide_eq_false c11
             clear c11
             obtain rfl := Option.some.inj H
             go_wp2
             go_ret
             exact ⟨by first | rfl | (simp; done) | (simp [*]; done),by repeat (first | exact Drawn0.refl _ | apply Drawn0.step)⟩
           ·rw [if_neg c12] at H
            have c12b0 : ((rd l0 x8_1) == (-3)) = false := beq_eq_false_iff_ne.mpr c12
            have c12b1 : ((rd l0 x8_1) != (-3)) = true := bne_iff_ne.mpr c12
            obtain rfl := Option.some.inj H
            go_wp2
            go_ret
            exact ⟨by first | rfl | (simp; done) | (simp [*]; done),by repeat (first | exact Drawn0.refl _ | apply Drawn0.step)⟩
     ·rw [if_neg c4] at H
      exact absurd H (by simp)
    ·rw [if_neg c3] at H
     exact absurd H (by simp)
   ·rw [if_neg c2] at H
    have c2b0 : decide (x8_1 < (l0.length : Int)) = false := decide_eq_false c2
    clear c2
    replace H := QP.mp H
    obtain ⟨t104,A140,H⟩ := H
    have A14 := QO A140
    clear A140
    by_cases c15 : t104 = true
    ·subst c15
     rw [if_pos rfl] at H
     obtain rfl := Option.some.inj H
     go_wp2_with (first | ((with_reducible refine QK (f := 31) rfl ?_); refine goesL_ (some 40) rfl rfl Tryd.func31 (by kernel_rfl) rfl #[.int .i64 (l0.length : Int),.int .i64 1,.int .i64 20] rfl (by (try simp only [List.map_toArray,List.map_cons,List.map_nil]); first | done | rfl | (simp only [List.length_drop,List.length_take]; rfl)) ?_; (with_reducible refine (impl_InRange.calls (l0.length : Int) 1 20 true _ A14.out).mono ?_); rintro e w' ⟨rfl,⟨nd,rfl⟩⟩; refine ⟨_,rfl,?_⟩))
     go_ret
     exact ⟨by first | rfl | (simp; done) | (simp [*]; done),by repeat (first | exact Drawn0.refl _ | apply Drawn0.step)⟩
    ·replace c15 := Bool.eq_false_iff.mpr c15
     subst c15
     rw [if_neg (show ¬ (false = true) by decide)] at H
     obtain rfl := Option.some.inj H
     go_wp2_with (first | ((with_reducible refine QK (f := 31) rfl ?_); refine goesL_ (some 40) rfl rfl Tryd.func31 (by kernel_rfl) rfl #[.int .i64 (l0.length : Int),.int .i64 1,.int .i64 20] rfl (by (try simp only [List.map_toArray,List.map_cons,List.map_nil]); first | done | rfl | (simp only [List.length_drop,List.length_take]; rfl)) ?_; (with_reducible refine (impl_InRange.calls (l0.length : Int) 1 20 false _ A14.out).mono ?_); rintro e w' ⟨rfl,⟨nd,rfl⟩⟩; refine ⟨_,rfl,?_⟩))
     go_ret
     exact ⟨by first | rfl | (simp; done) | (simp [*]; done),by repeat (first | exact Drawn0.refl _ | apply Drawn0.step)⟩

/-! ### impl_isMaybe: function 32 -/
def impl_isMaybe.f (k : Nat) (l0 : List Int) : Option (Bool) := if (l0.length : Int) = 0 then (some true) else ((impl_IsPattern.f k l0).bind fun t107 => (some t107))
theorem impl_isMaybe.mono : ∀ a0 k, LeO (impl_isMaybe.f k a0) (impl_isMaybe.f (k + 1) a0) := by
 intro a0 k
 unfold impl_isMaybe.f
 repeat' first
   | (with_reducible exact impl_IsPattern.mono _ _)
   | (with_reducible exact LeO.refl _)
   | (with_reducible exact LeO.none _)
   | (with_reducible refine LeO.ite ?_ ?_)
   | (with_reducible refine LeO.bind ?_ (fun _ => ?_))
   | exact impl_IsPattern.mono _ _
   | exact LeO.none _
   | refine LeO.ite ?_ ?_
   | refine LeO.bind ?_ (fun _ => ?_)
set_option maxHeartbeats 8000000 in
set_option maxRecDepth 100000 in
theorem impl_isMaybe.calls (k : Nat) (A0 : Option Addr) (c0 : Nat) (l0 : List Int) (r : Bool) (w : World) (hr0 : Kd.C (Kd.int .i64) w A0 l0.length l0) (hc0 : l0.length ≤ c0) (h : impl_isMaybe.f k l0 = some r) :
  Calls Tryd.prog 32 #[.slice A0 l0.length c0] w fun e w' => e = .returned (.bool r) ∧ Drawn0 w w' := by
 have HR0 := QO hr0
 have HC0 := QO hc0
 clear hr0 hc0
 have H : (if (l0.length : Int) = 0 then (some true) else ((impl_IsPattern.f k l0).bind fun t107 => (some t107))) = some r := h
 clear h
 by_cases c2 : (l0.length : Int) = 0
 ·rw [if_pos c2] at H
  have c2b0 : ((l0.length : Int) == 0) = true := beq_iff_eq.mpr c2
  have c2b1 : ((l0.length : Int) != 0) = false := bne_eq_false_iff_eq.mpr c2
  clear c2
  obtain rfl := Option.some.inj H
  go_enter Tryd.func32,Tryd.ntmps32
  go_wp2
  go_ret
  exact ⟨by first | rfl | (simp; done) | (simp [*]; done),by repeat (first | exact Drawn0.refl _ | apply Drawn0.step)⟩
 ·rw [if_neg c2] at H
  have c2b0 : ((l0.length : Int) == 0) = false := beq_eq_false_iff_ne.mpr c2
  have c2b1 : ((l0.length : Int) != 0) = true := bne_iff_ne.mpr c2
  have c2b2 : ¬ (l0 = []) := fun h_ => c2 (by rw [h_]; rfl)
  replace H := QP.mp H
  obtain ⟨t107,A30,H⟩ := H
  have A3 := QO A30
  clear A30
  obtain rfl := Option.some.inj H
  go_enter Tryd.func32,Tryd.ntmps32
  go_wp2_with (first | (go_at_call 60; (with_reducible refine (impl_IsPattern.calls k _ _ l0 t107 _ ?side1 ?side2 A3.out).mono ?_); (case side1 => repeat (first | exact HR0.out | (with_reducible refine Kd.C_alloc ?_ _) | (with_reducible refine Kd.C_drewN ?_ _) | (with_reducible refine Kd.C_drew ?_))); (case side2 => exact HC0.out); rintro e w' ⟨rfl,⟨nd,rfl⟩⟩))
  go_ret
  exact ⟨by first | rfl | (simp; done) | (simp [*]; done),by repeat (first | exact Drawn0.refl _ | apply Drawn0.step)⟩

/-! ### impl_IsRules: function 10 -/
def impl_IsRules.f (k : Nat) (a0_0 : Int) (a0_1 : Int) (a0_2 : Bool) (a0_3 : Bool) (l0_4 : List Int) (l0_5 : List Int) (a0_6 : Int) (a0_7 : Int) : Option (Bool) := (impl_InRange.f a0_0 2 6).bind fun t109 => (if t109 = true then ((impl_InRange.f a0_1 1 8).bind fun t110 => (if t110 = true then (if a0_2 = true then ((impl_isMaybe.f k l0_4).bind fun t111 => (if t111 = true then ((impl_isMaybe.f k l0_5).bind fun t112 => (if t112 = true then ((impl_InRange.f a0_6 1 4).bind fun t113 => (if t113 = true then ((impl_InRange.f a0_7 1 400).bind fun t114 => (some t114)) else (some false))) else (some false))) else (some false))) else (if a0_3 = true then ((impl_isMaybe.f k l0_4).bind fun t115 => (if t115 = true then ((impl_isMaybe.f k l0_5).bind fun t116 => (if t116 = true then ((impl_InRange.f a0_6 1 4).bind fun t117 => (if t117 = true then ((impl_InRange.f a0_7 1 400).bind fun t118 => (some t118)) else (some false))) else (some false))) else (some false))) else (some false))) else (some false))) else (some false))
theorem impl_IsRules.mono : ∀ a0 a1 a2 a3 a4 a5 a6 a7 k, LeO (impl_IsRules.f k a0 a1 a2 a3 a4 a5 a6 a7) (impl_IsRules.f (k + 1) a0 a1 a2 a3 a4 a5 a6 a7) := by
 intro a0 a1 a2 a3 a4 a5 a6 a7 k
 unfold impl_IsRules.f
 repeat' first
   | (with_reducible exact impl_isMaybe.mono _ _)
   | (with_reducible exact LeO.refl _)
   | (with_reducible exact LeO.none _)
   | (with_reducible refine LeO.ite ?_ ?_)
   | (with_reducible refine LeO.bind ?_ (fun _ => ?_))
   | exact impl_isMaybe.mono _ _
   | exact LeO.none _
   | refine LeO.ite ?_ ?_
   | refine LeO.bind ?_ (fun _ => ?_)
set_option maxHeartbeats 8000000 in
set_option maxRecDepth 100000 in
theorem impl_IsRules.calls (k : Nat) (a0_0 : Int) (a0_1 : Int) (a0_2 : Bool) (a0_3 : Bool) (A0_4 : Option Addr) (c0_4 : Nat) (l0_4 : List Int) (A0_5 : Option Addr) (c0_5 : Nat) (l0_5 : List Int) (a0_6 : Int) (a0_7 : Int) (r : Bool) (w : World) (hr0_4 : Kd.C (Kd.int .i64) w A0_4 l0_4.length l0_4) (hc0_4 : l0_4.length ≤ c0_4) (hr0_5 : Kd.C (Kd.int .i64) w A0_5 l0_5.length l0_5) (hc0_5 : l0_5.length ≤ c0_5) (h : impl_IsRules.f k a0_0 a0_1 a0_2 a0_3 l0_4 l0_5 a0_6 a0_7 = some r) :
  Calls Tryd.prog 10 #[.agg #[.int .i64 a0_0,.int .i64 a0_1,.bool a0_2,.bool a0_3,.slice A0_4 l0_4.length c0_4,.slice A0_5 l0_5.length c0_5,.int .i64 a0_6,.int .i64 a0_7]] w fun e w' => e = .returned (.bool r) ∧ Below w.heap.size w w' := by
 have hu26 := Tryd.underlying26
 have HR0_4 := QO hr0_4
 have HC0_4 := QO hc0_4
 clear hr0_4 hc0_4
 have HR0_5 := QO hr0_5
 have HC0_5 := QO hc0_5
 clear hr0_5 hc0_5
 have HB := QO (Below.refl w.heap.size w)
 have H : ((impl_InRange.f a0_0 2 6).bind fun t109 => (if t109 = true then ((impl_InRange.f a0_1 1 8).bind fun t110 => (if t110 = true then (if a0_2 = true then ((impl_isMaybe.f k l0_4).bind fun t111 => (if t111 = true then ((impl_isMaybe.f k l0_5).bind fun t112 => (if t112 = true then ((impl_InRange.f a0_6 1 4).bind fun t113 => (if t113 = true then ((impl_InRange.f a0_7 1 400).bind fun t114 => (some t114)) else (some false))) else (some false))) else (some false))) else (if a0_3 = true then ((impl_isMaybe.f k l0_4).bind fun t115 => (if t115 = true then ((impl_isMaybe.f k l0_5).bind fun t116 => (if t116 = true then ((impl_InRange.f a0_6 1 4).bind fun t117 => (if t117 = true then ((impl_InRange.f a0_7 1 400).bind fun t118 => (some t118)) else (some false))) else (some false))) else (some false))) else (some false))) else (some false))) else (some false))) = some r := h
 clear h
 replace H := QP.mp H
 obtain ⟨t109,A20,H⟩ := H
 have A2 := QO A20
 clear A20
 by_cases c3 : t109 = true
 rotate_left
 replace c3 := Bool.eq_false_iff.mpr c3
 subst c3
 rw [if_neg (show ¬ (false = true) by decide)] at H
 obtain rfl := Option.some.inj H
 rotate_right
 subst c3
 rw [if_pos rfl] at H
 replace H := QP.mp H
 obtain ⟨t110,A40,H⟩ := H
 have A4 := QO A40
 clear A40
 by_cases c5 : t110 = true
 rotate_left
 replace c5 := Bool.eq_false_iff.mpr c5
 subst c5
 rw [if_neg (show ¬ (false = true) by decide)] at H
 obtain rfl := Option.some.inj H
 rotate_right
 subst c5
 rw [if_pos rfl] at H
 by_cases c6 : a0_2 = true
 rotate_left
 replace c6 := Bool.eq_false_iff.mpr c6
 subst c6
 rw [if_neg (show ¬ (false = true) by decide)] at H
 by_cases c22 : a0_3 = true
 rotate_left
 replace c22 := Bool.eq_false_iff.mpr c22
 subst c22
 rw [if_neg (show ¬ (false = true) by decide)] at H
 obtain rfl := Option.some.inj H
 rotate_right
 subst c22
 rw [if_pos rfl] at H
 replace H := QP.mp H
 obtain ⟨t111,A70,H⟩ := H
 have A7 := QO A70
 clear A70
 try (obtain rfl := Option.some.inj (A7.out.symm.trans A7.out))
 by_cases c8 : t111 = true
 rotate_left
 replace c8 := Bool.eq_false_iff.mpr c8
 subst c8
 rw [if_neg (show ¬ (false = true) by decide)] at H
 obtain rfl := Option.some.inj H
 rotate_right
 subst c8
 rw [if_pos rfl] at H
 replace H := QP.mp H
 obtain ⟨t112,A90,H⟩ := H
 have A9 := QO A90
 clear A90
 try (obtain rfl := Option.some.inj (A9.out.symm.trans A9.out))
 by_cases c10 : t112 = true
 rotate_left
 replace c10 := Bool.eq_false_iff.mpr c10
 subst c10
 rw [if_neg (show ¬ (false = true) by decide)] at H
 obtain rfl := Option.some.inj H
 rotate_right
 subst c10
 rw [if_pos rfl] at H
 replace H := QP.mp H
 obtain ⟨t113,A110,H⟩ := H
 have A11 := QO A110
 clear A110
 try (obtain rfl := Option.some.inj (A11.out.symm.trans A11.out))
 by_cases c12 : t113 = true
 rotate_left
 replace c12 := Bool.eq_false_iff.mpr c12
 subst c12
 rw [if_neg (show ¬ (false = true) by decide)] at H
 obtain rfl := Option.some.inj H
 rotate_right
 subst c12
 rw [if_pos rfl] at H
 replace H := QP.mp H
 obtain ⟨t114,A130,H⟩ := H
 have A13 := QO A130
 clear A130
 try (obtain rfl := Option.some.inj (A13.out.symm.trans A13.out))
 obtain rfl := Option.some.inj H
 rotate_right
 subst c6
 rw [if_pos rfl] at H
 replace H := QP.mp H
 obtain ⟨t111,A70,H⟩ := H
 have A7 := QO A70
 clear A70
 by_cases c8 : t111 = true
 rotate_left
 replace c8 := Bool.eq_false_iff.mpr c8
 subst c8
 rw [if_neg (show ¬ (false = true) by decide)] at H
 obtain rfl := Option.some.inj H
 rotate_right
 subst c8
 rw [if_pos rfl] at H
 replace H := QP.mp H
 obtain ⟨t112,A90,H⟩ := H
 have A9 := QO A90
 clear A90
 by_cases c10 : t112 = true
 rotate_left
 replace c10 := Bool.eq_false_iff.mpr c10
 subst c10
 rw [if_neg (show ¬ (false = true) by decide)] at H
 obtain rfl := Option.some.inj H
 rotate_right
 subst c10
 rw [if_pos rfl] at H
 replace H := QP.mp H
 obtain ⟨t113,A110,H⟩ := H
 have A11 := QO A110
 clear A110
 by_cases c12 : t113 = true
 rotate_left
 replace c12 := Bool.eq_false_iff.mpr c12
 subst c12
 rw [if_neg (show ¬ (false = true) by decide)] at H
 obtain rfl := Option.some.inj H
 rotate_right
 subst c12
 rw [if_pos rfl] at H
 replace H := QP.mp H
 obtain ⟨t114,A130,H⟩ := H
 have A13 := QO A130
 clear A130
 obtain rfl := Option.some.inj H
 all_goals
  go_enter Tryd.func10,Tryd.ntmps10
  go_wp2_with (first | ((with_reducible refine gate_dst (N := 1) rfl ?_); refine box_event ?hg (N := 1) ?hd (cs := #[.int .i64 a0_0,.int .i64 a0_1,.bool _,.bool _,.slice A0_4 l0_4.length c0_4,.slice A0_5 l0_5.length c0_5,.int .i64 a0_6,.int .i64 a0_7]) (t := 26) ?hr ?_; (case hd => rfl); (case hg => rfl); (case hr => first | (go_simp; done) | (go_simp; rfl)); intro gb108 hg w30 hbox hb; have n0_ := QO (below_step (by repeat (first | (with_reducible first | exact HB.out | apply QD | apply QB | apply QC) | exact HB.out)) hb); have n1_ := QO (hbox); have n2_ := QO ((by rw [hg]; exact (below_size (by repeat (first | (with_reducible first | exact HB.out | apply QD | apply QB | apply QC) | exact HB.out))) : w.heap.size ≤ gb108)); have n3_ := QO ((by rw [hg]; exact (below_size (by repeat (first | (with_reducible first | exact HB.out | apply QD | apply QB | apply QC) | exact HB.out))) : w.heap.size ≤ gb108)); clear HB; revert n0_ n1_ n2_ n3_; intro HB BK108 GW108 GE108; clear hb hbox hg; have hcz31_0 : w30.cell? ⟨gb108,0,none⟩ = some (.int .i64 a0_0) := (QE BK108.out 0).trans rfl; have hcz31_1 : w30.cell? ⟨gb108,1,none⟩ = some (.int .i64 a0_1) := (QE BK108.out 1).trans rfl; have hcz31_2 : w30.cell? ⟨gb108,2,none⟩ = some (.bool _) := (QE BK108.out 2).trans rfl; have hcz31_3 : w30.cell? ⟨gb108,3,none⟩ = some (.bool _) := (QE BK108.out 3).trans rfl; have hcz31_4 : w30.cell? ⟨gb108,4,none⟩ = some (.slice A0_4 l0_4.length c0_4) := (QE BK108.out 4).trans rfl; have hcz31_5 : w30.cell? ⟨gb108,5,none⟩ = some (.slice A0_5 l0_5.length c0_5) := (QE BK108.out 5).trans rfl; have hcz31_6 : w30.cell? ⟨gb108,6,none⟩ = some (.int .i64 a0_6) := (QE BK108.out 6).trans rfl; have hcz31_7 : w30.cell? ⟨gb108,7,none⟩ = some (.int .i64 a0_7) := (QE BK108.out 7).trans rfl; have hfz31_0 := QF BK108.out 0; have hfz31_1 := QF BK108.out 1; have hfz31_2 := QF BK108.out 2; have hfz31_3 := QF BK108.out 3; have hfz31_4 := QF BK108.out 4; have hfz31_5 := QF BK108.out 5; have hfz31_6 := QF BK108.out 6; have hfz31_7 := QF BK108.out 7) | ((with_reducible refine QK (f := 31) rfl ?_); refine goesL_ (some 5) rfl rfl Tryd.func31 (by kernel_rfl) rfl #[.int .i64 a0_0,.int .i64 2,.int .i64 6] rfl (by (try simp only [List.map_toArray,List.map_cons,List.map_nil]); first | done | rfl | (simp only [List.length_drop,List.length_take]; rfl)) ?_; (with_reducible refine (impl_InRange.calls a0_0 2 6 _ _ A2.out).mono ?_); rintro e w' ⟨rfl,⟨nd,rfl⟩⟩; refine ⟨_,rfl,?_⟩) | (go_at_call 31; (with_reducible refine (impl_InRange.calls a0_1 1 8 _ _ A4.out).mono ?_); rintro e w' ⟨rfl,⟨nd,rfl⟩⟩) | (go_at_call 32; (with_reducible refine (impl_isMaybe.calls k _ _ l0_4 _ _ ?side1 ?side2 A7.out).mono ?_); (case side1 => repeat (first | exact (Kd.C_below HR0_4.out (by repeat (first | (with_reducible first | exact HB.out | apply QD | apply QB | apply QC | refine QJ ?_ GE108.out) | exact HB.out))) | (with_reducible refine Kd.C_alloc ?_ _) | (with_reducible refine Kd.C_drewN ?_ _) | (with_reducible refine Kd.C_drew ?_))); (case side2 => exact HC0_4.out); rintro e w' ⟨rfl,⟨nd,rfl⟩⟩) | (go_at_call 32; (with_reducible refine (impl_isMaybe.calls k _ _ l0_5 _ _ ?side1 ?side2 A9.out).mono ?_); (case side1 => repeat (first | exact (Kd.C_below HR0_5.out (by repeat (first | (with_reducible first | exact HB.out | apply QD | apply QB | apply QC | refine QJ ?_ GE108.out) | exact HB.out))) | (with_reducible refine Kd.C_alloc ?_ _) | (with_reducible refine Kd.C_drewN ?_ _) | (with_reducible refine Kd.C_drew ?_))); (case side2 => exact HC0_5.out); rintro e w' ⟨rfl,⟨nd,rfl⟩⟩) | (go_at_call 31; (with_reducible refine (impl_InRange.calls a0_6 1 4 _ _ A11.out).mono ?_); rintro e w' ⟨rfl,⟨nd,rfl⟩⟩) | (go_at_call 31; (with_reducible refine (impl_InRange.calls a0_7 1 400 t114 _ A13.out).mono ?_); rintro e w' ⟨rfl,⟨nd,rfl⟩⟩))
  go_ret
  exact ⟨by first | rfl | (simp [errW_none,errW_some] <;> rfl) | (simp [*,errW_none,errW_some] <;> rfl),by repeat (first | (with_reducible first | exact HB.out | apply QD | apply QB | apply QC | refine QJ ?_ GE108.out) | exact HB.out)⟩

/-! ### impl_RulesWord: function 12 -/
def impl_RulesWord.j0 : Nat → Bool → Int → Int → Bool → Bool → List Int → List Int → Int → Int → Option (ByteArray)
 | 0,_,_,_,_,_,_,_,_,_ => none
 | k + 1,x3,x120000,x120001,x120002,x120003,x120004,x120005,x120006,x120007 => if x3 = true then (some (⟨#[98,111,116,104]⟩ : ByteArray)) else (if x120002 = true then (some (⟨#[115,117,105,116]⟩ : ByteArray)) else (if x120003 = true then (some (⟨#[114,97,110,107]⟩ : ByteArray)) else (some (⟨#[]⟩ : ByteArray))))
def impl_RulesWord.f (k : Nat) (a0_0 : Int) (a0_1 : Int) (a0_2 : Bool) (a0_3 : Bool) (l0_4 : List Int) (l0_5 : List Int) (a0_6 : Int) (a0_7 : Int) : Option (ByteArray) := if a0_2 = true then (impl_RulesWord.j0 k a0_3 a0_0 a0_1 a0_2 a0_3 l0_4 l0_5 a0_6 a0_7) else (impl_RulesWord.j0 k false a0_0 a0_1 a0_2 a0_3 l0_4 l0_5 a0_6 a0_7)
theorem impl_RulesWord.mono_l : ∀ k, (∀ y0 y1 y2 y3 y4 y5 y6 y7 y8, LeO (impl_RulesWord.j0 k y0 y1 y2 y3 y4 y5 y6 y7 y8) (impl_RulesWord.j0 (k + 1) y0 y1 y2 y3 y4 y5 y6 y7 y8))
 | 0 => fun _ _ _ _ _ _ _ _ _ r h => by simp [impl_RulesWord.j0] at h
 | k + 1 => by
  have ih0 := impl_RulesWord.mono_l k
  ·intro y0 y1 y2 y3 y4 y5 y6 y7 y8
   unfold impl_RulesWord.j0
   repeat' first
   | (with_reducible exact ih0 _ _ _ _ _ _ _ _ _)
   | (with_reducible exact LeO.refl _)
   | (with_reducible exact LeO.none _)
   | (with_reducible refine LeO.ite ?_ ?_)
   | (with_reducible refine LeO.bind ?_ (fun _ => ?_))
   | exact ih0 _ _ _ _ _ _ _ _ _
   | exact LeO.none _
   | refine LeO.ite ?_ ?_
   | refine LeO.bind ?_ (fun _ => ?_)
theorem impl_RulesWord.mono : ∀ a0 a1 a2 a3 a4 a5 a6 a7 k, LeO (impl_RulesWord.f k a0 a1 a2 a3 a4 a5 a6 a7) (impl_RulesWord.f (k + 1) a0 a1 a2 a3 a4 a5 a6 a7) := by
 intro a0 a1 a2 a3 a4 a5 a6 a7 k
 have ih0 := impl_RulesWord.mono_l k
 unfold impl_RulesWord.f
 repeat' first
   | (with_reducible exact ih0 _ _ _ _ _ _ _ _ _)
   | (with_reducible exact LeO.refl _)
   | (with_reducible exact LeO.none _)
   | (with_reducible refine LeO.ite ?_ ?_)
   | (with_reducible refine LeO.bind ?_ (fun _ => ?_))
   | exact ih0 _ _ _ _ _ _ _ _ _
   | exact LeO.none _
   | refine LeO.ite ?_ ?_
   | refine LeO.bind ?_ (fun _ => ?_)
set_option maxHeartbeats 8000000 in
set_option maxRecDepth 100000 in
theorem impl_RulesWord.calls (k : Nat) (a0_0 : Int) (a0_1 : Int) (a0_2 : Bool) (a0_3 : Bool) (A0_4 : Option Addr) (c0_4 : Nat) (l0_4 : List Int) (A0_5 : Option Addr) (c0_5 : Nat) (l0_5 : List Int) (a0_6 : Int) (a0_7 : Int) (r : ByteArray) (w : World) (hr0_4 : Kd.C (Kd.int .i64) w A0_4 l0_4.length l0_4) (hc0_4 : l0_4.length ≤ c0_4) (hr0_5 : Kd.C (Kd.int .i64) w A0_5 l0_5.length l0_5) (hc0_5 : l0_5.length ≤ c0_5) (h : impl_RulesWord.f k a0_0 a0_1 a0_2 a0_3 l0_4 l0_5 a0_6 a0_7 = some r) :
  Calls Tryd.prog 12 #[.agg #[.int .i64 a0_0,.int .i64 a0_1,.bool a0_2,.bool a0_3,.slice A0_4 l0_4.length c0_4,.slice A0_5 l0_5.length c0_5,.int .i64 a0_6,.int .i64 a0_7]] w fun e w' => e = .returned (.string r) ∧ Below w.heap.size w w' := by
 have hu26 := Tryd.underlying26
 have HR0_4 := QO hr0_4
 have HC0_4 := QO hc0_4
 clear hr0_4 hc0_4
 have HR0_5 := QO hr0_5
 have HC0_5 := QO hc0_5
 clear hr0_5 hc0_5
 have HB := QO (Below.refl w.heap.size w)
 have H : (if a0_2 = true then (impl_RulesWord.j0 k a0_3 a0_0 a0_1 a0_2 a0_3 l0_4 l0_5 a0_6 a0_7) else (impl_RulesWord.j0 k false a0_0 a0_1 a0_2 a0_3 l0_4 l0_5 a0_6 a0_7)) = some r := h
 clear h
 have HC2 := QO H
 clear H
 go_enter Tryd.func12,Tryd.ntmps12
 go_upto_region 1 with (first | ((with_reducible refine gate_dst (N := 1) rfl ?_); refine box_event ?hg (N := 1) ?hd (cs := #[.int .i64 a0_0,.int .i64 a0_1,.bool a0_2,.bool a0_3,.slice A0_4 l0_4.length c0_4,.slice A0_5 l0_5.length c0_5,.int .i64 a0_6,.int .i64 a0_7]) (t := 26) ?hr ?_; (case hd => rfl); (case hg => rfl); (case hr => first | (go_simp; done) | (go_simp; rfl)); intro gb119 hg w3 hbox hb; have n0_ := QO (below_step (by repeat (first | (with_reducible first | exact HB.out | apply QD | apply QB | apply QC) | exact HB.out)) hb); have n1_ := QO (hbox); have n2_ := QO ((by rw [hg]; exact (below_size (by repeat (first | (with_reducible first | exact HB.out | apply QD | apply QB | apply QC) | exact HB.out))) : w.heap.size ≤ gb119)); have n3_ := QO ((by rw [hg]; exact (below_size (by repeat (first | (with_reducible first | exact HB.out | apply QD | apply QB | apply QC) | exact HB.out))) : w.heap.size ≤ gb119)); clear HB; revert n0_ n1_ n2_ n3_; intro HB BK119 GW119 GE119; clear hb hbox hg))
 (try simp only [Act.put,QL,QM,QN])
 go_cut [3] (fun v3 wc => ∃ (kq : Nat) (x3_1 : Bool),v3 = .bool x3_1 ∧ Aside0 (impl_RulesWord.j0 kq x3_1 a0_0 a0_1 a0_2 a0_3 l0_4 l0_5 a0_6 a0_7 = some r) ∧ Aside0 (kq ≤ k) ∧ Aside0 (wc.heap[gb119]? = some (.cells #[.int .i64 a0_0,.int .i64 a0_1,.bool a0_2,.bool a0_3,(.slice A0_4 l0_4.length c0_4),(.slice A0_5 l0_5.length c0_5),.int .i64 a0_6,.int .i64 a0_7] 26 (0,0))) ∧ Aside0 (Below w.heap.size w wc))
 case first =>
  have H := HC2.out
  clear HC2
  by_cases c4 : a0_2 = true
  ·subst c4
   rw [if_pos rfl] at H
   have H' := QO H
   clear H
   have hcz5_0 : w3.cell? ⟨gb119,0,none⟩ = some (.int .i64 a0_0) := (QE BK119.out 0).trans rfl
   have hcz5_1 : w3.cell? ⟨gb119,1,none⟩ = some (.int .i64 a0_1) := (QE BK119.out 1).trans rfl
   have hcz5_2 : w3.cell? ⟨gb119,2,none⟩ = some (.bool true) := (QE BK119.out 2).trans rfl
   have hcz5_3 : w3.cell? ⟨gb119,3,none⟩ = some (.bool a0_3) := (QE BK119.out 3).trans rfl
   have hcz5_4 : w3.cell? ⟨gb119,4,none⟩ = some (.slice A0_4 l0_4.length c0_4) := (QE BK119.out 4).trans rfl
   have hcz5_5 : w3.cell? ⟨gb119,5,none⟩ = some (.slice A0_5 l0_5.length c0_5) := (QE BK119.out 5).trans rfl
   have hcz5_6 : w3.cell? ⟨gb119,6,none⟩ = some (.int .i64 a0_6) := (QE BK119.out 6).trans rfl
   have hcz5_7 : w3.cell? ⟨gb119,7,none⟩ = some (.int .i64 a0_7) := (QE BK119.out 7).trans rfl
   have hfz5_0 := QF BK119.out 0
   have hfz5_1 := QF BK119.out 1
   have hfz5_2 := QF BK119.out 2
   have hfz5_3 := QF BK119.out 3
   have hfz5_4 := QF BK119.out 4
   have hfz5_5 := QF BK119.out 5
   have hfz5_6 := QF BK119.out 6
   have hfz5_7 := QF BK119.out 7
   go_wp2
   go_meet
   case rel => exact ⟨_,(a0_3),(by first | rfl | (simp; done) | (simp [*]; done)),H',⟨by first | omega | exact Nat.le_refl _⟩,⟨by (with_reducible repeat (first | refine blk_drewN ?_ _ | refine blk_drew ?_ | refine blk_alloc ?_ _)); exact BK119.out⟩,⟨by repeat (first | (with_reducible first | exact HB.out | apply QD | apply QB | apply QC | refine QJ ?_ GE119.out) | exact HB.out)⟩⟩
  ·replace c4 := Bool.eq_false_iff.mpr c4
   subst c4
   rw [if_neg (show ¬ (false = true) by decide)] at H
   have H' := QO H
   clear H
   have hcz6_0 : w3.cell? ⟨gb119,0,none⟩ = some (.int .i64 a0_0) := (QE BK119.out 0).trans rfl
   have hcz6_1 : w3.cell? ⟨gb119,1,none⟩ = some (.int .i64 a0_1) := (QE BK119.out 1).trans rfl
   have hcz6_2 : w3.cell? ⟨gb119,2,none⟩ = some (.bool false) := (QE BK119.out 2).trans rfl
   have hcz6_3 : w3.cell? ⟨gb119,3,none⟩ = some (.bool a0_3) := (QE BK119.out 3).trans rfl
   have hcz6_4 : w3.cell? ⟨gb119,4,none⟩ = some (.slice A0_4 l0_4.length c0_4) := (QE BK119.out 4).trans rfl
   have hcz6_5 : w3.cell? ⟨gb119,5,none⟩ = some (.slice A0_5 l0_5.length c0_5) := (QE BK119.out 5).trans rfl
   have hcz6_6 : w3.cell? ⟨gb119,6,none⟩ = some (.int .i64 a0_6) := (QE BK119.out 6).trans rfl
   have hcz6_7 : w3.cell? ⟨gb119,7,none⟩ = some (.int .i64 a0_7) := (QE BK119.out 7).trans rfl
   have hfz6_0 := QF BK119.out 0
   have hfz6_1 := QF BK119.out 1
   have hfz6_2 := QF BK119.out 2
   have hfz6_3 := QF BK119.out 3
   have hfz6_4 := QF BK119.out 4
   have hfz6_5 := QF BK119.out 5
   have hfz6_6 := QF BK119.out 6
   have hfz6_7 := QF BK119.out 7
   go_wp2
   go_meet
   case rel => exact ⟨_,(false),(by first | rfl | (simp; done) | (simp [*]; done)),H',⟨by first | omega | exact Nat.le_refl _⟩,⟨by (with_reducible repeat (first | refine blk_drewN ?_ _ | refine blk_drew ?_ | refine blk_alloc ?_ _)); exact BK119.out⟩,⟨by repeat (first | (with_reducible first | exact HB.out | apply QD | apply QB | apply QC | refine QJ ?_ GE119.out) | exact HB.out)⟩⟩
 case rest =>
  clear HC2
  try clear c1
  try clear p2
  try clear c4
  try clear hcz5_0 hcz5_1 hcz5_2 hcz5_3 hcz5_4 hcz5_5 hcz5_6 hcz5_7
  try clear hcz6_0 hcz6_1 hcz6_2 hcz6_3 hcz6_4 hcz6_5 hcz6_6 hcz6_7
  try clear hfz5_0 hfz5_1 hfz5_2 hfz5_3 hfz5_4 hfz5_5 hfz5_6 hfz5_7
  try clear hfz6_0 hfz6_1 hfz6_2 hfz6_3 hfz6_4 hfz6_5 hfz6_6 hfz6_7
  obtain ⟨kq,x3_1,rfl,HA,HJ1,BK119,HB⟩ := hcut
  cases kq with
  | zero => exact absurd HA.out (by simp [impl_RulesWord.j0])
  | succ kj1 =>
   have H := HA.out
   clear HA
   simp only [impl_RulesWord.j0] at H
   by_cases c7 : x3_1 = true
   rotate_left
   replace c7 := Bool.eq_false_iff.mpr c7
   subst c7
   rw [if_neg (show ¬ (false = true) by decide)] at H
   by_cases c8 : a0_2 = true
   rotate_left
   replace c8 := Bool.eq_false_iff.mpr c8
   subst c8
   rw [if_neg (show ¬ (false = true) by decide)] at H
   by_cases c10 : a0_3 = true
   rotate_left
   replace c10 := Bool.eq_false_iff.mpr c10
   subst c10
   rw [if_neg (show ¬ (false = true) by decide)] at H
   obtain rfl := Option.some.inj H
   rotate_right
   subst c10
   rw [if_pos rfl] at H
   obtain rfl := Option.some.inj H
   rotate_right
   subst c8
   rw [if_pos rfl] at H
   obtain rfl := Option.some.inj H
   rotate_right
   ·subst c7
    rw [if_pos rfl] at H
    obtain rfl := Option.some.inj H
    go_wp2
    go_ret
    exact ⟨by first | rfl | (simp [errW_none,errW_some] <;> rfl) | (simp [*,errW_none,errW_some] <;> rfl),by repeat (first | (with_reducible first | exact HB.out | apply QD | apply QB | apply QC | refine QJ ?_ GE119.out) | exact HB.out)⟩
   all_goals
    have hcz12_0 : wc.cell? ⟨gb119,0,none⟩ = some (.int .i64 a0_0) := (QE BK119.out 0).trans rfl
    have hcz12_1 : wc.cell? ⟨gb119,1,none⟩ = some (.int .i64 a0_1) := (QE BK119.out 1).trans rfl
    have hcz12_2 : wc.cell? ⟨gb119,2,none⟩ = some (.bool _) := (QE BK119.out 2).trans rfl
    have hcz12_3 : wc.cell? ⟨gb119,3,none⟩ = some (.bool _) := (QE BK119.out 3).trans rfl
    have hcz12_4 : wc.cell? ⟨gb119,4,none⟩ = some (.slice A0_4 l0_4.length c0_4) := (QE BK119.out 4).trans rfl
    have hcz12_5 : wc.cell? ⟨gb119,5,none⟩ = some (.slice A0_5 l0_5.length c0_5) := (QE BK119.out 5).trans rfl
    have hcz12_6 : wc.cell? ⟨gb119,6,none⟩ = some (.int .i64 a0_6) := (QE BK119.out 6).trans rfl
    have hcz12_7 : wc.cell? ⟨gb119,7,none⟩ = some (.int .i64 a0_7) := (QE BK119.out 7).trans rfl
    have hfz12_0 := QF BK119.out 0
    have hfz12_1 := QF BK119.out 1
    have hfz12_2 := QF BK119.out 2
    have hfz12_3 := QF BK119.out 3
    have hfz12_4 := QF BK119.out 4
    have hfz12_5 := QF BK119.out 5
    have hfz12_6 := QF BK119.out 6
    have hfz12_7 := QF BK119.out 7
    go_wp2
    go_ret
    exact ⟨by first | rfl | (simp [errW_none,errW_some] <;> rfl) | (simp [*,errW_none,errW_some] <;> rfl),by repeat (first | (with_reducible first | exact HB.out | apply QD | apply QB | apply QC | refine QJ ?_ GE119.out) | exact HB.out)⟩

-- NOT PRINTED: function 92 (abi_NoEscape)

-- NOT PRINTED: function 76 (strings_Builder_copyCheck)

-- NOT PRINTED: function 93 (bytealg_MakeNoZero)

-- NOT PRINTED: function 77 (strings_Builder_grow)

-- NOT PRINTED: function 56 (strings_Builder_Grow)

-- NOT PRINTED: function 57 (strings_Builder_WriteString)

-- NOT PRINTED: function 58 (strings_Builder_String)

/-! ### strings_Join: function 28 -/
def strings_Join.f (l0 : List ByteArray) (a1 : ByteArray) : Option (ByteArray) :=
 if l0.length ≤ 140737488355328 ∧ (Go.Lib.join (l0.map (·.data.toList)) a1.data.toList).length ≤ 140737488355328 then some ⟨(Go.Lib.join (l0.map (·.data.toList)) a1.data.toList).toArray⟩ else none
theorem strings_Join.calls (A0 : Option Addr) (c0 : Nat) (l0 : List ByteArray) (a1 : ByteArray) (r : ByteArray) (w : World) (ho : ∃ e base ok, Kd.R Kd.string e w base ok (.slice A0 l0.length c0) l0) (hc0 : l0.length ≤ c0) (h : strings_Join.f l0 a1 = some r) :
  Calls Tryd.prog 28 #[.slice A0 l0.length c0, .string a1] w fun e w' => e = .returned (.string r) ∧ Below w.heap.size w w' := by
 unfold strings_Join.f at h
 split at h
 case isFalse => exact absurd h (by simp)
 case isTrue hr =>
 obtain rfl := Option.some.inj h
 obtain ⟨e, base, ok, ho⟩ := ho
 cases l0 with
 | nil => exact (Go.Proofs.Tryd.strings_Join_none A0 c0 a1 w).mono fun e w' ⟨he, hw⟩ => ⟨he, hw ▸ Below.refl _ _⟩
 | cons x t =>
  obtain ⟨g, cap, hv, hg1, hg2, cells, hg3⟩ := Kd.R_form ho (by simp)
  have hA : A0 = some ⟨g, 0, none⟩ := by injection hv
  subst hA
  refine Go.Proofs.Tryd.strings_Join g 0 c0 (x :: t) a1 w (fun j y hj => ?_) hg2 hr.1 hc0 hr.2
  have hlt : j < (x :: t).length := (List.getElem?_eq_some_iff.1 hj).1
  have hc := (Kd.R_cell (h1 := fun _ => rfl) ByteArray.empty ho (j : Int) (by omega) (by exact_mod_cast hlt)).1
  have hy : rdOf ByteArray.empty (x :: t) (j : Int) = y := by
   unfold rdOf
   rw [Int.toNat_natCast, List.getD_eq_getElem?_getD, hj]
   rfl
  rw [hy, Int.toNat_natCast] at hc
  rw [Nat.zero_add]
  exact hc

/-! ### impl_FormatInt: function 29 -/
/-- The library's table of powers of ten, as the start-up lays it. -/
def Laid (w : World) : Prop := Go.Lib.TabIs Tryd.prog w "internal/strconv.uint64pow10" .u64 Go.Lib.pow10Tab
theorem Laid.at {w w' : World} (h : Laid w) (hb : Below w.heap.size w w') : Laid w' := by
 unfold Laid Go.Lib.TabIs World.var? at h ⊢
 cases hg : Tryd.prog.globalNamed "internal/strconv.uint64pow10" with
 | none => rw [hg] at h; exact absurd h (by simp)
 | some g =>
  rw [hg] at h
  simp only [Option.bind_some] at h ⊢
  have hl : g < w.heap.size := by
   refine Nat.lt_of_not_le fun hle => ?_
   rw [Array.getElem?_eq_none hle] at h
   exact absurd h (by simp)
  rw [hb.block g hl]
  exact h
def impl_FormatInt.f (a0 : Int) : Option (ByteArray) := if -9223372036854775808 ≤ a0 ∧ a0 ≤ 9223372036854775807 then some ⟨(Go.Lib.itoa a0).toArray⟩ else none
set_option maxHeartbeats 8000000 in
set_option maxRecDepth 100000 in
theorem impl_FormatInt.calls (a0 : Int) (r : ByteArray) (w : World) (ht : Laid w) (h : impl_FormatInt.f a0 = some r) :
  Calls Tryd.prog 29 #[.int .i64 a0] w fun e w' => e = .returned (.string r) ∧ Below w.heap.size w w' := by
 unfold impl_FormatInt.f at h
 split at h
 case isFalse => exact absurd h (by simp)
 case isTrue hr =>
 obtain rfl := Option.some.inj h
 have HR := QO hr
 have HT := QO ht
 clear hr ht h
 go_enter Tryd.func29, Tryd.ntmps29
 go_wp2_with (fail)
 refine (Go.Proofs.Tryd.strconv_Itoa a0 HR.out.1 HR.out.2 _ HT.out).mono ?_
 rintro e w' ⟨rfl, k, os, rfl⟩
 go_wp2
 go_ret
 exact ⟨rfl, Go.Lib.below_grow _ w (Nat.le_refl _) k os⟩

/-! ### impl_signText: function 75 -/
def impl_signText.f (a0 : Int) : Option (ByteArray) := if a0 = 400 then (some (⟨#[114]⟩ : ByteArray)) else (if a0 ≥ 300 then (if 0 ≤ (wrap64 (a0 - 300)) then (if (wrap64 (a0 - 300)) ≤ (wrap64 ((wrap64 (a0 - 300)) + 1)) then (if (wrap64 ((wrap64 (a0 - 300)) + 1)) ≤ 13 then (if ((⟨#[50, 51, 52, 53, 54, 55, 56, 57, 84, 74, 81, 75, 65]⟩ : ByteArray).extract ((wrap64 (a0 - 300)) : Int).toNat ((wrap64 ((wrap64 (a0 - 300)) + 1)) : Int).toNat).size + 1 ≤ 9223372036854775807 then (some (((⟨#[50, 51, 52, 53, 54, 55, 56, 57, 84, 74, 81, 75, 65]⟩ : ByteArray).extract ((wrap64 (a0 - 300)) : Int).toNat ((wrap64 ((wrap64 (a0 - 300)) + 1)) : Int).toNat) ++ (⟨#[43]⟩ : ByteArray))) else (none)) else (none)) else (none)) else (none)) else (if a0 ≥ 200 then (if 0 ≤ (wrap64 (a0 - 200)) then (if (wrap64 (a0 - 200)) ≤ (wrap64 ((wrap64 (a0 - 200)) + 1)) then (if (wrap64 ((wrap64 (a0 - 200)) + 1)) ≤ 13 then (some ((⟨#[50, 51, 52, 53, 54, 55, 56, 57, 84, 74, 81, 75, 65]⟩ : ByteArray).extract ((wrap64 (a0 - 200)) : Int).toNat ((wrap64 ((wrap64 (a0 - 200)) + 1)) : Int).toNat)) else (none)) else (none)) else (none)) else (if 0 ≤ (wrap64 (a0 - 100)) then (if (wrap64 (a0 - 100)) ≤ (wrap64 ((wrap64 (a0 - 100)) + 1)) then (if (wrap64 ((wrap64 (a0 - 100)) + 1)) ≤ 4 then (some ((⟨#[99, 100, 104, 115]⟩ : ByteArray).extract ((wrap64 (a0 - 100)) : Int).toNat ((wrap64 ((wrap64 (a0 - 100)) + 1)) : Int).toNat)) else (none)) else (none)) else (none))))
set_option maxHeartbeats 8000000 in
set_option maxRecDepth 100000 in
theorem impl_signText.calls (a0 : Int) (r : ByteArray) (w : World) (h : impl_signText.f a0 = some r) :
  Calls Tryd.prog 75 #[.int .i64 a0] w fun e w' => e = .returned (.string r) ∧ Drawn0 w w' := by
 have H : (if a0 = 400 then (some (⟨#[114]⟩ : ByteArray)) else (if a0 ≥ 300 then (if 0 ≤ (wrap64 (a0 - 300)) then (if (wrap64 (a0 - 300)) ≤ (wrap64 ((wrap64 (a0 - 300)) + 1)) then (if (wrap64 ((wrap64 (a0 - 300)) + 1)) ≤ 13 then (if ((⟨#[50,51,52,53,54,55,56,57,84,74,81,75,65]⟩ : ByteArray).extract ((wrap64 (a0 - 300)) : Int).toNat ((wrap64 ((wrap64 (a0 - 300)) + 1)) : Int).toNat).size + 1 ≤ 9223372036854775807 then (some (((⟨#[50,51,52,53,54,55,56,57,84,74,81,75,65]⟩ : ByteArray).extract ((wrap64 (a0 - 300)) : Int).toNat ((wrap64 ((wrap64 (a0 - 300)) + 1)) : Int).toNat) ++ (⟨#[43]⟩ : ByteArray))) else (none)) else (none)) else (none)) else (none)) else (if a0 ≥ 200 then (if 0 ≤ (wrap64 (a0 - 200)) then (if (wrap64 (a0 - 200)) ≤ (wrap64 ((wrap64 (a0 - 200)) + 1)) then (if (wrap64 ((wrap64 (a0 - 200)) + 1)) ≤ 13 then (some ((⟨#[50,51,52,53,54,55,56,57,84,74,81,75,65]⟩ : ByteArray).extract ((wrap64 (a0 - 200)) : Int).toNat ((wrap64 ((wrap64 (a0 - 200)) + 1)) : Int).toNat)) else (none)) else (none)) else (none)) else (if 0 ≤ (wrap64 (a0 - 100)) then (if (wrap64 (a0 - 100)) ≤ (wrap64 ((wrap64 (a0 - 100)) + 1)) then (if (wrap64 ((wrap64 (a0 - 100)) + 1)) ≤ 4 then (some ((⟨#[99,100,104,115]⟩ : ByteArray).extract ((wrap64 (a0 - 100)) : Int).toNat ((wrap64 ((wrap64 (a0 - 100)) + 1)) : Int).toNat)) else (none)) else (none)) else (none))))) = some r := h
 clear h
 by_cases c2 : a0 = 400
 ·rw [if_pos c2] at H
  have c2b0 : (a0 == 400) = true := beq_iff_eq.mpr c2
  have c2b1 : (a0 != 400) = false := bne_eq_false_iff_eq.mpr c2
  clear c2
  obtain rfl := Option.some.inj H
  go_enter Tryd.func75,Tryd.ntmps75
  go_wp2
  go_ret
  exact ⟨by first | rfl | (simp; done) | (simp [*]; done),by repeat (first | exact Drawn0.refl _ | apply Drawn0.step)⟩
 ·rw [if_neg c2] at H
  have c2b0 : (a0 == 400) = false := beq_eq_false_iff_ne.mpr c2
  have c2b1 : (a0 != 400) = true := bne_iff_ne.mpr c2
  by_cases c3 : a0 ≥ 300
  ·rw [if_pos c3] at H
   have c3b0 : decide (300 ≤ a0) = true := decide_eq_true c3
   clear c3
   obtain ⟨ji4,hji4⟩ : ∃ j_ : Int,(wrap64 (a0 - 300)) = j_ := ⟨_,rfl⟩
   replace H : (if 0 ≤ (ji4) then (if (ji4) ≤ (wrap64 ((ji4) + 1)) then (if (wrap64 ((ji4) + 1)) ≤ 13 then (if ((⟨#[50,51,52,53,54,55,56,57,84,74,81,75,65]⟩ : ByteArray).extract ((ji4) : Int).toNat ((wrap64 ((ji4) + 1)) : Int).toNat).size + 1 ≤ 9223372036854775807 then (some (((⟨#[50,51,52,53,54,55,56,57,84,74,81,75,65]⟩ : ByteArray).extract ((ji4) : Int).toNat ((wrap64 ((ji4) + 1)) : Int).toNat) ++ (⟨#[43]⟩ : ByteArray))) else (none)) else (none)) else (none)) else (none)) = some r := by first | (rw [hji4] at H; exact H) | (simp only [hji4] at H ⊢; exact H)
   have hji4w : (IntKind.i64.wrap (a0 - 300)) = ji4 := (QG _).trans hji4
   by_cases c5 : 0 ≤ (ji4)
   ·rw [if_pos c5] at H
    have c5b0 := eq_true c5
    have c5b1 : decide (0 ≤ (ji4)) = true := decide_eq_true c5
    clear c5
    by_cases c6 : (ji4) ≤ (wrap64 ((ji4) + 1))
    ·rw [if_pos c6] at H
     have c6b0 := eq_true c6
     have c6b1 : decide ((ji4) ≤ (wrap64 ((ji4) + 1))) = true := decide_eq_true c6
     by_cases c7 : (wrap64 ((ji4) + 1)) ≤ 13
     ·rw [if_pos c7] at H
      have c7b0 := eq_true c7
      have c7b1 : decide ((wrap64 ((ji4) + 1)) ≤ 13) = true := decide_eq_true c7
      by_cases c8 : ((⟨#[50,51,52,53,54,55,56,57,84,74,81,75,65]⟩ : ByteArray).extract ((ji4) : Int).toNat ((wrap64 ((ji4) + 1)) : Int).toNat).size + 1 ≤ 9223372036854775807
      ·rw [if_pos c8] at H
       have c8b0 := eq_true c8
       have c8b1 : decide (((⟨#[50,51,52,53,54,55,56,57,84,74,81,75,65]⟩ : ByteArray).extract ((ji4) : Int).toNat ((wrap64 ((ji4) + 1)) : Int).toNat).size + 1 ≤ 9223372036854775807) = true := decide_eq_true c8
       try have c8b2 : (9223372036854775807 < ((⟨#[50,51,52,53,54,55,56,57,84,74,81,75,65]⟩ : ByteArray).extract ((ji4) : Int).toNat ((wrap64 ((ji4) + 1)) : Int).toNat).size + 1) = False := eq_false (Nat.not_lt.2 c8)
       obtain rfl := Option.some.inj H
       go_enter Tryd.func75,Tryd.ntmps75
       go_wp2
       go_ret
       exact ⟨by first | rfl | (simp; done) | (simp only [← hji4] <;> (first | rfl | simp)) | (simp [*]; done),by repeat (first | exact Drawn0.refl _ | apply Drawn0.step)⟩
      ·rw [if_neg c8] at H
       exact absurd H (by simp)
     ·rw [if_neg c7] at H
      exact absurd H (by simp)
    ·rw [if_neg c6] at H
     exact absurd H (by simp)
   ·rw [if_neg c5] at H
    exact absurd H (by simp)
  ·rw [if_neg c3] at H
   have c3b0 : decide (300 ≤ a0) = false := decide_eq_false c3
   clear c3
   by_cases c9 : a0 ≥ 200
   ·rw [if_pos c9] at H
    have c9b0 : decide (200 ≤ a0) = true := decide_eq_true c9
    clear c9
    obtain ⟨ji10,hji10⟩ : ∃ j_ : Int,(wrap64 (a0 - 200)) = j_ := ⟨_,rfl⟩
    replace H : (if 0 ≤ (ji10) then (if (ji10) ≤ (wrap64 ((ji10) + 1)) then (if (wrap64 ((ji10) + 1)) ≤ 13 then (some ((⟨#[50,51,52,53,54,55,56,57,84,74,81,75,65]⟩ : ByteArray).extract ((ji10) : Int).toNat ((wrap64 ((ji10) + 1)) : Int).toNat)) else (none)) else (none)) else (none)) = some r := by first | (rw [hji10] at H; exact H) | (simp only [hji10] at H ⊢; exact H)
    have hji10w : (IntKind.i64.wrap (a0 - 200)) = ji10 := (QG _).trans hji10
    by_cases c11 : 0 ≤ (ji10)
    ·rw [if_pos c11] at H
     have c11b0 := eq_true c11
     have c11b1 : decide (0 ≤ (ji10)) = true := decide_eq_true c11
     clear c11
     by_cases c12 : (ji10) ≤ (wrap64 ((ji10) + 1))
     ·rw [if_pos c12] at H
      have c12b0 := eq_true c12
      have c12b1 : decide ((ji10) ≤ (wrap64 ((ji10) + 1))) = true := decide_eq_true c12
      by_cases c13 : (wrap64 ((ji10) + 1)) ≤ 13
      ·rw [if_pos c13] at H
       have c13b0 := eq_true c13
       have c13b1 : decide ((wrap64 ((ji10) + 1)) ≤ 13) = true := decide_eq_true c13
       obtain rfl := Option.some.inj H
       go_enter Tryd.func75,Tryd.ntmps75
       go_wp2
       go_ret
       exact ⟨by first | rfl | (simp; done) | (simp only [← hji10] <;> (first | rfl | simp)) | (simp [*]; done),by repeat (first | exact Drawn0.refl _ | apply Drawn0.step)⟩
      ·rw [if_neg c13] at H
       exact absurd H (by simp)
     ·rw [if_neg c12] at H
      exact absurd H (by simp)
    ·rw [if_neg c11] at H
     exact absurd H (by simp)
   ·rw [if_neg c9] at H
    have c9b0 : decide (200 ≤ a0) = false := decide_eq_false c9
    clear c9
    obtain ⟨ji14,hji14⟩ : ∃ j_ : Int,(wrap64 (a0 - 100)) = j_ := ⟨_,rfl⟩
    replace H : (if 0 ≤ (ji14) then (if (ji14) ≤ (wrap64 ((ji14) + 1)) then (if (wrap64 ((ji14) + 1)) ≤ 4 then (some ((⟨#[99,100,104,115]⟩ : ByteArray).extract ((ji14) : Int).toNat ((wrap64 ((ji14) + 1)) : Int).toNat)) else (none)) else (none)) else (none)) = some r := by first | (rw [hji14] at H; exact H) | (simp only [hji14] at H ⊢; exact H)
    have hji14w : (IntKind.i64.wrap (a0 - 100)) = ji14 := (QG _).trans hji14
    by_cases c15 : 0 ≤ (ji14)
    ·rw [if_pos c15] at H
     have c15b0 := eq_true c15
     have c15b1 : decide (0 ≤ (ji14)) = true := decide_eq_true c15
     clear c15
     by_cases c16 : (ji14) ≤ (wrap64 ((ji14) + 1))
     ·rw [if_pos c16] at H
      have c16b0 := eq_true c16
      have c16b1 : decide ((ji14) ≤ (wrap64 ((ji14) + 1))) = true := decide_eq_true c16
      by_cases c17 : (wrap64 ((ji14) + 1)) ≤ 4
      ·rw [if_pos c17] at H
       have c17b0 := eq_true c17
       have c17b1 : decide ((wrap64 ((ji14) + 1)) ≤ 4) = true := decide_eq_true c17
       obtain rfl := Option.some.inj H
       go_enter Tryd.func75,Tryd.ntmps75
       go_wp2
       go_ret
       exact ⟨by first | rfl | (simp; done) | (simp only [← hji14] <;> (first | rfl | simp)) | (simp [*]; done),by repeat (first | exact Drawn0.refl _ | apply Drawn0.step)⟩
      ·rw [if_neg c17] at H
       exact absurd H (by simp)
     ·rw [if_neg c16] at H
      exact absurd H (by simp)
    ·rw [if_neg c15] at H
     exact absurd H (by simp)

/-! ### impl_PatternText: function 55 -/
def impl_PatternText.l0 : Nat → List ByteArray → List Int → Int → Int → Option (ByteArray)
 | 0,_,_,_,_ => none
 | k + 1,x3,x11,x12,x13 => if x13 < x12 then (if 0 ≤ x13 then (if x13 < (x11.length : Int) then (if (rd x11 x13) = (-1) then (if 0 ≤ (wrap64 ((x3.length : Int) - 1)) then (if (wrap64 ((x3.length : Int) - 1)) < (x3.length : Int) then (if 1 + (rdOf ByteArray.empty x3 (wrap64 ((x3.length : Int) - 1))).size ≤ 9223372036854775807 then (impl_PatternText.l0 k (x3.set ((wrap64 ((x3.length : Int) - 1)) : Int).toNat ((⟨#[33]⟩ : ByteArray) ++ (rdOf ByteArray.empty x3 (wrap64 ((x3.length : Int) - 1))))) x11 x12 (wrap64 (x13 + 1))) else (none)) else (none)) else (none)) else (if (rd x11 x13) = (-2) then (if 0 ≤ (wrap64 ((x3.length : Int) - 2)) then (if (wrap64 ((x3.length : Int) - 2)) < (x3.length : Int) then (if 1 + (rdOf ByteArray.empty x3 (wrap64 ((x3.length : Int) - 2))).size ≤ 9223372036854775807 then (if ((⟨#[40]⟩ : ByteArray) ++ (rdOf ByteArray.empty x3 (wrap64 ((x3.length : Int) - 2)))).size + 1 ≤ 9223372036854775807 then (if 0 ≤ (wrap64 ((x3.length : Int) - 1)) then (if (wrap64 ((x3.length : Int) - 1)) < (x3.length : Int) then (if (((⟨#[40]⟩ : ByteArray) ++ (rdOf ByteArray.empty x3 (wrap64 ((x3.length : Int) - 2)))) ++ (⟨#[38]⟩ : ByteArray)).size + (rdOf ByteArray.empty x3 (wrap64 ((x3.length : Int) - 1))).size ≤ 9223372036854775807 then (if ((((⟨#[40]⟩ : ByteArray) ++ (rdOf ByteArray.empty x3 (wrap64 ((x3.length : Int) - 2)))) ++ (⟨#[38]⟩ : ByteArray)) ++ (rdOf ByteArray.empty x3 (wrap64 ((x3.length : Int) - 1)))).size + 1 ≤ 9223372036854775807 then (if (wrap64 ((x3.length : Int) - 2)) ≤ (x3.length : Int) then ((some (x3.take ((wrap64 ((x3.length : Int) - 2)) : Int).toNat : List ByteArray)).bind fun y155 => (if y155.length < 8796093022208 then (impl_PatternText.l0 k (y155 ++ [((((⟨#[40]⟩ : ByteArray) ++ (rdOf ByteArray.empty x3 (wrap64 ((x3.length : Int) - 2)))) ++ (⟨#[38]⟩ : ByteArray)) ++ (rdOf ByteArray.empty x3 (wrap64 ((x3.length : Int) - 1)))) ++ (⟨#[41]⟩ : ByteArray)]) x11 x12 (wrap64 (x13 + 1))) else (none))) else (none)) else (none)) else (none)) else (none)) else (none)) else (none)) else (none)) else (none)) else (none)) else (if (rd x11 x13) = (-3) then (if 0 ≤ (wrap64 ((x3.length : Int) - 2)) then (if (wrap64 ((x3.length : Int) - 2)) < (x3.length : Int) then (if 1 + (rdOf ByteArray.empty x3 (wrap64 ((x3.length : Int) - 2))).size ≤ 9223372036854775807 then (if ((⟨#[40]⟩ : ByteArray) ++ (rdOf ByteArray.empty x3 (wrap64 ((x3.length : Int) - 2)))).size + 1 ≤ 9223372036854775807 then (if 0 ≤ (wrap64 ((x3.length : Int) - 1)) then (if (wrap64 ((x3.length : Int) - 1)) < (x3.length : Int) then (if (((⟨#[40]⟩ : ByteArray) ++ (rdOf ByteArray.empty x3 (wrap64 ((x3.length : Int) - 2)))) ++ (⟨#[124]⟩ : ByteArray)).size + (rdOf ByteArray.empty x3 (wrap64 ((x3.length : Int) - 1))).size ≤ 9223372036854775807 then (if ((((⟨#[40]⟩ : ByteArray) ++ (rdOf ByteArray.empty x3 (wrap64 ((x3.length : Int) - 2)))) ++ (⟨#[124]⟩ : ByteArray)) ++ (rdOf ByteArray.empty x3 (wrap64 ((x3.length : Int) - 1)))).size + 1 ≤ 9223372036854775807 then (if (wrap64 ((x3.length : Int) - 2)) ≤ (x3.length : Int) then ((some (x3.take ((wrap64 ((x3.length : Int) - 2)) : Int).toNat : List ByteArray)).bind fun y163 => (if y163.length < 8796093022208 then (impl_PatternText.l0 k (y163 ++ [((((⟨#[40]⟩ : ByteArray) ++ (rdOf ByteArray.empty x3 (wrap64 ((x3.length : Int) - 2)))) ++ (⟨#[124]⟩ : ByteArray)) ++ (rdOf ByteArray.empty x3 (wrap64 ((x3.length : Int) - 1)))) ++ (⟨#[41]⟩ : ByteArray)]) x11 x12 (wrap64 (x13 + 1))) else (none))) else (none)) else (none)) else (none)) else (none)) else (none)) else (none)) else (none)) else (none)) else (none)) else ((impl_signText.f (rd x11 x13)).bind fun t169 => (if x3.length < 8796093022208 then (impl_PatternText.l0 k (x3 ++ [t169]) x11 x12 (wrap64 (x13 + 1))) else (none)))))) else (none)) else (none)) else (if 0 < (x3.length : Int) then (some (rdOf ByteArray.empty x3 0)) else (none))
def impl_PatternText.f (k : Nat) (l0 : List Int) : Option (ByteArray) := (impl_IsPattern.f k l0).bind fun t145 => (if t145 = true then (impl_PatternText.l0 k (([] : List ByteArray)) l0 (l0.length : Int) 0) else (some (⟨#[]⟩ : ByteArray)))
theorem impl_PatternText.mono_l : ∀ k, (∀ y0 y1 y2 y3, LeO (impl_PatternText.l0 k y0 y1 y2 y3) (impl_PatternText.l0 (k + 1) y0 y1 y2 y3))
 | 0 => fun _ _ _ _ r h => by simp [impl_PatternText.l0] at h
 | k + 1 => by
  have ih0 := impl_PatternText.mono_l k
  ·intro y0 y1 y2 y3
   unfold impl_PatternText.l0
   repeat' first
   | (with_reducible exact ih0 _ _ _ _)
   | (with_reducible exact impl_IsPattern.mono _ _)
   | (with_reducible exact LeO.refl _)
   | (with_reducible exact LeO.none _)
   | (with_reducible refine LeO.ite ?_ ?_)
   | (with_reducible refine LeO.bind ?_ (fun _ => ?_))
   | exact ih0 _ _ _ _
   | exact impl_IsPattern.mono _ _
   | exact LeO.none _
   | refine LeO.ite ?_ ?_
   | refine LeO.bind ?_ (fun _ => ?_)
theorem impl_PatternText.mono : ∀ a0 k, LeO (impl_PatternText.f k a0) (impl_PatternText.f (k + 1) a0) := by
 intro a0 k
 have ih0 := impl_PatternText.mono_l k
 unfold impl_PatternText.f
 repeat' first
   | (with_reducible exact ih0 _ _ _ _)
   | (with_reducible exact impl_IsPattern.mono _ _)
   | (with_reducible exact LeO.refl _)
   | (with_reducible exact LeO.none _)
   | (with_reducible refine LeO.ite ?_ ?_)
   | (with_reducible refine LeO.bind ?_ (fun _ => ?_))
   | exact ih0 _ _ _ _
   | exact impl_IsPattern.mono _ _
   | exact LeO.none _
   | refine LeO.ite ?_ ?_
   | refine LeO.bind ?_ (fun _ => ?_)
def impl_PatternText.T13 : Bool × List (List Nat × List Nat) := (true, [([], []), ([], []), ([1], [1]), ([0, 2], [0, 2]), ([], []), ([], []), ([5], [5]), ([4, 6], [4, 6]), ([7], [7]), ([8], [8]), ([9], [9]), ([], []), ([], []), ([12], [12]), ([11, 13], [11, 13]), ([14], [14]), ([10, 15], [10, 15]), ([16], [16]), ([17], [17]), ([3, 18], [3, 18]), ([19, 19, 0, 1, 2, 3, 4, 5, 6, 7, 8, 9, 10, 11, 12, 13, 14, 15, 16, 17, 18, 19], [0, 4, 11, 19])])
def impl_PatternText.B13 : List Nat := [0, 0, 2, 7, 0, 0, 32, 112, 240, 496, 1008, 0, 0, 4096, 14336, 30720, 65520, 131056, 262128, 524287, 1048575]
theorem impl_PatternText.tab13 : rtab .any (opsOf Tryd.f55 13) = impl_PatternText.T13 := by kernel_rfl
theorem impl_PatternText.bits13 : waitsOk impl_PatternText.T13.2 impl_PatternText.B13 = true := by kernel_rfl
def impl_PatternText.T15 : Bool × List (List Nat × List Nat) := (true, [([], []), ([], []), ([1], [1]), ([0, 2], [0, 2]), ([], []), ([], []), ([5], [5]), ([4, 6], [4, 6]), ([7], [7]), ([8], [8]), ([9], [9]), ([], []), ([], []), ([12], [12]), ([11, 13], [11, 13]), ([14], [14]), ([10, 15], [10, 15]), ([16], [16]), ([17], [17]), ([3, 18], [3, 18]), ([19, 19, 0, 1, 2, 3, 4, 5, 6, 7, 8, 9, 10, 11, 12, 13, 14, 15, 16, 17, 18, 19], [0, 4, 11, 19])])
def impl_PatternText.B15 : List Nat := [0, 0, 2, 7, 0, 0, 32, 112, 240, 496, 1008, 0, 0, 4096, 14336, 30720, 65520, 131056, 262128, 524287, 1048575]
theorem impl_PatternText.tab15 : rtab .any (opsOf Tryd.f55 15) = impl_PatternText.T15 := by kernel_rfl
theorem impl_PatternText.bits15 : waitsOk impl_PatternText.T15.2 impl_PatternText.B15 = true := by kernel_rfl
set_option maxHeartbeats 8000000 in
set_option maxRecDepth 100000 in
theorem impl_PatternText.calls (k : Nat) (A0 : Option Addr) (c0 : Nat) (l0 : List Int) (r : ByteArray) (w : World) (hr0 : Kd.C (Kd.int .i64) w A0 l0.length l0) (hc0 : l0.length ≤ c0) (h : impl_PatternText.f k l0 = some r) :
  Calls Tryd.prog 55 #[.slice A0 l0.length c0] w fun e w' => e = .returned (.string r) ∧ Below w.heap.size w w' := by
 have HR0 := QO hr0
 have HC0 := QO hc0
 clear hr0 hc0
 have HB := QO (Below.refl w.heap.size w)
 have H : ((impl_IsPattern.f k l0).bind fun t145 => (if t145 = true then (impl_PatternText.l0 k (([] : List ByteArray)) l0 (l0.length : Int) 0) else (some (⟨#[]⟩ : ByteArray)))) = some r := h
 clear h
 replace H := QP.mp H
 obtain ⟨t145,A20,H⟩ := H
 have A2 := QO A20
 clear A20
 by_cases c3 : t145 = true
 ·subst c3
  rw [if_pos rfl] at H
  obtain ⟨y146,hy146⟩ : ∃ y_ : List ByteArray,y_ = (([] : List ByteArray)) := ⟨_,rfl⟩
  replace H : (impl_PatternText.l0 k y146 l0 (l0.length : Int) 0) = some r := by first | (rw [hy146]; with_reducible exact H) | (have H2_ := (Option.bind_some _ _).symm.trans H; rw [hy146]; with_reducible exact H2_) | (have H2_ := (Option.bind_some _ _).symm.trans H; with_reducible exact H2_) | with_reducible exact H | (rw [hy146]; exact H) | exact H
  have Ny146 := QO hy146
  clear hy146
  have H' := QO H
  clear H
  go_enter Tryd.func55,Tryd.ntmps55
  go_wp2_with (first | ((with_reducible refine QK (f := 60) rfl ?_); refine goesL_ (some 8) rfl rfl Tryd.func60 (by kernel_rfl) rfl #[.slice A0 l0.length c0] rfl (by (try simp only [List.map_toArray,List.map_cons,List.map_nil]); first | done | rfl | (simp only [List.length_drop,List.length_take]; rfl)) ?_; (with_reducible refine (impl_IsPattern.calls k _ _ l0 true _ ?side1 ?side2 A2.out).mono ?_); (case side1 => repeat (first | exact HR0.out | (with_reducible refine Kd.C_alloc ?_ _) | (with_reducible refine Kd.C_drewN ?_ _) | (with_reducible refine Kd.C_drew ?_))); (case side2 => exact HC0.out); rintro e w' ⟨rfl,⟨nd,rfl⟩⟩; refine ⟨_,rfl,?_⟩) | ((with_reducible refine gate_dst (N := 10) rfl ?_); refine Kd.R_lit Kd.string _ 9 ?hg (N := 10) ?hd (xs := ([] : List ByteArray)) (inner := []) (ok := fun _ => True) (okp := fun _ => True) ?hr ?hp (fun _ hk => hk) trivial (Below.refl _ _) (Nat.le_refl _) (by simp) ?_; (case hd => rfl); (case hg => rfl); (case hr => first | (go_simp; done) | (go_simp; rfl)); (case hp => exact (Reps.none _ _)); intro v147 w4 ho5 hb hg_ hnew_; clear hg_ hnew_; (first | rw [← Ny146.out] at ho5 | (simp only [Int.reduceToNat] at ho5; rw [← Ny146.out] at ho5)); have n0_ := QO (Kd.R_lower ho5 (below_size (by repeat (first | (with_reducible first | exact HB.out | apply QD | apply QB | apply QC) | exact HB.out)))); have n1_ := QO (below_step (by repeat (first | (with_reducible first | exact HB.out | apply QD | apply QB | apply QC) | exact HB.out)) hb); clear HB; revert n0_ n1_; intro HO148 HB; clear hb ho5))
  go_loopg [3,13] k (fun kq v3 v13 w' => ∃ (x3_1 : List ByteArray) (x13_1 : Int),v13 = .int .i64 x13_1 ∧ Aside0 (impl_PatternText.l0 kq x3_1 l0 (l0.length : Int) x13_1 = some r) ∧ Aside0 (kq ≤ k) ∧ Aside0 (Kd.R Kd.string 9 w' w.heap.size (fun _ => True) v3 x3_1) ∧ Aside0 (Below w.heap.size w w'))
  case atStart => exact ⟨(y146),(0),(by first | rfl | (simp; done) | (simp [*]; done)),H',⟨Nat.le_refl _⟩,⟨by (with_reducible repeat (first | apply Kd.R_alloc | apply Kd.R_drewN | apply Kd.R_drew)); exact HO148.out⟩,⟨by repeat (first | (with_reducible first | exact HB.out | apply QD | apply QB | apply QC) | exact HB.out)⟩⟩
  case round =>
   clear H'
   try clear p2
   try clear c3
   try clear c5
   obtain ⟨x3_1,x13_1,rfl,HA,HK1,HO_3,HB⟩ := hrel
   cases gk with
   | zero => exact absurd HA.out (by simp [impl_PatternText.l0])
   | succ k1 =>
    have H := HA.out
    clear HA
    simp only [impl_PatternText.l0] at H
    by_cases c6 : x13_1 < (l0.length : Int)
    ·rw [if_pos c6] at H
     have c6b0 : decide (x13_1 < (l0.length : Int)) = true := decide_eq_true c6
     clear c6
     by_cases c7 : 0 ≤ x13_1
     ·rw [if_pos c7] at H
      have c7b0 : decide (0 ≤ x13_1) = true := decide_eq_true c7
      clear c7
      by_cases c8 : x13_1 < (l0.length : Int)
      ·rw [if_pos c8] at H
       have c8b0 : decide (x13_1 < (l0.length : Int)) = true := decide_eq_true c8
       clear c8
       by_cases c9 : (rd l0 x13_1) = (-1)
       ·rw [if_pos c9] at H
        have c9b0 : ((rd l0 x13_1) == (-1)) = true := beq_iff_eq.mpr c9
        have c9b1 : ((rd l0 x13_1) != (-1)) = false := bne_eq_false_iff_eq.mpr c9
        clear c9
        obtain ⟨ji10,hji10⟩ : ∃ j_ : Int,(wrap64 ((x3_1.length : Int) - 1)) = j_ := ⟨_,rfl⟩
        replace H : (if 0 ≤ (ji10) then (if (ji10) < (x3_1.length : Int) then (if 1 + (rdOf ByteArray.empty x3_1 (ji10)).size ≤ 9223372036854775807 then (impl_PatternText.l0 k1 (x3_1.set ((ji10) : Int).toNat ((⟨#[33]⟩ : ByteArray) ++ (rdOf ByteArray.empty x3_1 (ji10)))) l0 (l0.length : Int) (wrap64 (x13_1 + 1))) else (none)) else (none)) else (none)) = some r := by first | (rw [hji10] at H; exact H) | (simp only [hji10] at H ⊢; exact H)
        have hji10w : (IntKind.i64.wrap ((x3_1.length : Int) - 1)) = ji10 := (QG _).trans hji10
        by_cases c11 : 0 ≤ (ji10)
        ·rw [if_pos c11] at H
         have c11b0 : decide (0 ≤ (ji10)) = true := decide_eq_true c11
         clear c11
         by_cases c12 : (ji10) < (x3_1.length : Int)
         ·rw [if_pos c12] at H
          have c12b0 : decide ((ji10) < (x3_1.length : Int)) = true := decide_eq_true c12
          clear c12
          by_cases c13 : 1 + (rdOf ByteArray.empty x3_1 (ji10)).size ≤ 9223372036854775807
          ·rw [if_pos c13] at H
           have c13b0 := eq_true c13
           have c13b1 : decide (1 + (rdOf ByteArray.empty x3_1 (ji10)).size ≤ 9223372036854775807) = true := decide_eq_true c13
           try have c13b2 : (9223372036854775807 < 1 + (rdOf ByteArray.empty x3_1 (ji10)).size) = False := eq_false (Nat.not_lt.2 c13)
           obtain ⟨y152,hy152⟩ : ∃ y_ : List ByteArray,y_ = (x3_1.set ((ji10) : Int).toNat ((⟨#[33]⟩ : ByteArray) ++ (rdOf ByteArray.empty x3_1 (ji10)))) := ⟨_,rfl⟩
           replace H : (impl_PatternText.l0 k1 y152 l0 (l0.length : Int) (wrap64 (x13_1 + 1))) = some r := by first | (rw [hy152]; with_reducible exact H) | (have H2_ := (Option.bind_some _ _).symm.trans H; rw [hy152]; with_reducible exact H2_) | (have H2_ := (Option.bind_some _ _).symm.trans H; with_reducible exact H2_) | with_reducible exact H | (rw [hy152]; exact H) | exact H
           have Ny152 := QO hy152
           clear hy152
           have H' := QO H
           clear H
           have p150 : 0 ≤ (x13_1 : Int) := of_decide_eq_true (by first | (with_reducible assumption) | assumption)
           have q150 : x13_1 < (l0.length : Int) := of_decide_eq_true (by first | (with_reducible assumption) | assumption)
           obtain ⟨ad150,e150,hx150_0⟩ := Kd.at_int HR0.out x13_1 p150 q150
           cases e150
           replace hx150_0 := (HB.out.cell (World.block_lt_of_cell? w _ hx150_0)).trans hx150_0
           replace p150 := eq_true p150
           replace q150 := eq_true q150
           obtain ⟨Ao15,co15,eo15⟩ := Kd.R_slice HO_3.out
           subst eo15
           have p151 : 0 ≤ ((ji10) : Int) := of_decide_eq_true (by first | (with_reducible assumption) | assumption)
           have q151 : (ji10) < (x3_1.length : Int) := of_decide_eq_true (by first | (with_reducible assumption) | assumption)
           obtain ⟨ad151,e151,hx151_0⟩ := Kd.at_string (Kd.R_reads' HO_3.out).2.2 (ji10) p151 q151
           cases e151
           replace p151 := eq_true p151
           replace q151 := eq_true q151
           have p14 : 0 ≤ ((ji10) : Int) := of_decide_eq_true (by first | (with_reducible assumption) | assumption)
           have q14 : ((ji10) : Int) < ((x3_1.length : Int) : Int) := of_decide_eq_true (by first | (with_reducible assumption) | assumption)
           obtain ⟨go14,co14,eo14,gb14,gl14,cl14,HG14⟩ := Kd.R_form HO_3.out (by omega)
           (first | cases eo14 | (injection eo14 with ea_ en_ ec_; (first | subst ea_ | (injection ea_ with ea_; subst ea_)); subst ec_; clear en_))
           have GB14 := QO gb14
           have GG14 := QO HG14
           clear gb14 gl14 HG14
           (first | simp only [add_plain] at hx151_0 | skip)
           obtain ⟨hx14_0,hf14_0⟩ := Kd.R_celln (⟨#[]⟩ : ByteArray) HO_3.out ((ji10) : Int) p14 q14
           replace p14 := eq_true p14
           replace q14 := eq_true q14
           have HP16 := Kd.R_putg HO_3.out ((ji10) : Int) ((⟨#[33]⟩ : ByteArray) ++ (rdOf ByteArray.empty x3_1 (ji10)))
           go_wp2_with (first | ((with_reducible refine gate_store (t := 9) (p := 36) rfl ?_); refine store_event (t := 9) (p := 36) (v := ?vo_w17) (w1 := (wr.setCell ⟨go14,((ji10) : Int).toNat,none⟩ (.string ((⟨#[33]⟩ : ByteArray) ++ (rdOf ByteArray.empty x3_1 (ji10)))))) ?hg ?ho ?hn ?hr ?_; (case ho => rfl); (case hg => rfl); (case hn => rfl); (case hr => first | (go_simp; done) | (go_simp; rfl)); intro w17 hw; have hg : wr.grownBy w17 (some go14) := (by rw [hw]; exact HP16.2); have hp_ : Kd.R Kd.string 9 w17 w.heap.size (fun _ => True) (.slice (some ⟨go14,0,none⟩) x3_1.length co15) y152 := (by rw [hw,Ny152.out]; exact HP16.1); clear HP16; have n0_ := QO (hp_); have n1_ := QO ((by rw [hw]; exact QJ (HB.out) GB14.out : Below w.heap.size w w17)); clear HO_3; clear HB; revert n0_ n1_; intro HO_3 HB; clear hg hw hp_))
           go_roundg k1
           case measure => have := HK1.out; omega
           case rel => exact ⟨(y152),(wrap64 (x13_1 + 1)),(by first | rfl | (simp; done) | (simp [*]; done)),H',⟨by have := HK1.out; omega⟩,⟨by (with_reducible repeat (first | apply Kd.R_alloc | apply Kd.R_drewN | apply Kd.R_drew)); exact HO_3.out⟩,⟨by repeat (first | (with_reducible first | exact HB.out | apply QD | apply QB | apply QC) | exact HB.out)⟩⟩
          ·rw [if_neg c13] at H
           exact absurd H (by simp)
         ·rw [if_neg c12] at H
          exact absurd H (by simp)
        ·rw [if_neg c11] at H
         exact absurd H (by simp)
       ·rw [if_neg c9] at H
        have c9b0 : ((rd l0 x13_1) == (-1)) = false := beq_eq_false_iff_ne.mpr c9
        have c9b1 : ((rd l0 x13_1) != (-1)) = true := bne_iff_ne.mpr c9
        by_cases c18 : (rd l0 x13_1) = (-2)
        ·rw [if_pos c18] at H
         have c18b0 : ((rd l0 x13_1) == (-2)) = true := beq_iff_eq.mpr c18
         have c18b1 : ((rd l0 x13_1) != (-2)) = false := bne_eq_false_iff_eq.mpr c18
         clear c18
         obtain ⟨ji19,hji19⟩ : ∃ j_ : Int,(wrap64 ((x3_1.length : Int) - 2)) = j_ := ⟨_,rfl⟩
         replace H : (if 0 ≤ (ji19) then (if (ji19) < (x3_1.length : Int) then (if 1 + (rdOf ByteArray.empty x3_1 (ji19)).size ≤ 9223372036854775807 then (if ((⟨#[40]⟩ : ByteArray) ++ (rdOf ByteArray.empty x3_1 (ji19))).size + 1 ≤ 9223372036854775807 then (if 0 ≤ (wrap64 ((x3_1.length : Int) - 1)) then (if (wrap64 ((x3_1.length : Int) - 1)) < (x3_1.length : Int) then (if (((⟨#[40]⟩ : ByteArray) ++ (rdOf ByteArray.empty x3_1 (ji19))) ++ (⟨#[38]⟩ : ByteArray)).size + (rdOf ByteArray.empty x3_1 (wrap64 ((x3_1.length : Int) - 1))).size ≤ 9223372036854775807 then (if ((((⟨#[40]⟩ : ByteArray) ++ (rdOf ByteArray.empty x3_1 (ji19))) ++ (⟨#[38]⟩ : ByteArray)) ++ (rdOf ByteArray.empty x3_1 (wrap64 ((x3_1.length : Int) - 1)))).size + 1 ≤ 9223372036854775807 then (if (ji19) ≤ (x3_1.length : Int) then ((some (x3_1.take ((ji19) : Int).toNat : List ByteArray)).bind fun y155 => (if y155.length < 8796093022208 then (impl_PatternText.l0 k1 (y155 ++ [((((⟨#[40]⟩ : ByteArray) ++ (rdOf ByteArray.empty x3_1 (ji19))) ++ (⟨#[38]⟩ : ByteArray)) ++ (rdOf ByteArray.empty x3_1 (wrap64 ((x3_1.length : Int) - 1)))) ++ (⟨#[41]⟩ : ByteArray)]) l0 (l0.length : Int) (wrap64 (x13_1 + 1))) else (none))) else (none)) else (none)) else (none)) else (none)) else (none)) else (none)) else (none)) else (none)) else (none)) = some r := by first | (rw [hji19] at H; exact H) | (simp only [hji19] at H ⊢; exact H)
         have hji19w : (IntKind.i64.wrap ((x3_1.length : Int) - 2)) = ji19 := (QG _).trans hji19
         by_cases c20 : 0 ≤ (ji19)
         ·rw [if_pos c20] at H
          have c20b0 : decide (0 ≤ (ji19)) = true := decide_eq_true c20
          clear c20
          by_cases c21 : (ji19) < (x3_1.length : Int)
          ·rw [if_pos c21] at H
           have c21b0 : decide ((ji19) < (x3_1.length : Int)) = true := decide_eq_true c21
           clear c21
           by_cases c22 : 1 + (rdOf ByteArray.empty x3_1 (ji19)).size ≤ 9223372036854775807
           ·rw [if_pos c22] at H
            have c22b0 := eq_true c22
            have c22b1 : decide (1 + (rdOf ByteArray.empty x3_1 (ji19)).size ≤ 9223372036854775807) = true := decide_eq_true c22
            try have c22b2 : (9223372036854775807 < 1 + (rdOf ByteArray.empty x3_1 (ji19)).size) = False := eq_false (Nat.not_lt.2 c22)
            by_cases c23 : ((⟨#[40]⟩ : ByteArray) ++ (rdOf ByteArray.empty x3_1 (ji19))).size + 1 ≤ 9223372036854775807
            ·rw [if_pos c23] at H
             have c23b0 := eq_true c23
             have c23b1 : decide (((⟨#[40]⟩ : ByteArray) ++ (rdOf ByteArray.empty x3_1 (ji19))).size + 1 ≤ 9223372036854775807) = true := decide_eq_true c23
             try have c23b2 : (9223372036854775807 < ((⟨#[40]⟩ : ByteArray) ++ (rdOf ByteArray.empty x3_1 (ji19))).size + 1) = False := eq_false (Nat.not_lt.2 c23)
             have c23b3 := c23b2
             (try simp only [ByteArray.size_append,ba_size,List.size_toArray,List.length_cons,List.length_nil,Nat.reduceAdd,Nat.zero_add] at c23b3)
             obtain ⟨ji24,hji24⟩ : ∃ j_ : Int,(wrap64 ((x3_1.length : Int) - 1)) = j_ := ⟨_,rfl⟩
             replace H : (if 0 ≤ (ji24) then (if (ji24) < (x3_1.length : Int) then (if (((⟨#[40]⟩ : ByteArray) ++ (rdOf ByteArray.empty x3_1 (ji19))) ++ (⟨#[38]⟩ : ByteArray)).size + (rdOf ByteArray.empty x3_1 (ji24)).size ≤ 9223372036854775807 then (if ((((⟨#[40]⟩ : ByteArray) ++ (rdOf ByteArray.empty x3_1 (ji19))) ++ (⟨#[38]⟩ : ByteArray)) ++ (rdOf ByteArray.empty x3_1 (ji24))).size + 1 ≤ 9223372036854775807 then (if (ji19) ≤ (x3_1.length : Int) then ((some (x3_1.take ((ji19) : Int).toNat : List ByteArray)).bind fun y155 => (if y155.length < 8796093022208 then (impl_PatternText.l0 k1 (y155 ++ [((((⟨#[40]⟩ : ByteArray) ++ (rdOf ByteArray.empty x3_1 (ji19))) ++ (⟨#[38]⟩ : ByteArray)) ++ (rdOf ByteArray.empty x3_1 (ji24))) ++ (⟨#[41]⟩ : ByteArray)]) l0 (l0.length : Int) (wrap64 (x13_1 + 1))) else (none))) else (none)) else (none)) else (none)) else (none)) else (none)) = some r := by first | (rw [hji24] at H; exact H) | (simp only [hji24] at H ⊢; exact H)
             have hji24w : (IntKind.i64.wrap ((x3_1.length : Int) - 1)) = ji24 := (QG _).trans hji24
             by_cases c25 : 0 ≤ (ji24)
             ·rw [if_pos c25] at H
              have c25b0 : decide (0 ≤ (ji24)) = true := decide_eq_true c25
              clear c25
              by_cases c26 : (ji24) < (x3_1.length : Int)
              ·rw [if_pos c26] at H
               have c26b0 : decide ((ji24) < (x3_1.length : Int)) = true := decide_eq_true c26
               clear c26
               by_cases c27 : (((⟨#[40]⟩ : ByteArray) ++ (rdOf ByteArray.empty x3_1 (ji19))) ++ (⟨#[38]⟩ : ByteArray)).size + (rdOf ByteArray.empty x3_1 (ji24)).size ≤ 9223372036854775807
               ·rw [if_pos c27] at H
                have c27b0 := eq_true c27
                have c27b1 : decide ((((⟨#[40]⟩ : ByteArray) ++ (rdOf ByteArray.empty x3_1 (ji19))) ++ (⟨#[38]⟩ : ByteArray)).size + (rdOf ByteArray.empty x3_1 (ji24)).size ≤ 9223372036854775807) = true := decide_eq_true c27
                try have c27b2 : (9223372036854775807 < (((⟨#[40]⟩ : ByteArray) ++ (rdOf ByteArray.empty x3_1 (ji19))) ++ (⟨#[38]⟩ : ByteArray)).size + (rdOf ByteArray.empty x3_1 (ji24)).size) = False := eq_false (Nat.not_lt.2 c27)
                have c27b3 := c27b2
                (try simp only [ByteArray.size_append,ba_size,List.size_toArray,List.length_cons,List.length_nil,Nat.reduceAdd,Nat.zero_add] at c27b3)
                by_cases c28 : ((((⟨#[40]⟩ : ByteArray) ++ (rdOf ByteArray.empty x3_1 (ji19))) ++ (⟨#[38]⟩ : ByteArray)) ++ (rdOf ByteArray.empty x3_1 (ji24))).size + 1 ≤ 9223372036854775807
                ·rw [if_pos c28] at H
                 have c28b0 := eq_true c28
                 have c28b1 : decide (((((⟨#[40]⟩ : ByteArray) ++ (rdOf ByteArray.empty x3_1 (ji19))) ++ (⟨#[38]⟩ : ByteArray)) ++ (rdOf ByteArray.empty x3_1 (ji24))).size + 1 ≤ 9223372036854775807) = true := decide_eq_true c28
                 try have c28b2 : (9223372036854775807 < ((((⟨#[40]⟩ : ByteArray) ++ (rdOf ByteArray.empty x3_1 (ji19))) ++ (⟨#[38]⟩ : ByteArray)) ++ (rdOf ByteArray.empty x3_1 (ji24))).size + 1) = False := eq_false (Nat.not_lt.2 c28)
                 have c28b3 := c28b2
                 (try simp only [ByteArray.size_append,ba_size,List.size_toArray,List.length_cons,List.length_nil,Nat.reduceAdd,Nat.zero_add] at c28b3)
                 by_cases c29 : (ji19) ≤ (x3_1.length : Int)
                 ·rw [if_pos c29] at H
                  have c29b0 := eq_true c29
                  have c29b1 : decide ((ji19) ≤ (x3_1.length : Int)) = true := decide_eq_true c29
                  clear c29
                  obtain ⟨y155,hy155⟩ : ∃ y_ : List ByteArray,y_ = (x3_1.take ((ji19) : Int).toNat) := ⟨_,rfl⟩
                  replace H : (if y155.length < 8796093022208 then (impl_PatternText.l0 k1 (y155 ++ [((((⟨#[40]⟩ : ByteArray) ++ (rdOf ByteArray.empty x3_1 (ji19))) ++ (⟨#[38]⟩ : ByteArray)) ++ (rdOf ByteArray.empty x3_1 (ji24))) ++ (⟨#[41]⟩ : ByteArray)]) l0 (l0.length : Int) (wrap64 (x13_1 + 1))) else (none)) = some r := by first | (rw [hy155]; with_reducible exact H) | (have H2_ := (Option.bind_some _ _).symm.trans H; rw [hy155]; with_reducible exact H2_) | (have H2_ := (Option.bind_some _ _).symm.trans H; with_reducible exact H2_) | with_reducible exact H | (rw [hy155]; exact H) | exact H
                  have Ny155 := QO hy155
                  clear hy155
                  by_cases c30 : y155.length < 8796093022208
                  ·rw [if_pos c30] at H
                   have LMc30 := QO c30
                   clear c30
                   obtain ⟨y158,hy158⟩ : ∃ y_ : List ByteArray,y_ = (y155 ++ [((((⟨#[40]⟩ : ByteArray) ++ (rdOf ByteArray.empty x3_1 (ji19))) ++ (⟨#[38]⟩ : ByteArray)) ++ (rdOf ByteArray.empty x3_1 (ji24))) ++ (⟨#[41]⟩ : ByteArray)]) := ⟨_,rfl⟩
                   replace H : (impl_PatternText.l0 k1 y158 l0 (l0.length : Int) (wrap64 (x13_1 + 1))) = some r := by first | (rw [hy158]; with_reducible exact H) | (have H2_ := (Option.bind_some _ _).symm.trans H; rw [hy158]; with_reducible exact H2_) | (have H2_ := (Option.bind_some _ _).symm.trans H; with_reducible exact H2_) | with_reducible exact H | (rw [hy158]; exact H) | exact H
                   have Ny158 := QO hy158
                   clear hy158
                   have H' := QO H
                   clear H
                   have p150 : 0 ≤ (x13_1 : Int) := of_decide_eq_true (by first | (with_reducible assumption) | assumption)
                   have q150 : x13_1 < (l0.length : Int) := of_decide_eq_true (by first | (with_reducible assumption) | assumption)
                   obtain ⟨ad150,e150,hx150_0⟩ := Kd.at_int HR0.out x13_1 p150 q150
                   cases e150
                   replace hx150_0 := (HB.out.cell (World.block_lt_of_cell? w _ hx150_0)).trans hx150_0
                   replace p150 := eq_true p150
                   replace q150 := eq_true q150
                   obtain ⟨Ao31,co31,eo31⟩ := Kd.R_slice HO_3.out
                   subst eo31
                   try go_wp2
                   have n0_ := QO (Kd.R_drew HO_3.out)
                   have n1_ := QO (QC HB.out)
                   clear HO_3
                   clear HB
                   revert n0_ n1_
                   intro HO_3 HB
                   have p153 : 0 ≤ ((ji19) : Int) := of_decide_eq_true (by first | (with_reducible assumption) | assumption)
                   have q153 : (ji19) < (x3_1.length : Int) := of_decide_eq_true (by first | (with_reducible assumption) | assumption)
                   obtain ⟨ad153,e153,hx153_0⟩ := Kd.at_string (Kd.R_reads' HO_3.out).2.2 (ji19) p153 q153
                   cases e153
                   replace p153 := eq_true p153
                   replace q153 := eq_true q153
                   have p154 : 0 ≤ ((ji24) : Int) := of_decide_eq_true (by first | (with_reducible assumption) | assumption)
                   have q154 : (ji24) < (x3_1.length : Int) := of_decide_eq_true (by first | (with_reducible assumption) | assumption)
                   obtain ⟨ad154,e154,hx154_0⟩ := Kd.at_string (Kd.R_reads' HO_3.out).2.2 (ji24) p154 q154
                   obtain rfl : ad153 = ad154 := (by injection e154)
                   replace p154 := eq_true p154
                   replace q154 := eq_true q154
                   have q33 : ((ji19) : Int) ≤ ((x3_1.length : Int) : Int) := of_decide_eq_true (by first | (with_reducible assumption) | assumption)
                   obtain ⟨i033,hi033,_,hsz33,_⟩ := info_parts info9
                   have hcut33 := cut_to (P := Tryd.prog) 36 9 .i64 Tryd.underlying36 hi033 (some ad153) x3_1.length co31 (ji19) (of_decide_eq_true (by first | (with_reducible assumption) | assumption)) q33 (Kd.R_reads' HO_3.out).2.1
                   have hr33 := Kd.R_take (m := ((ji19) : Int).toNat) HO_3.out (by omega)
                   have hy33 : y155.length = ((ji19) : Int).toNat := (by rw [Ny155.out,List.length_take]; omega)
                   rw [← Ny155.out] at hr33
                   rw [← hy33] at hr33 hcut33
                   clear hy33 hi033 hsz33 HO_3
                   have HO157 := QO hr33
                   clear hr33
                   replace q33 := eq_true q33
                   refine start_ (n := 21) (S := fun w' => w'.cell? (ad153.add ((ji19)).toNat) = some (.string (rdOf ByteArray.empty x3_1 (ji19))) ∧ w'.cell? (ad153.add ((ji24)).toNat) = some (.string (rdOf ByteArray.empty x3_1 (ji24)))) (ds := [18,19]) (ab 21 0) (by kernel_rfl) rfl rfl ⟨hx153_0,hx154_0⟩ (fun hHeld => ?_); refine with_tabW impl_PatternText.tab13 impl_PatternText.bits13 (fun HT_ HW_ => ?_)
                   generalize wr.drew = w32 at HB HO157 hx153_0 hx154_0 hHeld ⊢
                   refine pure_ (i := 0) (N := some 39) (v := ?_) (a' := ?_) (ab 21 1) rfl rfl (QI HT_.out (by kernel_rfl)) (fun _ _ _ h => h) (Or.inl ⟨by rfl,?_⟩) ?_ ?_
                   rotate_left
                   ·intro w'
                    go_simp
                    with_reducible rfl
                   rotate_left
                   ·simp only [Act.put,QL,QM,QN,QG,QH]
                    rfl
                   refine pure_ (i := 1) (N := some 40) (v := ?_) (a' := ?_) (ab 21 3) rfl rfl (QI HT_.out (by kernel_rfl)) (fun _ _ _ h => h) (Or.inl ⟨by rfl,?_⟩) ?_ ?_
                   rotate_left
                   ·intro w'
                    go_simp
                    with_reducible rfl
                   rotate_left
                   ·simp only [Act.put,QL,QM,QN,QG,QH]
                    rfl
                   refine pure_ (i := 2) (N := some 41) (v := ?_) (a' := ?_) (ab 21 7) rfl rfl (QI HT_.out (by kernel_rfl)) (fun _ _ _ h => h) (Or.inl ⟨by rfl,?_⟩) ?_ ?_
                   rotate_left
                   ·intro w'
                    go_simp
                    with_reducible rfl
                   rotate_left
                   ·simp only [Act.put,QL,QM,QN,QG,QH]
                    rfl
                   refine pure_ (i := 4) (N := some 43) (v := ?_) (a' := ?_) (ab 21 23) rfl rfl (QI HT_.out (by kernel_rfl)) (fun _ _ _ h => h) (Or.inl ⟨by rfl,?_⟩) ?_ ?_
                   rotate_left
                   ·intro w'
                    go_simp
                    with_reducible rfl
                   rotate_left
                   ·simp only [Act.put,QL,QM,QN,QG,QH]
                    rfl
                   refine pure_ (i := 5) (N := some 44) (v := ?_) (a' := ?_) (ab 21 55) rfl rfl (QI HT_.out (by kernel_rfl)) (fun _ _ _ h => h) (Or.inl ⟨by rfl,?_⟩) ?_ ?_
                   rotate_left
                   ·intro w'
                    go_simp
                    with_reducible rfl
                   rotate_left
                   ·simp only [Act.put,QL,QM,QN,QG,QH]
                    rfl
                   refine pure_ (i := 6) (N := some 45) (v := ?_) (a' := ?_) (ab 21 119) rfl rfl (QI HT_.out (by kernel_rfl)) (fun _ _ _ h => h) (Or.inl ⟨by rfl,?_⟩) ?_ ?_
                   rotate_left
                   ·intro w'
                    go_simp
                    with_reducible rfl
                   rotate_left
                   ·simp only [Act.put,QL,QM,QN,QG,QH]
                    rfl
                   refine pure_ (i := 7) (N := some 46) (v := ?_) (a' := ?_) (ab 21 247) rfl rfl (QI HT_.out (by kernel_rfl)) (fun _ _ _ h => h) (Or.inl ⟨by rfl,?_⟩) ?_ ?_
                   rotate_left
                   ·intro w'
                    go_simp
                    with_reducible rfl
                   rotate_left
                   ·simp only [Act.put,QL,QM,QN,QG,QH]
                    rfl
                   refine pure_ (i := 11) (N := some 50) (v := ?_) (a' := ?_) (ab 21 2295) rfl rfl (QI HT_.out (by kernel_rfl)) (fun _ _ _ h => h) (Or.inl ⟨by rfl,?_⟩) ?_ ?_
                   rotate_left
                   ·intro w'
                    go_simp
                    with_reducible rfl
                   rotate_left
                   ·simp only [Act.put,QL,QM,QN,QG,QH]
                    rfl
                   refine pure_ (i := 12) (N := some 51) (v := ?_) (a' := ?_) (ab 21 6391) rfl rfl (QI HT_.out (by kernel_rfl)) (fun _ _ _ h => h) (Or.inl ⟨by rfl,?_⟩) ?_ ?_
                   rotate_left
                   ·intro w'
                    go_simp
                    with_reducible rfl
                   rotate_left
                   ·simp only [Act.put,QL,QM,QN,QG,QH]
                    rfl
                   refine pure_ (i := 13) (N := some 52) (v := ?_) (a' := ?_) (ab 21 14583) rfl rfl (QI HT_.out (by kernel_rfl)) (fun _ _ _ h => h) (Or.inl ⟨by rfl,?_⟩) ?_ ?_
                   rotate_left
                   ·intro w'
                    go_simp
                    with_reducible rfl
                   rotate_left
                   ·simp only [Act.put,QL,QM,QN,QG,QH]
                    rfl
                   refine pure_ (i := 14) (N := some 53) (v := ?_) (a' := ?_) (ab 21 30967) rfl rfl (QI HT_.out (by kernel_rfl)) (fun _ _ _ h => h) (Or.inl ⟨by rfl,?_⟩) ?_ ?_
                   rotate_left
                   ·intro w'
                    go_simp
                    with_reducible rfl
                   rotate_left
                   ·simp only [Act.put,QL,QM,QN,QG,QH]
                    rfl
                   refine pure_ (i := 3) (N := some 42) (v := ?_) (a' := ?_) (ab 21 30975) rfl rfl (QI HT_.out (by kernel_rfl)) (fun _ _ _ h => h) (Or.inl ⟨by rfl,?_⟩) ?_ ?_
                   rotate_left
                   ·intro w'
                    go_simp
                    with_reducible rfl
                   rotate_left
                   ·simp only [Act.put,QL,QM,QN,QG,QH]
                    rfl
                   refine take_ (i := 8) (N := some 47) (v := ?_) (a' := ?_) (ab 21 31231) rfl rfl (take_ofW HT_.out HW_.out (by kernel_rfl)) (fun _ _ _ h => h) (Or.inl ⟨by rfl,?_⟩) hHeld ?_ ?_
                   rotate_left
                   ·rintro w' ⟨s0,s1⟩
                    go_simp
                    with_reducible rfl
                   rotate_left
                   ·simp only [Act.put,QL,QM,QN,QG,QH]
                    rfl
                   refine pure_ (i := 9) (N := some 48) (v := ?_) (a' := ?_) (ab 21 31743) rfl rfl (QI HT_.out (by kernel_rfl)) (fun _ _ _ h => h) (Or.inl ⟨by rfl,?_⟩) ?_ ?_
                   rotate_left
                   ·intro w'
                    go_simp
                    with_reducible rfl
                   rotate_left
                   ·simp only [Act.put,QL,QM,QN,QG,QH]
                    rfl
                   refine pure_ (i := 10) (N := some 49) (v := ?_) (a' := ?_) (ab 21 32767) rfl rfl (QI HT_.out (by kernel_rfl)) (fun _ _ _ h => h) (Or.inl ⟨by rfl,?_⟩) ?_ ?_
                   rotate_left
                   ·intro w'
                    go_simp
                    with_reducible rfl
                   rotate_left
                   ·simp only [Act.put,QL,QM,QN,QG,QH]
                    rfl
                   refine take_ (i := 15) (N := some 54) (v := ?_) (a' := ?_) (ab 21 65535) rfl rfl (take_ofW HT_.out HW_.out (by kernel_rfl)) (fun _ _ _ h => h) (Or.inl ⟨by rfl,?_⟩) hHeld ?_ ?_
                   rotate_left
                   ·rintro w' ⟨s0,s1⟩
                    go_simp
                    with_reducible rfl
                   rotate_left
                   ·simp only [Act.put,QL,QM,QN,QG,QH]
                    rfl
                   refine pure_ (i := 16) (N := some 55) (v := ?_) (a' := ?_) (ab 21 131071) rfl rfl (QI HT_.out (by kernel_rfl)) (fun _ _ _ h => h) (Or.inl ⟨by rfl,?_⟩) ?_ ?_
                   rotate_left
                   ·intro w'
                    go_simp
                    with_reducible rfl
                   rotate_left
                   ·simp only [Act.put,QL,QM,QN,QG,QH]
                    rfl
                   refine pure_ (i := 17) (N := some 56) (v := ?_) (a' := ?_) (ab 21 262143) rfl rfl (QI HT_.out (by kernel_rfl)) (fun _ _ _ h => h) (Or.inl ⟨by rfl,?_⟩) ?_ ?_
                   rotate_left
                   ·intro w'
                    go_simp
                    with_reducible rfl
                   rotate_left
                   ·simp only [Act.put,QL,QM,QN,QG,QH]
                    rfl
                   refine last_ (i := 18) (N := some 57) (ab 21 524287) rfl rfl (one_of HT_.out (by kernel_rfl)) (by decide) (fun K hK => ?_)
                   refine value_ (w1 := ?_) (v := ?_) (by rfl) rfl ?_ ?_
                   rotate_left 2
                   ·go_simp
                    constructor
                    ·rfl
                    ·rfl
                   refine hK.out _ _ ?_
                   clear hK K
                   refine norm_ (a' := ?_) ?_ ?_
                   rotate_left
                   ·show Act.put _ (some 57) _ = _
                    simp only [Act.put,QL,QM,QN,QG,QH]
                    rfl
                   refine last_ (i := 19) (N := some 58) (ab 21 1048575) rfl rfl (one_of HT_.out (by kernel_rfl)) (by decide) (fun K hK => ?_)
                   refine Kd.R_append_step Kd.string (w0 := w) w.heap.size (by rfl) (.tmp 42) (.tmp 57) 36 9 (.string ⟨#[]⟩) 16 rfl Tryd.underlying36 info9 rfl (by decide) (by omega) (.slice (some ad153) y155.length co31) y155 (((((⟨#[40]⟩ : ByteArray) ++ (rdOf ByteArray.empty x3_1 (ji19))) ++ (⟨#[38]⟩ : ByteArray)) ++ (rdOf ByteArray.empty x3_1 (ji24))) ++ (⟨#[41]⟩ : ByteArray)) [.string (((((⟨#[40]⟩ : ByteArray) ++ (rdOf ByteArray.empty x3_1 (ji19))) ++ (⟨#[38]⟩ : ByteArray)) ++ (rdOf ByteArray.empty x3_1 (ji24))) ++ (⟨#[41]⟩ : ByteArray))] (fun _ => True) (fun _ => False) rfl rfl ?aP (fun _ hk => hk.elim) ?aF ?aO ?aB ?aS ?aL ?_
                   (case aP => exact rfl)
                   (case aB => exact (by repeat (first | (with_reducible first | exact HB.out | apply QD | apply QB | apply QC) | exact HB.out)))
                   (case aF => exact (fun _ _ => trivial))
                   (case aO => exact (by (with_reducible repeat (first | apply Kd.R_alloc | apply Kd.R_drewN | apply Kd.R_drew)); exact HO157.out))
                   (case aS => exact (below_size (by repeat (first | (with_reducible first | exact HB.out | apply QD | apply QB | apply QC) | exact HB.out))))
                   (case aL => have := LMc30.out; omega)
                   intro v159 w34 ho hb hg hat
                   rw [← Ny158.out] at ho
                   have n0_ := QO (hb)
                   have n1_ := QO (ho)
                   clear HB
                   clear HO157
                   revert n0_ n1_
                   intro HB HO160
                   clear ho hb hg hat
                   refine hK.out _ _ ?_
                   clear hK K
                   refine norm_ (a' := ?_) ?_ ?_
                   rotate_left
                   ·show Act.put _ (some 58) _ = _
                    simp only [Act.put,QL,QM,QN,QG,QH]
                    rfl
                   refine pure_ (i := 20) (N := some 3) (v := ?_) (a' := ?_) (ab 21 2097151) rfl rfl (QI HT_.out (by kernel_rfl)) (fun _ _ _ h => h) (Or.inl ⟨by rfl,?_⟩) ?_ ?_
                   rotate_left
                   ·intro w'
                    go_simp
                    with_reducible rfl
                   rotate_left
                   ·simp only [Act.put,QL,QM,QN,QG,QH]
                    rfl
                   refine done_ (done_of HT_.out (by kernel_rfl)) ?_
                   try go_wp2
                   go_roundg k1
                   case measure => have := HK1.out; omega
                   case rel => exact ⟨(y158),(wrap64 (x13_1 + 1)),(by first | rfl | (simp; done) | (simp [*]; done)),H',⟨by have := HK1.out; omega⟩,⟨by (with_reducible repeat (first | apply Kd.R_alloc | apply Kd.R_drewN | apply Kd.R_drew)); exact HO160.out⟩,⟨by repeat (first | (with_reducible first | exact HB.out | apply QD | apply QB | apply QC) | exact HB.out)⟩⟩
                  ·rw [if_neg c30] at H
                   exact absurd H (by simp)
                 ·rw [if_neg c29] at H
                  exact absurd H (by simp)
                ·rw [if_neg c28] at H
                 exact absurd H (by simp)
               ·rw [if_neg c27] at H
                exact absurd H (by simp)
              ·rw [if_neg c26] at H
               exact absurd H (by simp)
             ·rw [if_neg c25] at H
              exact absurd H (by simp)
            ·rw [if_neg c23] at H
             exact absurd H (by simp)
           ·rw [if_neg c22] at H
            exact absurd H (by simp)
          ·rw [if_neg c21] at H
           exact absurd H (by simp)
         ·rw [if_neg c20] at H
          exact absurd H (by simp)
        ·rw [if_neg c18] at H
         have c18b0 : ((rd l0 x13_1) == (-2)) = false := beq_eq_false_iff_ne.mpr c18
         have c18b1 : ((rd l0 x13_1) != (-2)) = true := bne_iff_ne.mpr c18
         by_cases c35 : (rd l0 x13_1) = (-3)
         ·rw [if_pos c35] at H
          have c35b0 : ((rd l0 x13_1) == (-3)) = true := beq_iff_eq.mpr c35
          have c35b1 : ((rd l0 x13_1) != (-3)) = false := bne_eq_false_iff_eq.mpr c35
          clear c35
          obtain ⟨ji36,hji36⟩ : ∃ j_ : Int,(wrap64 ((x3_1.length : Int) - 2)) = j_ := ⟨_,rfl⟩
          replace H : (if 0 ≤ (ji36) then (if (ji36) < (x3_1.length : Int) then (if 1 + (rdOf ByteArray.empty x3_1 (ji36)).size ≤ 9223372036854775807 then (if ((⟨#[40]⟩ : ByteArray) ++ (rdOf ByteArray.empty x3_1 (ji36))).size + 1 ≤ 9223372036854775807 then (if 0 ≤ (wrap64 ((x3_1.length : Int) - 1)) then (if (wrap64 ((x3_1.length : Int) - 1)) < (x3_1.length : Int) then (if (((⟨#[40]⟩ : ByteArray) ++ (rdOf ByteArray.empty x3_1 (ji36))) ++ (⟨#[124]⟩ : ByteArray)).size + (rdOf ByteArray.empty x3_1 (wrap64 ((x3_1.length : Int) - 1))).size ≤ 9223372036854775807 then (if ((((⟨#[40]⟩ : ByteArray) ++ (rdOf ByteArray.empty x3_1 (ji36))) ++ (⟨#[124]⟩ : ByteArray)) ++ (rdOf ByteArray.empty x3_1 (wrap64 ((x3_1.length : Int) - 1)))).size + 1 ≤ 9223372036854775807 then (if (ji36) ≤ (x3_1.length : Int) then ((some (x3_1.take ((ji36) : Int).toNat : List ByteArray)).bind fun y163 => (if y163.length < 8796093022208 then (impl_PatternText.l0 k1 (y163 ++ [((((⟨#[40]⟩ : ByteArray) ++ (rdOf ByteArray.empty x3_1 (ji36))) ++ (⟨#[124]⟩ : ByteArray)) ++ (rdOf ByteArray.empty x3_1 (wrap64 ((x3_1.length : Int) - 1)))) ++ (⟨#[41]⟩ : ByteArray)]) l0 (l0.length : Int) (wrap64 (x13_1 + 1))) else (none))) else (none)) else (none)) else (none)) else (none)) else (none)) else (none)) else (none)) else (none)) else (none)) = some r := by first | (rw [hji36] at H; exact H) | (simp only [hji36] at H ⊢; exact H)
          have hji36w : (IntKind.i64.wrap ((x3_1.length : Int) - 2)) = ji36 := (QG _).trans hji36
          by_cases c37 : 0 ≤ (ji36)
          ·rw [if_pos c37] at H
           have c37b0 : decide (0 ≤ (ji36)) = true := decide_eq_true c37
           clear c37
           by_cases c38 : (ji36) < (x3_1.length : Int)
           ·rw [if_pos c38] at H
            have c38b0 : decide ((ji36) < (x3_1.length : Int)) = true := decide_eq_true c38
            clear c38
            by_cases c39 : 1 + (rdOf ByteArray.empty x3_1 (ji36)).size ≤ 9223372036854775807
            ·rw [if_pos c39] at H
             have c39b0 := eq_true c39
             have c39b1 : decide (1 + (rdOf ByteArray.empty x3_1 (ji36)).size ≤ 9223372036854775807) = true := decide_eq_true c39
             try have c39b2 : (9223372036854775807 < 1 + (rdOf ByteArray.empty x3_1 (ji36)).size) = False := eq_false (Nat.not_lt.2 c39)
             by_cases c40 : ((⟨#[40]⟩ : ByteArray) ++ (rdOf ByteArray.empty x3_1 (ji36))).size + 1 ≤ 9223372036854775807
             ·rw [if_pos c40] at H
              have c40b0 := eq_true c40
              have c40b1 : decide (((⟨#[40]⟩ : ByteArray) ++ (rdOf ByteArray.empty x3_1 (ji36))).size + 1 ≤ 9223372036854775807) = true := decide_eq_true c40
              try have c40b2 : (9223372036854775807 < ((⟨#[40]⟩ : ByteArray) ++ (rdOf ByteArray.empty x3_1 (ji36))).size + 1) = False := eq_false (Nat.not_lt.2 c40)
              have c40b3 := c40b2
              (try simp only [ByteArray.size_append,ba_size,List.size_toArray,List.length_cons,List.length_nil,Nat.reduceAdd,Nat.zero_add] at c40b3)
              obtain ⟨ji41,hji41⟩ : ∃ j_ : Int,(wrap64 ((x3_1.length : Int) - 1)) = j_ := ⟨_,rfl⟩
              replace H : (if 0 ≤ (ji41) then (if (ji41) < (x3_1.length : Int) then (if (((⟨#[40]⟩ : ByteArray) ++ (rdOf ByteArray.empty x3_1 (ji36))) ++ (⟨#[124]⟩ : ByteArray)).size + (rdOf ByteArray.empty x3_1 (ji41)).size ≤ 9223372036854775807 then (if ((((⟨#[40]⟩ : ByteArray) ++ (rdOf ByteArray.empty x3_1 (ji36))) ++ (⟨#[124]⟩ : ByteArray)) ++ (rdOf ByteArray.empty x3_1 (ji41))).size + 1 ≤ 9223372036854775807 then (if (ji36) ≤ (x3_1.length : Int) then ((some (x3_1.take ((ji36) : Int).toNat : List ByteArray)).bind fun y163 => (if y163.length < 8796093022208 then (impl_PatternText.l0 k1 (y163 ++ [((((⟨#[40]⟩ : ByteArray) ++ (rdOf ByteArray.empty x3_1 (ji36))) ++ (⟨#[124]⟩ : ByteArray)) ++ (rdOf ByteArray.empty x3_1 (ji41))) ++ (⟨#[41]⟩ : ByteArray)]) l0 (l0.length : Int) (wrap64 (x13_1 + 1))) else (none))) else (none)) else (none)) else (none)) else (none)) else (none)) = some r := by first | (rw [hji41] at H; exact H) | (simp only [hji41] at H ⊢; exact H)
              have hji41w : (IntKind.i64.wrap ((x3_1.length : Int) - 1)) = ji41 := (QG _).trans hji41
              by_cases c42 : 0 ≤ (ji41)
              ·rw [if_pos c42] at H
               have c42b0 : decide (0 ≤ (ji41)) = true := decide_eq_true c42
               clear c42
               by_cases c43 : (ji41) < (x3_1.length : Int)
               ·rw [if_pos c43] at H
                have c43b0 : decide ((ji41) < (x3_1.length : Int)) = true := decide_eq_true c43
                clear c43
                by_cases c44 : (((⟨#[40]⟩ : ByteArray) ++ (rdOf ByteArray.empty x3_1 (ji36))) ++ (⟨#[124]⟩ : ByteArray)).size + (rdOf ByteArray.empty x3_1 (ji41)).size ≤ 9223372036854775807
                ·rw [if_pos c44] at H
                 have c44b0 := eq_true c44
                 have c44b1 : decide ((((⟨#[40]⟩ : ByteArray) ++ (rdOf ByteArray.empty x3_1 (ji36))) ++ (⟨#[124]⟩ : ByteArray)).size + (rdOf ByteArray.empty x3_1 (ji41)).size ≤ 9223372036854775807) = true := decide_eq_true c44
                 try have c44b2 : (9223372036854775807 < (((⟨#[40]⟩ : ByteArray) ++ (rdOf ByteArray.empty x3_1 (ji36))) ++ (⟨#[124]⟩ : ByteArray)).size + (rdOf ByteArray.empty x3_1 (ji41)).size) = False := eq_false (Nat.not_lt.2 c44)
                 have c44b3 := c44b2
                 (try simp only [ByteArray.size_append,ba_size,List.size_toArray,List.length_cons,List.length_nil,Nat.reduceAdd,Nat.zero_add] at c44b3)
                 by_cases c45 : ((((⟨#[40]⟩ : ByteArray) ++ (rdOf ByteArray.empty x3_1 (ji36))) ++ (⟨#[124]⟩ : ByteArray)) ++ (rdOf ByteArray.empty x3_1 (ji41))).size + 1 ≤ 9223372036854775807
                 ·rw [if_pos c45] at H
                  have c45b0 := eq_true c45
                  have c45b1 : decide (((((⟨#[40]⟩ : ByteArray) ++ (rdOf ByteArray.empty x3_1 (ji36))) ++ (⟨#[124]⟩ : ByteArray)) ++ (rdOf ByteArray.empty x3_1 (ji41))).size + 1 ≤ 9223372036854775807) = true := decide_eq_true c45
                  try have c45b2 : (9223372036854775807 < ((((⟨#[40]⟩ : ByteArray) ++ (rdOf ByteArray.empty x3_1 (ji36))) ++ (⟨#[124]⟩ : ByteArray)) ++ (rdOf ByteArray.empty x3_1 (ji41))).size + 1) = False := eq_false (Nat.not_lt.2 c45)
                  have c45b3 := c45b2
                  (try simp only [ByteArray.size_append,ba_size,List.size_toArray,List.length_cons,List.length_nil,Nat.reduceAdd,Nat.zero_add] at c45b3)
                  by_cases c46 : (ji36) ≤ (x3_1.length : Int)
                  ·rw [if_pos c46] at H
                   have c46b0 := eq_true c46
                   have c46b1 : decide ((ji36) ≤ (x3_1.length : Int)) = true := decide_eq_true c46
                   clear c46
                   obtain ⟨y163,hy163⟩ : ∃ y_ : List ByteArray,y_ = (x3_1.take ((ji36) : Int).toNat) := ⟨_,rfl⟩
                   replace H : (if y163.length < 8796093022208 then (impl_PatternText.l0 k1 (y163 ++ [((((⟨#[40]⟩ : ByteArray) ++ (rdOf ByteArray.empty x3_1 (ji36))) ++ (⟨#[124]⟩ : ByteArray)) ++ (rdOf ByteArray.empty x3_1 (ji41))) ++ (⟨#[41]⟩ : ByteArray)]) l0 (l0.length : Int) (wrap64 (x13_1 + 1))) else (none)) = some r := by first | (rw [hy163]; with_reducible exact H) | (have H2_ := (Option.bind_some _ _).symm.trans H; rw [hy163]; with_reducible exact H2_) | (have H2_ := (Option.bind_some _ _).symm.trans H; with_reducible exact H2_) | with_reducible exact H | (rw [hy163]; exact H) | exact H
                   have Ny163 := QO hy163
                   clear hy163
                   by_cases c47 : y163.length < 8796093022208
                   ·rw [if_pos c47] at H
                    have LMc47 := QO c47
                    clear c47
                    obtain ⟨y166,hy166⟩ : ∃ y_ : List ByteArray,y_ = (y163 ++ [((((⟨#[40]⟩ : ByteArray) ++ (rdOf ByteArray.empty x3_1 (ji36))) ++ (⟨#[124]⟩ : ByteArray)) ++ (rdOf ByteArray.empty x3_1 (ji41))) ++ (⟨#[41]⟩ : ByteArray)]) := ⟨_,rfl⟩
                    replace H : (impl_PatternText.l0 k1 y166 l0 (l0.length : Int) (wrap64 (x13_1 + 1))) = some r := by first | (rw [hy166]; with_reducible exact H) | (have H2_ := (Option.bind_some _ _).symm.trans H; rw [hy166]; with_reducible exact H2_) | (have H2_ := (Option.bind_some _ _).symm.trans H; with_reducible exact H2_) | with_reducible exact H | (rw [hy166]; exact H) | exact H
                    have Ny166 := QO hy166
                    clear hy166
                    have H' := QO H
                    clear H
                    have p150 : 0 ≤ (x13_1 : Int) := of_decide_eq_true (by first | (with_reducible assumption) | assumption)
                    have q150 : x13_1 < (l0.length : Int) := of_decide_eq_true (by first | (with_reducible assumption) | assumption)
                    obtain ⟨ad150,e150,hx150_0⟩ := Kd.at_int HR0.out x13_1 p150 q150
                    cases e150
                    replace hx150_0 := (HB.out.cell (World.block_lt_of_cell? w _ hx150_0)).trans hx150_0
                    replace p150 := eq_true p150
                    replace q150 := eq_true q150
                    obtain ⟨Ao48,co48,eo48⟩ := Kd.R_slice HO_3.out
                    subst eo48
                    try go_wp2
                    have n0_ := QO (Kd.R_drew HO_3.out)
                    have n1_ := QO (QC HB.out)
                    clear HO_3
                    clear HB
                    revert n0_ n1_
                    intro HO_3 HB
                    have p161 : 0 ≤ ((ji36) : Int) := of_decide_eq_true (by first | (with_reducible assumption) | assumption)
                    have q161 : (ji36) < (x3_1.length : Int) := of_decide_eq_true (by first | (with_reducible assumption) | assumption)
                    obtain ⟨ad161,e161,hx161_0⟩ := Kd.at_string (Kd.R_reads' HO_3.out).2.2 (ji36) p161 q161
                    cases e161
                    replace p161 := eq_true p161
                    replace q161 := eq_true q161
                    have p162 : 0 ≤ ((ji41) : Int) := of_decide_eq_true (by first | (with_reducible assumption) | assumption)
                    have q162 : (ji41) < (x3_1.length : Int) := of_decide_eq_true (by first | (with_reducible assumption) | assumption)
                    obtain ⟨ad162,e162,hx162_0⟩ := Kd.at_string (Kd.R_reads' HO_3.out).2.2 (ji41) p162 q162
                    obtain rfl : ad161 = ad162 := (by injection e162)
                    replace p162 := eq_true p162
                    replace q162 := eq_true q162
                    have q50 : ((ji36) : Int) ≤ ((x3_1.length : Int) : Int) := of_decide_eq_true (by first | (with_reducible assumption) | assumption)
                    obtain ⟨i050,hi050,_,hsz50,_⟩ := info_parts info9
                    have hcut50 := cut_to (P := Tryd.prog) 36 9 .i64 Tryd.underlying36 hi050 (some ad161) x3_1.length co48 (ji36) (of_decide_eq_true (by first | (with_reducible assumption) | assumption)) q50 (Kd.R_reads' HO_3.out).2.1
                    have hr50 := Kd.R_take (m := ((ji36) : Int).toNat) HO_3.out (by omega)
                    have hy50 : y163.length = ((ji36) : Int).toNat := (by rw [Ny163.out,List.length_take]; omega)
                    rw [← Ny163.out] at hr50
                    rw [← hy50] at hr50 hcut50
                    clear hy50 hi050 hsz50 HO_3
                    have HO165 := QO hr50
                    clear hr50
                    replace q50 := eq_true q50
                    refine start_ (n := 21) (S := fun w' => w'.cell? (ad161.add ((ji36)).toNat) = some (.string (rdOf ByteArray.empty x3_1 (ji36))) ∧ w'.cell? (ad161.add ((ji41)).toNat) = some (.string (rdOf ByteArray.empty x3_1 (ji41)))) (ds := [18,19]) (ab 21 0) (by kernel_rfl) rfl rfl ⟨hx161_0,hx162_0⟩ (fun hHeld => ?_); refine with_tabW impl_PatternText.tab15 impl_PatternText.bits15 (fun HT_ HW_ => ?_)
                    generalize wr.drew = w49 at HB HO165 hx161_0 hx162_0 hHeld ⊢
                    refine pure_ (i := 0) (N := some 61) (v := ?_) (a' := ?_) (ab 21 1) rfl rfl (QI HT_.out (by kernel_rfl)) (fun _ _ _ h => h) (Or.inl ⟨by rfl,?_⟩) ?_ ?_
                    rotate_left
                    ·intro w'
                     go_simp
                     with_reducible rfl
                    rotate_left
                    ·simp only [Act.put,QL,QM,QN,QG,QH]
                     rfl
                    refine pure_ (i := 1) (N := some 62) (v := ?_) (a' := ?_) (ab 21 3) rfl rfl (QI HT_.out (by kernel_rfl)) (fun _ _ _ h => h) (Or.inl ⟨by rfl,?_⟩) ?_ ?_
                    rotate_left
                    ·intro w'
                     go_simp
                     with_reducible rfl
                    rotate_left
                    ·simp only [Act.put,QL,QM,QN,QG,QH]
                     rfl
                    refine pure_ (i := 2) (N := some 63) (v := ?_) (a' := ?_) (ab 21 7) rfl rfl (QI HT_.out (by kernel_rfl)) (fun _ _ _ h => h) (Or.inl ⟨by rfl,?_⟩) ?_ ?_
                    rotate_left
                    ·intro w'
                     go_simp
                     with_reducible rfl
                    rotate_left
                    ·simp only [Act.put,QL,QM,QN,QG,QH]
                     rfl
                    refine pure_ (i := 4) (N := some 65) (v := ?_) (a' := ?_) (ab 21 23) rfl rfl (QI HT_.out (by kernel_rfl)) (fun _ _ _ h => h) (Or.inl ⟨by rfl,?_⟩) ?_ ?_
                    rotate_left
                    ·intro w'
                     go_simp
                     with_reducible rfl
                    rotate_left
                    ·simp only [Act.put,QL,QM,QN,QG,QH]
                     rfl
                    refine pure_ (i := 5) (N := some 66) (v := ?_) (a' := ?_) (ab 21 55) rfl rfl (QI HT_.out (by kernel_rfl)) (fun _ _ _ h => h) (Or.inl ⟨by rfl,?_⟩) ?_ ?_
                    rotate_left
                    ·intro w'
                     go_simp
                     with_reducible rfl
                    rotate_left
                    ·simp only [Act.put,QL,QM,QN,QG,QH]
                     rfl
                    refine pure_ (i := 6) (N := some 67) (v := ?_) (a' := ?_) (ab 21 119) rfl rfl (QI HT_.out (by kernel_rfl)) (fun _ _ _ h => h) (Or.inl ⟨by rfl,?_⟩) ?_ ?_
                    rotate_left
                    ·intro w'
                     go_simp
                     with_reducible rfl
                    rotate_left
                    ·simp only [Act.put,QL,QM,QN,QG,QH]
                     rfl
                    refine pure_ (i := 7) (N := some 68) (v := ?_) (a' := ?_) (ab 21 247) rfl rfl (QI HT_.out (by kernel_rfl)) (fun _ _ _ h => h) (Or.inl ⟨by rfl,?_⟩) ?_ ?_
                    rotate_left
                    ·intro w'
                     go_simp
                     with_reducible rfl
                    rotate_left
                    ·simp only [Act.put,QL,QM,QN,QG,QH]
                     rfl
                    refine pure_ (i := 11) (N := some 72) (v := ?_) (a' := ?_) (ab 21 2295) rfl rfl (QI HT_.out (by kernel_rfl)) (fun _ _ _ h => h) (Or.inl ⟨by rfl,?_⟩) ?_ ?_
                    rotate_left
                    ·intro w'
                     go_simp
                     with_reducible rfl
                    rotate_left
                    ·simp only [Act.put,QL,QM,QN,QG,QH]
                     rfl
                    refine pure_ (i := 12) (N := some 73) (v := ?_) (a' := ?_) (ab 21 6391) rfl rfl (QI HT_.out (by kernel_rfl)) (fun _ _ _ h => h) (Or.inl ⟨by rfl,?_⟩) ?_ ?_
                    rotate_left
                    ·intro w'
                     go_simp
                     with_reducible rfl
                    rotate_left
                    ·simp only [Act.put,QL,QM,QN,QG,QH]
                     rfl
                    refine pure_ (i := 13) (N := some 74) (v := ?_) (a' := ?_) (ab 21 14583) rfl rfl (QI HT_.out (by kernel_rfl)) (fun _ _ _ h => h) (Or.inl ⟨by rfl,?_⟩) ?_ ?_
                    rotate_left
                    ·intro w'
                     go_simp
                     with_reducible rfl
                    rotate_left
                    ·simp only [Act.put,QL,QM,QN,QG,QH]
                     rfl
                    refine pure_ (i := 14) (N := some 75) (v := ?_) (a' := ?_) (ab 21 30967) rfl rfl (QI HT_.out (by kernel_rfl)) (fun _ _ _ h => h) (Or.inl ⟨by rfl,?_⟩) ?_ ?_
                    rotate_left
                    ·intro w'
                     go_simp
                     with_reducible rfl
                    rotate_left
                    ·simp only [Act.put,QL,QM,QN,QG,QH]
                     rfl
                    refine pure_ (i := 3) (N := some 64) (v := ?_) (a' := ?_) (ab 21 30975) rfl rfl (QI HT_.out (by kernel_rfl)) (fun _ _ _ h => h) (Or.inl ⟨by rfl,?_⟩) ?_ ?_
                    rotate_left
                    ·intro w'
                     go_simp
                     with_reducible rfl
                    rotate_left
                    ·simp only [Act.put,QL,QM,QN,QG,QH]
                     rfl
                    refine take_ (i := 8) (N := some 69) (v := ?_) (a' := ?_) (ab 21 31231) rfl rfl (take_ofW HT_.out HW_.out (by kernel_rfl)) (fun _ _ _ h => h) (Or.inl ⟨by rfl,?_⟩) hHeld ?_ ?_
                    rotate_left
                    ·rintro w' ⟨s0,s1⟩
                     go_simp
                     with_reducible rfl
                    rotate_left
                    ·simp only [Act.put,QL,QM,QN,QG,QH]
                     rfl
                    refine pure_ (i := 9) (N := some 70) (v := ?_) (a' := ?_) (ab 21 31743) rfl rfl (QI HT_.out (by kernel_rfl)) (fun _ _ _ h => h) (Or.inl ⟨by rfl,?_⟩) ?_ ?_
                    rotate_left
                    ·intro w'
                     go_simp
                     with_reducible rfl
                    rotate_left
                    ·simp only [Act.put,QL,QM,QN,QG,QH]
                     rfl
                    refine pure_ (i := 10) (N := some 71) (v := ?_) (a' := ?_) (ab 21 32767) rfl rfl (QI HT_.out (by kernel_rfl)) (fun _ _ _ h => h) (Or.inl ⟨by rfl,?_⟩) ?_ ?_
                    rotate_left
                    ·intro w'
                     go_simp
                     with_reducible rfl
                    rotate_left
                    ·simp only [Act.put,QL,QM,QN,QG,QH]
                     rfl
                    refine take_ (i := 15) (N := some 76) (v := ?_) (a' := ?_) (ab 21 65535) rfl rfl (take_ofW HT_.out HW_.out (by kernel_rfl)) (fun _ _ _ h => h) (Or.inl ⟨by rfl,?_⟩) hHeld ?_ ?_
                    rotate_left
                    ·rintro w' ⟨s0,s1⟩
                     go_simp
                     with_reducible rfl
                    rotate_left
                    ·simp only [Act.put,QL,QM,QN,QG,QH]
                     rfl
                    refine pure_ (i := 16) (N := some 77) (v := ?_) (a' := ?_) (ab 21 131071) rfl rfl (QI HT_.out (by kernel_rfl)) (fun _ _ _ h => h) (Or.inl ⟨by rfl,?_⟩) ?_ ?_
                    rotate_left
                    ·intro w'
                     go_simp
                     with_reducible rfl
                    rotate_left
                    ·simp only [Act.put,QL,QM,QN,QG,QH]
                     rfl
                    refine pure_ (i := 17) (N := some 78) (v := ?_) (a' := ?_) (ab 21 262143) rfl rfl (QI HT_.out (by kernel_rfl)) (fun _ _ _ h => h) (Or.inl ⟨by rfl,?_⟩) ?_ ?_
                    rotate_left
                    ·intro w'
                     go_simp
                     with_reducible rfl
                    rotate_left
                    ·simp only [Act.put,QL,QM,QN,QG,QH]
                     rfl
                    refine last_ (i := 18) (N := some 79) (ab 21 524287) rfl rfl (one_of HT_.out (by kernel_rfl)) (by decide) (fun K hK => ?_)
                    refine value_ (w1 := ?_) (v := ?_) (by rfl) rfl ?_ ?_
                    rotate_left 2
                    ·go_simp
                     constructor
                     ·rfl
                     ·rfl
                    refine hK.out _ _ ?_
                    clear hK K
                    refine norm_ (a' := ?_) ?_ ?_
                    rotate_left
                    ·show Act.put _ (some 79) _ = _
                     simp only [Act.put,QL,QM,QN,QG,QH]
                     rfl
                    refine last_ (i := 19) (N := some 80) (ab 21 1048575) rfl rfl (one_of HT_.out (by kernel_rfl)) (by decide) (fun K hK => ?_)
                    refine Kd.R_append_step Kd.string (w0 := w) w.heap.size (by rfl) (.tmp 64) (.tmp 79) 36 9 (.string ⟨#[]⟩) 16 rfl Tryd.underlying36 info9 rfl (by decide) (by omega) (.slice (some ad161) y163.length co48) y163 (((((⟨#[40]⟩ : ByteArray) ++ (rdOf ByteArray.empty x3_1 (ji36))) ++ (⟨#[124]⟩ : ByteArray)) ++ (rdOf ByteArray.empty x3_1 (ji41))) ++ (⟨#[41]⟩ : ByteArray)) [.string (((((⟨#[40]⟩ : ByteArray) ++ (rdOf ByteArray.empty x3_1 (ji36))) ++ (⟨#[124]⟩ : ByteArray)) ++ (rdOf ByteArray.empty x3_1 (ji41))) ++ (⟨#[41]⟩ : ByteArray))] (fun _ => True) (fun _ => False) rfl rfl ?aP (fun _ hk => hk.elim) ?aF ?aO ?aB ?aS ?aL ?_
                    (case aP => exact rfl)
                    (case aB => exact (by repeat (first | (with_reducible first | exact HB.out | apply QD | apply QB | apply QC) | exact HB.out)))
                    (case aF => exact (fun _ _ => trivial))
                    (case aO => exact (by (with_reducible repeat (first | apply Kd.R_alloc | apply Kd.R_drewN | apply Kd.R_drew)); exact HO165.out))
                    (case aS => exact (below_size (by repeat (first | (with_reducible first | exact HB.out | apply QD | apply QB | apply QC) | exact HB.out))))
                    (case aL => have := LMc47.out; omega)
                    intro v167 w51 ho hb hg hat
                    rw [← Ny166.out] at ho
                    have n0_ := QO (hb)
                    have n1_ := QO (ho)
                    clear HB
                    clear HO165
                    revert n0_ n1_
                    intro HB HO168
                    clear ho hb hg hat
                    refine hK.out _ _ ?_
                    clear hK K
                    refine norm_ (a' := ?_) ?_ ?_
                    rotate_left
                    ·show Act.put _ (some 80) _ = _
                     simp only [Act.put,QL,QM,QN,QG,QH]
                     rfl
                    refine pure_ (i := 20) (N := some 3) (v := ?_) (a' := ?_) (ab 21 2097151) rfl rfl (QI HT_.out (by kernel_rfl)) (fun _ _ _ h => h) (Or.inl ⟨by rfl,?_⟩) ?_ ?_
                    rotate_left
                    ·intro w'
                     go_simp
                     with_reducible rfl
                    rotate_left
                    ·simp only [Act.put,QL,QM,QN,QG,QH]
                     rfl
                    refine done_ (done_of HT_.out (by kernel_rfl)) ?_
                    try go_wp2
                    go_roundg k1
                    case measure => have := HK1.out; omega
                    case rel => exact ⟨(y166),(wrap64 (x13_1 + 1)),(by first | rfl | (simp; done) | (simp [*]; done)),H',⟨by have := HK1.out; omega⟩,⟨by (with_reducible repeat (first | apply Kd.R_alloc | apply Kd.R_drewN | apply Kd.R_drew)); exact HO168.out⟩,⟨by repeat (first | (with_reducible first | exact HB.out | apply QD | apply QB | apply QC) | exact HB.out)⟩⟩
                   ·rw [if_neg c47] at H
                    exact absurd H (by simp)
                  ·rw [if_neg c46] at H
                   exact absurd H (by simp)
                 ·rw [if_neg c45] at H
                  exact absurd H (by simp)
                ·rw [if_neg c44] at H
                 exact absurd H (by simp)
               ·rw [if_neg c43] at H
                exact absurd H (by simp)
              ·rw [if_neg c42] at H
               exact absurd H (by simp)
             ·rw [if_neg c40] at H
              exact absurd H (by simp)
            ·rw [if_neg c39] at H
             exact absurd H (by simp)
           ·rw [if_neg c38] at H
            exact absurd H (by simp)
          ·rw [if_neg c37] at H
           exact absurd H (by simp)
         ·rw [if_neg c35] at H
          have c35b0 : ((rd l0 x13_1) == (-3)) = false := beq_eq_false_iff_ne.mpr c35
          have c35b1 : ((rd l0 x13_1) != (-3)) = true := bne_iff_ne.mpr c35
          replace H := QP.mp H
          obtain ⟨t169,A520,H⟩ := H
          have A52 := QO A520
          clear A520
          by_cases c53 : x3_1.length < 8796093022208
          ·rw [if_pos c53] at H
           have LMc53 := QO c53
           clear c53
           obtain ⟨y170,hy170⟩ : ∃ y_ : List ByteArray,y_ = (x3_1 ++ [t169]) := ⟨_,rfl⟩
           replace H : (impl_PatternText.l0 k1 y170 l0 (l0.length : Int) (wrap64 (x13_1 + 1))) = some r := by first | (rw [hy170]; with_reducible exact H) | (have H2_ := (Option.bind_some _ _).symm.trans H; rw [hy170]; with_reducible exact H2_) | (have H2_ := (Option.bind_some _ _).symm.trans H; with_reducible exact H2_) | with_reducible exact H | (rw [hy170]; exact H) | exact H
           have Ny170 := QO hy170
           clear hy170
           have H' := QO H
           clear H
           have p150 : 0 ≤ (x13_1 : Int) := of_decide_eq_true (by first | (with_reducible assumption) | assumption)
           have q150 : x13_1 < (l0.length : Int) := of_decide_eq_true (by first | (with_reducible assumption) | assumption)
           obtain ⟨ad150,e150,hx150_0⟩ := Kd.at_int HR0.out x13_1 p150 q150
           cases e150
           replace hx150_0 := (HB.out.cell (World.block_lt_of_cell? w _ hx150_0)).trans hx150_0
           replace p150 := eq_true p150
           replace q150 := eq_true q150
           obtain ⟨Ao54,co54,eo54⟩ := Kd.R_slice HO_3.out
           subst eo54
           go_wp2_with (first | ((with_reducible refine QK (f := 75) rfl ?_); refine goesL_ (some 22) rfl rfl Tryd.func75 (by kernel_rfl) rfl #[.int .i64 (rd l0 x13_1)] rfl (by (try simp only [List.map_toArray,List.map_cons,List.map_nil]); first | done | rfl | (simp only [List.length_drop,List.length_take]; rfl)) ?_; (with_reducible refine (impl_signText.calls (rd l0 x13_1) t169 _ A52.out).mono ?_); rintro e w' ⟨rfl,⟨nd,rfl⟩⟩; refine ⟨_,rfl,?_⟩) | ((with_reducible refine gate_builtin (b := .append) (xs := #[.tmp 20,.tmp 23]) rfl ?_); at_builtin; refine Kd.R_append Kd.string (w0 := w) w.heap.size rfl (.tmp 20) (.tmp 23) 36 9 (.string ⟨#[]⟩) 16 rfl Tryd.underlying36 info9 rfl (by decide) (by omega) (.slice Ao54 x3_1.length co54) x3_1 t169 [.string t169] (fun _ => True) (fun _ => False) rfl rfl ?aP (fun _ hk => hk.elim) ?aF ?aO ?aB ?aS ?aL ?_; (case aP => exact rfl); (case aB => exact (by repeat (first | (with_reducible first | exact HB.out | apply QD | apply QB | apply QC) | exact HB.out))); (case aF => exact (fun _ _ => trivial)); (case aO => exact (by (with_reducible repeat (first | apply Kd.R_alloc | apply Kd.R_drewN | apply Kd.R_drew)); exact HO_3.out)); (case aS => exact (below_size (by repeat (first | (with_reducible first | exact HB.out | apply QD | apply QB | apply QC) | exact HB.out)))); (case aL => have := LMc53.out; omega); intro v171 w55 ho hb hg hat; rw [← Ny170.out] at ho; have n0_ := QO (hb); have n1_ := QO (ho); clear HB; clear HO_3; revert n0_ n1_; intro HB HO172; clear ho hb hg hat))
           go_roundg k1
           case measure => have := HK1.out; omega
           case rel => exact ⟨(y170),(wrap64 (x13_1 + 1)),(by first | rfl | (simp; done) | (simp [*]; done)),H',⟨by have := HK1.out; omega⟩,⟨by (with_reducible repeat (first | apply Kd.R_alloc | apply Kd.R_drewN | apply Kd.R_drew)); exact HO172.out⟩,⟨by repeat (first | (with_reducible first | exact HB.out | apply QD | apply QB | apply QC) | exact HB.out)⟩⟩
          ·rw [if_neg c53] at H
           exact absurd H (by simp)
      ·rw [if_neg c8] at H
       exact absurd H (by simp)
     ·rw [if_neg c7] at H
      exact absurd H (by simp)
    ·rw [if_neg c6] at H
     have c6b0 : decide (x13_1 < (l0.length : Int)) = false := decide_eq_false c6
     clear c6
     by_cases c56 : 0 < (x3_1.length : Int)
     ·rw [if_pos c56] at H
      have c56b0 : decide (0 < (x3_1.length : Int)) = true := decide_eq_true c56
      have c56b1 : decide (0 < x3_1.length) = true := decide_eq_true (by omega)
      clear c56
      obtain rfl := Option.some.inj H
      obtain ⟨Ao57,co57,eo57⟩ := Kd.R_slice HO_3.out
      subst eo57
      have p149 : 0 ≤ (0 : Int) := (by omega)
      have q149 : 0 < (x3_1.length : Int) := of_decide_eq_true (by first | (with_reducible assumption) | assumption)
      obtain ⟨ad149,e149,hx149_0⟩ := Kd.at_string (Kd.R_reads' HO_3.out).2.2 0 p149 q149
      cases e149
      have qi149 : (0 < x3_1.length) = True := eq_true (by omega)
      (try rw [show ((0 : Int)).toNat = 0 from rfl] at hx149_0)
      (try rw [Addr.add_zero'] at hx149_0)
      replace p149 := eq_true p149
      replace q149 := eq_true q149
      go_wp2
      go_ret
      exact ⟨by first | rfl | (simp [errW_none,errW_some] <;> rfl) | (simp [*,errW_none,errW_some] <;> rfl),by repeat (first | (with_reducible first | exact HB.out | apply QD | apply QB | apply QC) | exact HB.out)⟩
     ·rw [if_neg c56] at H
      exact absurd H (by simp)
 ·replace c3 := Bool.eq_false_iff.mpr c3
  subst c3
  rw [if_neg (show ¬ (false = true) by decide)] at H
  obtain rfl := Option.some.inj H
  go_enter Tryd.func55,Tryd.ntmps55
  go_wp2_with (first | ((with_reducible refine QK (f := 60) rfl ?_); refine goesL_ (some 8) rfl rfl Tryd.func60 (by kernel_rfl) rfl #[.slice A0 l0.length c0] rfl (by (try simp only [List.map_toArray,List.map_cons,List.map_nil]); first | done | rfl | (simp only [List.length_drop,List.length_take]; rfl)) ?_; (with_reducible refine (impl_IsPattern.calls k _ _ l0 false _ ?side1 ?side2 A2.out).mono ?_); (case side1 => repeat (first | exact HR0.out | (with_reducible refine Kd.C_alloc ?_ _) | (with_reducible refine Kd.C_drewN ?_ _) | (with_reducible refine Kd.C_drew ?_))); (case side2 => exact HC0.out); rintro e w' ⟨rfl,⟨nd,rfl⟩⟩; refine ⟨_,rfl,?_⟩))
  go_ret
  exact ⟨by first | rfl | (simp [errW_none,errW_some] <;> rfl) | (simp [*,errW_none,errW_some] <;> rfl),by repeat (first | (with_reducible first | exact HB.out | apply QD | apply QB | apply QC) | exact HB.out)⟩

/-! ### impl_maybeText: function 30 -/
def impl_maybeText.f (k : Nat) (l0 : List Int) : Option (ByteArray) := if (l0.length : Int) = 0 then (some (⟨#[45]⟩ : ByteArray)) else ((impl_PatternText.f k l0).bind fun t173 => (some t173))
theorem impl_maybeText.mono : ∀ a0 k, LeO (impl_maybeText.f k a0) (impl_maybeText.f (k + 1) a0) := by
 intro a0 k
 unfold impl_maybeText.f
 repeat' first
   | (with_reducible exact impl_PatternText.mono _ _)
   | (with_reducible exact LeO.refl _)
   | (with_reducible exact LeO.none _)
   | (with_reducible refine LeO.ite ?_ ?_)
   | (with_reducible refine LeO.bind ?_ (fun _ => ?_))
   | exact impl_PatternText.mono _ _
   | exact LeO.none _
   | refine LeO.ite ?_ ?_
   | refine LeO.bind ?_ (fun _ => ?_)
set_option maxHeartbeats 8000000 in
set_option maxRecDepth 100000 in
theorem impl_maybeText.calls (k : Nat) (A0 : Option Addr) (c0 : Nat) (l0 : List Int) (r : ByteArray) (w : World) (hr0 : Kd.C (Kd.int .i64) w A0 l0.length l0) (hc0 : l0.length ≤ c0) (h : impl_maybeText.f k l0 = some r) :
  Calls Tryd.prog 30 #[.slice A0 l0.length c0] w fun e w' => e = .returned (.string r) ∧ Below w.heap.size w w' := by
 have HR0 := QO hr0
 have HC0 := QO hc0
 clear hr0 hc0
 have HB := QO (Below.refl w.heap.size w)
 have H : (if (l0.length : Int) = 0 then (some (⟨#[45]⟩ : ByteArray)) else ((impl_PatternText.f k l0).bind fun t173 => (some t173))) = some r := h
 clear h
 by_cases c2 : (l0.length : Int) = 0
 ·rw [if_pos c2] at H
  have c2b0 : ((l0.length : Int) == 0) = true := beq_iff_eq.mpr c2
  have c2b1 : ((l0.length : Int) != 0) = false := bne_eq_false_iff_eq.mpr c2
  clear c2
  obtain rfl := Option.some.inj H
  go_enter Tryd.func30,Tryd.ntmps30
  go_wp2
  go_ret
  exact ⟨by first | rfl | (simp [errW_none,errW_some] <;> rfl) | (simp [*,errW_none,errW_some] <;> rfl),by repeat (first | (with_reducible first | exact HB.out | apply QD | apply QB | apply QC) | exact HB.out)⟩
 ·rw [if_neg c2] at H
  have c2b0 : ((l0.length : Int) == 0) = false := beq_eq_false_iff_ne.mpr c2
  have c2b1 : ((l0.length : Int) != 0) = true := bne_iff_ne.mpr c2
  have c2b2 : ¬ (l0 = []) := fun h_ => c2 (by rw [h_]; rfl)
  replace H := QP.mp H
  obtain ⟨t173,A30,H⟩ := H
  have A3 := QO A30
  clear A30
  obtain rfl := Option.some.inj H
  go_enter Tryd.func30,Tryd.ntmps30
  go_wp2_with (first | ((with_reducible refine QK (f := 55) rfl ?_); refine goesL_ (some 7) rfl rfl Tryd.func55 (by kernel_rfl) rfl #[.slice A0 l0.length c0] rfl (by (try simp only [List.map_toArray,List.map_cons,List.map_nil]); first | done | rfl | (simp only [List.length_drop,List.length_take]; rfl)) ?_; (with_reducible refine (impl_PatternText.calls k _ _ l0 t173 _ ?side1 ?side2 A3.out).mono ?_); (case side1 => repeat (first | exact HR0.out | (with_reducible refine Kd.C_alloc ?_ _) | (with_reducible refine Kd.C_drewN ?_ _) | (with_reducible refine Kd.C_drew ?_))); (case side2 => exact HC0.out); rintro e w4 ⟨rfl,hb⟩; refine ⟨_,rfl,?_⟩; have n0_ := QO (below_step (by repeat (first | (with_reducible first | exact HB.out | apply QD | apply QB | apply QC) | exact HB.out)) hb); clear HB; revert n0_; intro HB; (try clear hb); (try clear hb2); (try clear hk); (try clear hi)))
  go_ret
  exact ⟨by first | rfl | (simp [errW_none,errW_some] <;> rfl) | (simp [*,errW_none,errW_some] <;> rfl),by repeat (first | (with_reducible first | exact HB.out | apply QD | apply QB | apply QC) | exact HB.out)⟩

/-! ### impl_RulesText: function 9 -/
def impl_RulesText.f (k : Nat) (a0_0 : Int) (a0_1 : Int) (a0_2 : Bool) (a0_3 : Bool) (l0_4 : List Int) (l0_5 : List Int) (a0_6 : Int) (a0_7 : Int) : Option (ByteArray) := (impl_IsRules.f k a0_0 a0_1 a0_2 a0_3 l0_4 l0_5 a0_6 a0_7).bind fun t175 => (if t175 = true then ((impl_FormatInt.f a0_0).bind fun t176 => (if 8 + t176.size ≤ 9223372036854775807 then ((impl_FormatInt.f a0_1).bind fun t177 => (if 5 + t177.size ≤ 9223372036854775807 then ((impl_RulesWord.f k a0_0 a0_1 a0_2 a0_3 l0_4 l0_5 a0_6 a0_7).bind fun t178 => (if 6 + t178.size ≤ 9223372036854775807 then ((impl_maybeText.f k l0_4).bind fun t179 => (if 5 + t179.size ≤ 9223372036854775807 then ((impl_maybeText.f k l0_5).bind fun t180 => (if 5 + t180.size ≤ 9223372036854775807 then ((impl_FormatInt.f a0_6).bind fun t181 => (if 5 + t181.size ≤ 9223372036854775807 then ((impl_FormatInt.f a0_7).bind fun t182 => (if 6 + t182.size ≤ 9223372036854775807 then ((strings_Join.f (([(⟨#[112, 108, 97, 121, 101, 114, 115, 61]⟩ : ByteArray) ++ t176, (⟨#[101, 97, 99, 104, 61]⟩ : ByteArray) ++ t177, (⟨#[109, 97, 116, 99, 104, 61]⟩ : ByteArray) ++ t178, (⟨#[119, 105, 108, 100, 61]⟩ : ByteArray) ++ t179, (⟨#[115, 107, 105, 112, 61]⟩ : ByteArray) ++ t180, (⟨#[116, 97, 107, 101, 61]⟩ : ByteArray) ++ t181, (⟨#[108, 105, 109, 105, 116, 61]⟩ : ByteArray) ++ t182] : List ByteArray)) (⟨#[32]⟩ : ByteArray)).bind fun t186 => (some t186)) else (none))) else (none))) else (none))) else (none))) else (none))) else (none))) else (none))) else (some (⟨#[]⟩ : ByteArray)))
theorem impl_RulesText.mono : ∀ a0 a1 a2 a3 a4 a5 a6 a7 k, LeO (impl_RulesText.f k a0 a1 a2 a3 a4 a5 a6 a7) (impl_RulesText.f (k + 1) a0 a1 a2 a3 a4 a5 a6 a7) := by
 intro a0 a1 a2 a3 a4 a5 a6 a7 k
 unfold impl_RulesText.f
 repeat' first
   | (with_reducible exact impl_IsRules.mono _ _ _ _ _ _ _ _ _)
   | (with_reducible exact impl_RulesWord.mono _ _ _ _ _ _ _ _ _)
   | (with_reducible exact impl_maybeText.mono _ _)
   | (with_reducible exact LeO.refl _)
   | (with_reducible exact LeO.none _)
   | (with_reducible refine LeO.ite ?_ ?_)
   | (with_reducible refine LeO.bind ?_ (fun _ => ?_))
   | exact impl_IsRules.mono _ _ _ _ _ _ _ _ _
   | exact impl_RulesWord.mono _ _ _ _ _ _ _ _ _
   | exact impl_maybeText.mono _ _
   | exact LeO.none _
   | refine LeO.ite ?_ ?_
   | refine LeO.bind ?_ (fun _ => ?_)
def impl_RulesText.T3 : Bool × List (List Nat × List Nat) := (true, [([], []), ([0], [0]), ([1], [1]), ([2], [2]), ([], []), ([4], [4]), ([5, 2], [5]), ([6], [6]), ([], []), ([8, 6], [8]), ([9], [9]), ([], []), ([11], [11]), ([12, 9], [12]), ([13], [13]), ([], []), ([15], [15]), ([16, 13], [16]), ([17], [17]), ([], []), ([19], [19]), ([20, 17], [20]), ([21], [21]), ([], []), ([23], [23]), ([24, 21], [24]), ([25], [25]), ([3, 7, 10, 14, 18, 22, 26], [3, 7, 10, 14, 18, 22, 26]), ([27, 25], [27]), ([28, 28, 0, 1, 2, 3, 4, 5, 6, 7, 8, 9, 10, 11, 12, 13, 14, 15, 16, 17, 18, 19, 20, 21, 22, 23, 24, 25, 26, 27, 28], [28])])
def impl_RulesText.B3 : List Nat := [0, 1, 3, 7, 0, 16, 55, 119, 0, 375, 887, 0, 2048, 7031, 15223, 0, 32768, 113527, 244599, 0, 524288, 1817463, 3914615, 0, 8388608, 29080439, 62634871, 134217727, 268435455, 536870911]
theorem impl_RulesText.tab3 : rtab .any (opsOf Tryd.f9 3) = impl_RulesText.T3 := by kernel_rfl
theorem impl_RulesText.bits3 : waitsOk impl_RulesText.T3.2 impl_RulesText.B3 = true := by kernel_rfl
set_option maxHeartbeats 8000000 in
set_option maxRecDepth 100000 in
theorem impl_RulesText.calls (k : Nat) (a0_0 : Int) (a0_1 : Int) (a0_2 : Bool) (a0_3 : Bool) (A0_4 : Option Addr) (c0_4 : Nat) (l0_4 : List Int) (A0_5 : Option Addr) (c0_5 : Nat) (l0_5 : List Int) (a0_6 : Int) (a0_7 : Int) (r : ByteArray) (w : World) (ht : Laid w) (hr0_4 : Kd.C (Kd.int .i64) w A0_4 l0_4.length l0_4) (hc0_4 : l0_4.length ≤ c0_4) (hr0_5 : Kd.C (Kd.int .i64) w A0_5 l0_5.length l0_5) (hc0_5 : l0_5.length ≤ c0_5) (h : impl_RulesText.f k a0_0 a0_1 a0_2 a0_3 l0_4 l0_5 a0_6 a0_7 = some r) :
  Calls Tryd.prog 9 #[.agg #[.int .i64 a0_0,.int .i64 a0_1,.bool a0_2,.bool a0_3,.slice A0_4 l0_4.length c0_4,.slice A0_5 l0_5.length c0_5,.int .i64 a0_6,.int .i64 a0_7]] w fun e w' => e = .returned (.string r) ∧ Below w.heap.size w w' := by
 have HTAB := QO ht
 clear ht
 have hu26 := Tryd.underlying26
 have HR0_4 := QO hr0_4
 have HC0_4 := QO hc0_4
 clear hr0_4 hc0_4
 have HR0_5 := QO hr0_5
 have HC0_5 := QO hc0_5
 clear hr0_5 hc0_5
 have HB := QO (Below.refl w.heap.size w)
 have H : ((impl_IsRules.f k a0_0 a0_1 a0_2 a0_3 l0_4 l0_5 a0_6 a0_7).bind fun t175 => (if t175 = true then ((impl_FormatInt.f a0_0).bind fun t176 => (if 8 + t176.size ≤ 9223372036854775807 then ((impl_FormatInt.f a0_1).bind fun t177 => (if 5 + t177.size ≤ 9223372036854775807 then ((impl_RulesWord.f k a0_0 a0_1 a0_2 a0_3 l0_4 l0_5 a0_6 a0_7).bind fun t178 => (if 6 + t178.size ≤ 9223372036854775807 then ((impl_maybeText.f k l0_4).bind fun t179 => (if 5 + t179.size ≤ 9223372036854775807 then ((impl_maybeText.f k l0_5).bind fun t180 => (if 5 + t180.size ≤ 9223372036854775807 then ((impl_FormatInt.f a0_6).bind fun t181 => (if 5 + t181.size ≤ 9223372036854775807 then ((impl_FormatInt.f a0_7).bind fun t182 => (if 6 + t182.size ≤ 9223372036854775807 then ((strings_Join.f (([(⟨#[112,108,97,121,101,114,115,61]⟩ : ByteArray) ++ t176,(⟨#[101,97,99,104,61]⟩ : ByteArray) ++ t177,(⟨#[109,97,116,99,104,61]⟩ : ByteArray) ++ t178,(⟨#[119,105,108,100,61]⟩ : ByteArray) ++ t179,(⟨#[115,107,105,112,61]⟩ : ByteArray) ++ t180,(⟨#[116,97,107,101,61]⟩ : ByteArray) ++ t181,(⟨#[108,105,109,105,116,61]⟩ : ByteArray) ++ t182] : List ByteArray)) (⟨#[32]⟩ : ByteArray)).bind fun t186 => (some t186)) else (none))) else (none))) else (none))) else (none))) else (none))) else (none))) else (none))) else (some (⟨#[]⟩ : ByteArray)))) = some r := h
 clear h
 replace H := QP.mp H
 obtain ⟨t175,A20,H⟩ := H
 have A2 := QO A20
 clear A20
 by_cases c3 : t175 = true
 ·subst c3
  rw [if_pos rfl] at H
  replace H := QP.mp H
  obtain ⟨t176,A40,H⟩ := H
  have A4 := QO A40
  clear A40
  by_cases c5 : 8 + t176.size ≤ 9223372036854775807
  ·rw [if_pos c5] at H
   have c5b0 := eq_true c5
   have c5b1 : decide (8 + t176.size ≤ 9223372036854775807) = true := decide_eq_true c5
   try have c5b2 : (9223372036854775807 < 8 + t176.size) = False := eq_false (Nat.not_lt.2 c5)
   replace H := QP.mp H
   obtain ⟨t177,A60,H⟩ := H
   have A6 := QO A60
   clear A60
   by_cases c7 : 5 + t177.size ≤ 9223372036854775807
   ·rw [if_pos c7] at H
    have c7b0 := eq_true c7
    have c7b1 : decide (5 + t177.size ≤ 9223372036854775807) = true := decide_eq_true c7
    try have c7b2 : (9223372036854775807 < 5 + t177.size) = False := eq_false (Nat.not_lt.2 c7)
    replace H := QP.mp H
    obtain ⟨t178,A80,H⟩ := H
    have A8 := QO A80
    clear A80
    by_cases c9 : 6 + t178.size ≤ 9223372036854775807
    ·rw [if_pos c9] at H
     have c9b0 := eq_true c9
     have c9b1 : decide (6 + t178.size ≤ 9223372036854775807) = true := decide_eq_true c9
     try have c9b2 : (9223372036854775807 < 6 + t178.size) = False := eq_false (Nat.not_lt.2 c9)
     replace H := QP.mp H
     obtain ⟨t179,A100,H⟩ := H
     have A10 := QO A100
     clear A100
     by_cases c11 : 5 + t179.size ≤ 9223372036854775807
     ·rw [if_pos c11] at H
      have c11b0 := eq_true c11
      have c11b1 : decide (5 + t179.size ≤ 9223372036854775807) = true := decide_eq_true c11
      try have c11b2 : (9223372036854775807 < 5 + t179.size) = False := eq_false (Nat.not_lt.2 c11)
      replace H := QP.mp H
      obtain ⟨t180,A120,H⟩ := H
      have A12 := QO A120
      clear A120
      by_cases c13 : 5 + t180.size ≤ 9223372036854775807
      ·rw [if_pos c13] at H
       have c13b0 := eq_true c13
       have c13b1 : decide (5 + t180.size ≤ 9223372036854775807) = true := decide_eq_true c13
       try have c13b2 : (9223372036854775807 < 5 + t180.size) = False := eq_false (Nat.not_lt.2 c13)
       replace H := QP.mp H
       obtain ⟨t181,A140,H⟩ := H
       have A14 := QO A140
       clear A140
       by_cases c15 : 5 + t181.size ≤ 9223372036854775807
       ·rw [if_pos c15] at H
        have c15b0 := eq_true c15
        have c15b1 : decide (5 + t181.size ≤ 9223372036854775807) = true := decide_eq_true c15
        try have c15b2 : (9223372036854775807 < 5 + t181.size) = False := eq_false (Nat.not_lt.2 c15)
        replace H := QP.mp H
        obtain ⟨t182,A160,H⟩ := H
        have A16 := QO A160
        clear A160
        by_cases c17 : 6 + t182.size ≤ 9223372036854775807
        ·rw [if_pos c17] at H
         have c17b0 := eq_true c17
         have c17b1 : decide (6 + t182.size ≤ 9223372036854775807) = true := decide_eq_true c17
         try have c17b2 : (9223372036854775807 < 6 + t182.size) = False := eq_false (Nat.not_lt.2 c17)
         obtain ⟨y183,hy183⟩ : ∃ y_ : List ByteArray,y_ = (([(⟨#[112,108,97,121,101,114,115,61]⟩ : ByteArray) ++ t176,(⟨#[101,97,99,104,61]⟩ : ByteArray) ++ t177,(⟨#[109,97,116,99,104,61]⟩ : ByteArray) ++ t178,(⟨#[119,105,108,100,61]⟩ : ByteArray) ++ t179,(⟨#[115,107,105,112,61]⟩ : ByteArray) ++ t180,(⟨#[116,97,107,101,61]⟩ : ByteArray) ++ t181,(⟨#[108,105,109,105,116,61]⟩ : ByteArray) ++ t182] : List ByteArray)) := ⟨_,rfl⟩
         replace H : ((strings_Join.f y183 (⟨#[32]⟩ : ByteArray)).bind fun t186 => (some t186)) = some r := by first | (rw [hy183]; with_reducible exact H) | (have H2_ := (Option.bind_some _ _).symm.trans H; rw [hy183]; with_reducible exact H2_) | (have H2_ := (Option.bind_some _ _).symm.trans H; with_reducible exact H2_) | with_reducible exact H | (rw [hy183]; exact H) | exact H
         have Ny183 := QO hy183
         clear hy183
         replace H := QP.mp H
         obtain ⟨t186,A180,H⟩ := H
         have A18 := QO A180
         clear A180
         obtain rfl := Option.some.inj H
         go_enter Tryd.func9,Tryd.ntmps9
         try go_wp2_with (first | ((with_reducible refine gate_dst (N := 1) rfl ?_); refine box_event ?hg (N := 1) ?hd (cs := #[.int .i64 a0_0,.int .i64 a0_1,.bool a0_2,.bool a0_3,.slice A0_4 l0_4.length c0_4,.slice A0_5 l0_5.length c0_5,.int .i64 a0_6,.int .i64 a0_7]) (t := 26) ?hr ?_; (case hd => rfl); (case hg => rfl); (case hr => first | (go_simp; done) | (go_simp; rfl)); intro gb174 hg w19 hbox hb; have n0_ := QO (below_step (by repeat (first | (with_reducible first | exact HB.out | apply QD | apply QB | apply QC) | exact HB.out)) hb); have n1_ := QO (hbox); have n2_ := QO ((by rw [hg]; exact (below_size (by repeat (first | (with_reducible first | exact HB.out | apply QD | apply QB | apply QC) | exact HB.out))) : w.heap.size ≤ gb174)); have n3_ := QO ((by rw [hg]; exact (below_size (by repeat (first | (with_reducible first | exact HB.out | apply QD | apply QB | apply QC) | exact HB.out))) : w.heap.size ≤ gb174)); clear HB; revert n0_ n1_ n2_ n3_; intro HB BK174 GW174 GE174; clear hb hbox hg; have hcz20_0 : w19.cell? ⟨gb174,0,none⟩ = some (.int .i64 a0_0) := (QE BK174.out 0).trans rfl; have hcz20_1 : w19.cell? ⟨gb174,1,none⟩ = some (.int .i64 a0_1) := (QE BK174.out 1).trans rfl; have hcz20_2 : w19.cell? ⟨gb174,2,none⟩ = some (.bool a0_2) := (QE BK174.out 2).trans rfl; have hcz20_3 : w19.cell? ⟨gb174,3,none⟩ = some (.bool a0_3) := (QE BK174.out 3).trans rfl; have hcz20_4 : w19.cell? ⟨gb174,4,none⟩ = some (.slice A0_4 l0_4.length c0_4) := (QE BK174.out 4).trans rfl; have hcz20_5 : w19.cell? ⟨gb174,5,none⟩ = some (.slice A0_5 l0_5.length c0_5) := (QE BK174.out 5).trans rfl; have hcz20_6 : w19.cell? ⟨gb174,6,none⟩ = some (.int .i64 a0_6) := (QE BK174.out 6).trans rfl; have hcz20_7 : w19.cell? ⟨gb174,7,none⟩ = some (.int .i64 a0_7) := (QE BK174.out 7).trans rfl; have hfz20_0 := QF BK174.out 0; have hfz20_1 := QF BK174.out 1; have hfz20_2 := QF BK174.out 2; have hfz20_3 := QF BK174.out 3; have hfz20_4 := QF BK174.out 4; have hfz20_5 := QF BK174.out 5; have hfz20_6 := QF BK174.out 6; have hfz20_7 := QF BK174.out 7) | ((with_reducible refine QK (f := 10) rfl ?_); refine goesL_ (some 4) rfl rfl Tryd.func10 (by kernel_rfl) rfl #[.agg #[.int .i64 a0_0,.int .i64 a0_1,.bool a0_2,.bool a0_3,.slice A0_4 l0_4.length c0_4,.slice A0_5 l0_5.length c0_5,.int .i64 a0_6,.int .i64 a0_7]] rfl (by (try simp only [List.map_toArray,List.map_cons,List.map_nil]); first | done | rfl | (simp only [List.length_drop,List.length_take]; rfl)) ?_; (with_reducible refine (impl_IsRules.calls k a0_0 a0_1 a0_2 a0_3 _ _ l0_4 _ _ l0_5 a0_6 a0_7 true _ ?side1 ?side2 ?side3 ?side4 A2.out).mono ?_); (case side1 => repeat (first | exact (Kd.C_below HR0_4.out HB.out) | (with_reducible refine Kd.C_alloc ?_ _) | (with_reducible refine Kd.C_drewN ?_ _) | (with_reducible refine Kd.C_drew ?_))); (case side2 => exact HC0_4.out); (case side3 => repeat (first | exact (Kd.C_below HR0_5.out HB.out) | (with_reducible refine Kd.C_alloc ?_ _) | (with_reducible refine Kd.C_drewN ?_ _) | (with_reducible refine Kd.C_drew ?_))); (case side4 => exact HC0_5.out); rintro e w21 ⟨rfl,hb⟩; refine ⟨_,rfl,?_⟩; have n0_ := QO (blk_below (g := gb174) (o := _) (by (with_reducible repeat (first | refine blk_drewN ?_ _ | refine blk_drew ?_ | refine blk_alloc ?_ _)); exact BK174.out) hb); have n1_ := QO (below_step (by repeat (first | (with_reducible first | exact HB.out | apply QD | apply QB | apply QC | refine QJ ?_ GE174.out) | exact HB.out)) hb); clear BK174; clear HB; revert n0_ n1_; intro BK174 HB; (try clear hb); (try clear hb2); (try clear hk); (try clear hi)))
         have n0_ := QO (blk_drew BK174.out)
         have n1_ := QO (QC HB.out)
         clear BK174
         clear HB
         revert n0_ n1_
         intro BK174 HB
         refine start_ (n := 30) (S := fun w' => w'.cell? ⟨gb174,0,none⟩ = some (.int .i64 a0_0) ∧ w'.cell? ⟨gb174,1,none⟩ = some (.int .i64 a0_1) ∧ w'.cell? ⟨gb174,2,none⟩ = some (.bool a0_2) ∧ w'.cell? ⟨gb174,3,none⟩ = some (.bool a0_3) ∧ w'.cell? ⟨gb174,4,none⟩ = some (.slice A0_4 l0_4.length c0_4) ∧ w'.cell? ⟨gb174,5,none⟩ = some (.slice A0_5 l0_5.length c0_5) ∧ w'.cell? ⟨gb174,6,none⟩ = some (.int .i64 a0_6) ∧ w'.cell? ⟨gb174,7,none⟩ = some (.int .i64 a0_7)) (ds := []) (ab 30 0) (by kernel_rfl) rfl rfl ⟨(QE BK174.out 0).trans rfl,(QE BK174.out 1).trans rfl,(QE BK174.out 2).trans rfl,(QE BK174.out 3).trans rfl,(QE BK174.out 4).trans rfl,(QE BK174.out 5).trans rfl,(QE BK174.out 6).trans rfl,(QE BK174.out 7).trans rfl⟩ (fun hHeld => ?_); refine with_tabW impl_RulesText.tab3 impl_RulesText.bits3 (fun HT_ HW_ => ?_)
         generalize w21.drew = w22 at BK174 HB hHeld ⊢
         refine pure_ (i := 0) (N := some 6) (v := ?_) (a' := ?_) (ab 30 1) rfl rfl (QI HT_.out (by kernel_rfl)) (fun _ _ _ h => h) (Or.inl ⟨by rfl,?_⟩) ?_ ?_
         rotate_left
         ·intro w'
          go_simp
          with_reducible rfl
         rotate_left
         ·simp only [Act.put,QL,QM,QN,QG,QH]
          rfl
         refine pure_ (i := 4) (N := some 10) (v := ?_) (a' := ?_) (ab 30 17) rfl rfl (QI HT_.out (by kernel_rfl)) (fun _ _ _ h => h) (Or.inl ⟨by rfl,?_⟩) ?_ ?_
         rotate_left
         ·intro w'
          go_simp
          with_reducible rfl
         rotate_left
         ·simp only [Act.put,QL,QM,QN,QG,QH]
          rfl
         refine pure_ (i := 11) (N := some 17) (v := ?_) (a' := ?_) (ab 30 2065) rfl rfl (QI HT_.out (by kernel_rfl)) (fun _ _ _ h => h) (Or.inl ⟨by rfl,?_⟩) ?_ ?_
         rotate_left
         ·intro w'
          go_simp
          with_reducible rfl
         rotate_left
         ·simp only [Act.put,QL,QM,QN,QG,QH]
          rfl
         refine pure_ (i := 15) (N := some 21) (v := ?_) (a' := ?_) (ab 30 34833) rfl rfl (QI HT_.out (by kernel_rfl)) (fun _ _ _ h => h) (Or.inl ⟨by rfl,?_⟩) ?_ ?_
         rotate_left
         ·intro w'
          go_simp
          with_reducible rfl
         rotate_left
         ·simp only [Act.put,QL,QM,QN,QG,QH]
          rfl
         refine pure_ (i := 19) (N := some 25) (v := ?_) (a' := ?_) (ab 30 559121) rfl rfl (QI HT_.out (by kernel_rfl)) (fun _ _ _ h => h) (Or.inl ⟨by rfl,?_⟩) ?_ ?_
         rotate_left
         ·intro w'
          go_simp
          with_reducible rfl
         rotate_left
         ·simp only [Act.put,QL,QM,QN,QG,QH]
          rfl
         refine pure_ (i := 23) (N := some 29) (v := ?_) (a' := ?_) (ab 30 8947729) rfl rfl (QI HT_.out (by kernel_rfl)) (fun _ _ _ h => h) (Or.inl ⟨by rfl,?_⟩) ?_ ?_
         rotate_left
         ·intro w'
          go_simp
          with_reducible rfl
         rotate_left
         ·simp only [Act.put,QL,QM,QN,QG,QH]
          rfl
         refine take_ (i := 1) (N := some 7) (v := ?_) (a' := ?_) (ab 30 8947731) rfl rfl (take_ofW HT_.out HW_.out (by kernel_rfl)) (fun _ _ _ h => h) (Or.inl ⟨by rfl,?_⟩) hHeld ?_ ?_
         rotate_left
         ·rintro w' ⟨s0,s1,s2,s3,s4,s5,s6,s7⟩
          go_simp
          with_reducible rfl
         rotate_left
         ·simp only [Act.put,QL,QM,QN,QG,QH]
          rfl
         refine take_ (i := 5) (N := some 11) (v := ?_) (a' := ?_) (ab 30 8947763) rfl rfl (take_ofW HT_.out HW_.out (by kernel_rfl)) (fun _ _ _ h => h) (Or.inl ⟨by rfl,?_⟩) hHeld ?_ ?_
         rotate_left
         ·rintro w' ⟨s0,s1,s2,s3,s4,s5,s6,s7⟩
          go_simp
          with_reducible rfl
         rotate_left
         ·simp only [Act.put,QL,QM,QN,QG,QH]
          rfl
         refine take_ (i := 8) (N := some 14) (v := ?_) (a' := ?_) (ab 30 8948019) rfl rfl (take_ofW HT_.out HW_.out (by kernel_rfl)) (fun _ _ _ h => h) (Or.inl ⟨by rfl,?_⟩) hHeld ?_ ?_
         rotate_left
         ·rintro w' ⟨s0,s1,s2,s3,s4,s5,s6,s7⟩
          go_simp
          with_reducible rfl
         rotate_left
         ·simp only [Act.put,QL,QM,QN,QG,QH]
          rfl
         refine take_ (i := 12) (N := some 18) (v := ?_) (a' := ?_) (ab 30 8952115) rfl rfl (take_ofW HT_.out HW_.out (by kernel_rfl)) (fun _ _ _ h => h) (Or.inl ⟨by rfl,?_⟩) hHeld ?_ ?_
         rotate_left
         ·rintro w' ⟨s0,s1,s2,s3,s4,s5,s6,s7⟩
          go_simp
          with_reducible rfl
         rotate_left
         ·simp only [Act.put,QL,QM,QN,QG,QH]
          rfl
         refine take_ (i := 16) (N := some 22) (v := ?_) (a' := ?_) (ab 30 9017651) rfl rfl (take_ofW HT_.out HW_.out (by kernel_rfl)) (fun _ _ _ h => h) (Or.inl ⟨by rfl,?_⟩) hHeld ?_ ?_
         rotate_left
         ·rintro w' ⟨s0,s1,s2,s3,s4,s5,s6,s7⟩
          go_simp
          with_reducible rfl
         rotate_left
         ·simp only [Act.put,QL,QM,QN,QG,QH]
          rfl
         refine take_ (i := 20) (N := some 26) (v := ?_) (a' := ?_) (ab 30 10066227) rfl rfl (take_ofW HT_.out HW_.out (by kernel_rfl)) (fun _ _ _ h => h) (Or.inl ⟨by rfl,?_⟩) hHeld ?_ ?_
         rotate_left
         ·rintro w' ⟨s0,s1,s2,s3,s4,s5,s6,s7⟩
          go_simp
          with_reducible rfl
         rotate_left
         ·simp only [Act.put,QL,QM,QN,QG,QH]
          rfl
         refine take_ (i := 24) (N := some 30) (v := ?_) (a' := ?_) (ab 30 26843443) rfl rfl (take_ofW HT_.out HW_.out (by kernel_rfl)) (fun _ _ _ h => h) (Or.inl ⟨by rfl,?_⟩) hHeld ?_ ?_
         rotate_left
         ·rintro w' ⟨s0,s1,s2,s3,s4,s5,s6,s7⟩
          go_simp
          with_reducible rfl
         rotate_left
         ·simp only [Act.put,QL,QM,QN,QG,QH]
          rfl
         refine one_ (i := 2) (N := some 8) (ab 30 26843447) rfl rfl (one_of HT_.out (by kernel_rfl)) (by decide) (fun K hK => ?_)
         refine goes_ Tryd.func29 (by kernel_rfl) rfl #[.int .i64 a0_0] (by rfl) rfl rfl (by (try simp only [List.map_toArray,List.map_cons,List.map_nil]); first | done | rfl | (simp only [List.length_drop,List.length_take]; rfl)) ?_
         with_reducible refine (impl_FormatInt.calls a0_0 t176 _ ?ht_ A4.out).mono ?_
         case ht_ => exact HTAB.out.at (by repeat (first | (with_reducible first | exact HB.out | apply QD | apply QB | apply QC | refine QJ ?_ GE174.out) | exact HB.out))
         rintro e w23 ⟨rfl,hb⟩
         refine ⟨_,rfl,?_⟩
         have n0_ := QO (blk_below (g := gb174) (o := _) (by (with_reducible repeat (first | refine blk_drewN ?_ _ | refine blk_drew ?_ | refine blk_alloc ?_ _)); exact BK174.out) hb)
         have n1_ := QO (below_step (by repeat (first | (with_reducible first | exact HB.out | apply QD | apply QB | apply QC | refine QJ ?_ GE174.out) | exact HB.out)) hb)
         clear BK174
         clear HB
         revert n0_ n1_
         intro BK174 HB
         (try clear hb)
         (try clear hb2)
         (try clear hk)
         (try clear hi)
         refine hK.out _ _ (by (repeat' apply And.intro) <;> first | exact (QE BK174.out _).trans rfl) (fun hHeld => ?_)
         clear hK K
         refine norm_ (a' := ?_) ?_ ?_
         rotate_left
         ·show Act.put _ (some 8) _ = _
          simp only [Act.put,QL,QM,QN,QG,QH]
          rfl
         refine pure_ (i := 3) (N := some 9) (v := ?_) (a' := ?_) (ab 30 26843455) rfl rfl (QI HT_.out (by kernel_rfl)) (fun _ _ _ h => h) (Or.inl ⟨by rfl,?_⟩) ?_ ?_
         rotate_left
         ·intro w'
          go_simp
          with_reducible rfl
         rotate_left
         ·simp only [Act.put,QL,QM,QN,QG,QH]
          rfl
         refine one_ (i := 6) (N := some 12) (ab 30 26843519) rfl rfl (one_of HT_.out (by kernel_rfl)) (by decide) (fun K hK => ?_)
         refine goes_ Tryd.func29 (by kernel_rfl) rfl #[.int .i64 a0_1] (by rfl) rfl rfl (by (try simp only [List.map_toArray,List.map_cons,List.map_nil]); first | done | rfl | (simp only [List.length_drop,List.length_take]; rfl)) ?_
         with_reducible refine (impl_FormatInt.calls a0_1 t177 _ ?ht_ A6.out).mono ?_
         case ht_ => exact HTAB.out.at (by repeat (first | (with_reducible first | exact HB.out | apply QD | apply QB | apply QC | refine QJ ?_ GE174.out) | exact HB.out))
         rintro e w24 ⟨rfl,hb⟩
         refine ⟨_,rfl,?_⟩
         have n0_ := QO (blk_below (g := gb174) (o := _) (by (with_reducible repeat (first | refine blk_drewN ?_ _ | refine blk_drew ?_ | refine blk_alloc ?_ _)); exact BK174.out) hb)
         have n1_ := QO (below_step (by repeat (first | (with_reducible first | exact HB.out | apply QD | apply QB | apply QC | refine QJ ?_ GE174.out) | exact HB.out)) hb)
         clear BK174
         clear HB
         revert n0_ n1_
         intro BK174 HB
         (try clear hb)
         (try clear hb2)
         (try clear hk)
         (try clear hi)
         refine hK.out _ _ (by (repeat' apply And.intro) <;> first | exact (QE BK174.out _).trans rfl) (fun hHeld => ?_)
         clear hK K
         refine norm_ (a' := ?_) ?_ ?_
         rotate_left
         ·show Act.put _ (some 12) _ = _
          simp only [Act.put,QL,QM,QN,QG,QH]
          rfl
         refine pure_ (i := 7) (N := some 13) (v := ?_) (a' := ?_) (ab 30 26843647) rfl rfl (QI HT_.out (by kernel_rfl)) (fun _ _ _ h => h) (Or.inl ⟨by rfl,?_⟩) ?_ ?_
         rotate_left
         ·intro w'
          go_simp
          with_reducible rfl
         rotate_left
         ·simp only [Act.put,QL,QM,QN,QG,QH]
          rfl
         refine one_ (i := 9) (N := some 15) (ab 30 26844159) rfl rfl (one_of HT_.out (by kernel_rfl)) (by decide) (fun K hK => ?_)
         refine goes_ Tryd.func12 (by kernel_rfl) rfl #[.agg #[.int .i64 a0_0,.int .i64 a0_1,.bool a0_2,.bool a0_3,.slice A0_4 l0_4.length c0_4,.slice A0_5 l0_5.length c0_5,.int .i64 a0_6,.int .i64 a0_7]] (by rfl) rfl rfl (by (try simp only [List.map_toArray,List.map_cons,List.map_nil]); first | done | rfl | (simp only [List.length_drop,List.length_take]; rfl)) ?_
         with_reducible refine (impl_RulesWord.calls k a0_0 a0_1 a0_2 a0_3 _ _ l0_4 _ _ l0_5 a0_6 a0_7 t178 _ ?side1 ?side2 ?side3 ?side4 A8.out).mono ?_
         (case side1 => repeat (first | exact (Kd.C_below HR0_4.out HB.out) | (with_reducible refine Kd.C_alloc ?_ _) | (with_reducible refine Kd.C_drewN ?_ _) | (with_reducible refine Kd.C_drew ?_)))
         (case side2 => exact HC0_4.out)
         (case side3 => repeat (first | exact (Kd.C_below HR0_5.out HB.out) | (with_reducible refine Kd.C_alloc ?_ _) | (with_reducible refine Kd.C_drewN ?_ _) | (with_reducible refine Kd.C_drew ?_)))
         (case side4 => exact HC0_5.out)
         rintro e w25 ⟨rfl,hb⟩
         refine ⟨_,rfl,?_⟩
         have n0_ := QO (blk_below (g := gb174) (o := _) (by (with_reducible repeat (first | refine blk_drewN ?_ _ | refine blk_drew ?_ | refine blk_alloc ?_ _)); exact BK174.out) hb)
         have n1_ := QO (below_step (by repeat (first | (with_reducible first | exact HB.out | apply QD | apply QB | apply QC | refine QJ ?_ GE174.out) | exact HB.out)) hb)
         clear BK174
         clear HB
         revert n0_ n1_
         intro BK174 HB
         (try clear hb)
         (try clear hb2)
         (try clear hk)
         (try clear hi)
         refine hK.out _ _ (by (repeat' apply And.intro) <;> first | exact (QE BK174.out _).trans rfl) (fun hHeld => ?_)
         clear hK K
         refine norm_ (a' := ?_) ?_ ?_
         rotate_left
         ·show Act.put _ (some 15) _ = _
          simp only [Act.put,QL,QM,QN,QG,QH]
          rfl
         refine pure_ (i := 10) (N := some 16) (v := ?_) (a' := ?_) (ab 30 26845183) rfl rfl (QI HT_.out (by kernel_rfl)) (fun _ _ _ h => h) (Or.inl ⟨by rfl,?_⟩) ?_ ?_
         rotate_left
         ·intro w'
          go_simp
          with_reducible rfl
         rotate_left
         ·simp only [Act.put,QL,QM,QN,QG,QH]
          rfl
         refine one_ (i := 13) (N := some 19) (ab 30 26853375) rfl rfl (one_of HT_.out (by kernel_rfl)) (by decide) (fun K hK => ?_)
         refine goes_ Tryd.func30 (by kernel_rfl) rfl #[.slice A0_4 l0_4.length c0_4] (by rfl) rfl rfl (by (try simp only [List.map_toArray,List.map_cons,List.map_nil]); first | done | rfl | (simp only [List.length_drop,List.length_take]; rfl)) ?_
         with_reducible refine (impl_maybeText.calls k _ _ l0_4 t179 _ ?side1 ?side2 A10.out).mono ?_
         (case side1 => repeat (first | exact (Kd.C_below HR0_4.out HB.out) | (with_reducible refine Kd.C_alloc ?_ _) | (with_reducible refine Kd.C_drewN ?_ _) | (with_reducible refine Kd.C_drew ?_)))
         (case side2 => exact HC0_4.out)
         rintro e w26 ⟨rfl,hb⟩
         refine ⟨_,rfl,?_⟩
         have n0_ := QO (blk_below (g := gb174) (o := _) (by (with_reducible repeat (first | refine blk_drewN ?_ _ | refine blk_drew ?_ | refine blk_alloc ?_ _)); exact BK174.out) hb)
         have n1_ := QO (below_step (by repeat (first | (with_reducible first | exact HB.out | apply QD | apply QB | apply QC | refine QJ ?_ GE174.out) | exact HB.out)) hb)
         clear BK174
         clear HB
         revert n0_ n1_
         intro BK174 HB
         (try clear hb)
         (try clear hb2)
         (try clear hk)
         (try clear hi)
         refine hK.out _ _ (by (repeat' apply And.intro) <;> first | exact (QE BK174.out _).trans rfl) (fun hHeld => ?_)
         clear hK K
         refine norm_ (a' := ?_) ?_ ?_
         rotate_left
         ·show Act.put _ (some 19) _ = _
          simp only [Act.put,QL,QM,QN,QG,QH]
          rfl
         refine pure_ (i := 14) (N := some 20) (v := ?_) (a' := ?_) (ab 30 26869759) rfl rfl (QI HT_.out (by kernel_rfl)) (fun _ _ _ h => h) (Or.inl ⟨by rfl,?_⟩) ?_ ?_
         rotate_left
         ·intro w'
          go_simp
          with_reducible rfl
         rotate_left
         ·simp only [Act.put,QL,QM,QN,QG,QH]
          rfl
         refine one_ (i := 17) (N := some 23) (ab 30 27000831) rfl rfl (one_of HT_.out (by kernel_rfl)) (by decide) (fun K hK => ?_)
         refine goes_ Tryd.func30 (by kernel_rfl) rfl #[.slice A0_5 l0_5.length c0_5] (by rfl) rfl rfl (by (try simp only [List.map_toArray,List.map_cons,List.map_nil]); first | done | rfl | (simp only [List.length_drop,List.length_take]; rfl)) ?_
         with_reducible refine (impl_maybeText.calls k _ _ l0_5 t180 _ ?side1 ?side2 A12.out).mono ?_
         (case side1 => repeat (first | exact (Kd.C_below HR0_5.out HB.out) | (with_reducible refine Kd.C_alloc ?_ _) | (with_reducible refine Kd.C_drewN ?_ _) | (with_reducible refine Kd.C_drew ?_)))
         (case side2 => exact HC0_5.out)
         rintro e w27 ⟨rfl,hb⟩
         refine ⟨_,rfl,?_⟩
         have n0_ := QO (blk_below (g := gb174) (o := _) (by (with_reducible repeat (first | refine blk_drewN ?_ _ | refine blk_drew ?_ | refine blk_alloc ?_ _)); exact BK174.out) hb)
         have n1_ := QO (below_step (by repeat (first | (with_reducible first | exact HB.out | apply QD | apply QB | apply QC | refine QJ ?_ GE174.out) | exact HB.out)) hb)
         clear BK174
         clear HB
         revert n0_ n1_
         intro BK174 HB
         (try clear hb)
         (try clear hb2)
         (try clear hk)
         (try clear hi)
         refine hK.out _ _ (by (repeat' apply And.intro) <;> first | exact (QE BK174.out _).trans rfl) (fun hHeld => ?_)
         clear hK K
         refine norm_ (a' := ?_) ?_ ?_
         rotate_left
         ·show Act.put _ (some 23) _ = _
          simp only [Act.put,QL,QM,QN,QG,QH]
          rfl
         refine pure_ (i := 18) (N := some 24) (v := ?_) (a' := ?_) (ab 30 27262975) rfl rfl (QI HT_.out (by kernel_rfl)) (fun _ _ _ h => h) (Or.inl ⟨by rfl,?_⟩) ?_ ?_
         rotate_left
         ·intro w'
          go_simp
          with_reducible rfl
         rotate_left
         ·simp only [Act.put,QL,QM,QN,QG,QH]
          rfl
         refine one_ (i := 21) (N := some 27) (ab 30 29360127) rfl rfl (one_of HT_.out (by kernel_rfl)) (by decide) (fun K hK => ?_)
         refine goes_ Tryd.func29 (by kernel_rfl) rfl #[.int .i64 a0_6] (by rfl) rfl rfl (by (try simp only [List.map_toArray,List.map_cons,List.map_nil]); first | done | rfl | (simp only [List.length_drop,List.length_take]; rfl)) ?_
         with_reducible refine (impl_FormatInt.calls a0_6 t181 _ ?ht_ A14.out).mono ?_
         case ht_ => exact HTAB.out.at (by repeat (first | (with_reducible first | exact HB.out | apply QD | apply QB | apply QC | refine QJ ?_ GE174.out) | exact HB.out))
         rintro e w28 ⟨rfl,hb⟩
         refine ⟨_,rfl,?_⟩
         have n0_ := QO (blk_below (g := gb174) (o := _) (by (with_reducible repeat (first | refine blk_drewN ?_ _ | refine blk_drew ?_ | refine blk_alloc ?_ _)); exact BK174.out) hb)
         have n1_ := QO (below_step (by repeat (first | (with_reducible first | exact HB.out | apply QD | apply QB | apply QC | refine QJ ?_ GE174.out) | exact HB.out)) hb)
         clear BK174
         clear HB
         revert n0_ n1_
         intro BK174 HB
         (try clear hb)
         (try clear hb2)
         (try clear hk)
         (try clear hi)
         refine hK.out _ _ (by (repeat' apply And.intro) <;> first | exact (QE BK174.out _).trans rfl) (fun hHeld => ?_)
         clear hK K
         refine norm_ (a' := ?_) ?_ ?_
         rotate_left
         ·show Act.put _ (some 27) _ = _
          simp only [Act.put,QL,QM,QN,QG,QH]
          rfl
         refine pure_ (i := 22) (N := some 28) (v := ?_) (a' := ?_) (ab 30 33554431) rfl rfl (QI HT_.out (by kernel_rfl)) (fun _ _ _ h => h) (Or.inl ⟨by rfl,?_⟩) ?_ ?_
         rotate_left
         ·intro w'
          go_simp
          with_reducible rfl
         rotate_left
         ·simp only [Act.put,QL,QM,QN,QG,QH]
          rfl
         refine one_ (i := 25) (N := some 31) (ab 30 67108863) rfl rfl (one_of HT_.out (by kernel_rfl)) (by decide) (fun K hK => ?_)
         refine goes_ Tryd.func29 (by kernel_rfl) rfl #[.int .i64 a0_7] (by rfl) rfl rfl (by (try simp only [List.map_toArray,List.map_cons,List.map_nil]); first | done | rfl | (simp only [List.length_drop,List.length_take]; rfl)) ?_
         with_reducible refine (impl_FormatInt.calls a0_7 t182 _ ?ht_ A16.out).mono ?_
         case ht_ => exact HTAB.out.at (by repeat (first | (with_reducible first | exact HB.out | apply QD | apply QB | apply QC | refine QJ ?_ GE174.out) | exact HB.out))
         rintro e w29 ⟨rfl,hb⟩
         refine ⟨_,rfl,?_⟩
         have n0_ := QO (blk_below (g := gb174) (o := _) (by (with_reducible repeat (first | refine blk_drewN ?_ _ | refine blk_drew ?_ | refine blk_alloc ?_ _)); exact BK174.out) hb)
         have n1_ := QO (below_step (by repeat (first | (with_reducible first | exact HB.out | apply QD | apply QB | apply QC | refine QJ ?_ GE174.out) | exact HB.out)) hb)
         clear BK174
         clear HB
         revert n0_ n1_
         intro BK174 HB
         (try clear hb)
         (try clear hb2)
         (try clear hk)
         (try clear hi)
         refine hK.out _ _ (by (repeat' apply And.intro) <;> first | exact (QE BK174.out _).trans rfl) (fun hHeld => ?_)
         clear hK K
         refine norm_ (a' := ?_) ?_ ?_
         rotate_left
         ·show Act.put _ (some 31) _ = _
          simp only [Act.put,QL,QM,QN,QG,QH]
          rfl
         refine pure_ (i := 26) (N := some 32) (v := ?_) (a' := ?_) (ab 30 134217727) rfl rfl (QI HT_.out (by kernel_rfl)) (fun _ _ _ h => h) (Or.inl ⟨by rfl,?_⟩) ?_ ?_
         rotate_left
         ·intro w'
          go_simp
          with_reducible rfl
         rotate_left
         ·simp only [Act.put,QL,QM,QN,QG,QH]
          rfl
         refine one_ (i := 27) (N := some 33) (ab 30 268435455) rfl rfl (one_of HT_.out (by kernel_rfl)) (by decide) (fun K hK => ?_)
         refine Kd.R_lit_step Kd.string _ 9 ?hg (N := 33) ?hd (xs := ([(⟨#[112,108,97,121,101,114,115,61]⟩ : ByteArray) ++ t176,(⟨#[101,97,99,104,61]⟩ : ByteArray) ++ t177,(⟨#[109,97,116,99,104,61]⟩ : ByteArray) ++ t178,(⟨#[119,105,108,100,61]⟩ : ByteArray) ++ t179,(⟨#[115,107,105,112,61]⟩ : ByteArray) ++ t180,(⟨#[116,97,107,101,61]⟩ : ByteArray) ++ t181,(⟨#[108,105,109,105,116,61]⟩ : ByteArray) ++ t182] : List ByteArray)) (inner := [.string ((⟨#[112,108,97,121,101,114,115,61]⟩ : ByteArray) ++ t176),.string ((⟨#[101,97,99,104,61]⟩ : ByteArray) ++ t177),.string ((⟨#[109,97,116,99,104,61]⟩ : ByteArray) ++ t178),.string ((⟨#[119,105,108,100,61]⟩ : ByteArray) ++ t179),.string ((⟨#[115,107,105,112,61]⟩ : ByteArray) ++ t180),.string ((⟨#[116,97,107,101,61]⟩ : ByteArray) ++ t181),.string ((⟨#[108,105,109,105,116,61]⟩ : ByteArray) ++ t182)]) (ok := fun _ => True) (okp := fun _ => True) ?hr ?hp (fun _ hk => hk) trivial (Below.refl _ _) (Nat.le_refl _) (by simp) ?_; (case hd => rfl); (case hg => rfl); (case hr => first | (go_simp; done) | (go_simp; rfl)); (case hp => exact (Reps.one (show Kd.M Kd.string _ _ _ ((⟨#[112,108,97,121,101,114,115,61]⟩ : ByteArray) ++ t176) [.string ((⟨#[112,108,97,121,101,114,115,61]⟩ : ByteArray) ++ t176)] from rfl) (Reps.one (show Kd.M Kd.string _ _ _ ((⟨#[101,97,99,104,61]⟩ : ByteArray) ++ t177) [.string ((⟨#[101,97,99,104,61]⟩ : ByteArray) ++ t177)] from rfl) (Reps.one (show Kd.M Kd.string _ _ _ ((⟨#[109,97,116,99,104,61]⟩ : ByteArray) ++ t178) [.string ((⟨#[109,97,116,99,104,61]⟩ : ByteArray) ++ t178)] from rfl) (Reps.one (show Kd.M Kd.string _ _ _ ((⟨#[119,105,108,100,61]⟩ : ByteArray) ++ t179) [.string ((⟨#[119,105,108,100,61]⟩ : ByteArray) ++ t179)] from rfl) (Reps.one (show Kd.M Kd.string _ _ _ ((⟨#[115,107,105,112,61]⟩ : ByteArray) ++ t180) [.string ((⟨#[115,107,105,112,61]⟩ : ByteArray) ++ t180)] from rfl) (Reps.one (show Kd.M Kd.string _ _ _ ((⟨#[116,97,107,101,61]⟩ : ByteArray) ++ t181) [.string ((⟨#[116,97,107,101,61]⟩ : ByteArray) ++ t181)] from rfl) (Reps.one (show Kd.M Kd.string _ _ _ ((⟨#[108,105,109,105,116,61]⟩ : ByteArray) ++ t182) [.string ((⟨#[108,105,109,105,116,61]⟩ : ByteArray) ++ t182)] from rfl) (Reps.none _ _)))))))))
         intro v184 w30 ho31 hb hg_ hnew_
         clear hg_ hnew_
         (first | rw [← Ny183.out] at ho31 | (simp only [Int.reduceToNat] at ho31; rw [← Ny183.out] at ho31))
         have n0_ := QO (Kd.R_lower ho31 (below_size (by repeat (first | (with_reducible first | exact HB.out | apply QD | apply QB | apply QC | refine QJ ?_ GE174.out) | exact HB.out))))
         have n1_ := QO (blk_below (g := gb174) (o := _) (by (with_reducible repeat (first | refine blk_drewN ?_ _ | refine blk_drew ?_ | refine blk_alloc ?_ _)); exact BK174.out) hb)
         have n2_ := QO (below_step (by repeat (first | (with_reducible first | exact HB.out | apply QD | apply QB | apply QC | refine QJ ?_ GE174.out) | exact HB.out)) hb)
         clear BK174
         clear HB
         revert n0_ n1_ n2_
         intro HO185 BK174 HB
         clear hb ho31
         obtain ⟨Ao32,co32,eo32⟩ := Kd.R_slice HO185.out
         (first | subst eo32 | (injection eo32 with f1_ f2_ f3_; have f4_ := f1_.symm; have f5_ := f3_.symm; clear f1_ f2_ f3_; subst f4_; subst f5_))
         refine hK.out _ _ (by (repeat' apply And.intro) <;> first | exact (QE BK174.out _).trans rfl) (fun hHeld => ?_)
         clear hK K
         refine norm_ (a' := ?_) ?_ ?_
         rotate_left
         ·show Act.put _ (some 33) _ = _
          simp only [Act.put,QL,QM,QN,QG,QH]
          rfl
         refine one_ (i := 28) (N := some 34) (ab 30 536870911) rfl rfl (one_of HT_.out (by kernel_rfl)) (by decide) (fun K hK => ?_)
         refine goes_ Tryd.func28 (by kernel_rfl) rfl #[.slice Ao32 y183.length co32,.string (⟨#[32]⟩ : ByteArray)] (by rfl) rfl rfl (by (try simp only [List.map_toArray,List.map_cons,List.map_nil]); first | done | rfl | (simp only [List.length_drop,List.length_take]; rfl)) ?_
         with_reducible refine (strings_Join.calls _ _ y183 (⟨#[32]⟩ : ByteArray) t186 _ ?side1 ?side2 A18.out).mono ?_
         (case side1 => exact ⟨_,_,_,HO185.out⟩)
         (case side2 => exact (Kd.R_reads' HO185.out).2.1)
         rintro e w33 ⟨rfl,hb⟩
         refine ⟨_,rfl,?_⟩
         have n0_ := QO (Kd.R_below (by (with_reducible repeat (first | apply Kd.R_alloc | apply Kd.R_drewN | apply Kd.R_drew)); exact HO185.out) hb)
         have n1_ := QO (blk_below (g := gb174) (o := _) (by (with_reducible repeat (first | refine blk_drewN ?_ _ | refine blk_drew ?_ | refine blk_alloc ?_ _)); exact BK174.out) hb)
         have n2_ := QO (below_step (by repeat (first | (with_reducible first | exact HB.out | apply QD | apply QB | apply QC | refine QJ ?_ GE174.out) | exact HB.out)) hb)
         clear HO185
         clear BK174
         clear HB
         revert n0_ n1_ n2_
         intro HO185 BK174 HB
         (try clear hb)
         (try clear hb2)
         (try clear hk)
         (try clear hi)
         refine hK.out _ _ (by (repeat' apply And.intro) <;> first | exact (QE BK174.out _).trans rfl) (fun hHeld => ?_)
         clear hK K
         refine norm_ (a' := ?_) ?_ ?_
         rotate_left
         ·show Act.put _ (some 34) _ = _
          simp only [Act.put,QL,QM,QN,QG,QH]
          rfl
         refine pure_ (i := 29) (N := some 2) (v := ?_) (a' := ?_) (ab 30 1073741823) rfl rfl (QI HT_.out (by kernel_rfl)) (fun _ _ _ h => h) (Or.inl ⟨by rfl,?_⟩) ?_ ?_
         rotate_left
         ·intro w'
          go_simp
          with_reducible rfl
         rotate_left
         ·simp only [Act.put,QL,QM,QN,QG,QH]
          rfl
         refine done_ (done_of HT_.out (by kernel_rfl)) ?_
         try go_wp2
         go_ret
         exact ⟨by first | rfl | (simp [errW_none,errW_some] <;> rfl) | (simp [*,errW_none,errW_some] <;> rfl),by repeat (first | (with_reducible first | exact HB.out | apply QD | apply QB | apply QC | refine QJ ?_ GE174.out) | exact HB.out)⟩
        ·rw [if_neg c17] at H
         exact absurd H (by simp)
       ·rw [if_neg c15] at H
        exact absurd H (by simp)
      ·rw [if_neg c13] at H
       exact absurd H (by simp)
     ·rw [if_neg c11] at H
      exact absurd H (by simp)
    ·rw [if_neg c9] at H
     exact absurd H (by simp)
   ·rw [if_neg c7] at H
    exact absurd H (by simp)
  ·rw [if_neg c5] at H
   exact absurd H (by simp)
 ·replace c3 := Bool.eq_false_iff.mpr c3
  subst c3
  rw [if_neg (show ¬ (false = true) by decide)] at H
  obtain rfl := Option.some.inj H
  go_enter Tryd.func9,Tryd.ntmps9
  go_wp2_with (first | ((with_reducible refine gate_dst (N := 1) rfl ?_); refine box_event ?hg (N := 1) ?hd (cs := #[.int .i64 a0_0,.int .i64 a0_1,.bool a0_2,.bool a0_3,.slice A0_4 l0_4.length c0_4,.slice A0_5 l0_5.length c0_5,.int .i64 a0_6,.int .i64 a0_7]) (t := 26) ?hr ?_; (case hd => rfl); (case hg => rfl); (case hr => first | (go_simp; done) | (go_simp; rfl)); intro gb174 hg w34 hbox hb; have n0_ := QO (below_step (by repeat (first | (with_reducible first | exact HB.out | apply QD | apply QB | apply QC) | exact HB.out)) hb); have n1_ := QO (hbox); have n2_ := QO ((by rw [hg]; exact (below_size (by repeat (first | (with_reducible first | exact HB.out | apply QD | apply QB | apply QC) | exact HB.out))) : w.heap.size ≤ gb174)); have n3_ := QO ((by rw [hg]; exact (below_size (by repeat (first | (with_reducible first | exact HB.out | apply QD | apply QB | apply QC) | exact HB.out))) : w.heap.size ≤ gb174)); clear HB; revert n0_ n1_ n2_ n3_; intro HB BK174 GW174 GE174; clear hb hbox hg; have hcz35_0 : w34.cell? ⟨gb174,0,none⟩ = some (.int .i64 a0_0) := (QE BK174.out 0).trans rfl; have hcz35_1 : w34.cell? ⟨gb174,1,none⟩ = some (.int .i64 a0_1) := (QE BK174.out 1).trans rfl; have hcz35_2 : w34.cell? ⟨gb174,2,none⟩ = some (.bool a0_2) := (QE BK174.out 2).trans rfl; have hcz35_3 : w34.cell? ⟨gb174,3,none⟩ = some (.bool a0_3) := (QE BK174.out 3).trans rfl; have hcz35_4 : w34.cell? ⟨gb174,4,none⟩ = some (.slice A0_4 l0_4.length c0_4) := (QE BK174.out 4).trans rfl; have hcz35_5 : w34.cell? ⟨gb174,5,none⟩ = some (.slice A0_5 l0_5.length c0_5) := (QE BK174.out 5).trans rfl; have hcz35_6 : w34.cell? ⟨gb174,6,none⟩ = some (.int .i64 a0_6) := (QE BK174.out 6).trans rfl; have hcz35_7 : w34.cell? ⟨gb174,7,none⟩ = some (.int .i64 a0_7) := (QE BK174.out 7).trans rfl; have hfz35_0 := QF BK174.out 0; have hfz35_1 := QF BK174.out 1; have hfz35_2 := QF BK174.out 2; have hfz35_3 := QF BK174.out 3; have hfz35_4 := QF BK174.out 4; have hfz35_5 := QF BK174.out 5; have hfz35_6 := QF BK174.out 6; have hfz35_7 := QF BK174.out 7) | ((with_reducible refine QK (f := 10) rfl ?_); refine goesL_ (some 4) rfl rfl Tryd.func10 (by kernel_rfl) rfl #[.agg #[.int .i64 a0_0,.int .i64 a0_1,.bool a0_2,.bool a0_3,.slice A0_4 l0_4.length c0_4,.slice A0_5 l0_5.length c0_5,.int .i64 a0_6,.int .i64 a0_7]] rfl (by (try simp only [List.map_toArray,List.map_cons,List.map_nil]); first | done | rfl | (simp only [List.length_drop,List.length_take]; rfl)) ?_; (with_reducible refine (impl_IsRules.calls k a0_0 a0_1 a0_2 a0_3 _ _ l0_4 _ _ l0_5 a0_6 a0_7 false _ ?side1 ?side2 ?side3 ?side4 A2.out).mono ?_); (case side1 => repeat (first | exact (Kd.C_below HR0_4.out HB.out) | (with_reducible refine Kd.C_alloc ?_ _) | (with_reducible refine Kd.C_drewN ?_ _) | (with_reducible refine Kd.C_drew ?_))); (case side2 => exact HC0_4.out); (case side3 => repeat (first | exact (Kd.C_below HR0_5.out HB.out) | (with_reducible refine Kd.C_alloc ?_ _) | (with_reducible refine Kd.C_drewN ?_ _) | (with_reducible refine Kd.C_drew ?_))); (case side4 => exact HC0_5.out); rintro e w36 ⟨rfl,hb⟩; refine ⟨_,rfl,?_⟩; have n0_ := QO (blk_below (g := gb174) (o := _) (by (with_reducible repeat (first | refine blk_drewN ?_ _ | refine blk_drew ?_ | refine blk_alloc ?_ _)); exact BK174.out) hb); have n1_ := QO (below_step (by repeat (first | (with_reducible first | exact HB.out | apply QD | apply QB | apply QC | refine QJ ?_ GE174.out) | exact HB.out)) hb); clear BK174; clear HB; revert n0_ n1_; intro BK174 HB; (try clear hb); (try clear hb2); (try clear hk); (try clear hi)))
  go_ret
  exact ⟨by first | rfl | (simp [errW_none,errW_some] <;> rfl) | (simp [*,errW_none,errW_some] <;> rfl),by repeat (first | (with_reducible first | exact HB.out | apply QD | apply QB | apply QC | refine QJ ?_ GE174.out) | exact HB.out)⟩

/-! ### impl_SplitWords: function 15 -/
def impl_SplitWords.l0 : Nat → ByteArray → Int → List ByteArray → Int → Int → Int → Option (List ByteArray)
 | 0,_,_,_,_,_,_ => none
 | k + 1,x0,x1,x5,x6,x10,x11 => if x11 < x10 then (if 0 ≤ x11 then (if x11 < (x0.size : Int) then (if (bt x0 x11) = x1 then (if 0 ≤ x6 then (if x6 ≤ x11 then (if x11 ≤ (x0.size : Int) then (if x5.length < 8796093022208 then (impl_SplitWords.l0 k x0 x1 (x5 ++ [x0.extract (x6 : Int).toNat (x11 : Int).toNat]) (wrap64 (x11 + 1)) x10 (wrap64 (x11 + 1))) else (none)) else (none)) else (none)) else (none)) else (impl_SplitWords.l0 k x0 x1 x5 x6 x10 (wrap64 (x11 + 1)))) else (none)) else (none)) else (if 0 ≤ x6 then (if x6 ≤ (x0.size : Int) then (if x5.length < 8796093022208 then (some (x5 ++ [x0.extract (x6 : Int).toNat x0.size])) else (none)) else (none)) else (none))
def impl_SplitWords.f (k : Nat) (a0 : ByteArray) (a1 : Int) : Option (List ByteArray) := impl_SplitWords.l0 k a0 a1 (([] : List ByteArray)) 0 (a0.size : Int) 0
theorem impl_SplitWords.mono_l : ∀ k, (∀ y0 y1 y2 y3 y4 y5, LeO (impl_SplitWords.l0 k y0 y1 y2 y3 y4 y5) (impl_SplitWords.l0 (k + 1) y0 y1 y2 y3 y4 y5))
 | 0 => fun _ _ _ _ _ _ r h => by simp [impl_SplitWords.l0] at h
 | k + 1 => by
  have ih0 := impl_SplitWords.mono_l k
  ·intro y0 y1 y2 y3 y4 y5
   unfold impl_SplitWords.l0
   repeat' first
   | (with_reducible exact ih0 _ _ _ _ _ _)
   | (with_reducible exact LeO.refl _)
   | (with_reducible exact LeO.none _)
   | (with_reducible refine LeO.ite ?_ ?_)
   | (with_reducible refine LeO.bind ?_ (fun _ => ?_))
   | exact ih0 _ _ _ _ _ _
   | exact LeO.none _
   | refine LeO.ite ?_ ?_
   | refine LeO.bind ?_ (fun _ => ?_)
theorem impl_SplitWords.mono : ∀ a0 a1 k, LeO (impl_SplitWords.f k a0 a1) (impl_SplitWords.f (k + 1) a0 a1) := by
 intro a0 a1 k
 have ih0 := impl_SplitWords.mono_l k
 unfold impl_SplitWords.f
 repeat' first
   | (with_reducible exact ih0 _ _ _ _ _ _)
   | (with_reducible exact LeO.refl _)
   | (with_reducible exact LeO.none _)
   | (with_reducible refine LeO.ite ?_ ?_)
   | (with_reducible refine LeO.bind ?_ (fun _ => ?_))
   | exact ih0 _ _ _ _ _ _
   | exact LeO.none _
   | refine LeO.ite ?_ ?_
   | refine LeO.bind ?_ (fun _ => ?_)
set_option maxHeartbeats 8000000 in
set_option maxRecDepth 100000 in
theorem impl_SplitWords.calls (k : Nat) (a0 : ByteArray) (a1 : Int) (r : List ByteArray) (w : World) (h : impl_SplitWords.f k a0 a1 = some r) :
  Calls Tryd.prog 15 #[.string a0,.int .u8 a1] w fun e w' => ∃ v0_ : Value,e = .returned (v0_) ∧ Kd.R Kd.string 9 w' w.heap.size (fun _ => True) v0_ r ∧ Below w.heap.size w w' := by
 have HB := QO (Below.refl w.heap.size w)
 have H : (impl_SplitWords.l0 k a0 a1 (([] : List ByteArray)) 0 (a0.size : Int) 0) = some r := h
 clear h
 obtain ⟨y187,hy187⟩ : ∃ y_ : List ByteArray,y_ = (([] : List ByteArray)) := ⟨_,rfl⟩
 replace H : (impl_SplitWords.l0 k a0 a1 y187 0 (a0.size : Int) 0) = some r := by first | (rw [hy187]; with_reducible exact H) | (have H2_ := (Option.bind_some _ _).symm.trans H; rw [hy187]; with_reducible exact H2_) | (have H2_ := (Option.bind_some _ _).symm.trans H; with_reducible exact H2_) | with_reducible exact H | (rw [hy187]; exact H) | exact H
 have Ny187 := QO hy187
 clear hy187
 have H' := QO H
 clear H
 go_enter Tryd.func15,Tryd.ntmps15
 go_wp2_with (first | ((with_reducible refine gate_dst (N := 8) rfl ?_); refine Kd.R_lit Kd.string _ 9 ?hg (N := 8) ?hd (xs := ([] : List ByteArray)) (inner := []) (ok := fun _ => True) (okp := fun _ => True) ?hr ?hp (fun _ hk => hk) trivial (Below.refl _ _) (Nat.le_refl _) (by simp) ?_; (case hd => rfl); (case hg => rfl); (case hr => first | (go_simp; done) | (go_simp; rfl)); (case hp => exact (Reps.none _ _)); intro v188 w3 ho4 hb hg_ hnew_; clear hg_ hnew_; (first | rw [← Ny187.out] at ho4 | (simp only [Int.reduceToNat] at ho4; rw [← Ny187.out] at ho4)); have n0_ := QO (Kd.R_lower ho4 (below_size (by repeat (first | (with_reducible first | exact HB.out | apply QD | apply QB | apply QC) | exact HB.out)))); have n1_ := QO (below_step (by repeat (first | (with_reducible first | exact HB.out | apply QD | apply QB | apply QC) | exact HB.out)) hb); clear HB; revert n0_ n1_; intro HO189 HB; clear hb ho4))
 go_loopg [5,6,11] k (fun kq v5 v6 v11 w' => ∃ (x5_1 : List ByteArray) (x6_1 : Int) (x11_1 : Int),v6 = .int .i64 x6_1 ∧ v11 = .int .i64 x11_1 ∧ Aside0 (impl_SplitWords.l0 kq a0 a1 x5_1 x6_1 (a0.size : Int) x11_1 = some r) ∧ Aside0 (kq ≤ k) ∧ Aside0 (Kd.R Kd.string 9 w' w.heap.size (fun _ => True) v5 x5_1) ∧ Aside0 (Below w.heap.size w w'))
 case atStart => exact ⟨(y187),(0),(0),(by first | rfl | (simp; done) | (simp [*]; done)),(by first | rfl | (simp; done) | (simp [*]; done)),H',⟨Nat.le_refl _⟩,⟨by (with_reducible repeat (first | apply Kd.R_alloc | apply Kd.R_drewN | apply Kd.R_drew)); exact HO189.out⟩,⟨by repeat (first | (with_reducible first | exact HB.out | apply QD | apply QB | apply QC) | exact HB.out)⟩⟩
 case round =>
  clear H'
  try clear c1
  try clear p2
  obtain ⟨x5_1,x6_1,x11_1,rfl,rfl,HA,HK1,HO_5,HB⟩ := hrel
  cases gk with
  | zero => exact absurd HA.out (by simp [impl_SplitWords.l0])
  | succ k1 =>
   have H := HA.out
   clear HA
   simp only [impl_SplitWords.l0] at H
   by_cases c5 : x11_1 < (a0.size : Int)
   ·rw [if_pos c5] at H
    have c5b0 : decide (x11_1 < (a0.size : Int)) = true := decide_eq_true c5
    clear c5
    by_cases c6 : 0 ≤ x11_1
    ·rw [if_pos c6] at H
     have c6b0 : decide (0 ≤ x11_1) = true := decide_eq_true c6
     clear c6
     by_cases c7 : x11_1 < (a0.size : Int)
     ·rw [if_pos c7] at H
      have c7b0 : decide (x11_1 < (a0.size : Int)) = true := decide_eq_true c7
      clear c7
      by_cases c9 : (bt a0 x11_1) = a1
      ·rw [if_pos c9] at H
       have c9b0 : ((bt a0 x11_1) == a1) = true := beq_iff_eq.mpr c9
       have c9b1 : ((bt a0 x11_1) != a1) = false := bne_eq_false_iff_eq.mpr c9
       clear c9
       by_cases c10 : 0 ≤ x6_1
       ·rw [if_pos c10] at H
        have c10b0 := eq_true c10
        have c10b1 : decide (0 ≤ x6_1) = true := decide_eq_true c10
        clear c10
        by_cases c11 : x6_1 ≤ x11_1
        ·rw [if_pos c11] at H
         have c11b0 := eq_true c11
         have c11b1 : decide (x6_1 ≤ x11_1) = true := decide_eq_true c11
         clear c11
         by_cases c12 : x11_1 ≤ (a0.size : Int)
         ·rw [if_pos c12] at H
          have c12b0 := eq_true c12
          have c12b1 : decide (x11_1 ≤ (a0.size : Int)) = true := decide_eq_true c12
          clear c12
          by_cases c13 : x5_1.length < 8796093022208
          ·rw [if_pos c13] at H
           have LMc13 := QO c13
           clear c13
           obtain ⟨y190,hy190⟩ : ∃ y_ : List ByteArray,y_ = (x5_1 ++ [a0.extract (x6_1 : Int).toNat (x11_1 : Int).toNat]) := ⟨_,rfl⟩
           replace H : (impl_SplitWords.l0 k1 a0 a1 y190 (wrap64 (x11_1 + 1)) (a0.size : Int) (wrap64 (x11_1 + 1))) = some r := by first | (rw [hy190]; with_reducible exact H) | (have H2_ := (Option.bind_some _ _).symm.trans H; rw [hy190]; with_reducible exact H2_) | (have H2_ := (Option.bind_some _ _).symm.trans H; with_reducible exact H2_) | with_reducible exact H | (rw [hy190]; exact H) | exact H
           have Ny190 := QO hy190
           clear hy190
           have H' := QO H
           clear H
           have p8 : 0 ≤ (x11_1 : Int) := of_decide_eq_true (by first | (with_reducible assumption) | assumption)
           have q8 : x11_1 < (a0.size : Int) := of_decide_eq_true (by first | (with_reducible assumption) | assumption)
           have hx8 := bt_at a0 x11_1
           replace p8 := eq_true p8
           replace q8 := eq_true q8
           go_wp2_with (first | ((with_reducible refine gate_builtin (b := .append) (xs := #[.tmp 19,.tmp 24]) rfl ?_); at_builtin; refine Kd.R_append Kd.string (w0 := w) w.heap.size rfl (.tmp 19) (.tmp 24) 36 9 (.string ⟨#[]⟩) 16 rfl Tryd.underlying36 info9 rfl (by decide) (by omega) u5 x5_1 (a0.extract (x6_1 : Int).toNat (x11_1 : Int).toNat) [.string (a0.extract (x6_1 : Int).toNat (x11_1 : Int).toNat)] (fun _ => True) (fun _ => False) rfl rfl ?aP (fun _ hk => hk.elim) ?aF ?aO ?aB ?aS ?aL ?_; (case aP => exact rfl); (case aB => exact (by repeat (first | (with_reducible first | exact HB.out | apply QD | apply QB | apply QC) | exact HB.out))); (case aF => exact (fun _ _ => trivial)); (case aO => exact (by (with_reducible repeat (first | apply Kd.R_alloc | apply Kd.R_drewN | apply Kd.R_drew)); exact HO_5.out)); (case aS => exact (below_size (by repeat (first | (with_reducible first | exact HB.out | apply QD | apply QB | apply QC) | exact HB.out)))); (case aL => have := LMc13.out; omega); intro v191 w14 ho hb hg hat; rw [← Ny190.out] at ho; have n0_ := QO (hb); have n1_ := QO (ho); clear HB; clear HO_5; revert n0_ n1_; intro HB HO192; clear ho hb hg hat))
           go_roundg k1
           case measure => have := HK1.out; omega
           case rel => exact ⟨(y190),(wrap64 (x11_1 + 1)),(wrap64 (x11_1 + 1)),(by first | rfl | (simp; done) | (simp [*]; done)),(by first | rfl | (simp; done) | (simp [*]; done)),H',⟨by have := HK1.out; omega⟩,⟨by (with_reducible repeat (first | apply Kd.R_alloc | apply Kd.R_drewN | apply Kd.R_drew)); exact HO192.out⟩,⟨by repeat (first | (with_reducible first | exact HB.out | apply QD | apply QB | apply QC) | exact HB.out)⟩⟩
          ·rw [if_neg c13] at H
           exact absurd H (by simp)
         ·rw [if_neg c12] at H
          exact absurd H (by simp)
        ·rw [if_neg c11] at H
         exact absurd H (by simp)
       ·rw [if_neg c10] at H
        exact absurd H (by simp)
      ·rw [if_neg c9] at H
       have c9b0 : ((bt a0 x11_1) == a1) = false := beq_eq_false_iff_ne.mpr c9
       have c9b1 : ((bt a0 x11_1) != a1) = true := bne_iff_ne.mpr c9
       have H' := QO H
       clear H
       have p8 : 0 ≤ (x11_1 : Int) := of_decide_eq_true (by first | (with_reducible assumption) | assumption)
       have q8 : x11_1 < (a0.size : Int) := of_decide_eq_true (by first | (with_reducible assumption) | assumption)
       have hx8 := bt_at a0 x11_1
       replace p8 := eq_true p8
       replace q8 := eq_true q8
       go_wp2
       go_roundg k1
       case measure => have := HK1.out; omega
       case rel => exact ⟨(x5_1),(x6_1),(wrap64 (x11_1 + 1)),(by first | rfl | (simp; done) | (simp [*]; done)),(by first | rfl | (simp; done) | (simp [*]; done)),H',⟨by have := HK1.out; omega⟩,⟨by (with_reducible repeat (first | apply Kd.R_alloc | apply Kd.R_drewN | apply Kd.R_drew)); exact HO_5.out⟩,⟨by repeat (first | (with_reducible first | exact HB.out | apply QD | apply QB | apply QC) | exact HB.out)⟩⟩
     ·rw [if_neg c7] at H
      exact absurd H (by simp)
    ·rw [if_neg c6] at H
     exact absurd H (by simp)
   ·rw [if_neg c5] at H
    have c5b0 : decide (x11_1 < (a0.size : Int)) = false := decide_eq_false c5
    clear c5
    by_cases c10 : 0 ≤ x6_1
    ·rw [if_pos c10] at H
     have c10b0 := eq_true c10
     have c10b1 : decide (0 ≤ x6_1) = true := decide_eq_true c10
     clear c10
     by_cases c16 : x6_1 ≤ (a0.size : Int)
     ·rw [if_pos c16] at H
      have c16b0 := eq_true c16
      have c16b1 : decide (x6_1 ≤ (a0.size : Int)) = true := decide_eq_true c16
      clear c16
      by_cases c13 : x5_1.length < 8796093022208
      ·rw [if_pos c13] at H
       have LMc13 := QO c13
       clear c13
       obtain ⟨y193,hy193⟩ : ∃ y_ : List ByteArray,y_ = (x5_1 ++ [a0.extract (x6_1 : Int).toNat a0.size]) := ⟨_,rfl⟩
       replace H : (some y193) = some r := by first | (rw [hy193]; with_reducible exact H) | (have H2_ := (Option.bind_some _ _).symm.trans H; rw [hy193]; with_reducible exact H2_) | (have H2_ := (Option.bind_some _ _).symm.trans H; with_reducible exact H2_) | with_reducible exact H | (rw [hy193]; exact H) | exact H
       have Ny193 := QO hy193
       clear hy193
       obtain rfl := Option.some.inj H
       go_wp2_with (first | ((with_reducible refine gate_builtin (b := .append) (xs := #[.tmp 29,.tmp 33]) rfl ?_); at_builtin; refine Kd.R_append Kd.string (w0 := w) w.heap.size rfl (.tmp 29) (.tmp 33) 36 9 (.string ⟨#[]⟩) 16 rfl Tryd.underlying36 info9 rfl (by decide) (by omega) u5 x5_1 (a0.extract (x6_1 : Int).toNat a0.size) [.string (a0.extract (x6_1 : Int).toNat a0.size)] (fun _ => True) (fun _ => False) rfl rfl ?aP (fun _ hk => hk.elim) ?aF ?aO ?aB ?aS ?aL ?_; (case aP => exact rfl); (case aB => exact (by repeat (first | (with_reducible first | exact HB.out | apply QD | apply QB | apply QC) | exact HB.out))); (case aF => exact (fun _ _ => trivial)); (case aO => exact (by (with_reducible repeat (first | apply Kd.R_alloc | apply Kd.R_drewN | apply Kd.R_drew)); exact HO_5.out)); (case aS => exact (below_size (by repeat (first | (with_reducible first | exact HB.out | apply QD | apply QB | apply QC) | exact HB.out)))); (case aL => have := LMc13.out; omega); intro v194 w18 ho hb hg hat; rw [← Ny193.out] at ho; have n0_ := QO (hb); have n1_ := QO (ho); clear HB; clear HO_5; revert n0_ n1_; intro HB HO195; clear ho hb hg hat))
       go_ret
       exact ⟨_,by first | rfl | (simp [errW_none,errW_some] <;> rfl) | (simp [*,errW_none,errW_some] <;> rfl),by (with_reducible repeat (first | apply Kd.R_alloc | apply Kd.R_drewN | apply Kd.R_drew)); exact HO195.out,by repeat (first | (with_reducible first | exact HB.out | apply QD | apply QB | apply QC) | exact HB.out)⟩
      ·rw [if_neg c13] at H
       exact absurd H (by simp)
     ·rw [if_neg c16] at H
      exact absurd H (by simp)
    ·rw [if_neg c10] at H
     exact absurd H (by simp)

/-! ### stringslite_HasPrefix: function 82 -/
def stringslite_HasPrefix.f (a0 : ByteArray) (a1 : ByteArray) : Option (Bool) := if (a0.size : Int) ≥ (a1.size : Int) then (if 0 ≤ (a1.size : Int) then (if (a1.size : Int) ≤ (a0.size : Int) then (some ((a0.extract 0 ((a1.size : Int) : Int).toNat).toList == a1.toList)) else (none)) else (none)) else (some false)
set_option maxHeartbeats 8000000 in
set_option maxRecDepth 100000 in
theorem stringslite_HasPrefix.calls (a0 : ByteArray) (a1 : ByteArray) (r : Bool) (w : World) (h : stringslite_HasPrefix.f a0 a1 = some r) :
  Calls Tryd.prog 82 #[.string a0,.string a1] w fun e w' => e = .returned (.bool r) ∧ Drawn0 w w' := by
 have H : (if (a0.size : Int) ≥ (a1.size : Int) then (if 0 ≤ (a1.size : Int) then (if (a1.size : Int) ≤ (a0.size : Int) then (some ((a0.extract 0 ((a1.size : Int) : Int).toNat).toList == a1.toList)) else (none)) else (none)) else (some false)) = some r := h
 clear h
 by_cases c3 : (a0.size : Int) ≥ (a1.size : Int)
 ·rw [if_pos c3] at H
  have c3b0 : decide ((a1.size : Int) ≤ (a0.size : Int)) = true := decide_eq_true c3
  have c3b1 : decide (a1.size ≤ a0.size) = true := decide_eq_true (Int.ofNat_le.mp c3)
  clear c3
  by_cases c4 : 0 ≤ (a1.size : Int)
  ·rw [if_pos c4] at H
   have c4b0 := eq_true c4
   have c4b1 : decide (0 ≤ (a1.size : Int)) = true := decide_eq_true c4
   clear c4
   by_cases c5 : (a1.size : Int) ≤ (a0.size : Int)
   ·rw [if_pos c5] at H
    have c5b0 := eq_true c5
    have c5b1 : decide ((a1.size : Int) ≤ (a0.size : Int)) = true := decide_eq_true c5
    clear c5
    obtain rfl := Option.some.inj H
    go_enter Tryd.func82,Tryd.ntmps82
    go_wp2
    go_ret
    exact ⟨by first | rfl | (simp; done) | (simp [*]; done),by repeat (first | exact Drawn0.refl _ | apply Drawn0.step)⟩
   ·rw [if_neg c5] at H
    exact absurd H (by simp)
  ·rw [if_neg c4] at H
   exact absurd H (by simp)
 ·rw [if_neg c3] at H
  have c3b0 : decide ((a1.size : Int) ≤ (a0.size : Int)) = false := decide_eq_false c3
  have c3b1 : decide (a1.size ≤ a0.size) = false := decide_eq_false (fun h => c3 (Int.ofNat_le.mpr h))
  clear c3
  obtain rfl := Option.some.inj H
  go_enter Tryd.func82,Tryd.ntmps82
  go_wp2
  go_ret
  exact ⟨by first | rfl | (simp; done) | (simp [*]; done),by repeat (first | exact Drawn0.refl _ | apply Drawn0.step)⟩

/-! ### stringslite_CutPrefix: function 65 -/
def stringslite_CutPrefix.f (a0 : ByteArray) (a1 : ByteArray) : Option (ByteArray × Bool) := (stringslite_HasPrefix.f a0 a1).bind fun t196 => (if t196 = true then (if 0 ≤ (a1.size : Int) then (if (a1.size : Int) ≤ (a0.size : Int) then (some (a0.extract ((a1.size : Int) : Int).toNat a0.size, true)) else (none)) else (none)) else (some (a0, false)))
set_option maxHeartbeats 8000000 in
set_option maxRecDepth 100000 in
theorem stringslite_CutPrefix.calls (a0 : ByteArray) (a1 : ByteArray) (r1 : ByteArray) (r2 : Bool) (w : World) (h : stringslite_CutPrefix.f a0 a1 = some (r1, r2)) :
  Calls Tryd.prog 65 #[.string a0,.string a1] w fun e w' => e = .returned (.tuple #[.string r1,.bool r2]) ∧ Drawn0 w w' := by
 have H : ((stringslite_HasPrefix.f a0 a1).bind fun t196 => (if t196 = true then (if 0 ≤ (a1.size : Int) then (if (a1.size : Int) ≤ (a0.size : Int) then (some (a0.extract ((a1.size : Int) : Int).toNat a0.size,true)) else (none)) else (none)) else (some (a0,false)))) = some (r1,r2) := h
 clear h
 replace H := QP.mp H
 obtain ⟨t196,A30,H⟩ := H
 replace H : (if t196 = true then (if 0 ≤ (a1.size : Int) then (if (a1.size : Int) ≤ (a0.size : Int) then (some (a0.extract ((a1.size : Int) : Int).toNat a0.size,true)) else (none)) else (none)) else (some (a0,false))) = some (r1,r2) := H
 have A3 := QO A30
 clear A30
 by_cases c4 : t196 = true
 ·subst c4
  have H1 : (if 0 ≤ (a1.size : Int) then (if (a1.size : Int) ≤ (a0.size : Int) then (some (a0.extract ((a1.size : Int) : Int).toNat a0.size,true)) else (none)) else (none)) = some (r1,r2) := by rw [if_pos rfl] at H; exact H
  clear H
  have H := H1
  clear H1
  by_cases c5 : 0 ≤ (a1.size : Int)
  ·rw [if_pos c5] at H
   have c5b0 := eq_true c5
   have c5b1 : decide (0 ≤ (a1.size : Int)) = true := decide_eq_true c5
   clear c5
   by_cases c6 : (a1.size : Int) ≤ (a0.size : Int)
   ·rw [if_pos c6] at H
    have c6b0 := eq_true c6
    have c6b1 : decide ((a1.size : Int) ≤ (a0.size : Int)) = true := decide_eq_true c6
    clear c6
    simp only [Option.some.injEq,Prod.mk.injEq] at H
    obtain ⟨rfl,rfl⟩ := H
    go_enter Tryd.func65,Tryd.ntmps65
    go_wp2_with (first | ((with_reducible refine QK (f := 82) rfl ?_); refine goesL_ (some 8) rfl rfl Tryd.func82 (by kernel_rfl) rfl #[.string a0,.string a1] rfl (by (try simp only [List.map_toArray,List.map_cons,List.map_nil]); first | done | rfl | (simp only [List.length_drop,List.length_take]; rfl)) ?_; (with_reducible refine (stringslite_HasPrefix.calls a0 a1 true _ A3.out).mono ?_); rintro e w' ⟨rfl,⟨nd,rfl⟩⟩; refine ⟨_,rfl,?_⟩))
    go_ret2
    exact ⟨by first | rfl | (simp; done) | (simp [*]; done),by repeat (first | exact Drawn0.refl _ | apply Drawn0.step)⟩
   ·rw [if_neg c6] at H
    exact absurd H (by simp)
  ·rw [if_neg c5] at H
   exact absurd H (by simp)
 ·replace c4 := Bool.eq_false_iff.mpr c4
  subst c4
  have H1 : (some (a0,false)) = some (r1,r2) := by rw [if_neg (show ¬ (false = true) by decide)] at H; exact H
  clear H
  have H := H1
  clear H1
  simp only [Option.some.injEq,Prod.mk.injEq] at H
  obtain ⟨rfl,rfl⟩ := H
  go_enter Tryd.func65,Tryd.ntmps65
  go_wp2_with (first | ((with_reducible refine QK (f := 82) rfl ?_); refine goesL_ (some 8) rfl rfl Tryd.func82 (by kernel_rfl) rfl #[.string a0,.string a1] rfl (by (try simp only [List.map_toArray,List.map_cons,List.map_nil]); first | done | rfl | (simp only [List.length_drop,List.length_take]; rfl)) ?_; (with_reducible refine (stringslite_HasPrefix.calls a0 a1 false _ A3.out).mono ?_); rintro e w' ⟨rfl,⟨nd,rfl⟩⟩; refine ⟨_,rfl,?_⟩))
  go_ret2
  exact ⟨by first | rfl | (simp; done) | (simp [*]; done),by repeat (first | exact Drawn0.refl _ | apply Drawn0.step)⟩

/-! ### strings_CutPrefix: function 39 -/
def strings_CutPrefix.f (a0 : ByteArray) (a1 : ByteArray) : Option (ByteArray × Bool) := (stringslite_CutPrefix.f a0 a1).bind fun bt197 => (some (bt197.1, bt197.2))
set_option maxHeartbeats 8000000 in
set_option maxRecDepth 100000 in
theorem strings_CutPrefix.calls (a0 : ByteArray) (a1 : ByteArray) (r1 : ByteArray) (r2 : Bool) (w : World) (h : strings_CutPrefix.f a0 a1 = some (r1, r2)) :
  Calls Tryd.prog 39 #[.string a0,.string a1] w fun e w' => e = .returned (.tuple #[.string r1,.bool r2]) ∧ Drawn0 w w' := by
 have H : ((stringslite_CutPrefix.f a0 a1).bind fun bt197 => (some (bt197.1,bt197.2))) = some (r1,r2) := h
 clear h
 replace H := QP.mp H
 obtain ⟨⟨t197,t198⟩,A30,H⟩ := H
 replace H : (some (t197,t198)) = some (r1,r2) := H
 have A3 := QO A30
 clear A30
 simp only [Option.some.injEq,Prod.mk.injEq] at H
 obtain ⟨rfl,rfl⟩ := H
 go_enter Tryd.func39,Tryd.ntmps39
 go_wp2_with (first | ((with_reducible refine QK (f := 65) rfl ?_); refine goesL_ (some 8) rfl rfl Tryd.func65 (by kernel_rfl) rfl #[.string a0,.string a1] rfl (by (try simp only [List.map_toArray,List.map_cons,List.map_nil]); first | done | rfl | (simp only [List.length_drop,List.length_take]; rfl)) ?_; (with_reducible refine (stringslite_CutPrefix.calls a0 a1 t197 t198 _ A3.out).mono ?_); rintro e w' ⟨rfl,⟨nd,rfl⟩⟩; refine ⟨_,rfl,?_⟩))
 go_ret2
 exact ⟨by first | rfl | (simp; done) | (simp [*]; done),by repeat (first | exact Drawn0.refl _ | apply Drawn0.step)⟩

/-! ### impl_ValueAfter: function 17 -/
def impl_ValueAfter.f (a0 : ByteArray) (a1 : ByteArray) : Option (ByteArray × Bool) := if a1.size + 1 ≤ 9223372036854775807 then ((strings_CutPrefix.f a0 (a1 ++ (⟨#[61]⟩ : ByteArray))).bind fun bt199 => (if bt199.2 = true then (some (bt199.1, true)) else (some ((⟨#[]⟩ : ByteArray), false)))) else (none)
set_option maxHeartbeats 8000000 in
set_option maxRecDepth 100000 in
theorem impl_ValueAfter.calls (a0 : ByteArray) (a1 : ByteArray) (r1 : ByteArray) (r2 : Bool) (w : World) (h : impl_ValueAfter.f a0 a1 = some (r1, r2)) :
  Calls Tryd.prog 17 #[.string a0,.string a1] w fun e w' => e = .returned (.tuple #[.string r1,.bool r2]) ∧ Drawn0 w w' := by
 have H : (if a1.size + 1 ≤ 9223372036854775807 then ((strings_CutPrefix.f a0 (a1 ++ (⟨#[61]⟩ : ByteArray))).bind fun bt199 => (if bt199.2 = true then (some (bt199.1,true)) else (some ((⟨#[]⟩ : ByteArray),false)))) else (none)) = some (r1,r2) := h
 clear h
 by_cases c3 : a1.size + 1 ≤ 9223372036854775807
 ·rw [if_pos c3] at H
  have c3b0 := eq_true c3
  have c3b1 : decide (a1.size + 1 ≤ 9223372036854775807) = true := decide_eq_true c3
  try have c3b2 : (9223372036854775807 < a1.size + 1) = False := eq_false (Nat.not_lt.2 c3)
  replace H := QP.mp H
  obtain ⟨⟨t199,t200⟩,A40,H⟩ := H
  replace H : (if t200 = true then (some (t199,true)) else (some ((⟨#[]⟩ : ByteArray),false))) = some (r1,r2) := H
  have A4 := QO A40
  clear A40
  by_cases c5 : t200 = true
  ·subst c5
   have H1 : (some (t199,true)) = some (r1,r2) := by rw [if_pos rfl] at H; exact H
   clear H
   have H := H1
   clear H1
   simp only [Option.some.injEq,Prod.mk.injEq] at H
   obtain ⟨rfl,rfl⟩ := H
   go_enter Tryd.func17,Tryd.ntmps17
   go_wp2_with (first | ((with_reducible refine QK (f := 39) rfl ?_); refine goesL_ (some 12) rfl rfl Tryd.func39 (by kernel_rfl) rfl #[.string a0,.string (a1 ++ (⟨#[61]⟩ : ByteArray))] rfl (by (try simp only [List.map_toArray,List.map_cons,List.map_nil]); first | done | rfl | (simp only [List.length_drop,List.length_take]; rfl)) ?_; (with_reducible refine (strings_CutPrefix.calls a0 (a1 ++ (⟨#[61]⟩ : ByteArray)) t199 true _ A4.out).mono ?_); rintro e w' ⟨rfl,⟨nd,rfl⟩⟩; refine ⟨_,rfl,?_⟩))
   go_ret2
   exact ⟨by first | rfl | (simp; done) | (simp [*]; done),by repeat (first | exact Drawn0.refl _ | apply Drawn0.step)⟩
  ·replace c5 := Bool.eq_false_iff.mpr c5
   subst c5
   have H1 : (some ((⟨#[]⟩ : ByteArray),false)) = some (r1,r2) := by rw [if_neg (show ¬ (false = true) by decide)] at H; exact H
   clear H
   have H := H1
   clear H1
   simp only [Option.some.injEq,Prod.mk.injEq] at H
   obtain ⟨rfl,rfl⟩ := H
   go_enter Tryd.func17,Tryd.ntmps17
   go_wp2_with (first | ((with_reducible refine QK (f := 39) rfl ?_); refine goesL_ (some 12) rfl rfl Tryd.func39 (by kernel_rfl) rfl #[.string a0,.string (a1 ++ (⟨#[61]⟩ : ByteArray))] rfl (by (try simp only [List.map_toArray,List.map_cons,List.map_nil]); first | done | rfl | (simp only [List.length_drop,List.length_take]; rfl)) ?_; (with_reducible refine (strings_CutPrefix.calls a0 (a1 ++ (⟨#[61]⟩ : ByteArray)) t199 false _ A4.out).mono ?_); rintro e w' ⟨rfl,⟨nd,rfl⟩⟩; refine ⟨_,rfl,?_⟩))
   go_ret2
   exact ⟨by first | rfl | (simp; done) | (simp [*]; done),by repeat (first | exact Drawn0.refl _ | apply Drawn0.step)⟩
 ·rw [if_neg c3] at H
  exact absurd H (by simp)

end Go.Proofs.YtdfmobcocaijpaaDoor.QFnExactParseRules
