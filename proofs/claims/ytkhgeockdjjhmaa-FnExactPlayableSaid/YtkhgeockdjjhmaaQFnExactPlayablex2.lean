/- What a call of each Go function that FnExactPlayable reaches comes to, as a Lean function: texts of the kit's print, turned by wip/remake.py. No condition beyond what each names. -/
import Derived.Test.YtkhgeockdjjhmaaQFnExactPlayablex1
namespace Go.Proofs.Ytkhgeockdjjhmaa.QFnExactPlayable
open Go.RowKit Go.Proofs.YtkhgeockdjjhmaaW.PrintWords Go.Proofs.YtkhgeockdjjhmaaW.PrintLast Go.Proofs.YtkhgeockdjjhmaaW.PrintMore
open Go.Proofs.YtkhgeockdjjhmaaW.PrintWords renaming blk_cell → QB, blk_frozen → QC, pw_below_drewN → QD, below_drew1 → QE, below_alloc → QF, below_set → QG, gate_callee → QH
open Go.Proofs.YtkhgeockdjjhmaaW.PrintWords.Kd renaming C_alloc → QI, C_drewN → QJ
open Go.Proofs.YtkhgeockdjjhmaaW.PrintWords.Aside0 renaming mk → QK
open Option renaming bind_eq_some_iff → QL
attribute [local go_sem] max2_int min2_int max_two min_two max_three min_three max_four min_four   -- for this text's walks alone
set_option linter.unusedVariables false
set_option linter.unusedSimpArgs false

/-! ### spec_IsPattern: function 167 -/
mutual
def spec_IsPattern.l0 : Nat → List Int → Int → Int → Option (Bool)
 | 0, _, _, _ => none
 | k + 1, x0, x3, x4 => if x4 < (x0.length : Int) then (if 0 ≤ x4 then ((spec_l8Leaf.f (rd x0 x4)).bind fun t176 => (if t176 = true then (spec_IsPattern.l0 k x0 (wrap64 (x3 + 1)) (wrap64 (x4 + 1))) else (if (rd x0 x4) = (-1) then (spec_IsPattern.j1 k x0 x3 x4 (decide (x3 ≥ 1))) else (spec_IsPattern.j1 k x0 x3 x4 false)))) else (none)) else (if x3 = 1 then (some (decide ((x0.length : Int) ≤ 20))) else (some false))
def spec_IsPattern.j1 : Nat → List Int → Int → Int → Bool → Option (Bool)
 | 0, _, _, _, _ => none
 | k + 1, x0, x3, x4, x19 => if x19 = true then (spec_IsPattern.l0 k x0 x3 (wrap64 (x4 + 1))) else (if 0 ≤ x4 then (if x4 < (x0.length : Int) then (if (rd x0 x4) = (-2) then (if x3 ≥ 2 then (spec_IsPattern.l0 k x0 (wrap64 (x3 - 1)) (wrap64 (x4 + 1))) else (some false)) else (if (rd x0 x4) = (-3) then (if x3 ≥ 2 then (spec_IsPattern.l0 k x0 (wrap64 (x3 - 1)) (wrap64 (x4 + 1))) else (some false)) else (some false))) else (none)) else (none))
end
def spec_IsPattern.f (k : Nat) (l0 : List Int) : Option (Bool) := spec_IsPattern.l0 k l0 0 0
theorem spec_IsPattern.mono_l : ∀ k, (∀ y0 y1 y2, LeO (spec_IsPattern.l0 k y0 y1 y2) (spec_IsPattern.l0 (k + 1) y0 y1 y2)) ∧ (∀ y0 y1 y2 y3, LeO (spec_IsPattern.j1 k y0 y1 y2 y3) (spec_IsPattern.j1 (k + 1) y0 y1 y2 y3))
 | 0 => ⟨fun _ _ _ r h => by simp [spec_IsPattern.l0] at h, fun _ _ _ _ r h => by simp [spec_IsPattern.j1] at h⟩
 | k + 1 => by
  obtain ⟨ih0, ih1⟩ := spec_IsPattern.mono_l k
  refine ⟨?_, ?_⟩
  ·intro y0 y1 y2
   unfold spec_IsPattern.l0
   repeat' first
   | (with_reducible exact ih0 _ _ _)
   | (with_reducible exact ih1 _ _ _ _)
   | (with_reducible exact LeO.refl _)
   | (with_reducible exact LeO.none _)
   | (with_reducible refine LeO.ite ?_ ?_)
   | (with_reducible refine LeO.bind ?_ (fun _ => ?_))
   | exact ih0 _ _ _
   | exact ih1 _ _ _ _
   | exact LeO.none _
   | refine LeO.ite ?_ ?_
   | refine LeO.bind ?_ (fun _ => ?_)
  ·intro y0 y1 y2 y3
   unfold spec_IsPattern.j1
   repeat' first
   | (with_reducible exact ih0 _ _ _)
   | (with_reducible exact ih1 _ _ _ _)
   | (with_reducible exact LeO.refl _)
   | (with_reducible exact LeO.none _)
   | (with_reducible refine LeO.ite ?_ ?_)
   | (with_reducible refine LeO.bind ?_ (fun _ => ?_))
   | exact ih0 _ _ _
   | exact ih1 _ _ _ _
   | exact LeO.none _
   | refine LeO.ite ?_ ?_
   | refine LeO.bind ?_ (fun _ => ?_)
theorem spec_IsPattern.mono : ∀ a0 k, LeO (spec_IsPattern.f k a0) (spec_IsPattern.f (k + 1) a0) := by
 intro a0 k
 obtain ⟨ih0, ih1⟩ := spec_IsPattern.mono_l k
 unfold spec_IsPattern.f
 repeat' first
   | (with_reducible exact ih0 _ _ _)
   | (with_reducible exact ih1 _ _ _ _)
   | (with_reducible exact LeO.refl _)
   | (with_reducible exact LeO.none _)
   | (with_reducible refine LeO.ite ?_ ?_)
   | (with_reducible refine LeO.bind ?_ (fun _ => ?_))
   | exact ih0 _ _ _
   | exact ih1 _ _ _ _
   | exact LeO.none _
   | refine LeO.ite ?_ ?_
   | refine LeO.bind ?_ (fun _ => ?_)
set_option maxHeartbeats 8000000 in
set_option maxRecDepth 100000 in
theorem spec_IsPattern.calls (k : Nat) (A0 : Option Addr) (c0 : Nat) (l0 : List Int) (r : Bool) (w : World) (hr0 : Kd.C (Kd.int .i64) w A0 l0.length l0) (hc0 : l0.length ≤ c0) (h : spec_IsPattern.f k l0 = some r) :
  Calls Try.prog 167 #[.slice A0 l0.length c0] w fun e w' => e = .returned (.bool r) ∧ Drawn0 w w' := by
 have HR0 := QK hr0
 have HC0 := QK hc0
 clear hr0 hc0
 have H : (spec_IsPattern.l0 k l0 0 0) = some r := h
 clear h
 have H' := QK H
 clear H
 go_enter Try.func167, Try.ntmps167
 go_wp2
 go_loopg [3, 4] k (fun kq v3 v4 w' => ∃ (x3_1 : Int) (x4_1 : Int), v3 = .int .i64 x3_1 ∧ v4 = .int .i64 x4_1 ∧ Aside0 (spec_IsPattern.l0 kq l0 x3_1 x4_1 = some r) ∧ Aside0 (kq ≤ k) ∧ Drawn0 w w')
 case atStart => exact ⟨(0), (0), (by first | rfl | (simp; done) | (simp [*]; done)), (by first | rfl | (simp; done) | (simp [*]; done)), H', ⟨Nat.le_refl _⟩, by repeat (first | exact Drawn0.refl _ | apply Drawn0.step)⟩
 case round =>
  clear H'
  try clear c1
  obtain ⟨x3_1, x4_1, rfl, rfl, HA, HK1, ⟨m1, rfl⟩⟩ := hrel
  cases gk with
  | zero => exact absurd HA.out (by simp [spec_IsPattern.l0])
  | succ k1 =>
   have H := HA.out
   clear HA
   simp only [spec_IsPattern.l0] at H
   by_cases c2 : x4_1 < (l0.length : Int)
   ·rw [if_pos c2] at H
    have c2b0 : decide (x4_1 < (l0.length : Int)) = true := decide_eq_true c2
    clear c2
    by_cases c3 : 0 ≤ x4_1
    ·rw [if_pos c3] at H
     have c3b0 : decide (0 ≤ x4_1) = true := decide_eq_true c3
     clear c3
     replace H := QL.mp H
     obtain ⟨t176, A40, H⟩ := H
     have A4 := QK A40
     clear A40
     by_cases c5 : t176 = true
     ·subst c5
      rw [if_pos rfl] at H
      have H' := QK H
      clear H
      have p175 : 0 ≤ (x4_1 : Int) := of_decide_eq_true (by first | (with_reducible assumption) | assumption)
      have q175 : x4_1 < (l0.length : Int) := of_decide_eq_true (by first | (with_reducible assumption) | assumption)
      obtain ⟨ad175, e175, hx175_0⟩ := Kd.at_int HR0.out x4_1 p175 q175
      cases e175
      replace p175 := eq_true p175
      replace q175 := eq_true q175
      go_wp2_with (first | ((with_reducible refine QH (f := 175) rfl ?_); refine goesL_ (some 16) rfl rfl Try.func175 (by kernel_rfl) rfl #[.int .i64 (rd l0 x4_1)] rfl (by (try simp only [List.map_toArray, List.map_cons, List.map_nil]); first | done | rfl | (simp only [List.length_drop, List.length_take]; rfl)) ?_; (with_reducible refine (spec_l8Leaf.calls (rd l0 x4_1) true _ A4.out).mono ?_); rintro e w' ⟨rfl, ⟨nd, rfl⟩⟩; refine ⟨_, rfl, ?_⟩))
      go_roundg k1
      case measure => have := HK1.out; omega
      case rel => exact ⟨(wrap64 (x3_1 + 1)), (wrap64 (x4_1 + 1)), (by first | rfl | (simp; done) | (simp [*]; done)), (by first | rfl | (simp; done) | (simp [*]; done)), H', ⟨by have := HK1.out; omega⟩, by repeat (first | exact Drawn0.refl _ | apply Drawn0.step)⟩
     ·replace c5 := Bool.eq_false_iff.mpr c5
      subst c5
      rw [if_neg (show ¬ (false = true) by decide)] at H
      have HC6 := QK H
      clear H
      have p175 : 0 ≤ (x4_1 : Int) := of_decide_eq_true (by first | (with_reducible assumption) | assumption)
      have q175 : x4_1 < (l0.length : Int) := of_decide_eq_true (by first | (with_reducible assumption) | assumption)
      obtain ⟨ad175, e175, hx175_0⟩ := Kd.at_int HR0.out x4_1 p175 q175
      cases e175
      replace p175 := eq_true p175
      replace q175 := eq_true q175
      go_upto_region 8 with (first | ((with_reducible refine QH (f := 175) rfl ?_); refine goesL_ (some 16) rfl rfl Try.func175 (by kernel_rfl) rfl #[.int .i64 (rd l0 x4_1)] rfl (by (try simp only [List.map_toArray, List.map_cons, List.map_nil]); first | done | rfl | (simp only [List.length_drop, List.length_take]; rfl)) ?_; (with_reducible refine (spec_l8Leaf.calls (rd l0 x4_1) false _ A4.out).mono ?_); rintro e w' ⟨rfl, ⟨nd, rfl⟩⟩; refine ⟨_, rfl, ?_⟩))
      (try simp only [Act.put, List.setIfInBounds_toArray, List.set_cons_zero, List.set_cons_succ])
      go_cut [19] (fun v19 wc => ∃ (kq : Nat) (x19_5 : Bool), v19 = .bool x19_5 ∧ Aside0 (spec_IsPattern.j1 kq l0 x3_1 x4_1 x19_5 = some r) ∧ Aside0 (kq ≤ k1) ∧ Drawn0 w wc)
      case first =>
       have H := HC6.out
       clear HC6
       by_cases c7 : (rd l0 x4_1) = (-1)
       ·rw [if_pos c7] at H
        have c7b0 : ((rd l0 x4_1) == (-1)) = true := beq_iff_eq.mpr c7
        have c7b1 : ((rd l0 x4_1) != (-1)) = false := bne_eq_false_iff_eq.mpr c7
        clear c7
        (first | rw [c7b0] | (simp only [i64_w, i32_w]; rw [c7b0]) | skip)
        have H' := QK H
        clear H
        have p177 : 0 ≤ (x4_1 : Int) := of_decide_eq_true (by first | (with_reducible assumption) | assumption)
        have q177 : x4_1 < (l0.length : Int) := of_decide_eq_true (by first | (with_reducible assumption) | assumption)
        obtain ⟨ad177, e177, hx177_0⟩ := Kd.at_int HR0.out x4_1 p177 q177
        obtain rfl : ad175 = ad177 := (by injection e177)
        replace p177 := eq_true p177
        replace q177 := eq_true q177
        go_wp2
        go_meet
        case rel => exact ⟨_, (decide (x3_1 ≥ 1)), (by first | rfl | (simp; done) | (simp [*]; done)), H', ⟨by have := HK1.out; first | omega | exact Nat.le_refl _⟩, by repeat (first | exact Drawn0.refl _ | apply Drawn0.step)⟩
       ·rw [if_neg c7] at H
        have c7b0 : ((rd l0 x4_1) == (-1)) = false := beq_eq_false_iff_ne.mpr c7
        have c7b1 : ((rd l0 x4_1) != (-1)) = true := bne_iff_ne.mpr c7
        (first | rw [c7b0] | (simp only [i64_w, i32_w]; rw [c7b0]) | skip)
        have H' := QK H
        clear H
        have p177 : 0 ≤ (x4_1 : Int) := of_decide_eq_true (by first | (with_reducible assumption) | assumption)
        have q177 : x4_1 < (l0.length : Int) := of_decide_eq_true (by first | (with_reducible assumption) | assumption)
        obtain ⟨ad177, e177, hx177_0⟩ := Kd.at_int HR0.out x4_1 p177 q177
        obtain rfl : ad175 = ad177 := (by injection e177)
        replace p177 := eq_true p177
        replace q177 := eq_true q177
        go_wp2
        go_meet
        case rel => exact ⟨_, (false), (by first | rfl | (simp; done) | (simp [*]; done)), H', ⟨by have := HK1.out; first | omega | exact Nat.le_refl _⟩, by repeat (first | exact Drawn0.refl _ | apply Drawn0.step)⟩
      case rest =>
       clear HC6
       try clear c1
       try clear p1
       try clear q1
       try clear hx1
       try clear c2
       try clear c2b0
       try clear p2
       try clear c3
       try clear c3b0
       try clear c5
       try clear p6
       try clear c7
       try clear c7b0
       try clear c7b1
       try clear hx175_0
       try clear hx177_0
       try clear p175
       try clear p177
       try clear q175
       try clear q177
       obtain ⟨kq, x19_5, rfl, HA, HJ5, ⟨mc5, rfl⟩⟩ := hcut
       cases kq with
       | zero => exact absurd HA.out (by simp [spec_IsPattern.j1])
       | succ kj5 =>
        have H := HA.out
        clear HA
        simp only [spec_IsPattern.j1] at H
        by_cases c8 : x19_5 = true
        ·subst c8
         rw [if_pos rfl] at H
         have H' := QK H
         clear H
         go_wp2
         go_roundg kj5
         case measure => have := HK1.out; have := HJ5.out; omega
         case rel => exact ⟨(x3_1), (wrap64 (x4_1 + 1)), (by first | rfl | (simp; done) | (simp [*]; done)), (by first | rfl | (simp; done) | (simp [*]; done)), H', ⟨by have := HK1.out; have := HJ5.out; omega⟩, by repeat (first | exact Drawn0.refl _ | apply Drawn0.step)⟩
        ·replace c8 := Bool.eq_false_iff.mpr c8
         subst c8
         rw [if_neg (show ¬ (false = true) by decide)] at H
         by_cases c9 : 0 ≤ x4_1
         ·rw [if_pos c9] at H
          have c9b0 : decide (0 ≤ x4_1) = true := decide_eq_true c9
          clear c9
          by_cases c10 : x4_1 < (l0.length : Int)
          ·rw [if_pos c10] at H
           have c10b0 : decide (x4_1 < (l0.length : Int)) = true := decide_eq_true c10
           clear c10
           by_cases c11 : (rd l0 x4_1) = (-2)
           ·rw [if_pos c11] at H
            have c11b0 : ((rd l0 x4_1) == (-2)) = true := beq_iff_eq.mpr c11
            have c11b1 : ((rd l0 x4_1) != (-2)) = false := bne_eq_false_iff_eq.mpr c11
            clear c11
            by_cases c12 : x3_1 ≥ 2
            ·rw [if_pos c12] at H
             have c12b0 : decide (2 ≤ x3_1) = true := decide_eq_true c12
             clear c12
             have H' := QK H
             clear H
             have p178 : 0 ≤ (x4_1 : Int) := of_decide_eq_true (by first | (with_reducible assumption) | assumption)
             have q178 : x4_1 < (l0.length : Int) := of_decide_eq_true (by first | (with_reducible assumption) | assumption)
             obtain ⟨ad178, e178, hx178_0⟩ := Kd.at_int HR0.out x4_1 p178 q178
             obtain rfl : ad175 = ad178 := (by injection e178)
             replace p178 := eq_true p178
             replace q178 := eq_true q178
             go_wp2
             go_roundg kj5
             case measure => have := HK1.out; have := HJ5.out; omega
             case rel => exact ⟨(wrap64 (x3_1 - 1)), (wrap64 (x4_1 + 1)), (by first | rfl | (simp; done) | (simp [*]; done)), (by first | rfl | (simp; done) | (simp [*]; done)), H', ⟨by have := HK1.out; have := HJ5.out; omega⟩, by repeat (first | exact Drawn0.refl _ | apply Drawn0.step)⟩
            ·rw [if_neg c12] at H
             have c12b0 : decide (2 ≤ x3_1) = false := decide_eq_false c12
             clear c12
             obtain rfl := Option.some.inj H
             have p178 : 0 ≤ (x4_1 : Int) := of_decide_eq_true (by first | (with_reducible assumption) | assumption)
             have q178 : x4_1 < (l0.length : Int) := of_decide_eq_true (by first | (with_reducible assumption) | assumption)
             obtain ⟨ad178, e178, hx178_0⟩ := Kd.at_int HR0.out x4_1 p178 q178
             obtain rfl : ad175 = ad178 := (by injection e178)
             replace p178 := eq_true p178
             replace q178 := eq_true q178
             go_wp2
             go_ret
             exact ⟨by first | rfl | (simp; done) | (simp [*]; done), by repeat (first | exact Drawn0.refl _ | apply Drawn0.step)⟩
           ·rw [if_neg c11] at H
            have c11b0 : ((rd l0 x4_1) == (-2)) = false := beq_eq_false_iff_ne.mpr c11
            have c11b1 : ((rd l0 x4_1) != (-2)) = true := bne_iff_ne.mpr c11
            by_cases c13 : (rd l0 x4_1) = (-3)
            ·rw [if_pos c13] at H
             have c13b0 : ((rd l0 x4_1) == (-3)) = true := beq_iff_eq.mpr c13
             have c13b1 : ((rd l0 x4_1) != (-3)) = false := bne_eq_false_iff_eq.mpr c13
             clear c13
             by_cases c12 : x3_1 ≥ 2
             ·rw [if_pos c12] at H
              have c12b0 : decide (2 ≤ x3_1) = true := decide_eq_true c12
              clear c12
              have H' := QK H
              clear H
              have p178 : 0 ≤ (x4_1 : Int) := of_decide_eq_true (by first | (with_reducible assumption) | assumption)
              have q178 : x4_1 < (l0.length : Int) := of_decide_eq_true (by first | (with_reducible assumption) | assumption)
              obtain ⟨ad178, e178, hx178_0⟩ := Kd.at_int HR0.out x4_1 p178 q178
              obtain rfl : ad175 = ad178 := (by injection e178)
              replace p178 := eq_true p178
              replace q178 := eq_true q178
              have p179 : 0 ≤ (x4_1 : Int) := of_decide_eq_true (by first | (with_reducible assumption) | assumption)
              have q179 : x4_1 < (l0.length : Int) := of_decide_eq_true (by first | (with_reducible assumption) | assumption)
              obtain ⟨ad179, e179, hx179_0⟩ := Kd.at_int HR0.out x4_1 p179 q179
              obtain rfl : ad175 = ad179 := (by injection e179)
              replace p179 := eq_true p179
              replace q179 := eq_true q179
              go_wp2
              go_roundg kj5
              case measure => have := HK1.out; have := HJ5.out; omega
              case rel => exact ⟨(wrap64 (x3_1 - 1)), (wrap64 (x4_1 + 1)), (by first | rfl | (simp; done) | (simp [*]; done)), (by first | rfl | (simp; done) | (simp [*]; done)), H', ⟨by have := HK1.out; have := HJ5.out; omega⟩, by repeat (first | exact Drawn0.refl _ | apply Drawn0.step)⟩
             ·rw [if_neg c12] at H
              have c12b0 : decide (2 ≤ x3_1) = false := decide_eq_false c12
              clear c12
              obtain rfl := Option.some.inj H
              have p178 : 0 ≤ (x4_1 : Int) := of_decide_eq_true (by first | (with_reducible assumption) | assumption)
              have q178 : x4_1 < (l0.length : Int) := of_decide_eq_true (by first | (with_reducible assumption) | assumption)
              obtain ⟨ad178, e178, hx178_0⟩ := Kd.at_int HR0.out x4_1 p178 q178
              obtain rfl : ad175 = ad178 := (by injection e178)
              replace p178 := eq_true p178
              replace q178 := eq_true q178
              have p179 : 0 ≤ (x4_1 : Int) := of_decide_eq_true (by first | (with_reducible assumption) | assumption)
              have q179 : x4_1 < (l0.length : Int) := of_decide_eq_true (by first | (with_reducible assumption) | assumption)
              obtain ⟨ad179, e179, hx179_0⟩ := Kd.at_int HR0.out x4_1 p179 q179
              obtain rfl : ad175 = ad179 := (by injection e179)
              replace p179 := eq_true p179
              replace q179 := eq_true q179
              go_wp2
              go_ret
              exact ⟨by first | rfl | (simp; done) | (simp [*]; done), by repeat (first | exact Drawn0.refl _ | apply Drawn0.step)⟩
            ·rw [if_neg c13] at H
             have c13b0 : ((rd l0 x4_1) == (-3)) = false := beq_eq_false_iff_ne.mpr c13
             have c13b1 : ((rd l0 x4_1) != (-3)) = true := bne_iff_ne.mpr c13
             obtain rfl := Option.some.inj H
             have p178 : 0 ≤ (x4_1 : Int) := of_decide_eq_true (by first | (with_reducible assumption) | assumption)
             have q178 : x4_1 < (l0.length : Int) := of_decide_eq_true (by first | (with_reducible assumption) | assumption)
             obtain ⟨ad178, e178, hx178_0⟩ := Kd.at_int HR0.out x4_1 p178 q178
             obtain rfl : ad175 = ad178 := (by injection e178)
             replace p178 := eq_true p178
             replace q178 := eq_true q178
             have p179 : 0 ≤ (x4_1 : Int) := of_decide_eq_true (by first | (with_reducible assumption) | assumption)
             have q179 : x4_1 < (l0.length : Int) := of_decide_eq_true (by first | (with_reducible assumption) | assumption)
             obtain ⟨ad179, e179, hx179_0⟩ := Kd.at_int HR0.out x4_1 p179 q179
             obtain rfl : ad175 = ad179 := (by injection e179)
             replace p179 := eq_true p179
             replace q179 := eq_true q179
             go_wp2
             go_ret
             exact ⟨by first | rfl | (simp; done) | (simp [*]; done), by repeat (first | exact Drawn0.refl _ | apply Drawn0.step)⟩
          ·rw [if_neg c10] at H
           exact absurd H (by simp)
         ·rw [if_neg c9] at H
          exact absurd H (by simp)
    ·rw [if_neg c3] at H
     exact absurd H (by simp)
   ·rw [if_neg c2] at H
    have c2b0 : decide (x4_1 < (l0.length : Int)) = false := decide_eq_false c2
    clear c2
    by_cases c15 : x3_1 = 1
    ·rw [if_pos c15] at H
     have c15b0 : (x3_1 == 1) = true := beq_iff_eq.mpr c15
     have c15b1 : (x3_1 != 1) = false := bne_eq_false_iff_eq.mpr c15
     clear c15
     obtain rfl := Option.some.inj H
     go_wp2
     go_ret
     exact ⟨by first | rfl | (simp; done) | (simp [*]; done), by repeat (first | exact Drawn0.refl _ | apply Drawn0.step)⟩
    ·rw [if_neg c15] at H
     have c15b0 : (x3_1 == 1) = false := beq_eq_false_iff_ne.mpr c15
     have c15b1 : (x3_1 != 1) = true := bne_iff_ne.mpr c15
     obtain rfl := Option.some.inj H
     go_wp2
     go_ret
     exact ⟨by first | rfl | (simp; done) | (simp [*]; done), by repeat (first | exact Drawn0.refl _ | apply Drawn0.step)⟩

/-! ### spec_l22Pattern: function 150 -/
def spec_l22Pattern.f (k : Nat) (l0 : List Int) : Option (Bool) := if (l0.length : Int) = 0 then (some true) else ((spec_IsPattern.f k l0).bind fun t180 => (some t180))
theorem spec_l22Pattern.mono : ∀ a0 k, LeO (spec_l22Pattern.f k a0) (spec_l22Pattern.f (k + 1) a0) := by
 intro a0 k
 unfold spec_l22Pattern.f
 repeat' first
   | (with_reducible exact spec_IsPattern.mono _ _)
   | (with_reducible exact LeO.refl _)
   | (with_reducible exact LeO.none _)
   | (with_reducible refine LeO.ite ?_ ?_)
   | (with_reducible refine LeO.bind ?_ (fun _ => ?_))
   | exact spec_IsPattern.mono _ _
   | exact LeO.none _
   | refine LeO.ite ?_ ?_
   | refine LeO.bind ?_ (fun _ => ?_)
set_option maxHeartbeats 8000000 in
set_option maxRecDepth 100000 in
theorem spec_l22Pattern.calls (k : Nat) (A0 : Option Addr) (c0 : Nat) (l0 : List Int) (r : Bool) (w : World) (hr0 : Kd.C (Kd.int .i64) w A0 l0.length l0) (hc0 : l0.length ≤ c0) (h : spec_l22Pattern.f k l0 = some r) :
  Calls Try.prog 150 #[.slice A0 l0.length c0] w fun e w' => e = .returned (.bool r) ∧ Drawn0 w w' := by
 have HR0 := QK hr0
 have HC0 := QK hc0
 clear hr0 hc0
 have H : (if (l0.length : Int) = 0 then (some true) else ((spec_IsPattern.f k l0).bind fun t180 => (some t180))) = some r := h
 clear h
 by_cases c2 : (l0.length : Int) = 0
 ·rw [if_pos c2] at H
  have c2b0 : ((l0.length : Int) == 0) = true := beq_iff_eq.mpr c2
  have c2b1 : ((l0.length : Int) != 0) = false := bne_eq_false_iff_eq.mpr c2
  clear c2
  obtain rfl := Option.some.inj H
  go_enter Try.func150, Try.ntmps150
  go_wp2
  go_ret
  exact ⟨by first | rfl | (simp; done) | (simp [*]; done), by repeat (first | exact Drawn0.refl _ | apply Drawn0.step)⟩
 ·rw [if_neg c2] at H
  have c2b0 : ((l0.length : Int) == 0) = false := beq_eq_false_iff_ne.mpr c2
  have c2b1 : ((l0.length : Int) != 0) = true := bne_iff_ne.mpr c2
  have c2b2 : ¬ (l0 = []) := fun h_ => c2 (by rw [h_]; rfl)
  replace H := QL.mp H
  obtain ⟨t180, A30, H⟩ := H
  have A3 := QK A30
  clear A30
  obtain rfl := Option.some.inj H
  go_enter Try.func150, Try.ntmps150
  go_wp2_with (first | (go_at_call 167; (with_reducible refine (spec_IsPattern.calls k _ _ l0 t180 _ ?side1 ?side2 A3.out).mono ?_); (case side1 => repeat (first | exact HR0.out | (with_reducible refine QI ?_ _) | (with_reducible refine QJ ?_ _) | (with_reducible refine Kd.C_drew ?_))); (case side2 => exact HC0.out); rintro e w' ⟨rfl, ⟨nd, rfl⟩⟩))
  go_ret
  exact ⟨by first | rfl | (simp; done) | (simp [*]; done), by repeat (first | exact Drawn0.refl _ | apply Drawn0.step)⟩

/-! ### spec_IsRules: function 107 -/
def spec_IsRules.f (k : Nat) (a0_0 : Int) (a0_1 : Int) (a0_2 : Bool) (a0_3 : Bool) (l0_4 : List Int) (l0_5 : List Int) (a0_6 : Int) (a0_7 : Int) : Option (Bool) := (spec_l1In.f a0_0 2 6).bind fun t182 => (if t182 = true then ((spec_l1In.f a0_1 1 8).bind fun t183 => (if t183 = true then (if a0_2 = true then ((spec_l22Pattern.f k l0_4).bind fun t184 => (if t184 = true then ((spec_l22Pattern.f k l0_5).bind fun t185 => (if t185 = true then ((spec_l1In.f a0_6 1 4).bind fun t186 => (if t186 = true then ((spec_l1In.f a0_7 1 400).bind fun t187 => (some t187)) else (some false))) else (some false))) else (some false))) else (if a0_3 = true then ((spec_l22Pattern.f k l0_4).bind fun t188 => (if t188 = true then ((spec_l22Pattern.f k l0_5).bind fun t189 => (if t189 = true then ((spec_l1In.f a0_6 1 4).bind fun t190 => (if t190 = true then ((spec_l1In.f a0_7 1 400).bind fun t191 => (some t191)) else (some false))) else (some false))) else (some false))) else (some false))) else (some false))) else (some false))
theorem spec_IsRules.mono : ∀ a0 a1 a2 a3 a4 a5 a6 a7 k, LeO (spec_IsRules.f k a0 a1 a2 a3 a4 a5 a6 a7) (spec_IsRules.f (k + 1) a0 a1 a2 a3 a4 a5 a6 a7) := by
 intro a0 a1 a2 a3 a4 a5 a6 a7 k
 unfold spec_IsRules.f
 repeat' first
   | (with_reducible exact spec_l22Pattern.mono _ _)
   | (with_reducible exact LeO.refl _)
   | (with_reducible exact LeO.none _)
   | (with_reducible refine LeO.ite ?_ ?_)
   | (with_reducible refine LeO.bind ?_ (fun _ => ?_))
   | exact spec_l22Pattern.mono _ _
   | exact LeO.none _
   | refine LeO.ite ?_ ?_
   | refine LeO.bind ?_ (fun _ => ?_)
set_option maxHeartbeats 8000000 in
set_option maxRecDepth 100000 in
theorem spec_IsRules.calls (k : Nat) (a0_0 : Int) (a0_1 : Int) (a0_2 : Bool) (a0_3 : Bool) (A0_4 : Option Addr) (c0_4 : Nat) (l0_4 : List Int) (A0_5 : Option Addr) (c0_5 : Nat) (l0_5 : List Int) (a0_6 : Int) (a0_7 : Int) (r : Bool) (w : World) (hr0_4 : Kd.C (Kd.int .i64) w A0_4 l0_4.length l0_4) (hc0_4 : l0_4.length ≤ c0_4) (hr0_5 : Kd.C (Kd.int .i64) w A0_5 l0_5.length l0_5) (hc0_5 : l0_5.length ≤ c0_5) (h : spec_IsRules.f k a0_0 a0_1 a0_2 a0_3 l0_4 l0_5 a0_6 a0_7 = some r) :
  Calls Try.prog 107 #[.agg #[.int .i64 a0_0, .int .i64 a0_1, .bool a0_2, .bool a0_3, .slice A0_4 l0_4.length c0_4, .slice A0_5 l0_5.length c0_5, .int .i64 a0_6, .int .i64 a0_7]] w fun e w' => e = .returned (.bool r) ∧ Below w.heap.size w w' := by
 have hu41 := Try.underlying41
 have HR0_4 := QK hr0_4
 have HC0_4 := QK hc0_4
 clear hr0_4 hc0_4
 have HR0_5 := QK hr0_5
 have HC0_5 := QK hc0_5
 clear hr0_5 hc0_5
 have HB := QK (Below.refl w.heap.size w)
 have H : ((spec_l1In.f a0_0 2 6).bind fun t182 => (if t182 = true then ((spec_l1In.f a0_1 1 8).bind fun t183 => (if t183 = true then (if a0_2 = true then ((spec_l22Pattern.f k l0_4).bind fun t184 => (if t184 = true then ((spec_l22Pattern.f k l0_5).bind fun t185 => (if t185 = true then ((spec_l1In.f a0_6 1 4).bind fun t186 => (if t186 = true then ((spec_l1In.f a0_7 1 400).bind fun t187 => (some t187)) else (some false))) else (some false))) else (some false))) else (if a0_3 = true then ((spec_l22Pattern.f k l0_4).bind fun t188 => (if t188 = true then ((spec_l22Pattern.f k l0_5).bind fun t189 => (if t189 = true then ((spec_l1In.f a0_6 1 4).bind fun t190 => (if t190 = true then ((spec_l1In.f a0_7 1 400).bind fun t191 => (some t191)) else (some false))) else (some false))) else (some false))) else (some false))) else (some false))) else (some false))) = some r := h
 clear h
 replace H := QL.mp H
 obtain ⟨t182, A20, H⟩ := H
 have A2 := QK A20
 clear A20
 by_cases c3 : t182 = true
 rotate_left
 replace c3 := Bool.eq_false_iff.mpr c3
 subst c3
 rw [if_neg (show ¬ (false = true) by decide)] at H
 obtain rfl := Option.some.inj H
 rotate_right
 subst c3
 rw [if_pos rfl] at H
 replace H := QL.mp H
 obtain ⟨t183, A40, H⟩ := H
 have A4 := QK A40
 clear A40
 by_cases c5 : t183 = true
 rotate_left
 replace c5 := Bool.eq_false_iff.mpr c5
 subst c5
 rw [if_neg (show ¬ (false = true) by decide)] at H
 obtain rfl := Option.some.inj H
 rotate_right
 subst c5
 rw [if_pos rfl] at H
 by_cases c6 : a0_2 = true
 rotate_left
 replace c6 := Bool.eq_false_iff.mpr c6
 subst c6
 rw [if_neg (show ¬ (false = true) by decide)] at H
 by_cases c22 : a0_3 = true
 rotate_left
 replace c22 := Bool.eq_false_iff.mpr c22
 subst c22
 rw [if_neg (show ¬ (false = true) by decide)] at H
 obtain rfl := Option.some.inj H
 rotate_right
 subst c22
 rw [if_pos rfl] at H
 replace H := QL.mp H
 obtain ⟨t184, A70, H⟩ := H
 have A7 := QK A70
 clear A70
 try (obtain rfl := Option.some.inj (A7.out.symm.trans A7.out))
 by_cases c8 : t184 = true
 rotate_left
 replace c8 := Bool.eq_false_iff.mpr c8
 subst c8
 rw [if_neg (show ¬ (false = true) by decide)] at H
 obtain rfl := Option.some.inj H
 rotate_right
 subst c8
 rw [if_pos rfl] at H
 replace H := QL.mp H
 obtain ⟨t185, A90, H⟩ := H
 have A9 := QK A90
 clear A90
 try (obtain rfl := Option.some.inj (A9.out.symm.trans A9.out))
 by_cases c10 : t185 = true
 rotate_left
 replace c10 := Bool.eq_false_iff.mpr c10
 subst c10
 rw [if_neg (show ¬ (false = true) by decide)] at H
 obtain rfl := Option.some.inj H
 rotate_right
 subst c10
 rw [if_pos rfl] at H
 replace H := QL.mp H
 obtain ⟨t186, A110, H⟩ := H
 have A11 := QK A110
 clear A110
 try (obtain rfl := Option.some.inj (A11.out.symm.trans A11.out))
 by_cases c12 : t186 = true
 rotate_left
 replace c12 := Bool.eq_false_iff.mpr c12
 subst c12
 rw [if_neg (show ¬ (false = true) by decide)] at H
 obtain rfl := Option.some.inj H
 rotate_right
 subst c12
 rw [if_pos rfl] at H
 replace H := QL.mp H
 obtain ⟨t187, A130, H⟩ := H
 have A13 := QK A130
 clear A130
 try (obtain rfl := Option.some.inj (A13.out.symm.trans A13.out))
 obtain rfl := Option.some.inj H
 rotate_right
 subst c6
 rw [if_pos rfl] at H
 replace H := QL.mp H
 obtain ⟨t184, A70, H⟩ := H
 have A7 := QK A70
 clear A70
 by_cases c8 : t184 = true
 rotate_left
 replace c8 := Bool.eq_false_iff.mpr c8
 subst c8
 rw [if_neg (show ¬ (false = true) by decide)] at H
 obtain rfl := Option.some.inj H
 rotate_right
 subst c8
 rw [if_pos rfl] at H
 replace H := QL.mp H
 obtain ⟨t185, A90, H⟩ := H
 have A9 := QK A90
 clear A90
 by_cases c10 : t185 = true
 rotate_left
 replace c10 := Bool.eq_false_iff.mpr c10
 subst c10
 rw [if_neg (show ¬ (false = true) by decide)] at H
 obtain rfl := Option.some.inj H
 rotate_right
 subst c10
 rw [if_pos rfl] at H
 replace H := QL.mp H
 obtain ⟨t186, A110, H⟩ := H
 have A11 := QK A110
 clear A110
 by_cases c12 : t186 = true
 rotate_left
 replace c12 := Bool.eq_false_iff.mpr c12
 subst c12
 rw [if_neg (show ¬ (false = true) by decide)] at H
 obtain rfl := Option.some.inj H
 rotate_right
 subst c12
 rw [if_pos rfl] at H
 replace H := QL.mp H
 obtain ⟨t187, A130, H⟩ := H
 have A13 := QK A130
 clear A130
 obtain rfl := Option.some.inj H
 all_goals
  go_enter Try.func107, Try.ntmps107
  go_wp2_with (first | ((with_reducible refine gate_dst (N := 1) rfl ?_); refine box_event ?hg (N := 1) ?hd (cs := #[.int .i64 a0_0, .int .i64 a0_1, .bool _, .bool _, .slice A0_4 l0_4.length c0_4, .slice A0_5 l0_5.length c0_5, .int .i64 a0_6, .int .i64 a0_7]) (t := 41) ?hr ?_; (case hd => rfl); (case hg => rfl); (case hr => first | (go_simp; done) | (go_simp; rfl)); intro gb181 hg w30 hbox hb; have n0_ := QK (below_step (by repeat (first | (with_reducible first | exact HB.out | apply QF | apply QD | apply QE) | exact HB.out)) hb); have n1_ := QK (hbox); have n2_ := QK ((by rw [hg]; exact (below_size (by repeat (first | (with_reducible first | exact HB.out | apply QF | apply QD | apply QE) | exact HB.out))) : w.heap.size ≤ gb181)); have n3_ := QK ((by rw [hg]; exact (below_size (by repeat (first | (with_reducible first | exact HB.out | apply QF | apply QD | apply QE) | exact HB.out))) : w.heap.size ≤ gb181)); clear HB; have HB := n0_; have BK181 := n1_; have GW181 := n2_; have GE181 := n3_; clear n0_ n1_ n2_ n3_; clear hb hbox hg; have hcz31_0 : w30.cell? ⟨gb181, 0, none⟩ = some (.int .i64 a0_0) := (QB BK181.out 0).trans rfl; have hcz31_1 : w30.cell? ⟨gb181, 1, none⟩ = some (.int .i64 a0_1) := (QB BK181.out 1).trans rfl; have hcz31_2 : w30.cell? ⟨gb181, 2, none⟩ = some (.bool _) := (QB BK181.out 2).trans rfl; have hcz31_3 : w30.cell? ⟨gb181, 3, none⟩ = some (.bool _) := (QB BK181.out 3).trans rfl; have hcz31_4 : w30.cell? ⟨gb181, 4, none⟩ = some (.slice A0_4 l0_4.length c0_4) := (QB BK181.out 4).trans rfl; have hcz31_5 : w30.cell? ⟨gb181, 5, none⟩ = some (.slice A0_5 l0_5.length c0_5) := (QB BK181.out 5).trans rfl; have hcz31_6 : w30.cell? ⟨gb181, 6, none⟩ = some (.int .i64 a0_6) := (QB BK181.out 6).trans rfl; have hcz31_7 : w30.cell? ⟨gb181, 7, none⟩ = some (.int .i64 a0_7) := (QB BK181.out 7).trans rfl; have hfz31_0 := QC BK181.out 0; have hfz31_1 := QC BK181.out 1; have hfz31_2 := QC BK181.out 2; have hfz31_3 := QC BK181.out 3; have hfz31_4 := QC BK181.out 4; have hfz31_5 := QC BK181.out 5; have hfz31_6 := QC BK181.out 6; have hfz31_7 := QC BK181.out 7) | ((with_reducible refine QH (f := 99) rfl ?_); refine goesL_ (some 5) rfl rfl Try.func99 (by kernel_rfl) rfl #[.int .i64 a0_0, .int .i64 2, .int .i64 6] rfl (by (try simp only [List.map_toArray, List.map_cons, List.map_nil]); first | done | rfl | (simp only [List.length_drop, List.length_take]; rfl)) ?_; (with_reducible refine (spec_l1In.calls a0_0 2 6 _ _ A2.out).mono ?_); rintro e w' ⟨rfl, ⟨nd, rfl⟩⟩; refine ⟨_, rfl, ?_⟩) | (go_at_call 99; (with_reducible refine (spec_l1In.calls a0_1 1 8 _ _ A4.out).mono ?_); rintro e w' ⟨rfl, ⟨nd, rfl⟩⟩) | (go_at_call 150; (with_reducible refine (spec_l22Pattern.calls k _ _ l0_4 _ _ ?side1 ?side2 A7.out).mono ?_); (case side1 => repeat (first | exact (Kd.C_below HR0_4.out (by repeat (first | (with_reducible first | exact HB.out | apply QF | apply QD | apply QE | refine QG ?_ GE181.out) | exact HB.out))) | (with_reducible refine QI ?_ _) | (with_reducible refine QJ ?_ _) | (with_reducible refine Kd.C_drew ?_))); (case side2 => exact HC0_4.out); rintro e w' ⟨rfl, ⟨nd, rfl⟩⟩) | (go_at_call 150; (with_reducible refine (spec_l22Pattern.calls k _ _ l0_5 _ _ ?side1 ?side2 A9.out).mono ?_); (case side1 => repeat (first | exact (Kd.C_below HR0_5.out (by repeat (first | (with_reducible first | exact HB.out | apply QF | apply QD | apply QE | refine QG ?_ GE181.out) | exact HB.out))) | (with_reducible refine QI ?_ _) | (with_reducible refine QJ ?_ _) | (with_reducible refine Kd.C_drew ?_))); (case side2 => exact HC0_5.out); rintro e w' ⟨rfl, ⟨nd, rfl⟩⟩) | (go_at_call 99; (with_reducible refine (spec_l1In.calls a0_6 1 4 _ _ A11.out).mono ?_); rintro e w' ⟨rfl, ⟨nd, rfl⟩⟩) | (go_at_call 99; (with_reducible refine (spec_l1In.calls a0_7 1 400 t187 _ A13.out).mono ?_); rintro e w' ⟨rfl, ⟨nd, rfl⟩⟩))
  go_ret
  exact ⟨by first | rfl | (simp [errW_none, errW_some] <;> rfl) | (simp [*, errW_none, errW_some] <;> rfl), by repeat (first | (with_reducible first | exact HB.out | apply QF | apply QD | apply QE | refine QG ?_ GE181.out) | exact HB.out)⟩

/-! ### spec_IsCard: function 141 -/
def spec_IsCard.f (a0 : Int) : Option (Bool) := (spec_l1In.f a0 0 51).bind fun t192 => (some t192)
set_option maxHeartbeats 8000000 in
set_option maxRecDepth 100000 in
theorem spec_IsCard.calls (a0 : Int) (r : Bool) (w : World) (h : spec_IsCard.f a0 = some r) :
  Calls Try.prog 141 #[.int .i64 a0] w fun e w' => e = .returned (.bool r) ∧ Drawn0 w w' := by
 have H : ((spec_l1In.f a0 0 51).bind fun t192 => (some t192)) = some r := h
 clear h
 replace H := QL.mp H
 obtain ⟨t192, A20, H⟩ := H
 have A2 := QK A20
 clear A20
 obtain rfl := Option.some.inj H
 go_enter Try.func141, Try.ntmps141
 go_wp2_with (first | ((with_reducible refine QH (f := 99) rfl ?_); refine goesL_ (some 4) rfl rfl Try.func99 (by kernel_rfl) rfl #[.int .i64 a0, .int .i64 0, .int .i64 51] rfl (by (try simp only [List.map_toArray, List.map_cons, List.map_nil]); first | done | rfl | (simp only [List.length_drop, List.length_take]; rfl)) ?_; (with_reducible refine (spec_l1In.calls a0 0 51 t192 _ A2.out).mono ?_); rintro e w' ⟨rfl, ⟨nd, rfl⟩⟩; refine ⟨_, rfl, ?_⟩))
 go_ret
 exact ⟨by first | rfl | (simp; done) | (simp [*]; done), by repeat (first | exact Drawn0.refl _ | apply Drawn0.step)⟩

/-! ### spec_HasCard: function 151 -/
def spec_HasCard.l0 : Nat → List Int → Int → Int → Option (Bool)
 | 0, _, _, _ => none
 | k + 1, x0, x1, x5 => if x5 < (x0.length : Int) then (if 0 ≤ x5 then (if (rd x0 x5) = x1 then (some true) else (spec_HasCard.l0 k x0 x1 (wrap64 (x5 + 1)))) else (none)) else (some false)
def spec_HasCard.f (k : Nat) (l0 : List Int) (a1 : Int) : Option (Bool) := spec_HasCard.l0 k l0 a1 0
theorem spec_HasCard.mono_l : ∀ k, (∀ y0 y1 y2, LeO (spec_HasCard.l0 k y0 y1 y2) (spec_HasCard.l0 (k + 1) y0 y1 y2))
 | 0 => fun _ _ _ r h => by simp [spec_HasCard.l0] at h
 | k + 1 => by
  have ih0 := spec_HasCard.mono_l k
  ·intro y0 y1 y2
   unfold spec_HasCard.l0
   repeat' first
   | (with_reducible exact ih0 _ _ _)
   | (with_reducible exact LeO.refl _)
   | (with_reducible exact LeO.none _)
   | (with_reducible refine LeO.ite ?_ ?_)
   | (with_reducible refine LeO.bind ?_ (fun _ => ?_))
   | exact ih0 _ _ _
   | exact LeO.none _
   | refine LeO.ite ?_ ?_
   | refine LeO.bind ?_ (fun _ => ?_)
theorem spec_HasCard.mono : ∀ a0 a1 k, LeO (spec_HasCard.f k a0 a1) (spec_HasCard.f (k + 1) a0 a1) := by
 intro a0 a1 k
 have ih0 := spec_HasCard.mono_l k
 unfold spec_HasCard.f
 repeat' first
   | (with_reducible exact ih0 _ _ _)
   | (with_reducible exact LeO.refl _)
   | (with_reducible exact LeO.none _)
   | (with_reducible refine LeO.ite ?_ ?_)
   | (with_reducible refine LeO.bind ?_ (fun _ => ?_))
   | exact ih0 _ _ _
   | exact LeO.none _
   | refine LeO.ite ?_ ?_
   | refine LeO.bind ?_ (fun _ => ?_)
set_option maxHeartbeats 8000000 in
set_option maxRecDepth 100000 in
theorem spec_HasCard.calls (k : Nat) (A0 : Option Addr) (c0 : Nat) (l0 : List Int) (a1 : Int) (r : Bool) (w : World) (hr0 : Kd.C (Kd.int .i64) w A0 l0.length l0) (hc0 : l0.length ≤ c0) (h : spec_HasCard.f k l0 a1 = some r) :
  Calls Try.prog 151 #[.slice A0 l0.length c0, .int .i64 a1] w fun e w' => e = .returned (.bool r) ∧ Drawn0 w w' := by
 have HR0 := QK hr0
 have HC0 := QK hc0
 clear hr0 hc0
 have H : (spec_HasCard.l0 k l0 a1 0) = some r := h
 clear h
 have H' := QK H
 clear H
 go_enter Try.func151, Try.ntmps151
 go_wp2
 go_loopg [5] k (fun kq v5 w' => ∃ (x5_1 : Int), v5 = .int .i64 x5_1 ∧ Aside0 (spec_HasCard.l0 kq l0 a1 x5_1 = some r) ∧ Aside0 (kq ≤ k) ∧ Drawn0 w w')
 case atStart => exact ⟨(0), (by first | rfl | (simp; done) | (simp [*]; done)), H', ⟨Nat.le_refl _⟩, by repeat (first | exact Drawn0.refl _ | apply Drawn0.step)⟩
 case round =>
  clear H'
  try clear c1
  try clear p2
  obtain ⟨x5_1, rfl, HA, HK1, ⟨m1, rfl⟩⟩ := hrel
  cases gk with
  | zero => exact absurd HA.out (by simp [spec_HasCard.l0])
  | succ k1 =>
   have H := HA.out
   clear HA
   simp only [spec_HasCard.l0] at H
   by_cases c3 : x5_1 < (l0.length : Int)
   ·rw [if_pos c3] at H
    have c3b0 : decide (x5_1 < (l0.length : Int)) = true := decide_eq_true c3
    clear c3
    by_cases c4 : 0 ≤ x5_1
    ·rw [if_pos c4] at H
     have c4b0 : decide (0 ≤ x5_1) = true := decide_eq_true c4
     clear c4
     by_cases c5 : (rd l0 x5_1) = a1
     ·rw [if_pos c5] at H
      have c5b0 : ((rd l0 x5_1) == a1) = true := beq_iff_eq.mpr c5
      have c5b1 : ((rd l0 x5_1) != a1) = false := bne_eq_false_iff_eq.mpr c5
      clear c5
      obtain rfl := Option.some.inj H
      have p193 : 0 ≤ (x5_1 : Int) := of_decide_eq_true (by first | (with_reducible assumption) | assumption)
      have q193 : x5_1 < (l0.length : Int) := of_decide_eq_true (by first | (with_reducible assumption) | assumption)
      obtain ⟨ad193, e193, hx193_0⟩ := Kd.at_int HR0.out x5_1 p193 q193
      cases e193
      replace p193 := eq_true p193
      replace q193 := eq_true q193
      go_wp2
      go_ret
      exact ⟨by first | rfl | (simp; done) | (simp [*]; done), by repeat (first | exact Drawn0.refl _ | apply Drawn0.step)⟩
     ·rw [if_neg c5] at H
      have c5b0 : ((rd l0 x5_1) == a1) = false := beq_eq_false_iff_ne.mpr c5
      have c5b1 : ((rd l0 x5_1) != a1) = true := bne_iff_ne.mpr c5
      have H' := QK H
      clear H
      have p193 : 0 ≤ (x5_1 : Int) := of_decide_eq_true (by first | (with_reducible assumption) | assumption)
      have q193 : x5_1 < (l0.length : Int) := of_decide_eq_true (by first | (with_reducible assumption) | assumption)
      obtain ⟨ad193, e193, hx193_0⟩ := Kd.at_int HR0.out x5_1 p193 q193
      cases e193
      replace p193 := eq_true p193
      replace q193 := eq_true q193
      go_wp2
      go_roundg k1
      case measure => have := HK1.out; omega
      case rel => exact ⟨(wrap64 (x5_1 + 1)), (by first | rfl | (simp; done) | (simp [*]; done)), H', ⟨by have := HK1.out; omega⟩, by repeat (first | exact Drawn0.refl _ | apply Drawn0.step)⟩
    ·rw [if_neg c4] at H
     exact absurd H (by simp)
   ·rw [if_neg c3] at H
    have c3b0 : decide (x5_1 < (l0.length : Int)) = false := decide_eq_false c3
    clear c3
    obtain rfl := Option.some.inj H
    go_wp2
    go_ret
    exact ⟨by first | rfl | (simp; done) | (simp [*]; done), by repeat (first | exact Drawn0.refl _ | apply Drawn0.step)⟩

/-! ### spec_IsHand: function 108 -/
def spec_IsHand.l0 : Nat → List Int → Int → Option (Bool)
 | 0, _, _ => none
 | k + 1, x0, x3 => if x3 < (x0.length : Int) then (if 0 ≤ x3 then ((spec_IsCard.f (rd x0 x3)).bind fun t195 => (if t195 = true then (if x3 ≤ (x0.length : Int) then ((spec_HasCard.f k (x0.take (x3 : Int).toNat) (rd x0 x3)).bind fun t198 => (if t198 = true then (some false) else (spec_IsHand.l0 k x0 (wrap64 (x3 + 1))))) else (none)) else (some false))) else (none)) else (some true)
def spec_IsHand.f (k : Nat) (l0 : List Int) : Option (Bool) := spec_IsHand.l0 k l0 0
theorem spec_IsHand.mono_l : ∀ k, (∀ y0 y1, LeO (spec_IsHand.l0 k y0 y1) (spec_IsHand.l0 (k + 1) y0 y1))
 | 0 => fun _ _ r h => by simp [spec_IsHand.l0] at h
 | k + 1 => by
  have ih0 := spec_IsHand.mono_l k
  ·intro y0 y1
   unfold spec_IsHand.l0
   repeat' first
   | (with_reducible exact ih0 _ _)
   | (with_reducible exact spec_HasCard.mono _ _ _)
   | (with_reducible exact LeO.refl _)
   | (with_reducible exact LeO.none _)
   | (with_reducible refine LeO.ite ?_ ?_)
   | (with_reducible refine LeO.bind ?_ (fun _ => ?_))
   | exact ih0 _ _
   | exact spec_HasCard.mono _ _ _
   | exact LeO.none _
   | refine LeO.ite ?_ ?_
   | refine LeO.bind ?_ (fun _ => ?_)
theorem spec_IsHand.mono : ∀ a0 k, LeO (spec_IsHand.f k a0) (spec_IsHand.f (k + 1) a0) := by
 intro a0 k
 have ih0 := spec_IsHand.mono_l k
 unfold spec_IsHand.f
 repeat' first
   | (with_reducible exact ih0 _ _)
   | (with_reducible exact spec_HasCard.mono _ _ _)
   | (with_reducible exact LeO.refl _)
   | (with_reducible exact LeO.none _)
   | (with_reducible refine LeO.ite ?_ ?_)
   | (with_reducible refine LeO.bind ?_ (fun _ => ?_))
   | exact ih0 _ _
   | exact spec_HasCard.mono _ _ _
   | exact LeO.none _
   | refine LeO.ite ?_ ?_
   | refine LeO.bind ?_ (fun _ => ?_)
set_option maxHeartbeats 8000000 in
set_option maxRecDepth 100000 in
theorem spec_IsHand.calls (k : Nat) (A0 : Option Addr) (c0 : Nat) (l0 : List Int) (r : Bool) (w : World) (hr0 : Kd.C (Kd.int .i64) w A0 l0.length l0) (hc0 : l0.length ≤ c0) (h : spec_IsHand.f k l0 = some r) :
  Calls Try.prog 108 #[.slice A0 l0.length c0] w fun e w' => e = .returned (.bool r) ∧ Drawn0 w w' := by
 have HR0 := QK hr0
 have HC0 := QK hc0
 clear hr0 hc0
 have H : (spec_IsHand.l0 k l0 0) = some r := h
 clear h
 have H' := QK H
 clear H
 go_enter Try.func108, Try.ntmps108
 go_wp2
 repeat (go_quiet (fail); try go_wp2)
 go_loopg [3] k (fun kq v3 w' => ∃ (x3_1 : Int), v3 = .int .i64 x3_1 ∧ Aside0 (spec_IsHand.l0 kq l0 x3_1 = some r) ∧ Aside0 (kq ≤ k) ∧ Drawn0 w w')
 case atStart => exact ⟨(0), (by first | rfl | (simp; done) | (simp [*]; done)), H', ⟨Nat.le_refl _⟩, by repeat (first | exact Drawn0.refl _ | apply Drawn0.step)⟩
 case round =>
  clear H'
  try clear c1
  obtain ⟨x3_1, rfl, HA, HK1, ⟨m1, rfl⟩⟩ := hrel
  cases gk with
  | zero => exact absurd HA.out (by simp [spec_IsHand.l0])
  | succ k1 =>
   have H := HA.out
   clear HA
   simp only [spec_IsHand.l0] at H
   by_cases c2 : x3_1 < (l0.length : Int)
   ·rw [if_pos c2] at H
    have c2b0 : decide (x3_1 < (l0.length : Int)) = true := decide_eq_true c2
    clear c2
    by_cases c3 : 0 ≤ x3_1
    ·rw [if_pos c3] at H
     have c3b0 : decide (0 ≤ x3_1) = true := decide_eq_true c3
     clear c3
     replace H := QL.mp H
     obtain ⟨t195, A40, H⟩ := H
     have A4 := QK A40
     clear A40
     by_cases c5 : t195 = true
     ·subst c5
      rw [if_pos rfl] at H
      have c6b0 := eq_true (of_decide_eq_true (by first | (with_reducible assumption) | assumption) : 0 ≤ x3_1)
      by_cases c7 : x3_1 ≤ (l0.length : Int)
      ·rw [if_pos c7] at H
       have c7b0 := eq_true c7
       have c7b1 : decide (x3_1 ≤ (l0.length : Int)) = true := decide_eq_true c7
       clear c7
       replace H := QL.mp H
       obtain ⟨t198, A80, H⟩ := H
       have A8 := QK A80
       clear A80
       by_cases c9 : t198 = true
       ·subst c9
        rw [if_pos rfl] at H
        obtain rfl := Option.some.inj H
        have p194 : 0 ≤ (x3_1 : Int) := of_decide_eq_true (by first | (with_reducible assumption) | assumption)
        have q194 : x3_1 < (l0.length : Int) := of_decide_eq_true (by first | (with_reducible assumption) | assumption)
        obtain ⟨ad194, e194, hx194_0⟩ := Kd.at_int HR0.out x3_1 p194 q194
        cases e194
        replace p194 := eq_true p194
        replace q194 := eq_true q194
        obtain ⟨i010, hi010, _, hsz10, _⟩ := info_parts info3
        obtain ⟨hcut10, hA10, hC10⟩ := print_take_of (P := Try.prog) (Value.int .i64) 0 24 3 .i64 Try.underlying24 hi010 hsz10 (some ad194) c0 l0 x3_1 (of_decide_eq_true (by first | (with_reducible assumption) | assumption)) (of_decide_eq_true (by first | (with_reducible assumption) | assumption)) HC0.out
        have HR196 := QK (Kd.C_of_reads (h1 := fun _ => rfl) (hA10 _ (Kd.reads_of_C HR0.out)))
        have HC196 := QK hC10
        clear hA10 hC10 hi010 hsz10
        have p197 : 0 ≤ (x3_1 : Int) := of_decide_eq_true (by first | (with_reducible assumption) | assumption)
        have q197 : x3_1 < (l0.length : Int) := of_decide_eq_true (by first | (with_reducible assumption) | assumption)
        obtain ⟨ad197, e197, hx197_0⟩ := Kd.at_int HR0.out x3_1 p197 q197
        obtain rfl : ad194 = ad197 := (by injection e197)
        replace p197 := eq_true p197
        replace q197 := eq_true q197
        have HLT_l0_x3_1 := QK (show (l0.take (x3_1 : Int).toNat).length = (x3_1 : Int).toNat by rw [List.length_take]; have h1_ : x3_1 ≤ (l0.length : Int) := (by first | assumption | exact of_eq_true (by assumption) | exact of_decide_eq_true (by assumption) | omega); have h2_ : 0 ≤ x3_1 := (by first | assumption | exact of_eq_true (by assumption) | exact of_decide_eq_true (by assumption)); omega)
        go_wp2_with (first | (go_at_call 141; (with_reducible refine (spec_IsCard.calls (rd l0 x3_1) true _ A4.out).mono ?_); rintro e w' ⟨rfl, ⟨nd, rfl⟩⟩; (try first | exact ⟨rfl, _, World.drewN_drewN _ _ _⟩ | exact ⟨rfl, _, Eq.trans (World.drewN_drewN _ _ _) (congrArg (World.drewN _) (Nat.add_assoc _ _ _))⟩)) | (go_at_call 151; (with_reducible refine calls_of_args (args' := #[.slice (some ad194) (l0.take (x3_1 : Int).toNat).length c0, .int .i64 (rd l0 x3_1)]) (by rw [HLT_l0_x3_1.out]) ?_); (with_reducible refine (spec_HasCard.calls k1 _ _ (l0.take (x3_1 : Int).toNat) (rd l0 x3_1) true _ ?side1 ?side2 A8.out).mono ?_); (case side1 => repeat (first | exact HR196.out | (with_reducible refine QI ?_ _) | (with_reducible refine QJ ?_ _) | (with_reducible refine Kd.C_drew ?_))); (case side2 => exact HC196.out); rintro e w' ⟨rfl, ⟨nd, rfl⟩⟩; (try first | exact ⟨rfl, _, World.drewN_drewN _ _ _⟩ | exact ⟨rfl, _, Eq.trans (World.drewN_drewN _ _ _) (congrArg (World.drewN _) (Nat.add_assoc _ _ _))⟩)))
        repeat (go_quiet (first | (go_at_call 141; (with_reducible refine (spec_IsCard.calls (rd l0 x3_1) true _ A4.out).mono ?_); rintro e w' ⟨rfl, ⟨nd, rfl⟩⟩; (try first | exact ⟨rfl, _, World.drewN_drewN _ _ _⟩ | exact ⟨rfl, _, Eq.trans (World.drewN_drewN _ _ _) (congrArg (World.drewN _) (Nat.add_assoc _ _ _))⟩)) | (go_at_call 151; (with_reducible refine calls_of_args (args' := #[.slice (some ad194) (l0.take (x3_1 : Int).toNat).length c0, .int .i64 (rd l0 x3_1)]) (by rw [HLT_l0_x3_1.out]) ?_); (with_reducible refine (spec_HasCard.calls k1 _ _ (l0.take (x3_1 : Int).toNat) (rd l0 x3_1) true _ ?side1 ?side2 A8.out).mono ?_); (case side1 => repeat (first | exact HR196.out | (with_reducible refine QI ?_ _) | (with_reducible refine QJ ?_ _) | (with_reducible refine Kd.C_drew ?_))); (case side2 => exact HC196.out); rintro e w' ⟨rfl, ⟨nd, rfl⟩⟩; (try first | exact ⟨rfl, _, World.drewN_drewN _ _ _⟩ | exact ⟨rfl, _, Eq.trans (World.drewN_drewN _ _ _) (congrArg (World.drewN _) (Nat.add_assoc _ _ _))⟩))); try go_wp2_with (first | (go_at_call 141; (with_reducible refine (spec_IsCard.calls (rd l0 x3_1) true _ A4.out).mono ?_); rintro e w' ⟨rfl, ⟨nd, rfl⟩⟩; (try first | exact ⟨rfl, _, World.drewN_drewN _ _ _⟩ | exact ⟨rfl, _, Eq.trans (World.drewN_drewN _ _ _) (congrArg (World.drewN _) (Nat.add_assoc _ _ _))⟩)) | (go_at_call 151; (with_reducible refine (spec_HasCard.calls k1 _ _ (l0.take (x3_1 : Int).toNat) (rd l0 x3_1) true _ ?side1 ?side2 A8.out).mono ?_); (case side1 => repeat (first | exact HR196.out | (with_reducible refine QI ?_ _) | (with_reducible refine QJ ?_ _) | (with_reducible refine Kd.C_drew ?_))); (case side2 => exact HC196.out); rintro e w' ⟨rfl, ⟨nd, rfl⟩⟩; (try first | exact ⟨rfl, _, World.drewN_drewN _ _ _⟩ | exact ⟨rfl, _, Eq.trans (World.drewN_drewN _ _ _) (congrArg (World.drewN _) (Nat.add_assoc _ _ _))⟩))))
        go_ret
        exact ⟨by first | rfl | (simp; done) | (simp [*]; done), by repeat (first | exact Drawn0.refl _ | apply Drawn0.step)⟩
       ·replace c9 := Bool.eq_false_iff.mpr c9
        subst c9
        rw [if_neg (show ¬ (false = true) by decide)] at H
        have H' := QK H
        clear H
        have p194 : 0 ≤ (x3_1 : Int) := of_decide_eq_true (by first | (with_reducible assumption) | assumption)
        have q194 : x3_1 < (l0.length : Int) := of_decide_eq_true (by first | (with_reducible assumption) | assumption)
        obtain ⟨ad194, e194, hx194_0⟩ := Kd.at_int HR0.out x3_1 p194 q194
        cases e194
        replace p194 := eq_true p194
        replace q194 := eq_true q194
        obtain ⟨i011, hi011, _, hsz11, _⟩ := info_parts info3
        obtain ⟨hcut11, hA11, hC11⟩ := print_take_of (P := Try.prog) (Value.int .i64) 0 24 3 .i64 Try.underlying24 hi011 hsz11 (some ad194) c0 l0 x3_1 (of_decide_eq_true (by first | (with_reducible assumption) | assumption)) (of_decide_eq_true (by first | (with_reducible assumption) | assumption)) HC0.out
        have HR196 := QK (Kd.C_of_reads (h1 := fun _ => rfl) (hA11 _ (Kd.reads_of_C HR0.out)))
        have HC196 := QK hC11
        clear hA11 hC11 hi011 hsz11
        have p197 : 0 ≤ (x3_1 : Int) := of_decide_eq_true (by first | (with_reducible assumption) | assumption)
        have q197 : x3_1 < (l0.length : Int) := of_decide_eq_true (by first | (with_reducible assumption) | assumption)
        obtain ⟨ad197, e197, hx197_0⟩ := Kd.at_int HR0.out x3_1 p197 q197
        obtain rfl : ad194 = ad197 := (by injection e197)
        replace p197 := eq_true p197
        replace q197 := eq_true q197
        have HLT_l0_x3_1 := QK (show (l0.take (x3_1 : Int).toNat).length = (x3_1 : Int).toNat by rw [List.length_take]; have h1_ : x3_1 ≤ (l0.length : Int) := (by first | assumption | exact of_eq_true (by assumption) | exact of_decide_eq_true (by assumption) | omega); have h2_ : 0 ≤ x3_1 := (by first | assumption | exact of_eq_true (by assumption) | exact of_decide_eq_true (by assumption)); omega)
        go_wp2_with (first | (go_at_call 141; (with_reducible refine (spec_IsCard.calls (rd l0 x3_1) true _ A4.out).mono ?_); rintro e w' ⟨rfl, ⟨nd, rfl⟩⟩; (try first | exact ⟨rfl, _, World.drewN_drewN _ _ _⟩ | exact ⟨rfl, _, Eq.trans (World.drewN_drewN _ _ _) (congrArg (World.drewN _) (Nat.add_assoc _ _ _))⟩)) | (go_at_call 151; (with_reducible refine calls_of_args (args' := #[.slice (some ad194) (l0.take (x3_1 : Int).toNat).length c0, .int .i64 (rd l0 x3_1)]) (by rw [HLT_l0_x3_1.out]) ?_); (with_reducible refine (spec_HasCard.calls k1 _ _ (l0.take (x3_1 : Int).toNat) (rd l0 x3_1) false _ ?side1 ?side2 A8.out).mono ?_); (case side1 => repeat (first | exact HR196.out | (with_reducible refine QI ?_ _) | (with_reducible refine QJ ?_ _) | (with_reducible refine Kd.C_drew ?_))); (case side2 => exact HC196.out); rintro e w' ⟨rfl, ⟨nd, rfl⟩⟩; (try first | exact ⟨rfl, _, World.drewN_drewN _ _ _⟩ | exact ⟨rfl, _, Eq.trans (World.drewN_drewN _ _ _) (congrArg (World.drewN _) (Nat.add_assoc _ _ _))⟩)))
        repeat (go_quiet (first | (go_at_call 141; (with_reducible refine (spec_IsCard.calls (rd l0 x3_1) true _ A4.out).mono ?_); rintro e w' ⟨rfl, ⟨nd, rfl⟩⟩; (try first | exact ⟨rfl, _, World.drewN_drewN _ _ _⟩ | exact ⟨rfl, _, Eq.trans (World.drewN_drewN _ _ _) (congrArg (World.drewN _) (Nat.add_assoc _ _ _))⟩)) | (go_at_call 151; (with_reducible refine calls_of_args (args' := #[.slice (some ad194) (l0.take (x3_1 : Int).toNat).length c0, .int .i64 (rd l0 x3_1)]) (by rw [HLT_l0_x3_1.out]) ?_); (with_reducible refine (spec_HasCard.calls k1 _ _ (l0.take (x3_1 : Int).toNat) (rd l0 x3_1) false _ ?side1 ?side2 A8.out).mono ?_); (case side1 => repeat (first | exact HR196.out | (with_reducible refine QI ?_ _) | (with_reducible refine QJ ?_ _) | (with_reducible refine Kd.C_drew ?_))); (case side2 => exact HC196.out); rintro e w' ⟨rfl, ⟨nd, rfl⟩⟩; (try first | exact ⟨rfl, _, World.drewN_drewN _ _ _⟩ | exact ⟨rfl, _, Eq.trans (World.drewN_drewN _ _ _) (congrArg (World.drewN _) (Nat.add_assoc _ _ _))⟩))); try go_wp2_with (first | (go_at_call 141; (with_reducible refine (spec_IsCard.calls (rd l0 x3_1) true _ A4.out).mono ?_); rintro e w' ⟨rfl, ⟨nd, rfl⟩⟩; (try first | exact ⟨rfl, _, World.drewN_drewN _ _ _⟩ | exact ⟨rfl, _, Eq.trans (World.drewN_drewN _ _ _) (congrArg (World.drewN _) (Nat.add_assoc _ _ _))⟩)) | (go_at_call 151; (with_reducible refine (spec_HasCard.calls k1 _ _ (l0.take (x3_1 : Int).toNat) (rd l0 x3_1) false _ ?side1 ?side2 A8.out).mono ?_); (case side1 => repeat (first | exact HR196.out | (with_reducible refine QI ?_ _) | (with_reducible refine QJ ?_ _) | (with_reducible refine Kd.C_drew ?_))); (case side2 => exact HC196.out); rintro e w' ⟨rfl, ⟨nd, rfl⟩⟩; (try first | exact ⟨rfl, _, World.drewN_drewN _ _ _⟩ | exact ⟨rfl, _, Eq.trans (World.drewN_drewN _ _ _) (congrArg (World.drewN _) (Nat.add_assoc _ _ _))⟩))))
        go_roundg k1
        case measure => have := HK1.out; omega
        case rel => exact ⟨(wrap64 (x3_1 + 1)), (by first | rfl | (simp; done) | (simp [*]; done)), H', ⟨by have := HK1.out; omega⟩, by repeat (first | exact Drawn0.refl _ | apply Drawn0.step)⟩
      ·rw [if_neg c7] at H
       exact absurd H (by simp)
     ·replace c5 := Bool.eq_false_iff.mpr c5
      subst c5
      rw [if_neg (show ¬ (false = true) by decide)] at H
      obtain rfl := Option.some.inj H
      have p194 : 0 ≤ (x3_1 : Int) := of_decide_eq_true (by first | (with_reducible assumption) | assumption)
      have q194 : x3_1 < (l0.length : Int) := of_decide_eq_true (by first | (with_reducible assumption) | assumption)
      obtain ⟨ad194, e194, hx194_0⟩ := Kd.at_int HR0.out x3_1 p194 q194
      cases e194
      replace p194 := eq_true p194
      replace q194 := eq_true q194
      go_wp2_with (first | (go_at_call 141; (with_reducible refine (spec_IsCard.calls (rd l0 x3_1) false _ A4.out).mono ?_); rintro e w' ⟨rfl, ⟨nd, rfl⟩⟩; (try first | exact ⟨rfl, _, World.drewN_drewN _ _ _⟩ | exact ⟨rfl, _, Eq.trans (World.drewN_drewN _ _ _) (congrArg (World.drewN _) (Nat.add_assoc _ _ _))⟩)))
      repeat (go_quiet (first | (go_at_call 141; (with_reducible refine (spec_IsCard.calls (rd l0 x3_1) false _ A4.out).mono ?_); rintro e w' ⟨rfl, ⟨nd, rfl⟩⟩; (try first | exact ⟨rfl, _, World.drewN_drewN _ _ _⟩ | exact ⟨rfl, _, Eq.trans (World.drewN_drewN _ _ _) (congrArg (World.drewN _) (Nat.add_assoc _ _ _))⟩))); try go_wp2_with (first | (go_at_call 141; (with_reducible refine (spec_IsCard.calls (rd l0 x3_1) false _ A4.out).mono ?_); rintro e w' ⟨rfl, ⟨nd, rfl⟩⟩; (try first | exact ⟨rfl, _, World.drewN_drewN _ _ _⟩ | exact ⟨rfl, _, Eq.trans (World.drewN_drewN _ _ _) (congrArg (World.drewN _) (Nat.add_assoc _ _ _))⟩))))
      go_ret
      exact ⟨by first | rfl | (simp; done) | (simp [*]; done), by repeat (first | exact Drawn0.refl _ | apply Drawn0.step)⟩
    ·rw [if_neg c3] at H
     exact absurd H (by simp)
   ·rw [if_neg c2] at H
    have c2b0 : decide (x3_1 < (l0.length : Int)) = false := decide_eq_false c2
    clear c2
    obtain rfl := Option.some.inj H
    go_wp2
    repeat (go_quiet (fail); try go_wp2)
    go_ret
    exact ⟨by first | rfl | (simp; done) | (simp [*]; done), by repeat (first | exact Drawn0.refl _ | apply Drawn0.step)⟩

/-! ### spec_IsGame: function 44 -/
mutual
def spec_IsGame.j0 : Nat → Bool → Int → Int → Bool → Bool → List Int → List Int → Int → Int → List (List Int) → List Int → List Int → Int → Int → Int → Option (Bool)
 | 0, _, _, _, _, _, _, _, _, _, _, _, _, _, _, _ => none
 | k + 1, x50, x200000, x200001, x200002, x200003, x200004, x200005, x200006, x200007, x200008, x200009, x200010, x200011, x200012, x200013 => if x50 = true then (some false) else ((some (([] : List Int) : List Int)).bind fun y204 => (if y204.length + x200009.length < 17592186044416 then ((some (y204 ++ x200009 : List Int)).bind fun y207 => (if y207.length + x200010.length < 17592186044416 then (spec_IsGame.l0 k (y207 ++ x200010) 0 x200000 x200001 x200002 x200003 x200004 x200005 x200006 x200007 x200008 x200009 x200010 x200011 x200012 x200013) else (none))) else (none)))
def spec_IsGame.l0 : Nat → List Int → Int → Int → Int → Bool → Bool → List Int → List Int → Int → Int → List (List Int) → List Int → List Int → Int → Int → Int → Option (Bool)
 | 0, _, _, _, _, _, _, _, _, _, _, _, _, _, _, _, _ => none
 | k + 1, x3, x4, x200000, x200001, x200002, x200003, x200004, x200005, x200006, x200007, x200008, x200009, x200010, x200011, x200012, x200013 => if x4 < (x200008.length : Int) then (if 0 ≤ x4 then (if x3.length + (rd_L1 x200008 x4).length < 17592186044416 then (spec_IsGame.l0 k (x3 ++ (rd_L1 x200008 x4)) (wrap64 (x4 + 1)) x200000 x200001 x200002 x200003 x200004 x200005 x200006 x200007 x200008 x200009 x200010 x200011 x200012 x200013) else (none)) else (none)) else (if (x3.length : Int) = 52 then ((spec_IsHand.f k x3).bind fun t217 => (some t217)) else (some false))
end
def spec_IsGame.f (k : Nat) (a0_0 : Int) (a0_1 : Int) (a0_2 : Bool) (a0_3 : Bool) (l0_4 : List Int) (l0_5 : List Int) (a0_6 : Int) (a0_7 : Int) (l0_8 : List (List Int)) (l0_9 : List Int) (l0_10 : List Int) (a0_11 : Int) (a0_12 : Int) (a0_13 : Int) : Option (Bool) := (spec_IsRules.f k a0_0 a0_1 a0_2 a0_3 l0_4 l0_5 a0_6 a0_7).bind fun t200 => (if t200 = true then (if (l0_8.length : Int) = a0_0 then (if (l0_10.length : Int) = 0 then (spec_IsGame.j0 k true a0_0 a0_1 a0_2 a0_3 l0_4 l0_5 a0_6 a0_7 l0_8 l0_9 l0_10 a0_11 a0_12 a0_13) else ((spec_l1In.f a0_11 0 (wrap64 (a0_0 - 1))).bind fun t201 => (if t201 = true then ((spec_l1In.f a0_12 0 a0_7).bind fun t202 => (if t202 = true then ((spec_l1In.f a0_13 0 a0_12).bind fun t203 => (spec_IsGame.j0 k (!t203) a0_0 a0_1 a0_2 a0_3 l0_4 l0_5 a0_6 a0_7 l0_8 l0_9 l0_10 a0_11 a0_12 a0_13)) else (spec_IsGame.j0 k true a0_0 a0_1 a0_2 a0_3 l0_4 l0_5 a0_6 a0_7 l0_8 l0_9 l0_10 a0_11 a0_12 a0_13))) else (spec_IsGame.j0 k true a0_0 a0_1 a0_2 a0_3 l0_4 l0_5 a0_6 a0_7 l0_8 l0_9 l0_10 a0_11 a0_12 a0_13)))) else (spec_IsGame.j0 k true a0_0 a0_1 a0_2 a0_3 l0_4 l0_5 a0_6 a0_7 l0_8 l0_9 l0_10 a0_11 a0_12 a0_13)) else (spec_IsGame.j0 k true a0_0 a0_1 a0_2 a0_3 l0_4 l0_5 a0_6 a0_7 l0_8 l0_9 l0_10 a0_11 a0_12 a0_13))
theorem spec_IsGame.mono_l : ∀ k, (∀ y0 y1 y2 y3 y4 y5 y6 y7 y8 y9 y10 y11 y12 y13 y14, LeO (spec_IsGame.j0 k y0 y1 y2 y3 y4 y5 y6 y7 y8 y9 y10 y11 y12 y13 y14) (spec_IsGame.j0 (k + 1) y0 y1 y2 y3 y4 y5 y6 y7 y8 y9 y10 y11 y12 y13 y14)) ∧ (∀ y0 y1 y2 y3 y4 y5 y6 y7 y8 y9 y10 y11 y12 y13 y14 y15, LeO (spec_IsGame.l0 k y0 y1 y2 y3 y4 y5 y6 y7 y8 y9 y10 y11 y12 y13 y14 y15) (spec_IsGame.l0 (k + 1) y0 y1 y2 y3 y4 y5 y6 y7 y8 y9 y10 y11 y12 y13 y14 y15))
 | 0 => ⟨fun _ _ _ _ _ _ _ _ _ _ _ _ _ _ _ r h => by simp [spec_IsGame.j0] at h, fun _ _ _ _ _ _ _ _ _ _ _ _ _ _ _ _ r h => by simp [spec_IsGame.l0] at h⟩
 | k + 1 => by
  obtain ⟨ih0, ih1⟩ := spec_IsGame.mono_l k
  refine ⟨?_, ?_⟩
  ·intro y0 y1 y2 y3 y4 y5 y6 y7 y8 y9 y10 y11 y12 y13 y14
   unfold spec_IsGame.j0
   repeat' first
   | (with_reducible exact ih0 _ _ _ _ _ _ _ _ _ _ _ _ _ _ _)
   | (with_reducible exact ih1 _ _ _ _ _ _ _ _ _ _ _ _ _ _ _ _)
   | (with_reducible exact spec_IsHand.mono _ _)
   | (with_reducible exact spec_IsRules.mono _ _ _ _ _ _ _ _ _)
   | (with_reducible exact LeO.refl _)
   | (with_reducible exact LeO.none _)
   | (with_reducible refine LeO.ite ?_ ?_)
   | (with_reducible refine LeO.bind ?_ (fun _ => ?_))
   | exact ih0 _ _ _ _ _ _ _ _ _ _ _ _ _ _ _
   | exact ih1 _ _ _ _ _ _ _ _ _ _ _ _ _ _ _ _
   | exact spec_IsHand.mono _ _
   | exact spec_IsRules.mono _ _ _ _ _ _ _ _ _
   | exact LeO.none _
   | refine LeO.ite ?_ ?_
   | refine LeO.bind ?_ (fun _ => ?_)
  ·intro y0 y1 y2 y3 y4 y5 y6 y7 y8 y9 y10 y11 y12 y13 y14 y15
   unfold spec_IsGame.l0
   repeat' first
   | (with_reducible exact ih0 _ _ _ _ _ _ _ _ _ _ _ _ _ _ _)
   | (with_reducible exact ih1 _ _ _ _ _ _ _ _ _ _ _ _ _ _ _ _)
   | (with_reducible exact spec_IsHand.mono _ _)
   | (with_reducible exact spec_IsRules.mono _ _ _ _ _ _ _ _ _)
   | (with_reducible exact LeO.refl _)
   | (with_reducible exact LeO.none _)
   | (with_reducible refine LeO.ite ?_ ?_)
   | (with_reducible refine LeO.bind ?_ (fun _ => ?_))
   | exact ih0 _ _ _ _ _ _ _ _ _ _ _ _ _ _ _
   | exact ih1 _ _ _ _ _ _ _ _ _ _ _ _ _ _ _ _
   | exact spec_IsHand.mono _ _
   | exact spec_IsRules.mono _ _ _ _ _ _ _ _ _
   | exact LeO.none _
   | refine LeO.ite ?_ ?_
   | refine LeO.bind ?_ (fun _ => ?_)
theorem spec_IsGame.mono : ∀ a0 a1 a2 a3 a4 a5 a6 a7 a8 a9 a10 a11 a12 a13 k, LeO (spec_IsGame.f k a0 a1 a2 a3 a4 a5 a6 a7 a8 a9 a10 a11 a12 a13) (spec_IsGame.f (k + 1) a0 a1 a2 a3 a4 a5 a6 a7 a8 a9 a10 a11 a12 a13) := by
 intro a0 a1 a2 a3 a4 a5 a6 a7 a8 a9 a10 a11 a12 a13 k
 obtain ⟨ih0, ih1⟩ := spec_IsGame.mono_l k
 unfold spec_IsGame.f
 repeat' first
   | (with_reducible exact ih0 _ _ _ _ _ _ _ _ _ _ _ _ _ _ _)
   | (with_reducible exact ih1 _ _ _ _ _ _ _ _ _ _ _ _ _ _ _ _)
   | (with_reducible exact spec_IsHand.mono _ _)
   | (with_reducible exact spec_IsRules.mono _ _ _ _ _ _ _ _ _)
   | (with_reducible exact LeO.refl _)
   | (with_reducible exact LeO.none _)
   | (with_reducible refine LeO.ite ?_ ?_)
   | (with_reducible refine LeO.bind ?_ (fun _ => ?_))
   | exact ih0 _ _ _ _ _ _ _ _ _ _ _ _ _ _ _
   | exact ih1 _ _ _ _ _ _ _ _ _ _ _ _ _ _ _ _
   | exact spec_IsHand.mono _ _
   | exact spec_IsRules.mono _ _ _ _ _ _ _ _ _
   | exact LeO.none _
   | refine LeO.ite ?_ ?_
   | refine LeO.bind ?_ (fun _ => ?_)
def spec_IsGame.T3 : Bool × List (List Nat × List Nat) := (true, [([], []), ([], []), ([1], [1]), ([0, 2], [0, 2]), ([], []), ([4], [4]), ([3, 5, 3], [3, 5]), ([6, 6, 0, 1, 2, 3, 4, 5, 6], [6])])
def spec_IsGame.B3 : List Nat := [0, 0, 2, 7, 0, 16, 63, 127]
theorem spec_IsGame.tab3 : rtab .any (opsOf Try.f44 3) = spec_IsGame.T3 := by kernel_rfl
theorem spec_IsGame.bits3 : waitsOk spec_IsGame.T3.2 spec_IsGame.B3 = true := by kernel_rfl
set_option maxHeartbeats 8000000 in
set_option maxRecDepth 100000 in
theorem spec_IsGame.calls (k : Nat) (a0_0 : Int) (a0_1 : Int) (a0_2 : Bool) (a0_3 : Bool) (A0_4 : Option Addr) (c0_4 : Nat) (l0_4 : List Int) (A0_5 : Option Addr) (c0_5 : Nat) (l0_5 : List Int) (a0_6 : Int) (a0_7 : Int) (A0_8 : Option Addr) (c0_8 : Nat) (l0_8 : List (List Int)) (A0_9 : Option Addr) (c0_9 : Nat) (l0_9 : List Int) (A0_10 : Option Addr) (c0_10 : Nat) (l0_10 : List Int) (a0_11 : Int) (a0_12 : Int) (a0_13 : Int) (r : Bool) (w : World) (hr0_4 : Kd.C (Kd.int .i64) w A0_4 l0_4.length l0_4) (hc0_4 : l0_4.length ≤ c0_4) (hr0_5 : Kd.C (Kd.int .i64) w A0_5 l0_5.length l0_5) (hc0_5 : l0_5.length ≤ c0_5) (hr0_8 : Kd.C (Kd.slice 3 (Kd.int .i64)) w A0_8 l0_8.length l0_8) (hc0_8 : l0_8.length ≤ c0_8) (hr0_9 : Kd.C (Kd.int .i64) w A0_9 l0_9.length l0_9) (hc0_9 : l0_9.length ≤ c0_9) (hr0_10 : Kd.C (Kd.int .i64) w A0_10 l0_10.length l0_10) (hc0_10 : l0_10.length ≤ c0_10) (h : spec_IsGame.f k a0_0 a0_1 a0_2 a0_3 l0_4 l0_5 a0_6 a0_7 l0_8 l0_9 l0_10 a0_11 a0_12 a0_13 = some r) :
  Calls Try.prog 44 #[.agg #[.int .i64 a0_0, .int .i64 a0_1, .bool a0_2, .bool a0_3, .slice A0_4 l0_4.length c0_4, .slice A0_5 l0_5.length c0_5, .int .i64 a0_6, .int .i64 a0_7, .slice A0_8 l0_8.length c0_8, .slice A0_9 l0_9.length c0_9, .slice A0_10 l0_10.length c0_10, .int .i64 a0_11, .int .i64 a0_12, .int .i64 a0_13]] w fun e w' => e = .returned (.bool r) ∧ Below w.heap.size w w' := by
 have hu59 := Try.underlying59
 have hu41 := Try.underlying41
 have HR0_4 := QK hr0_4
 have HC0_4 := QK hc0_4
 clear hr0_4 hc0_4
 have HR0_5 := QK hr0_5
 have HC0_5 := QK hc0_5
 clear hr0_5 hc0_5
 have HR0_8 := QK hr0_8
 have HC0_8 := QK hc0_8
 clear hr0_8 hc0_8
 have HR0_9 := QK hr0_9
 have HC0_9 := QK hc0_9
 clear hr0_9 hc0_9
 have HR0_10 := QK hr0_10
 have HC0_10 := QK hc0_10
 clear hr0_10 hc0_10
 have HB := QK (Below.refl w.heap.size w)
 have H : ((spec_IsRules.f k a0_0 a0_1 a0_2 a0_3 l0_4 l0_5 a0_6 a0_7).bind fun t200 => (if t200 = true then (if (l0_8.length : Int) = a0_0 then (if (l0_10.length : Int) = 0 then (spec_IsGame.j0 k true a0_0 a0_1 a0_2 a0_3 l0_4 l0_5 a0_6 a0_7 l0_8 l0_9 l0_10 a0_11 a0_12 a0_13) else ((spec_l1In.f a0_11 0 (wrap64 (a0_0 - 1))).bind fun t201 => (if t201 = true then ((spec_l1In.f a0_12 0 a0_7).bind fun t202 => (if t202 = true then ((spec_l1In.f a0_13 0 a0_12).bind fun t203 => (spec_IsGame.j0 k (!t203) a0_0 a0_1 a0_2 a0_3 l0_4 l0_5 a0_6 a0_7 l0_8 l0_9 l0_10 a0_11 a0_12 a0_13)) else (spec_IsGame.j0 k true a0_0 a0_1 a0_2 a0_3 l0_4 l0_5 a0_6 a0_7 l0_8 l0_9 l0_10 a0_11 a0_12 a0_13))) else (spec_IsGame.j0 k true a0_0 a0_1 a0_2 a0_3 l0_4 l0_5 a0_6 a0_7 l0_8 l0_9 l0_10 a0_11 a0_12 a0_13)))) else (spec_IsGame.j0 k true a0_0 a0_1 a0_2 a0_3 l0_4 l0_5 a0_6 a0_7 l0_8 l0_9 l0_10 a0_11 a0_12 a0_13)) else (spec_IsGame.j0 k true a0_0 a0_1 a0_2 a0_3 l0_4 l0_5 a0_6 a0_7 l0_8 l0_9 l0_10 a0_11 a0_12 a0_13))) = some r := h
 clear h
 have HC2 := QK H
 clear H
 go_enter Try.func44, Try.ntmps44
 go_upto_region 1 with (first | ((with_reducible refine gate_dst (N := 1) rfl ?_); (try (refine gate_guard (by rfl) ?_; dsimp only)); refine box_event ?hg (N := 1) ?hd (cs := #[.int .i64 a0_0, .int .i64 a0_1, .bool a0_2, .bool a0_3, .slice A0_4 l0_4.length c0_4, .slice A0_5 l0_5.length c0_5, .int .i64 a0_6, .int .i64 a0_7, .slice A0_8 l0_8.length c0_8, .slice A0_9 l0_9.length c0_9, .slice A0_10 l0_10.length c0_10, .int .i64 a0_11, .int .i64 a0_12, .int .i64 a0_13]) (t := 59) ?hr ?_; (case hd => rfl); (case hg => rfl); (case hr => first | (go_simp; done) | (go_simp; rfl)); intro gb199 hg w3 hbox hb; have n0_ := QK (below_step (by repeat (first | (with_reducible first | exact HB.out | apply QF | apply QD | apply QE) | exact HB.out)) hb); have n1_ := QK (hbox); have n2_ := QK ((by rw [hg]; exact (below_size (by repeat (first | (with_reducible first | exact HB.out | apply QF | apply QD | apply QE) | exact HB.out))) : w.heap.size ≤ gb199)); have n3_ := QK ((by rw [hg]; exact (below_size (by repeat (first | (with_reducible first | exact HB.out | apply QF | apply QD | apply QE) | exact HB.out))) : w.heap.size ≤ gb199)); clear HB; have HB := n0_; have BK199 := n1_; have GW199 := n2_; have GE199 := n3_; clear n0_ n1_ n2_ n3_; clear hb hbox hg))
 (try simp only [Act.put, List.setIfInBounds_toArray, List.set_cons_zero, List.set_cons_succ])
 go_cut [50] (fun v50 wc => ∃ (kq : Nat) (x50_1 : Bool), v50 = .bool x50_1 ∧ Aside0 (spec_IsGame.j0 kq x50_1 a0_0 a0_1 a0_2 a0_3 l0_4 l0_5 a0_6 a0_7 l0_8 l0_9 l0_10 a0_11 a0_12 a0_13 = some r) ∧ Aside0 (kq ≤ k) ∧ Aside0 (wc.heap[gb199]? = some (.cells #[.int .i64 a0_0, .int .i64 a0_1, .bool a0_2, .bool a0_3, (.slice A0_4 l0_4.length c0_4), (.slice A0_5 l0_5.length c0_5), .int .i64 a0_6, .int .i64 a0_7, (.slice A0_8 l0_8.length c0_8), (.slice A0_9 l0_9.length c0_9), (.slice A0_10 l0_10.length c0_10), .int .i64 a0_11, .int .i64 a0_12, .int .i64 a0_13] 59 (0, 0))) ∧ Aside0 (Below w.heap.size w wc))
 case first =>
  have H := HC2.out
  clear HC2
  replace H := QL.mp H
  obtain ⟨t200, A40, H⟩ := H
  have A4 := QK A40
  clear A40
  by_cases c5 : t200 = true
  ·subst c5
   rw [if_pos rfl] at H
   by_cases c6 : (l0_8.length : Int) = a0_0
   ·rw [if_pos c6] at H
    have c6b0 : ((l0_8.length : Int) == a0_0) = true := beq_iff_eq.mpr c6
    have c6b1 : ((l0_8.length : Int) != a0_0) = false := bne_eq_false_iff_eq.mpr c6
    clear c6
    (first | rw [c6b0] | (simp only [i64_w, i32_w]; rw [c6b0]) | skip)
    by_cases c7 : (l0_10.length : Int) = 0
    rotate_left
    rw [if_neg c7] at H
    have c7b0 : ((l0_10.length : Int) == 0) = false := beq_eq_false_iff_ne.mpr c7
    have c7b1 : ((l0_10.length : Int) != 0) = true := bne_iff_ne.mpr c7
    have c7b2 : ¬ (l0_10 = []) := fun h_ => c7 (by rw [h_]; rfl)
    replace H := QL.mp H
    obtain ⟨t201, A110, H⟩ := H
    have A11 := QK A110
    clear A110
    by_cases c12 : t201 = true
    rotate_left
    replace c12 := Bool.eq_false_iff.mpr c12
    subst c12
    rw [if_neg (show ¬ (false = true) by decide)] at H
    have H' := QK H
    clear H
    rotate_right
    subst c12
    rw [if_pos rfl] at H
    replace H := QL.mp H
    obtain ⟨t202, A130, H⟩ := H
    have A13 := QK A130
    clear A130
    by_cases c14 : t202 = true
    rotate_left
    replace c14 := Bool.eq_false_iff.mpr c14
    subst c14
    rw [if_neg (show ¬ (false = true) by decide)] at H
    have H' := QK H
    clear H
    rotate_right
    subst c14
    rw [if_pos rfl] at H
    replace H := QL.mp H
    obtain ⟨t203, A150, H⟩ := H
    have A15 := QK A150
    clear A150
    have H' := QK H
    clear H
    rotate_right
    rw [if_pos c7] at H
    have c7b0 : ((l0_10.length : Int) == 0) = true := beq_iff_eq.mpr c7
    have c7b1 : ((l0_10.length : Int) != 0) = false := bne_eq_false_iff_eq.mpr c7
    clear c7
    have H' := QK H
    clear H
    all_goals
     have hcz16_0 : w3.cell? ⟨gb199, 0, none⟩ = some (.int .i64 a0_0) := (QB BK199.out 0).trans rfl
     have hcz16_1 : w3.cell? ⟨gb199, 1, none⟩ = some (.int .i64 a0_1) := (QB BK199.out 1).trans rfl
     have hcz16_2 : w3.cell? ⟨gb199, 2, none⟩ = some (.bool a0_2) := (QB BK199.out 2).trans rfl
     have hcz16_3 : w3.cell? ⟨gb199, 3, none⟩ = some (.bool a0_3) := (QB BK199.out 3).trans rfl
     have hcz16_4 : w3.cell? ⟨gb199, 4, none⟩ = some (.slice A0_4 l0_4.length c0_4) := (QB BK199.out 4).trans rfl
     have hcz16_5 : w3.cell? ⟨gb199, 5, none⟩ = some (.slice A0_5 l0_5.length c0_5) := (QB BK199.out 5).trans rfl
     have hcz16_6 : w3.cell? ⟨gb199, 6, none⟩ = some (.int .i64 a0_6) := (QB BK199.out 6).trans rfl
     have hcz16_7 : w3.cell? ⟨gb199, 7, none⟩ = some (.int .i64 a0_7) := (QB BK199.out 7).trans rfl
     have hcz16_8 : w3.cell? ⟨gb199, 8, none⟩ = some (.slice A0_8 l0_8.length c0_8) := (QB BK199.out 8).trans rfl
     have hcz16_9 : w3.cell? ⟨gb199, 9, none⟩ = some (.slice A0_9 l0_9.length c0_9) := (QB BK199.out 9).trans rfl
     have hcz16_10 : w3.cell? ⟨gb199, 10, none⟩ = some (.slice A0_10 l0_10.length c0_10) := (QB BK199.out 10).trans rfl
     have hcz16_11 : w3.cell? ⟨gb199, 11, none⟩ = some (.int .i64 a0_11) := (QB BK199.out 11).trans rfl
     have hcz16_12 : w3.cell? ⟨gb199, 12, none⟩ = some (.int .i64 a0_12) := (QB BK199.out 12).trans rfl
     have hcz16_13 : w3.cell? ⟨gb199, 13, none⟩ = some (.int .i64 a0_13) := (QB BK199.out 13).trans rfl
     have hfz16_0 := QC BK199.out 0
     have hfz16_1 := QC BK199.out 1
     have hfz16_2 := QC BK199.out 2
     have hfz16_3 := QC BK199.out 3
     have hfz16_4 := QC BK199.out 4
     have hfz16_5 := QC BK199.out 5
     have hfz16_6 := QC BK199.out 6
     have hfz16_7 := QC BK199.out 7
     have hfz16_8 := QC BK199.out 8
     have hfz16_9 := QC BK199.out 9
     have hfz16_10 := QC BK199.out 10
     have hfz16_11 := QC BK199.out 11
     have hfz16_12 := QC BK199.out 12
     have hfz16_13 := QC BK199.out 13
     go_wp2_with (first | ((with_reducible refine QH (f := 107) rfl ?_); refine goesL_ (some 7) rfl rfl Try.func107 (by kernel_rfl) rfl #[.agg #[.int .i64 a0_0, .int .i64 a0_1, .bool a0_2, .bool a0_3, .slice A0_4 l0_4.length c0_4, .slice A0_5 l0_5.length c0_5, .int .i64 a0_6, .int .i64 a0_7]] rfl (by (try simp only [List.map_toArray, List.map_cons, List.map_nil]); first | done | rfl | (simp only [List.length_drop, List.length_take]; rfl)) ?_; (with_reducible refine (spec_IsRules.calls k a0_0 a0_1 a0_2 a0_3 _ _ l0_4 _ _ l0_5 a0_6 a0_7 true _ ?side1 ?side2 ?side3 ?side4 A4.out).mono ?_); (case side1 => repeat (first | exact (Kd.C_below HR0_4.out HB.out) | (with_reducible refine QI ?_ _) | (with_reducible refine QJ ?_ _) | (with_reducible refine Kd.C_drew ?_))); (case side2 => exact HC0_4.out); (case side3 => repeat (first | exact (Kd.C_below HR0_5.out HB.out) | (with_reducible refine QI ?_ _) | (with_reducible refine QJ ?_ _) | (with_reducible refine Kd.C_drew ?_))); (case side4 => exact HC0_5.out); rintro e w17 ⟨rfl, hb⟩; refine ⟨_, rfl, ?_⟩; have n0_ := QK (blk_below (g := gb199) (o := .cells #[.int .i64 a0_0, .int .i64 a0_1, .bool a0_2, .bool a0_3, .slice A0_4 l0_4.length c0_4, .slice A0_5 l0_5.length c0_5, .int .i64 a0_6, .int .i64 a0_7, .slice A0_8 l0_8.length c0_8, .slice A0_9 l0_9.length c0_9, .slice A0_10 l0_10.length c0_10, .int .i64 a0_11, .int .i64 a0_12, .int .i64 a0_13] 59 (0, 0)) (by (with_reducible repeat (first | refine blk_drewN ?_ _ | refine blk_drew ?_ | refine blk_alloc ?_ _)); exact BK199.out) hb); have n1_ := QK (below_step (by repeat (first | (with_reducible first | exact HB.out | apply QF | apply QD | apply QE | refine QG ?_ GE199.out) | exact HB.out)) hb); clear BK199; clear HB; have BK199 := n0_; have HB := n1_; clear n0_ n1_; (try clear hb); (try clear hb2); (try clear hk); (try clear hi); have hcz18_0 : w17.cell? ⟨gb199, 0, none⟩ = some (.int .i64 a0_0) := (QB BK199.out 0).trans rfl; have hcz18_1 : w17.cell? ⟨gb199, 1, none⟩ = some (.int .i64 a0_1) := (QB BK199.out 1).trans rfl; have hcz18_2 : w17.cell? ⟨gb199, 2, none⟩ = some (.bool a0_2) := (QB BK199.out 2).trans rfl; have hcz18_3 : w17.cell? ⟨gb199, 3, none⟩ = some (.bool a0_3) := (QB BK199.out 3).trans rfl; have hcz18_4 : w17.cell? ⟨gb199, 4, none⟩ = some (.slice A0_4 l0_4.length c0_4) := (QB BK199.out 4).trans rfl; have hcz18_5 : w17.cell? ⟨gb199, 5, none⟩ = some (.slice A0_5 l0_5.length c0_5) := (QB BK199.out 5).trans rfl; have hcz18_6 : w17.cell? ⟨gb199, 6, none⟩ = some (.int .i64 a0_6) := (QB BK199.out 6).trans rfl; have hcz18_7 : w17.cell? ⟨gb199, 7, none⟩ = some (.int .i64 a0_7) := (QB BK199.out 7).trans rfl; have hcz18_8 : w17.cell? ⟨gb199, 8, none⟩ = some (.slice A0_8 l0_8.length c0_8) := (QB BK199.out 8).trans rfl; have hcz18_9 : w17.cell? ⟨gb199, 9, none⟩ = some (.slice A0_9 l0_9.length c0_9) := (QB BK199.out 9).trans rfl; have hcz18_10 : w17.cell? ⟨gb199, 10, none⟩ = some (.slice A0_10 l0_10.length c0_10) := (QB BK199.out 10).trans rfl; have hcz18_11 : w17.cell? ⟨gb199, 11, none⟩ = some (.int .i64 a0_11) := (QB BK199.out 11).trans rfl; have hcz18_12 : w17.cell? ⟨gb199, 12, none⟩ = some (.int .i64 a0_12) := (QB BK199.out 12).trans rfl; have hcz18_13 : w17.cell? ⟨gb199, 13, none⟩ = some (.int .i64 a0_13) := (QB BK199.out 13).trans rfl; have hfz18_0 := QC BK199.out 0; have hfz18_1 := QC BK199.out 1; have hfz18_2 := QC BK199.out 2; have hfz18_3 := QC BK199.out 3; have hfz18_4 := QC BK199.out 4; have hfz18_5 := QC BK199.out 5; have hfz18_6 := QC BK199.out 6; have hfz18_7 := QC BK199.out 7; have hfz18_8 := QC BK199.out 8; have hfz18_9 := QC BK199.out 9; have hfz18_10 := QC BK199.out 10; have hfz18_11 := QC BK199.out 11; have hfz18_12 := QC BK199.out 12; have hfz18_13 := QC BK199.out 13) | (go_at_call 99; (with_reducible refine (spec_l1In.calls a0_11 0 (wrap64 (a0_0 - 1)) _ _ A11.out).mono ?_); rintro e w' ⟨rfl, ⟨nd, rfl⟩⟩) | (go_at_call 99; (with_reducible refine (spec_l1In.calls a0_12 0 a0_7 _ _ A13.out).mono ?_); rintro e w' ⟨rfl, ⟨nd, rfl⟩⟩) | (go_at_call 99; (with_reducible refine (spec_l1In.calls a0_13 0 a0_12 t203 _ A15.out).mono ?_); rintro e w' ⟨rfl, ⟨nd, rfl⟩⟩))
     go_meet
     case rel => exact ⟨_, _, (by first | rfl | (simp; done) | (simp [*]; done)), H', ⟨by first | omega | exact Nat.le_refl _⟩, ⟨by (with_reducible repeat (first | refine blk_drewN ?_ _ | refine blk_drew ?_ | refine blk_alloc ?_ _)); exact BK199.out⟩, ⟨by repeat (first | (with_reducible first | exact HB.out | apply QF | apply QD | apply QE | refine QG ?_ GE199.out) | exact HB.out)⟩⟩
   ·rw [if_neg c6] at H
    have c6b0 : ((l0_8.length : Int) == a0_0) = false := beq_eq_false_iff_ne.mpr c6
    have c6b1 : ((l0_8.length : Int) != a0_0) = true := bne_iff_ne.mpr c6
    (first | rw [c6b0] | (simp only [i64_w, i32_w]; rw [c6b0]) | skip)
    have H' := QK H
    clear H
    have hcz25_0 : w3.cell? ⟨gb199, 0, none⟩ = some (.int .i64 a0_0) := (QB BK199.out 0).trans rfl
    have hcz25_1 : w3.cell? ⟨gb199, 1, none⟩ = some (.int .i64 a0_1) := (QB BK199.out 1).trans rfl
    have hcz25_2 : w3.cell? ⟨gb199, 2, none⟩ = some (.bool a0_2) := (QB BK199.out 2).trans rfl
    have hcz25_3 : w3.cell? ⟨gb199, 3, none⟩ = some (.bool a0_3) := (QB BK199.out 3).trans rfl
    have hcz25_4 : w3.cell? ⟨gb199, 4, none⟩ = some (.slice A0_4 l0_4.length c0_4) := (QB BK199.out 4).trans rfl
    have hcz25_5 : w3.cell? ⟨gb199, 5, none⟩ = some (.slice A0_5 l0_5.length c0_5) := (QB BK199.out 5).trans rfl
    have hcz25_6 : w3.cell? ⟨gb199, 6, none⟩ = some (.int .i64 a0_6) := (QB BK199.out 6).trans rfl
    have hcz25_7 : w3.cell? ⟨gb199, 7, none⟩ = some (.int .i64 a0_7) := (QB BK199.out 7).trans rfl
    have hcz25_8 : w3.cell? ⟨gb199, 8, none⟩ = some (.slice A0_8 l0_8.length c0_8) := (QB BK199.out 8).trans rfl
    have hcz25_9 : w3.cell? ⟨gb199, 9, none⟩ = some (.slice A0_9 l0_9.length c0_9) := (QB BK199.out 9).trans rfl
    have hcz25_10 : w3.cell? ⟨gb199, 10, none⟩ = some (.slice A0_10 l0_10.length c0_10) := (QB BK199.out 10).trans rfl
    have hcz25_11 : w3.cell? ⟨gb199, 11, none⟩ = some (.int .i64 a0_11) := (QB BK199.out 11).trans rfl
    have hcz25_12 : w3.cell? ⟨gb199, 12, none⟩ = some (.int .i64 a0_12) := (QB BK199.out 12).trans rfl
    have hcz25_13 : w3.cell? ⟨gb199, 13, none⟩ = some (.int .i64 a0_13) := (QB BK199.out 13).trans rfl
    have hfz25_0 := QC BK199.out 0
    have hfz25_1 := QC BK199.out 1
    have hfz25_2 := QC BK199.out 2
    have hfz25_3 := QC BK199.out 3
    have hfz25_4 := QC BK199.out 4
    have hfz25_5 := QC BK199.out 5
    have hfz25_6 := QC BK199.out 6
    have hfz25_7 := QC BK199.out 7
    have hfz25_8 := QC BK199.out 8
    have hfz25_9 := QC BK199.out 9
    have hfz25_10 := QC BK199.out 10
    have hfz25_11 := QC BK199.out 11
    have hfz25_12 := QC BK199.out 12
    have hfz25_13 := QC BK199.out 13
    go_wp2_with (first | ((with_reducible refine QH (f := 107) rfl ?_); refine goesL_ (some 7) rfl rfl Try.func107 (by kernel_rfl) rfl #[.agg #[.int .i64 a0_0, .int .i64 a0_1, .bool a0_2, .bool a0_3, .slice A0_4 l0_4.length c0_4, .slice A0_5 l0_5.length c0_5, .int .i64 a0_6, .int .i64 a0_7]] rfl (by (try simp only [List.map_toArray, List.map_cons, List.map_nil]); first | done | rfl | (simp only [List.length_drop, List.length_take]; rfl)) ?_; (with_reducible refine (spec_IsRules.calls k a0_0 a0_1 a0_2 a0_3 _ _ l0_4 _ _ l0_5 a0_6 a0_7 true _ ?side1 ?side2 ?side3 ?side4 A4.out).mono ?_); (case side1 => repeat (first | exact (Kd.C_below HR0_4.out HB.out) | (with_reducible refine QI ?_ _) | (with_reducible refine QJ ?_ _) | (with_reducible refine Kd.C_drew ?_))); (case side2 => exact HC0_4.out); (case side3 => repeat (first | exact (Kd.C_below HR0_5.out HB.out) | (with_reducible refine QI ?_ _) | (with_reducible refine QJ ?_ _) | (with_reducible refine Kd.C_drew ?_))); (case side4 => exact HC0_5.out); rintro e w26 ⟨rfl, hb⟩; refine ⟨_, rfl, ?_⟩; have n0_ := QK (blk_below (g := gb199) (o := .cells #[.int .i64 a0_0, .int .i64 a0_1, .bool a0_2, .bool a0_3, .slice A0_4 l0_4.length c0_4, .slice A0_5 l0_5.length c0_5, .int .i64 a0_6, .int .i64 a0_7, .slice A0_8 l0_8.length c0_8, .slice A0_9 l0_9.length c0_9, .slice A0_10 l0_10.length c0_10, .int .i64 a0_11, .int .i64 a0_12, .int .i64 a0_13] 59 (0, 0)) (by (with_reducible repeat (first | refine blk_drewN ?_ _ | refine blk_drew ?_ | refine blk_alloc ?_ _)); exact BK199.out) hb); have n1_ := QK (below_step (by repeat (first | (with_reducible first | exact HB.out | apply QF | apply QD | apply QE | refine QG ?_ GE199.out) | exact HB.out)) hb); clear BK199; clear HB; have BK199 := n0_; have HB := n1_; clear n0_ n1_; (try clear hb); (try clear hb2); (try clear hk); (try clear hi); have hcz27_0 : w26.cell? ⟨gb199, 0, none⟩ = some (.int .i64 a0_0) := (QB BK199.out 0).trans rfl; have hcz27_1 : w26.cell? ⟨gb199, 1, none⟩ = some (.int .i64 a0_1) := (QB BK199.out 1).trans rfl; have hcz27_2 : w26.cell? ⟨gb199, 2, none⟩ = some (.bool a0_2) := (QB BK199.out 2).trans rfl; have hcz27_3 : w26.cell? ⟨gb199, 3, none⟩ = some (.bool a0_3) := (QB BK199.out 3).trans rfl; have hcz27_4 : w26.cell? ⟨gb199, 4, none⟩ = some (.slice A0_4 l0_4.length c0_4) := (QB BK199.out 4).trans rfl; have hcz27_5 : w26.cell? ⟨gb199, 5, none⟩ = some (.slice A0_5 l0_5.length c0_5) := (QB BK199.out 5).trans rfl; have hcz27_6 : w26.cell? ⟨gb199, 6, none⟩ = some (.int .i64 a0_6) := (QB BK199.out 6).trans rfl; have hcz27_7 : w26.cell? ⟨gb199, 7, none⟩ = some (.int .i64 a0_7) := (QB BK199.out 7).trans rfl; have hcz27_8 : w26.cell? ⟨gb199, 8, none⟩ = some (.slice A0_8 l0_8.length c0_8) := (QB BK199.out 8).trans rfl; have hcz27_9 : w26.cell? ⟨gb199, 9, none⟩ = some (.slice A0_9 l0_9.length c0_9) := (QB BK199.out 9).trans rfl; have hcz27_10 : w26.cell? ⟨gb199, 10, none⟩ = some (.slice A0_10 l0_10.length c0_10) := (QB BK199.out 10).trans rfl; have hcz27_11 : w26.cell? ⟨gb199, 11, none⟩ = some (.int .i64 a0_11) := (QB BK199.out 11).trans rfl; have hcz27_12 : w26.cell? ⟨gb199, 12, none⟩ = some (.int .i64 a0_12) := (QB BK199.out 12).trans rfl; have hcz27_13 : w26.cell? ⟨gb199, 13, none⟩ = some (.int .i64 a0_13) := (QB BK199.out 13).trans rfl; have hfz27_0 := QC BK199.out 0; have hfz27_1 := QC BK199.out 1; have hfz27_2 := QC BK199.out 2; have hfz27_3 := QC BK199.out 3; have hfz27_4 := QC BK199.out 4; have hfz27_5 := QC BK199.out 5; have hfz27_6 := QC BK199.out 6; have hfz27_7 := QC BK199.out 7; have hfz27_8 := QC BK199.out 8; have hfz27_9 := QC BK199.out 9; have hfz27_10 := QC BK199.out 10; have hfz27_11 := QC BK199.out 11; have hfz27_12 := QC BK199.out 12; have hfz27_13 := QC BK199.out 13))
    go_meet
    case rel => exact ⟨_, (true), (by first | rfl | (simp; done) | (simp [*]; done)), H', ⟨by first | omega | exact Nat.le_refl _⟩, ⟨by (with_reducible repeat (first | refine blk_drewN ?_ _ | refine blk_drew ?_ | refine blk_alloc ?_ _)); exact BK199.out⟩, ⟨by repeat (first | (with_reducible first | exact HB.out | apply QF | apply QD | apply QE | refine QG ?_ GE199.out) | exact HB.out)⟩⟩
  ·replace c5 := Bool.eq_false_iff.mpr c5
   subst c5
   rw [if_neg (show ¬ (false = true) by decide)] at H
   have H' := QK H
   clear H
   have hcz28_0 : w3.cell? ⟨gb199, 0, none⟩ = some (.int .i64 a0_0) := (QB BK199.out 0).trans rfl
   have hcz28_1 : w3.cell? ⟨gb199, 1, none⟩ = some (.int .i64 a0_1) := (QB BK199.out 1).trans rfl
   have hcz28_2 : w3.cell? ⟨gb199, 2, none⟩ = some (.bool a0_2) := (QB BK199.out 2).trans rfl
   have hcz28_3 : w3.cell? ⟨gb199, 3, none⟩ = some (.bool a0_3) := (QB BK199.out 3).trans rfl
   have hcz28_4 : w3.cell? ⟨gb199, 4, none⟩ = some (.slice A0_4 l0_4.length c0_4) := (QB BK199.out 4).trans rfl
   have hcz28_5 : w3.cell? ⟨gb199, 5, none⟩ = some (.slice A0_5 l0_5.length c0_5) := (QB BK199.out 5).trans rfl
   have hcz28_6 : w3.cell? ⟨gb199, 6, none⟩ = some (.int .i64 a0_6) := (QB BK199.out 6).trans rfl
   have hcz28_7 : w3.cell? ⟨gb199, 7, none⟩ = some (.int .i64 a0_7) := (QB BK199.out 7).trans rfl
   have hcz28_8 : w3.cell? ⟨gb199, 8, none⟩ = some (.slice A0_8 l0_8.length c0_8) := (QB BK199.out 8).trans rfl
   have hcz28_9 : w3.cell? ⟨gb199, 9, none⟩ = some (.slice A0_9 l0_9.length c0_9) := (QB BK199.out 9).trans rfl
   have hcz28_10 : w3.cell? ⟨gb199, 10, none⟩ = some (.slice A0_10 l0_10.length c0_10) := (QB BK199.out 10).trans rfl
   have hcz28_11 : w3.cell? ⟨gb199, 11, none⟩ = some (.int .i64 a0_11) := (QB BK199.out 11).trans rfl
   have hcz28_12 : w3.cell? ⟨gb199, 12, none⟩ = some (.int .i64 a0_12) := (QB BK199.out 12).trans rfl
   have hcz28_13 : w3.cell? ⟨gb199, 13, none⟩ = some (.int .i64 a0_13) := (QB BK199.out 13).trans rfl
   have hfz28_0 := QC BK199.out 0
   have hfz28_1 := QC BK199.out 1
   have hfz28_2 := QC BK199.out 2
   have hfz28_3 := QC BK199.out 3
   have hfz28_4 := QC BK199.out 4
   have hfz28_5 := QC BK199.out 5
   have hfz28_6 := QC BK199.out 6
   have hfz28_7 := QC BK199.out 7
   have hfz28_8 := QC BK199.out 8
   have hfz28_9 := QC BK199.out 9
   have hfz28_10 := QC BK199.out 10
   have hfz28_11 := QC BK199.out 11
   have hfz28_12 := QC BK199.out 12
   have hfz28_13 := QC BK199.out 13
   go_wp2_with (first | ((with_reducible refine QH (f := 107) rfl ?_); refine goesL_ (some 7) rfl rfl Try.func107 (by kernel_rfl) rfl #[.agg #[.int .i64 a0_0, .int .i64 a0_1, .bool a0_2, .bool a0_3, .slice A0_4 l0_4.length c0_4, .slice A0_5 l0_5.length c0_5, .int .i64 a0_6, .int .i64 a0_7]] rfl (by (try simp only [List.map_toArray, List.map_cons, List.map_nil]); first | done | rfl | (simp only [List.length_drop, List.length_take]; rfl)) ?_; (with_reducible refine (spec_IsRules.calls k a0_0 a0_1 a0_2 a0_3 _ _ l0_4 _ _ l0_5 a0_6 a0_7 false _ ?side1 ?side2 ?side3 ?side4 A4.out).mono ?_); (case side1 => repeat (first | exact (Kd.C_below HR0_4.out HB.out) | (with_reducible refine QI ?_ _) | (with_reducible refine QJ ?_ _) | (with_reducible refine Kd.C_drew ?_))); (case side2 => exact HC0_4.out); (case side3 => repeat (first | exact (Kd.C_below HR0_5.out HB.out) | (with_reducible refine QI ?_ _) | (with_reducible refine QJ ?_ _) | (with_reducible refine Kd.C_drew ?_))); (case side4 => exact HC0_5.out); rintro e w29 ⟨rfl, hb⟩; refine ⟨_, rfl, ?_⟩; have n0_ := QK (blk_below (g := gb199) (o := .cells #[.int .i64 a0_0, .int .i64 a0_1, .bool a0_2, .bool a0_3, .slice A0_4 l0_4.length c0_4, .slice A0_5 l0_5.length c0_5, .int .i64 a0_6, .int .i64 a0_7, .slice A0_8 l0_8.length c0_8, .slice A0_9 l0_9.length c0_9, .slice A0_10 l0_10.length c0_10, .int .i64 a0_11, .int .i64 a0_12, .int .i64 a0_13] 59 (0, 0)) (by (with_reducible repeat (first | refine blk_drewN ?_ _ | refine blk_drew ?_ | refine blk_alloc ?_ _)); exact BK199.out) hb); have n1_ := QK (below_step (by repeat (first | (with_reducible first | exact HB.out | apply QF | apply QD | apply QE | refine QG ?_ GE199.out) | exact HB.out)) hb); clear BK199; clear HB; have BK199 := n0_; have HB := n1_; clear n0_ n1_; (try clear hb); (try clear hb2); (try clear hk); (try clear hi)))
   go_meet
   case rel => exact ⟨_, (true), (by first | rfl | (simp; done) | (simp [*]; done)), H', ⟨by first | omega | exact Nat.le_refl _⟩, ⟨by (with_reducible repeat (first | refine blk_drewN ?_ _ | refine blk_drew ?_ | refine blk_alloc ?_ _)); exact BK199.out⟩, ⟨by repeat (first | (with_reducible first | exact HB.out | apply QF | apply QD | apply QE | refine QG ?_ GE199.out) | exact HB.out)⟩⟩
 case rest =>
  clear HC2
  try clear c1
  try clear p2
  try clear c4
  try clear c5
  try clear c6
  try clear c6b0
  try clear c6b1
  try clear p6
  try clear c7
  try clear c7b0
  try clear c7b1
  try clear c7b2
  try clear c10
  try clear c12
  try clear c14
  try clear hcz10_0
  try clear hcz10_1
  try clear hcz10_10
  try clear hcz10_11
  try clear hcz10_12
  try clear hcz10_13
  try clear hcz10_2
  try clear hcz10_3
  try clear hcz10_4
  try clear hcz10_5
  try clear hcz10_6
  try clear hcz10_7
  try clear hcz10_8
  try clear hcz10_9
  try clear hcz16_0
  try clear hcz16_1
  try clear hcz16_10
  try clear hcz16_11
  try clear hcz16_12
  try clear hcz16_13
  try clear hcz16_2
  try clear hcz16_3
  try clear hcz16_4
  try clear hcz16_5
  try clear hcz16_6
  try clear hcz16_7
  try clear hcz16_8
  try clear hcz16_9
  try clear hcz18_0
  try clear hcz18_1
  try clear hcz18_10
  try clear hcz18_11
  try clear hcz18_12
  try clear hcz18_13
  try clear hcz18_2
  try clear hcz18_3
  try clear hcz18_4
  try clear hcz18_5
  try clear hcz18_6
  try clear hcz18_7
  try clear hcz18_8
  try clear hcz18_9
  try clear hcz19_0
  try clear hcz19_1
  try clear hcz19_10
  try clear hcz19_11
  try clear hcz19_12
  try clear hcz19_13
  try clear hcz19_2
  try clear hcz19_3
  try clear hcz19_4
  try clear hcz19_5
  try clear hcz19_6
  try clear hcz19_7
  try clear hcz19_8
  try clear hcz19_9
  try clear hcz21_0
  try clear hcz21_1
  try clear hcz21_10
  try clear hcz21_11
  try clear hcz21_12
  try clear hcz21_13
  try clear hcz21_2
  try clear hcz21_3
  try clear hcz21_4
  try clear hcz21_5
  try clear hcz21_6
  try clear hcz21_7
  try clear hcz21_8
  try clear hcz21_9
  try clear hcz22_0
  try clear hcz22_1
  try clear hcz22_10
  try clear hcz22_11
  try clear hcz22_12
  try clear hcz22_13
  try clear hcz22_2
  try clear hcz22_3
  try clear hcz22_4
  try clear hcz22_5
  try clear hcz22_6
  try clear hcz22_7
  try clear hcz22_8
  try clear hcz22_9
  try clear hcz24_0
  try clear hcz24_1
  try clear hcz24_10
  try clear hcz24_11
  try clear hcz24_12
  try clear hcz24_13
  try clear hcz24_2
  try clear hcz24_3
  try clear hcz24_4
  try clear hcz24_5
  try clear hcz24_6
  try clear hcz24_7
  try clear hcz24_8
  try clear hcz24_9
  try clear hcz25_0
  try clear hcz25_1
  try clear hcz25_10
  try clear hcz25_11
  try clear hcz25_12
  try clear hcz25_13
  try clear hcz25_2
  try clear hcz25_3
  try clear hcz25_4
  try clear hcz25_5
  try clear hcz25_6
  try clear hcz25_7
  try clear hcz25_8
  try clear hcz25_9
  try clear hcz27_0
  try clear hcz27_1
  try clear hcz27_10
  try clear hcz27_11
  try clear hcz27_12
  try clear hcz27_13
  try clear hcz27_2
  try clear hcz27_3
  try clear hcz27_4
  try clear hcz27_5
  try clear hcz27_6
  try clear hcz27_7
  try clear hcz27_8
  try clear hcz27_9
  try clear hcz28_0
  try clear hcz28_1
  try clear hcz28_10
  try clear hcz28_11
  try clear hcz28_12
  try clear hcz28_13
  try clear hcz28_2
  try clear hcz28_3
  try clear hcz28_4
  try clear hcz28_5
  try clear hcz28_6
  try clear hcz28_7
  try clear hcz28_8
  try clear hcz28_9
  try clear hcz8_0
  try clear hcz8_1
  try clear hcz8_10
  try clear hcz8_11
  try clear hcz8_12
  try clear hcz8_13
  try clear hcz8_2
  try clear hcz8_3
  try clear hcz8_4
  try clear hcz8_5
  try clear hcz8_6
  try clear hcz8_7
  try clear hcz8_8
  try clear hcz8_9
  try clear hfz10_0
  try clear hfz10_1
  try clear hfz10_10
  try clear hfz10_11
  try clear hfz10_12
  try clear hfz10_13
  try clear hfz10_2
  try clear hfz10_3
  try clear hfz10_4
  try clear hfz10_5
  try clear hfz10_6
  try clear hfz10_7
  try clear hfz10_8
  try clear hfz10_9
  try clear hfz16_0
  try clear hfz16_1
  try clear hfz16_10
  try clear hfz16_11
  try clear hfz16_12
  try clear hfz16_13
  try clear hfz16_2
  try clear hfz16_3
  try clear hfz16_4
  try clear hfz16_5
  try clear hfz16_6
  try clear hfz16_7
  try clear hfz16_8
  try clear hfz16_9
  try clear hfz18_0
  try clear hfz18_1
  try clear hfz18_10
  try clear hfz18_11
  try clear hfz18_12
  try clear hfz18_13
  try clear hfz18_2
  try clear hfz18_3
  try clear hfz18_4
  try clear hfz18_5
  try clear hfz18_6
  try clear hfz18_7
  try clear hfz18_8
  try clear hfz18_9
  try clear hfz19_0
  try clear hfz19_1
  try clear hfz19_10
  try clear hfz19_11
  try clear hfz19_12
  try clear hfz19_13
  try clear hfz19_2
  try clear hfz19_3
  try clear hfz19_4
  try clear hfz19_5
  try clear hfz19_6
  try clear hfz19_7
  try clear hfz19_8
  try clear hfz19_9
  try clear hfz21_0
  try clear hfz21_1
  try clear hfz21_10
  try clear hfz21_11
  try clear hfz21_12
  try clear hfz21_13
  try clear hfz21_2
  try clear hfz21_3
  try clear hfz21_4
  try clear hfz21_5
  try clear hfz21_6
  try clear hfz21_7
  try clear hfz21_8
  try clear hfz21_9
  try clear hfz22_0
  try clear hfz22_1
  try clear hfz22_10
  try clear hfz22_11
  try clear hfz22_12
  try clear hfz22_13
  try clear hfz22_2
  try clear hfz22_3
  try clear hfz22_4
  try clear hfz22_5
  try clear hfz22_6
  try clear hfz22_7
  try clear hfz22_8
  try clear hfz22_9
  try clear hfz24_0
  try clear hfz24_1
  try clear hfz24_10
  try clear hfz24_11
  try clear hfz24_12
  try clear hfz24_13
  try clear hfz24_2
  try clear hfz24_3
  try clear hfz24_4
  try clear hfz24_5
  try clear hfz24_6
  try clear hfz24_7
  try clear hfz24_8
  try clear hfz24_9
  try clear hfz25_0
  try clear hfz25_1
  try clear hfz25_10
  try clear hfz25_11
  try clear hfz25_12
  try clear hfz25_13
  try clear hfz25_2
  try clear hfz25_3
  try clear hfz25_4
  try clear hfz25_5
  try clear hfz25_6
  try clear hfz25_7
  try clear hfz25_8
  try clear hfz25_9
  try clear hfz27_0
  try clear hfz27_1
  try clear hfz27_10
  try clear hfz27_11
  try clear hfz27_12
  try clear hfz27_13
  try clear hfz27_2
  try clear hfz27_3
  try clear hfz27_4
  try clear hfz27_5
  try clear hfz27_6
  try clear hfz27_7
  try clear hfz27_8
  try clear hfz27_9
  try clear hfz28_0
  try clear hfz28_1
  try clear hfz28_10
  try clear hfz28_11
  try clear hfz28_12
  try clear hfz28_13
  try clear hfz28_2
  try clear hfz28_3
  try clear hfz28_4
  try clear hfz28_5
  try clear hfz28_6
  try clear hfz28_7
  try clear hfz28_8
  try clear hfz28_9
  try clear hfz8_0
  try clear hfz8_1
  try clear hfz8_10
  try clear hfz8_11
  try clear hfz8_12
  try clear hfz8_13
  try clear hfz8_2
  try clear hfz8_3
  try clear hfz8_4
  try clear hfz8_5
  try clear hfz8_6
  try clear hfz8_7
  try clear hfz8_8
  try clear hfz8_9
  obtain ⟨kq, x50_1, rfl, HA, HJ1, BK199, HB⟩ := hcut
  cases kq with
  | zero => exact absurd HA.out (by simp [spec_IsGame.j0])
  | succ kj1 =>
   have H := HA.out
   clear HA
   simp only [spec_IsGame.j0] at H
   by_cases c30 : x50_1 = true
   ·subst c30
    rw [if_pos rfl] at H
    obtain rfl := Option.some.inj H
    go_wp2
    go_ret
    exact ⟨by first | rfl | (simp [errW_none, errW_some] <;> rfl) | (simp [*, errW_none, errW_some] <;> rfl), by repeat (first | (with_reducible first | exact HB.out | apply QF | apply QD | apply QE | refine QG ?_ GE199.out) | exact HB.out)⟩
   ·replace c30 := Bool.eq_false_iff.mpr c30
    subst c30
    rw [if_neg (show ¬ (false = true) by decide)] at H
    obtain ⟨y204, hy204⟩ : ∃ y_ : List Int, y_ = (([] : List Int)) := ⟨_, rfl⟩
    replace H : (if y204.length + l0_9.length < 17592186044416 then ((some (y204 ++ l0_9 : List Int)).bind fun y207 => (if y207.length + l0_10.length < 17592186044416 then (spec_IsGame.l0 kj1 (y207 ++ l0_10) 0 a0_0 a0_1 a0_2 a0_3 l0_4 l0_5 a0_6 a0_7 l0_8 l0_9 l0_10 a0_11 a0_12 a0_13) else (none))) else (none)) = some r := by first | (rw [hy204]; with_reducible exact H) | (have H2_ := (Option.bind_some _ _).symm.trans H; rw [hy204]; with_reducible exact H2_) | (have H2_ := (Option.bind_some _ _).symm.trans H; with_reducible exact H2_) | with_reducible exact H | (rw [hy204]; exact H) | exact H
    have Ny204 := QK hy204
    clear hy204
    by_cases c31 : y204.length + l0_9.length < 17592186044416
    ·rw [if_pos c31] at H
     have LMc31 := QK c31
     clear c31
     obtain ⟨y207, hy207⟩ : ∃ y_ : List Int, y_ = (y204 ++ l0_9) := ⟨_, rfl⟩
     replace H : (if y207.length + l0_10.length < 17592186044416 then (spec_IsGame.l0 kj1 (y207 ++ l0_10) 0 a0_0 a0_1 a0_2 a0_3 l0_4 l0_5 a0_6 a0_7 l0_8 l0_9 l0_10 a0_11 a0_12 a0_13) else (none)) = some r := by first | (rw [hy207]; with_reducible exact H) | (have H2_ := (Option.bind_some _ _).symm.trans H; rw [hy207]; with_reducible exact H2_) | (have H2_ := (Option.bind_some _ _).symm.trans H; with_reducible exact H2_) | with_reducible exact H | (rw [hy207]; exact H) | exact H
     have Ny207 := QK hy207
     clear hy207
     by_cases c32 : y207.length + l0_10.length < 17592186044416
     ·rw [if_pos c32] at H
      have LMc32 := QK c32
      clear c32
      obtain ⟨y210, hy210⟩ : ∃ y_ : List Int, y_ = (y207 ++ l0_10) := ⟨_, rfl⟩
      replace H : (spec_IsGame.l0 kj1 y210 0 a0_0 a0_1 a0_2 a0_3 l0_4 l0_5 a0_6 a0_7 l0_8 l0_9 l0_10 a0_11 a0_12 a0_13) = some r := by first | (rw [hy210]; with_reducible exact H) | (have H2_ := (Option.bind_some _ _).symm.trans H; rw [hy210]; with_reducible exact H2_) | (have H2_ := (Option.bind_some _ _).symm.trans H; with_reducible exact H2_) | with_reducible exact H | (rw [hy210]; exact H) | exact H
      have Ny210 := QK hy210
      clear hy210
      have H' := QK H
      clear H
      try go_wp2
      have n0_ := QK (blk_drew BK199.out)
      have n1_ := QK (QE HB.out)
      clear BK199
      clear HB
      have BK199 := n0_
      have HB := n1_
      clear n0_ n1_
      refine start_ (n := 8) (S := fun w' => w'.cell? ⟨gb199, 0, none⟩ = some (.int .i64 a0_0) ∧ w'.cell? ⟨gb199, 1, none⟩ = some (.int .i64 a0_1) ∧ w'.cell? ⟨gb199, 2, none⟩ = some (.bool a0_2) ∧ w'.cell? ⟨gb199, 3, none⟩ = some (.bool a0_3) ∧ w'.cell? ⟨gb199, 4, none⟩ = some (.slice A0_4 l0_4.length c0_4) ∧ w'.cell? ⟨gb199, 5, none⟩ = some (.slice A0_5 l0_5.length c0_5) ∧ w'.cell? ⟨gb199, 6, none⟩ = some (.int .i64 a0_6) ∧ w'.cell? ⟨gb199, 7, none⟩ = some (.int .i64 a0_7) ∧ w'.cell? ⟨gb199, 8, none⟩ = some (.slice A0_8 l0_8.length c0_8) ∧ w'.cell? ⟨gb199, 9, none⟩ = some (.slice A0_9 l0_9.length c0_9) ∧ w'.cell? ⟨gb199, 10, none⟩ = some (.slice A0_10 l0_10.length c0_10) ∧ w'.cell? ⟨gb199, 11, none⟩ = some (.int .i64 a0_11) ∧ w'.cell? ⟨gb199, 12, none⟩ = some (.int .i64 a0_12) ∧ w'.cell? ⟨gb199, 13, none⟩ = some (.int .i64 a0_13)) (ds := []) #[false, false, false, false, false, false, false, false] (by kernel_rfl) rfl rfl ⟨(QB BK199.out 0).trans rfl, (QB BK199.out 1).trans rfl, (QB BK199.out 2).trans rfl, (QB BK199.out 3).trans rfl, (QB BK199.out 4).trans rfl, (QB BK199.out 5).trans rfl, (QB BK199.out 6).trans rfl, (QB BK199.out 7).trans rfl, (QB BK199.out 8).trans rfl, (QB BK199.out 9).trans rfl, (QB BK199.out 10).trans rfl, (QB BK199.out 11).trans rfl, (QB BK199.out 12).trans rfl, (QB BK199.out 13).trans rfl⟩ (fun hHeld => ?_); refine with_tabW spec_IsGame.tab3 spec_IsGame.bits3 (fun HT_ HW_ => ?_)
      generalize wc.drew = w33 at BK199 HB hHeld ⊢
      refine pure_ (i := 1) (N := some 52) (v := ?_) (a' := ?_) #[false, true, false, false, false, false, false, false] rfl rfl (any_of HT_.out (by kernel_rfl)) (fun _ _ _ h => h) (Or.inl ⟨by rfl, ?_⟩) ?_ ?_
      rotate_left
      ·intro w'
       go_simp
       with_reducible rfl
      rotate_left
      ·simp only [Act.put, List.setIfInBounds_toArray, List.set_cons_zero, List.set_cons_succ, i64_w, i32_w]
       rfl
      refine pure_ (i := 4) (N := some 55) (v := ?_) (a' := ?_) #[false, true, false, false, true, false, false, false] rfl rfl (any_of HT_.out (by kernel_rfl)) (fun _ _ _ h => h) (Or.inl ⟨by rfl, ?_⟩) ?_ ?_
      rotate_left
      ·intro w'
       go_simp
       with_reducible rfl
      rotate_left
      ·simp only [Act.put, List.setIfInBounds_toArray, List.set_cons_zero, List.set_cons_succ, i64_w, i32_w]
       rfl
      refine take_ (i := 2) (N := some 53) (v := ?_) (a' := ?_) #[false, true, true, false, true, false, false, false] rfl rfl (take_ofW HT_.out HW_.out (by kernel_rfl)) (fun _ _ _ h => h) (Or.inl ⟨by rfl, ?_⟩) hHeld ?_ ?_
      rotate_left
      ·rintro w' ⟨s0, s1, s2, s3, s4, s5, s6, s7, s8, s9, s10, s11, s12, s13⟩
       go_simp
       with_reducible rfl
      rotate_left
      ·simp only [Act.put, List.setIfInBounds_toArray, List.set_cons_zero, List.set_cons_succ, i64_w, i32_w]
       rfl
      refine take_ (i := 5) (N := some 56) (v := ?_) (a' := ?_) #[false, true, true, false, true, true, false, false] rfl rfl (take_ofW HT_.out HW_.out (by kernel_rfl)) (fun _ _ _ h => h) (Or.inl ⟨by rfl, ?_⟩) hHeld ?_ ?_
      rotate_left
      ·rintro w' ⟨s0, s1, s2, s3, s4, s5, s6, s7, s8, s9, s10, s11, s12, s13⟩
       go_simp
       with_reducible rfl
      rotate_left
      ·simp only [Act.put, List.setIfInBounds_toArray, List.set_cons_zero, List.set_cons_succ, i64_w, i32_w]
       rfl
      refine one_ (i := 0) (N := some 51) #[true, true, true, false, true, true, false, false] rfl rfl (one_of HT_.out (by kernel_rfl)) (by decide) (fun K hK => ?_)
      refine Kd.R_lit_step (Kd.int .i64) _ 3 ?hg (N := 51) ?hd (xs := ([] : List Int)) (inner := []) (ok := fun _ => True) (okp := fun _ => True) ?hr ?hp (fun _ hk => hk) trivial (Below.refl _ _) (Nat.le_refl _) (by simp) ?_; (case hd => rfl); (case hg => rfl); (case hr => first | (go_simp; done) | (go_simp; rfl)); (case hp => exact (Reps.none _ _))
      intro v205 w34 ho35 hb hg_ hnew_
      clear hg_ hnew_
      (first | rw [← Ny204.out] at ho35 | (simp only [Int.reduceToNat] at ho35; rw [← Ny204.out] at ho35))
      have n0_ := QK (Kd.R_lower ho35 (below_size (by repeat (first | (with_reducible first | exact HB.out | apply QF | apply QD | apply QE | refine QG ?_ GE199.out) | exact HB.out))))
      have n1_ := QK (blk_below (g := gb199) (o := .cells #[.int .i64 a0_0, .int .i64 a0_1, .bool a0_2, .bool a0_3, .slice A0_4 l0_4.length c0_4, .slice A0_5 l0_5.length c0_5, .int .i64 a0_6, .int .i64 a0_7, .slice A0_8 l0_8.length c0_8, .slice A0_9 l0_9.length c0_9, .slice A0_10 l0_10.length c0_10, .int .i64 a0_11, .int .i64 a0_12, .int .i64 a0_13] 59 (0, 0)) (by (with_reducible repeat (first | refine blk_drewN ?_ _ | refine blk_drew ?_ | refine blk_alloc ?_ _)); exact BK199.out) hb)
      have n2_ := QK (below_step (by repeat (first | (with_reducible first | exact HB.out | apply QF | apply QD | apply QE | refine QG ?_ GE199.out) | exact HB.out)) hb)
      clear BK199
      clear HB
      have HO206 := n0_
      have BK199 := n1_
      have HB := n2_
      clear n0_ n1_ n2_
      clear hb ho35
      refine hK.out _ _ ⟨(QB BK199.out 0).trans rfl, (QB BK199.out 1).trans rfl, (QB BK199.out 2).trans rfl, (QB BK199.out 3).trans rfl, (QB BK199.out 4).trans rfl, (QB BK199.out 5).trans rfl, (QB BK199.out 6).trans rfl, (QB BK199.out 7).trans rfl, (QB BK199.out 8).trans rfl, (QB BK199.out 9).trans rfl, (QB BK199.out 10).trans rfl, (QB BK199.out 11).trans rfl, (QB BK199.out 12).trans rfl, (QB BK199.out 13).trans rfl⟩ (fun hHeld => ?_)
      clear hK K
      refine norm_ (a' := ?_) ?_ ?_
      rotate_left
      ·show Act.put _ (some 51) _ = _
       simp only [Act.put, List.setIfInBounds_toArray, List.set_cons_zero, List.set_cons_succ, i64_w, i32_w]
       rfl
      refine one_ (i := 3) (N := some 54) #[true, true, true, true, true, true, false, false] rfl rfl (one_of HT_.out (by kernel_rfl)) (by decide) (fun K hK => ?_)
      refine Kd.R_append_rows_step (Kd.int .i64) (w0 := w) w.heap.size (by rfl) (.tmp 51) (.tmp 53) 24 3 (.int .i64 0) 8 rfl Try.underlying24 info3 rfl (by decide) (by omega) v205 y204 l0_9 _ _ _ (fun _ => True) (fun _ => False) rfl rfl ?aO ?aR (fun _ _ h => h) (fun _ h => h.elim) ?aF ?aB ?aS ?aL ?_
      (case aR => repeat (first | exact (Kd.C_below HR0_9.out HB.out) | (with_reducible refine QI ?_ _) | (with_reducible refine QJ ?_ _) | (with_reducible refine Kd.C_drew ?_)))
      (case aB => exact (by repeat (first | (with_reducible first | exact HB.out | apply QF | apply QD | apply QE | refine QG ?_ GE199.out) | exact HB.out)))
      (case aF => exact (fun _ _ => trivial))
      (case aO => exact (by (with_reducible repeat (first | apply Kd.R_alloc | apply Kd.R_drewN | apply Kd.R_drew)); exact HO206.out))
      (case aS => exact (below_size (by repeat (first | (with_reducible first | exact HB.out | apply QF | apply QD | apply QE | refine QG ?_ GE199.out) | exact HB.out))))
      (case aL => have := LMc31.out; omega)
      intro v208 w36 ho hb hg hat
      rw [← Ny207.out] at ho
      have n0_ := QK (blk_grown (g := gb199) (o := .cells #[.int .i64 a0_0, .int .i64 a0_1, .bool a0_2, .bool a0_3, .slice A0_4 l0_4.length c0_4, .slice A0_5 l0_5.length c0_5, .int .i64 a0_6, .int .i64 a0_7, .slice A0_8 l0_8.length c0_8, .slice A0_9 l0_9.length c0_9, .slice A0_10 l0_10.length c0_10, .int .i64 a0_11, .int .i64 a0_12, .int .i64 a0_13] 59 (0, 0)) (by (with_reducible repeat (first | refine blk_drewN ?_ _ | refine blk_drew ?_ | refine blk_alloc ?_ _)); exact BK199.out) hg (Kd.R_ne HO206.out BK199.out (by decide)))
      have n1_ := QK (hb)
      have n2_ := QK (ho)
      clear BK199
      clear HB
      clear HO206
      have BK199 := n0_
      have HB := n1_
      have HO209 := n2_
      clear n0_ n1_ n2_
      clear ho hb hg hat
      refine hK.out _ _ ⟨(QB BK199.out 0).trans rfl, (QB BK199.out 1).trans rfl, (QB BK199.out 2).trans rfl, (QB BK199.out 3).trans rfl, (QB BK199.out 4).trans rfl, (QB BK199.out 5).trans rfl, (QB BK199.out 6).trans rfl, (QB BK199.out 7).trans rfl, (QB BK199.out 8).trans rfl, (QB BK199.out 9).trans rfl, (QB BK199.out 10).trans rfl, (QB BK199.out 11).trans rfl, (QB BK199.out 12).trans rfl, (QB BK199.out 13).trans rfl⟩ (fun hHeld => ?_)
      clear hK K
      refine norm_ (a' := ?_) ?_ ?_
      rotate_left
      ·show Act.put _ (some 54) _ = _
       simp only [Act.put, List.setIfInBounds_toArray, List.set_cons_zero, List.set_cons_succ, i64_w, i32_w]
       rfl
      refine one_ (i := 6) (N := some 57) #[true, true, true, true, true, true, true, false] rfl rfl (one_of HT_.out (by kernel_rfl)) (by decide) (fun K hK => ?_)
      refine Kd.R_append_rows_step (Kd.int .i64) (w0 := w) w.heap.size (by rfl) (.tmp 54) (.tmp 56) 24 3 (.int .i64 0) 8 rfl Try.underlying24 info3 rfl (by decide) (by omega) v208 y207 l0_10 _ _ _ (fun _ => True) (fun _ => False) rfl rfl ?aO ?aR (fun _ _ h => h) (fun _ h => h.elim) ?aF ?aB ?aS ?aL ?_
      (case aR => repeat (first | exact (Kd.C_below HR0_10.out HB.out) | (with_reducible refine QI ?_ _) | (with_reducible refine QJ ?_ _) | (with_reducible refine Kd.C_drew ?_)))
      (case aB => exact (by repeat (first | (with_reducible first | exact HB.out | apply QF | apply QD | apply QE | refine QG ?_ GE199.out) | exact HB.out)))
      (case aF => exact (fun _ _ => trivial))
      (case aO => exact (by (with_reducible repeat (first | apply Kd.R_alloc | apply Kd.R_drewN | apply Kd.R_drew)); exact HO209.out))
      (case aS => exact (below_size (by repeat (first | (with_reducible first | exact HB.out | apply QF | apply QD | apply QE | refine QG ?_ GE199.out) | exact HB.out))))
      (case aL => have := LMc32.out; omega)
      intro v211 w37 ho hb hg hat
      rw [← Ny210.out] at ho
      have n0_ := QK (blk_grown (g := gb199) (o := .cells #[.int .i64 a0_0, .int .i64 a0_1, .bool a0_2, .bool a0_3, .slice A0_4 l0_4.length c0_4, .slice A0_5 l0_5.length c0_5, .int .i64 a0_6, .int .i64 a0_7, .slice A0_8 l0_8.length c0_8, .slice A0_9 l0_9.length c0_9, .slice A0_10 l0_10.length c0_10, .int .i64 a0_11, .int .i64 a0_12, .int .i64 a0_13] 59 (0, 0)) (by (with_reducible repeat (first | refine blk_drewN ?_ _ | refine blk_drew ?_ | refine blk_alloc ?_ _)); exact BK199.out) hg (Kd.R_ne HO209.out BK199.out (by decide)))
      have n1_ := QK (hb)
      have n2_ := QK (ho)
      clear BK199
      clear HB
      clear HO209
      have BK199 := n0_
      have HB := n1_
      have HO212 := n2_
      clear n0_ n1_ n2_
      clear ho hb hg hat
      refine hK.out _ _ ⟨(QB BK199.out 0).trans rfl, (QB BK199.out 1).trans rfl, (QB BK199.out 2).trans rfl, (QB BK199.out 3).trans rfl, (QB BK199.out 4).trans rfl, (QB BK199.out 5).trans rfl, (QB BK199.out 6).trans rfl, (QB BK199.out 7).trans rfl, (QB BK199.out 8).trans rfl, (QB BK199.out 9).trans rfl, (QB BK199.out 10).trans rfl, (QB BK199.out 11).trans rfl, (QB BK199.out 12).trans rfl, (QB BK199.out 13).trans rfl⟩ (fun hHeld => ?_)
      clear hK K
      refine norm_ (a' := ?_) ?_ ?_
      rotate_left
      ·show Act.put _ (some 57) _ = _
       simp only [Act.put, List.setIfInBounds_toArray, List.set_cons_zero, List.set_cons_succ, i64_w, i32_w]
       rfl
      refine pure_ (i := 7) (N := some 3) (v := ?_) (a' := ?_) #[true, true, true, true, true, true, true, true] rfl rfl (any_of HT_.out (by kernel_rfl)) (fun _ _ _ h => h) (Or.inl ⟨by rfl, ?_⟩) ?_ ?_
      rotate_left
      ·intro w'
       go_simp
       with_reducible rfl
      rotate_left
      ·simp only [Act.put, List.setIfInBounds_toArray, List.set_cons_zero, List.set_cons_succ, i64_w, i32_w]
       rfl
      refine done_ (done_of HT_.out (by kernel_rfl)) ?_
      try go_wp2
      go_loopg [3, 4] kj1 (fun kq v3 v4 w' => ∃ (x3_2 : List Int) (x4_2 : Int), v4 = .int .i64 x4_2 ∧ Aside0 (spec_IsGame.l0 kq x3_2 x4_2 a0_0 a0_1 a0_2 a0_3 l0_4 l0_5 a0_6 a0_7 l0_8 l0_9 l0_10 a0_11 a0_12 a0_13 = some r) ∧ Aside0 (kq ≤ kj1) ∧ Aside0 (Kd.R (Kd.int .i64) 3 w' w.heap.size (fun _ => True) v3 x3_2) ∧ Aside0 (w'.heap[gb199]? = some (.cells #[.int .i64 a0_0, .int .i64 a0_1, .bool a0_2, .bool a0_3, (.slice A0_4 l0_4.length c0_4), (.slice A0_5 l0_5.length c0_5), .int .i64 a0_6, .int .i64 a0_7, (.slice A0_8 l0_8.length c0_8), (.slice A0_9 l0_9.length c0_9), (.slice A0_10 l0_10.length c0_10), .int .i64 a0_11, .int .i64 a0_12, .int .i64 a0_13] 59 (0, 0))) ∧ Aside0 (Below w.heap.size w w'))
      case atStart => exact ⟨(y210), (0), (by first | rfl | (simp; done) | (simp [*]; done)), H', ⟨Nat.le_refl _⟩, ⟨by (with_reducible repeat (first | apply Kd.R_alloc | apply Kd.R_drewN | apply Kd.R_drew)); exact HO212.out⟩, ⟨by (with_reducible repeat (first | refine blk_drewN ?_ _ | refine blk_drew ?_ | refine blk_alloc ?_ _)); exact BK199.out⟩, ⟨by repeat (first | (with_reducible first | exact HB.out | apply QF | apply QD | apply QE | refine QG ?_ GE199.out) | exact HB.out)⟩⟩
      case round =>
       clear H'
       try clear c1
       try clear p2
       try clear c3
       try clear c4
       try clear c5
       try clear c6
       try clear c6b0
       try clear c6b1
       try clear p6
       try clear c7
       try clear c7b0
       try clear c7b1
       try clear c7b2
       try clear c10
       try clear c12
       try clear c14
       try clear c30
       try clear c31
       try clear c32
       try clear hcz10_0
       try clear hcz10_1
       try clear hcz10_10
       try clear hcz10_11
       try clear hcz10_12
       try clear hcz10_13
       try clear hcz10_2
       try clear hcz10_3
       try clear hcz10_4
       try clear hcz10_5
       try clear hcz10_6
       try clear hcz10_7
       try clear hcz10_8
       try clear hcz10_9
       try clear hcz16_0
       try clear hcz16_1
       try clear hcz16_10
       try clear hcz16_11
       try clear hcz16_12
       try clear hcz16_13
       try clear hcz16_2
       try clear hcz16_3
       try clear hcz16_4
       try clear hcz16_5
       try clear hcz16_6
       try clear hcz16_7
       try clear hcz16_8
       try clear hcz16_9
       try clear hcz18_0
       try clear hcz18_1
       try clear hcz18_10
       try clear hcz18_11
       try clear hcz18_12
       try clear hcz18_13
       try clear hcz18_2
       try clear hcz18_3
       try clear hcz18_4
       try clear hcz18_5
       try clear hcz18_6
       try clear hcz18_7
       try clear hcz18_8
       try clear hcz18_9
       try clear hcz19_0
       try clear hcz19_1
       try clear hcz19_10
       try clear hcz19_11
       try clear hcz19_12
       try clear hcz19_13
       try clear hcz19_2
       try clear hcz19_3
       try clear hcz19_4
       try clear hcz19_5
       try clear hcz19_6
       try clear hcz19_7
       try clear hcz19_8
       try clear hcz19_9
       try clear hcz21_0
       try clear hcz21_1
       try clear hcz21_10
       try clear hcz21_11
       try clear hcz21_12
       try clear hcz21_13
       try clear hcz21_2
       try clear hcz21_3
       try clear hcz21_4
       try clear hcz21_5
       try clear hcz21_6
       try clear hcz21_7
       try clear hcz21_8
       try clear hcz21_9
       try clear hcz22_0
       try clear hcz22_1
       try clear hcz22_10
       try clear hcz22_11
       try clear hcz22_12
       try clear hcz22_13
       try clear hcz22_2
       try clear hcz22_3
       try clear hcz22_4
       try clear hcz22_5
       try clear hcz22_6
       try clear hcz22_7
       try clear hcz22_8
       try clear hcz22_9
       try clear hcz24_0
       try clear hcz24_1
       try clear hcz24_10
       try clear hcz24_11
       try clear hcz24_12
       try clear hcz24_13
       try clear hcz24_2
       try clear hcz24_3
       try clear hcz24_4
       try clear hcz24_5
       try clear hcz24_6
       try clear hcz24_7
       try clear hcz24_8
       try clear hcz24_9
       try clear hcz25_0
       try clear hcz25_1
       try clear hcz25_10
       try clear hcz25_11
       try clear hcz25_12
       try clear hcz25_13
       try clear hcz25_2
       try clear hcz25_3
       try clear hcz25_4
       try clear hcz25_5
       try clear hcz25_6
       try clear hcz25_7
       try clear hcz25_8
       try clear hcz25_9
       try clear hcz27_0
       try clear hcz27_1
       try clear hcz27_10
       try clear hcz27_11
       try clear hcz27_12
       try clear hcz27_13
       try clear hcz27_2
       try clear hcz27_3
       try clear hcz27_4
       try clear hcz27_5
       try clear hcz27_6
       try clear hcz27_7
       try clear hcz27_8
       try clear hcz27_9
       try clear hcz28_0
       try clear hcz28_1
       try clear hcz28_10
       try clear hcz28_11
       try clear hcz28_12
       try clear hcz28_13
       try clear hcz28_2
       try clear hcz28_3
       try clear hcz28_4
       try clear hcz28_5
       try clear hcz28_6
       try clear hcz28_7
       try clear hcz28_8
       try clear hcz28_9
       try clear hcz8_0
       try clear hcz8_1
       try clear hcz8_10
       try clear hcz8_11
       try clear hcz8_12
       try clear hcz8_13
       try clear hcz8_2
       try clear hcz8_3
       try clear hcz8_4
       try clear hcz8_5
       try clear hcz8_6
       try clear hcz8_7
       try clear hcz8_8
       try clear hcz8_9
       try clear hfz10_0
       try clear hfz10_1
       try clear hfz10_10
       try clear hfz10_11
       try clear hfz10_12
       try clear hfz10_13
       try clear hfz10_2
       try clear hfz10_3
       try clear hfz10_4
       try clear hfz10_5
       try clear hfz10_6
       try clear hfz10_7
       try clear hfz10_8
       try clear hfz10_9
       try clear hfz16_0
       try clear hfz16_1
       try clear hfz16_10
       try clear hfz16_11
       try clear hfz16_12
       try clear hfz16_13
       try clear hfz16_2
       try clear hfz16_3
       try clear hfz16_4
       try clear hfz16_5
       try clear hfz16_6
       try clear hfz16_7
       try clear hfz16_8
       try clear hfz16_9
       try clear hfz18_0
       try clear hfz18_1
       try clear hfz18_10
       try clear hfz18_11
       try clear hfz18_12
       try clear hfz18_13
       try clear hfz18_2
       try clear hfz18_3
       try clear hfz18_4
       try clear hfz18_5
       try clear hfz18_6
       try clear hfz18_7
       try clear hfz18_8
       try clear hfz18_9
       try clear hfz19_0
       try clear hfz19_1
       try clear hfz19_10
       try clear hfz19_11
       try clear hfz19_12
       try clear hfz19_13
       try clear hfz19_2
       try clear hfz19_3
       try clear hfz19_4
       try clear hfz19_5
       try clear hfz19_6
       try clear hfz19_7
       try clear hfz19_8
       try clear hfz19_9
       try clear hfz21_0
       try clear hfz21_1
       try clear hfz21_10
       try clear hfz21_11
       try clear hfz21_12
       try clear hfz21_13
       try clear hfz21_2
       try clear hfz21_3
       try clear hfz21_4
       try clear hfz21_5
       try clear hfz21_6
       try clear hfz21_7
       try clear hfz21_8
       try clear hfz21_9
       try clear hfz22_0
       try clear hfz22_1
       try clear hfz22_10
       try clear hfz22_11
       try clear hfz22_12
       try clear hfz22_13
       try clear hfz22_2
       try clear hfz22_3
       try clear hfz22_4
       try clear hfz22_5
       try clear hfz22_6
       try clear hfz22_7
       try clear hfz22_8
       try clear hfz22_9
       try clear hfz24_0
       try clear hfz24_1
       try clear hfz24_10
       try clear hfz24_11
       try clear hfz24_12
       try clear hfz24_13
       try clear hfz24_2
       try clear hfz24_3
       try clear hfz24_4
       try clear hfz24_5
       try clear hfz24_6
       try clear hfz24_7
       try clear hfz24_8
       try clear hfz24_9
       try clear hfz25_0
       try clear hfz25_1
       try clear hfz25_10
       try clear hfz25_11
       try clear hfz25_12
       try clear hfz25_13
       try clear hfz25_2
       try clear hfz25_3
       try clear hfz25_4
       try clear hfz25_5
       try clear hfz25_6
       try clear hfz25_7
       try clear hfz25_8
       try clear hfz25_9
       try clear hfz27_0
       try clear hfz27_1
       try clear hfz27_10
       try clear hfz27_11
       try clear hfz27_12
       try clear hfz27_13
       try clear hfz27_2
       try clear hfz27_3
       try clear hfz27_4
       try clear hfz27_5
       try clear hfz27_6
       try clear hfz27_7
       try clear hfz27_8
       try clear hfz27_9
       try clear hfz28_0
       try clear hfz28_1
       try clear hfz28_10
       try clear hfz28_11
       try clear hfz28_12
       try clear hfz28_13
       try clear hfz28_2
       try clear hfz28_3
       try clear hfz28_4
       try clear hfz28_5
       try clear hfz28_6
       try clear hfz28_7
       try clear hfz28_8
       try clear hfz28_9
       try clear hfz8_0
       try clear hfz8_1
       try clear hfz8_10
       try clear hfz8_11
       try clear hfz8_12
       try clear hfz8_13
       try clear hfz8_2
       try clear hfz8_3
       try clear hfz8_4
       try clear hfz8_5
       try clear hfz8_6
       try clear hfz8_7
       try clear hfz8_8
       try clear hfz8_9
       try clear p2
       try clear p6
       obtain ⟨x3_2, x4_2, rfl, HA, HK2, HO_3, BK199, HB⟩ := hrel
       cases gk with
       | zero => exact absurd HA.out (by simp [spec_IsGame.l0])
       | succ k2 =>
        have H := HA.out
        clear HA
        simp only [spec_IsGame.l0] at H
        by_cases c38 : x4_2 < (l0_8.length : Int)
        ·rw [if_pos c38] at H
         have c38b0 : decide (x4_2 < (l0_8.length : Int)) = true := decide_eq_true c38
         clear c38
         by_cases c39 : 0 ≤ x4_2
         ·rw [if_pos c39] at H
          have c39b0 : decide (0 ≤ x4_2) = true := decide_eq_true c39
          clear c39
          by_cases c40 : x3_2.length + (rd_L1 l0_8 x4_2).length < 17592186044416
          ·rw [if_pos c40] at H
           have LMc40 := QK c40
           clear c40
           obtain ⟨y214, hy214⟩ : ∃ y_ : List Int, y_ = (x3_2 ++ (rd_L1 l0_8 x4_2)) := ⟨_, rfl⟩
           replace H : (spec_IsGame.l0 k2 y214 (wrap64 (x4_2 + 1)) a0_0 a0_1 a0_2 a0_3 l0_4 l0_5 a0_6 a0_7 l0_8 l0_9 l0_10 a0_11 a0_12 a0_13) = some r := by first | (rw [hy214]; with_reducible exact H) | (have H2_ := (Option.bind_some _ _).symm.trans H; rw [hy214]; with_reducible exact H2_) | (have H2_ := (Option.bind_some _ _).symm.trans H; with_reducible exact H2_) | with_reducible exact H | (rw [hy214]; exact H) | exact H
           have Ny214 := QK hy214
           clear hy214
           have H' := QK H
           clear H
           have hcz41_0 : wr.cell? ⟨gb199, 0, none⟩ = some (.int .i64 a0_0) := (QB BK199.out 0).trans rfl
           have hcz41_1 : wr.cell? ⟨gb199, 1, none⟩ = some (.int .i64 a0_1) := (QB BK199.out 1).trans rfl
           have hcz41_2 : wr.cell? ⟨gb199, 2, none⟩ = some (.bool a0_2) := (QB BK199.out 2).trans rfl
           have hcz41_3 : wr.cell? ⟨gb199, 3, none⟩ = some (.bool a0_3) := (QB BK199.out 3).trans rfl
           have hcz41_4 : wr.cell? ⟨gb199, 4, none⟩ = some (.slice A0_4 l0_4.length c0_4) := (QB BK199.out 4).trans rfl
           have hcz41_5 : wr.cell? ⟨gb199, 5, none⟩ = some (.slice A0_5 l0_5.length c0_5) := (QB BK199.out 5).trans rfl
           have hcz41_6 : wr.cell? ⟨gb199, 6, none⟩ = some (.int .i64 a0_6) := (QB BK199.out 6).trans rfl
           have hcz41_7 : wr.cell? ⟨gb199, 7, none⟩ = some (.int .i64 a0_7) := (QB BK199.out 7).trans rfl
           have hcz41_8 : wr.cell? ⟨gb199, 8, none⟩ = some (.slice A0_8 l0_8.length c0_8) := (QB BK199.out 8).trans rfl
           have hcz41_9 : wr.cell? ⟨gb199, 9, none⟩ = some (.slice A0_9 l0_9.length c0_9) := (QB BK199.out 9).trans rfl
           have hcz41_10 : wr.cell? ⟨gb199, 10, none⟩ = some (.slice A0_10 l0_10.length c0_10) := (QB BK199.out 10).trans rfl
           have hcz41_11 : wr.cell? ⟨gb199, 11, none⟩ = some (.int .i64 a0_11) := (QB BK199.out 11).trans rfl
           have hcz41_12 : wr.cell? ⟨gb199, 12, none⟩ = some (.int .i64 a0_12) := (QB BK199.out 12).trans rfl
           have hcz41_13 : wr.cell? ⟨gb199, 13, none⟩ = some (.int .i64 a0_13) := (QB BK199.out 13).trans rfl
           have hfz41_0 := QC BK199.out 0
           have hfz41_1 := QC BK199.out 1
           have hfz41_2 := QC BK199.out 2
           have hfz41_3 := QC BK199.out 3
           have hfz41_4 := QC BK199.out 4
           have hfz41_5 := QC BK199.out 5
           have hfz41_6 := QC BK199.out 6
           have hfz41_7 := QC BK199.out 7
           have hfz41_8 := QC BK199.out 8
           have hfz41_9 := QC BK199.out 9
           have hfz41_10 := QC BK199.out 10
           have hfz41_11 := QC BK199.out 11
           have hfz41_12 := QC BK199.out 12
           have hfz41_13 := QC BK199.out 13
           have p213 : 0 ≤ (x4_2 : Int) := of_decide_eq_true (by first | (with_reducible assumption) | assumption)
           have q213 : x4_2 < (l0_8.length : Int) := of_decide_eq_true (by first | (with_reducible assumption) | assumption)
           obtain ⟨ad213, A213_0, c213_0, e213, hx213_0, hl213_0, hi213_0⟩ := at_L1 HR0_8.out x4_2 p213 q213
           cases e213
           replace hx213_0 := (HB.out.cell (World.block_lt_of_cell? w _ hx213_0)).trans hx213_0
           have HR213_0 := QK hi213_0
           have HC213_0 := QK hl213_0
           clear hi213_0 hl213_0
           replace p213 := eq_true p213
           replace q213 := eq_true q213
           go_wp2_with (first | ((with_reducible refine gate_builtin (b := .append) (xs := #[.tmp 65, .tmp 70]) rfl ?_); (try (refine gate_guard (by rfl) ?_; dsimp only)); at_builtin; refine Kd.R_append_rows (Kd.int .i64) (w0 := w) w.heap.size rfl (.tmp 65) (.tmp 70) 24 3 (.int .i64 0) 8 rfl Try.underlying24 info3 rfl (by decide) (by omega) u3 x3_2 (rd_L1 l0_8 x4_2) _ _ _ (fun _ => True) (fun _ => False) rfl rfl ?aO ?aR (fun _ _ h => h) (fun _ h => h.elim) ?aF ?aB ?aS ?aL ?_; (case aR => repeat (first | exact (Kd.C_below HR213_0.out HB.out) | (with_reducible refine QI ?_ _) | (with_reducible refine QJ ?_ _) | (with_reducible refine Kd.C_drew ?_))); (case aB => exact (by repeat (first | (with_reducible first | exact HB.out | apply QF | apply QD | apply QE | refine QG ?_ GE199.out) | exact HB.out))); (case aF => exact (fun _ _ => trivial)); (case aO => exact (by (with_reducible repeat (first | apply Kd.R_alloc | apply Kd.R_drewN | apply Kd.R_drew)); exact HO_3.out)); (case aS => exact (below_size (by repeat (first | (with_reducible first | exact HB.out | apply QF | apply QD | apply QE | refine QG ?_ GE199.out) | exact HB.out)))); (case aL => have := LMc40.out; omega); intro v215 w42 ho hb hg hat; rw [← Ny214.out] at ho; have n0_ := QK (blk_grown (g := gb199) (o := .cells #[.int .i64 a0_0, .int .i64 a0_1, .bool a0_2, .bool a0_3, .slice A0_4 l0_4.length c0_4, .slice A0_5 l0_5.length c0_5, .int .i64 a0_6, .int .i64 a0_7, .slice (some ad213) l0_8.length c0_8, .slice A0_9 l0_9.length c0_9, .slice A0_10 l0_10.length c0_10, .int .i64 a0_11, .int .i64 a0_12, .int .i64 a0_13] 59 (0, 0)) (by (with_reducible repeat (first | refine blk_drewN ?_ _ | refine blk_drew ?_ | refine blk_alloc ?_ _)); exact BK199.out) hg (Kd.R_ne HO_3.out BK199.out (by decide))); have n1_ := QK (hb); have n2_ := QK (ho); clear BK199; clear HB; clear HO_3; have BK199 := n0_; have HB := n1_; have HO216 := n2_; clear n0_ n1_ n2_; clear ho hb hg hat))
           go_roundg k2
           case measure => have := HJ1.out; have := HK2.out; omega
           case rel => exact ⟨(y214), (wrap64 (x4_2 + 1)), (by first | rfl | (simp; done) | (simp [*]; done)), H', ⟨by have := HJ1.out; have := HK2.out; omega⟩, ⟨by (with_reducible repeat (first | apply Kd.R_alloc | apply Kd.R_drewN | apply Kd.R_drew)); exact HO216.out⟩, ⟨by (with_reducible repeat (first | refine blk_drewN ?_ _ | refine blk_drew ?_ | refine blk_alloc ?_ _)); exact BK199.out⟩, ⟨by repeat (first | (with_reducible first | exact HB.out | apply QF | apply QD | apply QE | refine QG ?_ GE199.out) | exact HB.out)⟩⟩
          ·rw [if_neg c40] at H
           exact absurd H (by simp)
         ·rw [if_neg c39] at H
          exact absurd H (by simp)
        ·rw [if_neg c38] at H
         have c38b0 : decide (x4_2 < (l0_8.length : Int)) = false := decide_eq_false c38
         clear c38
         have hcz45_0 : wr.cell? ⟨gb199, 0, none⟩ = some (.int .i64 a0_0) := (QB BK199.out 0).trans rfl
         have hcz45_1 : wr.cell? ⟨gb199, 1, none⟩ = some (.int .i64 a0_1) := (QB BK199.out 1).trans rfl
         have hcz45_2 : wr.cell? ⟨gb199, 2, none⟩ = some (.bool a0_2) := (QB BK199.out 2).trans rfl
         have hcz45_3 : wr.cell? ⟨gb199, 3, none⟩ = some (.bool a0_3) := (QB BK199.out 3).trans rfl
         have hcz45_4 : wr.cell? ⟨gb199, 4, none⟩ = some (.slice A0_4 l0_4.length c0_4) := (QB BK199.out 4).trans rfl
         have hcz45_5 : wr.cell? ⟨gb199, 5, none⟩ = some (.slice A0_5 l0_5.length c0_5) := (QB BK199.out 5).trans rfl
         have hcz45_6 : wr.cell? ⟨gb199, 6, none⟩ = some (.int .i64 a0_6) := (QB BK199.out 6).trans rfl
         have hcz45_7 : wr.cell? ⟨gb199, 7, none⟩ = some (.int .i64 a0_7) := (QB BK199.out 7).trans rfl
         have hcz45_8 : wr.cell? ⟨gb199, 8, none⟩ = some (.slice A0_8 l0_8.length c0_8) := (QB BK199.out 8).trans rfl
         have hcz45_9 : wr.cell? ⟨gb199, 9, none⟩ = some (.slice A0_9 l0_9.length c0_9) := (QB BK199.out 9).trans rfl
         have hcz45_10 : wr.cell? ⟨gb199, 10, none⟩ = some (.slice A0_10 l0_10.length c0_10) := (QB BK199.out 10).trans rfl
         have hcz45_11 : wr.cell? ⟨gb199, 11, none⟩ = some (.int .i64 a0_11) := (QB BK199.out 11).trans rfl
         have hcz45_12 : wr.cell? ⟨gb199, 12, none⟩ = some (.int .i64 a0_12) := (QB BK199.out 12).trans rfl
         have hcz45_13 : wr.cell? ⟨gb199, 13, none⟩ = some (.int .i64 a0_13) := (QB BK199.out 13).trans rfl
         have hfz45_0 := QC BK199.out 0
         have hfz45_1 := QC BK199.out 1
         have hfz45_2 := QC BK199.out 2
         have hfz45_3 := QC BK199.out 3
         have hfz45_4 := QC BK199.out 4
         have hfz45_5 := QC BK199.out 5
         have hfz45_6 := QC BK199.out 6
         have hfz45_7 := QC BK199.out 7
         have hfz45_8 := QC BK199.out 8
         have hfz45_9 := QC BK199.out 9
         have hfz45_10 := QC BK199.out 10
         have hfz45_11 := QC BK199.out 11
         have hfz45_12 := QC BK199.out 12
         have hfz45_13 := QC BK199.out 13
         obtain ⟨Ao46, co46, eo46⟩ := Kd.R_slice HO_3.out
         subst eo46
         by_cases c43 : (x3_2.length : Int) = 52
         ·rw [if_pos c43] at H
          have c43b0 : ((x3_2.length : Int) == 52) = true := beq_iff_eq.mpr c43
          have c43b1 : ((x3_2.length : Int) != 52) = false := bne_eq_false_iff_eq.mpr c43
          clear c43
          replace H := QL.mp H
          obtain ⟨t217, A440, H⟩ := H
          have A44 := QK A440
          clear A440
          obtain rfl := Option.some.inj H
          (try simp only [c43b0, c43b1])
          go_wp2_with (first | (go_at_call 108; (with_reducible refine (spec_IsHand.calls k2 _ _ x3_2 t217 _ ?side1 ?side2 A44.out).mono ?_); (case side1 => repeat (first | exact (Kd.R_reads' HO_3.out).2.2 | (with_reducible refine QI ?_ _) | (with_reducible refine QJ ?_ _) | (with_reducible refine Kd.C_drew ?_))); (case side2 => exact (Kd.R_reads' HO_3.out).2.1); rintro e w' ⟨rfl, ⟨nd, rfl⟩⟩))
          go_ret
          exact ⟨by first | rfl | (simp [errW_none, errW_some] <;> rfl) | (simp [*, errW_none, errW_some] <;> rfl), by repeat (first | (with_reducible first | exact HB.out | apply QF | apply QD | apply QE | refine QG ?_ GE199.out) | exact HB.out)⟩
         ·rw [if_neg c43] at H
          have c43b0 : ((x3_2.length : Int) == 52) = false := beq_eq_false_iff_ne.mpr c43
          have c43b1 : ((x3_2.length : Int) != 52) = true := bne_iff_ne.mpr c43
          obtain rfl := Option.some.inj H
          (try simp only [c43b0, c43b1])
          go_wp2
          go_ret
          exact ⟨by first | rfl | (simp [errW_none, errW_some] <;> rfl) | (simp [*, errW_none, errW_some] <;> rfl), by repeat (first | (with_reducible first | exact HB.out | apply QF | apply QD | apply QE | refine QG ?_ GE199.out) | exact HB.out)⟩
     ·rw [if_neg c32] at H
      exact absurd H (by simp)
    ·rw [if_neg c31] at H
     exact absurd H (by simp)

/-! ### spec_SuitOf: function 115 -/
def spec_SuitOf.f (a0 : Int) : Option (Int) := (spec_IsCard.f a0).bind fun t218 => (if t218 = true then (some (wrap64 (Int.tdiv a0 13))) else (some (-1)))
set_option maxHeartbeats 8000000 in
set_option maxRecDepth 100000 in
theorem spec_SuitOf.calls (a0 : Int) (r : Int) (w : World) (h : spec_SuitOf.f a0 = some r) :
  Calls Try.prog 115 #[.int .i64 a0] w fun e w' => e = .returned (.int .i64 r) ∧ Drawn0 w w' := by
 have H : ((spec_IsCard.f a0).bind fun t218 => (if t218 = true then (some (wrap64 (Int.tdiv a0 13))) else (some (-1)))) = some r := h
 clear h
 replace H := QL.mp H
 obtain ⟨t218, A20, H⟩ := H
 have A2 := QK A20
 clear A20
 by_cases c3 : t218 = true
 ·subst c3
  rw [if_pos rfl] at H
  obtain rfl := Option.some.inj H
  go_enter Try.func115, Try.ntmps115
  go_wp2_with (first | ((with_reducible refine QH (f := 141) rfl ?_); refine goesL_ (some 4) rfl rfl Try.func141 (by kernel_rfl) rfl #[.int .i64 a0] rfl (by (try simp only [List.map_toArray, List.map_cons, List.map_nil]); first | done | rfl | (simp only [List.length_drop, List.length_take]; rfl)) ?_; (with_reducible refine (spec_IsCard.calls a0 true _ A2.out).mono ?_); rintro e w' ⟨rfl, ⟨nd, rfl⟩⟩; refine ⟨_, rfl, ?_⟩))
  go_ret
  exact ⟨by first | rfl | (simp; done) | (simp [*]; done), by repeat (first | exact Drawn0.refl _ | apply Drawn0.step)⟩
 ·replace c3 := Bool.eq_false_iff.mpr c3
  subst c3
  rw [if_neg (show ¬ (false = true) by decide)] at H
  obtain rfl := Option.some.inj H
  go_enter Try.func115, Try.ntmps115
  go_wp2_with (first | ((with_reducible refine QH (f := 141) rfl ?_); refine goesL_ (some 4) rfl rfl Try.func141 (by kernel_rfl) rfl #[.int .i64 a0] rfl (by (try simp only [List.map_toArray, List.map_cons, List.map_nil]); first | done | rfl | (simp only [List.length_drop, List.length_take]; rfl)) ?_; (with_reducible refine (spec_IsCard.calls a0 false _ A2.out).mono ?_); rintro e w' ⟨rfl, ⟨nd, rfl⟩⟩; refine ⟨_, rfl, ?_⟩))
  go_ret
  exact ⟨by first | rfl | (simp; done) | (simp [*]; done), by repeat (first | exact Drawn0.refl _ | apply Drawn0.step)⟩

/-! ### spec_RankOf: function 142 -/
def spec_RankOf.f (a0 : Int) : Option (Int) := (spec_IsCard.f a0).bind fun t219 => (if t219 = true then (some (Int.tmod a0 13)) else (some (-1)))
set_option maxHeartbeats 8000000 in
set_option maxRecDepth 100000 in
theorem spec_RankOf.calls (a0 : Int) (r : Int) (w : World) (h : spec_RankOf.f a0 = some r) :
  Calls Try.prog 142 #[.int .i64 a0] w fun e w' => e = .returned (.int .i64 r) ∧ Drawn0 w w' := by
 have H : ((spec_IsCard.f a0).bind fun t219 => (if t219 = true then (some (Int.tmod a0 13)) else (some (-1)))) = some r := h
 clear h
 replace H := QL.mp H
 obtain ⟨t219, A20, H⟩ := H
 have A2 := QK A20
 clear A20
 by_cases c3 : t219 = true
 ·subst c3
  rw [if_pos rfl] at H
  obtain rfl := Option.some.inj H
  go_enter Try.func142, Try.ntmps142
  go_wp2_with (first | ((with_reducible refine QH (f := 141) rfl ?_); refine goesL_ (some 4) rfl rfl Try.func141 (by kernel_rfl) rfl #[.int .i64 a0] rfl (by (try simp only [List.map_toArray, List.map_cons, List.map_nil]); first | done | rfl | (simp only [List.length_drop, List.length_take]; rfl)) ?_; (with_reducible refine (spec_IsCard.calls a0 true _ A2.out).mono ?_); rintro e w' ⟨rfl, ⟨nd, rfl⟩⟩; refine ⟨_, rfl, ?_⟩))
  go_ret
  exact ⟨by first | rfl | (simp; done) | (simp [*]; done), by repeat (first | exact Drawn0.refl _ | apply Drawn0.step)⟩
 ·replace c3 := Bool.eq_false_iff.mpr c3
  subst c3
  rw [if_neg (show ¬ (false = true) by decide)] at H
  obtain rfl := Option.some.inj H
  go_enter Try.func142, Try.ntmps142
  go_wp2_with (first | ((with_reducible refine QH (f := 141) rfl ?_); refine goesL_ (some 4) rfl rfl Try.func141 (by kernel_rfl) rfl #[.int .i64 a0] rfl (by (try simp only [List.map_toArray, List.map_cons, List.map_nil]); first | done | rfl | (simp only [List.length_drop, List.length_take]; rfl)) ?_; (with_reducible refine (spec_IsCard.calls a0 false _ A2.out).mono ?_); rintro e w' ⟨rfl, ⟨nd, rfl⟩⟩; refine ⟨_, rfl, ?_⟩))
  go_ret
  exact ⟨by first | rfl | (simp; done) | (simp [*]; done), by repeat (first | exact Drawn0.refl _ | apply Drawn0.step)⟩

/-! ### spec_IsRed: function 174 -/
def spec_IsRed.f (a0 : Int) : Option (Bool) := (spec_SuitOf.f a0).bind fun t220 => ((spec_l1In.f t220 1 2).bind fun t221 => (some t221))
set_option maxHeartbeats 8000000 in
set_option maxRecDepth 100000 in
theorem spec_IsRed.calls (a0 : Int) (r : Bool) (w : World) (h : spec_IsRed.f a0 = some r) :
  Calls Try.prog 174 #[.int .i64 a0] w fun e w' => e = .returned (.bool r) ∧ Drawn0 w w' := by
 have H : ((spec_SuitOf.f a0).bind fun t220 => ((spec_l1In.f t220 1 2).bind fun t221 => (some t221))) = some r := h
 clear h
 replace H := QL.mp H
 obtain ⟨t220, A20, H⟩ := H
 have A2 := QK A20
 clear A20
 replace H := QL.mp H
 obtain ⟨t221, A30, H⟩ := H
 have A3 := QK A30
 clear A30
 obtain rfl := Option.some.inj H
 go_enter Try.func174, Try.ntmps174
 go_wp2_with (first | ((with_reducible refine QH (f := 115) rfl ?_); refine goesL_ (some 4) rfl rfl Try.func115 (by kernel_rfl) rfl #[.int .i64 a0] rfl (by (try simp only [List.map_toArray, List.map_cons, List.map_nil]); first | done | rfl | (simp only [List.length_drop, List.length_take]; rfl)) ?_; (with_reducible refine (spec_SuitOf.calls a0 t220 _ A2.out).mono ?_); rintro e w' ⟨rfl, ⟨nd, rfl⟩⟩; refine ⟨_, rfl, ?_⟩) | ((with_reducible refine QH (f := 99) rfl ?_); refine goesL_ (some 5) rfl rfl Try.func99 (by kernel_rfl) rfl #[.int .i64 t220, .int .i64 1, .int .i64 2] rfl (by (try simp only [List.map_toArray, List.map_cons, List.map_nil]); first | done | rfl | (simp only [List.length_drop, List.length_take]; rfl)) ?_; (with_reducible refine (spec_l1In.calls t220 1 2 t221 _ A3.out).mono ?_); rintro e w' ⟨rfl, ⟨nd, rfl⟩⟩; refine ⟨_, rfl, ?_⟩))
 go_ret
 exact ⟨by first | rfl | (simp; done) | (simp [*]; done), by repeat (first | exact Drawn0.refl _ | apply Drawn0.step)⟩

/-! ### spec_l8Value: function 168 -/
def spec_l8Value.f (a0 : Int) (a1 : Int) : Option (Bool) := if a0 = 400 then ((spec_IsRed.f a1).bind fun t222 => (some t222)) else (if a0 ≥ 300 then ((spec_RankOf.f a1).bind fun t223 => (some (decide (t223 ≥ (wrap64 (a0 - 300)))))) else (if a0 ≥ 200 then ((spec_RankOf.f a1).bind fun t224 => (some (t224 == (wrap64 (a0 - 200))))) else ((spec_SuitOf.f a1).bind fun t225 => (some (t225 == (wrap64 (a0 - 100)))))))
set_option maxHeartbeats 8000000 in
set_option maxRecDepth 100000 in
theorem spec_l8Value.calls (a0 : Int) (a1 : Int) (r : Bool) (w : World) (h : spec_l8Value.f a0 a1 = some r) :
  Calls Try.prog 168 #[.int .i64 a0, .int .i64 a1] w fun e w' => e = .returned (.bool r) ∧ Drawn0 w w' := by
 have H : (if a0 = 400 then ((spec_IsRed.f a1).bind fun t222 => (some t222)) else (if a0 ≥ 300 then ((spec_RankOf.f a1).bind fun t223 => (some (decide (t223 ≥ (wrap64 (a0 - 300)))))) else (if a0 ≥ 200 then ((spec_RankOf.f a1).bind fun t224 => (some (t224 == (wrap64 (a0 - 200))))) else ((spec_SuitOf.f a1).bind fun t225 => (some (t225 == (wrap64 (a0 - 100)))))))) = some r := h
 clear h
 by_cases c3 : a0 = 400
 ·rw [if_pos c3] at H
  have c3b0 : (a0 == 400) = true := beq_iff_eq.mpr c3
  have c3b1 : (a0 != 400) = false := bne_eq_false_iff_eq.mpr c3
  clear c3
  replace H := QL.mp H
  obtain ⟨t222, A40, H⟩ := H
  have A4 := QK A40
  clear A40
  obtain rfl := Option.some.inj H
  go_enter Try.func168, Try.ntmps168
  go_wp2_with (first | ((with_reducible refine QH (f := 174) rfl ?_); refine goesL_ (some 9) rfl rfl Try.func174 (by kernel_rfl) rfl #[.int .i64 a1] rfl (by (try simp only [List.map_toArray, List.map_cons, List.map_nil]); first | done | rfl | (simp only [List.length_drop, List.length_take]; rfl)) ?_; (with_reducible refine (spec_IsRed.calls a1 t222 _ A4.out).mono ?_); rintro e w' ⟨rfl, ⟨nd, rfl⟩⟩; refine ⟨_, rfl, ?_⟩))
  go_ret
  exact ⟨by first | rfl | (simp; done) | (simp [*]; done), by repeat (first | exact Drawn0.refl _ | apply Drawn0.step)⟩
 ·rw [if_neg c3] at H
  have c3b0 : (a0 == 400) = false := beq_eq_false_iff_ne.mpr c3
  have c3b1 : (a0 != 400) = true := bne_iff_ne.mpr c3
  by_cases c5 : a0 ≥ 300
  ·rw [if_pos c5] at H
   have c5b0 : decide (300 ≤ a0) = true := decide_eq_true c5
   clear c5
   replace H := QL.mp H
   obtain ⟨t223, A60, H⟩ := H
   have A6 := QK A60
   clear A60
   obtain rfl := Option.some.inj H
   go_enter Try.func168, Try.ntmps168
   go_wp2_with (first | ((with_reducible refine QH (f := 142) rfl ?_); refine goesL_ (some 14) rfl rfl Try.func142 (by kernel_rfl) rfl #[.int .i64 a1] rfl (by (try simp only [List.map_toArray, List.map_cons, List.map_nil]); first | done | rfl | (simp only [List.length_drop, List.length_take]; rfl)) ?_; (with_reducible refine (spec_RankOf.calls a1 t223 _ A6.out).mono ?_); rintro e w' ⟨rfl, ⟨nd, rfl⟩⟩; refine ⟨_, rfl, ?_⟩))
   go_ret
   exact ⟨by first | rfl | (simp; done) | (simp [*]; done), by repeat (first | exact Drawn0.refl _ | apply Drawn0.step)⟩
  ·rw [if_neg c5] at H
   have c5b0 : decide (300 ≤ a0) = false := decide_eq_false c5
   clear c5
   by_cases c7 : a0 ≥ 200
   ·rw [if_pos c7] at H
    have c7b0 : decide (200 ≤ a0) = true := decide_eq_true c7
    clear c7
    replace H := QL.mp H
    obtain ⟨t224, A80, H⟩ := H
    have A8 := QK A80
    clear A80
    try (obtain rfl := Option.some.inj (A8.out.symm.trans A6.out))
    obtain rfl := Option.some.inj H
    go_enter Try.func168, Try.ntmps168
    go_wp2_with (first | ((with_reducible refine QH (f := 142) rfl ?_); refine goesL_ (some 22) rfl rfl Try.func142 (by kernel_rfl) rfl #[.int .i64 a1] rfl (by (try simp only [List.map_toArray, List.map_cons, List.map_nil]); first | done | rfl | (simp only [List.length_drop, List.length_take]; rfl)) ?_; (with_reducible refine (spec_RankOf.calls a1 t224 _ A8.out).mono ?_); rintro e w' ⟨rfl, ⟨nd, rfl⟩⟩; refine ⟨_, rfl, ?_⟩))
    go_ret
    exact ⟨by first | rfl | (simp; done) | (simp [*]; done), by repeat (first | exact Drawn0.refl _ | apply Drawn0.step)⟩
   ·rw [if_neg c7] at H
    have c7b0 : decide (200 ≤ a0) = false := decide_eq_false c7
    clear c7
    replace H := QL.mp H
    obtain ⟨t225, A90, H⟩ := H
    have A9 := QK A90
    clear A90
    obtain rfl := Option.some.inj H
    go_enter Try.func168, Try.ntmps168
    go_wp2_with (first | ((with_reducible refine QH (f := 115) rfl ?_); refine goesL_ (some 27) rfl rfl Try.func115 (by kernel_rfl) rfl #[.int .i64 a1] rfl (by (try simp only [List.map_toArray, List.map_cons, List.map_nil]); first | done | rfl | (simp only [List.length_drop, List.length_take]; rfl)) ?_; (with_reducible refine (spec_SuitOf.calls a1 t225 _ A9.out).mono ?_); rintro e w' ⟨rfl, ⟨nd, rfl⟩⟩; refine ⟨_, rfl, ?_⟩))
    go_ret
    exact ⟨by first | rfl | (simp; done) | (simp [*]; done), by repeat (first | exact Drawn0.refl _ | apply Drawn0.step)⟩

end Go.Proofs.Ytkhgeockdjjhmaa.QFnExactPlayable
