/- What a call of each Go function that FnExactChoiceOf reaches comes to, as a Lean function: texts of the kit's print, turned by wip/remake.py. No condition beyond what each names. -/
import Derived.Test.YtdfmobcocaijpaaQFnExactChoiceOfx0
namespace Go.Proofs.Ytdfmobcocaijpaa.QFnExactChoiceOf
open Go.RowKit Go.Proofs.YtdfmobcocaijpaaW.PrintWords Go.Proofs.YtdfmobcocaijpaaW.PrintLast Go.Proofs.YtdfmobcocaijpaaW.PrintMore
open Go.Proofs.YtdfmobcocaijpaaW.PrintWords renaming blk_frozen → QB, blk_cell → QC, pw_below_drewN → QD, below_drew1 → QE, below_alloc → QF, below_set → QI, gate_callee → QL
open Go.Proofs.YtdfmobcocaijpaaW.PrintWords.Kd renaming C_alloc → QG, C_drewN → QH, C_drew → QJ, C_below → QK
open Go.Proofs.YtdfmobcocaijpaaW.PrintWords.Aside0 renaming mk → QM
open Option renaming bind_eq_some_iff → QN
attribute [local go_sem] max2_int min2_int max_two min_two max_three min_three max_four min_four   -- for this text's walks alone
set_option linter.unusedVariables false
set_option linter.unusedSimpArgs false

/-! ### laws_szIntS: function 11 -/
def laws_szIntS.f (l0 : List Int) (a1 : Int) : Option (Int) := if (wrap64 (a1 - (l0.length : Int))) < 0 then (some (-1)) else (some (wrap64 (a1 - (l0.length : Int))))
set_option maxHeartbeats 8000000 in
set_option maxRecDepth 100000 in
theorem laws_szIntS.calls (A0 : Option Addr) (c0 : Nat) (l0 : List Int) (a1 : Int) (r : Int) (w : World) (hr0 : Kd.C (Kd.int .i64) w A0 l0.length l0) (hc0 : l0.length ≤ c0) (h : laws_szIntS.f l0 a1 = some r) :
  Calls Try.prog 11 #[.slice A0 l0.length c0,.int .i64 a1] w fun e w' => e = .returned (.int .i64 r) ∧ Drawn0 w w' := by
 have HR0 := QM hr0
 have HC0 := QM hc0
 clear hr0 hc0
 have H : (if (wrap64 (a1 - (l0.length : Int))) < 0 then (some (-1)) else (some (wrap64 (a1 - (l0.length : Int))))) = some r := h
 clear h
 by_cases c3 : (wrap64 (a1 - (l0.length : Int))) < 0
 ·rw [if_pos c3] at H
  have c3b0 : decide ((wrap64 (a1 - (l0.length : Int))) < 0) = true := decide_eq_true c3
  clear c3
  obtain rfl := Option.some.inj H
  go_enter Try.func11,Try.ntmps11
  go_wp2
  go_ret
  exact ⟨by first | rfl | (simp; done) | (simp [*]; done),by repeat (first | exact Drawn0.refl _ | apply Drawn0.step)⟩
 ·rw [if_neg c3] at H
  have c3b0 : decide ((wrap64 (a1 - (l0.length : Int))) < 0) = false := decide_eq_false c3
  clear c3
  obtain rfl := Option.some.inj H
  go_enter Try.func11,Try.ntmps11
  go_wp2
  go_ret
  exact ⟨by first | rfl | (simp; done) | (simp [*]; done),by repeat (first | exact Drawn0.refl _ | apply Drawn0.step)⟩

/-! ### laws_szRules: function 9 -/
def laws_szRules.f (a0_0 : Int) (a0_1 : Int) (a0_2 : Bool) (a0_3 : Bool) (l0_4 : List Int) (l0_5 : List Int) (a0_6 : Int) (a0_7 : Int) (a1 : Int) : Option (Int) := (laws_szIntS.f l0_4 a1).bind fun t102 => (if t102 < 0 then (some (-1)) else ((laws_szIntS.f l0_5 t102).bind fun t103 => (if t103 < 0 then (some (-1)) else (some t103))))
set_option maxHeartbeats 8000000 in
set_option maxRecDepth 100000 in
theorem laws_szRules.calls (a0_0 : Int) (a0_1 : Int) (a0_2 : Bool) (a0_3 : Bool) (A0_4 : Option Addr) (c0_4 : Nat) (l0_4 : List Int) (A0_5 : Option Addr) (c0_5 : Nat) (l0_5 : List Int) (a0_6 : Int) (a0_7 : Int) (a1 : Int) (r : Int) (w : World) (hr0_4 : Kd.C (Kd.int .i64) w A0_4 l0_4.length l0_4) (hc0_4 : l0_4.length ≤ c0_4) (hr0_5 : Kd.C (Kd.int .i64) w A0_5 l0_5.length l0_5) (hc0_5 : l0_5.length ≤ c0_5) (h : laws_szRules.f a0_0 a0_1 a0_2 a0_3 l0_4 l0_5 a0_6 a0_7 a1 = some r) :
  Calls Try.prog 9 #[.agg #[.int .i64 a0_0,.int .i64 a0_1,.bool a0_2,.bool a0_3,.slice A0_4 l0_4.length c0_4,.slice A0_5 l0_5.length c0_5,.int .i64 a0_6,.int .i64 a0_7],.int .i64 a1] w fun e w' => e = .returned (.int .i64 r) ∧ Below w.heap.size w w' := by
 have hu24 := Try.underlying24
 have HR0_4 := QM hr0_4
 have HC0_4 := QM hc0_4
 clear hr0_4 hc0_4
 have HR0_5 := QM hr0_5
 have HC0_5 := QM hc0_5
 clear hr0_5 hc0_5
 have HB := QM (Below.refl w.heap.size w)
 have H : ((laws_szIntS.f l0_4 a1).bind fun t102 => (if t102 < 0 then (some (-1)) else ((laws_szIntS.f l0_5 t102).bind fun t103 => (if t103 < 0 then (some (-1)) else (some t103))))) = some r := h
 clear h
 replace H := QN.mp H
 obtain ⟨t102,A30,H⟩ := H
 have A3 := QM A30
 clear A30
 by_cases c4 : t102 < 0
 rotate_left
 rw [if_neg c4] at H
 have c4b0 : decide (t102 < 0) = false := decide_eq_false c4
 clear c4
 replace H := QN.mp H
 obtain ⟨t103,A70,H⟩ := H
 have A7 := QM A70
 clear A70
 by_cases c8 : t103 < 0
 rotate_left
 rw [if_neg c8] at H
 have c8b0 : decide (t103 < 0) = false := decide_eq_false c8
 clear c8
 obtain rfl := Option.some.inj H
 rotate_right
 rw [if_pos c8] at H
 have c8b0 : decide (t103 < 0) = true := decide_eq_true c8
 clear c8
 obtain rfl := Option.some.inj H
 rotate_right
 rw [if_pos c4] at H
 have c4b0 : decide (t102 < 0) = true := decide_eq_true c4
 clear c4
 obtain rfl := Option.some.inj H
 all_goals
  go_enter Try.func9,Try.ntmps9
  go_wp2_with (first | ((with_reducible refine gate_dst (N := 2) rfl ?_); refine box_event ?hg (N := 2) ?hd (cs := #[.int .i64 a0_0,.int .i64 a0_1,.bool a0_2,.bool a0_3,.slice A0_4 l0_4.length c0_4,.slice A0_5 l0_5.length c0_5,.int .i64 a0_6,.int .i64 a0_7]) (t := 24) ?hr ?_; (case hd => rfl); (case hg => rfl); (case hr => first | (go_simp; done) | (go_simp; rfl)); intro gb101 hg w11 hbox hb; have n0_ := QM (below_step (by repeat (first | (with_reducible first | exact HB.out | apply QF | apply QD | apply QE) | exact HB.out)) hb); have n1_ := QM (hbox); have n2_ := QM ((by rw [hg]; exact (below_size (by repeat (first | (with_reducible first | exact HB.out | apply QF | apply QD | apply QE) | exact HB.out))) : w.heap.size ≤ gb101)); have n3_ := QM ((by rw [hg]; exact (below_size (by repeat (first | (with_reducible first | exact HB.out | apply QF | apply QD | apply QE) | exact HB.out))) : w.heap.size ≤ gb101)); clear HB; revert n0_ n1_ n2_ n3_; intro HB BK101 GW101 GE101; clear hb hbox hg; have hcz12_0 : w11.cell? ⟨gb101,0,none⟩ = some (.int .i64 a0_0) := (QC BK101.out 0).trans rfl; have hcz12_1 : w11.cell? ⟨gb101,1,none⟩ = some (.int .i64 a0_1) := (QC BK101.out 1).trans rfl; have hcz12_2 : w11.cell? ⟨gb101,2,none⟩ = some (.bool a0_2) := (QC BK101.out 2).trans rfl; have hcz12_3 : w11.cell? ⟨gb101,3,none⟩ = some (.bool a0_3) := (QC BK101.out 3).trans rfl; have hcz12_4 : w11.cell? ⟨gb101,4,none⟩ = some (.slice A0_4 l0_4.length c0_4) := (QC BK101.out 4).trans rfl; have hcz12_5 : w11.cell? ⟨gb101,5,none⟩ = some (.slice A0_5 l0_5.length c0_5) := (QC BK101.out 5).trans rfl; have hcz12_6 : w11.cell? ⟨gb101,6,none⟩ = some (.int .i64 a0_6) := (QC BK101.out 6).trans rfl; have hcz12_7 : w11.cell? ⟨gb101,7,none⟩ = some (.int .i64 a0_7) := (QC BK101.out 7).trans rfl; have hfz12_0 := QB BK101.out 0; have hfz12_1 := QB BK101.out 1; have hfz12_2 := QB BK101.out 2; have hfz12_3 := QB BK101.out 3; have hfz12_4 := QB BK101.out 4; have hfz12_5 := QB BK101.out 5; have hfz12_6 := QB BK101.out 6; have hfz12_7 := QB BK101.out 7) | ((with_reducible refine QL (f := 11) rfl ?_); refine goesL_ (some 8) rfl rfl Try.func11 (by kernel_rfl) rfl #[.slice A0_4 l0_4.length c0_4,.int .i64 a1] rfl (by (try simp only [List.map_toArray,List.map_cons,List.map_nil]); first | done | rfl | (simp only [List.length_drop,List.length_take]; rfl)) ?_; (with_reducible refine (laws_szIntS.calls _ _ l0_4 a1 t102 _ ?side1 ?side2 A3.out).mono ?_); (case side1 => repeat (first | exact (QK HR0_4.out HB.out) | (with_reducible refine QG ?_ _) | (with_reducible refine QH ?_ _) | (with_reducible refine QJ ?_))); (case side2 => exact HC0_4.out); rintro e w' ⟨rfl,⟨nd,rfl⟩⟩; refine ⟨_,rfl,?_⟩) | ((with_reducible refine QL (f := 11) rfl ?_); refine goesL_ (some 14) rfl rfl Try.func11 (by kernel_rfl) rfl #[.slice A0_5 l0_5.length c0_5,.int .i64 t102] rfl (by (try simp only [List.map_toArray,List.map_cons,List.map_nil]); first | done | rfl | (simp only [List.length_drop,List.length_take]; rfl)) ?_; (with_reducible refine (laws_szIntS.calls _ _ l0_5 t102 t103 _ ?side1 ?side2 A7.out).mono ?_); (case side1 => repeat (first | exact (QK HR0_5.out (by repeat (first | (with_reducible first | exact HB.out | apply QF | apply QD | apply QE | refine QI ?_ GE101.out) | exact HB.out))) | (with_reducible refine QG ?_ _) | (with_reducible refine QH ?_ _) | (with_reducible refine QJ ?_))); (case side2 => exact HC0_5.out); rintro e w' ⟨rfl,⟨nd,rfl⟩⟩; refine ⟨_,rfl,?_⟩))
  go_ret
  exact ⟨by first | rfl | (simp [errW_none,errW_some] <;> rfl) | (simp [*,errW_none,errW_some] <;> rfl),by repeat (first | (with_reducible first | exact HB.out | apply QF | apply QD | apply QE | refine QI ?_ GE101.out) | exact HB.out)⟩

/-! ### laws_szIntSS: function 10 -/
def laws_szIntSS.l0 : Nat → List (List Int) → Int → Int → Option (Int)
 | 0,_,_,_ => none
 | k + 1,x0,x1,x5 => if x5 < (x0.length : Int) then (if 0 ≤ x5 then ((laws_szIntS.f (rd_L1 x0 x5) x1).bind fun t105 => (if t105 < 0 then (some (-1)) else (laws_szIntSS.l0 k x0 t105 (wrap64 (x5 + 1))))) else (none)) else (some x1)
def laws_szIntSS.f (k : Nat) (l0 : List (List Int)) (a1 : Int) : Option (Int) := if (wrap64 (a1 - (l0.length : Int))) < 0 then (some (-1)) else (laws_szIntSS.l0 k l0 (wrap64 (a1 - (l0.length : Int))) 0)
theorem laws_szIntSS.mono_l : ∀ k, (∀ y0 y1 y2, LeO (laws_szIntSS.l0 k y0 y1 y2) (laws_szIntSS.l0 (k + 1) y0 y1 y2))
 | 0 => fun _ _ _ r h => by simp [laws_szIntSS.l0] at h
 | k + 1 => by
  have ih0 := laws_szIntSS.mono_l k
  ·intro y0 y1 y2
   unfold laws_szIntSS.l0
   repeat' first
   | (with_reducible exact ih0 _ _ _)
   | (with_reducible exact LeO.refl _)
   | (with_reducible exact LeO.none _)
   | (with_reducible refine LeO.ite ?_ ?_)
   | (with_reducible refine LeO.bind ?_ (fun _ => ?_))
   | exact ih0 _ _ _
   | exact LeO.none _
   | refine LeO.ite ?_ ?_
   | refine LeO.bind ?_ (fun _ => ?_)
theorem laws_szIntSS.mono : ∀ a0 a1 k, LeO (laws_szIntSS.f k a0 a1) (laws_szIntSS.f (k + 1) a0 a1) := by
 intro a0 a1 k
 have ih0 := laws_szIntSS.mono_l k
 unfold laws_szIntSS.f
 repeat' first
   | (with_reducible exact ih0 _ _ _)
   | (with_reducible exact LeO.refl _)
   | (with_reducible exact LeO.none _)
   | (with_reducible refine LeO.ite ?_ ?_)
   | (with_reducible refine LeO.bind ?_ (fun _ => ?_))
   | exact ih0 _ _ _
   | exact LeO.none _
   | refine LeO.ite ?_ ?_
   | refine LeO.bind ?_ (fun _ => ?_)
set_option maxHeartbeats 8000000 in
set_option maxRecDepth 100000 in
theorem laws_szIntSS.calls (k : Nat) (A0 : Option Addr) (c0 : Nat) (l0 : List (List Int)) (a1 : Int) (r : Int) (w : World) (hr0 : Kd.C (Kd.slice 3 (Kd.int .i64)) w A0 l0.length l0) (hc0 : l0.length ≤ c0) (h : laws_szIntSS.f k l0 a1 = some r) :
  Calls Try.prog 10 #[.slice A0 l0.length c0,.int .i64 a1] w fun e w' => e = .returned (.int .i64 r) ∧ Drawn0 w w' := by
 have HR0 := QM hr0
 have HC0 := QM hc0
 clear hr0 hc0
 have H : (if (wrap64 (a1 - (l0.length : Int))) < 0 then (some (-1)) else (laws_szIntSS.l0 k l0 (wrap64 (a1 - (l0.length : Int))) 0)) = some r := h
 clear h
 by_cases c3 : (wrap64 (a1 - (l0.length : Int))) < 0
 ·rw [if_pos c3] at H
  have c3b0 : decide ((wrap64 (a1 - (l0.length : Int))) < 0) = true := decide_eq_true c3
  clear c3
  obtain rfl := Option.some.inj H
  go_enter Try.func10,Try.ntmps10
  go_wp2
  go_ret
  exact ⟨by first | rfl | (simp; done) | (simp [*]; done),by repeat (first | exact Drawn0.refl _ | apply Drawn0.step)⟩
 ·rw [if_neg c3] at H
  have c3b0 : decide ((wrap64 (a1 - (l0.length : Int))) < 0) = false := decide_eq_false c3
  clear c3
  have H' := QM H
  clear H
  go_enter Try.func10,Try.ntmps10
  go_wp2
  go_loopg [1,5] k (fun kq v1 v5 w' => ∃ (x1_1 : Int) (x5_1 : Int),v1 = .int .i64 x1_1 ∧ v5 = .int .i64 x5_1 ∧ Aside0 (laws_szIntSS.l0 kq l0 x1_1 x5_1 = some r) ∧ Aside0 (kq ≤ k) ∧ Drawn0 w w')
  case atStart => exact ⟨(wrap64 (a1 - (l0.length : Int))),(0),(by first | rfl | (simp; done) | (simp [*]; done)),(by first | rfl | (simp; done) | (simp [*]; done)),H',⟨Nat.le_refl _⟩,by repeat (first | exact Drawn0.refl _ | apply Drawn0.step)⟩
  case round =>
   clear H'
   try clear c1
   try clear p2
   try clear c3
   try clear c3b0
   obtain ⟨x1_1,x5_1,rfl,rfl,HA,HK1,⟨m1,rfl⟩⟩ := hrel
   cases gk with
   | zero => exact absurd HA.out (by simp [laws_szIntSS.l0])
   | succ k1 =>
    have H := HA.out
    clear HA
    simp only [laws_szIntSS.l0] at H
    by_cases c4 : x5_1 < (l0.length : Int)
    ·rw [if_pos c4] at H
     have c4b0 : decide (x5_1 < (l0.length : Int)) = true := decide_eq_true c4
     clear c4
     by_cases c5 : 0 ≤ x5_1
     ·rw [if_pos c5] at H
      have c5b0 : decide (0 ≤ x5_1) = true := decide_eq_true c5
      clear c5
      replace H := QN.mp H
      obtain ⟨t105,A60,H⟩ := H
      have A6 := QM A60
      clear A60
      by_cases c7 : t105 < 0
      ·rw [if_pos c7] at H
       have c7b0 : decide (t105 < 0) = true := decide_eq_true c7
       clear c7
       obtain rfl := Option.some.inj H
       have p104 : 0 ≤ (x5_1 : Int) := of_decide_eq_true (by first | (with_reducible assumption) | assumption)
       have q104 : x5_1 < (l0.length : Int) := of_decide_eq_true (by first | (with_reducible assumption) | assumption)
       obtain ⟨ad104,A104_0,c104_0,e104,hx104_0,hl104_0,hi104_0⟩ := at_L1 HR0.out x5_1 p104 q104
       cases e104
       have HR104_0 := QM hi104_0
       have HC104_0 := QM hl104_0
       clear hi104_0 hl104_0
       replace p104 := eq_true p104
       replace q104 := eq_true q104
       go_wp2_with (first | ((with_reducible refine QL (f := 11) rfl ?_); refine goesL_ (some 23) rfl rfl Try.func11 (by kernel_rfl) rfl #[.slice A104_0 (rd_L1 l0 x5_1).length c104_0,.int .i64 x1_1] rfl (by (try simp only [List.map_toArray,List.map_cons,List.map_nil]); first | done | rfl | (simp only [List.length_drop,List.length_take]; rfl)) ?_; (with_reducible refine (laws_szIntS.calls _ _ (rd_L1 l0 x5_1) x1_1 t105 _ ?side1 ?side2 A6.out).mono ?_); (case side1 => repeat (first | exact HR104_0.out | (with_reducible refine QG ?_ _) | (with_reducible refine QH ?_ _) | (with_reducible refine QJ ?_))); (case side2 => exact HC104_0.out); rintro e w' ⟨rfl,⟨nd,rfl⟩⟩; refine ⟨_,rfl,?_⟩))
       go_ret
       exact ⟨by first | rfl | (simp; done) | (simp [*]; done),by repeat (first | exact Drawn0.refl _ | apply Drawn0.step)⟩
      ·rw [if_neg c7] at H
       have c7b0 : decide (t105 < 0) = false := decide_eq_false c7
       clear c7
       have H' := QM H
       clear H
       have p104 : 0 ≤ (x5_1 : Int) := of_decide_eq_true (by first | (with_reducible assumption) | assumption)
       have q104 : x5_1 < (l0.length : Int) := of_decide_eq_true (by first | (with_reducible assumption) | assumption)
       obtain ⟨ad104,A104_0,c104_0,e104,hx104_0,hl104_0,hi104_0⟩ := at_L1 HR0.out x5_1 p104 q104
       cases e104
       have HR104_0 := QM hi104_0
       have HC104_0 := QM hl104_0
       clear hi104_0 hl104_0
       replace p104 := eq_true p104
       replace q104 := eq_true q104
       go_wp2_with (first | ((with_reducible refine QL (f := 11) rfl ?_); refine goesL_ (some 23) rfl rfl Try.func11 (by kernel_rfl) rfl #[.slice A104_0 (rd_L1 l0 x5_1).length c104_0,.int .i64 x1_1] rfl (by (try simp only [List.map_toArray,List.map_cons,List.map_nil]); first | done | rfl | (simp only [List.length_drop,List.length_take]; rfl)) ?_; (with_reducible refine (laws_szIntS.calls _ _ (rd_L1 l0 x5_1) x1_1 t105 _ ?side1 ?side2 A6.out).mono ?_); (case side1 => repeat (first | exact HR104_0.out | (with_reducible refine QG ?_ _) | (with_reducible refine QH ?_ _) | (with_reducible refine QJ ?_))); (case side2 => exact HC104_0.out); rintro e w' ⟨rfl,⟨nd,rfl⟩⟩; refine ⟨_,rfl,?_⟩))
       go_roundg k1
       case measure => have := HK1.out; omega
       case rel => exact ⟨(t105),(wrap64 (x5_1 + 1)),(by first | rfl | (simp; done) | (simp [*]; done)),(by first | rfl | (simp; done) | (simp [*]; done)),H',⟨by have := HK1.out; omega⟩,by repeat (first | exact Drawn0.refl _ | apply Drawn0.step)⟩
     ·rw [if_neg c5] at H
      exact absurd H (by simp)
    ·rw [if_neg c4] at H
     have c4b0 : decide (x5_1 < (l0.length : Int)) = false := decide_eq_false c4
     clear c4
     obtain rfl := Option.some.inj H
     go_wp2
     go_ret
     exact ⟨by first | rfl | (simp; done) | (simp [*]; done),by repeat (first | exact Drawn0.refl _ | apply Drawn0.step)⟩

/-! ### laws_szGame: function 4 -/
def laws_szGame.f (k : Nat) (a0_0 : Int) (a0_1 : Int) (a0_2 : Bool) (a0_3 : Bool) (l0_4 : List Int) (l0_5 : List Int) (a0_6 : Int) (a0_7 : Int) (l0_8 : List (List Int)) (l0_9 : List Int) (l0_10 : List Int) (a0_11 : Int) (a0_12 : Int) (a0_13 : Int) (a1 : Int) : Option (Int) := (laws_szRules.f a0_0 a0_1 a0_2 a0_3 l0_4 l0_5 a0_6 a0_7 a1).bind fun t107 => (if t107 < 0 then (some (-1)) else ((laws_szIntSS.f k l0_8 t107).bind fun t108 => (if t108 < 0 then (some (-1)) else ((laws_szIntS.f l0_9 t108).bind fun t109 => (if t109 < 0 then (some (-1)) else ((laws_szIntS.f l0_10 t109).bind fun t110 => (if t110 < 0 then (some (-1)) else (some t110))))))))
theorem laws_szGame.mono : ∀ a0 a1 a2 a3 a4 a5 a6 a7 a8 a9 a10 a11 a12 a13 a14 k, LeO (laws_szGame.f k a0 a1 a2 a3 a4 a5 a6 a7 a8 a9 a10 a11 a12 a13 a14) (laws_szGame.f (k + 1) a0 a1 a2 a3 a4 a5 a6 a7 a8 a9 a10 a11 a12 a13 a14) := by
 intro a0 a1 a2 a3 a4 a5 a6 a7 a8 a9 a10 a11 a12 a13 a14 k
 unfold laws_szGame.f
 repeat' first
   | (with_reducible exact laws_szIntSS.mono _ _ _)
   | (with_reducible exact LeO.refl _)
   | (with_reducible exact LeO.none _)
   | (with_reducible refine LeO.ite ?_ ?_)
   | (with_reducible refine LeO.bind ?_ (fun _ => ?_))
   | exact laws_szIntSS.mono _ _ _
   | exact LeO.none _
   | refine LeO.ite ?_ ?_
   | refine LeO.bind ?_ (fun _ => ?_)
set_option maxHeartbeats 8000000 in
set_option maxRecDepth 100000 in
theorem laws_szGame.calls (k : Nat) (a0_0 : Int) (a0_1 : Int) (a0_2 : Bool) (a0_3 : Bool) (A0_4 : Option Addr) (c0_4 : Nat) (l0_4 : List Int) (A0_5 : Option Addr) (c0_5 : Nat) (l0_5 : List Int) (a0_6 : Int) (a0_7 : Int) (A0_8 : Option Addr) (c0_8 : Nat) (l0_8 : List (List Int)) (A0_9 : Option Addr) (c0_9 : Nat) (l0_9 : List Int) (A0_10 : Option Addr) (c0_10 : Nat) (l0_10 : List Int) (a0_11 : Int) (a0_12 : Int) (a0_13 : Int) (a1 : Int) (r : Int) (w : World) (hr0_4 : Kd.C (Kd.int .i64) w A0_4 l0_4.length l0_4) (hc0_4 : l0_4.length ≤ c0_4) (hr0_5 : Kd.C (Kd.int .i64) w A0_5 l0_5.length l0_5) (hc0_5 : l0_5.length ≤ c0_5) (hr0_8 : Kd.C (Kd.slice 3 (Kd.int .i64)) w A0_8 l0_8.length l0_8) (hc0_8 : l0_8.length ≤ c0_8) (hr0_9 : Kd.C (Kd.int .i64) w A0_9 l0_9.length l0_9) (hc0_9 : l0_9.length ≤ c0_9) (hr0_10 : Kd.C (Kd.int .i64) w A0_10 l0_10.length l0_10) (hc0_10 : l0_10.length ≤ c0_10) (h : laws_szGame.f k a0_0 a0_1 a0_2 a0_3 l0_4 l0_5 a0_6 a0_7 l0_8 l0_9 l0_10 a0_11 a0_12 a0_13 a1 = some r) :
  Calls Try.prog 4 #[.agg #[.int .i64 a0_0,.int .i64 a0_1,.bool a0_2,.bool a0_3,.slice A0_4 l0_4.length c0_4,.slice A0_5 l0_5.length c0_5,.int .i64 a0_6,.int .i64 a0_7,.slice A0_8 l0_8.length c0_8,.slice A0_9 l0_9.length c0_9,.slice A0_10 l0_10.length c0_10,.int .i64 a0_11,.int .i64 a0_12,.int .i64 a0_13],.int .i64 a1] w fun e w' => e = .returned (.int .i64 r) ∧ Below w.heap.size w w' := by
 have hu27 := Try.underlying27
 have hu24 := Try.underlying24
 have HR0_4 := QM hr0_4
 have HC0_4 := QM hc0_4
 clear hr0_4 hc0_4
 have HR0_5 := QM hr0_5
 have HC0_5 := QM hc0_5
 clear hr0_5 hc0_5
 have HR0_8 := QM hr0_8
 have HC0_8 := QM hc0_8
 clear hr0_8 hc0_8
 have HR0_9 := QM hr0_9
 have HC0_9 := QM hc0_9
 clear hr0_9 hc0_9
 have HR0_10 := QM hr0_10
 have HC0_10 := QM hc0_10
 clear hr0_10 hc0_10
 have HB := QM (Below.refl w.heap.size w)
 have H : ((laws_szRules.f a0_0 a0_1 a0_2 a0_3 l0_4 l0_5 a0_6 a0_7 a1).bind fun t107 => (if t107 < 0 then (some (-1)) else ((laws_szIntSS.f k l0_8 t107).bind fun t108 => (if t108 < 0 then (some (-1)) else ((laws_szIntS.f l0_9 t108).bind fun t109 => (if t109 < 0 then (some (-1)) else ((laws_szIntS.f l0_10 t109).bind fun t110 => (if t110 < 0 then (some (-1)) else (some t110))))))))) = some r := h
 clear h
 replace H := QN.mp H
 obtain ⟨t107,A30,H⟩ := H
 have A3 := QM A30
 clear A30
 by_cases c4 : t107 < 0
 rotate_left
 rw [if_neg c4] at H
 have c4b0 : decide (t107 < 0) = false := decide_eq_false c4
 clear c4
 replace H := QN.mp H
 obtain ⟨t108,A80,H⟩ := H
 have A8 := QM A80
 clear A80
 by_cases c9 : t108 < 0
 rotate_left
 rw [if_neg c9] at H
 have c9b0 : decide (t108 < 0) = false := decide_eq_false c9
 clear c9
 replace H := QN.mp H
 obtain ⟨t109,A140,H⟩ := H
 have A14 := QM A140
 clear A140
 by_cases c15 : t109 < 0
 rotate_left
 rw [if_neg c15] at H
 have c15b0 : decide (t109 < 0) = false := decide_eq_false c15
 clear c15
 replace H := QN.mp H
 obtain ⟨t110,A200,H⟩ := H
 have A20 := QM A200
 clear A200
 by_cases c21 : t110 < 0
 rotate_left
 rw [if_neg c21] at H
 have c21b0 : decide (t110 < 0) = false := decide_eq_false c21
 clear c21
 obtain rfl := Option.some.inj H
 rotate_right
 rw [if_pos c21] at H
 have c21b0 : decide (t110 < 0) = true := decide_eq_true c21
 clear c21
 obtain rfl := Option.some.inj H
 rotate_right
 rw [if_pos c15] at H
 have c15b0 : decide (t109 < 0) = true := decide_eq_true c15
 clear c15
 obtain rfl := Option.some.inj H
 rotate_right
 rw [if_pos c9] at H
 have c9b0 : decide (t108 < 0) = true := decide_eq_true c9
 clear c9
 obtain rfl := Option.some.inj H
 rotate_right
 rw [if_pos c4] at H
 have c4b0 : decide (t107 < 0) = true := decide_eq_true c4
 clear c4
 obtain rfl := Option.some.inj H
 all_goals
  go_enter Try.func4,Try.ntmps4
  go_wp2_with (first | ((with_reducible refine gate_dst (N := 2) rfl ?_); refine box_event ?hg (N := 2) ?hd (cs := #[.int .i64 a0_0,.int .i64 a0_1,.bool a0_2,.bool a0_3,.slice A0_4 l0_4.length c0_4,.slice A0_5 l0_5.length c0_5,.int .i64 a0_6,.int .i64 a0_7,.slice A0_8 l0_8.length c0_8,.slice A0_9 l0_9.length c0_9,.slice A0_10 l0_10.length c0_10,.int .i64 a0_11,.int .i64 a0_12,.int .i64 a0_13]) (t := 27) ?hr ?_; (case hd => rfl); (case hg => rfl); (case hr => first | (go_simp; done) | (go_simp; rfl)); intro gb106 hg w22 hbox hb; have n0_ := QM (below_step (by repeat (first | (with_reducible first | exact HB.out | apply QF | apply QD | apply QE) | exact HB.out)) hb); have n1_ := QM (hbox); have n2_ := QM ((by rw [hg]; exact (below_size (by repeat (first | (with_reducible first | exact HB.out | apply QF | apply QD | apply QE) | exact HB.out))) : w.heap.size ≤ gb106)); have n3_ := QM ((by rw [hg]; exact (below_size (by repeat (first | (with_reducible first | exact HB.out | apply QF | apply QD | apply QE) | exact HB.out))) : w.heap.size ≤ gb106)); clear HB; revert n0_ n1_ n2_ n3_; intro HB BK106 GW106 GE106; clear hb hbox hg; have hcz23_0 : w22.cell? ⟨gb106,0,none⟩ = some (.int .i64 a0_0) := (QC BK106.out 0).trans rfl; have hcz23_1 : w22.cell? ⟨gb106,1,none⟩ = some (.int .i64 a0_1) := (QC BK106.out 1).trans rfl; have hcz23_2 : w22.cell? ⟨gb106,2,none⟩ = some (.bool a0_2) := (QC BK106.out 2).trans rfl; have hcz23_3 : w22.cell? ⟨gb106,3,none⟩ = some (.bool a0_3) := (QC BK106.out 3).trans rfl; have hcz23_4 : w22.cell? ⟨gb106,4,none⟩ = some (.slice A0_4 l0_4.length c0_4) := (QC BK106.out 4).trans rfl; have hcz23_5 : w22.cell? ⟨gb106,5,none⟩ = some (.slice A0_5 l0_5.length c0_5) := (QC BK106.out 5).trans rfl; have hcz23_6 : w22.cell? ⟨gb106,6,none⟩ = some (.int .i64 a0_6) := (QC BK106.out 6).trans rfl; have hcz23_7 : w22.cell? ⟨gb106,7,none⟩ = some (.int .i64 a0_7) := (QC BK106.out 7).trans rfl; have hcz23_8 : w22.cell? ⟨gb106,8,none⟩ = some (.slice A0_8 l0_8.length c0_8) := (QC BK106.out 8).trans rfl; have hcz23_9 : w22.cell? ⟨gb106,9,none⟩ = some (.slice A0_9 l0_9.length c0_9) := (QC BK106.out 9).trans rfl; have hcz23_10 : w22.cell? ⟨gb106,10,none⟩ = some (.slice A0_10 l0_10.length c0_10) := (QC BK106.out 10).trans rfl; have hcz23_11 : w22.cell? ⟨gb106,11,none⟩ = some (.int .i64 a0_11) := (QC BK106.out 11).trans rfl; have hcz23_12 : w22.cell? ⟨gb106,12,none⟩ = some (.int .i64 a0_12) := (QC BK106.out 12).trans rfl; have hcz23_13 : w22.cell? ⟨gb106,13,none⟩ = some (.int .i64 a0_13) := (QC BK106.out 13).trans rfl; have hfz23_0 := QB BK106.out 0; have hfz23_1 := QB BK106.out 1; have hfz23_2 := QB BK106.out 2; have hfz23_3 := QB BK106.out 3; have hfz23_4 := QB BK106.out 4; have hfz23_5 := QB BK106.out 5; have hfz23_6 := QB BK106.out 6; have hfz23_7 := QB BK106.out 7; have hfz23_8 := QB BK106.out 8; have hfz23_9 := QB BK106.out 9; have hfz23_10 := QB BK106.out 10; have hfz23_11 := QB BK106.out 11; have hfz23_12 := QB BK106.out 12; have hfz23_13 := QB BK106.out 13) | ((with_reducible refine QL (f := 9) rfl ?_); refine goesL_ (some 8) rfl rfl Try.func9 (by kernel_rfl) rfl #[.agg #[.int .i64 a0_0,.int .i64 a0_1,.bool a0_2,.bool a0_3,.slice A0_4 l0_4.length c0_4,.slice A0_5 l0_5.length c0_5,.int .i64 a0_6,.int .i64 a0_7],.int .i64 a1] rfl (by (try simp only [List.map_toArray,List.map_cons,List.map_nil]); first | done | rfl | (simp only [List.length_drop,List.length_take]; rfl)) ?_; (with_reducible refine (laws_szRules.calls a0_0 a0_1 a0_2 a0_3 _ _ l0_4 _ _ l0_5 a0_6 a0_7 a1 t107 _ ?side1 ?side2 ?side3 ?side4 A3.out).mono ?_); (case side1 => repeat (first | exact (QK HR0_4.out HB.out) | (with_reducible refine QG ?_ _) | (with_reducible refine QH ?_ _) | (with_reducible refine QJ ?_))); (case side2 => exact HC0_4.out); (case side3 => repeat (first | exact (QK HR0_5.out HB.out) | (with_reducible refine QG ?_ _) | (with_reducible refine QH ?_ _) | (with_reducible refine QJ ?_))); (case side4 => exact HC0_5.out); rintro e w24 ⟨rfl,hb⟩; refine ⟨_,rfl,?_⟩; have n0_ := QM (blk_below (g := gb106) (o := _) (by (with_reducible repeat (first | refine blk_drewN ?_ _ | refine blk_drew ?_ | refine blk_alloc ?_ _)); exact BK106.out) hb); have n1_ := QM (below_step (by repeat (first | (with_reducible first | exact HB.out | apply QF | apply QD | apply QE | refine QI ?_ GE106.out) | exact HB.out)) hb); clear BK106; clear HB; revert n0_ n1_; intro BK106 HB; (try clear hb); (try clear hb2); (try clear hk); (try clear hi); have hcz25_0 : w24.cell? ⟨gb106,0,none⟩ = some (.int .i64 a0_0) := (QC BK106.out 0).trans rfl; have hcz25_1 : w24.cell? ⟨gb106,1,none⟩ = some (.int .i64 a0_1) := (QC BK106.out 1).trans rfl; have hcz25_2 : w24.cell? ⟨gb106,2,none⟩ = some (.bool a0_2) := (QC BK106.out 2).trans rfl; have hcz25_3 : w24.cell? ⟨gb106,3,none⟩ = some (.bool a0_3) := (QC BK106.out 3).trans rfl; have hcz25_4 : w24.cell? ⟨gb106,4,none⟩ = some (.slice A0_4 l0_4.length c0_4) := (QC BK106.out 4).trans rfl; have hcz25_5 : w24.cell? ⟨gb106,5,none⟩ = some (.slice A0_5 l0_5.length c0_5) := (QC BK106.out 5).trans rfl; have hcz25_6 : w24.cell? ⟨gb106,6,none⟩ = some (.int .i64 a0_6) := (QC BK106.out 6).trans rfl; have hcz25_7 : w24.cell? ⟨gb106,7,none⟩ = some (.int .i64 a0_7) := (QC BK106.out 7).trans rfl; have hcz25_8 : w24.cell? ⟨gb106,8,none⟩ = some (.slice A0_8 l0_8.length c0_8) := (QC BK106.out 8).trans rfl; have hcz25_9 : w24.cell? ⟨gb106,9,none⟩ = some (.slice A0_9 l0_9.length c0_9) := (QC BK106.out 9).trans rfl; have hcz25_10 : w24.cell? ⟨gb106,10,none⟩ = some (.slice A0_10 l0_10.length c0_10) := (QC BK106.out 10).trans rfl; have hcz25_11 : w24.cell? ⟨gb106,11,none⟩ = some (.int .i64 a0_11) := (QC BK106.out 11).trans rfl; have hcz25_12 : w24.cell? ⟨gb106,12,none⟩ = some (.int .i64 a0_12) := (QC BK106.out 12).trans rfl; have hcz25_13 : w24.cell? ⟨gb106,13,none⟩ = some (.int .i64 a0_13) := (QC BK106.out 13).trans rfl; have hfz25_0 := QB BK106.out 0; have hfz25_1 := QB BK106.out 1; have hfz25_2 := QB BK106.out 2; have hfz25_3 := QB BK106.out 3; have hfz25_4 := QB BK106.out 4; have hfz25_5 := QB BK106.out 5; have hfz25_6 := QB BK106.out 6; have hfz25_7 := QB BK106.out 7; have hfz25_8 := QB BK106.out 8; have hfz25_9 := QB BK106.out 9; have hfz25_10 := QB BK106.out 10; have hfz25_11 := QB BK106.out 11; have hfz25_12 := QB BK106.out 12; have hfz25_13 := QB BK106.out 13) | ((with_reducible refine QL (f := 10) rfl ?_); refine goesL_ (some 14) rfl rfl Try.func10 (by kernel_rfl) rfl #[.slice A0_8 l0_8.length c0_8,.int .i64 t107] rfl (by (try simp only [List.map_toArray,List.map_cons,List.map_nil]); first | done | rfl | (simp only [List.length_drop,List.length_take]; rfl)) ?_; (with_reducible refine (laws_szIntSS.calls k _ _ l0_8 t107 t108 _ ?side1 ?side2 A8.out).mono ?_); (case side1 => repeat (first | exact (QK HR0_8.out HB.out) | (with_reducible refine QG ?_ _) | (with_reducible refine QH ?_ _) | (with_reducible refine QJ ?_))); (case side2 => exact HC0_8.out); rintro e w' ⟨rfl,⟨nd,rfl⟩⟩; refine ⟨_,rfl,?_⟩) | ((with_reducible refine QL (f := 11) rfl ?_); refine goesL_ (some 20) rfl rfl Try.func11 (by kernel_rfl) rfl #[.slice A0_9 l0_9.length c0_9,.int .i64 t108] rfl (by (try simp only [List.map_toArray,List.map_cons,List.map_nil]); first | done | rfl | (simp only [List.length_drop,List.length_take]; rfl)) ?_; (with_reducible refine (laws_szIntS.calls _ _ l0_9 t108 t109 _ ?side1 ?side2 A14.out).mono ?_); (case side1 => repeat (first | exact (QK HR0_9.out (by repeat (first | (with_reducible first | exact HB.out | apply QF | apply QD | apply QE | refine QI ?_ GE106.out) | exact HB.out))) | (with_reducible refine QG ?_ _) | (with_reducible refine QH ?_ _) | (with_reducible refine QJ ?_))); (case side2 => exact HC0_9.out); rintro e w' ⟨rfl,⟨nd,rfl⟩⟩; refine ⟨_,rfl,?_⟩) | ((with_reducible refine QL (f := 11) rfl ?_); refine goesL_ (some 26) rfl rfl Try.func11 (by kernel_rfl) rfl #[.slice A0_10 l0_10.length c0_10,.int .i64 t109] rfl (by (try simp only [List.map_toArray,List.map_cons,List.map_nil]); first | done | rfl | (simp only [List.length_drop,List.length_take]; rfl)) ?_; (with_reducible refine (laws_szIntS.calls _ _ l0_10 t109 t110 _ ?side1 ?side2 A20.out).mono ?_); (case side1 => repeat (first | exact (QK HR0_10.out (by repeat (first | (with_reducible first | exact HB.out | apply QF | apply QD | apply QE | refine QI ?_ GE106.out) | exact HB.out))) | (with_reducible refine QG ?_ _) | (with_reducible refine QH ?_ _) | (with_reducible refine QJ ?_))); (case side2 => exact HC0_10.out); rintro e w' ⟨rfl,⟨nd,rfl⟩⟩; refine ⟨_,rfl,?_⟩))
  go_ret
  exact ⟨by first | rfl | (simp [errW_none,errW_some] <;> rfl) | (simp [*,errW_none,errW_some] <;> rfl),by repeat (first | (with_reducible first | exact HB.out | apply QF | apply QD | apply QE | refine QI ?_ GE106.out) | exact HB.out)⟩

/-! ### spec_l1In: function 36 -/
def spec_l1In.f (a0 : Int) (a1 : Int) (a2 : Int) : Option (Bool) := if a0 ≥ a1 then (some (decide (a0 ≤ a2))) else (some false)
set_option maxHeartbeats 8000000 in
set_option maxRecDepth 100000 in
theorem spec_l1In.calls (a0 : Int) (a1 : Int) (a2 : Int) (r : Bool) (w : World) (h : spec_l1In.f a0 a1 a2 = some r) :
  Calls Try.prog 36 #[.int .i64 a0,.int .i64 a1,.int .i64 a2] w fun e w' => e = .returned (.bool r) ∧ Drawn0 w w' := by
 have H : (if a0 ≥ a1 then (some (decide (a0 ≤ a2))) else (some false)) = some r := h
 clear h
 by_cases c4 : a0 ≥ a1
 ·rw [if_pos c4] at H
  have c4b0 : decide (a1 ≤ a0) = true := decide_eq_true c4
  clear c4
  obtain rfl := Option.some.inj H
  go_enter Try.func36,Try.ntmps36
  go_wp2
  go_ret
  exact ⟨by first | rfl | (simp; done) | (simp [*]; done),by repeat (first | exact Drawn0.refl _ | apply Drawn0.step)⟩
 ·rw [if_neg c4] at H
  have c4b0 : decide (a1 ≤ a0) = false := decide_eq_false c4
  clear c4
  obtain rfl := Option.some.inj H
  go_enter Try.func36,Try.ntmps36
  go_wp2
  go_ret
  exact ⟨by first | rfl | (simp; done) | (simp [*]; done),by repeat (first | exact Drawn0.refl _ | apply Drawn0.step)⟩

/-! ### spec_l8Leaf: function 58 -/
def spec_l8Leaf.f (a0 : Int) : Option (Bool) := (spec_l1In.f a0 100 103).bind fun t111 => (if t111 = true then (some true) else ((spec_l1In.f a0 200 212).bind fun t112 => (if t112 = true then (some true) else ((spec_l1In.f a0 300 312).bind fun t113 => (if t113 = true then (some true) else (some (a0 == 400)))))))
set_option maxHeartbeats 8000000 in
set_option maxRecDepth 100000 in
theorem spec_l8Leaf.calls (a0 : Int) (r : Bool) (w : World) (h : spec_l8Leaf.f a0 = some r) :
  Calls Try.prog 58 #[.int .i64 a0] w fun e w' => e = .returned (.bool r) ∧ Drawn0 w w' := by
 have H : ((spec_l1In.f a0 100 103).bind fun t111 => (if t111 = true then (some true) else ((spec_l1In.f a0 200 212).bind fun t112 => (if t112 = true then (some true) else ((spec_l1In.f a0 300 312).bind fun t113 => (if t113 = true then (some true) else (some (a0 == 400)))))))) = some r := h
 clear h
 replace H := QN.mp H
 obtain ⟨t111,A20,H⟩ := H
 have A2 := QM A20
 clear A20
 by_cases c3 : t111 = true
 ·subst c3
  rw [if_pos rfl] at H
  obtain rfl := Option.some.inj H
  go_enter Try.func58,Try.ntmps58
  go_wp2_with (first | ((with_reducible refine QL (f := 36) rfl ?_); refine goesL_ (some 4) rfl rfl Try.func36 (by kernel_rfl) rfl #[.int .i64 a0,.int .i64 100,.int .i64 103] rfl (by (try simp only [List.map_toArray,List.map_cons,List.map_nil]); first | done | rfl | (simp only [List.length_drop,List.length_take]; rfl)) ?_; (with_reducible refine (spec_l1In.calls a0 100 103 true _ A2.out).mono ?_); rintro e w' ⟨rfl,⟨nd,rfl⟩⟩; refine ⟨_,rfl,?_⟩))
  go_ret
  exact ⟨by first | rfl | (simp; done) | (simp [*]; done),by repeat (first | exact Drawn0.refl _ | apply Drawn0.step)⟩
 ·replace c3 := Bool.eq_false_iff.mpr c3
  subst c3
  rw [if_neg (show ¬ (false = true) by decide)] at H
  replace H := QN.mp H
  obtain ⟨t112,A40,H⟩ := H
  have A4 := QM A40
  clear A40
  by_cases c5 : t112 = true
  ·subst c5
   rw [if_pos rfl] at H
   obtain rfl := Option.some.inj H
   go_enter Try.func58,Try.ntmps58
   go_wp2_with (first | ((with_reducible refine QL (f := 36) rfl ?_); refine goesL_ (some 4) rfl rfl Try.func36 (by kernel_rfl) rfl #[.int .i64 a0,.int .i64 100,.int .i64 103] rfl (by (try simp only [List.map_toArray,List.map_cons,List.map_nil]); first | done | rfl | (simp only [List.length_drop,List.length_take]; rfl)) ?_; (with_reducible refine (spec_l1In.calls a0 100 103 false _ A2.out).mono ?_); rintro e w' ⟨rfl,⟨nd,rfl⟩⟩; refine ⟨_,rfl,?_⟩) | (go_at_call 36; (with_reducible refine (spec_l1In.calls a0 200 212 true _ A4.out).mono ?_); rintro e w' ⟨rfl,⟨nd,rfl⟩⟩))
   go_ret
   exact ⟨by first | rfl | (simp; done) | (simp [*]; done),by repeat (first | exact Drawn0.refl _ | apply Drawn0.step)⟩
  ·replace c5 := Bool.eq_false_iff.mpr c5
   subst c5
   rw [if_neg (show ¬ (false = true) by decide)] at H
   replace H := QN.mp H
   obtain ⟨t113,A60,H⟩ := H
   have A6 := QM A60
   clear A60
   by_cases c7 : t113 = true
   ·subst c7
    rw [if_pos rfl] at H
    obtain rfl := Option.some.inj H
    go_enter Try.func58,Try.ntmps58
    go_wp2_with (first | ((with_reducible refine QL (f := 36) rfl ?_); refine goesL_ (some 4) rfl rfl Try.func36 (by kernel_rfl) rfl #[.int .i64 a0,.int .i64 100,.int .i64 103] rfl (by (try simp only [List.map_toArray,List.map_cons,List.map_nil]); first | done | rfl | (simp only [List.length_drop,List.length_take]; rfl)) ?_; (with_reducible refine (spec_l1In.calls a0 100 103 false _ A2.out).mono ?_); rintro e w' ⟨rfl,⟨nd,rfl⟩⟩; refine ⟨_,rfl,?_⟩) | (go_at_call 36; (with_reducible refine (spec_l1In.calls a0 200 212 false _ A4.out).mono ?_); rintro e w' ⟨rfl,⟨nd,rfl⟩⟩) | (go_at_call 36; (with_reducible refine (spec_l1In.calls a0 300 312 true _ A6.out).mono ?_); rintro e w' ⟨rfl,⟨nd,rfl⟩⟩))
    go_ret
    exact ⟨by first | rfl | (simp; done) | (simp [*]; done),by repeat (first | exact Drawn0.refl _ | apply Drawn0.step)⟩
   ·replace c7 := Bool.eq_false_iff.mpr c7
    subst c7
    rw [if_neg (show ¬ (false = true) by decide)] at H
    obtain rfl := Option.some.inj H
    go_enter Try.func58,Try.ntmps58
    go_wp2_with (first | ((with_reducible refine QL (f := 36) rfl ?_); refine goesL_ (some 4) rfl rfl Try.func36 (by kernel_rfl) rfl #[.int .i64 a0,.int .i64 100,.int .i64 103] rfl (by (try simp only [List.map_toArray,List.map_cons,List.map_nil]); first | done | rfl | (simp only [List.length_drop,List.length_take]; rfl)) ?_; (with_reducible refine (spec_l1In.calls a0 100 103 false _ A2.out).mono ?_); rintro e w' ⟨rfl,⟨nd,rfl⟩⟩; refine ⟨_,rfl,?_⟩) | (go_at_call 36; (with_reducible refine (spec_l1In.calls a0 200 212 false _ A4.out).mono ?_); rintro e w' ⟨rfl,⟨nd,rfl⟩⟩) | (go_at_call 36; (with_reducible refine (spec_l1In.calls a0 300 312 false _ A6.out).mono ?_); rintro e w' ⟨rfl,⟨nd,rfl⟩⟩))
    go_ret
    exact ⟨by first | rfl | (simp; done) | (simp [*]; done),by repeat (first | exact Drawn0.refl _ | apply Drawn0.step)⟩

/-! ### spec_IsPattern: function 50 -/
mutual
def spec_IsPattern.l0 : Nat → List Int → Int → Int → Option (Bool)
 | 0,_,_,_ => none
 | k + 1,x0,x3,x4 => if x4 < (x0.length : Int) then (if 0 ≤ x4 then ((spec_l8Leaf.f (rd x0 x4)).bind fun t115 => (if t115 = true then (spec_IsPattern.l0 k x0 (wrap64 (x3 + 1)) (wrap64 (x4 + 1))) else (if (rd x0 x4) = (-1) then (spec_IsPattern.j1 k x0 x3 x4 (decide (x3 ≥ 1))) else (spec_IsPattern.j1 k x0 x3 x4 false)))) else (none)) else (if x3 = 1 then (some (decide ((x0.length : Int) ≤ 20))) else (some false))
def spec_IsPattern.j1 : Nat → List Int → Int → Int → Bool → Option (Bool)
 | 0,_,_,_,_ => none
 | k + 1,x0,x3,x4,x19 => if x19 = true then (spec_IsPattern.l0 k x0 x3 (wrap64 (x4 + 1))) else (if 0 ≤ x4 then (if x4 < (x0.length : Int) then (if (rd x0 x4) = (-2) then (if x3 ≥ 2 then (spec_IsPattern.l0 k x0 (wrap64 (x3 - 1)) (wrap64 (x4 + 1))) else (some false)) else (if (rd x0 x4) = (-3) then (if x3 ≥ 2 then (spec_IsPattern.l0 k x0 (wrap64 (x3 - 1)) (wrap64 (x4 + 1))) else (some false)) else (some false))) else (none)) else (none))
end
def spec_IsPattern.f (k : Nat) (l0 : List Int) : Option (Bool) := spec_IsPattern.l0 k l0 0 0
theorem spec_IsPattern.mono_l : ∀ k, (∀ y0 y1 y2, LeO (spec_IsPattern.l0 k y0 y1 y2) (spec_IsPattern.l0 (k + 1) y0 y1 y2)) ∧ (∀ y0 y1 y2 y3, LeO (spec_IsPattern.j1 k y0 y1 y2 y3) (spec_IsPattern.j1 (k + 1) y0 y1 y2 y3))
 | 0 => ⟨fun _ _ _ r h => by simp [spec_IsPattern.l0] at h,fun _ _ _ _ r h => by simp [spec_IsPattern.j1] at h⟩
 | k + 1 => by
  obtain ⟨ih0,ih1⟩ := spec_IsPattern.mono_l k
  refine ⟨?_,?_⟩
  ·intro y0 y1 y2
   unfold spec_IsPattern.l0
   repeat' first
   | (with_reducible exact ih0 _ _ _)
   | (with_reducible exact ih1 _ _ _ _)
   | (with_reducible exact LeO.refl _)
   | (with_reducible exact LeO.none _)
   | (with_reducible refine LeO.ite ?_ ?_)
   | (with_reducible refine LeO.bind ?_ (fun _ => ?_))
   | exact ih0 _ _ _
   | exact ih1 _ _ _ _
   | exact LeO.none _
   | refine LeO.ite ?_ ?_
   | refine LeO.bind ?_ (fun _ => ?_)
  ·intro y0 y1 y2 y3
   unfold spec_IsPattern.j1
   repeat' first
   | (with_reducible exact ih0 _ _ _)
   | (with_reducible exact ih1 _ _ _ _)
   | (with_reducible exact LeO.refl _)
   | (with_reducible exact LeO.none _)
   | (with_reducible refine LeO.ite ?_ ?_)
   | (with_reducible refine LeO.bind ?_ (fun _ => ?_))
   | exact ih0 _ _ _
   | exact ih1 _ _ _ _
   | exact LeO.none _
   | refine LeO.ite ?_ ?_
   | refine LeO.bind ?_ (fun _ => ?_)
theorem spec_IsPattern.mono : ∀ a0 k, LeO (spec_IsPattern.f k a0) (spec_IsPattern.f (k + 1) a0) := by
 intro a0 k
 obtain ⟨ih0,ih1⟩ := spec_IsPattern.mono_l k
 unfold spec_IsPattern.f
 repeat' first
   | (with_reducible exact ih0 _ _ _)
   | (with_reducible exact ih1 _ _ _ _)
   | (with_reducible exact LeO.refl _)
   | (with_reducible exact LeO.none _)
   | (with_reducible refine LeO.ite ?_ ?_)
   | (with_reducible refine LeO.bind ?_ (fun _ => ?_))
   | exact ih0 _ _ _
   | exact ih1 _ _ _ _
   | exact LeO.none _
   | refine LeO.ite ?_ ?_
   | refine LeO.bind ?_ (fun _ => ?_)
set_option maxHeartbeats 8000000 in
set_option maxRecDepth 100000 in
theorem spec_IsPattern.calls (k : Nat) (A0 : Option Addr) (c0 : Nat) (l0 : List Int) (r : Bool) (w : World) (hr0 : Kd.C (Kd.int .i64) w A0 l0.length l0) (hc0 : l0.length ≤ c0) (h : spec_IsPattern.f k l0 = some r) :
  Calls Try.prog 50 #[.slice A0 l0.length c0] w fun e w' => e = .returned (.bool r) ∧ Drawn0 w w' := by
 have HR0 := QM hr0
 have HC0 := QM hc0
 clear hr0 hc0
 have H : (spec_IsPattern.l0 k l0 0 0) = some r := h
 clear h
 have H' := QM H
 clear H
 go_enter Try.func50,Try.ntmps50
 go_wp2
 go_loopg [3,4] k (fun kq v3 v4 w' => ∃ (x3_1 : Int) (x4_1 : Int),v3 = .int .i64 x3_1 ∧ v4 = .int .i64 x4_1 ∧ Aside0 (spec_IsPattern.l0 kq l0 x3_1 x4_1 = some r) ∧ Aside0 (kq ≤ k) ∧ Drawn0 w w')
 case atStart => exact ⟨(0),(0),(by first | rfl | (simp; done) | (simp [*]; done)),(by first | rfl | (simp; done) | (simp [*]; done)),H',⟨Nat.le_refl _⟩,by repeat (first | exact Drawn0.refl _ | apply Drawn0.step)⟩
 case round =>
  clear H'
  obtain ⟨x3_1,x4_1,rfl,rfl,HA,HK1,⟨m1,rfl⟩⟩ := hrel
  cases gk with
  | zero => exact absurd HA.out (by simp [spec_IsPattern.l0])
  | succ k1 =>
   have H := HA.out
   clear HA
   simp only [spec_IsPattern.l0] at H
   by_cases c2 : x4_1 < (l0.length : Int)
   ·rw [if_pos c2] at H
    have c2b0 : decide (x4_1 < (l0.length : Int)) = true := decide_eq_true c2
    clear c2
    by_cases c3 : 0 ≤ x4_1
    ·rw [if_pos c3] at H
     have c3b0 : decide (0 ≤ x4_1) = true := decide_eq_true c3
     clear c3
     replace H := QN.mp H
     obtain ⟨t115,A40,H⟩ := H
     have A4 := QM A40
     clear A40
     by_cases c5 : t115 = true
     ·subst c5
      rw [if_pos rfl] at H
      have H' := QM H
      clear H
      have p114 : 0 ≤ (x4_1 : Int) := of_decide_eq_true (by first | (with_reducible assumption) | assumption)
      have q114 : x4_1 < (l0.length : Int) := of_decide_eq_true (by first | (with_reducible assumption) | assumption)
      obtain ⟨ad114,e114,hx114_0⟩ := Kd.at_int HR0.out x4_1 p114 q114
      cases e114
      replace p114 := eq_true p114
      replace q114 := eq_true q114
      go_wp2_with (first | ((with_reducible refine QL (f := 58) rfl ?_); refine goesL_ (some 16) rfl rfl Try.func58 (by kernel_rfl) rfl #[.int .i64 (rd l0 x4_1)] rfl (by (try simp only [List.map_toArray,List.map_cons,List.map_nil]); first | done | rfl | (simp only [List.length_drop,List.length_take]; rfl)) ?_; (with_reducible refine (spec_l8Leaf.calls (rd l0 x4_1) true _ A4.out).mono ?_); rintro e w' ⟨rfl,⟨nd,rfl⟩⟩; refine ⟨_,rfl,?_⟩))
      go_roundg k1
      case measure => have := HK1.out; omega
      case rel => exact ⟨(wrap64 (x3_1 + 1)),(wrap64 (x4_1 + 1)),(by first | rfl | (simp; done) | (simp [*]; done)),(by first | rfl | (simp; done) | (simp [*]; done)),H',⟨by have := HK1.out; omega⟩,by repeat (first | exact Drawn0.refl _ | apply Drawn0.step)⟩
     ·replace c5 := Bool.eq_false_iff.mpr c5
      subst c5
      rw [if_neg (show ¬ (false = true) by decide)] at H
      have HC6 := QM H
      clear H
      have p114 : 0 ≤ (x4_1 : Int) := of_decide_eq_true (by first | (with_reducible assumption) | assumption)
      have q114 : x4_1 < (l0.length : Int) := of_decide_eq_true (by first | (with_reducible assumption) | assumption)
      obtain ⟨ad114,e114,hx114_0⟩ := Kd.at_int HR0.out x4_1 p114 q114
      cases e114
      replace p114 := eq_true p114
      replace q114 := eq_true q114
      go_upto_region 8 with (first | ((with_reducible refine QL (f := 58) rfl ?_); refine goesL_ (some 16) rfl rfl Try.func58 (by kernel_rfl) rfl #[.int .i64 (rd l0 x4_1)] rfl (by (try simp only [List.map_toArray,List.map_cons,List.map_nil]); first | done | rfl | (simp only [List.length_drop,List.length_take]; rfl)) ?_; (with_reducible refine (spec_l8Leaf.calls (rd l0 x4_1) false _ A4.out).mono ?_); rintro e w' ⟨rfl,⟨nd,rfl⟩⟩; refine ⟨_,rfl,?_⟩))
      (try simp only [Act.put,List.setIfInBounds_toArray,List.set_cons_zero,List.set_cons_succ])
      go_cut [19] (fun v19 wc => ∃ (kq : Nat) (x19_5 : Bool),v19 = .bool x19_5 ∧ Aside0 (spec_IsPattern.j1 kq l0 x3_1 x4_1 x19_5 = some r) ∧ Aside0 (kq ≤ k1) ∧ Drawn0 w wc)
      case first =>
       have H := HC6.out
       clear HC6
       by_cases c7 : (rd l0 x4_1) = (-1)
       ·rw [if_pos c7] at H
        have c7b0 : ((rd l0 x4_1) == (-1)) = true := beq_iff_eq.mpr c7
        have c7b1 : ((rd l0 x4_1) != (-1)) = false := bne_eq_false_iff_eq.mpr c7
        clear c7
        (first | rw [c7b0] | (simp only [i64_w,i32_w]; rw [c7b0]) | skip)
        have H' := QM H
        clear H
        have p116 : 0 ≤ (x4_1 : Int) := of_decide_eq_true (by first | (with_reducible assumption) | assumption)
        have q116 : x4_1 < (l0.length : Int) := of_decide_eq_true (by first | (with_reducible assumption) | assumption)
        obtain ⟨ad116,e116,hx116_0⟩ := Kd.at_int HR0.out x4_1 p116 q116
        obtain rfl : ad114 = ad116 := (by injection e116)
        replace p116 := eq_true p116
        replace q116 := eq_true q116
        go_wp2
        go_meet
        case rel => exact ⟨_,(decide (x3_1 ≥ 1)),(by first | rfl | (simp; done) | (simp [*]; done)),H',⟨by have := HK1.out; first | omega | exact Nat.le_refl _⟩,by repeat (first | exact Drawn0.refl _ | apply Drawn0.step)⟩
       ·rw [if_neg c7] at H
        have c7b0 : ((rd l0 x4_1) == (-1)) = false := beq_eq_false_iff_ne.mpr c7
        have c7b1 : ((rd l0 x4_1) != (-1)) = true := bne_iff_ne.mpr c7
        (first | rw [c7b0] | (simp only [i64_w,i32_w]; rw [c7b0]) | skip)
        have H' := QM H
        clear H
        have p116 : 0 ≤ (x4_1 : Int) := of_decide_eq_true (by first | (with_reducible assumption) | assumption)
        have q116 : x4_1 < (l0.length : Int) := of_decide_eq_true (by first | (with_reducible assumption) | assumption)
        obtain ⟨ad116,e116,hx116_0⟩ := Kd.at_int HR0.out x4_1 p116 q116
        obtain rfl : ad114 = ad116 := (by injection e116)
        replace p116 := eq_true p116
        replace q116 := eq_true q116
        go_wp2
        go_meet
        case rel => exact ⟨_,(false),(by first | rfl | (simp; done) | (simp [*]; done)),H',⟨by have := HK1.out; first | omega | exact Nat.le_refl _⟩,by repeat (first | exact Drawn0.refl _ | apply Drawn0.step)⟩
      case rest =>
       clear HC6
       try clear p1
       try clear q1
       try clear hx1
       try clear c2
       try clear c2b0
       try clear p2
       try clear c3
       try clear c3b0
       try clear c5
       try clear p6
       try clear c7
       try clear c7b0
       try clear c7b1
       try clear hx114_0
       try clear hx116_0
       try clear p114
       try clear p116
       try clear q114
       try clear q116
       obtain ⟨kq,x19_5,rfl,HA,HJ5,⟨mc5,rfl⟩⟩ := hcut
       cases kq with
       | zero => exact absurd HA.out (by simp [spec_IsPattern.j1])
       | succ kj5 =>
        have H := HA.out
        clear HA
        simp only [spec_IsPattern.j1] at H
        by_cases c8 : x19_5 = true
        ·subst c8
         rw [if_pos rfl] at H
         have H' := QM H
         clear H
         go_wp2
         go_roundg kj5
         case measure => have := HK1.out; have := HJ5.out; omega
         case rel => exact ⟨(x3_1),(wrap64 (x4_1 + 1)),(by first | rfl | (simp; done) | (simp [*]; done)),(by first | rfl | (simp; done) | (simp [*]; done)),H',⟨by have := HK1.out; have := HJ5.out; omega⟩,by repeat (first | exact Drawn0.refl _ | apply Drawn0.step)⟩
        ·replace c8 := Bool.eq_false_iff.mpr c8
         subst c8
         rw [if_neg (show ¬ (false = true) by decide)] at H
         by_cases c9 : 0 ≤ x4_1
         ·rw [if_pos c9] at H
          have c9b0 : decide (0 ≤ x4_1) = true := decide_eq_true c9
          clear c9
          by_cases c10 : x4_1 < (l0.length : Int)
          ·rw [if_pos c10] at H
           have c10b0 : decide (x4_1 < (l0.length : Int)) = true := decide_eq_true c10
           clear c10
           by_cases c11 : (rd l0 x4_1) = (-2)
           ·rw [if_pos c11] at H
            have c11b0 : ((rd l0 x4_1) == (-2)) = true := beq_iff_eq.mpr c11
            have c11b1 : ((rd l0 x4_1) != (-2)) = false := bne_eq_false_iff_eq.mpr c11
            clear c11
            by_cases c12 : x3_1 ≥ 2
            ·rw [if_pos c12] at H
             have c12b0 : decide (2 ≤ x3_1) = true := decide_eq_true c12
             clear c12
             have H' := QM H
             clear H
             have p117 : 0 ≤ (x4_1 : Int) := of_decide_eq_true (by first | (with_reducible assumption) | assumption)
             have q117 : x4_1 < (l0.length : Int) := of_decide_eq_true (by first | (with_reducible assumption) | assumption)
             obtain ⟨ad117,e117,hx117_0⟩ := Kd.at_int HR0.out x4_1 p117 q117
             obtain rfl : ad114 = ad117 := (by injection e117)
             replace p117 := eq_true p117
             replace q117 := eq_true q117
             go_wp2
             go_roundg kj5
             case measure => have := HK1.out; have := HJ5.out; omega
             case rel => exact ⟨(wrap64 (x3_1 - 1)),(wrap64 (x4_1 + 1)),(by first | rfl | (simp; done) | (simp [*]; done)),(by first | rfl | (simp; done) | (simp [*]; done)),H',⟨by have := HK1.out; have := HJ5.out; omega⟩,by repeat (first | exact Drawn0.refl _ | apply Drawn0.step)⟩
            ·rw [if_neg c12] at H
             have c12b0 : decide (2 ≤ x3_1) = false := decide_eq_false c12
             clear c12
             obtain rfl := Option.some.inj H
             have p117 : 0 ≤ (x4_1 : Int) := of_decide_eq_true (by first | (with_reducible assumption) | assumption)
             have q117 : x4_1 < (l0.length : Int) := of_decide_eq_true (by first | (with_reducible assumption) | assumption)
             obtain ⟨ad117,e117,hx117_0⟩ := Kd.at_int HR0.out x4_1 p117 q117
             obtain rfl : ad114 = ad117 := (by injection e117)
             replace p117 := eq_true p117
             replace q117 := eq_true q117
             go_wp2
             go_ret
             exact ⟨by first | rfl | (simp; done) | (simp [*]; done),by repeat (first | exact Drawn0.refl _ | apply Drawn0.step)⟩
           ·rw [if_neg c11] at H
            have c11b0 : ((rd l0 x4_1) == (-2)) = false := beq_eq_false_iff_ne.mpr c11
            have c11b1 : ((rd l0 x4_1) != (-2)) = true := bne_iff_ne.mpr c11
            by_cases c13 : (rd l0 x4_1) = (-3)
            ·rw [if_pos c13] at H
             have c13b0 : ((rd l0 x4_1) == (-3)) = true := beq_iff_eq.mpr c13
             have c13b1 : ((rd l0 x4_1) != (-3)) = false := bne_eq_false_iff_eq.mpr c13
             clear c13
             by_cases c12 : x3_1 ≥ 2
             ·rw [if_pos c12] at H
              have c12b0 : decide (2 ≤ x3_1) = true := decide_eq_true c12
              clear c12
              have H' := QM H
              clear H
              have p117 : 0 ≤ (x4_1 : Int) := of_decide_eq_true (by first | (with_reducible assumption) | assumption)
              have q117 : x4_1 < (l0.length : Int) := of_decide_eq_true (by first | (with_reducible assumption) | assumption)
              obtain ⟨ad117,e117,hx117_0⟩ := Kd.at_int HR0.out x4_1 p117 q117
              obtain rfl : ad114 = ad117 := (by injection e117)
              replace p117 := eq_true p117
              replace q117 := eq_true q117
              have p118 : 0 ≤ (x4_1 : Int) := of_decide_eq_true (by first | (with_reducible assumption) | assumption)
              have q118 : x4_1 < (l0.length : Int) := of_decide_eq_true (by first | (with_reducible assumption) | assumption)
              obtain ⟨ad118,e118,hx118_0⟩ := Kd.at_int HR0.out x4_1 p118 q118
              obtain rfl : ad114 = ad118 := (by injection e118)
              replace p118 := eq_true p118
              replace q118 := eq_true q118
              go_wp2
              go_roundg kj5
              case measure => have := HK1.out; have := HJ5.out; omega
              case rel => exact ⟨(wrap64 (x3_1 - 1)),(wrap64 (x4_1 + 1)),(by first | rfl | (simp; done) | (simp [*]; done)),(by first | rfl | (simp; done) | (simp [*]; done)),H',⟨by have := HK1.out; have := HJ5.out; omega⟩,by repeat (first | exact Drawn0.refl _ | apply Drawn0.step)⟩
             ·rw [if_neg c12] at H
              have c12b0 : decide (2 ≤ x3_1) = false := decide_eq_false c12
              clear c12
              obtain rfl := Option.some.inj H
              have p117 : 0 ≤ (x4_1 : Int) := of_decide_eq_true (by first | (with_reducible assumption) | assumption)
              have q117 : x4_1 < (l0.length : Int) := of_decide_eq_true (by first | (with_reducible assumption) | assumption)
              obtain ⟨ad117,e117,hx117_0⟩ := Kd.at_int HR0.out x4_1 p117 q117
              obtain rfl : ad114 = ad117 := (by injection e117)
              replace p117 := eq_true p117
              replace q117 := eq_true q117
              have p118 : 0 ≤ (x4_1 : Int) := of_decide_eq_true (by first | (with_reducible assumption) | assumption)
              have q118 : x4_1 < (l0.length : Int) := of_decide_eq_true (by first | (with_reducible assumption) | assumption)
              obtain ⟨ad118,e118,hx118_0⟩ := Kd.at_int HR0.out x4_1 p118 q118
              obtain rfl : ad114 = ad118 := (by injection e118)
              replace p118 := eq_true p118
              replace q118 := eq_true q118
              go_wp2
              go_ret
              exact ⟨by first | rfl | (simp; done) | (simp [*]; done),by repeat (first | exact Drawn0.refl _ | apply Drawn0.step)⟩
            ·rw [if_neg c13] at H
             have c13b0 : ((rd l0 x4_1) == (-3)) = false := beq_eq_false_iff_ne.mpr c13
             have c13b1 : ((rd l0 x4_1) != (-3)) = true := bne_iff_ne.mpr c13
             obtain rfl := Option.some.inj H
             have p117 : 0 ≤ (x4_1 : Int) := of_decide_eq_true (by first | (with_reducible assumption) | assumption)
             have q117 : x4_1 < (l0.length : Int) := of_decide_eq_true (by first | (with_reducible assumption) | assumption)
             obtain ⟨ad117,e117,hx117_0⟩ := Kd.at_int HR0.out x4_1 p117 q117
             obtain rfl : ad114 = ad117 := (by injection e117)
             replace p117 := eq_true p117
             replace q117 := eq_true q117
             have p118 : 0 ≤ (x4_1 : Int) := of_decide_eq_true (by first | (with_reducible assumption) | assumption)
             have q118 : x4_1 < (l0.length : Int) := of_decide_eq_true (by first | (with_reducible assumption) | assumption)
             obtain ⟨ad118,e118,hx118_0⟩ := Kd.at_int HR0.out x4_1 p118 q118
             obtain rfl : ad114 = ad118 := (by injection e118)
             replace p118 := eq_true p118
             replace q118 := eq_true q118
             go_wp2
             go_ret
             exact ⟨by first | rfl | (simp; done) | (simp [*]; done),by repeat (first | exact Drawn0.refl _ | apply Drawn0.step)⟩
          ·rw [if_neg c10] at H
           exact absurd H (by simp)
         ·rw [if_neg c9] at H
          exact absurd H (by simp)
    ·rw [if_neg c3] at H
     exact absurd H (by simp)
   ·rw [if_neg c2] at H
    have c2b0 : decide (x4_1 < (l0.length : Int)) = false := decide_eq_false c2
    clear c2
    by_cases c15 : x3_1 = 1
    ·rw [if_pos c15] at H
     have c15b0 : (x3_1 == 1) = true := beq_iff_eq.mpr c15
     have c15b1 : (x3_1 != 1) = false := bne_eq_false_iff_eq.mpr c15
     clear c15
     obtain rfl := Option.some.inj H
     go_wp2
     go_ret
     exact ⟨by first | rfl | (simp; done) | (simp [*]; done),by repeat (first | exact Drawn0.refl _ | apply Drawn0.step)⟩
    ·rw [if_neg c15] at H
     have c15b0 : (x3_1 == 1) = false := beq_eq_false_iff_ne.mpr c15
     have c15b1 : (x3_1 != 1) = true := bne_iff_ne.mpr c15
     obtain rfl := Option.some.inj H
     go_wp2
     go_ret
     exact ⟨by first | rfl | (simp; done) | (simp [*]; done),by repeat (first | exact Drawn0.refl _ | apply Drawn0.step)⟩

/-! ### spec_l22Pattern: function 48 -/
def spec_l22Pattern.f (k : Nat) (l0 : List Int) : Option (Bool) := if (l0.length : Int) = 0 then (some true) else ((spec_IsPattern.f k l0).bind fun t119 => (some t119))
theorem spec_l22Pattern.mono : ∀ a0 k, LeO (spec_l22Pattern.f k a0) (spec_l22Pattern.f (k + 1) a0) := by
 intro a0 k
 unfold spec_l22Pattern.f
 repeat' first
   | (with_reducible exact spec_IsPattern.mono _ _)
   | (with_reducible exact LeO.refl _)
   | (with_reducible exact LeO.none _)
   | (with_reducible refine LeO.ite ?_ ?_)
   | (with_reducible refine LeO.bind ?_ (fun _ => ?_))
   | exact spec_IsPattern.mono _ _
   | exact LeO.none _
   | refine LeO.ite ?_ ?_
   | refine LeO.bind ?_ (fun _ => ?_)
set_option maxHeartbeats 8000000 in
set_option maxRecDepth 100000 in
theorem spec_l22Pattern.calls (k : Nat) (A0 : Option Addr) (c0 : Nat) (l0 : List Int) (r : Bool) (w : World) (hr0 : Kd.C (Kd.int .i64) w A0 l0.length l0) (hc0 : l0.length ≤ c0) (h : spec_l22Pattern.f k l0 = some r) :
  Calls Try.prog 48 #[.slice A0 l0.length c0] w fun e w' => e = .returned (.bool r) ∧ Drawn0 w w' := by
 have HR0 := QM hr0
 have HC0 := QM hc0
 clear hr0 hc0
 have H : (if (l0.length : Int) = 0 then (some true) else ((spec_IsPattern.f k l0).bind fun t119 => (some t119))) = some r := h
 clear h
 by_cases c2 : (l0.length : Int) = 0
 ·rw [if_pos c2] at H
  have c2b0 : ((l0.length : Int) == 0) = true := beq_iff_eq.mpr c2
  have c2b1 : ((l0.length : Int) != 0) = false := bne_eq_false_iff_eq.mpr c2
  clear c2
  obtain rfl := Option.some.inj H
  go_enter Try.func48,Try.ntmps48
  go_wp2
  go_ret
  exact ⟨by first | rfl | (simp; done) | (simp [*]; done),by repeat (first | exact Drawn0.refl _ | apply Drawn0.step)⟩
 ·rw [if_neg c2] at H
  have c2b0 : ((l0.length : Int) == 0) = false := beq_eq_false_iff_ne.mpr c2
  have c2b1 : ((l0.length : Int) != 0) = true := bne_iff_ne.mpr c2
  have c2b2 : ¬ (l0 = []) := fun h_ => c2 (by rw [h_]; rfl)
  replace H := QN.mp H
  obtain ⟨t119,A30,H⟩ := H
  have A3 := QM A30
  clear A30
  obtain rfl := Option.some.inj H
  go_enter Try.func48,Try.ntmps48
  go_wp2_with (first | (go_at_call 50; (with_reducible refine (spec_IsPattern.calls k _ _ l0 t119 _ ?side1 ?side2 A3.out).mono ?_); (case side1 => repeat (first | exact HR0.out | (with_reducible refine QG ?_ _) | (with_reducible refine QH ?_ _) | (with_reducible refine QJ ?_))); (case side2 => exact HC0.out); rintro e w' ⟨rfl,⟨nd,rfl⟩⟩))
  go_ret
  exact ⟨by first | rfl | (simp; done) | (simp [*]; done),by repeat (first | exact Drawn0.refl _ | apply Drawn0.step)⟩

/-! ### spec_IsRules: function 35 -/
def spec_IsRules.f (k : Nat) (a0_0 : Int) (a0_1 : Int) (a0_2 : Bool) (a0_3 : Bool) (l0_4 : List Int) (l0_5 : List Int) (a0_6 : Int) (a0_7 : Int) : Option (Bool) := (spec_l1In.f a0_0 2 6).bind fun t121 => (if t121 = true then ((spec_l1In.f a0_1 1 8).bind fun t122 => (if t122 = true then (if a0_2 = true then ((spec_l22Pattern.f k l0_4).bind fun t123 => (if t123 = true then ((spec_l22Pattern.f k l0_5).bind fun t124 => (if t124 = true then ((spec_l1In.f a0_6 1 4).bind fun t125 => (if t125 = true then ((spec_l1In.f a0_7 1 400).bind fun t126 => (some t126)) else (some false))) else (some false))) else (some false))) else (if a0_3 = true then ((spec_l22Pattern.f k l0_4).bind fun t127 => (if t127 = true then ((spec_l22Pattern.f k l0_5).bind fun t128 => (if t128 = true then ((spec_l1In.f a0_6 1 4).bind fun t129 => (if t129 = true then ((spec_l1In.f a0_7 1 400).bind fun t130 => (some t130)) else (some false))) else (some false))) else (some false))) else (some false))) else (some false))) else (some false))
theorem spec_IsRules.mono : ∀ a0 a1 a2 a3 a4 a5 a6 a7 k, LeO (spec_IsRules.f k a0 a1 a2 a3 a4 a5 a6 a7) (spec_IsRules.f (k + 1) a0 a1 a2 a3 a4 a5 a6 a7) := by
 intro a0 a1 a2 a3 a4 a5 a6 a7 k
 unfold spec_IsRules.f
 repeat' first
   | (with_reducible exact spec_l22Pattern.mono _ _)
   | (with_reducible exact LeO.refl _)
   | (with_reducible exact LeO.none _)
   | (with_reducible refine LeO.ite ?_ ?_)
   | (with_reducible refine LeO.bind ?_ (fun _ => ?_))
   | exact spec_l22Pattern.mono _ _
   | exact LeO.none _
   | refine LeO.ite ?_ ?_
   | refine LeO.bind ?_ (fun _ => ?_)
set_option maxHeartbeats 8000000 in
set_option maxRecDepth 100000 in
theorem spec_IsRules.calls (k : Nat) (a0_0 : Int) (a0_1 : Int) (a0_2 : Bool) (a0_3 : Bool) (A0_4 : Option Addr) (c0_4 : Nat) (l0_4 : List Int) (A0_5 : Option Addr) (c0_5 : Nat) (l0_5 : List Int) (a0_6 : Int) (a0_7 : Int) (r : Bool) (w : World) (hr0_4 : Kd.C (Kd.int .i64) w A0_4 l0_4.length l0_4) (hc0_4 : l0_4.length ≤ c0_4) (hr0_5 : Kd.C (Kd.int .i64) w A0_5 l0_5.length l0_5) (hc0_5 : l0_5.length ≤ c0_5) (h : spec_IsRules.f k a0_0 a0_1 a0_2 a0_3 l0_4 l0_5 a0_6 a0_7 = some r) :
  Calls Try.prog 35 #[.agg #[.int .i64 a0_0,.int .i64 a0_1,.bool a0_2,.bool a0_3,.slice A0_4 l0_4.length c0_4,.slice A0_5 l0_5.length c0_5,.int .i64 a0_6,.int .i64 a0_7]] w fun e w' => e = .returned (.bool r) ∧ Below w.heap.size w w' := by
 have hu30 := Try.underlying30
 have HR0_4 := QM hr0_4
 have HC0_4 := QM hc0_4
 clear hr0_4 hc0_4
 have HR0_5 := QM hr0_5
 have HC0_5 := QM hc0_5
 clear hr0_5 hc0_5
 have HB := QM (Below.refl w.heap.size w)
 have H : ((spec_l1In.f a0_0 2 6).bind fun t121 => (if t121 = true then ((spec_l1In.f a0_1 1 8).bind fun t122 => (if t122 = true then (if a0_2 = true then ((spec_l22Pattern.f k l0_4).bind fun t123 => (if t123 = true then ((spec_l22Pattern.f k l0_5).bind fun t124 => (if t124 = true then ((spec_l1In.f a0_6 1 4).bind fun t125 => (if t125 = true then ((spec_l1In.f a0_7 1 400).bind fun t126 => (some t126)) else (some false))) else (some false))) else (some false))) else (if a0_3 = true then ((spec_l22Pattern.f k l0_4).bind fun t127 => (if t127 = true then ((spec_l22Pattern.f k l0_5).bind fun t128 => (if t128 = true then ((spec_l1In.f a0_6 1 4).bind fun t129 => (if t129 = true then ((spec_l1In.f a0_7 1 400).bind fun t130 => (some t130)) else (some false))) else (some false))) else (some false))) else (some false))) else (some false))) else (some false))) = some r := h
 clear h
 replace H := QN.mp H
 obtain ⟨t121,A20,H⟩ := H
 have A2 := QM A20
 clear A20
 by_cases c3 : t121 = true
 rotate_left
 replace c3 := Bool.eq_false_iff.mpr c3
 subst c3
 rw [if_neg (show ¬ (false = true) by decide)] at H
 obtain rfl := Option.some.inj H
 rotate_right
 subst c3
 rw [if_pos rfl] at H
 replace H := QN.mp H
 obtain ⟨t122,A40,H⟩ := H
 have A4 := QM A40
 clear A40
 by_cases c5 : t122 = true
 rotate_left
 replace c5 := Bool.eq_false_iff.mpr c5
 subst c5
 rw [if_neg (show ¬ (false = true) by decide)] at H
 obtain rfl := Option.some.inj H
 rotate_right
 subst c5
 rw [if_pos rfl] at H
 by_cases c6 : a0_2 = true
 rotate_left
 replace c6 := Bool.eq_false_iff.mpr c6
 subst c6
 rw [if_neg (show ¬ (false = true) by decide)] at H
 by_cases c22 : a0_3 = true
 rotate_left
 replace c22 := Bool.eq_false_iff.mpr c22
 subst c22
 rw [if_neg (show ¬ (false = true) by decide)] at H
 obtain rfl := Option.some.inj H
 rotate_right
 subst c22
 rw [if_pos rfl] at H
 replace H := QN.mp H
 obtain ⟨t123,A70,H⟩ := H
 have A7 := QM A70
 clear A70
 try (obtain rfl := Option.some.inj (A7.out.symm.trans A7.out))
 by_cases c8 : t123 = true
 rotate_left
 replace c8 := Bool.eq_false_iff.mpr c8
 subst c8
 rw [if_neg (show ¬ (false = true) by decide)] at H
 obtain rfl := Option.some.inj H
 rotate_right
 subst c8
 rw [if_pos rfl] at H
 replace H := QN.mp H
 obtain ⟨t124,A90,H⟩ := H
 have A9 := QM A90
 clear A90
 try (obtain rfl := Option.some.inj (A9.out.symm.trans A9.out))
 by_cases c10 : t124 = true
 rotate_left
 replace c10 := Bool.eq_false_iff.mpr c10
 subst c10
 rw [if_neg (show ¬ (false = true) by decide)] at H
 obtain rfl := Option.some.inj H
 rotate_right
 subst c10
 rw [if_pos rfl] at H
 replace H := QN.mp H
 obtain ⟨t125,A110,H⟩ := H
 have A11 := QM A110
 clear A110
 try (obtain rfl := Option.some.inj (A11.out.symm.trans A11.out))
 by_cases c12 : t125 = true
 rotate_left
 replace c12 := Bool.eq_false_iff.mpr c12
 subst c12
 rw [if_neg (show ¬ (false = true) by decide)] at H
 obtain rfl := Option.some.inj H
 rotate_right
 subst c12
 rw [if_pos rfl] at H
 replace H := QN.mp H
 obtain ⟨t126,A130,H⟩ := H
 have A13 := QM A130
 clear A130
 try (obtain rfl := Option.some.inj (A13.out.symm.trans A13.out))
 obtain rfl := Option.some.inj H
 rotate_right
 subst c6
 rw [if_pos rfl] at H
 replace H := QN.mp H
 obtain ⟨t123,A70,H⟩ := H
 have A7 := QM A70
 clear A70
 by_cases c8 : t123 = true
 rotate_left
 replace c8 := Bool.eq_false_iff.mpr c8
 subst c8
 rw [if_neg (show ¬ (false = true) by decide)] at H
 obtain rfl := Option.some.inj H
 rotate_right
 subst c8
 rw [if_pos rfl] at H
 replace H := QN.mp H
 obtain ⟨t124,A90,H⟩ := H
 have A9 := QM A90
 clear A90
 by_cases c10 : t124 = true
 rotate_left
 replace c10 := Bool.eq_false_iff.mpr c10
 subst c10
 rw [if_neg (show ¬ (false = true) by decide)] at H
 obtain rfl := Option.some.inj H
 rotate_right
 subst c10
 rw [if_pos rfl] at H
 replace H := QN.mp H
 obtain ⟨t125,A110,H⟩ := H
 have A11 := QM A110
 clear A110
 by_cases c12 : t125 = true
 rotate_left
 replace c12 := Bool.eq_false_iff.mpr c12
 subst c12
 rw [if_neg (show ¬ (false = true) by decide)] at H
 obtain rfl := Option.some.inj H
 rotate_right
 subst c12
 rw [if_pos rfl] at H
 replace H := QN.mp H
 obtain ⟨t126,A130,H⟩ := H
 have A13 := QM A130
 clear A130
 obtain rfl := Option.some.inj H
 all_goals
  go_enter Try.func35,Try.ntmps35
  go_wp2_with (first | ((with_reducible refine gate_dst (N := 1) rfl ?_); refine box_event ?hg (N := 1) ?hd (cs := #[.int .i64 a0_0,.int .i64 a0_1,.bool _,.bool _,.slice A0_4 l0_4.length c0_4,.slice A0_5 l0_5.length c0_5,.int .i64 a0_6,.int .i64 a0_7]) (t := 30) ?hr ?_; (case hd => rfl); (case hg => rfl); (case hr => first | (go_simp; done) | (go_simp; rfl)); intro gb120 hg w30 hbox hb; have n0_ := QM (below_step (by repeat (first | (with_reducible first | exact HB.out | apply QF | apply QD | apply QE) | exact HB.out)) hb); have n1_ := QM (hbox); have n2_ := QM ((by rw [hg]; exact (below_size (by repeat (first | (with_reducible first | exact HB.out | apply QF | apply QD | apply QE) | exact HB.out))) : w.heap.size ≤ gb120)); have n3_ := QM ((by rw [hg]; exact (below_size (by repeat (first | (with_reducible first | exact HB.out | apply QF | apply QD | apply QE) | exact HB.out))) : w.heap.size ≤ gb120)); clear HB; revert n0_ n1_ n2_ n3_; intro HB BK120 GW120 GE120; clear hb hbox hg; have hcz31_0 : w30.cell? ⟨gb120,0,none⟩ = some (.int .i64 a0_0) := (QC BK120.out 0).trans rfl; have hcz31_1 : w30.cell? ⟨gb120,1,none⟩ = some (.int .i64 a0_1) := (QC BK120.out 1).trans rfl; have hcz31_2 : w30.cell? ⟨gb120,2,none⟩ = some (.bool _) := (QC BK120.out 2).trans rfl; have hcz31_3 : w30.cell? ⟨gb120,3,none⟩ = some (.bool _) := (QC BK120.out 3).trans rfl; have hcz31_4 : w30.cell? ⟨gb120,4,none⟩ = some (.slice A0_4 l0_4.length c0_4) := (QC BK120.out 4).trans rfl; have hcz31_5 : w30.cell? ⟨gb120,5,none⟩ = some (.slice A0_5 l0_5.length c0_5) := (QC BK120.out 5).trans rfl; have hcz31_6 : w30.cell? ⟨gb120,6,none⟩ = some (.int .i64 a0_6) := (QC BK120.out 6).trans rfl; have hcz31_7 : w30.cell? ⟨gb120,7,none⟩ = some (.int .i64 a0_7) := (QC BK120.out 7).trans rfl; have hfz31_0 := QB BK120.out 0; have hfz31_1 := QB BK120.out 1; have hfz31_2 := QB BK120.out 2; have hfz31_3 := QB BK120.out 3; have hfz31_4 := QB BK120.out 4; have hfz31_5 := QB BK120.out 5; have hfz31_6 := QB BK120.out 6; have hfz31_7 := QB BK120.out 7) | ((with_reducible refine QL (f := 36) rfl ?_); refine goesL_ (some 5) rfl rfl Try.func36 (by kernel_rfl) rfl #[.int .i64 a0_0,.int .i64 2,.int .i64 6] rfl (by (try simp only [List.map_toArray,List.map_cons,List.map_nil]); first | done | rfl | (simp only [List.length_drop,List.length_take]; rfl)) ?_; (with_reducible refine (spec_l1In.calls a0_0 2 6 _ _ A2.out).mono ?_); rintro e w' ⟨rfl,⟨nd,rfl⟩⟩; refine ⟨_,rfl,?_⟩) | (go_at_call 36; (with_reducible refine (spec_l1In.calls a0_1 1 8 _ _ A4.out).mono ?_); rintro e w' ⟨rfl,⟨nd,rfl⟩⟩) | (go_at_call 48; (with_reducible refine (spec_l22Pattern.calls k _ _ l0_4 _ _ ?side1 ?side2 A7.out).mono ?_); (case side1 => repeat (first | exact (QK HR0_4.out (by repeat (first | (with_reducible first | exact HB.out | apply QF | apply QD | apply QE | refine QI ?_ GE120.out) | exact HB.out))) | (with_reducible refine QG ?_ _) | (with_reducible refine QH ?_ _) | (with_reducible refine QJ ?_))); (case side2 => exact HC0_4.out); rintro e w' ⟨rfl,⟨nd,rfl⟩⟩) | (go_at_call 48; (with_reducible refine (spec_l22Pattern.calls k _ _ l0_5 _ _ ?side1 ?side2 A9.out).mono ?_); (case side1 => repeat (first | exact (QK HR0_5.out (by repeat (first | (with_reducible first | exact HB.out | apply QF | apply QD | apply QE | refine QI ?_ GE120.out) | exact HB.out))) | (with_reducible refine QG ?_ _) | (with_reducible refine QH ?_ _) | (with_reducible refine QJ ?_))); (case side2 => exact HC0_5.out); rintro e w' ⟨rfl,⟨nd,rfl⟩⟩) | (go_at_call 36; (with_reducible refine (spec_l1In.calls a0_6 1 4 _ _ A11.out).mono ?_); rintro e w' ⟨rfl,⟨nd,rfl⟩⟩) | (go_at_call 36; (with_reducible refine (spec_l1In.calls a0_7 1 400 t126 _ A13.out).mono ?_); rintro e w' ⟨rfl,⟨nd,rfl⟩⟩))
  go_ret
  exact ⟨by first | rfl | (simp [errW_none,errW_some] <;> rfl) | (simp [*,errW_none,errW_some] <;> rfl),by repeat (first | (with_reducible first | exact HB.out | apply QF | apply QD | apply QE | refine QI ?_ GE120.out) | exact HB.out)⟩

/-! ### spec_IsCard: function 29 -/
def spec_IsCard.f (a0 : Int) : Option (Bool) := (spec_l1In.f a0 0 51).bind fun t131 => (some t131)
set_option maxHeartbeats 8000000 in
set_option maxRecDepth 100000 in
theorem spec_IsCard.calls (a0 : Int) (r : Bool) (w : World) (h : spec_IsCard.f a0 = some r) :
  Calls Try.prog 29 #[.int .i64 a0] w fun e w' => e = .returned (.bool r) ∧ Drawn0 w w' := by
 have H : ((spec_l1In.f a0 0 51).bind fun t131 => (some t131)) = some r := h
 clear h
 replace H := QN.mp H
 obtain ⟨t131,A20,H⟩ := H
 have A2 := QM A20
 clear A20
 obtain rfl := Option.some.inj H
 go_enter Try.func29,Try.ntmps29
 go_wp2_with (first | ((with_reducible refine QL (f := 36) rfl ?_); refine goesL_ (some 4) rfl rfl Try.func36 (by kernel_rfl) rfl #[.int .i64 a0,.int .i64 0,.int .i64 51] rfl (by (try simp only [List.map_toArray,List.map_cons,List.map_nil]); first | done | rfl | (simp only [List.length_drop,List.length_take]; rfl)) ?_; (with_reducible refine (spec_l1In.calls a0 0 51 t131 _ A2.out).mono ?_); rintro e w' ⟨rfl,⟨nd,rfl⟩⟩; refine ⟨_,rfl,?_⟩))
 go_ret
 exact ⟨by first | rfl | (simp; done) | (simp [*]; done),by repeat (first | exact Drawn0.refl _ | apply Drawn0.step)⟩

/-! ### spec_HasCard: function 49 -/
def spec_HasCard.l0 : Nat → List Int → Int → Int → Option (Bool)
 | 0,_,_,_ => none
 | k + 1,x0,x1,x5 => if x5 < (x0.length : Int) then (if 0 ≤ x5 then (if (rd x0 x5) = x1 then (some true) else (spec_HasCard.l0 k x0 x1 (wrap64 (x5 + 1)))) else (none)) else (some false)
def spec_HasCard.f (k : Nat) (l0 : List Int) (a1 : Int) : Option (Bool) := spec_HasCard.l0 k l0 a1 0
theorem spec_HasCard.mono_l : ∀ k, (∀ y0 y1 y2, LeO (spec_HasCard.l0 k y0 y1 y2) (spec_HasCard.l0 (k + 1) y0 y1 y2))
 | 0 => fun _ _ _ r h => by simp [spec_HasCard.l0] at h
 | k + 1 => by
  have ih0 := spec_HasCard.mono_l k
  ·intro y0 y1 y2
   unfold spec_HasCard.l0
   repeat' first
   | (with_reducible exact ih0 _ _ _)
   | (with_reducible exact LeO.refl _)
   | (with_reducible exact LeO.none _)
   | (with_reducible refine LeO.ite ?_ ?_)
   | (with_reducible refine LeO.bind ?_ (fun _ => ?_))
   | exact ih0 _ _ _
   | exact LeO.none _
   | refine LeO.ite ?_ ?_
   | refine LeO.bind ?_ (fun _ => ?_)
theorem spec_HasCard.mono : ∀ a0 a1 k, LeO (spec_HasCard.f k a0 a1) (spec_HasCard.f (k + 1) a0 a1) := by
 intro a0 a1 k
 have ih0 := spec_HasCard.mono_l k
 unfold spec_HasCard.f
 repeat' first
   | (with_reducible exact ih0 _ _ _)
   | (with_reducible exact LeO.refl _)
   | (with_reducible exact LeO.none _)
   | (with_reducible refine LeO.ite ?_ ?_)
   | (with_reducible refine LeO.bind ?_ (fun _ => ?_))
   | exact ih0 _ _ _
   | exact LeO.none _
   | refine LeO.ite ?_ ?_
   | refine LeO.bind ?_ (fun _ => ?_)
set_option maxHeartbeats 8000000 in
set_option maxRecDepth 100000 in
theorem spec_HasCard.calls (k : Nat) (A0 : Option Addr) (c0 : Nat) (l0 : List Int) (a1 : Int) (r : Bool) (w : World) (hr0 : Kd.C (Kd.int .i64) w A0 l0.length l0) (hc0 : l0.length ≤ c0) (h : spec_HasCard.f k l0 a1 = some r) :
  Calls Try.prog 49 #[.slice A0 l0.length c0,.int .i64 a1] w fun e w' => e = .returned (.bool r) ∧ Drawn0 w w' := by
 have HR0 := QM hr0
 have HC0 := QM hc0
 clear hr0 hc0
 have H : (spec_HasCard.l0 k l0 a1 0) = some r := h
 clear h
 have H' := QM H
 clear H
 go_enter Try.func49,Try.ntmps49
 go_wp2
 go_loopg [5] k (fun kq v5 w' => ∃ (x5_1 : Int),v5 = .int .i64 x5_1 ∧ Aside0 (spec_HasCard.l0 kq l0 a1 x5_1 = some r) ∧ Aside0 (kq ≤ k) ∧ Drawn0 w w')
 case atStart => exact ⟨(0),(by first | rfl | (simp; done) | (simp [*]; done)),H',⟨Nat.le_refl _⟩,by repeat (first | exact Drawn0.refl _ | apply Drawn0.step)⟩
 case round =>
  clear H'
  try clear p2
  obtain ⟨x5_1,rfl,HA,HK1,⟨m1,rfl⟩⟩ := hrel
  cases gk with
  | zero => exact absurd HA.out (by simp [spec_HasCard.l0])
  | succ k1 =>
   have H := HA.out
   clear HA
   simp only [spec_HasCard.l0] at H
   by_cases c3 : x5_1 < (l0.length : Int)
   ·rw [if_pos c3] at H
    have c3b0 : decide (x5_1 < (l0.length : Int)) = true := decide_eq_true c3
    clear c3
    by_cases c4 : 0 ≤ x5_1
    ·rw [if_pos c4] at H
     have c4b0 : decide (0 ≤ x5_1) = true := decide_eq_true c4
     clear c4
     by_cases c5 : (rd l0 x5_1) = a1
     ·rw [if_pos c5] at H
      have c5b0 : ((rd l0 x5_1) == a1) = true := beq_iff_eq.mpr c5
      have c5b1 : ((rd l0 x5_1) != a1) = false := bne_eq_false_iff_eq.mpr c5
      clear c5
      obtain rfl := Option.some.inj H
      have p132 : 0 ≤ (x5_1 : Int) := of_decide_eq_true (by first | (with_reducible assumption) | assumption)
      have q132 : x5_1 < (l0.length : Int) := of_decide_eq_true (by first | (with_reducible assumption) | assumption)
      obtain ⟨ad132,e132,hx132_0⟩ := Kd.at_int HR0.out x5_1 p132 q132
      cases e132
      replace p132 := eq_true p132
      replace q132 := eq_true q132
      go_wp2
      go_ret
      exact ⟨by first | rfl | (simp; done) | (simp [*]; done),by repeat (first | exact Drawn0.refl _ | apply Drawn0.step)⟩
     ·rw [if_neg c5] at H
      have c5b0 : ((rd l0 x5_1) == a1) = false := beq_eq_false_iff_ne.mpr c5
      have c5b1 : ((rd l0 x5_1) != a1) = true := bne_iff_ne.mpr c5
      have H' := QM H
      clear H
      have p132 : 0 ≤ (x5_1 : Int) := of_decide_eq_true (by first | (with_reducible assumption) | assumption)
      have q132 : x5_1 < (l0.length : Int) := of_decide_eq_true (by first | (with_reducible assumption) | assumption)
      obtain ⟨ad132,e132,hx132_0⟩ := Kd.at_int HR0.out x5_1 p132 q132
      cases e132
      replace p132 := eq_true p132
      replace q132 := eq_true q132
      go_wp2
      go_roundg k1
      case measure => have := HK1.out; omega
      case rel => exact ⟨(wrap64 (x5_1 + 1)),(by first | rfl | (simp; done) | (simp [*]; done)),H',⟨by have := HK1.out; omega⟩,by repeat (first | exact Drawn0.refl _ | apply Drawn0.step)⟩
    ·rw [if_neg c4] at H
     exact absurd H (by simp)
   ·rw [if_neg c3] at H
    have c3b0 : decide (x5_1 < (l0.length : Int)) = false := decide_eq_false c3
    clear c3
    obtain rfl := Option.some.inj H
    go_wp2
    go_ret
    exact ⟨by first | rfl | (simp; done) | (simp [*]; done),by repeat (first | exact Drawn0.refl _ | apply Drawn0.step)⟩

/-! ### spec_IsHand: function 37 -/
def spec_IsHand.l0 : Nat → List Int → Int → Option (Bool)
 | 0,_,_ => none
 | k + 1,x0,x3 => if x3 < (x0.length : Int) then (if 0 ≤ x3 then ((spec_IsCard.f (rd x0 x3)).bind fun t134 => (if t134 = true then (if x3 ≤ (x0.length : Int) then ((spec_HasCard.f k (x0.take (x3 : Int).toNat) (rd x0 x3)).bind fun t137 => (if t137 = true then (some false) else (spec_IsHand.l0 k x0 (wrap64 (x3 + 1))))) else (none)) else (some false))) else (none)) else (some true)
def spec_IsHand.f (k : Nat) (l0 : List Int) : Option (Bool) := spec_IsHand.l0 k l0 0
theorem spec_IsHand.mono_l : ∀ k, (∀ y0 y1, LeO (spec_IsHand.l0 k y0 y1) (spec_IsHand.l0 (k + 1) y0 y1))
 | 0 => fun _ _ r h => by simp [spec_IsHand.l0] at h
 | k + 1 => by
  have ih0 := spec_IsHand.mono_l k
  ·intro y0 y1
   unfold spec_IsHand.l0
   repeat' first
   | (with_reducible exact ih0 _ _)
   | (with_reducible exact spec_HasCard.mono _ _ _)
   | (with_reducible exact LeO.refl _)
   | (with_reducible exact LeO.none _)
   | (with_reducible refine LeO.ite ?_ ?_)
   | (with_reducible refine LeO.bind ?_ (fun _ => ?_))
   | exact ih0 _ _
   | exact spec_HasCard.mono _ _ _
   | exact LeO.none _
   | refine LeO.ite ?_ ?_
   | refine LeO.bind ?_ (fun _ => ?_)
theorem spec_IsHand.mono : ∀ a0 k, LeO (spec_IsHand.f k a0) (spec_IsHand.f (k + 1) a0) := by
 intro a0 k
 have ih0 := spec_IsHand.mono_l k
 unfold spec_IsHand.f
 repeat' first
   | (with_reducible exact ih0 _ _)
   | (with_reducible exact spec_HasCard.mono _ _ _)
   | (with_reducible exact LeO.refl _)
   | (with_reducible exact LeO.none _)
   | (with_reducible refine LeO.ite ?_ ?_)
   | (with_reducible refine LeO.bind ?_ (fun _ => ?_))
   | exact ih0 _ _
   | exact spec_HasCard.mono _ _ _
   | exact LeO.none _
   | refine LeO.ite ?_ ?_
   | refine LeO.bind ?_ (fun _ => ?_)
set_option maxHeartbeats 8000000 in
set_option maxRecDepth 100000 in
theorem spec_IsHand.calls (k : Nat) (A0 : Option Addr) (c0 : Nat) (l0 : List Int) (r : Bool) (w : World) (hr0 : Kd.C (Kd.int .i64) w A0 l0.length l0) (hc0 : l0.length ≤ c0) (h : spec_IsHand.f k l0 = some r) :
  Calls Try.prog 37 #[.slice A0 l0.length c0] w fun e w' => e = .returned (.bool r) ∧ Drawn0 w w' := by
 have HR0 := QM hr0
 have HC0 := QM hc0
 clear hr0 hc0
 have H : (spec_IsHand.l0 k l0 0) = some r := h
 clear h
 have H' := QM H
 clear H
 go_enter Try.func37,Try.ntmps37
 go_wp2
 repeat (go_quiet (fail); try go_wp2)
 go_loopg [3] k (fun kq v3 w' => ∃ (x3_1 : Int),v3 = .int .i64 x3_1 ∧ Aside0 (spec_IsHand.l0 kq l0 x3_1 = some r) ∧ Aside0 (kq ≤ k) ∧ Drawn0 w w')
 case atStart => exact ⟨(0),(by first | rfl | (simp; done) | (simp [*]; done)),H',⟨Nat.le_refl _⟩,by repeat (first | exact Drawn0.refl _ | apply Drawn0.step)⟩
 case round =>
  clear H'
  obtain ⟨x3_1,rfl,HA,HK1,⟨m1,rfl⟩⟩ := hrel
  cases gk with
  | zero => exact absurd HA.out (by simp [spec_IsHand.l0])
  | succ k1 =>
   have H := HA.out
   clear HA
   simp only [spec_IsHand.l0] at H
   by_cases c2 : x3_1 < (l0.length : Int)
   ·rw [if_pos c2] at H
    have c2b0 : decide (x3_1 < (l0.length : Int)) = true := decide_eq_true c2
    clear c2
    by_cases c3 : 0 ≤ x3_1
    ·rw [if_pos c3] at H
     have c3b0 : decide (0 ≤ x3_1) = true := decide_eq_true c3
     clear c3
     replace H := QN.mp H
     obtain ⟨t134,A40,H⟩ := H
     have A4 := QM A40
     clear A40
     by_cases c5 : t134 = true
     ·subst c5
      rw [if_pos rfl] at H
      have c6b0 := eq_true (of_decide_eq_true (by first | (with_reducible assumption) | assumption) : 0 ≤ x3_1)
      by_cases c7 : x3_1 ≤ (l0.length : Int)
      ·rw [if_pos c7] at H
       have c7b0 := eq_true c7
       have c7b1 : decide (x3_1 ≤ (l0.length : Int)) = true := decide_eq_true c7
       clear c7
       replace H := QN.mp H
       obtain ⟨t137,A80,H⟩ := H
       have A8 := QM A80
       clear A80
       by_cases c9 : t137 = true
       ·subst c9
        rw [if_pos rfl] at H
        obtain rfl := Option.some.inj H
        have p133 : 0 ≤ (x3_1 : Int) := of_decide_eq_true (by first | (with_reducible assumption) | assumption)
        have q133 : x3_1 < (l0.length : Int) := of_decide_eq_true (by first | (with_reducible assumption) | assumption)
        obtain ⟨ad133,e133,hx133_0⟩ := Kd.at_int HR0.out x3_1 p133 q133
        cases e133
        replace p133 := eq_true p133
        replace q133 := eq_true q133
        obtain ⟨i010,hi010,_,hsz10,_⟩ := info_parts info3
        obtain ⟨hcut10,hA10,hC10⟩ := print_take_of (P := Try.prog) (Value.int .i64) 0 22 3 .i64 Try.underlying22 hi010 hsz10 (some ad133) c0 l0 x3_1 (of_decide_eq_true (by first | (with_reducible assumption) | assumption)) (of_decide_eq_true (by first | (with_reducible assumption) | assumption)) HC0.out
        have HR135 := QM (Kd.C_of_reads (h1 := fun _ => rfl) (hA10 _ (Kd.reads_of_C HR0.out)))
        have HC135 := QM hC10
        clear hA10 hC10 hi010 hsz10
        have p136 : 0 ≤ (x3_1 : Int) := of_decide_eq_true (by first | (with_reducible assumption) | assumption)
        have q136 : x3_1 < (l0.length : Int) := of_decide_eq_true (by first | (with_reducible assumption) | assumption)
        obtain ⟨ad136,e136,hx136_0⟩ := Kd.at_int HR0.out x3_1 p136 q136
        obtain rfl : ad133 = ad136 := (by injection e136)
        replace p136 := eq_true p136
        replace q136 := eq_true q136
        have HLT_l0_x3_1 := QM (show (l0.take (x3_1 : Int).toNat).length = (x3_1 : Int).toNat by rw [List.length_take]; have h1_ : x3_1 ≤ (l0.length : Int) := (by first | assumption | exact of_eq_true (by assumption) | exact of_decide_eq_true (by assumption) | omega); have h2_ : 0 ≤ x3_1 := (by first | assumption | exact of_eq_true (by assumption) | exact of_decide_eq_true (by assumption)); omega)
        go_wp2_with (first | (go_at_call 29; (with_reducible refine (spec_IsCard.calls (rd l0 x3_1) true _ A4.out).mono ?_); rintro e w' ⟨rfl,⟨nd,rfl⟩⟩; (try first | exact ⟨rfl,_,World.drewN_drewN _ _ _⟩ | exact ⟨rfl,_,Eq.trans (World.drewN_drewN _ _ _) (congrArg (World.drewN _) (Nat.add_assoc _ _ _))⟩)) | (go_at_call 49; (with_reducible refine calls_of_args (args' := #[.slice (some ad133) (l0.take (x3_1 : Int).toNat).length c0,.int .i64 (rd l0 x3_1)]) (by rw [HLT_l0_x3_1.out]) ?_); (with_reducible refine (spec_HasCard.calls k1 _ _ (l0.take (x3_1 : Int).toNat) (rd l0 x3_1) true _ ?side1 ?side2 A8.out).mono ?_); (case side1 => repeat (first | exact HR135.out | (with_reducible refine QG ?_ _) | (with_reducible refine QH ?_ _) | (with_reducible refine QJ ?_))); (case side2 => exact HC135.out); rintro e w' ⟨rfl,⟨nd,rfl⟩⟩; (try first | exact ⟨rfl,_,World.drewN_drewN _ _ _⟩ | exact ⟨rfl,_,Eq.trans (World.drewN_drewN _ _ _) (congrArg (World.drewN _) (Nat.add_assoc _ _ _))⟩)))
        repeat (go_quiet (first | (go_at_call 29; (with_reducible refine (spec_IsCard.calls (rd l0 x3_1) true _ A4.out).mono ?_); rintro e w' ⟨rfl,⟨nd,rfl⟩⟩; (try first | exact ⟨rfl,_,World.drewN_drewN _ _ _⟩ | exact ⟨rfl,_,Eq.trans (World.drewN_drewN _ _ _) (congrArg (World.drewN _) (Nat.add_assoc _ _ _))⟩)) | (go_at_call 49; (with_reducible refine calls_of_args (args' := #[.slice (some ad133) (l0.take (x3_1 : Int).toNat).length c0,.int .i64 (rd l0 x3_1)]) (by rw [HLT_l0_x3_1.out]) ?_); (with_reducible refine (spec_HasCard.calls k1 _ _ (l0.take (x3_1 : Int).toNat) (rd l0 x3_1) true _ ?side1 ?side2 A8.out).mono ?_); (case side1 => repeat (first | exact HR135.out | (with_reducible refine QG ?_ _) | (with_reducible refine QH ?_ _) | (with_reducible refine QJ ?_))); (case side2 => exact HC135.out); rintro e w' ⟨rfl,⟨nd,rfl⟩⟩; (try first | exact ⟨rfl,_,World.drewN_drewN _ _ _⟩ | exact ⟨rfl,_,Eq.trans (World.drewN_drewN _ _ _) (congrArg (World.drewN _) (Nat.add_assoc _ _ _))⟩))); try go_wp2_with (first | (go_at_call 29; (with_reducible refine (spec_IsCard.calls (rd l0 x3_1) true _ A4.out).mono ?_); rintro e w' ⟨rfl,⟨nd,rfl⟩⟩; (try first | exact ⟨rfl,_,World.drewN_drewN _ _ _⟩ | exact ⟨rfl,_,Eq.trans (World.drewN_drewN _ _ _) (congrArg (World.drewN _) (Nat.add_assoc _ _ _))⟩)) | (go_at_call 49; (with_reducible refine (spec_HasCard.calls k1 _ _ (l0.take (x3_1 : Int).toNat) (rd l0 x3_1) true _ ?side1 ?side2 A8.out).mono ?_); (case side1 => repeat (first | exact HR135.out | (with_reducible refine QG ?_ _) | (with_reducible refine QH ?_ _) | (with_reducible refine QJ ?_))); (case side2 => exact HC135.out); rintro e w' ⟨rfl,⟨nd,rfl⟩⟩; (try first | exact ⟨rfl,_,World.drewN_drewN _ _ _⟩ | exact ⟨rfl,_,Eq.trans (World.drewN_drewN _ _ _) (congrArg (World.drewN _) (Nat.add_assoc _ _ _))⟩))))
        go_ret
        exact ⟨by first | rfl | (simp; done) | (simp [*]; done),by repeat (first | exact Drawn0.refl _ | apply Drawn0.step)⟩
       ·replace c9 := Bool.eq_false_iff.mpr c9
        subst c9
        rw [if_neg (show ¬ (false = true) by decide)] at H
        have H' := QM H
        clear H
        have p133 : 0 ≤ (x3_1 : Int) := of_decide_eq_true (by first | (with_reducible assumption) | assumption)
        have q133 : x3_1 < (l0.length : Int) := of_decide_eq_true (by first | (with_reducible assumption) | assumption)
        obtain ⟨ad133,e133,hx133_0⟩ := Kd.at_int HR0.out x3_1 p133 q133
        cases e133
        replace p133 := eq_true p133
        replace q133 := eq_true q133
        obtain ⟨i011,hi011,_,hsz11,_⟩ := info_parts info3
        obtain ⟨hcut11,hA11,hC11⟩ := print_take_of (P := Try.prog) (Value.int .i64) 0 22 3 .i64 Try.underlying22 hi011 hsz11 (some ad133) c0 l0 x3_1 (of_decide_eq_true (by first | (with_reducible assumption) | assumption)) (of_decide_eq_true (by first | (with_reducible assumption) | assumption)) HC0.out
        have HR135 := QM (Kd.C_of_reads (h1 := fun _ => rfl) (hA11 _ (Kd.reads_of_C HR0.out)))
        have HC135 := QM hC11
        clear hA11 hC11 hi011 hsz11
        have p136 : 0 ≤ (x3_1 : Int) := of_decide_eq_true (by first | (with_reducible assumption) | assumption)
        have q136 : x3_1 < (l0.length : Int) := of_decide_eq_true (by first | (with_reducible assumption) | assumption)
        obtain ⟨ad136,e136,hx136_0⟩ := Kd.at_int HR0.out x3_1 p136 q136
        obtain rfl : ad133 = ad136 := (by injection e136)
        replace p136 := eq_true p136
        replace q136 := eq_true q136
        have HLT_l0_x3_1 := QM (show (l0.take (x3_1 : Int).toNat).length = (x3_1 : Int).toNat by rw [List.length_take]; have h1_ : x3_1 ≤ (l0.length : Int) := (by first | assumption | exact of_eq_true (by assumption) | exact of_decide_eq_true (by assumption) | omega); have h2_ : 0 ≤ x3_1 := (by first | assumption | exact of_eq_true (by assumption) | exact of_decide_eq_true (by assumption)); omega)
        go_wp2_with (first | (go_at_call 29; (with_reducible refine (spec_IsCard.calls (rd l0 x3_1) true _ A4.out).mono ?_); rintro e w' ⟨rfl,⟨nd,rfl⟩⟩; (try first | exact ⟨rfl,_,World.drewN_drewN _ _ _⟩ | exact ⟨rfl,_,Eq.trans (World.drewN_drewN _ _ _) (congrArg (World.drewN _) (Nat.add_assoc _ _ _))⟩)) | (go_at_call 49; (with_reducible refine calls_of_args (args' := #[.slice (some ad133) (l0.take (x3_1 : Int).toNat).length c0,.int .i64 (rd l0 x3_1)]) (by rw [HLT_l0_x3_1.out]) ?_); (with_reducible refine (spec_HasCard.calls k1 _ _ (l0.take (x3_1 : Int).toNat) (rd l0 x3_1) false _ ?side1 ?side2 A8.out).mono ?_); (case side1 => repeat (first | exact HR135.out | (with_reducible refine QG ?_ _) | (with_reducible refine QH ?_ _) | (with_reducible refine QJ ?_))); (case side2 => exact HC135.out); rintro e w' ⟨rfl,⟨nd,rfl⟩⟩; (try first | exact ⟨rfl,_,World.drewN_drewN _ _ _⟩ | exact ⟨rfl,_,Eq.trans (World.drewN_drewN _ _ _) (congrArg (World.drewN _) (Nat.add_assoc _ _ _))⟩)))
        repeat (go_quiet (first | (go_at_call 29; (with_reducible refine (spec_IsCard.calls (rd l0 x3_1) true _ A4.out).mono ?_); rintro e w' ⟨rfl,⟨nd,rfl⟩⟩; (try first | exact ⟨rfl,_,World.drewN_drewN _ _ _⟩ | exact ⟨rfl,_,Eq.trans (World.drewN_drewN _ _ _) (congrArg (World.drewN _) (Nat.add_assoc _ _ _))⟩)) | (go_at_call 49; (with_reducible refine calls_of_args (args' := #[.slice (some ad133) (l0.take (x3_1 : Int).toNat).length c0,.int .i64 (rd l0 x3_1)]) (by rw [HLT_l0_x3_1.out]) ?_); (with_reducible refine (spec_HasCard.calls k1 _ _ (l0.take (x3_1 : Int).toNat) (rd l0 x3_1) false _ ?side1 ?side2 A8.out).mono ?_); (case side1 => repeat (first | exact HR135.out | (with_reducible refine QG ?_ _) | (with_reducible refine QH ?_ _) | (with_reducible refine QJ ?_))); (case side2 => exact HC135.out); rintro e w' ⟨rfl,⟨nd,rfl⟩⟩; (try first | exact ⟨rfl,_,World.drewN_drewN _ _ _⟩ | exact ⟨rfl,_,Eq.trans (World.drewN_drewN _ _ _) (congrArg (World.drewN _) (Nat.add_assoc _ _ _))⟩))); try go_wp2_with (first | (go_at_call 29; (with_reducible refine (spec_IsCard.calls (rd l0 x3_1) true _ A4.out).mono ?_); rintro e w' ⟨rfl,⟨nd,rfl⟩⟩; (try first | exact ⟨rfl,_,World.drewN_drewN _ _ _⟩ | exact ⟨rfl,_,Eq.trans (World.drewN_drewN _ _ _) (congrArg (World.drewN _) (Nat.add_assoc _ _ _))⟩)) | (go_at_call 49; (with_reducible refine (spec_HasCard.calls k1 _ _ (l0.take (x3_1 : Int).toNat) (rd l0 x3_1) false _ ?side1 ?side2 A8.out).mono ?_); (case side1 => repeat (first | exact HR135.out | (with_reducible refine QG ?_ _) | (with_reducible refine QH ?_ _) | (with_reducible refine QJ ?_))); (case side2 => exact HC135.out); rintro e w' ⟨rfl,⟨nd,rfl⟩⟩; (try first | exact ⟨rfl,_,World.drewN_drewN _ _ _⟩ | exact ⟨rfl,_,Eq.trans (World.drewN_drewN _ _ _) (congrArg (World.drewN _) (Nat.add_assoc _ _ _))⟩))))
        go_roundg k1
        case measure => have := HK1.out; omega
        case rel => exact ⟨(wrap64 (x3_1 + 1)),(by first | rfl | (simp; done) | (simp [*]; done)),H',⟨by have := HK1.out; omega⟩,by repeat (first | exact Drawn0.refl _ | apply Drawn0.step)⟩
      ·rw [if_neg c7] at H
       exact absurd H (by simp)
     ·replace c5 := Bool.eq_false_iff.mpr c5
      subst c5
      rw [if_neg (show ¬ (false = true) by decide)] at H
      obtain rfl := Option.some.inj H
      have p133 : 0 ≤ (x3_1 : Int) := of_decide_eq_true (by first | (with_reducible assumption) | assumption)
      have q133 : x3_1 < (l0.length : Int) := of_decide_eq_true (by first | (with_reducible assumption) | assumption)
      obtain ⟨ad133,e133,hx133_0⟩ := Kd.at_int HR0.out x3_1 p133 q133
      cases e133
      replace p133 := eq_true p133
      replace q133 := eq_true q133
      go_wp2_with (first | (go_at_call 29; (with_reducible refine (spec_IsCard.calls (rd l0 x3_1) false _ A4.out).mono ?_); rintro e w' ⟨rfl,⟨nd,rfl⟩⟩; (try first | exact ⟨rfl,_,World.drewN_drewN _ _ _⟩ | exact ⟨rfl,_,Eq.trans (World.drewN_drewN _ _ _) (congrArg (World.drewN _) (Nat.add_assoc _ _ _))⟩)))
      repeat (go_quiet (first | (go_at_call 29; (with_reducible refine (spec_IsCard.calls (rd l0 x3_1) false _ A4.out).mono ?_); rintro e w' ⟨rfl,⟨nd,rfl⟩⟩; (try first | exact ⟨rfl,_,World.drewN_drewN _ _ _⟩ | exact ⟨rfl,_,Eq.trans (World.drewN_drewN _ _ _) (congrArg (World.drewN _) (Nat.add_assoc _ _ _))⟩))); try go_wp2_with (first | (go_at_call 29; (with_reducible refine (spec_IsCard.calls (rd l0 x3_1) false _ A4.out).mono ?_); rintro e w' ⟨rfl,⟨nd,rfl⟩⟩; (try first | exact ⟨rfl,_,World.drewN_drewN _ _ _⟩ | exact ⟨rfl,_,Eq.trans (World.drewN_drewN _ _ _) (congrArg (World.drewN _) (Nat.add_assoc _ _ _))⟩))))
      go_ret
      exact ⟨by first | rfl | (simp; done) | (simp [*]; done),by repeat (first | exact Drawn0.refl _ | apply Drawn0.step)⟩
    ·rw [if_neg c3] at H
     exact absurd H (by simp)
   ·rw [if_neg c2] at H
    have c2b0 : decide (x3_1 < (l0.length : Int)) = false := decide_eq_false c2
    clear c2
    obtain rfl := Option.some.inj H
    go_wp2
    repeat (go_quiet (fail); try go_wp2)
    go_ret
    exact ⟨by first | rfl | (simp; done) | (simp [*]; done),by repeat (first | exact Drawn0.refl _ | apply Drawn0.step)⟩

/-! ### spec_IsGame: function 25 -/
mutual
def spec_IsGame.j0 : Nat → Bool → Int → Int → Bool → Bool → List Int → List Int → Int → Int → List (List Int) → List Int → List Int → Int → Int → Int → Option (Bool)
 | 0,_,_,_,_,_,_,_,_,_,_,_,_,_,_,_ => none
 | k + 1,x50,x139000,x139001,x139002,x139003,x139004,x139005,x139006,x139007,x139008,x139009,x139010,x139011,x139012,x139013 => if x50 = true then (some false) else ((some (([] : List Int) : List Int)).bind fun y143 => (if y143.length + x139009.length < 17592186044416 then ((some (y143 ++ x139009 : List Int)).bind fun y146 => (if y146.length + x139010.length < 17592186044416 then (spec_IsGame.l0 k (y146 ++ x139010) 0 x139000 x139001 x139002 x139003 x139004 x139005 x139006 x139007 x139008 x139009 x139010 x139011 x139012 x139013) else (none))) else (none)))
def spec_IsGame.l0 : Nat → List Int → Int → Int → Int → Bool → Bool → List Int → List Int → Int → Int → List (List Int) → List Int → List Int → Int → Int → Int → Option (Bool)
 | 0,_,_,_,_,_,_,_,_,_,_,_,_,_,_,_,_ => none
 | k + 1,x3,x4,x139000,x139001,x139002,x139003,x139004,x139005,x139006,x139007,x139008,x139009,x139010,x139011,x139012,x139013 => if x4 < (x139008.length : Int) then (if 0 ≤ x4 then (if x3.length + (rd_L1 x139008 x4).length < 17592186044416 then (spec_IsGame.l0 k (x3 ++ (rd_L1 x139008 x4)) (wrap64 (x4 + 1)) x139000 x139001 x139002 x139003 x139004 x139005 x139006 x139007 x139008 x139009 x139010 x139011 x139012 x139013) else (none)) else (none)) else (if (x3.length : Int) = 52 then ((spec_IsHand.f k x3).bind fun t156 => (some t156)) else (some false))
end
def spec_IsGame.f (k : Nat) (a0_0 : Int) (a0_1 : Int) (a0_2 : Bool) (a0_3 : Bool) (l0_4 : List Int) (l0_5 : List Int) (a0_6 : Int) (a0_7 : Int) (l0_8 : List (List Int)) (l0_9 : List Int) (l0_10 : List Int) (a0_11 : Int) (a0_12 : Int) (a0_13 : Int) : Option (Bool) := (spec_IsRules.f k a0_0 a0_1 a0_2 a0_3 l0_4 l0_5 a0_6 a0_7).bind fun t139 => (if t139 = true then (if (l0_8.length : Int) = a0_0 then (if (l0_10.length : Int) = 0 then (spec_IsGame.j0 k true a0_0 a0_1 a0_2 a0_3 l0_4 l0_5 a0_6 a0_7 l0_8 l0_9 l0_10 a0_11 a0_12 a0_13) else ((spec_l1In.f a0_11 0 (wrap64 (a0_0 - 1))).bind fun t140 => (if t140 = true then ((spec_l1In.f a0_12 0 a0_7).bind fun t141 => (if t141 = true then ((spec_l1In.f a0_13 0 a0_12).bind fun t142 => (spec_IsGame.j0 k (!t142) a0_0 a0_1 a0_2 a0_3 l0_4 l0_5 a0_6 a0_7 l0_8 l0_9 l0_10 a0_11 a0_12 a0_13)) else (spec_IsGame.j0 k true a0_0 a0_1 a0_2 a0_3 l0_4 l0_5 a0_6 a0_7 l0_8 l0_9 l0_10 a0_11 a0_12 a0_13))) else (spec_IsGame.j0 k true a0_0 a0_1 a0_2 a0_3 l0_4 l0_5 a0_6 a0_7 l0_8 l0_9 l0_10 a0_11 a0_12 a0_13)))) else (spec_IsGame.j0 k true a0_0 a0_1 a0_2 a0_3 l0_4 l0_5 a0_6 a0_7 l0_8 l0_9 l0_10 a0_11 a0_12 a0_13)) else (spec_IsGame.j0 k true a0_0 a0_1 a0_2 a0_3 l0_4 l0_5 a0_6 a0_7 l0_8 l0_9 l0_10 a0_11 a0_12 a0_13))
theorem spec_IsGame.mono_l : ∀ k, (∀ y0 y1 y2 y3 y4 y5 y6 y7 y8 y9 y10 y11 y12 y13 y14, LeO (spec_IsGame.j0 k y0 y1 y2 y3 y4 y5 y6 y7 y8 y9 y10 y11 y12 y13 y14) (spec_IsGame.j0 (k + 1) y0 y1 y2 y3 y4 y5 y6 y7 y8 y9 y10 y11 y12 y13 y14)) ∧ (∀ y0 y1 y2 y3 y4 y5 y6 y7 y8 y9 y10 y11 y12 y13 y14 y15, LeO (spec_IsGame.l0 k y0 y1 y2 y3 y4 y5 y6 y7 y8 y9 y10 y11 y12 y13 y14 y15) (spec_IsGame.l0 (k + 1) y0 y1 y2 y3 y4 y5 y6 y7 y8 y9 y10 y11 y12 y13 y14 y15))
 | 0 => ⟨fun _ _ _ _ _ _ _ _ _ _ _ _ _ _ _ r h => by simp [spec_IsGame.j0] at h,fun _ _ _ _ _ _ _ _ _ _ _ _ _ _ _ _ r h => by simp [spec_IsGame.l0] at h⟩
 | k + 1 => by
  obtain ⟨ih0,ih1⟩ := spec_IsGame.mono_l k
  refine ⟨?_,?_⟩
  ·intro y0 y1 y2 y3 y4 y5 y6 y7 y8 y9 y10 y11 y12 y13 y14
   unfold spec_IsGame.j0
   repeat' first
   | (with_reducible exact ih0 _ _ _ _ _ _ _ _ _ _ _ _ _ _ _)
   | (with_reducible exact ih1 _ _ _ _ _ _ _ _ _ _ _ _ _ _ _ _)
   | (with_reducible exact spec_IsHand.mono _ _)
   | (with_reducible exact spec_IsRules.mono _ _ _ _ _ _ _ _ _)
   | (with_reducible exact LeO.refl _)
   | (with_reducible exact LeO.none _)
   | (with_reducible refine LeO.ite ?_ ?_)
   | (with_reducible refine LeO.bind ?_ (fun _ => ?_))
   | exact ih0 _ _ _ _ _ _ _ _ _ _ _ _ _ _ _
   | exact ih1 _ _ _ _ _ _ _ _ _ _ _ _ _ _ _ _
   | exact spec_IsHand.mono _ _
   | exact spec_IsRules.mono _ _ _ _ _ _ _ _ _
   | exact LeO.none _
   | refine LeO.ite ?_ ?_
   | refine LeO.bind ?_ (fun _ => ?_)
  ·intro y0 y1 y2 y3 y4 y5 y6 y7 y8 y9 y10 y11 y12 y13 y14 y15
   unfold spec_IsGame.l0
   repeat' first
   | (with_reducible exact ih0 _ _ _ _ _ _ _ _ _ _ _ _ _ _ _)
   | (with_reducible exact ih1 _ _ _ _ _ _ _ _ _ _ _ _ _ _ _ _)
   | (with_reducible exact spec_IsHand.mono _ _)
   | (with_reducible exact spec_IsRules.mono _ _ _ _ _ _ _ _ _)
   | (with_reducible exact LeO.refl _)
   | (with_reducible exact LeO.none _)
   | (with_reducible refine LeO.ite ?_ ?_)
   | (with_reducible refine LeO.bind ?_ (fun _ => ?_))
   | exact ih0 _ _ _ _ _ _ _ _ _ _ _ _ _ _ _
   | exact ih1 _ _ _ _ _ _ _ _ _ _ _ _ _ _ _ _
   | exact spec_IsHand.mono _ _
   | exact spec_IsRules.mono _ _ _ _ _ _ _ _ _
   | exact LeO.none _
   | refine LeO.ite ?_ ?_
   | refine LeO.bind ?_ (fun _ => ?_)
theorem spec_IsGame.mono : ∀ a0 a1 a2 a3 a4 a5 a6 a7 a8 a9 a10 a11 a12 a13 k, LeO (spec_IsGame.f k a0 a1 a2 a3 a4 a5 a6 a7 a8 a9 a10 a11 a12 a13) (spec_IsGame.f (k + 1) a0 a1 a2 a3 a4 a5 a6 a7 a8 a9 a10 a11 a12 a13) := by
 intro a0 a1 a2 a3 a4 a5 a6 a7 a8 a9 a10 a11 a12 a13 k
 obtain ⟨ih0,ih1⟩ := spec_IsGame.mono_l k
 unfold spec_IsGame.f
 repeat' first
   | (with_reducible exact ih0 _ _ _ _ _ _ _ _ _ _ _ _ _ _ _)
   | (with_reducible exact ih1 _ _ _ _ _ _ _ _ _ _ _ _ _ _ _ _)
   | (with_reducible exact spec_IsHand.mono _ _)
   | (with_reducible exact spec_IsRules.mono _ _ _ _ _ _ _ _ _)
   | (with_reducible exact LeO.refl _)
   | (with_reducible exact LeO.none _)
   | (with_reducible refine LeO.ite ?_ ?_)
   | (with_reducible refine LeO.bind ?_ (fun _ => ?_))
   | exact ih0 _ _ _ _ _ _ _ _ _ _ _ _ _ _ _
   | exact ih1 _ _ _ _ _ _ _ _ _ _ _ _ _ _ _ _
   | exact spec_IsHand.mono _ _
   | exact spec_IsRules.mono _ _ _ _ _ _ _ _ _
   | exact LeO.none _
   | refine LeO.ite ?_ ?_
   | refine LeO.bind ?_ (fun _ => ?_)
def spec_IsGame.T3 : Bool × List (List Nat × List Nat) := (true, [([], []), ([], []), ([1], [1]), ([0, 2], [0, 2]), ([], []), ([4], [4]), ([3, 5, 3], [3, 5]), ([6, 6, 0, 1, 2, 3, 4, 5, 6], [6])])
def spec_IsGame.B3 : List Nat := [0, 0, 2, 7, 0, 16, 63, 127]
theorem spec_IsGame.tab3 : rtab .any (opsOf Try.f25 3) = spec_IsGame.T3 := by kernel_rfl
theorem spec_IsGame.bits3 : waitsOk spec_IsGame.T3.2 spec_IsGame.B3 = true := by kernel_rfl
set_option maxHeartbeats 8000000 in
set_option maxRecDepth 100000 in
theorem spec_IsGame.calls (k : Nat) (a0_0 : Int) (a0_1 : Int) (a0_2 : Bool) (a0_3 : Bool) (A0_4 : Option Addr) (c0_4 : Nat) (l0_4 : List Int) (A0_5 : Option Addr) (c0_5 : Nat) (l0_5 : List Int) (a0_6 : Int) (a0_7 : Int) (A0_8 : Option Addr) (c0_8 : Nat) (l0_8 : List (List Int)) (A0_9 : Option Addr) (c0_9 : Nat) (l0_9 : List Int) (A0_10 : Option Addr) (c0_10 : Nat) (l0_10 : List Int) (a0_11 : Int) (a0_12 : Int) (a0_13 : Int) (r : Bool) (w : World) (hr0_4 : Kd.C (Kd.int .i64) w A0_4 l0_4.length l0_4) (hc0_4 : l0_4.length ≤ c0_4) (hr0_5 : Kd.C (Kd.int .i64) w A0_5 l0_5.length l0_5) (hc0_5 : l0_5.length ≤ c0_5) (hr0_8 : Kd.C (Kd.slice 3 (Kd.int .i64)) w A0_8 l0_8.length l0_8) (hc0_8 : l0_8.length ≤ c0_8) (hr0_9 : Kd.C (Kd.int .i64) w A0_9 l0_9.length l0_9) (hc0_9 : l0_9.length ≤ c0_9) (hr0_10 : Kd.C (Kd.int .i64) w A0_10 l0_10.length l0_10) (hc0_10 : l0_10.length ≤ c0_10) (h : spec_IsGame.f k a0_0 a0_1 a0_2 a0_3 l0_4 l0_5 a0_6 a0_7 l0_8 l0_9 l0_10 a0_11 a0_12 a0_13 = some r) :
  Calls Try.prog 25 #[.agg #[.int .i64 a0_0,.int .i64 a0_1,.bool a0_2,.bool a0_3,.slice A0_4 l0_4.length c0_4,.slice A0_5 l0_5.length c0_5,.int .i64 a0_6,.int .i64 a0_7,.slice A0_8 l0_8.length c0_8,.slice A0_9 l0_9.length c0_9,.slice A0_10 l0_10.length c0_10,.int .i64 a0_11,.int .i64 a0_12,.int .i64 a0_13]] w fun e w' => e = .returned (.bool r) ∧ Below w.heap.size w w' := by
 have hu32 := Try.underlying32
 have hu30 := Try.underlying30
 have HR0_4 := QM hr0_4
 have HC0_4 := QM hc0_4
 clear hr0_4 hc0_4
 have HR0_5 := QM hr0_5
 have HC0_5 := QM hc0_5
 clear hr0_5 hc0_5
 have HR0_8 := QM hr0_8
 have HC0_8 := QM hc0_8
 clear hr0_8 hc0_8
 have HR0_9 := QM hr0_9
 have HC0_9 := QM hc0_9
 clear hr0_9 hc0_9
 have HR0_10 := QM hr0_10
 have HC0_10 := QM hc0_10
 clear hr0_10 hc0_10
 have HB := QM (Below.refl w.heap.size w)
 have H : ((spec_IsRules.f k a0_0 a0_1 a0_2 a0_3 l0_4 l0_5 a0_6 a0_7).bind fun t139 => (if t139 = true then (if (l0_8.length : Int) = a0_0 then (if (l0_10.length : Int) = 0 then (spec_IsGame.j0 k true a0_0 a0_1 a0_2 a0_3 l0_4 l0_5 a0_6 a0_7 l0_8 l0_9 l0_10 a0_11 a0_12 a0_13) else ((spec_l1In.f a0_11 0 (wrap64 (a0_0 - 1))).bind fun t140 => (if t140 = true then ((spec_l1In.f a0_12 0 a0_7).bind fun t141 => (if t141 = true then ((spec_l1In.f a0_13 0 a0_12).bind fun t142 => (spec_IsGame.j0 k (!t142) a0_0 a0_1 a0_2 a0_3 l0_4 l0_5 a0_6 a0_7 l0_8 l0_9 l0_10 a0_11 a0_12 a0_13)) else (spec_IsGame.j0 k true a0_0 a0_1 a0_2 a0_3 l0_4 l0_5 a0_6 a0_7 l0_8 l0_9 l0_10 a0_11 a0_12 a0_13))) else (spec_IsGame.j0 k true a0_0 a0_1 a0_2 a0_3 l0_4 l0_5 a0_6 a0_7 l0_8 l0_9 l0_10 a0_11 a0_12 a0_13)))) else (spec_IsGame.j0 k true a0_0 a0_1 a0_2 a0_3 l0_4 l0_5 a0_6 a0_7 l0_8 l0_9 l0_10 a0_11 a0_12 a0_13)) else (spec_IsGame.j0 k true a0_0 a0_1 a0_2 a0_3 l0_4 l0_5 a0_6 a0_7 l0_8 l0_9 l0_10 a0_11 a0_12 a0_13))) = some r := h
 clear h
 have HC2 := QM H
 clear H
 go_enter Try.func25,Try.ntmps25
 go_upto_region 1 with (first | ((with_reducible refine gate_dst (N := 1) rfl ?_); (try (refine gate_guard (by rfl) ?_; dsimp only)); refine box_event ?hg (N := 1) ?hd (cs := #[.int .i64 a0_0,.int .i64 a0_1,.bool a0_2,.bool a0_3,.slice A0_4 l0_4.length c0_4,.slice A0_5 l0_5.length c0_5,.int .i64 a0_6,.int .i64 a0_7,.slice A0_8 l0_8.length c0_8,.slice A0_9 l0_9.length c0_9,.slice A0_10 l0_10.length c0_10,.int .i64 a0_11,.int .i64 a0_12,.int .i64 a0_13]) (t := 32) ?hr ?_; (case hd => rfl); (case hg => rfl); (case hr => first | (go_simp; done) | (go_simp; rfl)); intro gb138 hg w3 hbox hb; have n0_ := QM (below_step (by repeat (first | (with_reducible first | exact HB.out | apply QF | apply QD | apply QE) | exact HB.out)) hb); have n1_ := QM (hbox); have n2_ := QM ((by rw [hg]; exact (below_size (by repeat (first | (with_reducible first | exact HB.out | apply QF | apply QD | apply QE) | exact HB.out))) : w.heap.size ≤ gb138)); have n3_ := QM ((by rw [hg]; exact (below_size (by repeat (first | (with_reducible first | exact HB.out | apply QF | apply QD | apply QE) | exact HB.out))) : w.heap.size ≤ gb138)); clear HB; revert n0_ n1_ n2_ n3_; intro HB BK138 GW138 GE138; clear hb hbox hg))
 (try simp only [Act.put,List.setIfInBounds_toArray,List.set_cons_zero,List.set_cons_succ])
 go_cut [50] (fun v50 wc => ∃ (kq : Nat) (x50_1 : Bool),v50 = .bool x50_1 ∧ Aside0 (spec_IsGame.j0 kq x50_1 a0_0 a0_1 a0_2 a0_3 l0_4 l0_5 a0_6 a0_7 l0_8 l0_9 l0_10 a0_11 a0_12 a0_13 = some r) ∧ Aside0 (kq ≤ k) ∧ Aside0 (wc.heap[gb138]? = some (.cells #[.int .i64 a0_0,.int .i64 a0_1,.bool a0_2,.bool a0_3,(.slice A0_4 l0_4.length c0_4),(.slice A0_5 l0_5.length c0_5),.int .i64 a0_6,.int .i64 a0_7,(.slice A0_8 l0_8.length c0_8),(.slice A0_9 l0_9.length c0_9),(.slice A0_10 l0_10.length c0_10),.int .i64 a0_11,.int .i64 a0_12,.int .i64 a0_13] 32 (0,0))) ∧ Aside0 (Below w.heap.size w wc))
 case first =>
  have H := HC2.out
  clear HC2
  replace H := QN.mp H
  obtain ⟨t139,A40,H⟩ := H
  have A4 := QM A40
  clear A40
  by_cases c5 : t139 = true
  ·subst c5
   rw [if_pos rfl] at H
   by_cases c6 : (l0_8.length : Int) = a0_0
   ·rw [if_pos c6] at H
    have c6b0 : ((l0_8.length : Int) == a0_0) = true := beq_iff_eq.mpr c6
    have c6b1 : ((l0_8.length : Int) != a0_0) = false := bne_eq_false_iff_eq.mpr c6
    clear c6
    (first | rw [c6b0] | (simp only [i64_w,i32_w]; rw [c6b0]) | skip)
    by_cases c7 : (l0_10.length : Int) = 0
    rotate_left
    rw [if_neg c7] at H
    have c7b0 : ((l0_10.length : Int) == 0) = false := beq_eq_false_iff_ne.mpr c7
    have c7b1 : ((l0_10.length : Int) != 0) = true := bne_iff_ne.mpr c7
    have c7b2 : ¬ (l0_10 = []) := fun h_ => c7 (by rw [h_]; rfl)
    replace H := QN.mp H
    obtain ⟨t140,A110,H⟩ := H
    have A11 := QM A110
    clear A110
    by_cases c12 : t140 = true
    rotate_left
    replace c12 := Bool.eq_false_iff.mpr c12
    subst c12
    rw [if_neg (show ¬ (false = true) by decide)] at H
    have H' := QM H
    clear H
    rotate_right
    subst c12
    rw [if_pos rfl] at H
    replace H := QN.mp H
    obtain ⟨t141,A130,H⟩ := H
    have A13 := QM A130
    clear A130
    by_cases c14 : t141 = true
    rotate_left
    replace c14 := Bool.eq_false_iff.mpr c14
    subst c14
    rw [if_neg (show ¬ (false = true) by decide)] at H
    have H' := QM H
    clear H
    rotate_right
    subst c14
    rw [if_pos rfl] at H
    replace H := QN.mp H
    obtain ⟨t142,A150,H⟩ := H
    have A15 := QM A150
    clear A150
    have H' := QM H
    clear H
    rotate_right
    rw [if_pos c7] at H
    have c7b0 : ((l0_10.length : Int) == 0) = true := beq_iff_eq.mpr c7
    have c7b1 : ((l0_10.length : Int) != 0) = false := bne_eq_false_iff_eq.mpr c7
    clear c7
    have H' := QM H
    clear H
    all_goals
     have hcz16_0 : w3.cell? ⟨gb138,0,none⟩ = some (.int .i64 a0_0) := (QC BK138.out 0).trans rfl
     have hcz16_1 : w3.cell? ⟨gb138,1,none⟩ = some (.int .i64 a0_1) := (QC BK138.out 1).trans rfl
     have hcz16_2 : w3.cell? ⟨gb138,2,none⟩ = some (.bool a0_2) := (QC BK138.out 2).trans rfl
     have hcz16_3 : w3.cell? ⟨gb138,3,none⟩ = some (.bool a0_3) := (QC BK138.out 3).trans rfl
     have hcz16_4 : w3.cell? ⟨gb138,4,none⟩ = some (.slice A0_4 l0_4.length c0_4) := (QC BK138.out 4).trans rfl
     have hcz16_5 : w3.cell? ⟨gb138,5,none⟩ = some (.slice A0_5 l0_5.length c0_5) := (QC BK138.out 5).trans rfl
     have hcz16_6 : w3.cell? ⟨gb138,6,none⟩ = some (.int .i64 a0_6) := (QC BK138.out 6).trans rfl
     have hcz16_7 : w3.cell? ⟨gb138,7,none⟩ = some (.int .i64 a0_7) := (QC BK138.out 7).trans rfl
     have hcz16_8 : w3.cell? ⟨gb138,8,none⟩ = some (.slice A0_8 l0_8.length c0_8) := (QC BK138.out 8).trans rfl
     have hcz16_9 : w3.cell? ⟨gb138,9,none⟩ = some (.slice A0_9 l0_9.length c0_9) := (QC BK138.out 9).trans rfl
     have hcz16_10 : w3.cell? ⟨gb138,10,none⟩ = some (.slice A0_10 l0_10.length c0_10) := (QC BK138.out 10).trans rfl
     have hcz16_11 : w3.cell? ⟨gb138,11,none⟩ = some (.int .i64 a0_11) := (QC BK138.out 11).trans rfl
     have hcz16_12 : w3.cell? ⟨gb138,12,none⟩ = some (.int .i64 a0_12) := (QC BK138.out 12).trans rfl
     have hcz16_13 : w3.cell? ⟨gb138,13,none⟩ = some (.int .i64 a0_13) := (QC BK138.out 13).trans rfl
     have hfz16_0 := QB BK138.out 0
     have hfz16_1 := QB BK138.out 1
     have hfz16_2 := QB BK138.out 2
     have hfz16_3 := QB BK138.out 3
     have hfz16_4 := QB BK138.out 4
     have hfz16_5 := QB BK138.out 5
     have hfz16_6 := QB BK138.out 6
     have hfz16_7 := QB BK138.out 7
     have hfz16_8 := QB BK138.out 8
     have hfz16_9 := QB BK138.out 9
     have hfz16_10 := QB BK138.out 10
     have hfz16_11 := QB BK138.out 11
     have hfz16_12 := QB BK138.out 12
     have hfz16_13 := QB BK138.out 13
     go_wp2_with (first | ((with_reducible refine QL (f := 35) rfl ?_); refine goesL_ (some 7) rfl rfl Try.func35 (by kernel_rfl) rfl #[.agg #[.int .i64 a0_0,.int .i64 a0_1,.bool a0_2,.bool a0_3,.slice A0_4 l0_4.length c0_4,.slice A0_5 l0_5.length c0_5,.int .i64 a0_6,.int .i64 a0_7]] rfl (by (try simp only [List.map_toArray,List.map_cons,List.map_nil]); first | done | rfl | (simp only [List.length_drop,List.length_take]; rfl)) ?_; (with_reducible refine (spec_IsRules.calls k a0_0 a0_1 a0_2 a0_3 _ _ l0_4 _ _ l0_5 a0_6 a0_7 true _ ?side1 ?side2 ?side3 ?side4 A4.out).mono ?_); (case side1 => repeat (first | exact (QK HR0_4.out HB.out) | (with_reducible refine QG ?_ _) | (with_reducible refine QH ?_ _) | (with_reducible refine QJ ?_))); (case side2 => exact HC0_4.out); (case side3 => repeat (first | exact (QK HR0_5.out HB.out) | (with_reducible refine QG ?_ _) | (with_reducible refine QH ?_ _) | (with_reducible refine QJ ?_))); (case side4 => exact HC0_5.out); rintro e w17 ⟨rfl,hb⟩; refine ⟨_,rfl,?_⟩; have n0_ := QM (blk_below (g := gb138) (o := .cells #[.int .i64 a0_0,.int .i64 a0_1,.bool a0_2,.bool a0_3,.slice A0_4 l0_4.length c0_4,.slice A0_5 l0_5.length c0_5,.int .i64 a0_6,.int .i64 a0_7,.slice A0_8 l0_8.length c0_8,.slice A0_9 l0_9.length c0_9,.slice A0_10 l0_10.length c0_10,.int .i64 a0_11,.int .i64 a0_12,.int .i64 a0_13] 32 (0,0)) (by (with_reducible repeat (first | refine blk_drewN ?_ _ | refine blk_drew ?_ | refine blk_alloc ?_ _)); exact BK138.out) hb); have n1_ := QM (below_step (by repeat (first | (with_reducible first | exact HB.out | apply QF | apply QD | apply QE | refine QI ?_ GE138.out) | exact HB.out)) hb); clear BK138; clear HB; revert n0_ n1_; intro BK138 HB; (try clear hb); (try clear hb2); (try clear hk); (try clear hi); have hcz18_0 : w17.cell? ⟨gb138,0,none⟩ = some (.int .i64 a0_0) := (QC BK138.out 0).trans rfl; have hcz18_1 : w17.cell? ⟨gb138,1,none⟩ = some (.int .i64 a0_1) := (QC BK138.out 1).trans rfl; have hcz18_2 : w17.cell? ⟨gb138,2,none⟩ = some (.bool a0_2) := (QC BK138.out 2).trans rfl; have hcz18_3 : w17.cell? ⟨gb138,3,none⟩ = some (.bool a0_3) := (QC BK138.out 3).trans rfl; have hcz18_4 : w17.cell? ⟨gb138,4,none⟩ = some (.slice A0_4 l0_4.length c0_4) := (QC BK138.out 4).trans rfl; have hcz18_5 : w17.cell? ⟨gb138,5,none⟩ = some (.slice A0_5 l0_5.length c0_5) := (QC BK138.out 5).trans rfl; have hcz18_6 : w17.cell? ⟨gb138,6,none⟩ = some (.int .i64 a0_6) := (QC BK138.out 6).trans rfl; have hcz18_7 : w17.cell? ⟨gb138,7,none⟩ = some (.int .i64 a0_7) := (QC BK138.out 7).trans rfl; have hcz18_8 : w17.cell? ⟨gb138,8,none⟩ = some (.slice A0_8 l0_8.length c0_8) := (QC BK138.out 8).trans rfl; have hcz18_9 : w17.cell? ⟨gb138,9,none⟩ = some (.slice A0_9 l0_9.length c0_9) := (QC BK138.out 9).trans rfl; have hcz18_10 : w17.cell? ⟨gb138,10,none⟩ = some (.slice A0_10 l0_10.length c0_10) := (QC BK138.out 10).trans rfl; have hcz18_11 : w17.cell? ⟨gb138,11,none⟩ = some (.int .i64 a0_11) := (QC BK138.out 11).trans rfl; have hcz18_12 : w17.cell? ⟨gb138,12,none⟩ = some (.int .i64 a0_12) := (QC BK138.out 12).trans rfl; have hcz18_13 : w17.cell? ⟨gb138,13,none⟩ = some (.int .i64 a0_13) := (QC BK138.out 13).trans rfl; have hfz18_0 := QB BK138.out 0; have hfz18_1 := QB BK138.out 1; have hfz18_2 := QB BK138.out 2; have hfz18_3 := QB BK138.out 3; have hfz18_4 := QB BK138.out 4; have hfz18_5 := QB BK138.out 5; have hfz18_6 := QB BK138.out 6; have hfz18_7 := QB BK138.out 7; have hfz18_8 := QB BK138.out 8; have hfz18_9 := QB BK138.out 9; have hfz18_10 := QB BK138.out 10; have hfz18_11 := QB BK138.out 11; have hfz18_12 := QB BK138.out 12; have hfz18_13 := QB BK138.out 13) | (go_at_call 36; (with_reducible refine (spec_l1In.calls a0_11 0 (wrap64 (a0_0 - 1)) _ _ A11.out).mono ?_); rintro e w' ⟨rfl,⟨nd,rfl⟩⟩) | (go_at_call 36; (with_reducible refine (spec_l1In.calls a0_12 0 a0_7 _ _ A13.out).mono ?_); rintro e w' ⟨rfl,⟨nd,rfl⟩⟩) | (go_at_call 36; (with_reducible refine (spec_l1In.calls a0_13 0 a0_12 t142 _ A15.out).mono ?_); rintro e w' ⟨rfl,⟨nd,rfl⟩⟩))
     go_meet
     case rel => exact ⟨_,_,(by first | rfl | (simp; done) | (simp [*]; done)),H',⟨by first | omega | exact Nat.le_refl _⟩,⟨by (with_reducible repeat (first | refine blk_drewN ?_ _ | refine blk_drew ?_ | refine blk_alloc ?_ _)); exact BK138.out⟩,⟨by repeat (first | (with_reducible first | exact HB.out | apply QF | apply QD | apply QE | refine QI ?_ GE138.out) | exact HB.out)⟩⟩
   ·rw [if_neg c6] at H
    have c6b0 : ((l0_8.length : Int) == a0_0) = false := beq_eq_false_iff_ne.mpr c6
    have c6b1 : ((l0_8.length : Int) != a0_0) = true := bne_iff_ne.mpr c6
    (first | rw [c6b0] | (simp only [i64_w,i32_w]; rw [c6b0]) | skip)
    have H' := QM H
    clear H
    have hcz25_0 : w3.cell? ⟨gb138,0,none⟩ = some (.int .i64 a0_0) := (QC BK138.out 0).trans rfl
    have hcz25_1 : w3.cell? ⟨gb138,1,none⟩ = some (.int .i64 a0_1) := (QC BK138.out 1).trans rfl
    have hcz25_2 : w3.cell? ⟨gb138,2,none⟩ = some (.bool a0_2) := (QC BK138.out 2).trans rfl
    have hcz25_3 : w3.cell? ⟨gb138,3,none⟩ = some (.bool a0_3) := (QC BK138.out 3).trans rfl
    have hcz25_4 : w3.cell? ⟨gb138,4,none⟩ = some (.slice A0_4 l0_4.length c0_4) := (QC BK138.out 4).trans rfl
    have hcz25_5 : w3.cell? ⟨gb138,5,none⟩ = some (.slice A0_5 l0_5.length c0_5) := (QC BK138.out 5).trans rfl
    have hcz25_6 : w3.cell? ⟨gb138,6,none⟩ = some (.int .i64 a0_6) := (QC BK138.out 6).trans rfl
    have hcz25_7 : w3.cell? ⟨gb138,7,none⟩ = some (.int .i64 a0_7) := (QC BK138.out 7).trans rfl
    have hcz25_8 : w3.cell? ⟨gb138,8,none⟩ = some (.slice A0_8 l0_8.length c0_8) := (QC BK138.out 8).trans rfl
    have hcz25_9 : w3.cell? ⟨gb138,9,none⟩ = some (.slice A0_9 l0_9.length c0_9) := (QC BK138.out 9).trans rfl
    have hcz25_10 : w3.cell? ⟨gb138,10,none⟩ = some (.slice A0_10 l0_10.length c0_10) := (QC BK138.out 10).trans rfl
    have hcz25_11 : w3.cell? ⟨gb138,11,none⟩ = some (.int .i64 a0_11) := (QC BK138.out 11).trans rfl
    have hcz25_12 : w3.cell? ⟨gb138,12,none⟩ = some (.int .i64 a0_12) := (QC BK138.out 12).trans rfl
    have hcz25_13 : w3.cell? ⟨gb138,13,none⟩ = some (.int .i64 a0_13) := (QC BK138.out 13).trans rfl
    have hfz25_0 := QB BK138.out 0
    have hfz25_1 := QB BK138.out 1
    have hfz25_2 := QB BK138.out 2
    have hfz25_3 := QB BK138.out 3
    have hfz25_4 := QB BK138.out 4
    have hfz25_5 := QB BK138.out 5
    have hfz25_6 := QB BK138.out 6
    have hfz25_7 := QB BK138.out 7
    have hfz25_8 := QB BK138.out 8
    have hfz25_9 := QB BK138.out 9
    have hfz25_10 := QB BK138.out 10
    have hfz25_11 := QB BK138.out 11
    have hfz25_12 := QB BK138.out 12
    have hfz25_13 := QB BK138.out 13
    go_wp2_with (first | ((with_reducible refine QL (f := 35) rfl ?_); refine goesL_ (some 7) rfl rfl Try.func35 (by kernel_rfl) rfl #[.agg #[.int .i64 a0_0,.int .i64 a0_1,.bool a0_2,.bool a0_3,.slice A0_4 l0_4.length c0_4,.slice A0_5 l0_5.length c0_5,.int .i64 a0_6,.int .i64 a0_7]] rfl (by (try simp only [List.map_toArray,List.map_cons,List.map_nil]); first | done | rfl | (simp only [List.length_drop,List.length_take]; rfl)) ?_; (with_reducible refine (spec_IsRules.calls k a0_0 a0_1 a0_2 a0_3 _ _ l0_4 _ _ l0_5 a0_6 a0_7 true _ ?side1 ?side2 ?side3 ?side4 A4.out).mono ?_); (case side1 => repeat (first | exact (QK HR0_4.out HB.out) | (with_reducible refine QG ?_ _) | (with_reducible refine QH ?_ _) | (with_reducible refine QJ ?_))); (case side2 => exact HC0_4.out); (case side3 => repeat (first | exact (QK HR0_5.out HB.out) | (with_reducible refine QG ?_ _) | (with_reducible refine QH ?_ _) | (with_reducible refine QJ ?_))); (case side4 => exact HC0_5.out); rintro e w26 ⟨rfl,hb⟩; refine ⟨_,rfl,?_⟩; have n0_ := QM (blk_below (g := gb138) (o := .cells #[.int .i64 a0_0,.int .i64 a0_1,.bool a0_2,.bool a0_3,.slice A0_4 l0_4.length c0_4,.slice A0_5 l0_5.length c0_5,.int .i64 a0_6,.int .i64 a0_7,.slice A0_8 l0_8.length c0_8,.slice A0_9 l0_9.length c0_9,.slice A0_10 l0_10.length c0_10,.int .i64 a0_11,.int .i64 a0_12,.int .i64 a0_13] 32 (0,0)) (by (with_reducible repeat (first | refine blk_drewN ?_ _ | refine blk_drew ?_ | refine blk_alloc ?_ _)); exact BK138.out) hb); have n1_ := QM (below_step (by repeat (first | (with_reducible first | exact HB.out | apply QF | apply QD | apply QE | refine QI ?_ GE138.out) | exact HB.out)) hb); clear BK138; clear HB; revert n0_ n1_; intro BK138 HB; (try clear hb); (try clear hb2); (try clear hk); (try clear hi); have hcz27_0 : w26.cell? ⟨gb138,0,none⟩ = some (.int .i64 a0_0) := (QC BK138.out 0).trans rfl; have hcz27_1 : w26.cell? ⟨gb138,1,none⟩ = some (.int .i64 a0_1) := (QC BK138.out 1).trans rfl; have hcz27_2 : w26.cell? ⟨gb138,2,none⟩ = some (.bool a0_2) := (QC BK138.out 2).trans rfl; have hcz27_3 : w26.cell? ⟨gb138,3,none⟩ = some (.bool a0_3) := (QC BK138.out 3).trans rfl; have hcz27_4 : w26.cell? ⟨gb138,4,none⟩ = some (.slice A0_4 l0_4.length c0_4) := (QC BK138.out 4).trans rfl; have hcz27_5 : w26.cell? ⟨gb138,5,none⟩ = some (.slice A0_5 l0_5.length c0_5) := (QC BK138.out 5).trans rfl; have hcz27_6 : w26.cell? ⟨gb138,6,none⟩ = some (.int .i64 a0_6) := (QC BK138.out 6).trans rfl; have hcz27_7 : w26.cell? ⟨gb138,7,none⟩ = some (.int .i64 a0_7) := (QC BK138.out 7).trans rfl; have hcz27_8 : w26.cell? ⟨gb138,8,none⟩ = some (.slice A0_8 l0_8.length c0_8) := (QC BK138.out 8).trans rfl; have hcz27_9 : w26.cell? ⟨gb138,9,none⟩ = some (.slice A0_9 l0_9.length c0_9) := (QC BK138.out 9).trans rfl; have hcz27_10 : w26.cell? ⟨gb138,10,none⟩ = some (.slice A0_10 l0_10.length c0_10) := (QC BK138.out 10).trans rfl; have hcz27_11 : w26.cell? ⟨gb138,11,none⟩ = some (.int .i64 a0_11) := (QC BK138.out 11).trans rfl; have hcz27_12 : w26.cell? ⟨gb138,12,none⟩ = some (.int .i64 a0_12) := (QC BK138.out 12).trans rfl; have hcz27_13 : w26.cell? ⟨gb138,13,none⟩ = some (.int .i64 a0_13) := (QC BK138.out 13).trans rfl; have hfz27_0 := QB BK138.out 0; have hfz27_1 := QB BK138.out 1; have hfz27_2 := QB BK138.out 2; have hfz27_3 := QB BK138.out 3; have hfz27_4 := QB BK138.out 4; have hfz27_5 := QB BK138.out 5; have hfz27_6 := QB BK138.out 6; have hfz27_7 := QB BK138.out 7; have hfz27_8 := QB BK138.out 8; have hfz27_9 := QB BK138.out 9; have hfz27_10 := QB BK138.out 10; have hfz27_11 := QB BK138.out 11; have hfz27_12 := QB BK138.out 12; have hfz27_13 := QB BK138.out 13))
    go_meet
    case rel => exact ⟨_,(true),(by first | rfl | (simp; done) | (simp [*]; done)),H',⟨by first | omega | exact Nat.le_refl _⟩,⟨by (with_reducible repeat (first | refine blk_drewN ?_ _ | refine blk_drew ?_ | refine blk_alloc ?_ _)); exact BK138.out⟩,⟨by repeat (first | (with_reducible first | exact HB.out | apply QF | apply QD | apply QE | refine QI ?_ GE138.out) | exact HB.out)⟩⟩
  ·replace c5 := Bool.eq_false_iff.mpr c5
   subst c5
   rw [if_neg (show ¬ (false = true) by decide)] at H
   have H' := QM H
   clear H
   have hcz28_0 : w3.cell? ⟨gb138,0,none⟩ = some (.int .i64 a0_0) := (QC BK138.out 0).trans rfl
   have hcz28_1 : w3.cell? ⟨gb138,1,none⟩ = some (.int .i64 a0_1) := (QC BK138.out 1).trans rfl
   have hcz28_2 : w3.cell? ⟨gb138,2,none⟩ = some (.bool a0_2) := (QC BK138.out 2).trans rfl
   have hcz28_3 : w3.cell? ⟨gb138,3,none⟩ = some (.bool a0_3) := (QC BK138.out 3).trans rfl
   have hcz28_4 : w3.cell? ⟨gb138,4,none⟩ = some (.slice A0_4 l0_4.length c0_4) := (QC BK138.out 4).trans rfl
   have hcz28_5 : w3.cell? ⟨gb138,5,none⟩ = some (.slice A0_5 l0_5.length c0_5) := (QC BK138.out 5).trans rfl
   have hcz28_6 : w3.cell? ⟨gb138,6,none⟩ = some (.int .i64 a0_6) := (QC BK138.out 6).trans rfl
   have hcz28_7 : w3.cell? ⟨gb138,7,none⟩ = some (.int .i64 a0_7) := (QC BK138.out 7).trans rfl
   have hcz28_8 : w3.cell? ⟨gb138,8,none⟩ = some (.slice A0_8 l0_8.length c0_8) := (QC BK138.out 8).trans rfl
   have hcz28_9 : w3.cell? ⟨gb138,9,none⟩ = some (.slice A0_9 l0_9.length c0_9) := (QC BK138.out 9).trans rfl
   have hcz28_10 : w3.cell? ⟨gb138,10,none⟩ = some (.slice A0_10 l0_10.length c0_10) := (QC BK138.out 10).trans rfl
   have hcz28_11 : w3.cell? ⟨gb138,11,none⟩ = some (.int .i64 a0_11) := (QC BK138.out 11).trans rfl
   have hcz28_12 : w3.cell? ⟨gb138,12,none⟩ = some (.int .i64 a0_12) := (QC BK138.out 12).trans rfl
   have hcz28_13 : w3.cell? ⟨gb138,13,none⟩ = some (.int .i64 a0_13) := (QC BK138.out 13).trans rfl
   have hfz28_0 := QB BK138.out 0
   have hfz28_1 := QB BK138.out 1
   have hfz28_2 := QB BK138.out 2
   have hfz28_3 := QB BK138.out 3
   have hfz28_4 := QB BK138.out 4
   have hfz28_5 := QB BK138.out 5
   have hfz28_6 := QB BK138.out 6
   have hfz28_7 := QB BK138.out 7
   have hfz28_8 := QB BK138.out 8
   have hfz28_9 := QB BK138.out 9
   have hfz28_10 := QB BK138.out 10
   have hfz28_11 := QB BK138.out 11
   have hfz28_12 := QB BK138.out 12
   have hfz28_13 := QB BK138.out 13
   go_wp2_with (first | ((with_reducible refine QL (f := 35) rfl ?_); refine goesL_ (some 7) rfl rfl Try.func35 (by kernel_rfl) rfl #[.agg #[.int .i64 a0_0,.int .i64 a0_1,.bool a0_2,.bool a0_3,.slice A0_4 l0_4.length c0_4,.slice A0_5 l0_5.length c0_5,.int .i64 a0_6,.int .i64 a0_7]] rfl (by (try simp only [List.map_toArray,List.map_cons,List.map_nil]); first | done | rfl | (simp only [List.length_drop,List.length_take]; rfl)) ?_; (with_reducible refine (spec_IsRules.calls k a0_0 a0_1 a0_2 a0_3 _ _ l0_4 _ _ l0_5 a0_6 a0_7 false _ ?side1 ?side2 ?side3 ?side4 A4.out).mono ?_); (case side1 => repeat (first | exact (QK HR0_4.out HB.out) | (with_reducible refine QG ?_ _) | (with_reducible refine QH ?_ _) | (with_reducible refine QJ ?_))); (case side2 => exact HC0_4.out); (case side3 => repeat (first | exact (QK HR0_5.out HB.out) | (with_reducible refine QG ?_ _) | (with_reducible refine QH ?_ _) | (with_reducible refine QJ ?_))); (case side4 => exact HC0_5.out); rintro e w29 ⟨rfl,hb⟩; refine ⟨_,rfl,?_⟩; have n0_ := QM (blk_below (g := gb138) (o := .cells #[.int .i64 a0_0,.int .i64 a0_1,.bool a0_2,.bool a0_3,.slice A0_4 l0_4.length c0_4,.slice A0_5 l0_5.length c0_5,.int .i64 a0_6,.int .i64 a0_7,.slice A0_8 l0_8.length c0_8,.slice A0_9 l0_9.length c0_9,.slice A0_10 l0_10.length c0_10,.int .i64 a0_11,.int .i64 a0_12,.int .i64 a0_13] 32 (0,0)) (by (with_reducible repeat (first | refine blk_drewN ?_ _ | refine blk_drew ?_ | refine blk_alloc ?_ _)); exact BK138.out) hb); have n1_ := QM (below_step (by repeat (first | (with_reducible first | exact HB.out | apply QF | apply QD | apply QE | refine QI ?_ GE138.out) | exact HB.out)) hb); clear BK138; clear HB; revert n0_ n1_; intro BK138 HB; (try clear hb); (try clear hb2); (try clear hk); (try clear hi)))
   go_meet
   case rel => exact ⟨_,(true),(by first | rfl | (simp; done) | (simp [*]; done)),H',⟨by first | omega | exact Nat.le_refl _⟩,⟨by (with_reducible repeat (first | refine blk_drewN ?_ _ | refine blk_drew ?_ | refine blk_alloc ?_ _)); exact BK138.out⟩,⟨by repeat (first | (with_reducible first | exact HB.out | apply QF | apply QD | apply QE | refine QI ?_ GE138.out) | exact HB.out)⟩⟩
 case rest =>
  clear HC2
  try clear c1
  try clear c2
  try clear p2
  try clear c3
  try clear c5
  try clear c6
  try clear c6b0
  try clear c6b1
  try clear p6
  try clear c7
  try clear c7b0
  try clear c7b1
  try clear c7b2
  try clear c12
  try clear c14
  try clear c25
  try clear hcz10_0 hcz10_1 hcz10_10 hcz10_11 hcz10_12 hcz10_13 hcz10_2 hcz10_3 hcz10_4 hcz10_5 hcz10_6 hcz10_7 hcz10_8 hcz10_9
  try clear hcz16_0 hcz16_1 hcz16_10 hcz16_11 hcz16_12 hcz16_13 hcz16_2 hcz16_3 hcz16_4 hcz16_5 hcz16_6 hcz16_7 hcz16_8 hcz16_9
  try clear hcz18_0 hcz18_1 hcz18_10 hcz18_11 hcz18_12 hcz18_13 hcz18_2 hcz18_3 hcz18_4 hcz18_5 hcz18_6 hcz18_7 hcz18_8 hcz18_9
  try clear hcz19_0 hcz19_1 hcz19_10 hcz19_11 hcz19_12 hcz19_13 hcz19_2 hcz19_3 hcz19_4 hcz19_5 hcz19_6 hcz19_7 hcz19_8 hcz19_9
  try clear hcz21_0 hcz21_1 hcz21_10 hcz21_11 hcz21_12 hcz21_13 hcz21_2 hcz21_3 hcz21_4 hcz21_5 hcz21_6 hcz21_7 hcz21_8 hcz21_9
  try clear hcz22_0 hcz22_1 hcz22_10 hcz22_11 hcz22_12 hcz22_13 hcz22_2 hcz22_3 hcz22_4 hcz22_5 hcz22_6 hcz22_7 hcz22_8 hcz22_9
  try clear hcz24_0 hcz24_1 hcz24_10 hcz24_11 hcz24_12 hcz24_13 hcz24_2 hcz24_3 hcz24_4 hcz24_5 hcz24_6 hcz24_7 hcz24_8 hcz24_9
  try clear hcz25_0 hcz25_1 hcz25_10 hcz25_11 hcz25_12 hcz25_13 hcz25_2 hcz25_3 hcz25_4 hcz25_5 hcz25_6 hcz25_7 hcz25_8 hcz25_9
  try clear hcz27_0 hcz27_1 hcz27_10 hcz27_11 hcz27_12 hcz27_13 hcz27_2 hcz27_3 hcz27_4 hcz27_5 hcz27_6 hcz27_7 hcz27_8 hcz27_9
  try clear hcz28_0 hcz28_1 hcz28_10 hcz28_11 hcz28_12 hcz28_13 hcz28_2 hcz28_3 hcz28_4 hcz28_5 hcz28_6 hcz28_7 hcz28_8 hcz28_9
  try clear hcz8_0 hcz8_1 hcz8_10 hcz8_11 hcz8_12 hcz8_13 hcz8_2 hcz8_3 hcz8_4 hcz8_5 hcz8_6 hcz8_7 hcz8_8 hcz8_9
  try clear hfz10_0 hfz10_1 hfz10_10 hfz10_11 hfz10_12 hfz10_13 hfz10_2 hfz10_3 hfz10_4 hfz10_5 hfz10_6 hfz10_7 hfz10_8 hfz10_9
  try clear hfz16_0 hfz16_1 hfz16_10 hfz16_11 hfz16_12 hfz16_13 hfz16_2 hfz16_3 hfz16_4 hfz16_5 hfz16_6 hfz16_7 hfz16_8 hfz16_9
  try clear hfz18_0 hfz18_1 hfz18_10 hfz18_11 hfz18_12 hfz18_13 hfz18_2 hfz18_3 hfz18_4 hfz18_5 hfz18_6 hfz18_7 hfz18_8 hfz18_9
  try clear hfz19_0 hfz19_1 hfz19_10 hfz19_11 hfz19_12 hfz19_13 hfz19_2 hfz19_3 hfz19_4 hfz19_5 hfz19_6 hfz19_7 hfz19_8 hfz19_9
  try clear hfz21_0 hfz21_1 hfz21_10 hfz21_11 hfz21_12 hfz21_13 hfz21_2 hfz21_3 hfz21_4 hfz21_5 hfz21_6 hfz21_7 hfz21_8 hfz21_9
  try clear hfz22_0 hfz22_1 hfz22_10 hfz22_11 hfz22_12 hfz22_13 hfz22_2 hfz22_3 hfz22_4 hfz22_5 hfz22_6 hfz22_7 hfz22_8 hfz22_9
  try clear hfz24_0 hfz24_1 hfz24_10 hfz24_11 hfz24_12 hfz24_13 hfz24_2 hfz24_3 hfz24_4 hfz24_5 hfz24_6 hfz24_7 hfz24_8 hfz24_9
  try clear hfz25_0 hfz25_1 hfz25_10 hfz25_11 hfz25_12 hfz25_13 hfz25_2 hfz25_3 hfz25_4 hfz25_5 hfz25_6 hfz25_7 hfz25_8 hfz25_9
  try clear hfz27_0 hfz27_1 hfz27_10 hfz27_11 hfz27_12 hfz27_13 hfz27_2 hfz27_3 hfz27_4 hfz27_5 hfz27_6 hfz27_7 hfz27_8 hfz27_9
  try clear hfz28_0 hfz28_1 hfz28_10 hfz28_11 hfz28_12 hfz28_13 hfz28_2 hfz28_3 hfz28_4 hfz28_5 hfz28_6 hfz28_7 hfz28_8 hfz28_9
  try clear hfz8_0 hfz8_1 hfz8_10 hfz8_11 hfz8_12 hfz8_13 hfz8_2 hfz8_3 hfz8_4 hfz8_5 hfz8_6 hfz8_7 hfz8_8 hfz8_9
  obtain ⟨kq,x50_1,rfl,HA,HJ1,BK138,HB⟩ := hcut
  cases kq with
  | zero => exact absurd HA.out (by simp [spec_IsGame.j0])
  | succ kj1 =>
   have H := HA.out
   clear HA
   simp only [spec_IsGame.j0] at H
   by_cases c30 : x50_1 = true
   ·subst c30
    rw [if_pos rfl] at H
    obtain rfl := Option.some.inj H
    go_wp2
    go_ret
    exact ⟨by first | rfl | (simp [errW_none,errW_some] <;> rfl) | (simp [*,errW_none,errW_some] <;> rfl),by repeat (first | (with_reducible first | exact HB.out | apply QF | apply QD | apply QE | refine QI ?_ GE138.out) | exact HB.out)⟩
   ·replace c30 := Bool.eq_false_iff.mpr c30
    subst c30
    rw [if_neg (show ¬ (false = true) by decide)] at H
    obtain ⟨y143,hy143⟩ : ∃ y_ : List Int,y_ = (([] : List Int)) := ⟨_,rfl⟩
    replace H : (if y143.length + l0_9.length < 17592186044416 then ((some (y143 ++ l0_9 : List Int)).bind fun y146 => (if y146.length + l0_10.length < 17592186044416 then (spec_IsGame.l0 kj1 (y146 ++ l0_10) 0 a0_0 a0_1 a0_2 a0_3 l0_4 l0_5 a0_6 a0_7 l0_8 l0_9 l0_10 a0_11 a0_12 a0_13) else (none))) else (none)) = some r := by first | (rw [hy143]; with_reducible exact H) | (have H2_ := (Option.bind_some _ _).symm.trans H; rw [hy143]; with_reducible exact H2_) | (have H2_ := (Option.bind_some _ _).symm.trans H; with_reducible exact H2_) | with_reducible exact H | (rw [hy143]; exact H) | exact H
    have Ny143 := QM hy143
    clear hy143
    by_cases c31 : y143.length + l0_9.length < 17592186044416
    ·rw [if_pos c31] at H
     have LMc31 := QM c31
     clear c31
     obtain ⟨y146,hy146⟩ : ∃ y_ : List Int,y_ = (y143 ++ l0_9) := ⟨_,rfl⟩
     replace H : (if y146.length + l0_10.length < 17592186044416 then (spec_IsGame.l0 kj1 (y146 ++ l0_10) 0 a0_0 a0_1 a0_2 a0_3 l0_4 l0_5 a0_6 a0_7 l0_8 l0_9 l0_10 a0_11 a0_12 a0_13) else (none)) = some r := by first | (rw [hy146]; with_reducible exact H) | (have H2_ := (Option.bind_some _ _).symm.trans H; rw [hy146]; with_reducible exact H2_) | (have H2_ := (Option.bind_some _ _).symm.trans H; with_reducible exact H2_) | with_reducible exact H | (rw [hy146]; exact H) | exact H
     have Ny146 := QM hy146
     clear hy146
     by_cases c32 : y146.length + l0_10.length < 17592186044416
     ·rw [if_pos c32] at H
      have LMc32 := QM c32
      clear c32
      obtain ⟨y149,hy149⟩ : ∃ y_ : List Int,y_ = (y146 ++ l0_10) := ⟨_,rfl⟩
      replace H : (spec_IsGame.l0 kj1 y149 0 a0_0 a0_1 a0_2 a0_3 l0_4 l0_5 a0_6 a0_7 l0_8 l0_9 l0_10 a0_11 a0_12 a0_13) = some r := by first | (rw [hy149]; with_reducible exact H) | (have H2_ := (Option.bind_some _ _).symm.trans H; rw [hy149]; with_reducible exact H2_) | (have H2_ := (Option.bind_some _ _).symm.trans H; with_reducible exact H2_) | with_reducible exact H | (rw [hy149]; exact H) | exact H
      have Ny149 := QM hy149
      clear hy149
      have H' := QM H
      clear H
      try go_wp2
      have n0_ := QM (blk_drew BK138.out)
      have n1_ := QM (QE HB.out)
      clear BK138
      clear HB
      revert n0_ n1_
      intro BK138 HB
      refine start_ (n := 8) (S := fun w' => w'.cell? ⟨gb138,0,none⟩ = some (.int .i64 a0_0) ∧ w'.cell? ⟨gb138,1,none⟩ = some (.int .i64 a0_1) ∧ w'.cell? ⟨gb138,2,none⟩ = some (.bool a0_2) ∧ w'.cell? ⟨gb138,3,none⟩ = some (.bool a0_3) ∧ w'.cell? ⟨gb138,4,none⟩ = some (.slice A0_4 l0_4.length c0_4) ∧ w'.cell? ⟨gb138,5,none⟩ = some (.slice A0_5 l0_5.length c0_5) ∧ w'.cell? ⟨gb138,6,none⟩ = some (.int .i64 a0_6) ∧ w'.cell? ⟨gb138,7,none⟩ = some (.int .i64 a0_7) ∧ w'.cell? ⟨gb138,8,none⟩ = some (.slice A0_8 l0_8.length c0_8) ∧ w'.cell? ⟨gb138,9,none⟩ = some (.slice A0_9 l0_9.length c0_9) ∧ w'.cell? ⟨gb138,10,none⟩ = some (.slice A0_10 l0_10.length c0_10) ∧ w'.cell? ⟨gb138,11,none⟩ = some (.int .i64 a0_11) ∧ w'.cell? ⟨gb138,12,none⟩ = some (.int .i64 a0_12) ∧ w'.cell? ⟨gb138,13,none⟩ = some (.int .i64 a0_13)) (ds := []) #[false,false,false,false,false,false,false,false] (by kernel_rfl) rfl rfl ⟨(QC BK138.out 0).trans rfl,(QC BK138.out 1).trans rfl,(QC BK138.out 2).trans rfl,(QC BK138.out 3).trans rfl,(QC BK138.out 4).trans rfl,(QC BK138.out 5).trans rfl,(QC BK138.out 6).trans rfl,(QC BK138.out 7).trans rfl,(QC BK138.out 8).trans rfl,(QC BK138.out 9).trans rfl,(QC BK138.out 10).trans rfl,(QC BK138.out 11).trans rfl,(QC BK138.out 12).trans rfl,(QC BK138.out 13).trans rfl⟩ (fun hHeld => ?_); refine with_tabW spec_IsGame.tab3 spec_IsGame.bits3 (fun HT_ HW_ => ?_)
      generalize wc.drew = w33 at BK138 HB hHeld ⊢
      refine pure_ (i := 1) (N := some 52) (v := ?_) (a' := ?_) #[false,true,false,false,false,false,false,false] rfl rfl (any_of HT_.out (by kernel_rfl)) (fun _ _ _ h => h) (Or.inl ⟨by rfl,?_⟩) ?_ ?_
      rotate_left
      ·intro w'
       go_simp
       with_reducible rfl
      rotate_left
      ·simp only [Act.put,List.setIfInBounds_toArray,List.set_cons_zero,List.set_cons_succ,i64_w,i32_w]
       rfl
      refine pure_ (i := 4) (N := some 55) (v := ?_) (a' := ?_) #[false,true,false,false,true,false,false,false] rfl rfl (any_of HT_.out (by kernel_rfl)) (fun _ _ _ h => h) (Or.inl ⟨by rfl,?_⟩) ?_ ?_
      rotate_left
      ·intro w'
       go_simp
       with_reducible rfl
      rotate_left
      ·simp only [Act.put,List.setIfInBounds_toArray,List.set_cons_zero,List.set_cons_succ,i64_w,i32_w]
       rfl
      refine take_ (i := 2) (N := some 53) (v := ?_) (a' := ?_) #[false,true,true,false,true,false,false,false] rfl rfl (take_ofW HT_.out HW_.out (by kernel_rfl)) (fun _ _ _ h => h) (Or.inl ⟨by rfl,?_⟩) hHeld ?_ ?_
      rotate_left
      ·rintro w' ⟨s0,s1,s2,s3,s4,s5,s6,s7,s8,s9,s10,s11,s12,s13⟩
       go_simp
       with_reducible rfl
      rotate_left
      ·simp only [Act.put,List.setIfInBounds_toArray,List.set_cons_zero,List.set_cons_succ,i64_w,i32_w]
       rfl
      refine take_ (i := 5) (N := some 56) (v := ?_) (a' := ?_) #[false,true,true,false,true,true,false,false] rfl rfl (take_ofW HT_.out HW_.out (by kernel_rfl)) (fun _ _ _ h => h) (Or.inl ⟨by rfl,?_⟩) hHeld ?_ ?_
      rotate_left
      ·rintro w' ⟨s0,s1,s2,s3,s4,s5,s6,s7,s8,s9,s10,s11,s12,s13⟩
       go_simp
       with_reducible rfl
      rotate_left
      ·simp only [Act.put,List.setIfInBounds_toArray,List.set_cons_zero,List.set_cons_succ,i64_w,i32_w]
       rfl
      refine one_ (i := 0) (N := some 51) #[true,true,true,false,true,true,false,false] rfl rfl (one_of HT_.out (by kernel_rfl)) (by decide) (fun K hK => ?_)
      refine Kd.R_lit_step (Kd.int .i64) _ 3 ?hg (N := 51) ?hd (xs := ([] : List Int)) (inner := []) (ok := fun _ => True) (okp := fun _ => True) ?hr ?hp (fun _ hk => hk) trivial (Below.refl _ _) (Nat.le_refl _) (by simp) ?_; (case hd => rfl); (case hg => rfl); (case hr => first | (go_simp; done) | (go_simp; rfl)); (case hp => exact (Reps.none _ _))
      intro v144 w34 ho35 hb hg_ hnew_
      clear hg_ hnew_
      (first | rw [← Ny143.out] at ho35 | (simp only [Int.reduceToNat] at ho35; rw [← Ny143.out] at ho35))
      have n0_ := QM (Kd.R_lower ho35 (below_size (by repeat (first | (with_reducible first | exact HB.out | apply QF | apply QD | apply QE | refine QI ?_ GE138.out) | exact HB.out))))
      have n1_ := QM (blk_below (g := gb138) (o := .cells #[.int .i64 a0_0,.int .i64 a0_1,.bool a0_2,.bool a0_3,.slice A0_4 l0_4.length c0_4,.slice A0_5 l0_5.length c0_5,.int .i64 a0_6,.int .i64 a0_7,.slice A0_8 l0_8.length c0_8,.slice A0_9 l0_9.length c0_9,.slice A0_10 l0_10.length c0_10,.int .i64 a0_11,.int .i64 a0_12,.int .i64 a0_13] 32 (0,0)) (by (with_reducible repeat (first | refine blk_drewN ?_ _ | refine blk_drew ?_ | refine blk_alloc ?_ _)); exact BK138.out) hb)
      have n2_ := QM (below_step (by repeat (first | (with_reducible first | exact HB.out | apply QF | apply QD | apply QE | refine QI ?_ GE138.out) | exact HB.out)) hb)
      clear BK138
      clear HB
      revert n0_ n1_ n2_
      intro HO145 BK138 HB
      clear hb ho35
      refine hK.out _ _ (by (repeat' apply And.intro) <;> first | exact (QC BK138.out _).trans rfl) (fun hHeld => ?_)
      clear hK K
      refine norm_ (a' := ?_) ?_ ?_
      rotate_left
      ·show Act.put _ (some 51) _ = _
       simp only [Act.put,List.setIfInBounds_toArray,List.set_cons_zero,List.set_cons_succ,i64_w,i32_w]
       rfl
      refine one_ (i := 3) (N := some 54) #[true,true,true,true,true,true,false,false] rfl rfl (one_of HT_.out (by kernel_rfl)) (by decide) (fun K hK => ?_)
      refine Kd.R_append_rows_step (Kd.int .i64) (w0 := w) w.heap.size (by rfl) (.tmp 51) (.tmp 53) 22 3 (.int .i64 0) 8 rfl Try.underlying22 info3 rfl (by decide) (by omega) v144 y143 l0_9 _ _ _ (fun _ => True) (fun _ => False) rfl rfl ?aO ?aR (fun _ _ h => h) (fun _ h => h.elim) ?aF ?aB ?aS ?aL ?_
      (case aR => repeat (first | exact (QK HR0_9.out HB.out) | (with_reducible refine QG ?_ _) | (with_reducible refine QH ?_ _) | (with_reducible refine QJ ?_)))
      (case aB => exact (by repeat (first | (with_reducible first | exact HB.out | apply QF | apply QD | apply QE | refine QI ?_ GE138.out) | exact HB.out)))
      (case aF => exact (fun _ _ => trivial))
      (case aO => exact (by (with_reducible repeat (first | apply Kd.R_alloc | apply Kd.R_drewN | apply Kd.R_drew)); exact HO145.out))
      (case aS => exact (below_size (by repeat (first | (with_reducible first | exact HB.out | apply QF | apply QD | apply QE | refine QI ?_ GE138.out) | exact HB.out))))
      (case aL => have := LMc31.out; omega)
      intro v147 w36 ho hb hg hat
      rw [← Ny146.out] at ho
      have n0_ := QM (blk_grown (g := gb138) (o := .cells #[.int .i64 a0_0,.int .i64 a0_1,.bool a0_2,.bool a0_3,.slice A0_4 l0_4.length c0_4,.slice A0_5 l0_5.length c0_5,.int .i64 a0_6,.int .i64 a0_7,.slice A0_8 l0_8.length c0_8,.slice A0_9 l0_9.length c0_9,.slice A0_10 l0_10.length c0_10,.int .i64 a0_11,.int .i64 a0_12,.int .i64 a0_13] 32 (0,0)) (by (with_reducible repeat (first | refine blk_drewN ?_ _ | refine blk_drew ?_ | refine blk_alloc ?_ _)); exact BK138.out) hg (Kd.R_ne HO145.out BK138.out (by decide)))
      have n1_ := QM (hb)
      have n2_ := QM (ho)
      clear BK138
      clear HB
      clear HO145
      revert n0_ n1_ n2_
      intro BK138 HB HO148
      clear ho hb hg hat
      refine hK.out _ _ (by (repeat' apply And.intro) <;> first | exact (QC BK138.out _).trans rfl) (fun hHeld => ?_)
      clear hK K
      refine norm_ (a' := ?_) ?_ ?_
      rotate_left
      ·show Act.put _ (some 54) _ = _
       simp only [Act.put,List.setIfInBounds_toArray,List.set_cons_zero,List.set_cons_succ,i64_w,i32_w]
       rfl
      refine one_ (i := 6) (N := some 57) #[true,true,true,true,true,true,true,false] rfl rfl (one_of HT_.out (by kernel_rfl)) (by decide) (fun K hK => ?_)
      refine Kd.R_append_rows_step (Kd.int .i64) (w0 := w) w.heap.size (by rfl) (.tmp 54) (.tmp 56) 22 3 (.int .i64 0) 8 rfl Try.underlying22 info3 rfl (by decide) (by omega) v147 y146 l0_10 _ _ _ (fun _ => True) (fun _ => False) rfl rfl ?aO ?aR (fun _ _ h => h) (fun _ h => h.elim) ?aF ?aB ?aS ?aL ?_
      (case aR => repeat (first | exact (QK HR0_10.out HB.out) | (with_reducible refine QG ?_ _) | (with_reducible refine QH ?_ _) | (with_reducible refine QJ ?_)))
      (case aB => exact (by repeat (first | (with_reducible first | exact HB.out | apply QF | apply QD | apply QE | refine QI ?_ GE138.out) | exact HB.out)))
      (case aF => exact (fun _ _ => trivial))
      (case aO => exact (by (with_reducible repeat (first | apply Kd.R_alloc | apply Kd.R_drewN | apply Kd.R_drew)); exact HO148.out))
      (case aS => exact (below_size (by repeat (first | (with_reducible first | exact HB.out | apply QF | apply QD | apply QE | refine QI ?_ GE138.out) | exact HB.out))))
      (case aL => have := LMc32.out; omega)
      intro v150 w37 ho hb hg hat
      rw [← Ny149.out] at ho
      have n0_ := QM (blk_grown (g := gb138) (o := .cells #[.int .i64 a0_0,.int .i64 a0_1,.bool a0_2,.bool a0_3,.slice A0_4 l0_4.length c0_4,.slice A0_5 l0_5.length c0_5,.int .i64 a0_6,.int .i64 a0_7,.slice A0_8 l0_8.length c0_8,.slice A0_9 l0_9.length c0_9,.slice A0_10 l0_10.length c0_10,.int .i64 a0_11,.int .i64 a0_12,.int .i64 a0_13] 32 (0,0)) (by (with_reducible repeat (first | refine blk_drewN ?_ _ | refine blk_drew ?_ | refine blk_alloc ?_ _)); exact BK138.out) hg (Kd.R_ne HO148.out BK138.out (by decide)))
      have n1_ := QM (hb)
      have n2_ := QM (ho)
      clear BK138
      clear HB
      clear HO148
      revert n0_ n1_ n2_
      intro BK138 HB HO151
      clear ho hb hg hat
      refine hK.out _ _ (by (repeat' apply And.intro) <;> first | exact (QC BK138.out _).trans rfl) (fun hHeld => ?_)
      clear hK K
      refine norm_ (a' := ?_) ?_ ?_
      rotate_left
      ·show Act.put _ (some 57) _ = _
       simp only [Act.put,List.setIfInBounds_toArray,List.set_cons_zero,List.set_cons_succ,i64_w,i32_w]
       rfl
      refine pure_ (i := 7) (N := some 3) (v := ?_) (a' := ?_) #[true,true,true,true,true,true,true,true] rfl rfl (any_of HT_.out (by kernel_rfl)) (fun _ _ _ h => h) (Or.inl ⟨by rfl,?_⟩) ?_ ?_
      rotate_left
      ·intro w'
       go_simp
       with_reducible rfl
      rotate_left
      ·simp only [Act.put,List.setIfInBounds_toArray,List.set_cons_zero,List.set_cons_succ,i64_w,i32_w]
       rfl
      refine done_ (done_of HT_.out (by kernel_rfl)) ?_
      try go_wp2
      go_loopg [3,4] kj1 (fun kq v3 v4 w' => ∃ (x3_2 : List Int) (x4_2 : Int),v4 = .int .i64 x4_2 ∧ Aside0 (spec_IsGame.l0 kq x3_2 x4_2 a0_0 a0_1 a0_2 a0_3 l0_4 l0_5 a0_6 a0_7 l0_8 l0_9 l0_10 a0_11 a0_12 a0_13 = some r) ∧ Aside0 (kq ≤ kj1) ∧ Aside0 (Kd.R (Kd.int .i64) 3 w' w.heap.size (fun _ => True) v3 x3_2) ∧ Aside0 (w'.heap[gb138]? = some (.cells #[.int .i64 a0_0,.int .i64 a0_1,.bool a0_2,.bool a0_3,(.slice A0_4 l0_4.length c0_4),(.slice A0_5 l0_5.length c0_5),.int .i64 a0_6,.int .i64 a0_7,(.slice A0_8 l0_8.length c0_8),(.slice A0_9 l0_9.length c0_9),(.slice A0_10 l0_10.length c0_10),.int .i64 a0_11,.int .i64 a0_12,.int .i64 a0_13] 32 (0,0))) ∧ Aside0 (Below w.heap.size w w'))
      case atStart => exact ⟨(y149),(0),(by first | rfl | (simp; done) | (simp [*]; done)),H',⟨Nat.le_refl _⟩,⟨by (with_reducible repeat (first | apply Kd.R_alloc | apply Kd.R_drewN | apply Kd.R_drew)); exact HO151.out⟩,⟨by (with_reducible repeat (first | refine blk_drewN ?_ _ | refine blk_drew ?_ | refine blk_alloc ?_ _)); exact BK138.out⟩,⟨by repeat (first | (with_reducible first | exact HB.out | apply QF | apply QD | apply QE | refine QI ?_ GE138.out) | exact HB.out)⟩⟩
      case round =>
       clear H'
       try clear c1
       try clear c2
       try clear p2
       try clear c3
       try clear c5
       try clear c6
       try clear c6b0
       try clear c6b1
       try clear p6
       try clear c7
       try clear c7b0
       try clear c7b1
       try clear c7b2
       try clear c12
       try clear c14
       try clear c25
       try clear c30
       try clear c31
       try clear c32
       try clear c35
       try clear hcz10_0 hcz10_1 hcz10_10 hcz10_11 hcz10_12 hcz10_13 hcz10_2 hcz10_3 hcz10_4 hcz10_5 hcz10_6 hcz10_7 hcz10_8 hcz10_9
       try clear hcz16_0 hcz16_1 hcz16_10 hcz16_11 hcz16_12 hcz16_13 hcz16_2 hcz16_3 hcz16_4 hcz16_5 hcz16_6 hcz16_7 hcz16_8 hcz16_9
       try clear hcz18_0 hcz18_1 hcz18_10 hcz18_11 hcz18_12 hcz18_13 hcz18_2 hcz18_3 hcz18_4 hcz18_5 hcz18_6 hcz18_7 hcz18_8 hcz18_9
       try clear hcz19_0 hcz19_1 hcz19_10 hcz19_11 hcz19_12 hcz19_13 hcz19_2 hcz19_3 hcz19_4 hcz19_5 hcz19_6 hcz19_7 hcz19_8 hcz19_9
       try clear hcz21_0 hcz21_1 hcz21_10 hcz21_11 hcz21_12 hcz21_13 hcz21_2 hcz21_3 hcz21_4 hcz21_5 hcz21_6 hcz21_7 hcz21_8 hcz21_9
       try clear hcz22_0 hcz22_1 hcz22_10 hcz22_11 hcz22_12 hcz22_13 hcz22_2 hcz22_3 hcz22_4 hcz22_5 hcz22_6 hcz22_7 hcz22_8 hcz22_9
       try clear hcz24_0 hcz24_1 hcz24_10 hcz24_11 hcz24_12 hcz24_13 hcz24_2 hcz24_3 hcz24_4 hcz24_5 hcz24_6 hcz24_7 hcz24_8 hcz24_9
       try clear hcz25_0 hcz25_1 hcz25_10 hcz25_11 hcz25_12 hcz25_13 hcz25_2 hcz25_3 hcz25_4 hcz25_5 hcz25_6 hcz25_7 hcz25_8 hcz25_9
       try clear hcz27_0 hcz27_1 hcz27_10 hcz27_11 hcz27_12 hcz27_13 hcz27_2 hcz27_3 hcz27_4 hcz27_5 hcz27_6 hcz27_7 hcz27_8 hcz27_9
       try clear hcz28_0 hcz28_1 hcz28_10 hcz28_11 hcz28_12 hcz28_13 hcz28_2 hcz28_3 hcz28_4 hcz28_5 hcz28_6 hcz28_7 hcz28_8 hcz28_9
       try clear hcz8_0 hcz8_1 hcz8_10 hcz8_11 hcz8_12 hcz8_13 hcz8_2 hcz8_3 hcz8_4 hcz8_5 hcz8_6 hcz8_7 hcz8_8 hcz8_9
       try clear hfz10_0 hfz10_1 hfz10_10 hfz10_11 hfz10_12 hfz10_13 hfz10_2 hfz10_3 hfz10_4 hfz10_5 hfz10_6 hfz10_7 hfz10_8 hfz10_9
       try clear hfz16_0 hfz16_1 hfz16_10 hfz16_11 hfz16_12 hfz16_13 hfz16_2 hfz16_3 hfz16_4 hfz16_5 hfz16_6 hfz16_7 hfz16_8 hfz16_9
       try clear hfz18_0 hfz18_1 hfz18_10 hfz18_11 hfz18_12 hfz18_13 hfz18_2 hfz18_3 hfz18_4 hfz18_5 hfz18_6 hfz18_7 hfz18_8 hfz18_9
       try clear hfz19_0 hfz19_1 hfz19_10 hfz19_11 hfz19_12 hfz19_13 hfz19_2 hfz19_3 hfz19_4 hfz19_5 hfz19_6 hfz19_7 hfz19_8 hfz19_9
       try clear hfz21_0 hfz21_1 hfz21_10 hfz21_11 hfz21_12 hfz21_13 hfz21_2 hfz21_3 hfz21_4 hfz21_5 hfz21_6 hfz21_7 hfz21_8 hfz21_9
       try clear hfz22_0 hfz22_1 hfz22_10 hfz22_11 hfz22_12 hfz22_13 hfz22_2 hfz22_3 hfz22_4 hfz22_5 hfz22_6 hfz22_7 hfz22_8 hfz22_9
       try clear hfz24_0 hfz24_1 hfz24_10 hfz24_11 hfz24_12 hfz24_13 hfz24_2 hfz24_3 hfz24_4 hfz24_5 hfz24_6 hfz24_7 hfz24_8 hfz24_9
       try clear hfz25_0 hfz25_1 hfz25_10 hfz25_11 hfz25_12 hfz25_13 hfz25_2 hfz25_3 hfz25_4 hfz25_5 hfz25_6 hfz25_7 hfz25_8 hfz25_9
       try clear hfz27_0 hfz27_1 hfz27_10 hfz27_11 hfz27_12 hfz27_13 hfz27_2 hfz27_3 hfz27_4 hfz27_5 hfz27_6 hfz27_7 hfz27_8 hfz27_9
       try clear hfz28_0 hfz28_1 hfz28_10 hfz28_11 hfz28_12 hfz28_13 hfz28_2 hfz28_3 hfz28_4 hfz28_5 hfz28_6 hfz28_7 hfz28_8 hfz28_9
       try clear hfz8_0 hfz8_1 hfz8_10 hfz8_11 hfz8_12 hfz8_13 hfz8_2 hfz8_3 hfz8_4 hfz8_5 hfz8_6 hfz8_7 hfz8_8 hfz8_9
       try clear p2
       try clear p6
       obtain ⟨x3_2,x4_2,rfl,HA,HK2,HO_3,BK138,HB⟩ := hrel
       cases gk with
       | zero => exact absurd HA.out (by simp [spec_IsGame.l0])
       | succ k2 =>
        have H := HA.out
        clear HA
        simp only [spec_IsGame.l0] at H
        by_cases c38 : x4_2 < (l0_8.length : Int)
        ·rw [if_pos c38] at H
         have c38b0 : decide (x4_2 < (l0_8.length : Int)) = true := decide_eq_true c38
         clear c38
         by_cases c39 : 0 ≤ x4_2
         ·rw [if_pos c39] at H
          have c39b0 : decide (0 ≤ x4_2) = true := decide_eq_true c39
          clear c39
          by_cases c40 : x3_2.length + (rd_L1 l0_8 x4_2).length < 17592186044416
          ·rw [if_pos c40] at H
           have LMc40 := QM c40
           clear c40
           obtain ⟨y153,hy153⟩ : ∃ y_ : List Int,y_ = (x3_2 ++ (rd_L1 l0_8 x4_2)) := ⟨_,rfl⟩
           replace H : (spec_IsGame.l0 k2 y153 (wrap64 (x4_2 + 1)) a0_0 a0_1 a0_2 a0_3 l0_4 l0_5 a0_6 a0_7 l0_8 l0_9 l0_10 a0_11 a0_12 a0_13) = some r := by first | (rw [hy153]; with_reducible exact H) | (have H2_ := (Option.bind_some _ _).symm.trans H; rw [hy153]; with_reducible exact H2_) | (have H2_ := (Option.bind_some _ _).symm.trans H; with_reducible exact H2_) | with_reducible exact H | (rw [hy153]; exact H) | exact H
           have Ny153 := QM hy153
           clear hy153
           have H' := QM H
           clear H
           have hcz41_0 : wr.cell? ⟨gb138,0,none⟩ = some (.int .i64 a0_0) := (QC BK138.out 0).trans rfl
           have hcz41_1 : wr.cell? ⟨gb138,1,none⟩ = some (.int .i64 a0_1) := (QC BK138.out 1).trans rfl
           have hcz41_2 : wr.cell? ⟨gb138,2,none⟩ = some (.bool a0_2) := (QC BK138.out 2).trans rfl
           have hcz41_3 : wr.cell? ⟨gb138,3,none⟩ = some (.bool a0_3) := (QC BK138.out 3).trans rfl
           have hcz41_4 : wr.cell? ⟨gb138,4,none⟩ = some (.slice A0_4 l0_4.length c0_4) := (QC BK138.out 4).trans rfl
           have hcz41_5 : wr.cell? ⟨gb138,5,none⟩ = some (.slice A0_5 l0_5.length c0_5) := (QC BK138.out 5).trans rfl
           have hcz41_6 : wr.cell? ⟨gb138,6,none⟩ = some (.int .i64 a0_6) := (QC BK138.out 6).trans rfl
           have hcz41_7 : wr.cell? ⟨gb138,7,none⟩ = some (.int .i64 a0_7) := (QC BK138.out 7).trans rfl
           have hcz41_8 : wr.cell? ⟨gb138,8,none⟩ = some (.slice A0_8 l0_8.length c0_8) := (QC BK138.out 8).trans rfl
           have hcz41_9 : wr.cell? ⟨gb138,9,none⟩ = some (.slice A0_9 l0_9.length c0_9) := (QC BK138.out 9).trans rfl
           have hcz41_10 : wr.cell? ⟨gb138,10,none⟩ = some (.slice A0_10 l0_10.length c0_10) := (QC BK138.out 10).trans rfl
           have hcz41_11 : wr.cell? ⟨gb138,11,none⟩ = some (.int .i64 a0_11) := (QC BK138.out 11).trans rfl
           have hcz41_12 : wr.cell? ⟨gb138,12,none⟩ = some (.int .i64 a0_12) := (QC BK138.out 12).trans rfl
           have hcz41_13 : wr.cell? ⟨gb138,13,none⟩ = some (.int .i64 a0_13) := (QC BK138.out 13).trans rfl
           have hfz41_0 := QB BK138.out 0
           have hfz41_1 := QB BK138.out 1
           have hfz41_2 := QB BK138.out 2
           have hfz41_3 := QB BK138.out 3
           have hfz41_4 := QB BK138.out 4
           have hfz41_5 := QB BK138.out 5
           have hfz41_6 := QB BK138.out 6
           have hfz41_7 := QB BK138.out 7
           have hfz41_8 := QB BK138.out 8
           have hfz41_9 := QB BK138.out 9
           have hfz41_10 := QB BK138.out 10
           have hfz41_11 := QB BK138.out 11
           have hfz41_12 := QB BK138.out 12
           have hfz41_13 := QB BK138.out 13
           have p152 : 0 ≤ (x4_2 : Int) := of_decide_eq_true (by first | (with_reducible assumption) | assumption)
           have q152 : x4_2 < (l0_8.length : Int) := of_decide_eq_true (by first | (with_reducible assumption) | assumption)
           obtain ⟨ad152,A152_0,c152_0,e152,hx152_0,hl152_0,hi152_0⟩ := at_L1 HR0_8.out x4_2 p152 q152
           cases e152
           replace hx152_0 := (HB.out.cell (World.block_lt_of_cell? w _ hx152_0)).trans hx152_0
           have HR152_0 := QM hi152_0
           have HC152_0 := QM hl152_0
           clear hi152_0 hl152_0
           replace p152 := eq_true p152
           replace q152 := eq_true q152
           go_wp2_with (first | ((with_reducible refine gate_builtin (b := .append) (xs := #[.tmp 65,.tmp 70]) rfl ?_); (try (refine gate_guard (by rfl) ?_; dsimp only)); at_builtin; refine Kd.R_append_rows (Kd.int .i64) (w0 := w) w.heap.size rfl (.tmp 65) (.tmp 70) 22 3 (.int .i64 0) 8 rfl Try.underlying22 info3 rfl (by decide) (by omega) u3 x3_2 (rd_L1 l0_8 x4_2) _ _ _ (fun _ => True) (fun _ => False) rfl rfl ?aO ?aR (fun _ _ h => h) (fun _ h => h.elim) ?aF ?aB ?aS ?aL ?_; (case aR => repeat (first | exact (QK HR152_0.out HB.out) | (with_reducible refine QG ?_ _) | (with_reducible refine QH ?_ _) | (with_reducible refine QJ ?_))); (case aB => exact (by repeat (first | (with_reducible first | exact HB.out | apply QF | apply QD | apply QE | refine QI ?_ GE138.out) | exact HB.out))); (case aF => exact (fun _ _ => trivial)); (case aO => exact (by (with_reducible repeat (first | apply Kd.R_alloc | apply Kd.R_drewN | apply Kd.R_drew)); exact HO_3.out)); (case aS => exact (below_size (by repeat (first | (with_reducible first | exact HB.out | apply QF | apply QD | apply QE | refine QI ?_ GE138.out) | exact HB.out)))); (case aL => have := LMc40.out; omega); intro v154 w42 ho hb hg hat; rw [← Ny153.out] at ho; have n0_ := QM (blk_grown (g := gb138) (o := .cells #[.int .i64 a0_0,.int .i64 a0_1,.bool a0_2,.bool a0_3,.slice A0_4 l0_4.length c0_4,.slice A0_5 l0_5.length c0_5,.int .i64 a0_6,.int .i64 a0_7,.slice (some ad152) l0_8.length c0_8,.slice A0_9 l0_9.length c0_9,.slice A0_10 l0_10.length c0_10,.int .i64 a0_11,.int .i64 a0_12,.int .i64 a0_13] 32 (0,0)) (by (with_reducible repeat (first | refine blk_drewN ?_ _ | refine blk_drew ?_ | refine blk_alloc ?_ _)); exact BK138.out) hg (Kd.R_ne HO_3.out BK138.out (by decide))); have n1_ := QM (hb); have n2_ := QM (ho); clear BK138; clear HB; clear HO_3; revert n0_ n1_ n2_; intro BK138 HB HO155; clear ho hb hg hat))
           go_roundg k2
           case measure => have := HJ1.out; have := HK2.out; omega
           case rel => exact ⟨(y153),(wrap64 (x4_2 + 1)),(by first | rfl | (simp; done) | (simp [*]; done)),H',⟨by have := HJ1.out; have := HK2.out; omega⟩,⟨by (with_reducible repeat (first | apply Kd.R_alloc | apply Kd.R_drewN | apply Kd.R_drew)); exact HO155.out⟩,⟨by (with_reducible repeat (first | refine blk_drewN ?_ _ | refine blk_drew ?_ | refine blk_alloc ?_ _)); exact BK138.out⟩,⟨by repeat (first | (with_reducible first | exact HB.out | apply QF | apply QD | apply QE | refine QI ?_ GE138.out) | exact HB.out)⟩⟩
          ·rw [if_neg c40] at H
           exact absurd H (by simp)
         ·rw [if_neg c39] at H
          exact absurd H (by simp)
        ·rw [if_neg c38] at H
         have c38b0 : decide (x4_2 < (l0_8.length : Int)) = false := decide_eq_false c38
         clear c38
         have hcz45_0 : wr.cell? ⟨gb138,0,none⟩ = some (.int .i64 a0_0) := (QC BK138.out 0).trans rfl
         have hcz45_1 : wr.cell? ⟨gb138,1,none⟩ = some (.int .i64 a0_1) := (QC BK138.out 1).trans rfl
         have hcz45_2 : wr.cell? ⟨gb138,2,none⟩ = some (.bool a0_2) := (QC BK138.out 2).trans rfl
         have hcz45_3 : wr.cell? ⟨gb138,3,none⟩ = some (.bool a0_3) := (QC BK138.out 3).trans rfl
         have hcz45_4 : wr.cell? ⟨gb138,4,none⟩ = some (.slice A0_4 l0_4.length c0_4) := (QC BK138.out 4).trans rfl
         have hcz45_5 : wr.cell? ⟨gb138,5,none⟩ = some (.slice A0_5 l0_5.length c0_5) := (QC BK138.out 5).trans rfl
         have hcz45_6 : wr.cell? ⟨gb138,6,none⟩ = some (.int .i64 a0_6) := (QC BK138.out 6).trans rfl
         have hcz45_7 : wr.cell? ⟨gb138,7,none⟩ = some (.int .i64 a0_7) := (QC BK138.out 7).trans rfl
         have hcz45_8 : wr.cell? ⟨gb138,8,none⟩ = some (.slice A0_8 l0_8.length c0_8) := (QC BK138.out 8).trans rfl
         have hcz45_9 : wr.cell? ⟨gb138,9,none⟩ = some (.slice A0_9 l0_9.length c0_9) := (QC BK138.out 9).trans rfl
         have hcz45_10 : wr.cell? ⟨gb138,10,none⟩ = some (.slice A0_10 l0_10.length c0_10) := (QC BK138.out 10).trans rfl
         have hcz45_11 : wr.cell? ⟨gb138,11,none⟩ = some (.int .i64 a0_11) := (QC BK138.out 11).trans rfl
         have hcz45_12 : wr.cell? ⟨gb138,12,none⟩ = some (.int .i64 a0_12) := (QC BK138.out 12).trans rfl
         have hcz45_13 : wr.cell? ⟨gb138,13,none⟩ = some (.int .i64 a0_13) := (QC BK138.out 13).trans rfl
         have hfz45_0 := QB BK138.out 0
         have hfz45_1 := QB BK138.out 1
         have hfz45_2 := QB BK138.out 2
         have hfz45_3 := QB BK138.out 3
         have hfz45_4 := QB BK138.out 4
         have hfz45_5 := QB BK138.out 5
         have hfz45_6 := QB BK138.out 6
         have hfz45_7 := QB BK138.out 7
         have hfz45_8 := QB BK138.out 8
         have hfz45_9 := QB BK138.out 9
         have hfz45_10 := QB BK138.out 10
         have hfz45_11 := QB BK138.out 11
         have hfz45_12 := QB BK138.out 12
         have hfz45_13 := QB BK138.out 13
         obtain ⟨Ao46,co46,eo46⟩ := Kd.R_slice HO_3.out
         subst eo46
         by_cases c43 : (x3_2.length : Int) = 52
         ·rw [if_pos c43] at H
          have c43b0 : ((x3_2.length : Int) == 52) = true := beq_iff_eq.mpr c43
          have c43b1 : ((x3_2.length : Int) != 52) = false := bne_eq_false_iff_eq.mpr c43
          clear c43
          replace H := QN.mp H
          obtain ⟨t156,A440,H⟩ := H
          have A44 := QM A440
          clear A440
          obtain rfl := Option.some.inj H
          (try simp only [c43b0,c43b1])
          go_wp2_with (first | (go_at_call 37; (with_reducible refine (spec_IsHand.calls k2 _ _ x3_2 t156 _ ?side1 ?side2 A44.out).mono ?_); (case side1 => repeat (first | exact (Kd.R_reads' HO_3.out).2.2 | (with_reducible refine QG ?_ _) | (with_reducible refine QH ?_ _) | (with_reducible refine QJ ?_))); (case side2 => exact (Kd.R_reads' HO_3.out).2.1); rintro e w' ⟨rfl,⟨nd,rfl⟩⟩))
          go_ret
          exact ⟨by first | rfl | (simp [errW_none,errW_some] <;> rfl) | (simp [*,errW_none,errW_some] <;> rfl),by repeat (first | (with_reducible first | exact HB.out | apply QF | apply QD | apply QE | refine QI ?_ GE138.out) | exact HB.out)⟩
         ·rw [if_neg c43] at H
          have c43b0 : ((x3_2.length : Int) == 52) = false := beq_eq_false_iff_ne.mpr c43
          have c43b1 : ((x3_2.length : Int) != 52) = true := bne_iff_ne.mpr c43
          obtain rfl := Option.some.inj H
          (try simp only [c43b0,c43b1])
          go_wp2
          go_ret
          exact ⟨by first | rfl | (simp [errW_none,errW_some] <;> rfl) | (simp [*,errW_none,errW_some] <;> rfl),by repeat (first | (with_reducible first | exact HB.out | apply QF | apply QD | apply QE | refine QI ?_ GE138.out) | exact HB.out)⟩
     ·rw [if_neg c32] at H
      exact absurd H (by simp)
    ·rw [if_neg c31] at H
     exact absurd H (by simp)

/-! ### spec_l24First: function 38 -/
def spec_l24First.l0 : Nat → Int → Int → Int → Bool → Bool → List Int → List Int → Int → Int → List (List Int) → List Int → List Int → Int → Int → Int → Option (Int)
 | 0,_,_,_,_,_,_,_,_,_,_,_,_,_,_,_ => none
 | k + 1,x3,x158000,x158001,x158002,x158003,x158004,x158005,x158006,x158007,x158008,x158009,x158010,x158011,x158012,x158013 => if x3 < (x158008.length : Int) then (if 0 ≤ x3 then (if ((rd_L1 x158008 x3).length : Int) = 0 then (some x3) else (spec_l24First.l0 k (wrap64 (x3 + 1)) x158000 x158001 x158002 x158003 x158004 x158005 x158006 x158007 x158008 x158009 x158010 x158011 x158012 x158013)) else (none)) else (some (-1))
def spec_l24First.f (k : Nat) (a0_0 : Int) (a0_1 : Int) (a0_2 : Bool) (a0_3 : Bool) (l0_4 : List Int) (l0_5 : List Int) (a0_6 : Int) (a0_7 : Int) (l0_8 : List (List Int)) (l0_9 : List Int) (l0_10 : List Int) (a0_11 : Int) (a0_12 : Int) (a0_13 : Int) : Option (Int) := spec_l24First.l0 k 0 a0_0 a0_1 a0_2 a0_3 l0_4 l0_5 a0_6 a0_7 l0_8 l0_9 l0_10 a0_11 a0_12 a0_13
theorem spec_l24First.mono_l : ∀ k, (∀ y0 y1 y2 y3 y4 y5 y6 y7 y8 y9 y10 y11 y12 y13 y14, LeO (spec_l24First.l0 k y0 y1 y2 y3 y4 y5 y6 y7 y8 y9 y10 y11 y12 y13 y14) (spec_l24First.l0 (k + 1) y0 y1 y2 y3 y4 y5 y6 y7 y8 y9 y10 y11 y12 y13 y14))
 | 0 => fun _ _ _ _ _ _ _ _ _ _ _ _ _ _ _ r h => by simp [spec_l24First.l0] at h
 | k + 1 => by
  have ih0 := spec_l24First.mono_l k
  ·intro y0 y1 y2 y3 y4 y5 y6 y7 y8 y9 y10 y11 y12 y13 y14
   unfold spec_l24First.l0
   repeat' first
   | (with_reducible exact ih0 _ _ _ _ _ _ _ _ _ _ _ _ _ _ _)
   | (with_reducible exact LeO.refl _)
   | (with_reducible exact LeO.none _)
   | (with_reducible refine LeO.ite ?_ ?_)
   | (with_reducible refine LeO.bind ?_ (fun _ => ?_))
   | exact ih0 _ _ _ _ _ _ _ _ _ _ _ _ _ _ _
   | exact LeO.none _
   | refine LeO.ite ?_ ?_
   | refine LeO.bind ?_ (fun _ => ?_)
theorem spec_l24First.mono : ∀ a0 a1 a2 a3 a4 a5 a6 a7 a8 a9 a10 a11 a12 a13 k, LeO (spec_l24First.f k a0 a1 a2 a3 a4 a5 a6 a7 a8 a9 a10 a11 a12 a13) (spec_l24First.f (k + 1) a0 a1 a2 a3 a4 a5 a6 a7 a8 a9 a10 a11 a12 a13) := by
 intro a0 a1 a2 a3 a4 a5 a6 a7 a8 a9 a10 a11 a12 a13 k
 have ih0 := spec_l24First.mono_l k
 unfold spec_l24First.f
 repeat' first
   | (with_reducible exact ih0 _ _ _ _ _ _ _ _ _ _ _ _ _ _ _)
   | (with_reducible exact LeO.refl _)
   | (with_reducible exact LeO.none _)
   | (with_reducible refine LeO.ite ?_ ?_)
   | (with_reducible refine LeO.bind ?_ (fun _ => ?_))
   | exact ih0 _ _ _ _ _ _ _ _ _ _ _ _ _ _ _
   | exact LeO.none _
   | refine LeO.ite ?_ ?_
   | refine LeO.bind ?_ (fun _ => ?_)
set_option maxHeartbeats 8000000 in
set_option maxRecDepth 100000 in
theorem spec_l24First.calls (k : Nat) (a0_0 : Int) (a0_1 : Int) (a0_2 : Bool) (a0_3 : Bool) (A0_4 : Option Addr) (c0_4 : Nat) (l0_4 : List Int) (A0_5 : Option Addr) (c0_5 : Nat) (l0_5 : List Int) (a0_6 : Int) (a0_7 : Int) (A0_8 : Option Addr) (c0_8 : Nat) (l0_8 : List (List Int)) (A0_9 : Option Addr) (c0_9 : Nat) (l0_9 : List Int) (A0_10 : Option Addr) (c0_10 : Nat) (l0_10 : List Int) (a0_11 : Int) (a0_12 : Int) (a0_13 : Int) (r : Int) (w : World) (hr0_4 : Kd.C (Kd.int .i64) w A0_4 l0_4.length l0_4) (hc0_4 : l0_4.length ≤ c0_4) (hr0_5 : Kd.C (Kd.int .i64) w A0_5 l0_5.length l0_5) (hc0_5 : l0_5.length ≤ c0_5) (hr0_8 : Kd.C (Kd.slice 3 (Kd.int .i64)) w A0_8 l0_8.length l0_8) (hc0_8 : l0_8.length ≤ c0_8) (hr0_9 : Kd.C (Kd.int .i64) w A0_9 l0_9.length l0_9) (hc0_9 : l0_9.length ≤ c0_9) (hr0_10 : Kd.C (Kd.int .i64) w A0_10 l0_10.length l0_10) (hc0_10 : l0_10.length ≤ c0_10) (h : spec_l24First.f k a0_0 a0_1 a0_2 a0_3 l0_4 l0_5 a0_6 a0_7 l0_8 l0_9 l0_10 a0_11 a0_12 a0_13 = some r) :
  Calls Try.prog 38 #[.agg #[.int .i64 a0_0,.int .i64 a0_1,.bool a0_2,.bool a0_3,.slice A0_4 l0_4.length c0_4,.slice A0_5 l0_5.length c0_5,.int .i64 a0_6,.int .i64 a0_7,.slice A0_8 l0_8.length c0_8,.slice A0_9 l0_9.length c0_9,.slice A0_10 l0_10.length c0_10,.int .i64 a0_11,.int .i64 a0_12,.int .i64 a0_13]] w fun e w' => e = .returned (.int .i64 r) ∧ Below w.heap.size w w' := by
 have hu32 := Try.underlying32
 have HR0_4 := QM hr0_4
 have HC0_4 := QM hc0_4
 clear hr0_4 hc0_4
 have HR0_5 := QM hr0_5
 have HC0_5 := QM hc0_5
 clear hr0_5 hc0_5
 have HR0_8 := QM hr0_8
 have HC0_8 := QM hc0_8
 clear hr0_8 hc0_8
 have HR0_9 := QM hr0_9
 have HC0_9 := QM hc0_9
 clear hr0_9 hc0_9
 have HR0_10 := QM hr0_10
 have HC0_10 := QM hc0_10
 clear hr0_10 hc0_10
 have HB := QM (Below.refl w.heap.size w)
 have H : (spec_l24First.l0 k 0 a0_0 a0_1 a0_2 a0_3 l0_4 l0_5 a0_6 a0_7 l0_8 l0_9 l0_10 a0_11 a0_12 a0_13) = some r := h
 clear h
 have H' := QM H
 clear H
 go_enter Try.func38,Try.ntmps38
 go_wp2_with (first | ((with_reducible refine gate_dst (N := 1) rfl ?_); refine box_event ?hg (N := 1) ?hd (cs := #[.int .i64 a0_0,.int .i64 a0_1,.bool a0_2,.bool a0_3,.slice A0_4 l0_4.length c0_4,.slice A0_5 l0_5.length c0_5,.int .i64 a0_6,.int .i64 a0_7,.slice A0_8 l0_8.length c0_8,.slice A0_9 l0_9.length c0_9,.slice A0_10 l0_10.length c0_10,.int .i64 a0_11,.int .i64 a0_12,.int .i64 a0_13]) (t := 32) ?hr ?_; (case hd => rfl); (case hg => rfl); (case hr => first | (go_simp; done) | (go_simp; rfl)); intro gb157 hg w2 hbox hb; have n0_ := QM (below_step (by repeat (first | (with_reducible first | exact HB.out | apply QF | apply QD | apply QE) | exact HB.out)) hb); have n1_ := QM (hbox); have n2_ := QM ((by rw [hg]; exact (below_size (by repeat (first | (with_reducible first | exact HB.out | apply QF | apply QD | apply QE) | exact HB.out))) : w.heap.size ≤ gb157)); have n3_ := QM ((by rw [hg]; exact (below_size (by repeat (first | (with_reducible first | exact HB.out | apply QF | apply QD | apply QE) | exact HB.out))) : w.heap.size ≤ gb157)); clear HB; revert n0_ n1_ n2_ n3_; intro HB BK157 GW157 GE157; clear hb hbox hg))
 go_loopg [3] k (fun kq v3 w' => ∃ (x3_1 : Int),v3 = .int .i64 x3_1 ∧ Aside0 (spec_l24First.l0 kq x3_1 a0_0 a0_1 a0_2 a0_3 l0_4 l0_5 a0_6 a0_7 l0_8 l0_9 l0_10 a0_11 a0_12 a0_13 = some r) ∧ Aside0 (kq ≤ k) ∧ Aside0 (w'.heap[gb157]? = some (.cells #[.int .i64 a0_0,.int .i64 a0_1,.bool a0_2,.bool a0_3,(.slice A0_4 l0_4.length c0_4),(.slice A0_5 l0_5.length c0_5),.int .i64 a0_6,.int .i64 a0_7,(.slice A0_8 l0_8.length c0_8),(.slice A0_9 l0_9.length c0_9),(.slice A0_10 l0_10.length c0_10),.int .i64 a0_11,.int .i64 a0_12,.int .i64 a0_13] 32 (0,0))) ∧ Aside0 (Below w.heap.size w w'))
 case atStart => exact ⟨(0),(by first | rfl | (simp; done) | (simp [*]; done)),H',⟨Nat.le_refl _⟩,⟨by (with_reducible repeat (first | refine blk_drewN ?_ _ | refine blk_drew ?_ | refine blk_alloc ?_ _)); exact BK157.out⟩,⟨by repeat (first | (with_reducible first | exact HB.out | apply QF | apply QD | apply QE | refine QI ?_ GE157.out) | exact HB.out)⟩⟩
 case round =>
  clear H'
  try clear p2
  obtain ⟨x3_1,rfl,HA,HK1,BK157,HB⟩ := hrel
  cases gk with
  | zero => exact absurd HA.out (by simp [spec_l24First.l0])
  | succ k1 =>
   have H := HA.out
   clear HA
   simp only [spec_l24First.l0] at H
   by_cases c3 : x3_1 < (l0_8.length : Int)
   ·rw [if_pos c3] at H
    have c3b0 : decide (x3_1 < (l0_8.length : Int)) = true := decide_eq_true c3
    clear c3
    by_cases c4 : 0 ≤ x3_1
    ·rw [if_pos c4] at H
     have c4b0 : decide (0 ≤ x3_1) = true := decide_eq_true c4
     clear c4
     by_cases c5 : ((rd_L1 l0_8 x3_1).length : Int) = 0
     ·rw [if_pos c5] at H
      have c5b0 : (((rd_L1 l0_8 x3_1).length : Int) == 0) = true := beq_iff_eq.mpr c5
      have c5b1 : (((rd_L1 l0_8 x3_1).length : Int) != 0) = false := bne_eq_false_iff_eq.mpr c5
      clear c5
      obtain rfl := Option.some.inj H
      have hcz6_0 : wr.cell? ⟨gb157,0,none⟩ = some (.int .i64 a0_0) := (QC BK157.out 0).trans rfl
      have hcz6_1 : wr.cell? ⟨gb157,1,none⟩ = some (.int .i64 a0_1) := (QC BK157.out 1).trans rfl
      have hcz6_2 : wr.cell? ⟨gb157,2,none⟩ = some (.bool a0_2) := (QC BK157.out 2).trans rfl
      have hcz6_3 : wr.cell? ⟨gb157,3,none⟩ = some (.bool a0_3) := (QC BK157.out 3).trans rfl
      have hcz6_4 : wr.cell? ⟨gb157,4,none⟩ = some (.slice A0_4 l0_4.length c0_4) := (QC BK157.out 4).trans rfl
      have hcz6_5 : wr.cell? ⟨gb157,5,none⟩ = some (.slice A0_5 l0_5.length c0_5) := (QC BK157.out 5).trans rfl
      have hcz6_6 : wr.cell? ⟨gb157,6,none⟩ = some (.int .i64 a0_6) := (QC BK157.out 6).trans rfl
      have hcz6_7 : wr.cell? ⟨gb157,7,none⟩ = some (.int .i64 a0_7) := (QC BK157.out 7).trans rfl
      have hcz6_8 : wr.cell? ⟨gb157,8,none⟩ = some (.slice A0_8 l0_8.length c0_8) := (QC BK157.out 8).trans rfl
      have hcz6_9 : wr.cell? ⟨gb157,9,none⟩ = some (.slice A0_9 l0_9.length c0_9) := (QC BK157.out 9).trans rfl
      have hcz6_10 : wr.cell? ⟨gb157,10,none⟩ = some (.slice A0_10 l0_10.length c0_10) := (QC BK157.out 10).trans rfl
      have hcz6_11 : wr.cell? ⟨gb157,11,none⟩ = some (.int .i64 a0_11) := (QC BK157.out 11).trans rfl
      have hcz6_12 : wr.cell? ⟨gb157,12,none⟩ = some (.int .i64 a0_12) := (QC BK157.out 12).trans rfl
      have hcz6_13 : wr.cell? ⟨gb157,13,none⟩ = some (.int .i64 a0_13) := (QC BK157.out 13).trans rfl
      have hfz6_0 := QB BK157.out 0
      have hfz6_1 := QB BK157.out 1
      have hfz6_2 := QB BK157.out 2
      have hfz6_3 := QB BK157.out 3
      have hfz6_4 := QB BK157.out 4
      have hfz6_5 := QB BK157.out 5
      have hfz6_6 := QB BK157.out 6
      have hfz6_7 := QB BK157.out 7
      have hfz6_8 := QB BK157.out 8
      have hfz6_9 := QB BK157.out 9
      have hfz6_10 := QB BK157.out 10
      have hfz6_11 := QB BK157.out 11
      have hfz6_12 := QB BK157.out 12
      have hfz6_13 := QB BK157.out 13
      have p158 : 0 ≤ (x3_1 : Int) := of_decide_eq_true (by first | (with_reducible assumption) | assumption)
      have q158 : x3_1 < (l0_8.length : Int) := of_decide_eq_true (by first | (with_reducible assumption) | assumption)
      obtain ⟨ad158,A158_0,c158_0,e158,hx158_0,hl158_0,hi158_0⟩ := at_L1 HR0_8.out x3_1 p158 q158
      cases e158
      replace hx158_0 := (HB.out.cell (World.block_lt_of_cell? w _ hx158_0)).trans hx158_0
      have HR158_0 := QM hi158_0
      have HC158_0 := QM hl158_0
      clear hi158_0 hl158_0
      replace p158 := eq_true p158
      replace q158 := eq_true q158
      go_wp2
      go_ret
      exact ⟨by first | rfl | (simp [errW_none,errW_some] <;> rfl) | (simp [*,errW_none,errW_some] <;> rfl),by repeat (first | (with_reducible first | exact HB.out | apply QF | apply QD | apply QE | refine QI ?_ GE157.out) | exact HB.out)⟩
     ·rw [if_neg c5] at H
      have c5b0 : (((rd_L1 l0_8 x3_1).length : Int) == 0) = false := beq_eq_false_iff_ne.mpr c5
      have c5b1 : (((rd_L1 l0_8 x3_1).length : Int) != 0) = true := bne_iff_ne.mpr c5
      have c5b2 : ¬ ((rd_L1 l0_8 x3_1) = []) := fun h_ => c5 (by rw [h_]; rfl)
      have H' := QM H
      clear H
      have hcz7_0 : wr.cell? ⟨gb157,0,none⟩ = some (.int .i64 a0_0) := (QC BK157.out 0).trans rfl
      have hcz7_1 : wr.cell? ⟨gb157,1,none⟩ = some (.int .i64 a0_1) := (QC BK157.out 1).trans rfl
      have hcz7_2 : wr.cell? ⟨gb157,2,none⟩ = some (.bool a0_2) := (QC BK157.out 2).trans rfl
      have hcz7_3 : wr.cell? ⟨gb157,3,none⟩ = some (.bool a0_3) := (QC BK157.out 3).trans rfl
      have hcz7_4 : wr.cell? ⟨gb157,4,none⟩ = some (.slice A0_4 l0_4.length c0_4) := (QC BK157.out 4).trans rfl
      have hcz7_5 : wr.cell? ⟨gb157,5,none⟩ = some (.slice A0_5 l0_5.length c0_5) := (QC BK157.out 5).trans rfl
      have hcz7_6 : wr.cell? ⟨gb157,6,none⟩ = some (.int .i64 a0_6) := (QC BK157.out 6).trans rfl
      have hcz7_7 : wr.cell? ⟨gb157,7,none⟩ = some (.int .i64 a0_7) := (QC BK157.out 7).trans rfl
      have hcz7_8 : wr.cell? ⟨gb157,8,none⟩ = some (.slice A0_8 l0_8.length c0_8) := (QC BK157.out 8).trans rfl
      have hcz7_9 : wr.cell? ⟨gb157,9,none⟩ = some (.slice A0_9 l0_9.length c0_9) := (QC BK157.out 9).trans rfl
      have hcz7_10 : wr.cell? ⟨gb157,10,none⟩ = some (.slice A0_10 l0_10.length c0_10) := (QC BK157.out 10).trans rfl
      have hcz7_11 : wr.cell? ⟨gb157,11,none⟩ = some (.int .i64 a0_11) := (QC BK157.out 11).trans rfl
      have hcz7_12 : wr.cell? ⟨gb157,12,none⟩ = some (.int .i64 a0_12) := (QC BK157.out 12).trans rfl
      have hcz7_13 : wr.cell? ⟨gb157,13,none⟩ = some (.int .i64 a0_13) := (QC BK157.out 13).trans rfl
      have hfz7_0 := QB BK157.out 0
      have hfz7_1 := QB BK157.out 1
      have hfz7_2 := QB BK157.out 2
      have hfz7_3 := QB BK157.out 3
      have hfz7_4 := QB BK157.out 4
      have hfz7_5 := QB BK157.out 5
      have hfz7_6 := QB BK157.out 6
      have hfz7_7 := QB BK157.out 7
      have hfz7_8 := QB BK157.out 8
      have hfz7_9 := QB BK157.out 9
      have hfz7_10 := QB BK157.out 10
      have hfz7_11 := QB BK157.out 11
      have hfz7_12 := QB BK157.out 12
      have hfz7_13 := QB BK157.out 13
      have p158 : 0 ≤ (x3_1 : Int) := of_decide_eq_true (by first | (with_reducible assumption) | assumption)
      have q158 : x3_1 < (l0_8.length : Int) := of_decide_eq_true (by first | (with_reducible assumption) | assumption)
      obtain ⟨ad158,A158_0,c158_0,e158,hx158_0,hl158_0,hi158_0⟩ := at_L1 HR0_8.out x3_1 p158 q158
      cases e158
      replace hx158_0 := (HB.out.cell (World.block_lt_of_cell? w _ hx158_0)).trans hx158_0
      have HR158_0 := QM hi158_0
      have HC158_0 := QM hl158_0
      clear hi158_0 hl158_0
      replace p158 := eq_true p158
      replace q158 := eq_true q158
      go_wp2
      go_roundg k1
      case measure => have := HK1.out; omega
      case rel => exact ⟨(wrap64 (x3_1 + 1)),(by first | rfl | (simp; done) | (simp [*]; done)),H',⟨by have := HK1.out; omega⟩,⟨by (with_reducible repeat (first | refine blk_drewN ?_ _ | refine blk_drew ?_ | refine blk_alloc ?_ _)); exact BK157.out⟩,⟨by repeat (first | (with_reducible first | exact HB.out | apply QF | apply QD | apply QE | refine QI ?_ GE157.out) | exact HB.out)⟩⟩
    ·rw [if_neg c4] at H
     exact absurd H (by simp)
   ·rw [if_neg c3] at H
    have c3b0 : decide (x3_1 < (l0_8.length : Int)) = false := decide_eq_false c3
    clear c3
    obtain rfl := Option.some.inj H
    have hcz8_0 : wr.cell? ⟨gb157,0,none⟩ = some (.int .i64 a0_0) := (QC BK157.out 0).trans rfl
    have hcz8_1 : wr.cell? ⟨gb157,1,none⟩ = some (.int .i64 a0_1) := (QC BK157.out 1).trans rfl
    have hcz8_2 : wr.cell? ⟨gb157,2,none⟩ = some (.bool a0_2) := (QC BK157.out 2).trans rfl
    have hcz8_3 : wr.cell? ⟨gb157,3,none⟩ = some (.bool a0_3) := (QC BK157.out 3).trans rfl
    have hcz8_4 : wr.cell? ⟨gb157,4,none⟩ = some (.slice A0_4 l0_4.length c0_4) := (QC BK157.out 4).trans rfl
    have hcz8_5 : wr.cell? ⟨gb157,5,none⟩ = some (.slice A0_5 l0_5.length c0_5) := (QC BK157.out 5).trans rfl
    have hcz8_6 : wr.cell? ⟨gb157,6,none⟩ = some (.int .i64 a0_6) := (QC BK157.out 6).trans rfl
    have hcz8_7 : wr.cell? ⟨gb157,7,none⟩ = some (.int .i64 a0_7) := (QC BK157.out 7).trans rfl
    have hcz8_8 : wr.cell? ⟨gb157,8,none⟩ = some (.slice A0_8 l0_8.length c0_8) := (QC BK157.out 8).trans rfl
    have hcz8_9 : wr.cell? ⟨gb157,9,none⟩ = some (.slice A0_9 l0_9.length c0_9) := (QC BK157.out 9).trans rfl
    have hcz8_10 : wr.cell? ⟨gb157,10,none⟩ = some (.slice A0_10 l0_10.length c0_10) := (QC BK157.out 10).trans rfl
    have hcz8_11 : wr.cell? ⟨gb157,11,none⟩ = some (.int .i64 a0_11) := (QC BK157.out 11).trans rfl
    have hcz8_12 : wr.cell? ⟨gb157,12,none⟩ = some (.int .i64 a0_12) := (QC BK157.out 12).trans rfl
    have hcz8_13 : wr.cell? ⟨gb157,13,none⟩ = some (.int .i64 a0_13) := (QC BK157.out 13).trans rfl
    have hfz8_0 := QB BK157.out 0
    have hfz8_1 := QB BK157.out 1
    have hfz8_2 := QB BK157.out 2
    have hfz8_3 := QB BK157.out 3
    have hfz8_4 := QB BK157.out 4
    have hfz8_5 := QB BK157.out 5
    have hfz8_6 := QB BK157.out 6
    have hfz8_7 := QB BK157.out 7
    have hfz8_8 := QB BK157.out 8
    have hfz8_9 := QB BK157.out 9
    have hfz8_10 := QB BK157.out 10
    have hfz8_11 := QB BK157.out 11
    have hfz8_12 := QB BK157.out 12
    have hfz8_13 := QB BK157.out 13
    go_wp2
    go_ret
    exact ⟨by first | rfl | (simp [errW_none,errW_some] <;> rfl) | (simp [*,errW_none,errW_some] <;> rfl),by repeat (first | (with_reducible first | exact HB.out | apply QF | apply QD | apply QE | refine QI ?_ GE157.out) | exact HB.out)⟩

/-! ### spec_l24Over: function 26 -/
def spec_l24Over.f (k : Nat) (a0_0 : Int) (a0_1 : Int) (a0_2 : Bool) (a0_3 : Bool) (l0_4 : List Int) (l0_5 : List Int) (a0_6 : Int) (a0_7 : Int) (l0_8 : List (List Int)) (l0_9 : List Int) (l0_10 : List Int) (a0_11 : Int) (a0_12 : Int) (a0_13 : Int) : Option (Bool) := (spec_l24First.f k a0_0 a0_1 a0_2 a0_3 l0_4 l0_5 a0_6 a0_7 l0_8 l0_9 l0_10 a0_11 a0_12 a0_13).bind fun t160 => (if t160 ≥ 0 then (some true) else (if a0_12 = a0_7 then (some true) else (some (decide (a0_13 ≥ a0_0)))))
theorem spec_l24Over.mono : ∀ a0 a1 a2 a3 a4 a5 a6 a7 a8 a9 a10 a11 a12 a13 k, LeO (spec_l24Over.f k a0 a1 a2 a3 a4 a5 a6 a7 a8 a9 a10 a11 a12 a13) (spec_l24Over.f (k + 1) a0 a1 a2 a3 a4 a5 a6 a7 a8 a9 a10 a11 a12 a13) := by
 intro a0 a1 a2 a3 a4 a5 a6 a7 a8 a9 a10 a11 a12 a13 k
 unfold spec_l24Over.f
 repeat' first
   | (with_reducible exact spec_l24First.mono _ _ _ _ _ _ _ _ _ _ _ _ _ _ _)
   | (with_reducible exact LeO.refl _)
   | (with_reducible exact LeO.none _)
   | (with_reducible refine LeO.ite ?_ ?_)
   | (with_reducible refine LeO.bind ?_ (fun _ => ?_))
   | exact spec_l24First.mono _ _ _ _ _ _ _ _ _ _ _ _ _ _ _
   | exact LeO.none _
   | refine LeO.ite ?_ ?_
   | refine LeO.bind ?_ (fun _ => ?_)
set_option maxHeartbeats 8000000 in
set_option maxRecDepth 100000 in
theorem spec_l24Over.calls (k : Nat) (a0_0 : Int) (a0_1 : Int) (a0_2 : Bool) (a0_3 : Bool) (A0_4 : Option Addr) (c0_4 : Nat) (l0_4 : List Int) (A0_5 : Option Addr) (c0_5 : Nat) (l0_5 : List Int) (a0_6 : Int) (a0_7 : Int) (A0_8 : Option Addr) (c0_8 : Nat) (l0_8 : List (List Int)) (A0_9 : Option Addr) (c0_9 : Nat) (l0_9 : List Int) (A0_10 : Option Addr) (c0_10 : Nat) (l0_10 : List Int) (a0_11 : Int) (a0_12 : Int) (a0_13 : Int) (r : Bool) (w : World) (hr0_4 : Kd.C (Kd.int .i64) w A0_4 l0_4.length l0_4) (hc0_4 : l0_4.length ≤ c0_4) (hr0_5 : Kd.C (Kd.int .i64) w A0_5 l0_5.length l0_5) (hc0_5 : l0_5.length ≤ c0_5) (hr0_8 : Kd.C (Kd.slice 3 (Kd.int .i64)) w A0_8 l0_8.length l0_8) (hc0_8 : l0_8.length ≤ c0_8) (hr0_9 : Kd.C (Kd.int .i64) w A0_9 l0_9.length l0_9) (hc0_9 : l0_9.length ≤ c0_9) (hr0_10 : Kd.C (Kd.int .i64) w A0_10 l0_10.length l0_10) (hc0_10 : l0_10.length ≤ c0_10) (h : spec_l24Over.f k a0_0 a0_1 a0_2 a0_3 l0_4 l0_5 a0_6 a0_7 l0_8 l0_9 l0_10 a0_11 a0_12 a0_13 = some r) :
  Calls Try.prog 26 #[.agg #[.int .i64 a0_0,.int .i64 a0_1,.bool a0_2,.bool a0_3,.slice A0_4 l0_4.length c0_4,.slice A0_5 l0_5.length c0_5,.int .i64 a0_6,.int .i64 a0_7,.slice A0_8 l0_8.length c0_8,.slice A0_9 l0_9.length c0_9,.slice A0_10 l0_10.length c0_10,.int .i64 a0_11,.int .i64 a0_12,.int .i64 a0_13]] w fun e w' => e = .returned (.bool r) ∧ Below w.heap.size w w' := by
 have hu32 := Try.underlying32
 have HR0_4 := QM hr0_4
 have HC0_4 := QM hc0_4
 clear hr0_4 hc0_4
 have HR0_5 := QM hr0_5
 have HC0_5 := QM hc0_5
 clear hr0_5 hc0_5
 have HR0_8 := QM hr0_8
 have HC0_8 := QM hc0_8
 clear hr0_8 hc0_8
 have HR0_9 := QM hr0_9
 have HC0_9 := QM hc0_9
 clear hr0_9 hc0_9
 have HR0_10 := QM hr0_10
 have HC0_10 := QM hc0_10
 clear hr0_10 hc0_10
 have HB := QM (Below.refl w.heap.size w)
 have H : ((spec_l24First.f k a0_0 a0_1 a0_2 a0_3 l0_4 l0_5 a0_6 a0_7 l0_8 l0_9 l0_10 a0_11 a0_12 a0_13).bind fun t160 => (if t160 ≥ 0 then (some true) else (if a0_12 = a0_7 then (some true) else (some (decide (a0_13 ≥ a0_0)))))) = some r := h
 clear h
 replace H := QN.mp H
 obtain ⟨t160,A20,H⟩ := H
 have A2 := QM A20
 clear A20
 by_cases c3 : t160 ≥ 0
 rotate_left
 rw [if_neg c3] at H
 have c3b0 : decide (0 ≤ t160) = false := decide_eq_false c3
 clear c3
 by_cases c7 : a0_12 = a0_7
 rotate_left
 rw [if_neg c7] at H
 have c7b0 : (a0_12 == a0_7) = false := beq_eq_false_iff_ne.mpr c7
 have c7b1 : (a0_12 != a0_7) = true := bne_iff_ne.mpr c7
 obtain rfl := Option.some.inj H
 rotate_right
 rw [if_pos c7] at H
 have c7b0 : (a0_12 == a0_7) = true := beq_iff_eq.mpr c7
 have c7b1 : (a0_12 != a0_7) = false := bne_eq_false_iff_eq.mpr c7
 clear c7
 obtain rfl := Option.some.inj H
 rotate_right
 rw [if_pos c3] at H
 have c3b0 : decide (0 ≤ t160) = true := decide_eq_true c3
 clear c3
 obtain rfl := Option.some.inj H
 all_goals
  go_enter Try.func26,Try.ntmps26
  go_wp2_with (first | ((with_reducible refine gate_dst (N := 1) rfl ?_); refine box_event ?hg (N := 1) ?hd (cs := #[.int .i64 a0_0,.int .i64 a0_1,.bool a0_2,.bool a0_3,.slice A0_4 l0_4.length c0_4,.slice A0_5 l0_5.length c0_5,.int .i64 a0_6,.int .i64 a0_7,.slice A0_8 l0_8.length c0_8,.slice A0_9 l0_9.length c0_9,.slice A0_10 l0_10.length c0_10,.int .i64 a0_11,.int .i64 a0_12,.int .i64 a0_13]) (t := 32) ?hr ?_; (case hd => rfl); (case hg => rfl); (case hr => first | (go_simp; done) | (go_simp; rfl)); intro gb159 hg w12 hbox hb; have n0_ := QM (below_step (by repeat (first | (with_reducible first | exact HB.out | apply QF | apply QD | apply QE) | exact HB.out)) hb); have n1_ := QM (hbox); have n2_ := QM ((by rw [hg]; exact (below_size (by repeat (first | (with_reducible first | exact HB.out | apply QF | apply QD | apply QE) | exact HB.out))) : w.heap.size ≤ gb159)); have n3_ := QM ((by rw [hg]; exact (below_size (by repeat (first | (with_reducible first | exact HB.out | apply QF | apply QD | apply QE) | exact HB.out))) : w.heap.size ≤ gb159)); clear HB; revert n0_ n1_ n2_ n3_; intro HB BK159 GW159 GE159; clear hb hbox hg; have hcz13_0 : w12.cell? ⟨gb159,0,none⟩ = some (.int .i64 a0_0) := (QC BK159.out 0).trans rfl; have hcz13_1 : w12.cell? ⟨gb159,1,none⟩ = some (.int .i64 a0_1) := (QC BK159.out 1).trans rfl; have hcz13_2 : w12.cell? ⟨gb159,2,none⟩ = some (.bool a0_2) := (QC BK159.out 2).trans rfl; have hcz13_3 : w12.cell? ⟨gb159,3,none⟩ = some (.bool a0_3) := (QC BK159.out 3).trans rfl; have hcz13_4 : w12.cell? ⟨gb159,4,none⟩ = some (.slice A0_4 l0_4.length c0_4) := (QC BK159.out 4).trans rfl; have hcz13_5 : w12.cell? ⟨gb159,5,none⟩ = some (.slice A0_5 l0_5.length c0_5) := (QC BK159.out 5).trans rfl; have hcz13_6 : w12.cell? ⟨gb159,6,none⟩ = some (.int .i64 a0_6) := (QC BK159.out 6).trans rfl; have hcz13_7 : w12.cell? ⟨gb159,7,none⟩ = some (.int .i64 a0_7) := (QC BK159.out 7).trans rfl; have hcz13_8 : w12.cell? ⟨gb159,8,none⟩ = some (.slice A0_8 l0_8.length c0_8) := (QC BK159.out 8).trans rfl; have hcz13_9 : w12.cell? ⟨gb159,9,none⟩ = some (.slice A0_9 l0_9.length c0_9) := (QC BK159.out 9).trans rfl; have hcz13_10 : w12.cell? ⟨gb159,10,none⟩ = some (.slice A0_10 l0_10.length c0_10) := (QC BK159.out 10).trans rfl; have hcz13_11 : w12.cell? ⟨gb159,11,none⟩ = some (.int .i64 a0_11) := (QC BK159.out 11).trans rfl; have hcz13_12 : w12.cell? ⟨gb159,12,none⟩ = some (.int .i64 a0_12) := (QC BK159.out 12).trans rfl; have hcz13_13 : w12.cell? ⟨gb159,13,none⟩ = some (.int .i64 a0_13) := (QC BK159.out 13).trans rfl; have hfz13_0 := QB BK159.out 0; have hfz13_1 := QB BK159.out 1; have hfz13_2 := QB BK159.out 2; have hfz13_3 := QB BK159.out 3; have hfz13_4 := QB BK159.out 4; have hfz13_5 := QB BK159.out 5; have hfz13_6 := QB BK159.out 6; have hfz13_7 := QB BK159.out 7; have hfz13_8 := QB BK159.out 8; have hfz13_9 := QB BK159.out 9; have hfz13_10 := QB BK159.out 10; have hfz13_11 := QB BK159.out 11; have hfz13_12 := QB BK159.out 12; have hfz13_13 := QB BK159.out 13) | ((with_reducible refine QL (f := 38) rfl ?_); refine goesL_ (some 4) rfl rfl Try.func38 (by kernel_rfl) rfl #[.agg #[.int .i64 a0_0,.int .i64 a0_1,.bool a0_2,.bool a0_3,.slice A0_4 l0_4.length c0_4,.slice A0_5 l0_5.length c0_5,.int .i64 a0_6,.int .i64 a0_7,.slice A0_8 l0_8.length c0_8,.slice A0_9 l0_9.length c0_9,.slice A0_10 l0_10.length c0_10,.int .i64 a0_11,.int .i64 a0_12,.int .i64 a0_13]] rfl (by (try simp only [List.map_toArray,List.map_cons,List.map_nil]); first | done | rfl | (simp only [List.length_drop,List.length_take]; rfl)) ?_; (with_reducible refine (spec_l24First.calls k a0_0 a0_1 a0_2 a0_3 _ _ l0_4 _ _ l0_5 a0_6 a0_7 _ _ l0_8 _ _ l0_9 _ _ l0_10 a0_11 a0_12 a0_13 t160 _ ?side1 ?side2 ?side3 ?side4 ?side5 ?side6 ?side7 ?side8 ?side9 ?side10 A2.out).mono ?_); (case side1 => repeat (first | exact (QK HR0_4.out HB.out) | (with_reducible refine QG ?_ _) | (with_reducible refine QH ?_ _) | (with_reducible refine QJ ?_))); (case side2 => exact HC0_4.out); (case side3 => repeat (first | exact (QK HR0_5.out HB.out) | (with_reducible refine QG ?_ _) | (with_reducible refine QH ?_ _) | (with_reducible refine QJ ?_))); (case side4 => exact HC0_5.out); (case side5 => repeat (first | exact (QK HR0_8.out HB.out) | (with_reducible refine QG ?_ _) | (with_reducible refine QH ?_ _) | (with_reducible refine QJ ?_))); (case side6 => exact HC0_8.out); (case side7 => repeat (first | exact (QK HR0_9.out HB.out) | (with_reducible refine QG ?_ _) | (with_reducible refine QH ?_ _) | (with_reducible refine QJ ?_))); (case side8 => exact HC0_9.out); (case side9 => repeat (first | exact (QK HR0_10.out HB.out) | (with_reducible refine QG ?_ _) | (with_reducible refine QH ?_ _) | (with_reducible refine QJ ?_))); (case side10 => exact HC0_10.out); rintro e w14 ⟨rfl,hb⟩; refine ⟨_,rfl,?_⟩; have n0_ := QM (blk_below (g := gb159) (o := .cells #[.int .i64 a0_0,.int .i64 a0_1,.bool a0_2,.bool a0_3,.slice A0_4 l0_4.length c0_4,.slice A0_5 l0_5.length c0_5,.int .i64 a0_6,.int .i64 a0_7,.slice A0_8 l0_8.length c0_8,.slice A0_9 l0_9.length c0_9,.slice A0_10 l0_10.length c0_10,.int .i64 a0_11,.int .i64 a0_12,.int .i64 a0_13] 32 (0,0)) (by (with_reducible repeat (first | refine blk_drewN ?_ _ | refine blk_drew ?_ | refine blk_alloc ?_ _)); exact BK159.out) hb); have n1_ := QM (below_step (by repeat (first | (with_reducible first | exact HB.out | apply QF | apply QD | apply QE | refine QI ?_ GE159.out) | exact HB.out)) hb); clear BK159; clear HB; revert n0_ n1_; intro BK159 HB; (try clear hb); (try clear hb2); (try clear hk); (try clear hi); have hcz15_0 : w14.cell? ⟨gb159,0,none⟩ = some (.int .i64 a0_0) := (QC BK159.out 0).trans rfl; have hcz15_1 : w14.cell? ⟨gb159,1,none⟩ = some (.int .i64 a0_1) := (QC BK159.out 1).trans rfl; have hcz15_2 : w14.cell? ⟨gb159,2,none⟩ = some (.bool a0_2) := (QC BK159.out 2).trans rfl; have hcz15_3 : w14.cell? ⟨gb159,3,none⟩ = some (.bool a0_3) := (QC BK159.out 3).trans rfl; have hcz15_4 : w14.cell? ⟨gb159,4,none⟩ = some (.slice A0_4 l0_4.length c0_4) := (QC BK159.out 4).trans rfl; have hcz15_5 : w14.cell? ⟨gb159,5,none⟩ = some (.slice A0_5 l0_5.length c0_5) := (QC BK159.out 5).trans rfl; have hcz15_6 : w14.cell? ⟨gb159,6,none⟩ = some (.int .i64 a0_6) := (QC BK159.out 6).trans rfl; have hcz15_7 : w14.cell? ⟨gb159,7,none⟩ = some (.int .i64 a0_7) := (QC BK159.out 7).trans rfl; have hcz15_8 : w14.cell? ⟨gb159,8,none⟩ = some (.slice A0_8 l0_8.length c0_8) := (QC BK159.out 8).trans rfl; have hcz15_9 : w14.cell? ⟨gb159,9,none⟩ = some (.slice A0_9 l0_9.length c0_9) := (QC BK159.out 9).trans rfl; have hcz15_10 : w14.cell? ⟨gb159,10,none⟩ = some (.slice A0_10 l0_10.length c0_10) := (QC BK159.out 10).trans rfl; have hcz15_11 : w14.cell? ⟨gb159,11,none⟩ = some (.int .i64 a0_11) := (QC BK159.out 11).trans rfl; have hcz15_12 : w14.cell? ⟨gb159,12,none⟩ = some (.int .i64 a0_12) := (QC BK159.out 12).trans rfl; have hcz15_13 : w14.cell? ⟨gb159,13,none⟩ = some (.int .i64 a0_13) := (QC BK159.out 13).trans rfl; have hfz15_0 := QB BK159.out 0; have hfz15_1 := QB BK159.out 1; have hfz15_2 := QB BK159.out 2; have hfz15_3 := QB BK159.out 3; have hfz15_4 := QB BK159.out 4; have hfz15_5 := QB BK159.out 5; have hfz15_6 := QB BK159.out 6; have hfz15_7 := QB BK159.out 7; have hfz15_8 := QB BK159.out 8; have hfz15_9 := QB BK159.out 9; have hfz15_10 := QB BK159.out 10; have hfz15_11 := QB BK159.out 11; have hfz15_12 := QB BK159.out 12; have hfz15_13 := QB BK159.out 13))
  go_ret
  exact ⟨by first | rfl | (simp [errW_none,errW_some] <;> rfl) | (simp [*,errW_none,errW_some] <;> rfl),by repeat (first | (with_reducible first | exact HB.out | apply QF | apply QD | apply QE | refine QI ?_ GE159.out) | exact HB.out)⟩

end Go.Proofs.Ytdfmobcocaijpaa.QFnExactChoiceOf
