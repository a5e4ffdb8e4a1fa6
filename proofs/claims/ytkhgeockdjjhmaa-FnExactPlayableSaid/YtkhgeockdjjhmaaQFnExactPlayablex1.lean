/- What a call of each Go function that FnExactPlayable reaches comes to, as a Lean function: texts of the kit's print, turned by wip/remake.py. No condition beyond what each names. -/
import Derived.Test.YtkhgeockdjjhmaaQFnExactPlayablex0
namespace Go.Proofs.Ytkhgeockdjjhmaa.QFnExactPlayable
open Go.RowKit Go.Proofs.YtkhgeockdjjhmaaW.PrintWords Go.Proofs.YtkhgeockdjjhmaaW.PrintLast Go.Proofs.YtkhgeockdjjhmaaW.PrintMore
open Go.Proofs.YtkhgeockdjjhmaaW.PrintWords renaming blk_frozen → QB, blk_cell → QC, pw_below_drewN → QD, blk_drewN → QE, blk_alloc → QF, below_set → QG, below_alloc → QH, below_drew1 → QI, blk_drew → QJ, below_size → QN, gate_callee → QR, blk_below → QT, blk_far → QW, blk_put → QX, below_step → QY
open Go.Proofs.YtkhgeockdjjhmaaW.PrintMore renaming far_r → QK
open Go.Proofs.YtkhgeockdjjhmaaW.PrintWords.Kd renaming C_alloc → QL, C_drewN → QM, C_drew → QO, C_below → QP, R_types → QS, R_alloc → QU, R_drewN → QV, R_drew → QZ, R_mono → Qa
open Go.Proofs.YtkhgeockdjjhmaaW.PrintWords.Aside0 renaming mk → Qb
open Option renaming bind_eq_some_iff → Qc
attribute [local go_sem] max2_int min2_int max_two min_two max_three min_three max_four min_four   -- for this text's walks alone
set_option linter.unusedVariables false
set_option linter.unusedSimpArgs false

/-! ### laws_szIntS: function 94 -/
def laws_szIntS.f (l0 : List Int) (a1 : Int) : Option (Int) := if (wrap64 (a1 - (l0.length : Int))) < 0 then (some (-1)) else (some (wrap64 (a1 - (l0.length : Int))))
set_option maxHeartbeats 8000000 in
set_option maxRecDepth 100000 in
theorem laws_szIntS.calls (A0 : Option Addr) (c0 : Nat) (l0 : List Int) (a1 : Int) (r : Int) (w : World) (hr0 : Kd.C (Kd.int .i64) w A0 l0.length l0) (hc0 : l0.length ≤ c0) (h : laws_szIntS.f l0 a1 = some r) :
  Calls Try.prog 94 #[.slice A0 l0.length c0, .int .i64 a1] w fun e w' => e = .returned (.int .i64 r) ∧ Drawn0 w w' := by
 have HR0 := Qb hr0
 have HC0 := Qb hc0
 clear hr0 hc0
 have H : (if (wrap64 (a1 - (l0.length : Int))) < 0 then (some (-1)) else (some (wrap64 (a1 - (l0.length : Int))))) = some r := h
 clear h
 by_cases c3 : (wrap64 (a1 - (l0.length : Int))) < 0
 ·rw [if_pos c3] at H
  have c3b0 : decide ((wrap64 (a1 - (l0.length : Int))) < 0) = true := decide_eq_true c3
  clear c3
  obtain rfl := Option.some.inj H
  go_enter Try.func94, Try.ntmps94
  go_wp2
  go_ret
  exact ⟨by first | rfl | (simp; done) | (simp [*]; done), by repeat (first | exact Drawn0.refl _ | apply Drawn0.step)⟩
 ·rw [if_neg c3] at H
  have c3b0 : decide ((wrap64 (a1 - (l0.length : Int))) < 0) = false := decide_eq_false c3
  clear c3
  obtain rfl := Option.some.inj H
  go_enter Try.func94, Try.ntmps94
  go_wp2
  go_ret
  exact ⟨by first | rfl | (simp; done) | (simp [*]; done), by repeat (first | exact Drawn0.refl _ | apply Drawn0.step)⟩

/-! ### laws_szRules: function 26 -/
def laws_szRules.f (a0_0 : Int) (a0_1 : Int) (a0_2 : Bool) (a0_3 : Bool) (l0_4 : List Int) (l0_5 : List Int) (a0_6 : Int) (a0_7 : Int) (a1 : Int) : Option (Int) := (laws_szIntS.f l0_4 a1).bind fun t102 => (if t102 < 0 then (some (-1)) else ((laws_szIntS.f l0_5 t102).bind fun t103 => (if t103 < 0 then (some (-1)) else (some t103))))
set_option maxHeartbeats 8000000 in
set_option maxRecDepth 100000 in
theorem laws_szRules.calls (a0_0 : Int) (a0_1 : Int) (a0_2 : Bool) (a0_3 : Bool) (A0_4 : Option Addr) (c0_4 : Nat) (l0_4 : List Int) (A0_5 : Option Addr) (c0_5 : Nat) (l0_5 : List Int) (a0_6 : Int) (a0_7 : Int) (a1 : Int) (r : Int) (w : World) (hr0_4 : Kd.C (Kd.int .i64) w A0_4 l0_4.length l0_4) (hc0_4 : l0_4.length ≤ c0_4) (hr0_5 : Kd.C (Kd.int .i64) w A0_5 l0_5.length l0_5) (hc0_5 : l0_5.length ≤ c0_5) (h : laws_szRules.f a0_0 a0_1 a0_2 a0_3 l0_4 l0_5 a0_6 a0_7 a1 = some r) :
  Calls Try.prog 26 #[.agg #[.int .i64 a0_0, .int .i64 a0_1, .bool a0_2, .bool a0_3, .slice A0_4 l0_4.length c0_4, .slice A0_5 l0_5.length c0_5, .int .i64 a0_6, .int .i64 a0_7], .int .i64 a1] w fun e w' => e = .returned (.int .i64 r) ∧ Below w.heap.size w w' := by
 have hu38 := Try.underlying38
 have HR0_4 := Qb hr0_4
 have HC0_4 := Qb hc0_4
 clear hr0_4 hc0_4
 have HR0_5 := Qb hr0_5
 have HC0_5 := Qb hc0_5
 clear hr0_5 hc0_5
 have HB := Qb (Below.refl w.heap.size w)
 have H : ((laws_szIntS.f l0_4 a1).bind fun t102 => (if t102 < 0 then (some (-1)) else ((laws_szIntS.f l0_5 t102).bind fun t103 => (if t103 < 0 then (some (-1)) else (some t103))))) = some r := h
 clear h
 replace H := Qc.mp H
 obtain ⟨t102, A30, H⟩ := H
 have A3 := Qb A30
 clear A30
 by_cases c4 : t102 < 0
 rotate_left
 rw [if_neg c4] at H
 have c4b0 : decide (t102 < 0) = false := decide_eq_false c4
 clear c4
 replace H := Qc.mp H
 obtain ⟨t103, A70, H⟩ := H
 have A7 := Qb A70
 clear A70
 by_cases c8 : t103 < 0
 rotate_left
 rw [if_neg c8] at H
 have c8b0 : decide (t103 < 0) = false := decide_eq_false c8
 clear c8
 obtain rfl := Option.some.inj H
 rotate_right
 rw [if_pos c8] at H
 have c8b0 : decide (t103 < 0) = true := decide_eq_true c8
 clear c8
 obtain rfl := Option.some.inj H
 rotate_right
 rw [if_pos c4] at H
 have c4b0 : decide (t102 < 0) = true := decide_eq_true c4
 clear c4
 obtain rfl := Option.some.inj H
 all_goals
  go_enter Try.func26, Try.ntmps26
  go_wp2_with (first | ((with_reducible refine gate_dst (N := 2) rfl ?_); refine box_event ?hg (N := 2) ?hd (cs := #[.int .i64 a0_0, .int .i64 a0_1, .bool a0_2, .bool a0_3, .slice A0_4 l0_4.length c0_4, .slice A0_5 l0_5.length c0_5, .int .i64 a0_6, .int .i64 a0_7]) (t := 38) ?hr ?_; (case hd => rfl); (case hg => rfl); (case hr => first | (go_simp; done) | (go_simp; rfl)); intro gb101 hg w11 hbox hb; have n0_ := Qb (QY (by repeat (first | (with_reducible first | exact HB.out | apply QH | apply QD | apply QI) | exact HB.out)) hb); have n1_ := Qb (hbox); have n2_ := Qb ((by rw [hg]; exact (QN (by repeat (first | (with_reducible first | exact HB.out | apply QH | apply QD | apply QI) | exact HB.out))) : w.heap.size ≤ gb101)); have n3_ := Qb ((by rw [hg]; exact (QN (by repeat (first | (with_reducible first | exact HB.out | apply QH | apply QD | apply QI) | exact HB.out))) : w.heap.size ≤ gb101)); clear HB; have HB := n0_; have BK101 := n1_; have GW101 := n2_; have GE101 := n3_; clear n0_ n1_ n2_ n3_; clear hb hbox hg; have hcz12_0 : w11.cell? ⟨gb101, 0, none⟩ = some (.int .i64 a0_0) := (QC BK101.out 0).trans rfl; have hcz12_1 : w11.cell? ⟨gb101, 1, none⟩ = some (.int .i64 a0_1) := (QC BK101.out 1).trans rfl; have hcz12_2 : w11.cell? ⟨gb101, 2, none⟩ = some (.bool a0_2) := (QC BK101.out 2).trans rfl; have hcz12_3 : w11.cell? ⟨gb101, 3, none⟩ = some (.bool a0_3) := (QC BK101.out 3).trans rfl; have hcz12_4 : w11.cell? ⟨gb101, 4, none⟩ = some (.slice A0_4 l0_4.length c0_4) := (QC BK101.out 4).trans rfl; have hcz12_5 : w11.cell? ⟨gb101, 5, none⟩ = some (.slice A0_5 l0_5.length c0_5) := (QC BK101.out 5).trans rfl; have hcz12_6 : w11.cell? ⟨gb101, 6, none⟩ = some (.int .i64 a0_6) := (QC BK101.out 6).trans rfl; have hcz12_7 : w11.cell? ⟨gb101, 7, none⟩ = some (.int .i64 a0_7) := (QC BK101.out 7).trans rfl; have hfz12_0 := QB BK101.out 0; have hfz12_1 := QB BK101.out 1; have hfz12_2 := QB BK101.out 2; have hfz12_3 := QB BK101.out 3; have hfz12_4 := QB BK101.out 4; have hfz12_5 := QB BK101.out 5; have hfz12_6 := QB BK101.out 6; have hfz12_7 := QB BK101.out 7) | ((with_reducible refine QR (f := 94) rfl ?_); refine goesL_ (some 8) rfl rfl Try.func94 (by kernel_rfl) rfl #[.slice A0_4 l0_4.length c0_4, .int .i64 a1] rfl (by (try simp only [List.map_toArray, List.map_cons, List.map_nil]); first | done | rfl | (simp only [List.length_drop, List.length_take]; rfl)) ?_; (with_reducible refine (laws_szIntS.calls _ _ l0_4 a1 t102 _ ?side1 ?side2 A3.out).mono ?_); (case side1 => repeat (first | exact (QP HR0_4.out HB.out) | (with_reducible refine QL ?_ _) | (with_reducible refine QM ?_ _) | (with_reducible refine QO ?_))); (case side2 => exact HC0_4.out); rintro e w' ⟨rfl, ⟨nd, rfl⟩⟩; refine ⟨_, rfl, ?_⟩) | ((with_reducible refine QR (f := 94) rfl ?_); refine goesL_ (some 14) rfl rfl Try.func94 (by kernel_rfl) rfl #[.slice A0_5 l0_5.length c0_5, .int .i64 t102] rfl (by (try simp only [List.map_toArray, List.map_cons, List.map_nil]); first | done | rfl | (simp only [List.length_drop, List.length_take]; rfl)) ?_; (with_reducible refine (laws_szIntS.calls _ _ l0_5 t102 t103 _ ?side1 ?side2 A7.out).mono ?_); (case side1 => repeat (first | exact (QP HR0_5.out (by repeat (first | (with_reducible first | exact HB.out | apply QH | apply QD | apply QI | refine QG ?_ GE101.out) | exact HB.out))) | (with_reducible refine QL ?_ _) | (with_reducible refine QM ?_ _) | (with_reducible refine QO ?_))); (case side2 => exact HC0_5.out); rintro e w' ⟨rfl, ⟨nd, rfl⟩⟩; refine ⟨_, rfl, ?_⟩))
  go_ret
  exact ⟨by first | rfl | (simp [errW_none, errW_some] <;> rfl) | (simp [*, errW_none, errW_some] <;> rfl), by repeat (first | (with_reducible first | exact HB.out | apply QH | apply QD | apply QI | refine QG ?_ GE101.out) | exact HB.out)⟩

/-! ### laws_szIntSS: function 106 -/
def laws_szIntSS.l0 : Nat → List (List Int) → Int → Int → Option (Int)
 | 0, _, _, _ => none
 | k + 1, x0, x1, x5 => if x5 < (x0.length : Int) then (if 0 ≤ x5 then ((laws_szIntS.f (rd_L1 x0 x5) x1).bind fun t105 => (if t105 < 0 then (some (-1)) else (laws_szIntSS.l0 k x0 t105 (wrap64 (x5 + 1))))) else (none)) else (some x1)
def laws_szIntSS.f (k : Nat) (l0 : List (List Int)) (a1 : Int) : Option (Int) := if (wrap64 (a1 - (l0.length : Int))) < 0 then (some (-1)) else (laws_szIntSS.l0 k l0 (wrap64 (a1 - (l0.length : Int))) 0)
theorem laws_szIntSS.mono_l : ∀ k, (∀ y0 y1 y2, LeO (laws_szIntSS.l0 k y0 y1 y2) (laws_szIntSS.l0 (k + 1) y0 y1 y2))
 | 0 => fun _ _ _ r h => by simp [laws_szIntSS.l0] at h
 | k + 1 => by
  have ih0 := laws_szIntSS.mono_l k
  ·intro y0 y1 y2
   unfold laws_szIntSS.l0
   repeat' first
   | (with_reducible exact ih0 _ _ _)
   | (with_reducible exact LeO.refl _)
   | (with_reducible exact LeO.none _)
   | (with_reducible refine LeO.ite ?_ ?_)
   | (with_reducible refine LeO.bind ?_ (fun _ => ?_))
   | exact ih0 _ _ _
   | exact LeO.none _
   | refine LeO.ite ?_ ?_
   | refine LeO.bind ?_ (fun _ => ?_)
theorem laws_szIntSS.mono : ∀ a0 a1 k, LeO (laws_szIntSS.f k a0 a1) (laws_szIntSS.f (k + 1) a0 a1) := by
 intro a0 a1 k
 have ih0 := laws_szIntSS.mono_l k
 unfold laws_szIntSS.f
 repeat' first
   | (with_reducible exact ih0 _ _ _)
   | (with_reducible exact LeO.refl _)
   | (with_reducible exact LeO.none _)
   | (with_reducible refine LeO.ite ?_ ?_)
   | (with_reducible refine LeO.bind ?_ (fun _ => ?_))
   | exact ih0 _ _ _
   | exact LeO.none _
   | refine LeO.ite ?_ ?_
   | refine LeO.bind ?_ (fun _ => ?_)
set_option maxHeartbeats 8000000 in
set_option maxRecDepth 100000 in
theorem laws_szIntSS.calls (k : Nat) (A0 : Option Addr) (c0 : Nat) (l0 : List (List Int)) (a1 : Int) (r : Int) (w : World) (hr0 : Kd.C (Kd.slice 3 (Kd.int .i64)) w A0 l0.length l0) (hc0 : l0.length ≤ c0) (h : laws_szIntSS.f k l0 a1 = some r) :
  Calls Try.prog 106 #[.slice A0 l0.length c0, .int .i64 a1] w fun e w' => e = .returned (.int .i64 r) ∧ Drawn0 w w' := by
 have HR0 := Qb hr0
 have HC0 := Qb hc0
 clear hr0 hc0
 have H : (if (wrap64 (a1 - (l0.length : Int))) < 0 then (some (-1)) else (laws_szIntSS.l0 k l0 (wrap64 (a1 - (l0.length : Int))) 0)) = some r := h
 clear h
 by_cases c3 : (wrap64 (a1 - (l0.length : Int))) < 0
 ·rw [if_pos c3] at H
  have c3b0 : decide ((wrap64 (a1 - (l0.length : Int))) < 0) = true := decide_eq_true c3
  clear c3
  obtain rfl := Option.some.inj H
  go_enter Try.func106, Try.ntmps106
  go_wp2
  go_ret
  exact ⟨by first | rfl | (simp; done) | (simp [*]; done), by repeat (first | exact Drawn0.refl _ | apply Drawn0.step)⟩
 ·rw [if_neg c3] at H
  have c3b0 : decide ((wrap64 (a1 - (l0.length : Int))) < 0) = false := decide_eq_false c3
  clear c3
  have H' := Qb H
  clear H
  go_enter Try.func106, Try.ntmps106
  go_wp2
  go_loopg [1, 5] k (fun kq v1 v5 w' => ∃ (x1_1 : Int) (x5_1 : Int), v1 = .int .i64 x1_1 ∧ v5 = .int .i64 x5_1 ∧ Aside0 (laws_szIntSS.l0 kq l0 x1_1 x5_1 = some r) ∧ Aside0 (kq ≤ k) ∧ Drawn0 w w')
  case atStart => exact ⟨(wrap64 (a1 - (l0.length : Int))), (0), (by first | rfl | (simp; done) | (simp [*]; done)), (by first | rfl | (simp; done) | (simp [*]; done)), H', ⟨Nat.le_refl _⟩, by repeat (first | exact Drawn0.refl _ | apply Drawn0.step)⟩
  case round =>
   clear H'
   try clear c1
   try clear p2
   try clear c3
   try clear c3b0
   obtain ⟨x1_1, x5_1, rfl, rfl, HA, HK1, ⟨m1, rfl⟩⟩ := hrel
   cases gk with
   | zero => exact absurd HA.out (by simp [laws_szIntSS.l0])
   | succ k1 =>
    have H := HA.out
    clear HA
    simp only [laws_szIntSS.l0] at H
    by_cases c4 : x5_1 < (l0.length : Int)
    ·rw [if_pos c4] at H
     have c4b0 : decide (x5_1 < (l0.length : Int)) = true := decide_eq_true c4
     clear c4
     by_cases c5 : 0 ≤ x5_1
     ·rw [if_pos c5] at H
      have c5b0 : decide (0 ≤ x5_1) = true := decide_eq_true c5
      clear c5
      replace H := Qc.mp H
      obtain ⟨t105, A60, H⟩ := H
      have A6 := Qb A60
      clear A60
      by_cases c7 : t105 < 0
      ·rw [if_pos c7] at H
       have c7b0 : decide (t105 < 0) = true := decide_eq_true c7
       clear c7
       obtain rfl := Option.some.inj H
       have p104 : 0 ≤ (x5_1 : Int) := of_decide_eq_true (by first | (with_reducible assumption) | assumption)
       have q104 : x5_1 < (l0.length : Int) := of_decide_eq_true (by first | (with_reducible assumption) | assumption)
       obtain ⟨ad104, A104_0, c104_0, e104, hx104_0, hl104_0, hi104_0⟩ := at_L1 HR0.out x5_1 p104 q104
       cases e104
       have HR104_0 := Qb hi104_0
       have HC104_0 := Qb hl104_0
       clear hi104_0 hl104_0
       replace p104 := eq_true p104
       replace q104 := eq_true q104
       go_wp2_with (first | ((with_reducible refine QR (f := 94) rfl ?_); refine goesL_ (some 23) rfl rfl Try.func94 (by kernel_rfl) rfl #[.slice A104_0 (rd_L1 l0 x5_1).length c104_0, .int .i64 x1_1] rfl (by (try simp only [List.map_toArray, List.map_cons, List.map_nil]); first | done | rfl | (simp only [List.length_drop, List.length_take]; rfl)) ?_; (with_reducible refine (laws_szIntS.calls _ _ (rd_L1 l0 x5_1) x1_1 t105 _ ?side1 ?side2 A6.out).mono ?_); (case side1 => repeat (first | exact HR104_0.out | (with_reducible refine QL ?_ _) | (with_reducible refine QM ?_ _) | (with_reducible refine QO ?_))); (case side2 => exact HC104_0.out); rintro e w' ⟨rfl, ⟨nd, rfl⟩⟩; refine ⟨_, rfl, ?_⟩))
       go_ret
       exact ⟨by first | rfl | (simp; done) | (simp [*]; done), by repeat (first | exact Drawn0.refl _ | apply Drawn0.step)⟩
      ·rw [if_neg c7] at H
       have c7b0 : decide (t105 < 0) = false := decide_eq_false c7
       clear c7
       have H' := Qb H
       clear H
       have p104 : 0 ≤ (x5_1 : Int) := of_decide_eq_true (by first | (with_reducible assumption) | assumption)
       have q104 : x5_1 < (l0.length : Int) := of_decide_eq_true (by first | (with_reducible assumption) | assumption)
       obtain ⟨ad104, A104_0, c104_0, e104, hx104_0, hl104_0, hi104_0⟩ := at_L1 HR0.out x5_1 p104 q104
       cases e104
       have HR104_0 := Qb hi104_0
       have HC104_0 := Qb hl104_0
       clear hi104_0 hl104_0
       replace p104 := eq_true p104
       replace q104 := eq_true q104
       go_wp2_with (first | ((with_reducible refine QR (f := 94) rfl ?_); refine goesL_ (some 23) rfl rfl Try.func94 (by kernel_rfl) rfl #[.slice A104_0 (rd_L1 l0 x5_1).length c104_0, .int .i64 x1_1] rfl (by (try simp only [List.map_toArray, List.map_cons, List.map_nil]); first | done | rfl | (simp only [List.length_drop, List.length_take]; rfl)) ?_; (with_reducible refine (laws_szIntS.calls _ _ (rd_L1 l0 x5_1) x1_1 t105 _ ?side1 ?side2 A6.out).mono ?_); (case side1 => repeat (first | exact HR104_0.out | (with_reducible refine QL ?_ _) | (with_reducible refine QM ?_ _) | (with_reducible refine QO ?_))); (case side2 => exact HC104_0.out); rintro e w' ⟨rfl, ⟨nd, rfl⟩⟩; refine ⟨_, rfl, ?_⟩))
       go_roundg k1
       case measure => have := HK1.out; omega
       case rel => exact ⟨(t105), (wrap64 (x5_1 + 1)), (by first | rfl | (simp; done) | (simp [*]; done)), (by first | rfl | (simp; done) | (simp [*]; done)), H', ⟨by have := HK1.out; omega⟩, by repeat (first | exact Drawn0.refl _ | apply Drawn0.step)⟩
     ·rw [if_neg c5] at H
      exact absurd H (by simp)
    ·rw [if_neg c4] at H
     have c4b0 : decide (x5_1 < (l0.length : Int)) = false := decide_eq_false c4
     clear c4
     obtain rfl := Option.some.inj H
     go_wp2
     go_ret
     exact ⟨by first | rfl | (simp; done) | (simp [*]; done), by repeat (first | exact Drawn0.refl _ | apply Drawn0.step)⟩

/-! ### laws_szGame: function 43 -/
def laws_szGame.f (k : Nat) (a0_0 : Int) (a0_1 : Int) (a0_2 : Bool) (a0_3 : Bool) (l0_4 : List Int) (l0_5 : List Int) (a0_6 : Int) (a0_7 : Int) (l0_8 : List (List Int)) (l0_9 : List Int) (l0_10 : List Int) (a0_11 : Int) (a0_12 : Int) (a0_13 : Int) (a1 : Int) : Option (Int) := (laws_szRules.f a0_0 a0_1 a0_2 a0_3 l0_4 l0_5 a0_6 a0_7 a1).bind fun t107 => (if t107 < 0 then (some (-1)) else ((laws_szIntSS.f k l0_8 t107).bind fun t108 => (if t108 < 0 then (some (-1)) else ((laws_szIntS.f l0_9 t108).bind fun t109 => (if t109 < 0 then (some (-1)) else ((laws_szIntS.f l0_10 t109).bind fun t110 => (if t110 < 0 then (some (-1)) else (some t110))))))))
theorem laws_szGame.mono : ∀ a0 a1 a2 a3 a4 a5 a6 a7 a8 a9 a10 a11 a12 a13 a14 k, LeO (laws_szGame.f k a0 a1 a2 a3 a4 a5 a6 a7 a8 a9 a10 a11 a12 a13 a14) (laws_szGame.f (k + 1) a0 a1 a2 a3 a4 a5 a6 a7 a8 a9 a10 a11 a12 a13 a14) := by
 intro a0 a1 a2 a3 a4 a5 a6 a7 a8 a9 a10 a11 a12 a13 a14 k
 unfold laws_szGame.f
 repeat' first
   | (with_reducible exact laws_szIntSS.mono _ _ _)
   | (with_reducible exact LeO.refl _)
   | (with_reducible exact LeO.none _)
   | (with_reducible refine LeO.ite ?_ ?_)
   | (with_reducible refine LeO.bind ?_ (fun _ => ?_))
   | exact laws_szIntSS.mono _ _ _
   | exact LeO.none _
   | refine LeO.ite ?_ ?_
   | refine LeO.bind ?_ (fun _ => ?_)
set_option maxHeartbeats 8000000 in
set_option maxRecDepth 100000 in
theorem laws_szGame.calls (k : Nat) (a0_0 : Int) (a0_1 : Int) (a0_2 : Bool) (a0_3 : Bool) (A0_4 : Option Addr) (c0_4 : Nat) (l0_4 : List Int) (A0_5 : Option Addr) (c0_5 : Nat) (l0_5 : List Int) (a0_6 : Int) (a0_7 : Int) (A0_8 : Option Addr) (c0_8 : Nat) (l0_8 : List (List Int)) (A0_9 : Option Addr) (c0_9 : Nat) (l0_9 : List Int) (A0_10 : Option Addr) (c0_10 : Nat) (l0_10 : List Int) (a0_11 : Int) (a0_12 : Int) (a0_13 : Int) (a1 : Int) (r : Int) (w : World) (hr0_4 : Kd.C (Kd.int .i64) w A0_4 l0_4.length l0_4) (hc0_4 : l0_4.length ≤ c0_4) (hr0_5 : Kd.C (Kd.int .i64) w A0_5 l0_5.length l0_5) (hc0_5 : l0_5.length ≤ c0_5) (hr0_8 : Kd.C (Kd.slice 3 (Kd.int .i64)) w A0_8 l0_8.length l0_8) (hc0_8 : l0_8.length ≤ c0_8) (hr0_9 : Kd.C (Kd.int .i64) w A0_9 l0_9.length l0_9) (hc0_9 : l0_9.length ≤ c0_9) (hr0_10 : Kd.C (Kd.int .i64) w A0_10 l0_10.length l0_10) (hc0_10 : l0_10.length ≤ c0_10) (h : laws_szGame.f k a0_0 a0_1 a0_2 a0_3 l0_4 l0_5 a0_6 a0_7 l0_8 l0_9 l0_10 a0_11 a0_12 a0_13 a1 = some r) :
  Calls Try.prog 43 #[.agg #[.int .i64 a0_0, .int .i64 a0_1, .bool a0_2, .bool a0_3, .slice A0_4 l0_4.length c0_4, .slice A0_5 l0_5.length c0_5, .int .i64 a0_6, .int .i64 a0_7, .slice A0_8 l0_8.length c0_8, .slice A0_9 l0_9.length c0_9, .slice A0_10 l0_10.length c0_10, .int .i64 a0_11, .int .i64 a0_12, .int .i64 a0_13], .int .i64 a1] w fun e w' => e = .returned (.int .i64 r) ∧ Below w.heap.size w w' := by
 have hu55 := Try.underlying55
 have hu38 := Try.underlying38
 have HR0_4 := Qb hr0_4
 have HC0_4 := Qb hc0_4
 clear hr0_4 hc0_4
 have HR0_5 := Qb hr0_5
 have HC0_5 := Qb hc0_5
 clear hr0_5 hc0_5
 have HR0_8 := Qb hr0_8
 have HC0_8 := Qb hc0_8
 clear hr0_8 hc0_8
 have HR0_9 := Qb hr0_9
 have HC0_9 := Qb hc0_9
 clear hr0_9 hc0_9
 have HR0_10 := Qb hr0_10
 have HC0_10 := Qb hc0_10
 clear hr0_10 hc0_10
 have HB := Qb (Below.refl w.heap.size w)
 have H : ((laws_szRules.f a0_0 a0_1 a0_2 a0_3 l0_4 l0_5 a0_6 a0_7 a1).bind fun t107 => (if t107 < 0 then (some (-1)) else ((laws_szIntSS.f k l0_8 t107).bind fun t108 => (if t108 < 0 then (some (-1)) else ((laws_szIntS.f l0_9 t108).bind fun t109 => (if t109 < 0 then (some (-1)) else ((laws_szIntS.f l0_10 t109).bind fun t110 => (if t110 < 0 then (some (-1)) else (some t110))))))))) = some r := h
 clear h
 replace H := Qc.mp H
 obtain ⟨t107, A30, H⟩ := H
 have A3 := Qb A30
 clear A30
 by_cases c4 : t107 < 0
 rotate_left
 rw [if_neg c4] at H
 have c4b0 : decide (t107 < 0) = false := decide_eq_false c4
 clear c4
 replace H := Qc.mp H
 obtain ⟨t108, A80, H⟩ := H
 have A8 := Qb A80
 clear A80
 by_cases c9 : t108 < 0
 rotate_left
 rw [if_neg c9] at H
 have c9b0 : decide (t108 < 0) = false := decide_eq_false c9
 clear c9
 replace H := Qc.mp H
 obtain ⟨t109, A140, H⟩ := H
 have A14 := Qb A140
 clear A140
 by_cases c15 : t109 < 0
 rotate_left
 rw [if_neg c15] at H
 have c15b0 : decide (t109 < 0) = false := decide_eq_false c15
 clear c15
 replace H := Qc.mp H
 obtain ⟨t110, A200, H⟩ := H
 have A20 := Qb A200
 clear A200
 by_cases c21 : t110 < 0
 rotate_left
 rw [if_neg c21] at H
 have c21b0 : decide (t110 < 0) = false := decide_eq_false c21
 clear c21
 obtain rfl := Option.some.inj H
 rotate_right
 rw [if_pos c21] at H
 have c21b0 : decide (t110 < 0) = true := decide_eq_true c21
 clear c21
 obtain rfl := Option.some.inj H
 rotate_right
 rw [if_pos c15] at H
 have c15b0 : decide (t109 < 0) = true := decide_eq_true c15
 clear c15
 obtain rfl := Option.some.inj H
 rotate_right
 rw [if_pos c9] at H
 have c9b0 : decide (t108 < 0) = true := decide_eq_true c9
 clear c9
 obtain rfl := Option.some.inj H
 rotate_right
 rw [if_pos c4] at H
 have c4b0 : decide (t107 < 0) = true := decide_eq_true c4
 clear c4
 obtain rfl := Option.some.inj H
 all_goals
  go_enter Try.func43, Try.ntmps43
  go_wp2_with (first | ((with_reducible refine gate_dst (N := 2) rfl ?_); refine box_event ?hg (N := 2) ?hd (cs := #[.int .i64 a0_0, .int .i64 a0_1, .bool a0_2, .bool a0_3, .slice A0_4 l0_4.length c0_4, .slice A0_5 l0_5.length c0_5, .int .i64 a0_6, .int .i64 a0_7, .slice A0_8 l0_8.length c0_8, .slice A0_9 l0_9.length c0_9, .slice A0_10 l0_10.length c0_10, .int .i64 a0_11, .int .i64 a0_12, .int .i64 a0_13]) (t := 55) ?hr ?_; (case hd => rfl); (case hg => rfl); (case hr => first | (go_simp; done) | (go_simp; rfl)); intro gb106 hg w22 hbox hb; have n0_ := Qb (QY (by repeat (first | (with_reducible first | exact HB.out | apply QH | apply QD | apply QI) | exact HB.out)) hb); have n1_ := Qb (hbox); have n2_ := Qb ((by rw [hg]; exact (QN (by repeat (first | (with_reducible first | exact HB.out | apply QH | apply QD | apply QI) | exact HB.out))) : w.heap.size ≤ gb106)); have n3_ := Qb ((by rw [hg]; exact (QN (by repeat (first | (with_reducible first | exact HB.out | apply QH | apply QD | apply QI) | exact HB.out))) : w.heap.size ≤ gb106)); clear HB; have HB := n0_; have BK106 := n1_; have GW106 := n2_; have GE106 := n3_; clear n0_ n1_ n2_ n3_; clear hb hbox hg; have hcz23_0 : w22.cell? ⟨gb106, 0, none⟩ = some (.int .i64 a0_0) := (QC BK106.out 0).trans rfl; have hcz23_1 : w22.cell? ⟨gb106, 1, none⟩ = some (.int .i64 a0_1) := (QC BK106.out 1).trans rfl; have hcz23_2 : w22.cell? ⟨gb106, 2, none⟩ = some (.bool a0_2) := (QC BK106.out 2).trans rfl; have hcz23_3 : w22.cell? ⟨gb106, 3, none⟩ = some (.bool a0_3) := (QC BK106.out 3).trans rfl; have hcz23_4 : w22.cell? ⟨gb106, 4, none⟩ = some (.slice A0_4 l0_4.length c0_4) := (QC BK106.out 4).trans rfl; have hcz23_5 : w22.cell? ⟨gb106, 5, none⟩ = some (.slice A0_5 l0_5.length c0_5) := (QC BK106.out 5).trans rfl; have hcz23_6 : w22.cell? ⟨gb106, 6, none⟩ = some (.int .i64 a0_6) := (QC BK106.out 6).trans rfl; have hcz23_7 : w22.cell? ⟨gb106, 7, none⟩ = some (.int .i64 a0_7) := (QC BK106.out 7).trans rfl; have hcz23_8 : w22.cell? ⟨gb106, 8, none⟩ = some (.slice A0_8 l0_8.length c0_8) := (QC BK106.out 8).trans rfl; have hcz23_9 : w22.cell? ⟨gb106, 9, none⟩ = some (.slice A0_9 l0_9.length c0_9) := (QC BK106.out 9).trans rfl; have hcz23_10 : w22.cell? ⟨gb106, 10, none⟩ = some (.slice A0_10 l0_10.length c0_10) := (QC BK106.out 10).trans rfl; have hcz23_11 : w22.cell? ⟨gb106, 11, none⟩ = some (.int .i64 a0_11) := (QC BK106.out 11).trans rfl; have hcz23_12 : w22.cell? ⟨gb106, 12, none⟩ = some (.int .i64 a0_12) := (QC BK106.out 12).trans rfl; have hcz23_13 : w22.cell? ⟨gb106, 13, none⟩ = some (.int .i64 a0_13) := (QC BK106.out 13).trans rfl; have hfz23_0 := QB BK106.out 0; have hfz23_1 := QB BK106.out 1; have hfz23_2 := QB BK106.out 2; have hfz23_3 := QB BK106.out 3; have hfz23_4 := QB BK106.out 4; have hfz23_5 := QB BK106.out 5; have hfz23_6 := QB BK106.out 6; have hfz23_7 := QB BK106.out 7; have hfz23_8 := QB BK106.out 8; have hfz23_9 := QB BK106.out 9; have hfz23_10 := QB BK106.out 10; have hfz23_11 := QB BK106.out 11; have hfz23_12 := QB BK106.out 12; have hfz23_13 := QB BK106.out 13) | ((with_reducible refine QR (f := 26) rfl ?_); refine goesL_ (some 8) rfl rfl Try.func26 (by kernel_rfl) rfl #[.agg #[.int .i64 a0_0, .int .i64 a0_1, .bool a0_2, .bool a0_3, .slice A0_4 l0_4.length c0_4, .slice A0_5 l0_5.length c0_5, .int .i64 a0_6, .int .i64 a0_7], .int .i64 a1] rfl (by (try simp only [List.map_toArray, List.map_cons, List.map_nil]); first | done | rfl | (simp only [List.length_drop, List.length_take]; rfl)) ?_; (with_reducible refine (laws_szRules.calls a0_0 a0_1 a0_2 a0_3 _ _ l0_4 _ _ l0_5 a0_6 a0_7 a1 t107 _ ?side1 ?side2 ?side3 ?side4 A3.out).mono ?_); (case side1 => repeat (first | exact (QP HR0_4.out HB.out) | (with_reducible refine QL ?_ _) | (with_reducible refine QM ?_ _) | (with_reducible refine QO ?_))); (case side2 => exact HC0_4.out); (case side3 => repeat (first | exact (QP HR0_5.out HB.out) | (with_reducible refine QL ?_ _) | (with_reducible refine QM ?_ _) | (with_reducible refine QO ?_))); (case side4 => exact HC0_5.out); rintro e w24 ⟨rfl, hb⟩; refine ⟨_, rfl, ?_⟩; have n0_ := Qb (QT (g := gb106) (o := _) (by (with_reducible repeat (first | refine QE ?_ _ | refine QJ ?_ | refine QF ?_ _)); exact BK106.out) hb); have n1_ := Qb (QY (by repeat (first | (with_reducible first | exact HB.out | apply QH | apply QD | apply QI | refine QG ?_ GE106.out) | exact HB.out)) hb); clear BK106; clear HB; have BK106 := n0_; have HB := n1_; clear n0_ n1_; (try clear hb); (try clear hb2); (try clear hk); (try clear hi); have hcz25_0 : w24.cell? ⟨gb106, 0, none⟩ = some (.int .i64 a0_0) := (QC BK106.out 0).trans rfl; have hcz25_1 : w24.cell? ⟨gb106, 1, none⟩ = some (.int .i64 a0_1) := (QC BK106.out 1).trans rfl; have hcz25_2 : w24.cell? ⟨gb106, 2, none⟩ = some (.bool a0_2) := (QC BK106.out 2).trans rfl; have hcz25_3 : w24.cell? ⟨gb106, 3, none⟩ = some (.bool a0_3) := (QC BK106.out 3).trans rfl; have hcz25_4 : w24.cell? ⟨gb106, 4, none⟩ = some (.slice A0_4 l0_4.length c0_4) := (QC BK106.out 4).trans rfl; have hcz25_5 : w24.cell? ⟨gb106, 5, none⟩ = some (.slice A0_5 l0_5.length c0_5) := (QC BK106.out 5).trans rfl; have hcz25_6 : w24.cell? ⟨gb106, 6, none⟩ = some (.int .i64 a0_6) := (QC BK106.out 6).trans rfl; have hcz25_7 : w24.cell? ⟨gb106, 7, none⟩ = some (.int .i64 a0_7) := (QC BK106.out 7).trans rfl; have hcz25_8 : w24.cell? ⟨gb106, 8, none⟩ = some (.slice A0_8 l0_8.length c0_8) := (QC BK106.out 8).trans rfl; have hcz25_9 : w24.cell? ⟨gb106, 9, none⟩ = some (.slice A0_9 l0_9.length c0_9) := (QC BK106.out 9).trans rfl; have hcz25_10 : w24.cell? ⟨gb106, 10, none⟩ = some (.slice A0_10 l0_10.length c0_10) := (QC BK106.out 10).trans rfl; have hcz25_11 : w24.cell? ⟨gb106, 11, none⟩ = some (.int .i64 a0_11) := (QC BK106.out 11).trans rfl; have hcz25_12 : w24.cell? ⟨gb106, 12, none⟩ = some (.int .i64 a0_12) := (QC BK106.out 12).trans rfl; have hcz25_13 : w24.cell? ⟨gb106, 13, none⟩ = some (.int .i64 a0_13) := (QC BK106.out 13).trans rfl; have hfz25_0 := QB BK106.out 0; have hfz25_1 := QB BK106.out 1; have hfz25_2 := QB BK106.out 2; have hfz25_3 := QB BK106.out 3; have hfz25_4 := QB BK106.out 4; have hfz25_5 := QB BK106.out 5; have hfz25_6 := QB BK106.out 6; have hfz25_7 := QB BK106.out 7; have hfz25_8 := QB BK106.out 8; have hfz25_9 := QB BK106.out 9; have hfz25_10 := QB BK106.out 10; have hfz25_11 := QB BK106.out 11; have hfz25_12 := QB BK106.out 12; have hfz25_13 := QB BK106.out 13) | ((with_reducible refine QR (f := 106) rfl ?_); refine goesL_ (some 14) rfl rfl Try.func106 (by kernel_rfl) rfl #[.slice A0_8 l0_8.length c0_8, .int .i64 t107] rfl (by (try simp only [List.map_toArray, List.map_cons, List.map_nil]); first | done | rfl | (simp only [List.length_drop, List.length_take]; rfl)) ?_; (with_reducible refine (laws_szIntSS.calls k _ _ l0_8 t107 t108 _ ?side1 ?side2 A8.out).mono ?_); (case side1 => repeat (first | exact (QP HR0_8.out HB.out) | (with_reducible refine QL ?_ _) | (with_reducible refine QM ?_ _) | (with_reducible refine QO ?_))); (case side2 => exact HC0_8.out); rintro e w' ⟨rfl, ⟨nd, rfl⟩⟩; refine ⟨_, rfl, ?_⟩) | ((with_reducible refine QR (f := 94) rfl ?_); refine goesL_ (some 20) rfl rfl Try.func94 (by kernel_rfl) rfl #[.slice A0_9 l0_9.length c0_9, .int .i64 t108] rfl (by (try simp only [List.map_toArray, List.map_cons, List.map_nil]); first | done | rfl | (simp only [List.length_drop, List.length_take]; rfl)) ?_; (with_reducible refine (laws_szIntS.calls _ _ l0_9 t108 t109 _ ?side1 ?side2 A14.out).mono ?_); (case side1 => repeat (first | exact (QP HR0_9.out (by repeat (first | (with_reducible first | exact HB.out | apply QH | apply QD | apply QI | refine QG ?_ GE106.out) | exact HB.out))) | (with_reducible refine QL ?_ _) | (with_reducible refine QM ?_ _) | (with_reducible refine QO ?_))); (case side2 => exact HC0_9.out); rintro e w' ⟨rfl, ⟨nd, rfl⟩⟩; refine ⟨_, rfl, ?_⟩) | ((with_reducible refine QR (f := 94) rfl ?_); refine goesL_ (some 26) rfl rfl Try.func94 (by kernel_rfl) rfl #[.slice A0_10 l0_10.length c0_10, .int .i64 t109] rfl (by (try simp only [List.map_toArray, List.map_cons, List.map_nil]); first | done | rfl | (simp only [List.length_drop, List.length_take]; rfl)) ?_; (with_reducible refine (laws_szIntS.calls _ _ l0_10 t109 t110 _ ?side1 ?side2 A20.out).mono ?_); (case side1 => repeat (first | exact (QP HR0_10.out (by repeat (first | (with_reducible first | exact HB.out | apply QH | apply QD | apply QI | refine QG ?_ GE106.out) | exact HB.out))) | (with_reducible refine QL ?_ _) | (with_reducible refine QM ?_ _) | (with_reducible refine QO ?_))); (case side2 => exact HC0_10.out); rintro e w' ⟨rfl, ⟨nd, rfl⟩⟩; refine ⟨_, rfl, ?_⟩))
  go_ret
  exact ⟨by first | rfl | (simp [errW_none, errW_some] <;> rfl) | (simp [*, errW_none, errW_some] <;> rfl), by repeat (first | (with_reducible first | exact HB.out | apply QH | apply QD | apply QI | refine QG ?_ GE106.out) | exact HB.out)⟩

/-! ### laws_toIntS: function 96 -/
def laws_toIntS.l0 : Nat → List Int → List Int → Int → Option (List Int)
 | 0, _, _, _ => none
 | k + 1, x0, x3, x4 => if x4 < (x0.length : Int) then (if 0 ≤ x4 then (if x4 < (x3.length : Int) then (laws_toIntS.l0 k x0 (x3.set (x4 : Int).toNat (rd x0 x4)) (wrap64 (x4 + 1))) else (none)) else (none)) else (some x3)
def laws_toIntS.f (k : Nat) (l0 : List Int) : Option (List Int) := if 0 ≤ (l0.length : Int) then (if ((l0.length : Int) : Int).toNat ≤ 35184372088832 then (laws_toIntS.l0 k l0 (List.replicate ((l0.length : Int) : Int).toNat 0) 0) else (none)) else (none)
theorem laws_toIntS.mono_l : ∀ k, (∀ y0 y1 y2, LeO (laws_toIntS.l0 k y0 y1 y2) (laws_toIntS.l0 (k + 1) y0 y1 y2))
 | 0 => fun _ _ _ r h => by simp [laws_toIntS.l0] at h
 | k + 1 => by
  have ih0 := laws_toIntS.mono_l k
  ·intro y0 y1 y2
   unfold laws_toIntS.l0
   repeat' first
   | (with_reducible exact ih0 _ _ _)
   | (with_reducible exact LeO.refl _)
   | (with_reducible exact LeO.none _)
   | (with_reducible refine LeO.ite ?_ ?_)
   | (with_reducible refine LeO.bind ?_ (fun _ => ?_))
   | exact ih0 _ _ _
   | exact LeO.none _
   | refine LeO.ite ?_ ?_
   | refine LeO.bind ?_ (fun _ => ?_)
theorem laws_toIntS.mono : ∀ a0 k, LeO (laws_toIntS.f k a0) (laws_toIntS.f (k + 1) a0) := by
 intro a0 k
 have ih0 := laws_toIntS.mono_l k
 unfold laws_toIntS.f
 repeat' first
   | (with_reducible exact ih0 _ _ _)
   | (with_reducible exact LeO.refl _)
   | (with_reducible exact LeO.none _)
   | (with_reducible refine LeO.ite ?_ ?_)
   | (with_reducible refine LeO.bind ?_ (fun _ => ?_))
   | exact ih0 _ _ _
   | exact LeO.none _
   | refine LeO.ite ?_ ?_
   | refine LeO.bind ?_ (fun _ => ?_)
set_option maxHeartbeats 8000000 in
set_option maxRecDepth 100000 in
theorem laws_toIntS.calls (k : Nat) (A0 : Option Addr) (c0 : Nat) (l0 : List Int) (r : List Int) (w : World) (hr0 : Kd.C (Kd.int .i64) w A0 l0.length l0) (hc0 : l0.length ≤ c0) (h : laws_toIntS.f k l0 = some r) :
  Calls Try.prog 96 #[.slice A0 l0.length c0] w fun e w' => ∃ v0_ : Value, e = .returned (v0_) ∧ Kd.R (Kd.int .i64) 3 w' w.heap.size (fun _ => True) v0_ r ∧ Below w.heap.size w w' := by
 have HR0 := Qb hr0
 have HC0 := Qb hc0
 clear hr0 hc0
 have HB := Qb (Below.refl w.heap.size w)
 have H : (if 0 ≤ (l0.length : Int) then (if ((l0.length : Int) : Int).toNat ≤ 35184372088832 then (laws_toIntS.l0 k l0 (List.replicate ((l0.length : Int) : Int).toNat 0) 0) else (none)) else (none)) = some r := h
 clear h
 by_cases c2 : 0 ≤ (l0.length : Int)
 ·rw [if_pos c2] at H
  have c2b0 := eq_true c2
  have c2b1 : decide (0 ≤ (l0.length : Int)) = true := decide_eq_true c2
  clear c2
  by_cases c3 : ((l0.length : Int) : Int).toNat ≤ 35184372088832
  ·rw [if_pos c3] at H
   have c3b0 := eq_true c3
   have c3b1 : decide (((l0.length : Int) : Int).toNat ≤ 35184372088832) = true := decide_eq_true c3
   clear c3
   obtain ⟨y111, hy111⟩ : ∃ y_ : List Int, y_ = (List.replicate ((l0.length : Int) : Int).toNat 0) := ⟨_, rfl⟩
   replace H : (laws_toIntS.l0 k l0 y111 0) = some r := by first | (rw [hy111]; with_reducible exact H) | (have H2_ := (Option.bind_some _ _).symm.trans H; rw [hy111]; with_reducible exact H2_) | (have H2_ := (Option.bind_some _ _).symm.trans H; with_reducible exact H2_) | with_reducible exact H | (rw [hy111]; exact H) | exact H
   have Ny111 := Qb hy111
   clear hy111
   have H' := Qb H
   clear H
   go_enter Try.func96, Try.ntmps96
   go_wp2_with (first | ((with_reducible refine gate_dst (N := 7) rfl ?_); refine Kd.R_make (Kd.int .i64) _ 3 rfl (N := 7) rfl 24 _ _ rfl (l0.length : Int) rfl rfl Try.underlying24 (.int .i64 0) 8 info3 rfl (by decide) (by omega) 0 (ok := fun _ => True) (okp := fun _ => True) rfl (fun _ hk => hk) trivial (of_decide_eq_true (by first | (with_reducible assumption) | assumption)) (Nat.le_trans (Nat.mul_le_mul_right _ (of_decide_eq_true (by first | (with_reducible assumption) | assumption) : (l0.length : Int).toNat ≤ 35184372088832)) (by omega)) (Below.refl _ _) (Nat.le_refl _) ?_; intro v112 w4 ho5 hb hg_ hnew_; clear hg_ hnew_; (first | rw [← Ny111.out] at ho5 | (simp only [Int.reduceToNat] at ho5; rw [← Ny111.out] at ho5)); have n0_ := Qb (Kd.R_lower ho5 (QN (by repeat (first | (with_reducible first | exact HB.out | apply QH | apply QD | apply QI) | exact HB.out)))); have n1_ := Qb (QY (by repeat (first | (with_reducible first | exact HB.out | apply QH | apply QD | apply QI) | exact HB.out)) hb); clear HB; have HO113 := n0_; have HB := n1_; clear n0_ n1_; clear hb ho5))
   go_loopg [4] k (fun kq v4 w' => ∃ (x3_1 : List Int) (x4_1 : Int), v4 = .int .i64 x4_1 ∧ Aside0 (laws_toIntS.l0 kq l0 x3_1 x4_1 = some r) ∧ Aside0 (kq ≤ k) ∧ Aside0 (Kd.R (Kd.int .i64) 3 w' w.heap.size (fun _ => True) v112 x3_1) ∧ Aside0 (Below w.heap.size w w'))
   case atStart => exact ⟨(y111), (0), (by first | rfl | (simp; done) | (simp [*]; done)), H', ⟨Nat.le_refl _⟩, ⟨by (with_reducible repeat (first | apply QU | apply QV | apply QZ)); exact HO113.out⟩, ⟨by repeat (first | (with_reducible first | exact HB.out | apply QH | apply QD | apply QI) | exact HB.out)⟩⟩
   case round =>
    clear H'
    try clear c2
    try clear c2b0
    try clear c2b1
    try clear p2
    try clear c3
    try clear c3b0
    try clear c3b1
    obtain ⟨x3_1, x4_1, rfl, HA, HK1, HO_3, HB⟩ := hrel
    cases gk with
    | zero => exact absurd HA.out (by simp [laws_toIntS.l0])
    | succ k1 =>
     have H := HA.out
     clear HA
     simp only [laws_toIntS.l0] at H
     by_cases c6 : x4_1 < (l0.length : Int)
     ·rw [if_pos c6] at H
      have c6b0 : decide (x4_1 < (l0.length : Int)) = true := decide_eq_true c6
      clear c6
      by_cases c7 : 0 ≤ x4_1
      ·rw [if_pos c7] at H
       have c7b0 : decide (0 ≤ x4_1) = true := decide_eq_true c7
       clear c7
       by_cases c8 : x4_1 < (x3_1.length : Int)
       ·rw [if_pos c8] at H
        have c8b0 : decide (x4_1 < (x3_1.length : Int)) = true := decide_eq_true c8
        clear c8
        obtain ⟨y115, hy115⟩ : ∃ y_ : List Int, y_ = (x3_1.set (x4_1 : Int).toNat (rd l0 x4_1)) := ⟨_, rfl⟩
        replace H : (laws_toIntS.l0 k1 l0 y115 (wrap64 (x4_1 + 1))) = some r := by first | (rw [hy115]; with_reducible exact H) | (have H2_ := (Option.bind_some _ _).symm.trans H; rw [hy115]; with_reducible exact H2_) | (have H2_ := (Option.bind_some _ _).symm.trans H; with_reducible exact H2_) | with_reducible exact H | (rw [hy115]; exact H) | exact H
        have Ny115 := Qb hy115
        clear hy115
        have H' := Qb H
        clear H
        have p114 : 0 ≤ (x4_1 : Int) := of_decide_eq_true (by first | (with_reducible assumption) | assumption)
        have q114 : x4_1 < (l0.length : Int) := of_decide_eq_true (by first | (with_reducible assumption) | assumption)
        obtain ⟨ad114, e114, hx114_0⟩ := Kd.at_int HR0.out x4_1 p114 q114
        cases e114
        replace hx114_0 := (HB.out.cell (World.block_lt_of_cell? w _ hx114_0)).trans hx114_0
        replace p114 := eq_true p114
        replace q114 := eq_true q114
        have p9 : 0 ≤ (x4_1 : Int) := of_decide_eq_true (by first | (with_reducible assumption) | assumption)
        have q9 : (x4_1 : Int) < ((x3_1.length : Int) : Int) := of_decide_eq_true (by first | (with_reducible assumption) | assumption)
        obtain ⟨go9, co9, eo9, gb9, gl9, cl9, HG9⟩ := Kd.R_form HO_3.out (by omega)
        (first | cases eo9 | (injection eo9 with ea_ en_ ec_; (first | subst ea_ | (injection ea_ with ea_; subst ea_)); subst ec_; clear en_))
        have GB9 := Qb gb9
        have GG9 := Qb HG9
        clear gb9 gl9 HG9
        obtain ⟨hx9_0, hf9_0⟩ := Kd.R_celln 0 HO_3.out (x4_1 : Int) p9 q9
        replace p9 := eq_true p9
        replace q9 := eq_true q9
        have HP10 := Kd.R_putg HO_3.out (x4_1 : Int) (rd l0 x4_1)
        go_wp2_with (first | ((with_reducible refine gate_store (t := 3) (p := 20) rfl ?_); refine store_event (t := 3) (p := 20) (v := ?vo_w11) (w1 := (wr.setCell ⟨go9, (x4_1 : Int).toNat, none⟩ (.int .i64 (rd l0 x4_1)))) ?hg ?ho ?hn ?hr ?_; (case ho => rfl); (case hg => rfl); (case hn => rfl); (case hr => first | (go_simp; done) | (go_simp; rfl)); intro w11 hw; have hg : wr.grownBy w11 (some go9) := (by rw [hw]; exact HP10.2); have hp_ : Kd.R (Kd.int .i64) 3 w11 w.heap.size (fun _ => True) (.slice (some ⟨go9, 0, none⟩) x3_1.length co9) y115 := (by rw [hw, Ny115.out]; exact HP10.1); clear HP10; have n0_ := Qb (hp_); have n1_ := Qb ((by rw [hw]; exact QG (HB.out) GB9.out : Below w.heap.size w w11)); clear HO_3; clear HB; have HO_3 := n0_; have HB := n1_; clear n0_ n1_; clear hg hw hp_))
        go_roundg k1
        case measure => have := HK1.out; omega
        case rel => exact ⟨(y115), (wrap64 (x4_1 + 1)), (by first | rfl | (simp; done) | (simp [*]; done)), H', ⟨by have := HK1.out; omega⟩, ⟨by (with_reducible repeat (first | apply QU | apply QV | apply QZ)); exact HO_3.out⟩, ⟨by repeat (first | (with_reducible first | exact HB.out | apply QH | apply QD | apply QI) | exact HB.out)⟩⟩
       ·rw [if_neg c8] at H
        exact absurd H (by simp)
      ·rw [if_neg c7] at H
       exact absurd H (by simp)
     ·rw [if_neg c6] at H
      have c6b0 : decide (x4_1 < (l0.length : Int)) = false := decide_eq_false c6
      clear c6
      obtain rfl := Option.some.inj H
      go_wp2
      go_ret
      exact ⟨_, by first | rfl | (simp [errW_none, errW_some] <;> rfl) | (simp [*, errW_none, errW_some] <;> rfl), by (with_reducible repeat (first | apply QU | apply QV | apply QZ)); exact HO_3.out, by repeat (first | (with_reducible first | exact HB.out | apply QH | apply QD | apply QI) | exact HB.out)⟩
  ·rw [if_neg c3] at H
   exact absurd H (by simp)
 ·rw [if_neg c2] at H
  exact absurd H (by simp)

/-! ### laws_toRules: function 28 -/
def laws_toRules.f (k : Nat) (a0_0 : Int) (a0_1 : Int) (a0_2 : Bool) (a0_3 : Bool) (l0_4 : List Int) (l0_5 : List Int) (a0_6 : Int) (a0_7 : Int) : Option (Int × Int × Bool × Bool × List Int × List Int × Int × Int) := (laws_toIntS.f k l0_4).bind fun t119 => ((laws_toIntS.f k l0_5).bind fun t122 => (some (a0_0, a0_1, a0_2, a0_3, t119, t122, a0_6, a0_7)))
theorem laws_toRules.mono : ∀ a0 a1 a2 a3 a4 a5 a6 a7 k, LeO (laws_toRules.f k a0 a1 a2 a3 a4 a5 a6 a7) (laws_toRules.f (k + 1) a0 a1 a2 a3 a4 a5 a6 a7) := by
 intro a0 a1 a2 a3 a4 a5 a6 a7 k
 unfold laws_toRules.f
 repeat' first
   | (with_reducible exact laws_toIntS.mono _ _)
   | (with_reducible exact LeO.refl _)
   | (with_reducible exact LeO.none _)
   | (with_reducible refine LeO.ite ?_ ?_)
   | (with_reducible refine LeO.bind ?_ (fun _ => ?_))
   | exact laws_toIntS.mono _ _
   | exact LeO.none _
   | refine LeO.ite ?_ ?_
   | refine LeO.bind ?_ (fun _ => ?_)
set_option maxHeartbeats 8000000 in
set_option maxRecDepth 100000 in
theorem laws_toRules.calls (k : Nat) (a0_0 : Int) (a0_1 : Int) (a0_2 : Bool) (a0_3 : Bool) (A0_4 : Option Addr) (c0_4 : Nat) (l0_4 : List Int) (A0_5 : Option Addr) (c0_5 : Nat) (l0_5 : List Int) (a0_6 : Int) (a0_7 : Int) (r1 : Int) (r2 : Int) (r3 : Bool) (r4 : Bool) (r5 : List Int) (r6 : List Int) (r7 : Int) (r8 : Int) (w : World) (hr0_4 : Kd.C (Kd.int .i64) w A0_4 l0_4.length l0_4) (hc0_4 : l0_4.length ≤ c0_4) (hr0_5 : Kd.C (Kd.int .i64) w A0_5 l0_5.length l0_5) (hc0_5 : l0_5.length ≤ c0_5) (h : laws_toRules.f k a0_0 a0_1 a0_2 a0_3 l0_4 l0_5 a0_6 a0_7 = some (r1, r2, r3, r4, r5, r6, r7, r8)) :
  Calls Try.prog 28 #[.agg #[.int .i64 a0_0, .int .i64 a0_1, .bool a0_2, .bool a0_3, .slice A0_4 l0_4.length c0_4, .slice A0_5 l0_5.length c0_5, .int .i64 a0_6, .int .i64 a0_7]] w fun e w' => ∃ v4_ v5_ : Value, e = .returned (.agg #[.int .i64 r1, .int .i64 r2, .bool r3, .bool r4, v4_, v5_, .int .i64 r7, .int .i64 r8]) ∧ Kd.R (Kd.int .i64) 3 w' w.heap.size (fun k_ => some k_ ≠ (v5_ : Value).ownBlock) v4_ r5 ∧ Kd.R (Kd.int .i64) 3 w' w.heap.size (fun k_ => some k_ ≠ (v4_ : Value).ownBlock) v5_ r6 ∧ Below w.heap.size w w' := by
 have hu38 := Try.underlying38
 have hu41 := Try.underlying41
 have HR0_4 := Qb hr0_4
 have HC0_4 := Qb hc0_4
 clear hr0_4 hc0_4
 have HR0_5 := Qb hr0_5
 have HC0_5 := Qb hc0_5
 clear hr0_5 hc0_5
 have HB := Qb (Below.refl w.heap.size w)
 have H : ((laws_toIntS.f k l0_4).bind fun t119 => ((laws_toIntS.f k l0_5).bind fun t122 => (some (a0_0, a0_1, a0_2, a0_3, t119, t122, a0_6, a0_7)))) = some (r1, r2, r3, r4, r5, r6, r7, r8) := h
 clear h
 replace H := Qc.mp H
 obtain ⟨t119, A20, H⟩ := H
 replace H : ((laws_toIntS.f k l0_5).bind fun t122 => (some (a0_0, a0_1, a0_2, a0_3, t119, t122, a0_6, a0_7))) = some (r1, r2, r3, r4, r5, r6, r7, r8) := H
 have A2 := Qb A20
 clear A20
 replace H := Qc.mp H
 obtain ⟨t122, A30, H⟩ := H
 replace H : (some (a0_0, a0_1, a0_2, a0_3, t119, t122, a0_6, a0_7)) = some (r1, r2, r3, r4, r5, r6, r7, r8) := H
 have A3 := Qb A30
 clear A30
 simp only [Option.some.injEq, Prod.mk.injEq] at H
 obtain ⟨rfl, rfl, rfl, rfl, rfl, rfl, rfl, rfl⟩ := H
 go_enter Try.func28, Try.ntmps28
 go_wp2_with (first | ((with_reducible refine gate_dst (N := 1) rfl ?_); refine box_event ?hg (N := 1) ?hd (cs := #[.int .i64 a0_0, .int .i64 a0_1, .bool a0_2, .bool a0_3, .slice A0_4 l0_4.length c0_4, .slice A0_5 l0_5.length c0_5, .int .i64 a0_6, .int .i64 a0_7]) (t := 38) ?hr ?_; (case hd => rfl); (case hg => rfl); (case hr => first | (go_simp; done) | (go_simp; rfl)); intro gb116 hg w4 hbox hb; have n0_ := Qb (QY (by repeat (first | (with_reducible first | exact HB.out | apply QH | apply QD | apply QI) | exact HB.out)) hb); have n1_ := Qb (hbox); have n2_ := Qb ((by rw [hg]; exact (QN (by repeat (first | (with_reducible first | exact HB.out | apply QH | apply QD | apply QI) | exact HB.out))) : w.heap.size ≤ gb116)); have n3_ := Qb ((by rw [hg]; exact (QN (by repeat (first | (with_reducible first | exact HB.out | apply QH | apply QD | apply QI) | exact HB.out))) : w.heap.size ≤ gb116)); clear HB; have HB := n0_; have BK116 := n1_; have GW116 := n2_; have GE116 := n3_; clear n0_ n1_ n2_ n3_; clear hb hbox hg) | ((with_reducible refine gate_dst (N := 2) rfl ?_); refine box_event ?hg (N := 2) ?hd (cs := #[.int .i64 0, .int .i64 0, .bool false, .bool false, .slice none 0 0, .slice none 0 0, .int .i64 0, .int .i64 0]) (t := 41) ?hr ?_; (case hd => rfl); (case hg => rfl); (case hr => first | (go_simp; done) | (go_simp; rfl)); intro gb117 hg w5 hbox hb; have n0_ := Qb (QT (g := gb116) (o := .cells #[.int .i64 a0_0, .int .i64 a0_1, .bool a0_2, .bool a0_3, .slice A0_4 l0_4.length c0_4, .slice A0_5 l0_5.length c0_5, .int .i64 a0_6, .int .i64 a0_7] 38 (0, 0)) (by (with_reducible repeat (first | refine QE ?_ _ | refine QJ ?_ | refine QF ?_ _)); exact BK116.out) hb); have n1_ := Qb (QY (by repeat (first | (with_reducible first | exact HB.out | apply QH | apply QD | apply QI | refine QG ?_ GE116.out) | exact HB.out)) hb); have n2_ := Qb (hbox); have n3_ := Qb ((by rw [hg]; exact (QN (by repeat (first | (with_reducible first | exact HB.out | apply QH | apply QD | apply QI | refine QG ?_ GE116.out) | exact HB.out))) : w.heap.size ≤ gb117)); have n4_ := Qb ((by rw [hg]; exact (QN (by repeat (first | (with_reducible first | exact HB.out | apply QH | apply QD | apply QI | refine QG ?_ GE116.out) | exact HB.out))) : w.heap.size ≤ gb117)); have n5_ := Qb ((by rw [hg]; exact Nat.ne_of_lt (blk_lt (g := gb116) (o := .cells #[.int .i64 a0_0, .int .i64 a0_1, .bool a0_2, .bool a0_3, .slice A0_4 l0_4.length c0_4, .slice A0_5 l0_5.length c0_5, .int .i64 a0_6, .int .i64 a0_7] 38 (0, 0)) (by (with_reducible repeat (first | refine QE ?_ _ | refine QJ ?_ | refine QF ?_ _)); exact BK116.out)) : gb116 ≠ gb117)); have n6_ := Qb ((by rw [hg]; exact Nat.ne_of_gt (blk_lt (g := gb116) (o := .cells #[.int .i64 a0_0, .int .i64 a0_1, .bool a0_2, .bool a0_3, .slice A0_4 l0_4.length c0_4, .slice A0_5 l0_5.length c0_5, .int .i64 a0_6, .int .i64 a0_7] 38 (0, 0)) (by (with_reducible repeat (first | refine QE ?_ _ | refine QJ ?_ | refine QF ?_ _)); exact BK116.out)) : gb117 ≠ gb116)); clear BK116; clear HB; have BK116 := n0_; have HB := n1_; have BK117 := n2_; have GW117 := n3_; have GE117 := n4_; have NB116_117 := n5_; have NB117_116 := n6_; clear n0_ n1_ n2_ n3_ n4_ n5_ n6_; clear hb hbox hg) | ((with_reducible refine gate_dst (N := 3) rfl ?_); refine box_event ?hg (N := 3) ?hd (cs := #[.int .i64 0, .int .i64 0, .bool false, .bool false, .slice none 0 0, .slice none 0 0, .int .i64 0, .int .i64 0]) (t := 41) ?hr ?_; (case hd => rfl); (case hg => rfl); (case hr => first | (go_simp; done) | (go_simp; rfl)); intro gb118 hg w6 hbox hb; have n0_ := Qb (QT (g := gb116) (o := .cells #[.int .i64 a0_0, .int .i64 a0_1, .bool a0_2, .bool a0_3, .slice A0_4 l0_4.length c0_4, .slice A0_5 l0_5.length c0_5, .int .i64 a0_6, .int .i64 a0_7] 38 (0, 0)) (by (with_reducible repeat (first | refine QE ?_ _ | refine QJ ?_ | refine QF ?_ _)); exact BK116.out) hb); have n1_ := Qb (QT (g := gb117) (o := .cells #[.int .i64 0, .int .i64 0, .bool false, .bool false, .slice none 0 0, .slice none 0 0, .int .i64 0, .int .i64 0] 41 (0, 0)) (by (with_reducible repeat (first | refine QE ?_ _ | refine QJ ?_ | refine QF ?_ _)); exact BK117.out) hb); have n2_ := Qb (QY (by repeat (first | (with_reducible first | exact HB.out | apply QH | apply QD | apply QI | refine QG ?_ GE116.out | refine QG ?_ GE117.out) | exact HB.out)) hb); have n3_ := Qb (hbox); have n4_ := Qb ((by rw [hg]; exact (QN (by repeat (first | (with_reducible first | exact HB.out | apply QH | apply QD | apply QI | refine QG ?_ GE116.out | refine QG ?_ GE117.out) | exact HB.out))) : w.heap.size ≤ gb118)); have n5_ := Qb ((by rw [hg]; exact (QN (by repeat (first | (with_reducible first | exact HB.out | apply QH | apply QD | apply QI | refine QG ?_ GE116.out | refine QG ?_ GE117.out) | exact HB.out))) : w.heap.size ≤ gb118)); have n6_ := Qb ((by rw [hg]; exact Nat.ne_of_lt (blk_lt (g := gb116) (o := .cells #[.int .i64 a0_0, .int .i64 a0_1, .bool a0_2, .bool a0_3, .slice A0_4 l0_4.length c0_4, .slice A0_5 l0_5.length c0_5, .int .i64 a0_6, .int .i64 a0_7] 38 (0, 0)) (by (with_reducible repeat (first | refine QE ?_ _ | refine QJ ?_ | refine QF ?_ _)); exact BK116.out)) : gb116 ≠ gb118)); have n7_ := Qb ((by rw [hg]; exact Nat.ne_of_gt (blk_lt (g := gb116) (o := .cells #[.int .i64 a0_0, .int .i64 a0_1, .bool a0_2, .bool a0_3, .slice A0_4 l0_4.length c0_4, .slice A0_5 l0_5.length c0_5, .int .i64 a0_6, .int .i64 a0_7] 38 (0, 0)) (by (with_reducible repeat (first | refine QE ?_ _ | refine QJ ?_ | refine QF ?_ _)); exact BK116.out)) : gb118 ≠ gb116)); have n8_ := Qb ((by rw [hg]; exact Nat.ne_of_lt (blk_lt (g := gb117) (o := .cells #[.int .i64 0, .int .i64 0, .bool false, .bool false, .slice none 0 0, .slice none 0 0, .int .i64 0, .int .i64 0] 41 (0, 0)) (by (with_reducible repeat (first | refine QE ?_ _ | refine QJ ?_ | refine QF ?_ _)); exact BK117.out)) : gb117 ≠ gb118)); have n9_ := Qb ((by rw [hg]; exact Nat.ne_of_gt (blk_lt (g := gb117) (o := .cells #[.int .i64 0, .int .i64 0, .bool false, .bool false, .slice none 0 0, .slice none 0 0, .int .i64 0, .int .i64 0] 41 (0, 0)) (by (with_reducible repeat (first | refine QE ?_ _ | refine QJ ?_ | refine QF ?_ _)); exact BK117.out)) : gb118 ≠ gb117)); clear BK116; clear BK117; clear HB; have BK116 := n0_; have BK117 := n1_; have HB := n2_; have BK118 := n3_; have GW118 := n4_; have GE118 := n5_; have NB116_118 := n6_; have NB118_116 := n7_; have NB117_118 := n8_; have NB118_117 := n9_; clear n0_ n1_ n2_ n3_ n4_ n5_ n6_ n7_ n8_ n9_; clear hb hbox hg; have hnb7 := NB116_117.out; have hnc7 := NB117_116.out; have hnb8 := NB116_118.out; have hnc8 := NB118_116.out; have hcz9_0 : w6.cell? ⟨gb116, 0, none⟩ = some (.int .i64 a0_0) := (QC BK116.out 0).trans rfl; have hcz9_1 : w6.cell? ⟨gb116, 1, none⟩ = some (.int .i64 a0_1) := (QC BK116.out 1).trans rfl; have hcz9_2 : w6.cell? ⟨gb116, 2, none⟩ = some (.bool a0_2) := (QC BK116.out 2).trans rfl; have hcz9_3 : w6.cell? ⟨gb116, 3, none⟩ = some (.bool a0_3) := (QC BK116.out 3).trans rfl; have hcz9_4 : w6.cell? ⟨gb116, 4, none⟩ = some (.slice A0_4 l0_4.length c0_4) := (QC BK116.out 4).trans rfl; have hcz9_5 : w6.cell? ⟨gb116, 5, none⟩ = some (.slice A0_5 l0_5.length c0_5) := (QC BK116.out 5).trans rfl; have hcz9_6 : w6.cell? ⟨gb116, 6, none⟩ = some (.int .i64 a0_6) := (QC BK116.out 6).trans rfl; have hcz9_7 : w6.cell? ⟨gb116, 7, none⟩ = some (.int .i64 a0_7) := (QC BK116.out 7).trans rfl; have hfz9_0 := QB BK116.out 0; have hfz9_1 := QB BK116.out 1; have hfz9_2 := QB BK116.out 2; have hfz9_3 := QB BK116.out 3; have hfz9_4 := QB BK116.out 4; have hfz9_5 := QB BK116.out 5; have hfz9_6 := QB BK116.out 6; have hfz9_7 := QB BK116.out 7; have hnb10 := NB118_117.out; have hnc10 := NB117_118.out; have hcz11_0 : w6.cell? ⟨gb118, 0, none⟩ = some (.int .i64 0) := (QC BK118.out 0).trans rfl; have hcz11_1 : w6.cell? ⟨gb118, 1, none⟩ = some (.int .i64 0) := (QC BK118.out 1).trans rfl; have hcz11_2 : w6.cell? ⟨gb118, 2, none⟩ = some (.bool false) := (QC BK118.out 2).trans rfl; have hcz11_3 : w6.cell? ⟨gb118, 3, none⟩ = some (.bool false) := (QC BK118.out 3).trans rfl; have hcz11_4 : w6.cell? ⟨gb118, 4, none⟩ = some (.slice none 0 0) := (QC BK118.out 4).trans rfl; have hcz11_5 : w6.cell? ⟨gb118, 5, none⟩ = some (.slice none 0 0) := (QC BK118.out 5).trans rfl; have hcz11_6 : w6.cell? ⟨gb118, 6, none⟩ = some (.int .i64 0) := (QC BK118.out 6).trans rfl; have hcz11_7 : w6.cell? ⟨gb118, 7, none⟩ = some (.int .i64 0) := (QC BK118.out 7).trans rfl; have hfz11_0 := QB BK118.out 0; have hfz11_1 := QB BK118.out 1; have hfz11_2 := QB BK118.out 2; have hfz11_3 := QB BK118.out 3; have hfz11_4 := QB BK118.out 4; have hfz11_5 := QB BK118.out 5; have hfz11_6 := QB BK118.out 6; have hfz11_7 := QB BK118.out 7) | ((with_reducible refine QR (f := 96) rfl ?_); refine goesL_ (some 18) rfl rfl Try.func96 (by kernel_rfl) rfl #[.slice A0_4 l0_4.length c0_4] rfl (by (try simp only [List.map_toArray, List.map_cons, List.map_nil]); first | done | rfl | (simp only [List.length_drop, List.length_take]; rfl)) ?_; (with_reducible refine (laws_toIntS.calls k _ _ l0_4 t119 _ ?side1 ?side2 A2.out).mono ?_); (case side1 => exact QP HR0_4.out (by repeat (first | (with_reducible first | exact HB.out | apply QH | apply QD | apply QI | refine QG ?_ GE116.out | refine QG ?_ GE117.out | refine QG ?_ GE118.out) | exact HB.out))); (case side2 => exact HC0_4.out); rintro e w12 ⟨v120, rfl, ho0, hb⟩; refine ⟨_, rfl, ?_⟩; have n0_ := Qb (Kd.R_lower ho0 (QN (by repeat (first | (with_reducible first | exact HB.out | apply QH | apply QD | apply QI | refine QG ?_ GE116.out | refine QG ?_ GE117.out | refine QG ?_ GE118.out) | exact HB.out)))); have n1_ := Qb (QT (g := gb116) (o := .cells #[.int .i64 a0_0, .int .i64 a0_1, .bool a0_2, .bool a0_3, .slice A0_4 l0_4.length c0_4, .slice A0_5 l0_5.length c0_5, .int .i64 a0_6, .int .i64 a0_7] 38 (0, 0)) (by (with_reducible repeat (first | refine QE ?_ _ | refine QJ ?_ | refine QF ?_ _)); refine QW ?_ NB116_118.out _; (with_reducible repeat (first | refine QE ?_ _ | refine QJ ?_ | refine QF ?_ _)); refine QW ?_ NB116_118.out _; (with_reducible repeat (first | refine QE ?_ _ | refine QJ ?_ | refine QF ?_ _)); refine QW ?_ NB116_118.out _; (with_reducible repeat (first | refine QE ?_ _ | refine QJ ?_ | refine QF ?_ _)); refine QW ?_ NB116_118.out _; (with_reducible repeat (first | refine QE ?_ _ | refine QJ ?_ | refine QF ?_ _)); exact BK116.out) hb); have n2_ := Qb (QT (g := gb117) (o := .cells #[.int .i64 0, .int .i64 0, .bool false, .bool false, .slice none 0 0, .slice none 0 0, .int .i64 0, .int .i64 0] 41 (0, 0)) (by (with_reducible repeat (first | refine QE ?_ _ | refine QJ ?_ | refine QF ?_ _)); refine QW ?_ NB117_118.out _; (with_reducible repeat (first | refine QE ?_ _ | refine QJ ?_ | refine QF ?_ _)); refine QW ?_ NB117_118.out _; (with_reducible repeat (first | refine QE ?_ _ | refine QJ ?_ | refine QF ?_ _)); refine QW ?_ NB117_118.out _; (with_reducible repeat (first | refine QE ?_ _ | refine QJ ?_ | refine QF ?_ _)); refine QW ?_ NB117_118.out _; (with_reducible repeat (first | refine QE ?_ _ | refine QJ ?_ | refine QF ?_ _)); exact BK117.out) hb); have n3_ := Qb (QT (g := gb118) (o := .cells #[.int .i64 a0_0, .int .i64 a0_1, .bool a0_2, .bool a0_3, .slice none 0 0, .slice none 0 0, .int .i64 0, .int .i64 0] 41 (0, 0)) (by (with_reducible repeat (first | refine QE ?_ _ | refine QJ ?_ | refine QF ?_ _)); refine QX (cs := #[.int .i64 a0_0, .int .i64 a0_1, .bool a0_2, .bool false, .slice none 0 0, .slice none 0 0, .int .i64 0, .int .i64 0]) ?_ 3 _ rfl; (with_reducible repeat (first | refine QE ?_ _ | refine QJ ?_ | refine QF ?_ _)); refine QX (cs := #[.int .i64 a0_0, .int .i64 a0_1, .bool false, .bool false, .slice none 0 0, .slice none 0 0, .int .i64 0, .int .i64 0]) ?_ 2 _ rfl; (with_reducible repeat (first | refine QE ?_ _ | refine QJ ?_ | refine QF ?_ _)); refine QX (cs := #[.int .i64 a0_0, .int .i64 0, .bool false, .bool false, .slice none 0 0, .slice none 0 0, .int .i64 0, .int .i64 0]) ?_ 1 _ rfl; (with_reducible repeat (first | refine QE ?_ _ | refine QJ ?_ | refine QF ?_ _)); refine QX (cs := #[.int .i64 0, .int .i64 0, .bool false, .bool false, .slice none 0 0, .slice none 0 0, .int .i64 0, .int .i64 0]) ?_ 0 _ rfl; (with_reducible repeat (first | refine QE ?_ _ | refine QJ ?_ | refine QF ?_ _)); exact BK118.out) hb); have n4_ := Qb (QY (by repeat (first | (with_reducible first | exact HB.out | apply QH | apply QD | apply QI | refine QG ?_ GE116.out | refine QG ?_ GE117.out | refine QG ?_ GE118.out) | exact HB.out)) hb); clear BK116; clear BK117; clear BK118; clear HB; have HO121 := n0_; have BK116 := n1_; have BK117 := n2_; have BK118 := n3_; have HB := n4_; clear n0_ n1_ n2_ n3_ n4_; (try clear hb); (try clear hb2); (try clear hk); (try clear hi); (try clear ho0); obtain ⟨Ao13, co13, eo13⟩ := Kd.R_slice HO121.out; subst eo13; have hcz14_0 : w12.cell? ⟨gb118, 0, none⟩ = some (.int .i64 a0_0) := (QC BK118.out 0).trans rfl; have hcz14_1 : w12.cell? ⟨gb118, 1, none⟩ = some (.int .i64 a0_1) := (QC BK118.out 1).trans rfl; have hcz14_2 : w12.cell? ⟨gb118, 2, none⟩ = some (.bool a0_2) := (QC BK118.out 2).trans rfl; have hcz14_3 : w12.cell? ⟨gb118, 3, none⟩ = some (.bool a0_3) := (QC BK118.out 3).trans rfl; have hcz14_4 : w12.cell? ⟨gb118, 4, none⟩ = some (.slice none 0 0) := (QC BK118.out 4).trans rfl; have hcz14_5 : w12.cell? ⟨gb118, 5, none⟩ = some (.slice none 0 0) := (QC BK118.out 5).trans rfl; have hcz14_6 : w12.cell? ⟨gb118, 6, none⟩ = some (.int .i64 0) := (QC BK118.out 6).trans rfl; have hcz14_7 : w12.cell? ⟨gb118, 7, none⟩ = some (.int .i64 0) := (QC BK118.out 7).trans rfl; have hfz14_0 := QB BK118.out 0; have hfz14_1 := QB BK118.out 1; have hfz14_2 := QB BK118.out 2; have hfz14_3 := QB BK118.out 3; have hfz14_4 := QB BK118.out 4; have hfz14_5 := QB BK118.out 5; have hfz14_6 := QB BK118.out 6; have hfz14_7 := QB BK118.out 7; have hcz15_0 : w12.cell? ⟨gb116, 0, none⟩ = some (.int .i64 a0_0) := (QC BK116.out 0).trans rfl; have hcz15_1 : w12.cell? ⟨gb116, 1, none⟩ = some (.int .i64 a0_1) := (QC BK116.out 1).trans rfl; have hcz15_2 : w12.cell? ⟨gb116, 2, none⟩ = some (.bool a0_2) := (QC BK116.out 2).trans rfl; have hcz15_3 : w12.cell? ⟨gb116, 3, none⟩ = some (.bool a0_3) := (QC BK116.out 3).trans rfl; have hcz15_4 : w12.cell? ⟨gb116, 4, none⟩ = some (.slice A0_4 l0_4.length c0_4) := (QC BK116.out 4).trans rfl; have hcz15_5 : w12.cell? ⟨gb116, 5, none⟩ = some (.slice A0_5 l0_5.length c0_5) := (QC BK116.out 5).trans rfl; have hcz15_6 : w12.cell? ⟨gb116, 6, none⟩ = some (.int .i64 a0_6) := (QC BK116.out 6).trans rfl; have hcz15_7 : w12.cell? ⟨gb116, 7, none⟩ = some (.int .i64 a0_7) := (QC BK116.out 7).trans rfl; have hfz15_0 := QB BK116.out 0; have hfz15_1 := QB BK116.out 1; have hfz15_2 := QB BK116.out 2; have hfz15_3 := QB BK116.out 3; have hfz15_4 := QB BK116.out 4; have hfz15_5 := QB BK116.out 5; have hfz15_6 := QB BK116.out 6; have hfz15_7 := QB BK116.out 7) | ((with_reducible refine QR (f := 96) rfl ?_); refine goesL_ (some 22) rfl rfl Try.func96 (by kernel_rfl) rfl #[.slice A0_5 l0_5.length c0_5] rfl (by (try simp only [List.map_toArray, List.map_cons, List.map_nil]); first | done | rfl | (simp only [List.length_drop, List.length_take]; rfl)) ?_; (with_reducible refine (laws_toIntS.calls k _ _ l0_5 t122 _ ?side1 ?side2 A3.out).mono ?_); (case side1 => exact QP HR0_5.out (by repeat (first | (with_reducible first | exact HB.out | apply QH | apply QD | apply QI | refine QG ?_ GE116.out | refine QG ?_ GE117.out | refine QG ?_ GE118.out) | exact HB.out))); (case side2 => exact HC0_5.out); rintro e w16 ⟨v123, rfl, ho0, hb⟩; refine ⟨_, rfl, ?_⟩; have n0_ := Qb (Kd.R_elder' (by (with_reducible repeat (first | apply QU | apply QV | apply QZ)); exact (Qa (QK (QS HO121.out BK118.out (by decide))) (fun _ h_ => h_.1))) (Kd.R_base ho0) hb); have n1_ := Qb (Kd.R_lower (Kd.R_new' ho0 (Kd.R_lt (by (with_reducible repeat (first | apply QU | apply QV | apply QZ)); exact (Qa (QK (QS HO121.out BK118.out (by decide))) (fun _ h_ => h_.1))))) (QN (by repeat (first | (with_reducible first | exact HB.out | apply QH | apply QD | apply QI | refine QG ?_ GE116.out | refine QG ?_ GE117.out | refine QG ?_ GE118.out) | exact HB.out)))); have n2_ := Qb (QT (g := gb116) (o := .cells #[.int .i64 a0_0, .int .i64 a0_1, .bool a0_2, .bool a0_3, .slice A0_4 l0_4.length c0_4, .slice A0_5 l0_5.length c0_5, .int .i64 a0_6, .int .i64 a0_7] 38 (0, 0)) (by (with_reducible repeat (first | refine QE ?_ _ | refine QJ ?_ | refine QF ?_ _)); refine QW ?_ NB116_118.out _; (with_reducible repeat (first | refine QE ?_ _ | refine QJ ?_ | refine QF ?_ _)); exact BK116.out) hb); have n3_ := Qb (QT (g := gb117) (o := .cells #[.int .i64 0, .int .i64 0, .bool false, .bool false, .slice none 0 0, .slice none 0 0, .int .i64 0, .int .i64 0] 41 (0, 0)) (by (with_reducible repeat (first | refine QE ?_ _ | refine QJ ?_ | refine QF ?_ _)); refine QW ?_ NB117_118.out _; (with_reducible repeat (first | refine QE ?_ _ | refine QJ ?_ | refine QF ?_ _)); exact BK117.out) hb); have n4_ := Qb (QT (g := gb118) (o := .cells #[.int .i64 a0_0, .int .i64 a0_1, .bool a0_2, .bool a0_3, .slice Ao13 t119.length co13, .slice none 0 0, .int .i64 0, .int .i64 0] 41 (0, 0)) (by (with_reducible repeat (first | refine QE ?_ _ | refine QJ ?_ | refine QF ?_ _)); refine QX (cs := #[.int .i64 a0_0, .int .i64 a0_1, .bool a0_2, .bool a0_3, .slice none 0 0, .slice none 0 0, .int .i64 0, .int .i64 0]) ?_ 4 _ rfl; (with_reducible repeat (first | refine QE ?_ _ | refine QJ ?_ | refine QF ?_ _)); exact BK118.out) hb); have n5_ := Qb (QY (by repeat (first | (with_reducible first | exact HB.out | apply QH | apply QD | apply QI | refine QG ?_ GE116.out | refine QG ?_ GE117.out | refine QG ?_ GE118.out) | exact HB.out)) hb); clear HO121; clear BK116; clear BK117; clear BK118; clear HB; have HO121 := n0_; have HO124 := n1_; have BK116 := n2_; have BK117 := n3_; have BK118 := n4_; have HB := n5_; clear n0_ n1_ n2_ n3_ n4_ n5_; (try clear hb); (try clear hb2); (try clear hk); (try clear hi); (try clear ho0); obtain ⟨Ao17, co17, eo17⟩ := Kd.R_slice HO124.out; subst eo17; have hcz18_0 : w16.cell? ⟨gb118, 0, none⟩ = some (.int .i64 a0_0) := (QC BK118.out 0).trans rfl; have hcz18_1 : w16.cell? ⟨gb118, 1, none⟩ = some (.int .i64 a0_1) := (QC BK118.out 1).trans rfl; have hcz18_2 : w16.cell? ⟨gb118, 2, none⟩ = some (.bool a0_2) := (QC BK118.out 2).trans rfl; have hcz18_3 : w16.cell? ⟨gb118, 3, none⟩ = some (.bool a0_3) := (QC BK118.out 3).trans rfl; have hcz18_4 : w16.cell? ⟨gb118, 4, none⟩ = some (.slice Ao13 t119.length co13) := (QC BK118.out 4).trans rfl; have hcz18_5 : w16.cell? ⟨gb118, 5, none⟩ = some (.slice none 0 0) := (QC BK118.out 5).trans rfl; have hcz18_6 : w16.cell? ⟨gb118, 6, none⟩ = some (.int .i64 0) := (QC BK118.out 6).trans rfl; have hcz18_7 : w16.cell? ⟨gb118, 7, none⟩ = some (.int .i64 0) := (QC BK118.out 7).trans rfl; have hfz18_0 := QB BK118.out 0; have hfz18_1 := QB BK118.out 1; have hfz18_2 := QB BK118.out 2; have hfz18_3 := QB BK118.out 3; have hfz18_4 := QB BK118.out 4; have hfz18_5 := QB BK118.out 5; have hfz18_6 := QB BK118.out 6; have hfz18_7 := QB BK118.out 7; have hcz19_0 : w16.cell? ⟨gb116, 0, none⟩ = some (.int .i64 a0_0) := (QC BK116.out 0).trans rfl; have hcz19_1 : w16.cell? ⟨gb116, 1, none⟩ = some (.int .i64 a0_1) := (QC BK116.out 1).trans rfl; have hcz19_2 : w16.cell? ⟨gb116, 2, none⟩ = some (.bool a0_2) := (QC BK116.out 2).trans rfl; have hcz19_3 : w16.cell? ⟨gb116, 3, none⟩ = some (.bool a0_3) := (QC BK116.out 3).trans rfl; have hcz19_4 : w16.cell? ⟨gb116, 4, none⟩ = some (.slice A0_4 l0_4.length c0_4) := (QC BK116.out 4).trans rfl; have hcz19_5 : w16.cell? ⟨gb116, 5, none⟩ = some (.slice A0_5 l0_5.length c0_5) := (QC BK116.out 5).trans rfl; have hcz19_6 : w16.cell? ⟨gb116, 6, none⟩ = some (.int .i64 a0_6) := (QC BK116.out 6).trans rfl; have hcz19_7 : w16.cell? ⟨gb116, 7, none⟩ = some (.int .i64 a0_7) := (QC BK116.out 7).trans rfl; have hfz19_0 := QB BK116.out 0; have hfz19_1 := QB BK116.out 1; have hfz19_2 := QB BK116.out 2; have hfz19_3 := QB BK116.out 3; have hfz19_4 := QB BK116.out 4; have hfz19_5 := QB BK116.out 5; have hfz19_6 := QB BK116.out 6; have hfz19_7 := QB BK116.out 7; have hcz20_0 : w16.cell? ⟨gb117, 0, none⟩ = some (.int .i64 0) := (QC BK117.out 0).trans rfl; have hcz20_1 : w16.cell? ⟨gb117, 1, none⟩ = some (.int .i64 0) := (QC BK117.out 1).trans rfl; have hcz20_2 : w16.cell? ⟨gb117, 2, none⟩ = some (.bool false) := (QC BK117.out 2).trans rfl; have hcz20_3 : w16.cell? ⟨gb117, 3, none⟩ = some (.bool false) := (QC BK117.out 3).trans rfl; have hcz20_4 : w16.cell? ⟨gb117, 4, none⟩ = some (.slice none 0 0) := (QC BK117.out 4).trans rfl; have hcz20_5 : w16.cell? ⟨gb117, 5, none⟩ = some (.slice none 0 0) := (QC BK117.out 5).trans rfl; have hcz20_6 : w16.cell? ⟨gb117, 6, none⟩ = some (.int .i64 0) := (QC BK117.out 6).trans rfl; have hcz20_7 : w16.cell? ⟨gb117, 7, none⟩ = some (.int .i64 0) := (QC BK117.out 7).trans rfl; have hfz20_0 := QB BK117.out 0; have hfz20_1 := QB BK117.out 1; have hfz20_2 := QB BK117.out 2; have hfz20_3 := QB BK117.out 3; have hfz20_4 := QB BK117.out 4; have hfz20_5 := QB BK117.out 5; have hfz20_6 := QB BK117.out 6; have hfz20_7 := QB BK117.out 7))
 refine bodyPost_ret (results_cell_row rfl _ _ gb117 41 #[.int .i64 a0_0, .int .i64 a0_1, .bool a0_2, .bool a0_3, .slice Ao13 t119.length co13, .slice Ao17 t122.length co17, .int .i64 a0_6, .int .i64 a0_7] (0, 0) _ rfl (by (with_reducible repeat (first | refine QE ?_ _ | refine QJ ?_ | refine QF ?_ _)); refine QX (cs := #[.int .i64 a0_0, .int .i64 a0_1, .bool a0_2, .bool a0_3, .slice Ao13 t119.length co13, .slice Ao17 t122.length co17, .int .i64 a0_6, .int .i64 0]) ?_ 7 _ rfl; (with_reducible repeat (first | refine QE ?_ _ | refine QJ ?_ | refine QF ?_ _)); refine QX (cs := #[.int .i64 a0_0, .int .i64 a0_1, .bool a0_2, .bool a0_3, .slice Ao13 t119.length co13, .slice Ao17 t122.length co17, .int .i64 0, .int .i64 0]) ?_ 6 _ rfl; (with_reducible repeat (first | refine QE ?_ _ | refine QJ ?_ | refine QF ?_ _)); refine QX (cs := #[.int .i64 a0_0, .int .i64 a0_1, .bool a0_2, .bool a0_3, .slice Ao13 t119.length co13, .slice none 0 0, .int .i64 0, .int .i64 0]) ?_ 5 _ rfl; (with_reducible repeat (first | refine QE ?_ _ | refine QJ ?_ | refine QF ?_ _)); refine QX (cs := #[.int .i64 a0_0, .int .i64 a0_1, .bool a0_2, .bool a0_3, .slice none 0 0, .slice none 0 0, .int .i64 0, .int .i64 0]) ?_ 4 _ rfl; (with_reducible repeat (first | refine QE ?_ _ | refine QJ ?_ | refine QF ?_ _)); refine QX (cs := #[.int .i64 a0_0, .int .i64 a0_1, .bool a0_2, .bool false, .slice none 0 0, .slice none 0 0, .int .i64 0, .int .i64 0]) ?_ 3 _ rfl; (with_reducible repeat (first | refine QE ?_ _ | refine QJ ?_ | refine QF ?_ _)); refine QX (cs := #[.int .i64 a0_0, .int .i64 a0_1, .bool false, .bool false, .slice none 0 0, .slice none 0 0, .int .i64 0, .int .i64 0]) ?_ 2 _ rfl; (with_reducible repeat (first | refine QE ?_ _ | refine QJ ?_ | refine QF ?_ _)); refine QX (cs := #[.int .i64 a0_0, .int .i64 0, .bool false, .bool false, .slice none 0 0, .slice none 0 0, .int .i64 0, .int .i64 0]) ?_ 1 _ rfl; (with_reducible repeat (first | refine QE ?_ _ | refine QJ ?_ | refine QF ?_ _)); refine QX (cs := #[.int .i64 0, .int .i64 0, .bool false, .bool false, .slice none 0 0, .slice none 0 0, .int .i64 0, .int .i64 0]) ?_ 0 _ rfl; (with_reducible repeat (first | refine QE ?_ _ | refine QJ ?_ | refine QF ?_ _)); refine QW ?_ NB117_118.out _; (with_reducible repeat (first | refine QE ?_ _ | refine QJ ?_ | refine QF ?_ _)); refine QW ?_ NB117_118.out _; (with_reducible repeat (first | refine QE ?_ _ | refine QJ ?_ | refine QF ?_ _)); refine QW ?_ NB117_118.out _; (with_reducible repeat (first | refine QE ?_ _ | refine QJ ?_ | refine QF ?_ _)); exact BK117.out) Try.underlying41 rfl (by kernel_rfl)) rfl ?_
 exact ⟨_, _, by first | rfl | (simp [errW_none, errW_some] <;> rfl) | (simp [*, errW_none, errW_some] <;> rfl), by (with_reducible repeat (first | apply QU | apply QV | apply QZ)); exact Qa (QK (QK (QK (QK (QK (QK (QK (QK (Kd.R_far (p := ⟨gb118, 7, none⟩) (Kd.R_far (p := ⟨gb118, 6, none⟩) (Kd.R_far (p := ⟨gb118, 5, none⟩) (QS (QS HO121.out BK118.out (by decide)) BK117.out (by decide)) (fun _ hk => hk.1.2) (.slice Ao17 t122.length co17)) (fun _ hk => hk.1.2) (.int .i64 a0_6)) (fun _ hk => hk.1.2) (.int .i64 a0_7)))))))))) (fun _ hk => hk.1.1.2), by (with_reducible repeat (first | apply QU | apply QV | apply QZ)); exact Qa (QK (QK (QK (QK (QK (QK (QK (QK (Kd.R_far (p := ⟨gb118, 7, none⟩) (Kd.R_far (p := ⟨gb118, 6, none⟩) (Kd.R_far (p := ⟨gb118, 5, none⟩) (QS (QS HO124.out BK118.out (by decide)) BK117.out (by decide)) (fun _ hk => hk.1.2) (.slice Ao17 t122.length co17)) (fun _ hk => hk.1.2) (.int .i64 a0_6)) (fun _ hk => hk.1.2) (.int .i64 a0_7)))))))))) (fun _ hk => hk.1.1.2), by repeat (first | (with_reducible first | exact HB.out | apply QH | apply QD | apply QI | refine QG ?_ GE116.out | refine QG ?_ GE117.out | refine QG ?_ GE118.out) | exact HB.out)⟩

/-! ### laws_toIntSS: function 109 -/
def laws_toIntSS.l0 : Nat → List (List Int) → List (List Int) → Int → Option ((List (List Int)))
 | 0, _, _, _ => none
 | k + 1, x0, x3, x4 => if x4 < (x0.length : Int) then (if 0 ≤ x4 then ((laws_toIntS.f k (rd_L1 x0 x4)).bind fun t129 => (if x4 < (x3.length : Int) then (laws_toIntSS.l0 k x0 (x3.set (x4 : Int).toNat t129) (wrap64 (x4 + 1))) else (none))) else (none)) else (some x3)
def laws_toIntSS.f (k : Nat) (l0 : List (List Int)) : Option ((List (List Int))) := if 0 ≤ (l0.length : Int) then (if ((l0.length : Int) : Int).toNat ≤ 11728124029610 then (laws_toIntSS.l0 k l0 (List.replicate ((l0.length : Int) : Int).toNat []) 0) else (none)) else (none)
theorem laws_toIntSS.mono_l : ∀ k, (∀ y0 y1 y2, LeO (laws_toIntSS.l0 k y0 y1 y2) (laws_toIntSS.l0 (k + 1) y0 y1 y2))
 | 0 => fun _ _ _ r h => by simp [laws_toIntSS.l0] at h
 | k + 1 => by
  have ih0 := laws_toIntSS.mono_l k
  ·intro y0 y1 y2
   unfold laws_toIntSS.l0
   repeat' first
   | (with_reducible exact ih0 _ _ _)
   | (with_reducible exact laws_toIntS.mono _ _)
   | (with_reducible exact LeO.refl _)
   | (with_reducible exact LeO.none _)
   | (with_reducible refine LeO.ite ?_ ?_)
   | (with_reducible refine LeO.bind ?_ (fun _ => ?_))
   | exact ih0 _ _ _
   | exact laws_toIntS.mono _ _
   | exact LeO.none _
   | refine LeO.ite ?_ ?_
   | refine LeO.bind ?_ (fun _ => ?_)
theorem laws_toIntSS.mono : ∀ a0 k, LeO (laws_toIntSS.f k a0) (laws_toIntSS.f (k + 1) a0) := by
 intro a0 k
 have ih0 := laws_toIntSS.mono_l k
 unfold laws_toIntSS.f
 repeat' first
   | (with_reducible exact ih0 _ _ _)
   | (with_reducible exact laws_toIntS.mono _ _)
   | (with_reducible exact LeO.refl _)
   | (with_reducible exact LeO.none _)
   | (with_reducible refine LeO.ite ?_ ?_)
   | (with_reducible refine LeO.bind ?_ (fun _ => ?_))
   | exact ih0 _ _ _
   | exact laws_toIntS.mono _ _
   | exact LeO.none _
   | refine LeO.ite ?_ ?_
   | refine LeO.bind ?_ (fun _ => ?_)
set_option maxHeartbeats 8000000 in
set_option maxRecDepth 100000 in
theorem laws_toIntSS.calls (k : Nat) (A0 : Option Addr) (c0 : Nat) (l0 : List (List Int)) (r : List (List Int)) (w : World) (hr0 : Kd.C (Kd.slice 3 (Kd.int .i64)) w A0 l0.length l0) (hc0 : l0.length ≤ c0) (h : laws_toIntSS.f k l0 = some r) :
  Calls Try.prog 109 #[.slice A0 l0.length c0] w fun e w' => ∃ v0_ : Value, e = .returned (v0_) ∧ Kd.S (Kd.slice 3 (Kd.int .i64)) 24 w' w.heap.size (fun _ => True) v0_ r ∧ Below w.heap.size w w' := by
 have HR0 := Qb hr0
 have HC0 := Qb hc0
 clear hr0 hc0
 have HB := Qb (Below.refl w.heap.size w)
 have H : (if 0 ≤ (l0.length : Int) then (if ((l0.length : Int) : Int).toNat ≤ 11728124029610 then (laws_toIntSS.l0 k l0 (List.replicate ((l0.length : Int) : Int).toNat []) 0) else (none)) else (none)) = some r := h
 clear h
 by_cases c2 : 0 ≤ (l0.length : Int)
 ·rw [if_pos c2] at H
  have c2b0 := eq_true c2
  have c2b1 : decide (0 ≤ (l0.length : Int)) = true := decide_eq_true c2
  clear c2
  by_cases c3 : ((l0.length : Int) : Int).toNat ≤ 11728124029610
  ·rw [if_pos c3] at H
   have c3b0 := eq_true c3
   have c3b1 : decide (((l0.length : Int) : Int).toNat ≤ 11728124029610) = true := decide_eq_true c3
   clear c3
   obtain ⟨y125, hy125⟩ : ∃ y_ : List (List Int), y_ = (List.replicate ((l0.length : Int) : Int).toNat []) := ⟨_, rfl⟩
   replace H : (laws_toIntSS.l0 k l0 y125 0) = some r := by first | (rw [hy125]; with_reducible exact H) | (have H2_ := (Option.bind_some _ _).symm.trans H; rw [hy125]; with_reducible exact H2_) | (have H2_ := (Option.bind_some _ _).symm.trans H; with_reducible exact H2_) | with_reducible exact H | (rw [hy125]; exact H) | exact H
   have Ny125 := Qb hy125
   clear hy125
   have H' := Qb H
   clear H
   go_enter Try.func109, Try.ntmps109
   go_wp2_with (first | ((with_reducible refine gate_dst (N := 7) rfl ?_); refine Kd.S_make (Kd.slice 3 (Kd.int .i64)) _ 24 rfl (N := 7) rfl 53 _ _ rfl (l0.length : Int) rfl rfl Try.underlying53 (.slice none 0 0) 24 info24 rfl (by decide) (by omega) [] (ok := fun _ => True) (okp := fun _ => True) ⟨_, rfl, Kd.R_nil _ _ _ _ _⟩ (fun _ hk => hk) trivial (of_decide_eq_true (by first | (with_reducible assumption) | assumption)) (Nat.le_trans (Nat.mul_le_mul_right _ (of_decide_eq_true (by first | (with_reducible assumption) | assumption) : (l0.length : Int).toNat ≤ 11728124029610)) (by omega)) (Below.refl _ _) (Nat.le_refl _) ?_; intro v126 w4 ho5 hb hg_ hnew_; clear hg_ hnew_; (first | rw [← Ny125.out] at ho5 | (simp only [Int.reduceToNat] at ho5; rw [← Ny125.out] at ho5)); have n0_ := Qb (Kd.S_lower ho5 (QN (by repeat (first | (with_reducible first | exact HB.out | apply QH | apply QD | apply QI) | exact HB.out)))); have n1_ := Qb (QY (by repeat (first | (with_reducible first | exact HB.out | apply QH | apply QD | apply QI) | exact HB.out)) hb); clear HB; have HO127 := n0_; have HB := n1_; clear n0_ n1_; clear hb ho5))
   go_loopg [4] k (fun kq v4 w' => ∃ (x3_1 : List (List Int)) (x4_1 : Int), v4 = .int .i64 x4_1 ∧ Aside0 (laws_toIntSS.l0 kq l0 x3_1 x4_1 = some r) ∧ Aside0 (kq ≤ k) ∧ Aside0 (Kd.S (Kd.slice 3 (Kd.int .i64)) 24 w' w.heap.size (fun _ => True) v126 x3_1) ∧ Aside0 (Below w.heap.size w w'))
   case atStart => exact ⟨(y125), (0), (by first | rfl | (simp; done) | (simp [*]; done)), H', ⟨Nat.le_refl _⟩, ⟨by (with_reducible repeat (first | apply Kd.S_alloc | apply Kd.S_drewN | apply Kd.S_drew)); exact HO127.out⟩, ⟨by repeat (first | (with_reducible first | exact HB.out | apply QH | apply QD | apply QI) | exact HB.out)⟩⟩
   case round =>
    clear H'
    try clear c1
    try clear c2
    try clear c2b0
    try clear c2b1
    try clear p2
    try clear c3
    try clear c3b0
    try clear c3b1
    obtain ⟨x3_1, x4_1, rfl, HA, HK1, HO_3, HB⟩ := hrel
    cases gk with
    | zero => exact absurd HA.out (by simp [laws_toIntSS.l0])
    | succ k1 =>
     have H := HA.out
     clear HA
     simp only [laws_toIntSS.l0] at H
     by_cases c6 : x4_1 < (l0.length : Int)
     ·rw [if_pos c6] at H
      have c6b0 : decide (x4_1 < (l0.length : Int)) = true := decide_eq_true c6
      clear c6
      by_cases c7 : 0 ≤ x4_1
      ·rw [if_pos c7] at H
       have c7b0 : decide (0 ≤ x4_1) = true := decide_eq_true c7
       clear c7
       replace H := Qc.mp H
       obtain ⟨t129, A80, H⟩ := H
       have A8 := Qb A80
       clear A80
       by_cases c9 : x4_1 < (x3_1.length : Int)
       ·rw [if_pos c9] at H
        have c9b0 : decide (x4_1 < (x3_1.length : Int)) = true := decide_eq_true c9
        clear c9
        obtain ⟨y132, hy132⟩ : ∃ y_ : List (List Int), y_ = (x3_1.set (x4_1 : Int).toNat t129) := ⟨_, rfl⟩
        replace H : (laws_toIntSS.l0 k1 l0 y132 (wrap64 (x4_1 + 1))) = some r := by first | (rw [hy132]; with_reducible exact H) | (have H2_ := (Option.bind_some _ _).symm.trans H; rw [hy132]; with_reducible exact H2_) | (have H2_ := (Option.bind_some _ _).symm.trans H; with_reducible exact H2_) | with_reducible exact H | (rw [hy132]; exact H) | exact H
        have Ny132 := Qb hy132
        clear hy132
        have H' := Qb H
        clear H
        have p128 : 0 ≤ (x4_1 : Int) := of_decide_eq_true (by first | (with_reducible assumption) | assumption)
        have q128 : x4_1 < (l0.length : Int) := of_decide_eq_true (by first | (with_reducible assumption) | assumption)
        obtain ⟨ad128, A128_0, c128_0, e128, hx128_0, hl128_0, hi128_0⟩ := at_L1 HR0.out x4_1 p128 q128
        cases e128
        replace hx128_0 := (HB.out.cell (World.block_lt_of_cell? w _ hx128_0)).trans hx128_0
        have HR128_0 := Qb hi128_0
        have HC128_0 := Qb hl128_0
        clear hi128_0 hl128_0
        replace p128 := eq_true p128
        replace q128 := eq_true q128
        go_wp2_with (first | ((with_reducible refine QR (f := 96) rfl ?_); refine goesL_ (some 20) rfl rfl Try.func96 (by kernel_rfl) rfl #[.slice A128_0 (rd_L1 l0 x4_1).length c128_0] rfl (by (try simp only [List.map_toArray, List.map_cons, List.map_nil]); first | done | rfl | (simp only [List.length_drop, List.length_take]; rfl)) ?_; (with_reducible refine (laws_toIntS.calls k1 _ _ (rd_L1 l0 x4_1) t129 _ ?side1 ?side2 A8.out).mono ?_); (case side1 => repeat (first | exact (QP HR128_0.out HB.out) | (with_reducible refine QL ?_ _) | (with_reducible refine QM ?_ _) | (with_reducible refine QO ?_))); (case side2 => exact HC128_0.out); rintro e w11 ⟨v130, rfl, ho0, hb⟩; refine ⟨_, rfl, ?_⟩; have n0_ := Qb (Kd.S_elder' (by (with_reducible repeat (first | apply Kd.S_alloc | apply Kd.S_drewN | apply Kd.S_drew)); exact HO_3.out) (Kd.R_base ho0) hb); have n1_ := Qb (Kd.R_lower ho0 (QN (by repeat (first | (with_reducible first | exact HB.out | apply QH | apply QD | apply QI) | exact HB.out)))); have n2_ := Qb (QY (by repeat (first | (with_reducible first | exact HB.out | apply QH | apply QD | apply QI) | exact HB.out)) hb); clear HO_3; clear HB; have HO_3 := n0_; have HO131 := n1_; have HB := n2_; clear n0_ n1_ n2_; (try clear hb); (try clear hb2); (try clear hk); (try clear hi); (try clear ho0); obtain ⟨Aov130, cov130, eov130⟩ := Kd.R_slice HO131.out; subst eov130; have p10 : 0 ≤ (x4_1 : Int) := of_decide_eq_true (by first | (with_reducible assumption) | assumption); have q10 : (x4_1 : Int) < ((x3_1.length : Int) : Int) := of_decide_eq_true (by first | (with_reducible assumption) | assumption); obtain ⟨go10, co10, eo10, gb10, gl10, cl10, HG10⟩ := Kd.S_form HO_3.out (by omega); (first | cases eo10 | (injection eo10 with ea_ en_ ec_; (first | subst ea_ | (injection ea_ with ea_; subst ea_)); subst ec_; clear en_)); have GB10 := Qb gb10; have GG10 := Qb HG10; clear gb10 gl10 HG10; obtain ⟨_, ce10, hcl10, hM10, hcc10, hfr10, _, _⟩ := Kd.S_elem HO_3.out [] (x4_1 : Int) p10 q10; obtain ⟨ve10_0, rfl, ge10_0⟩ := hM10; have hx10_0 := hcc10 0 _ rfl; have hf10_0 := hfr10 0; (try simp only [show ((Kd.slice 3 (Kd.int .i64))).sz = 1 from rfl, Nat.mul_one, Nat.add_zero] at hx10_0); (try simp only [show ((Kd.slice 3 (Kd.int .i64))).sz = 1 from rfl, Nat.mul_one, Nat.add_zero] at hf10_0); clear hcl10 hcc10 hfr10; (try clear hM10); replace p10 := eq_true p10; replace q10 := eq_true q10; have n_ := Qb (Kd.S_mono (ok' := (fun k_ => some k_ ≠ ((.slice Aov130 t129.length cov130) : Value).ownBlock)) HO_3.out (by first | exact fun k_ hk => hk.2 | exact fun k_ hk => hk)); clear HO_3; have HO_3 := n_; clear n_; have HX12 := Qb (show Kd.S (Kd.slice 3 (Kd.int .i64)) 24 w11 w.heap.size (fun k_ => ((fun _ => True)) k_ ∧ ¬ ((fun k_ => some k_ = ((.slice Aov130 t129.length cov130) : Value).ownBlock)) k_) (.slice (some ⟨go10, 0, none⟩) x3_1.length co10) x3_1 from (by (with_reducible repeat (first | apply Kd.S_alloc | apply Kd.S_drewN | apply Kd.S_drew)); exact Kd.S_mono HO_3.out (fun k_ hk => ⟨trivial, fun e_ => hk e_⟩))); obtain ⟨oki12, ce12, hcl12, hM12, hcc12, hfr12, hoki12, hH12⟩ := Kd.S_elem HX12.out [] (x4_1 : Int) (of_decide_eq_true (by first | (with_reducible assumption) | assumption)) (by have h_ : (x4_1 : Int) < ((x3_1.length : Int) : Int) := of_decide_eq_true (by first | (with_reducible assumption) | assumption); first | exact h_ | (have e_ := (Kd.S_reads' HO_3.out).1; omega) | simpa using h_); obtain ⟨ve12_0, rfl, ge12_0⟩ := hM12; have HP12 := Kd.S_seg hH12 (of_decide_eq_true (by first | (with_reducible assumption) | assumption)) (by have h_ : (x4_1 : Int) < ((x3_1.length : Int) : Int) := of_decide_eq_true (by first | (with_reducible assumption) | assumption); first | exact h_ | (have e_ := (Kd.S_reads' HO_3.out).1; omega) | simpa using h_) (seg := [(.slice Aov130 t129.length cov130)]) (j := 0) (show 1 ≤ 1 from by decide) (x' := t129) (Kd.M_row (Qa (Kd.R_tight rfl (Qa (ok' := fun k_ => ((fun _ => True)) k_ ∧ k_ ≠ go10) (Kd.R_apart' (HO131.out) (Kd.S_typed HO_3.out) (by decide)) (fun k_ hk => ⟨trivial, fun e_ => (hk.2) (by rw [e_]; rfl)⟩))) (fun _ h_ => Or.inr (h_)))) (fun _ hk => hk) (fun k_ hk_ => ((Qa (ok' := fun k_ => ((fun _ => True)) k_ ∧ k_ ≠ go10) (Kd.R_apart' (HO131.out) (Kd.S_typed HO_3.out) (by decide)) (fun k_ hk => ⟨trivial, fun e_ => (hk.2) (by rw [e_]; rfl)⟩))).1 k_ hk_.symm); have hx12_0 := hcc12 0 _ rfl; (try simp only [show ((Kd.slice 3 (Kd.int .i64))).sz = 1 from rfl, Nat.mul_one, Nat.add_zero] at hx12_0); have hf12_0 := hfr12 0; (try simp only [show ((Kd.slice 3 (Kd.int .i64))).sz = 1 from rfl, Nat.mul_one, Nat.add_zero] at hf12_0); clear hcl12 hcc12 hfr12 hoki12 hH12; (try clear hM12); (try simp only [show ((Kd.slice 3 (Kd.int .i64))).sz = 1 from rfl, Nat.mul_one, Nat.add_zero] at HP12)) | ((with_reducible refine gate_store (t := 24) (p := 21) rfl ?_); refine store_event (t := 24) (p := 21) (v := ?vo_w13) (w1 := (w11.setCell ⟨go10, (x4_1 : Int).toNat, none⟩ ((.slice Aov130 t129.length cov130)))) ?hg ?ho ?hn ?hr ?_; (case ho => rfl); (case hg => rfl); (case hn => rfl); (case hr => first | (go_simp; done) | (go_simp; rfl)); intro w13 hw; have hg : w11.grownBy w13 (some go10) := (by rw [hw]; exact HP12.2); have hp_ : Kd.S (Kd.slice 3 (Kd.int .i64)) 24 w13 w.heap.size (fun _ => True) (.slice (some ⟨go10, 0, none⟩) x3_1.length co10) y132 := (by rw [hw, Ny132.out]; exact HP12.1); clear HP12; have n0_ := Qb (hp_); have n1_ := Qb ((by rw [hw]; exact QG (HB.out) GB10.out : Below w.heap.size w w13)); clear HO_3; clear HB; clear HO131; have HO_3 := n0_; have HB := n1_; clear n0_ n1_; clear hg hw hp_))
        go_roundg k1
        case measure => have := HK1.out; omega
        case rel => exact ⟨(y132), (wrap64 (x4_1 + 1)), (by first | rfl | (simp; done) | (simp [*]; done)), H', ⟨by have := HK1.out; omega⟩, ⟨by (with_reducible repeat (first | apply Kd.S_alloc | apply Kd.S_drewN | apply Kd.S_drew)); exact HO_3.out⟩, ⟨by repeat (first | (with_reducible first | exact HB.out | apply QH | apply QD | apply QI) | exact HB.out)⟩⟩
       ·rw [if_neg c9] at H
        exact absurd H (by simp)
      ·rw [if_neg c7] at H
       exact absurd H (by simp)
     ·rw [if_neg c6] at H
      have c6b0 : decide (x4_1 < (l0.length : Int)) = false := decide_eq_false c6
      clear c6
      obtain rfl := Option.some.inj H
      go_wp2
      go_ret
      exact ⟨_, by first | rfl | (simp [errW_none, errW_some] <;> rfl) | (simp [*, errW_none, errW_some] <;> rfl), by (with_reducible repeat (first | apply Kd.S_alloc | apply Kd.S_drewN | apply Kd.S_drew)); exact HO_3.out, by repeat (first | (with_reducible first | exact HB.out | apply QH | apply QD | apply QI) | exact HB.out)⟩
  ·rw [if_neg c3] at H
   exact absurd H (by simp)
 ·rw [if_neg c2] at H
  exact absurd H (by simp)

/-! ### laws_toGame: function 45 -/
def laws_toGame.f (k : Nat) (a0_0 : Int) (a0_1 : Int) (a0_2 : Bool) (a0_3 : Bool) (l0_4 : List Int) (l0_5 : List Int) (a0_6 : Int) (a0_7 : Int) (l0_8 : List (List Int)) (l0_9 : List Int) (l0_10 : List Int) (a0_11 : Int) (a0_12 : Int) (a0_13 : Int) : Option (Int × Int × Bool × Bool × List Int × List Int × Int × Int × (List (List Int)) × List Int × List Int × Int × Int × Int) := (laws_toRules.f k a0_0 a0_1 a0_2 a0_3 l0_4 l0_5 a0_6 a0_7).bind fun bt136 => ((laws_toIntSS.f k l0_8).bind fun t148 => ((laws_toIntS.f k l0_9).bind fun t151 => ((laws_toIntS.f k l0_10).bind fun t154 => (some (bt136.1, bt136.2.1, bt136.2.2.1, bt136.2.2.2.1, bt136.2.2.2.2.1, bt136.2.2.2.2.2.1, bt136.2.2.2.2.2.2.1, bt136.2.2.2.2.2.2.2, t148, t151, t154, a0_11, a0_12, a0_13)))))
theorem laws_toGame.mono : ∀ a0 a1 a2 a3 a4 a5 a6 a7 a8 a9 a10 a11 a12 a13 k, LeO (laws_toGame.f k a0 a1 a2 a3 a4 a5 a6 a7 a8 a9 a10 a11 a12 a13) (laws_toGame.f (k + 1) a0 a1 a2 a3 a4 a5 a6 a7 a8 a9 a10 a11 a12 a13) := by
 intro a0 a1 a2 a3 a4 a5 a6 a7 a8 a9 a10 a11 a12 a13 k
 unfold laws_toGame.f
 repeat' first
   | (with_reducible exact laws_toIntS.mono _ _)
   | (with_reducible exact laws_toIntSS.mono _ _)
   | (with_reducible exact laws_toRules.mono _ _ _ _ _ _ _ _ _)
   | (with_reducible exact LeO.refl _)
   | (with_reducible exact LeO.none _)
   | (with_reducible refine LeO.ite ?_ ?_)
   | (with_reducible refine LeO.bind ?_ (fun _ => ?_))
   | exact laws_toIntS.mono _ _
   | exact laws_toIntSS.mono _ _
   | exact laws_toRules.mono _ _ _ _ _ _ _ _ _
   | exact LeO.none _
   | refine LeO.ite ?_ ?_
   | refine LeO.bind ?_ (fun _ => ?_)
set_option maxHeartbeats 8000000 in
set_option maxRecDepth 100000 in
theorem laws_toGame.calls (k : Nat) (a0_0 : Int) (a0_1 : Int) (a0_2 : Bool) (a0_3 : Bool) (A0_4 : Option Addr) (c0_4 : Nat) (l0_4 : List Int) (A0_5 : Option Addr) (c0_5 : Nat) (l0_5 : List Int) (a0_6 : Int) (a0_7 : Int) (A0_8 : Option Addr) (c0_8 : Nat) (l0_8 : List (List Int)) (A0_9 : Option Addr) (c0_9 : Nat) (l0_9 : List Int) (A0_10 : Option Addr) (c0_10 : Nat) (l0_10 : List Int) (a0_11 : Int) (a0_12 : Int) (a0_13 : Int) (r1 : Int) (r2 : Int) (r3 : Bool) (r4 : Bool) (r5 : List Int) (r6 : List Int) (r7 : Int) (r8 : Int) (r9 : List (List Int)) (r10 : List Int) (r11 : List Int) (r12 : Int) (r13 : Int) (r14 : Int) (w : World) (hr0_4 : Kd.C (Kd.int .i64) w A0_4 l0_4.length l0_4) (hc0_4 : l0_4.length ≤ c0_4) (hr0_5 : Kd.C (Kd.int .i64) w A0_5 l0_5.length l0_5) (hc0_5 : l0_5.length ≤ c0_5) (hr0_8 : Kd.C (Kd.slice 3 (Kd.int .i64)) w A0_8 l0_8.length l0_8) (hc0_8 : l0_8.length ≤ c0_8) (hr0_9 : Kd.C (Kd.int .i64) w A0_9 l0_9.length l0_9) (hc0_9 : l0_9.length ≤ c0_9) (hr0_10 : Kd.C (Kd.int .i64) w A0_10 l0_10.length l0_10) (hc0_10 : l0_10.length ≤ c0_10) (h : laws_toGame.f k a0_0 a0_1 a0_2 a0_3 l0_4 l0_5 a0_6 a0_7 l0_8 l0_9 l0_10 a0_11 a0_12 a0_13 = some (r1, r2, r3, r4, r5, r6, r7, r8, r9, r10, r11, r12, r13, r14)) :
  Calls Try.prog 45 #[.agg #[.int .i64 a0_0, .int .i64 a0_1, .bool a0_2, .bool a0_3, .slice A0_4 l0_4.length c0_4, .slice A0_5 l0_5.length c0_5, .int .i64 a0_6, .int .i64 a0_7, .slice A0_8 l0_8.length c0_8, .slice A0_9 l0_9.length c0_9, .slice A0_10 l0_10.length c0_10, .int .i64 a0_11, .int .i64 a0_12, .int .i64 a0_13]] w fun e w' => ∃ v4_ v5_ v8_ v9_ v10_ : Value, e = .returned (.agg #[.int .i64 r1, .int .i64 r2, .bool r3, .bool r4, v4_, v5_, .int .i64 r7, .int .i64 r8, v8_, v9_, v10_, .int .i64 r12, .int .i64 r13, .int .i64 r14]) ∧ Kd.R (Kd.int .i64) 3 w' w.heap.size (fun k_ => some k_ ≠ (v5_ : Value).ownBlock ∧ some k_ ≠ (v9_ : Value).ownBlock ∧ some k_ ≠ (v10_ : Value).ownBlock) v4_ r5 ∧ Kd.R (Kd.int .i64) 3 w' w.heap.size (fun k_ => some k_ ≠ (v4_ : Value).ownBlock ∧ some k_ ≠ (v9_ : Value).ownBlock ∧ some k_ ≠ (v10_ : Value).ownBlock) v5_ r6 ∧ Kd.S (Kd.slice 3 (Kd.int .i64)) 24 w' w.heap.size (fun k_ => some k_ ≠ (v4_ : Value).ownBlock ∧ some k_ ≠ (v5_ : Value).ownBlock ∧ some k_ ≠ (v9_ : Value).ownBlock ∧ some k_ ≠ (v10_ : Value).ownBlock) v8_ r9 ∧ Kd.R (Kd.int .i64) 3 w' w.heap.size (fun k_ => some k_ ≠ (v4_ : Value).ownBlock ∧ some k_ ≠ (v5_ : Value).ownBlock ∧ some k_ ≠ (v10_ : Value).ownBlock) v9_ r10 ∧ Kd.R (Kd.int .i64) 3 w' w.heap.size (fun k_ => some k_ ≠ (v4_ : Value).ownBlock ∧ some k_ ≠ (v5_ : Value).ownBlock ∧ some k_ ≠ (v9_ : Value).ownBlock) v10_ r11 ∧ Below w.heap.size w w' := by
 have hu55 := Try.underlying55
 have hu59 := Try.underlying59
 have hu38 := Try.underlying38
 have hu41 := Try.underlying41
 have HR0_4 := Qb hr0_4
 have HC0_4 := Qb hc0_4
 clear hr0_4 hc0_4
 have HR0_5 := Qb hr0_5
 have HC0_5 := Qb hc0_5
 clear hr0_5 hc0_5
 have HR0_8 := Qb hr0_8
 have HC0_8 := Qb hc0_8
 clear hr0_8 hc0_8
 have HR0_9 := Qb hr0_9
 have HC0_9 := Qb hc0_9
 clear hr0_9 hc0_9
 have HR0_10 := Qb hr0_10
 have HC0_10 := Qb hc0_10
 clear hr0_10 hc0_10
 have HB := Qb (Below.refl w.heap.size w)
 have H : ((laws_toRules.f k a0_0 a0_1 a0_2 a0_3 l0_4 l0_5 a0_6 a0_7).bind fun bt136 => ((laws_toIntSS.f k l0_8).bind fun t148 => ((laws_toIntS.f k l0_9).bind fun t151 => ((laws_toIntS.f k l0_10).bind fun t154 => (some (bt136.1, bt136.2.1, bt136.2.2.1, bt136.2.2.2.1, bt136.2.2.2.2.1, bt136.2.2.2.2.2.1, bt136.2.2.2.2.2.2.1, bt136.2.2.2.2.2.2.2, t148, t151, t154, a0_11, a0_12, a0_13)))))) = some (r1, r2, r3, r4, r5, r6, r7, r8, r9, r10, r11, r12, r13, r14) := h
 clear h
 replace H := Qc.mp H
 obtain ⟨⟨t136, t137, t138, t139, t140, t143, t146, t147⟩, A20, H⟩ := H
 replace H : ((laws_toIntSS.f k l0_8).bind fun t148 => ((laws_toIntS.f k l0_9).bind fun t151 => ((laws_toIntS.f k l0_10).bind fun t154 => (some (t136, t137, t138, t139, t140, t143, t146, t147, t148, t151, t154, a0_11, a0_12, a0_13))))) = some (r1, r2, r3, r4, r5, r6, r7, r8, r9, r10, r11, r12, r13, r14) := H
 have A2 := Qb A20
 clear A20
 replace H := Qc.mp H
 obtain ⟨t148, A30, H⟩ := H
 replace H : ((laws_toIntS.f k l0_9).bind fun t151 => ((laws_toIntS.f k l0_10).bind fun t154 => (some (t136, t137, t138, t139, t140, t143, t146, t147, t148, t151, t154, a0_11, a0_12, a0_13)))) = some (r1, r2, r3, r4, r5, r6, r7, r8, r9, r10, r11, r12, r13, r14) := H
 have A3 := Qb A30
 clear A30
 replace H := Qc.mp H
 obtain ⟨t151, A40, H⟩ := H
 replace H : ((laws_toIntS.f k l0_10).bind fun t154 => (some (t136, t137, t138, t139, t140, t143, t146, t147, t148, t151, t154, a0_11, a0_12, a0_13))) = some (r1, r2, r3, r4, r5, r6, r7, r8, r9, r10, r11, r12, r13, r14) := H
 have A4 := Qb A40
 clear A40
 replace H := Qc.mp H
 obtain ⟨t154, A50, H⟩ := H
 replace H : (some (t136, t137, t138, t139, t140, t143, t146, t147, t148, t151, t154, a0_11, a0_12, a0_13)) = some (r1, r2, r3, r4, r5, r6, r7, r8, r9, r10, r11, r12, r13, r14) := H
 have A5 := Qb A50
 clear A50
 simp only [Option.some.injEq, Prod.mk.injEq] at H
 obtain ⟨rfl, rfl, rfl, rfl, rfl, rfl, rfl, rfl, rfl, rfl, rfl, rfl, rfl, rfl⟩ := H
 go_enter Try.func45, Try.ntmps45
 go_wp2_with (first | ((with_reducible refine gate_dst (N := 1) rfl ?_); refine box_event ?hg (N := 1) ?hd (cs := #[.int .i64 a0_0, .int .i64 a0_1, .bool a0_2, .bool a0_3, .slice A0_4 l0_4.length c0_4, .slice A0_5 l0_5.length c0_5, .int .i64 a0_6, .int .i64 a0_7, .slice A0_8 l0_8.length c0_8, .slice A0_9 l0_9.length c0_9, .slice A0_10 l0_10.length c0_10, .int .i64 a0_11, .int .i64 a0_12, .int .i64 a0_13]) (t := 55) ?hr ?_; (case hd => rfl); (case hg => rfl); (case hr => first | (go_simp; done) | (go_simp; rfl)); intro gb133 hg w6 hbox hb; have n0_ := Qb (QY (by repeat (first | (with_reducible first | exact HB.out | apply QH | apply QD | apply QI) | exact HB.out)) hb); have n1_ := Qb (hbox); have n2_ := Qb ((by rw [hg]; exact (QN (by repeat (first | (with_reducible first | exact HB.out | apply QH | apply QD | apply QI) | exact HB.out))) : w.heap.size ≤ gb133)); have n3_ := Qb ((by rw [hg]; exact (QN (by repeat (first | (with_reducible first | exact HB.out | apply QH | apply QD | apply QI) | exact HB.out))) : w.heap.size ≤ gb133)); clear HB; have HB := n0_; have BK133 := n1_; have GW133 := n2_; have GE133 := n3_; clear n0_ n1_ n2_ n3_; clear hb hbox hg) | ((with_reducible refine gate_dst (N := 2) rfl ?_); refine box_event ?hg (N := 2) ?hd (cs := #[.int .i64 0, .int .i64 0, .bool false, .bool false, .slice none 0 0, .slice none 0 0, .int .i64 0, .int .i64 0, .slice none 0 0, .slice none 0 0, .slice none 0 0, .int .i64 0, .int .i64 0, .int .i64 0]) (t := 59) ?hr ?_; (case hd => rfl); (case hg => rfl); (case hr => first | (go_simp; done) | (go_simp; rfl)); intro gb134 hg w7 hbox hb; have n0_ := Qb (QT (g := gb133) (o := .cells #[.int .i64 a0_0, .int .i64 a0_1, .bool a0_2, .bool a0_3, .slice A0_4 l0_4.length c0_4, .slice A0_5 l0_5.length c0_5, .int .i64 a0_6, .int .i64 a0_7, .slice A0_8 l0_8.length c0_8, .slice A0_9 l0_9.length c0_9, .slice A0_10 l0_10.length c0_10, .int .i64 a0_11, .int .i64 a0_12, .int .i64 a0_13] 55 (0, 0)) (by (with_reducible repeat (first | refine QE ?_ _ | refine QJ ?_ | refine QF ?_ _)); exact BK133.out) hb); have n1_ := Qb (QY (by repeat (first | (with_reducible first | exact HB.out | apply QH | apply QD | apply QI | refine QG ?_ GE133.out) | exact HB.out)) hb); have n2_ := Qb (hbox); have n3_ := Qb ((by rw [hg]; exact (QN (by repeat (first | (with_reducible first | exact HB.out | apply QH | apply QD | apply QI | refine QG ?_ GE133.out) | exact HB.out))) : w.heap.size ≤ gb134)); have n4_ := Qb ((by rw [hg]; exact (QN (by repeat (first | (with_reducible first | exact HB.out | apply QH | apply QD | apply QI | refine QG ?_ GE133.out) | exact HB.out))) : w.heap.size ≤ gb134)); have n5_ := Qb ((by rw [hg]; exact Nat.ne_of_lt (blk_lt (g := gb133) (o := .cells #[.int .i64 a0_0, .int .i64 a0_1, .bool a0_2, .bool a0_3, .slice A0_4 l0_4.length c0_4, .slice A0_5 l0_5.length c0_5, .int .i64 a0_6, .int .i64 a0_7, .slice A0_8 l0_8.length c0_8, .slice A0_9 l0_9.length c0_9, .slice A0_10 l0_10.length c0_10, .int .i64 a0_11, .int .i64 a0_12, .int .i64 a0_13] 55 (0, 0)) (by (with_reducible repeat (first | refine QE ?_ _ | refine QJ ?_ | refine QF ?_ _)); exact BK133.out)) : gb133 ≠ gb134)); have n6_ := Qb ((by rw [hg]; exact Nat.ne_of_gt (blk_lt (g := gb133) (o := .cells #[.int .i64 a0_0, .int .i64 a0_1, .bool a0_2, .bool a0_3, .slice A0_4 l0_4.length c0_4, .slice A0_5 l0_5.length c0_5, .int .i64 a0_6, .int .i64 a0_7, .slice A0_8 l0_8.length c0_8, .slice A0_9 l0_9.length c0_9, .slice A0_10 l0_10.length c0_10, .int .i64 a0_11, .int .i64 a0_12, .int .i64 a0_13] 55 (0, 0)) (by (with_reducible repeat (first | refine QE ?_ _ | refine QJ ?_ | refine QF ?_ _)); exact BK133.out)) : gb134 ≠ gb133)); clear BK133; clear HB; have BK133 := n0_; have HB := n1_; have BK134 := n2_; have GW134 := n3_; have GE134 := n4_; have NB133_134 := n5_; have NB134_133 := n6_; clear n0_ n1_ n2_ n3_ n4_ n5_ n6_; clear hb hbox hg) | ((with_reducible refine gate_dst (N := 3) rfl ?_); refine box_event ?hg (N := 3) ?hd (cs := #[.int .i64 0, .int .i64 0, .bool false, .bool false, .slice none 0 0, .slice none 0 0, .int .i64 0, .int .i64 0, .slice none 0 0, .slice none 0 0, .slice none 0 0, .int .i64 0, .int .i64 0, .int .i64 0]) (t := 59) ?hr ?_; (case hd => rfl); (case hg => rfl); (case hr => first | (go_simp; done) | (go_simp; rfl)); intro gb135 hg w8 hbox hb; have n0_ := Qb (QT (g := gb133) (o := .cells #[.int .i64 a0_0, .int .i64 a0_1, .bool a0_2, .bool a0_3, .slice A0_4 l0_4.length c0_4, .slice A0_5 l0_5.length c0_5, .int .i64 a0_6, .int .i64 a0_7, .slice A0_8 l0_8.length c0_8, .slice A0_9 l0_9.length c0_9, .slice A0_10 l0_10.length c0_10, .int .i64 a0_11, .int .i64 a0_12, .int .i64 a0_13] 55 (0, 0)) (by (with_reducible repeat (first | refine QE ?_ _ | refine QJ ?_ | refine QF ?_ _)); exact BK133.out) hb); have n1_ := Qb (QT (g := gb134) (o := .cells #[.int .i64 0, .int .i64 0, .bool false, .bool false, .slice none 0 0, .slice none 0 0, .int .i64 0, .int .i64 0, .slice none 0 0, .slice none 0 0, .slice none 0 0, .int .i64 0, .int .i64 0, .int .i64 0] 59 (0, 0)) (by (with_reducible repeat (first | refine QE ?_ _ | refine QJ ?_ | refine QF ?_ _)); exact BK134.out) hb); have n2_ := Qb (QY (by repeat (first | (with_reducible first | exact HB.out | apply QH | apply QD | apply QI | refine QG ?_ GE133.out | refine QG ?_ GE134.out) | exact HB.out)) hb); have n3_ := Qb (hbox); have n4_ := Qb ((by rw [hg]; exact (QN (by repeat (first | (with_reducible first | exact HB.out | apply QH | apply QD | apply QI | refine QG ?_ GE133.out | refine QG ?_ GE134.out) | exact HB.out))) : w.heap.size ≤ gb135)); have n5_ := Qb ((by rw [hg]; exact (QN (by repeat (first | (with_reducible first | exact HB.out | apply QH | apply QD | apply QI | refine QG ?_ GE133.out | refine QG ?_ GE134.out) | exact HB.out))) : w.heap.size ≤ gb135)); have n6_ := Qb ((by rw [hg]; exact Nat.ne_of_lt (blk_lt (g := gb133) (o := .cells #[.int .i64 a0_0, .int .i64 a0_1, .bool a0_2, .bool a0_3, .slice A0_4 l0_4.length c0_4, .slice A0_5 l0_5.length c0_5, .int .i64 a0_6, .int .i64 a0_7, .slice A0_8 l0_8.length c0_8, .slice A0_9 l0_9.length c0_9, .slice A0_10 l0_10.length c0_10, .int .i64 a0_11, .int .i64 a0_12, .int .i64 a0_13] 55 (0, 0)) (by (with_reducible repeat (first | refine QE ?_ _ | refine QJ ?_ | refine QF ?_ _)); exact BK133.out)) : gb133 ≠ gb135)); have n7_ := Qb ((by rw [hg]; exact Nat.ne_of_gt (blk_lt (g := gb133) (o := .cells #[.int .i64 a0_0, .int .i64 a0_1, .bool a0_2, .bool a0_3, .slice A0_4 l0_4.length c0_4, .slice A0_5 l0_5.length c0_5, .int .i64 a0_6, .int .i64 a0_7, .slice A0_8 l0_8.length c0_8, .slice A0_9 l0_9.length c0_9, .slice A0_10 l0_10.length c0_10, .int .i64 a0_11, .int .i64 a0_12, .int .i64 a0_13] 55 (0, 0)) (by (with_reducible repeat (first | refine QE ?_ _ | refine QJ ?_ | refine QF ?_ _)); exact BK133.out)) : gb135 ≠ gb133)); have n8_ := Qb ((by rw [hg]; exact Nat.ne_of_lt (blk_lt (g := gb134) (o := .cells #[.int .i64 0, .int .i64 0, .bool false, .bool false, .slice none 0 0, .slice none 0 0, .int .i64 0, .int .i64 0, .slice none 0 0, .slice none 0 0, .slice none 0 0, .int .i64 0, .int .i64 0, .int .i64 0] 59 (0, 0)) (by (with_reducible repeat (first | refine QE ?_ _ | refine QJ ?_ | refine QF ?_ _)); exact BK134.out)) : gb134 ≠ gb135)); have n9_ := Qb ((by rw [hg]; exact Nat.ne_of_gt (blk_lt (g := gb134) (o := .cells #[.int .i64 0, .int .i64 0, .bool false, .bool false, .slice none 0 0, .slice none 0 0, .int .i64 0, .int .i64 0, .slice none 0 0, .slice none 0 0, .slice none 0 0, .int .i64 0, .int .i64 0, .int .i64 0] 59 (0, 0)) (by (with_reducible repeat (first | refine QE ?_ _ | refine QJ ?_ | refine QF ?_ _)); exact BK134.out)) : gb135 ≠ gb134)); clear BK133; clear BK134; clear HB; have BK133 := n0_; have BK134 := n1_; have HB := n2_; have BK135 := n3_; have GW135 := n4_; have GE135 := n5_; have NB133_135 := n6_; have NB135_133 := n7_; have NB134_135 := n8_; have NB135_134 := n9_; clear n0_ n1_ n2_ n3_ n4_ n5_ n6_ n7_ n8_ n9_; clear hb hbox hg; have hnb9 := NB133_134.out; have hnc9 := NB134_133.out; have hnb10 := NB133_135.out; have hnc10 := NB135_133.out; have hcz11_0 : w8.cell? ⟨gb133, 0, none⟩ = some (.int .i64 a0_0) := (QC BK133.out 0).trans rfl; have hcz11_1 : w8.cell? ⟨gb133, 1, none⟩ = some (.int .i64 a0_1) := (QC BK133.out 1).trans rfl; have hcz11_2 : w8.cell? ⟨gb133, 2, none⟩ = some (.bool a0_2) := (QC BK133.out 2).trans rfl; have hcz11_3 : w8.cell? ⟨gb133, 3, none⟩ = some (.bool a0_3) := (QC BK133.out 3).trans rfl; have hcz11_4 : w8.cell? ⟨gb133, 4, none⟩ = some (.slice A0_4 l0_4.length c0_4) := (QC BK133.out 4).trans rfl; have hcz11_5 : w8.cell? ⟨gb133, 5, none⟩ = some (.slice A0_5 l0_5.length c0_5) := (QC BK133.out 5).trans rfl; have hcz11_6 : w8.cell? ⟨gb133, 6, none⟩ = some (.int .i64 a0_6) := (QC BK133.out 6).trans rfl; have hcz11_7 : w8.cell? ⟨gb133, 7, none⟩ = some (.int .i64 a0_7) := (QC BK133.out 7).trans rfl; have hcz11_8 : w8.cell? ⟨gb133, 8, none⟩ = some (.slice A0_8 l0_8.length c0_8) := (QC BK133.out 8).trans rfl; have hcz11_9 : w8.cell? ⟨gb133, 9, none⟩ = some (.slice A0_9 l0_9.length c0_9) := (QC BK133.out 9).trans rfl; have hcz11_10 : w8.cell? ⟨gb133, 10, none⟩ = some (.slice A0_10 l0_10.length c0_10) := (QC BK133.out 10).trans rfl; have hcz11_11 : w8.cell? ⟨gb133, 11, none⟩ = some (.int .i64 a0_11) := (QC BK133.out 11).trans rfl; have hcz11_12 : w8.cell? ⟨gb133, 12, none⟩ = some (.int .i64 a0_12) := (QC BK133.out 12).trans rfl; have hcz11_13 : w8.cell? ⟨gb133, 13, none⟩ = some (.int .i64 a0_13) := (QC BK133.out 13).trans rfl; have hfz11_0 := QB BK133.out 0; have hfz11_1 := QB BK133.out 1; have hfz11_2 := QB BK133.out 2; have hfz11_3 := QB BK133.out 3; have hfz11_4 := QB BK133.out 4; have hfz11_5 := QB BK133.out 5; have hfz11_6 := QB BK133.out 6; have hfz11_7 := QB BK133.out 7; have hfz11_8 := QB BK133.out 8; have hfz11_9 := QB BK133.out 9; have hfz11_10 := QB BK133.out 10; have hfz11_11 := QB BK133.out 11; have hfz11_12 := QB BK133.out 12; have hfz11_13 := QB BK133.out 13) | ((with_reducible refine QR (f := 28) rfl ?_); refine goesL_ (some 6) rfl rfl Try.func28 (by kernel_rfl) rfl #[.agg #[.int .i64 a0_0, .int .i64 a0_1, .bool a0_2, .bool a0_3, .slice A0_4 l0_4.length c0_4, .slice A0_5 l0_5.length c0_5, .int .i64 a0_6, .int .i64 a0_7]] rfl (by (try simp only [List.map_toArray, List.map_cons, List.map_nil]); first | done | rfl | (simp only [List.length_drop, List.length_take]; rfl)) ?_; (with_reducible refine (laws_toRules.calls k a0_0 a0_1 a0_2 a0_3 _ _ l0_4 _ _ l0_5 a0_6 a0_7 t136 t137 t138 t139 t140 t143 t146 t147 _ ?side1 ?side2 ?side3 ?side4 A2.out).mono ?_); (case side1 => repeat (first | exact (QP HR0_4.out HB.out) | (with_reducible refine QL ?_ _) | (with_reducible refine QM ?_ _) | (with_reducible refine QO ?_))); (case side2 => exact HC0_4.out); (case side3 => repeat (first | exact (QP HR0_5.out HB.out) | (with_reducible refine QL ?_ _) | (with_reducible refine QM ?_ _) | (with_reducible refine QO ?_))); (case side4 => exact HC0_5.out); rintro e w12 ⟨v141, v144, rfl, ho0, ho1, hb⟩; refine ⟨_, rfl, ?_⟩; have n0_ := Qb (Kd.R_lower ho0 (QN (by repeat (first | (with_reducible first | exact HB.out | apply QH | apply QD | apply QI | refine QG ?_ GE133.out | refine QG ?_ GE134.out | refine QG ?_ GE135.out) | exact HB.out)))); have n1_ := Qb (Kd.R_lower ho1 (QN (by repeat (first | (with_reducible first | exact HB.out | apply QH | apply QD | apply QI | refine QG ?_ GE133.out | refine QG ?_ GE134.out | refine QG ?_ GE135.out) | exact HB.out)))); have n2_ := Qb (QT (g := gb133) (o := .cells #[.int .i64 a0_0, .int .i64 a0_1, .bool a0_2, .bool a0_3, .slice A0_4 l0_4.length c0_4, .slice A0_5 l0_5.length c0_5, .int .i64 a0_6, .int .i64 a0_7, .slice A0_8 l0_8.length c0_8, .slice A0_9 l0_9.length c0_9, .slice A0_10 l0_10.length c0_10, .int .i64 a0_11, .int .i64 a0_12, .int .i64 a0_13] 55 (0, 0)) (by (with_reducible repeat (first | refine QE ?_ _ | refine QJ ?_ | refine QF ?_ _)); exact BK133.out) hb); have n3_ := Qb (QT (g := gb134) (o := .cells #[.int .i64 0, .int .i64 0, .bool false, .bool false, .slice none 0 0, .slice none 0 0, .int .i64 0, .int .i64 0, .slice none 0 0, .slice none 0 0, .slice none 0 0, .int .i64 0, .int .i64 0, .int .i64 0] 59 (0, 0)) (by (with_reducible repeat (first | refine QE ?_ _ | refine QJ ?_ | refine QF ?_ _)); exact BK134.out) hb); have n4_ := Qb (QT (g := gb135) (o := .cells #[.int .i64 0, .int .i64 0, .bool false, .bool false, .slice none 0 0, .slice none 0 0, .int .i64 0, .int .i64 0, .slice none 0 0, .slice none 0 0, .slice none 0 0, .int .i64 0, .int .i64 0, .int .i64 0] 59 (0, 0)) (by (with_reducible repeat (first | refine QE ?_ _ | refine QJ ?_ | refine QF ?_ _)); exact BK135.out) hb); have n5_ := Qb (QY (by repeat (first | (with_reducible first | exact HB.out | apply QH | apply QD | apply QI | refine QG ?_ GE133.out | refine QG ?_ GE134.out | refine QG ?_ GE135.out) | exact HB.out)) hb); clear BK133; clear BK134; clear BK135; clear HB; have HO142 := n0_; have HO145 := n1_; have BK133 := n2_; have BK134 := n3_; have BK135 := n4_; have HB := n5_; clear n0_ n1_ n2_ n3_ n4_ n5_; (try clear hb); (try clear hb2); (try clear hk); (try clear hi); (try clear ho0); (try clear ho1); have hnb13 := NB135_134.out; have hnc13 := NB134_135.out; have hcz14_0 : w12.cell? ⟨gb135, 0, none⟩ = some (.int .i64 0) := (QC BK135.out 0).trans rfl; have hcz14_1 : w12.cell? ⟨gb135, 1, none⟩ = some (.int .i64 0) := (QC BK135.out 1).trans rfl; have hcz14_2 : w12.cell? ⟨gb135, 2, none⟩ = some (.bool false) := (QC BK135.out 2).trans rfl; have hcz14_3 : w12.cell? ⟨gb135, 3, none⟩ = some (.bool false) := (QC BK135.out 3).trans rfl; have hcz14_4 : w12.cell? ⟨gb135, 4, none⟩ = some (.slice none 0 0) := (QC BK135.out 4).trans rfl; have hcz14_5 : w12.cell? ⟨gb135, 5, none⟩ = some (.slice none 0 0) := (QC BK135.out 5).trans rfl; have hcz14_6 : w12.cell? ⟨gb135, 6, none⟩ = some (.int .i64 0) := (QC BK135.out 6).trans rfl; have hcz14_7 : w12.cell? ⟨gb135, 7, none⟩ = some (.int .i64 0) := (QC BK135.out 7).trans rfl; have hcz14_8 : w12.cell? ⟨gb135, 8, none⟩ = some (.slice none 0 0) := (QC BK135.out 8).trans rfl; have hcz14_9 : w12.cell? ⟨gb135, 9, none⟩ = some (.slice none 0 0) := (QC BK135.out 9).trans rfl; have hcz14_10 : w12.cell? ⟨gb135, 10, none⟩ = some (.slice none 0 0) := (QC BK135.out 10).trans rfl; have hcz14_11 : w12.cell? ⟨gb135, 11, none⟩ = some (.int .i64 0) := (QC BK135.out 11).trans rfl; have hcz14_12 : w12.cell? ⟨gb135, 12, none⟩ = some (.int .i64 0) := (QC BK135.out 12).trans rfl; have hcz14_13 : w12.cell? ⟨gb135, 13, none⟩ = some (.int .i64 0) := (QC BK135.out 13).trans rfl; have hfz14_0 := QB BK135.out 0; have hfz14_1 := QB BK135.out 1; have hfz14_2 := QB BK135.out 2; have hfz14_3 := QB BK135.out 3; have hfz14_4 := QB BK135.out 4; have hfz14_5 := QB BK135.out 5; have hfz14_6 := QB BK135.out 6; have hfz14_7 := QB BK135.out 7; have hfz14_8 := QB BK135.out 8; have hfz14_9 := QB BK135.out 9; have hfz14_10 := QB BK135.out 10; have hfz14_11 := QB BK135.out 11; have hfz14_12 := QB BK135.out 12; have hfz14_13 := QB BK135.out 13; obtain ⟨Ao15, co15, eo15⟩ := Kd.R_slice HO142.out; subst eo15; obtain ⟨Ao16, co16, eo16⟩ := Kd.R_slice HO145.out; subst eo16; have hcz17_0 : w12.cell? ⟨gb133, 0, none⟩ = some (.int .i64 a0_0) := (QC BK133.out 0).trans rfl; have hcz17_1 : w12.cell? ⟨gb133, 1, none⟩ = some (.int .i64 a0_1) := (QC BK133.out 1).trans rfl; have hcz17_2 : w12.cell? ⟨gb133, 2, none⟩ = some (.bool a0_2) := (QC BK133.out 2).trans rfl; have hcz17_3 : w12.cell? ⟨gb133, 3, none⟩ = some (.bool a0_3) := (QC BK133.out 3).trans rfl; have hcz17_4 : w12.cell? ⟨gb133, 4, none⟩ = some (.slice A0_4 l0_4.length c0_4) := (QC BK133.out 4).trans rfl; have hcz17_5 : w12.cell? ⟨gb133, 5, none⟩ = some (.slice A0_5 l0_5.length c0_5) := (QC BK133.out 5).trans rfl; have hcz17_6 : w12.cell? ⟨gb133, 6, none⟩ = some (.int .i64 a0_6) := (QC BK133.out 6).trans rfl; have hcz17_7 : w12.cell? ⟨gb133, 7, none⟩ = some (.int .i64 a0_7) := (QC BK133.out 7).trans rfl; have hcz17_8 : w12.cell? ⟨gb133, 8, none⟩ = some (.slice A0_8 l0_8.length c0_8) := (QC BK133.out 8).trans rfl; have hcz17_9 : w12.cell? ⟨gb133, 9, none⟩ = some (.slice A0_9 l0_9.length c0_9) := (QC BK133.out 9).trans rfl; have hcz17_10 : w12.cell? ⟨gb133, 10, none⟩ = some (.slice A0_10 l0_10.length c0_10) := (QC BK133.out 10).trans rfl; have hcz17_11 : w12.cell? ⟨gb133, 11, none⟩ = some (.int .i64 a0_11) := (QC BK133.out 11).trans rfl; have hcz17_12 : w12.cell? ⟨gb133, 12, none⟩ = some (.int .i64 a0_12) := (QC BK133.out 12).trans rfl; have hcz17_13 : w12.cell? ⟨gb133, 13, none⟩ = some (.int .i64 a0_13) := (QC BK133.out 13).trans rfl; have hfz17_0 := QB BK133.out 0; have hfz17_1 := QB BK133.out 1; have hfz17_2 := QB BK133.out 2; have hfz17_3 := QB BK133.out 3; have hfz17_4 := QB BK133.out 4; have hfz17_5 := QB BK133.out 5; have hfz17_6 := QB BK133.out 6; have hfz17_7 := QB BK133.out 7; have hfz17_8 := QB BK133.out 8; have hfz17_9 := QB BK133.out 9; have hfz17_10 := QB BK133.out 10; have hfz17_11 := QB BK133.out 11; have hfz17_12 := QB BK133.out 12; have hfz17_13 := QB BK133.out 13) | ((with_reducible refine QR (f := 109) rfl ?_); refine goesL_ (some 10) rfl rfl Try.func109 (by kernel_rfl) rfl #[.slice A0_8 l0_8.length c0_8] rfl (by (try simp only [List.map_toArray, List.map_cons, List.map_nil]); first | done | rfl | (simp only [List.length_drop, List.length_take]; rfl)) ?_; (with_reducible refine (laws_toIntSS.calls k _ _ l0_8 t148 _ ?side1 ?side2 A3.out).mono ?_); (case side1 => exact QP HR0_8.out (by repeat (first | (with_reducible first | exact HB.out | apply QH | apply QD | apply QI | refine QG ?_ GE133.out | refine QG ?_ GE134.out | refine QG ?_ GE135.out) | exact HB.out))); (case side2 => exact HC0_8.out); rintro e w18 ⟨v149, rfl, ho0, hb⟩; refine ⟨_, rfl, ?_⟩; have n0_ := Qb (Kd.R_below (by (with_reducible repeat (first | apply QU | apply QV | apply QZ)); exact (Qa (QK (QK (QK (QK (QK (QK (QK (QK (QS HO142.out BK135.out (by decide)))))))))) (fun _ h_ => h_.1))) hb); have n1_ := Qb (Kd.R_below (by (with_reducible repeat (first | apply QU | apply QV | apply QZ)); exact (Qa (QK (QK (QK (QK (QK (QK (QK (QK (QS HO145.out BK135.out (by decide)))))))))) (fun _ h_ => h_.1))) hb); have n2_ := Qb (Kd.S_lower (Kd.S_new' (Kd.S_new' ho0 (Kd.R_lt (by (with_reducible repeat (first | apply QU | apply QV | apply QZ)); exact (Qa (QK (QK (QK (QK (QK (QK (QK (QK (QS HO142.out BK135.out (by decide)))))))))) (fun _ h_ => h_.1))))) (Kd.R_lt (by (with_reducible repeat (first | apply QU | apply QV | apply QZ)); exact (Qa (QK (QK (QK (QK (QK (QK (QK (QK (QS HO145.out BK135.out (by decide)))))))))) (fun _ h_ => h_.1))))) (QN (by repeat (first | (with_reducible first | exact HB.out | apply QH | apply QD | apply QI | refine QG ?_ GE133.out | refine QG ?_ GE134.out | refine QG ?_ GE135.out) | exact HB.out)))); have n3_ := Qb (QT (g := gb133) (o := .cells #[.int .i64 a0_0, .int .i64 a0_1, .bool a0_2, .bool a0_3, .slice A0_4 l0_4.length c0_4, .slice A0_5 l0_5.length c0_5, .int .i64 a0_6, .int .i64 a0_7, .slice A0_8 l0_8.length c0_8, .slice A0_9 l0_9.length c0_9, .slice A0_10 l0_10.length c0_10, .int .i64 a0_11, .int .i64 a0_12, .int .i64 a0_13] 55 (0, 0)) (by (with_reducible repeat (first | refine QE ?_ _ | refine QJ ?_ | refine QF ?_ _)); refine QW ?_ NB133_135.out _; (with_reducible repeat (first | refine QE ?_ _ | refine QJ ?_ | refine QF ?_ _)); refine QW ?_ NB133_135.out _; (with_reducible repeat (first | refine QE ?_ _ | refine QJ ?_ | refine QF ?_ _)); refine QW ?_ NB133_135.out _; (with_reducible repeat (first | refine QE ?_ _ | refine QJ ?_ | refine QF ?_ _)); refine QW ?_ NB133_135.out _; (with_reducible repeat (first | refine QE ?_ _ | refine QJ ?_ | refine QF ?_ _)); refine QW ?_ NB133_135.out _; (with_reducible repeat (first | refine QE ?_ _ | refine QJ ?_ | refine QF ?_ _)); refine QW ?_ NB133_135.out _; (with_reducible repeat (first | refine QE ?_ _ | refine QJ ?_ | refine QF ?_ _)); refine QW ?_ NB133_135.out _; (with_reducible repeat (first | refine QE ?_ _ | refine QJ ?_ | refine QF ?_ _)); refine QW ?_ NB133_135.out _; (with_reducible repeat (first | refine QE ?_ _ | refine QJ ?_ | refine QF ?_ _)); exact BK133.out) hb); have n4_ := Qb (QT (g := gb134) (o := .cells #[.int .i64 0, .int .i64 0, .bool false, .bool false, .slice none 0 0, .slice none 0 0, .int .i64 0, .int .i64 0, .slice none 0 0, .slice none 0 0, .slice none 0 0, .int .i64 0, .int .i64 0, .int .i64 0] 59 (0, 0)) (by (with_reducible repeat (first | refine QE ?_ _ | refine QJ ?_ | refine QF ?_ _)); refine QW ?_ NB134_135.out _; (with_reducible repeat (first | refine QE ?_ _ | refine QJ ?_ | refine QF ?_ _)); refine QW ?_ NB134_135.out _; (with_reducible repeat (first | refine QE ?_ _ | refine QJ ?_ | refine QF ?_ _)); refine QW ?_ NB134_135.out _; (with_reducible repeat (first | refine QE ?_ _ | refine QJ ?_ | refine QF ?_ _)); refine QW ?_ NB134_135.out _; (with_reducible repeat (first | refine QE ?_ _ | refine QJ ?_ | refine QF ?_ _)); refine QW ?_ NB134_135.out _; (with_reducible repeat (first | refine QE ?_ _ | refine QJ ?_ | refine QF ?_ _)); refine QW ?_ NB134_135.out _; (with_reducible repeat (first | refine QE ?_ _ | refine QJ ?_ | refine QF ?_ _)); refine QW ?_ NB134_135.out _; (with_reducible repeat (first | refine QE ?_ _ | refine QJ ?_ | refine QF ?_ _)); refine QW ?_ NB134_135.out _; (with_reducible repeat (first | refine QE ?_ _ | refine QJ ?_ | refine QF ?_ _)); exact BK134.out) hb); have n5_ := Qb (QT (g := gb135) (o := .cells #[.int .i64 t136, .int .i64 t137, .bool t138, .bool t139, .slice Ao15 t140.length co15, .slice Ao16 t143.length co16, .int .i64 t146, .int .i64 t147, .slice none 0 0, .slice none 0 0, .slice none 0 0, .int .i64 0, .int .i64 0, .int .i64 0] 59 (0, 0)) (by (with_reducible repeat (first | refine QE ?_ _ | refine QJ ?_ | refine QF ?_ _)); refine QX (cs := #[.int .i64 t136, .int .i64 t137, .bool t138, .bool t139, .slice Ao15 t140.length co15, .slice Ao16 t143.length co16, .int .i64 t146, .int .i64 0, .slice none 0 0, .slice none 0 0, .slice none 0 0, .int .i64 0, .int .i64 0, .int .i64 0]) ?_ 7 _ rfl; (with_reducible repeat (first | refine QE ?_ _ | refine QJ ?_ | refine QF ?_ _)); refine QX (cs := #[.int .i64 t136, .int .i64 t137, .bool t138, .bool t139, .slice Ao15 t140.length co15, .slice Ao16 t143.length co16, .int .i64 0, .int .i64 0, .slice none 0 0, .slice none 0 0, .slice none 0 0, .int .i64 0, .int .i64 0, .int .i64 0]) ?_ 6 _ rfl; (with_reducible repeat (first | refine QE ?_ _ | refine QJ ?_ | refine QF ?_ _)); refine QX (cs := #[.int .i64 t136, .int .i64 t137, .bool t138, .bool t139, .slice Ao15 t140.length co15, .slice none 0 0, .int .i64 0, .int .i64 0, .slice none 0 0, .slice none 0 0, .slice none 0 0, .int .i64 0, .int .i64 0, .int .i64 0]) ?_ 5 _ rfl; (with_reducible repeat (first | refine QE ?_ _ | refine QJ ?_ | refine QF ?_ _)); refine QX (cs := #[.int .i64 t136, .int .i64 t137, .bool t138, .bool t139, .slice none 0 0, .slice none 0 0, .int .i64 0, .int .i64 0, .slice none 0 0, .slice none 0 0, .slice none 0 0, .int .i64 0, .int .i64 0, .int .i64 0]) ?_ 4 _ rfl; (with_reducible repeat (first | refine QE ?_ _ | refine QJ ?_ | refine QF ?_ _)); refine QX (cs := #[.int .i64 t136, .int .i64 t137, .bool t138, .bool false, .slice none 0 0, .slice none 0 0, .int .i64 0, .int .i64 0, .slice none 0 0, .slice none 0 0, .slice none 0 0, .int .i64 0, .int .i64 0, .int .i64 0]) ?_ 3 _ rfl; (with_reducible repeat (first | refine QE ?_ _ | refine QJ ?_ | refine QF ?_ _)); refine QX (cs := #[.int .i64 t136, .int .i64 t137, .bool false, .bool false, .slice none 0 0, .slice none 0 0, .int .i64 0, .int .i64 0, .slice none 0 0, .slice none 0 0, .slice none 0 0, .int .i64 0, .int .i64 0, .int .i64 0]) ?_ 2 _ rfl; (with_reducible repeat (first | refine QE ?_ _ | refine QJ ?_ | refine QF ?_ _)); refine QX (cs := #[.int .i64 t136, .int .i64 0, .bool false, .bool false, .slice none 0 0, .slice none 0 0, .int .i64 0, .int .i64 0, .slice none 0 0, .slice none 0 0, .slice none 0 0, .int .i64 0, .int .i64 0, .int .i64 0]) ?_ 1 _ rfl; (with_reducible repeat (first | refine QE ?_ _ | refine QJ ?_ | refine QF ?_ _)); refine QX (cs := #[.int .i64 0, .int .i64 0, .bool false, .bool false, .slice none 0 0, .slice none 0 0, .int .i64 0, .int .i64 0, .slice none 0 0, .slice none 0 0, .slice none 0 0, .int .i64 0, .int .i64 0, .int .i64 0]) ?_ 0 _ rfl; (with_reducible repeat (first | refine QE ?_ _ | refine QJ ?_ | refine QF ?_ _)); exact BK135.out) hb); have n6_ := Qb (QY (by repeat (first | (with_reducible first | exact HB.out | apply QH | apply QD | apply QI | refine QG ?_ GE133.out | refine QG ?_ GE134.out | refine QG ?_ GE135.out) | exact HB.out)) hb); clear HO142; clear HO145; clear BK133; clear BK134; clear BK135; clear HB; have HO142 := n0_; have HO145 := n1_; have HO150 := n2_; have BK133 := n3_; have BK134 := n4_; have BK135 := n5_; have HB := n6_; clear n0_ n1_ n2_ n3_ n4_ n5_ n6_; (try clear hb); (try clear hb2); (try clear hk); (try clear hi); (try clear ho0); obtain ⟨Ao19, co19, eo19⟩ := Kd.S_slice HO150.out; subst eo19; have hcz20_0 : w18.cell? ⟨gb135, 0, none⟩ = some (.int .i64 t136) := (QC BK135.out 0).trans rfl; have hcz20_1 : w18.cell? ⟨gb135, 1, none⟩ = some (.int .i64 t137) := (QC BK135.out 1).trans rfl; have hcz20_2 : w18.cell? ⟨gb135, 2, none⟩ = some (.bool t138) := (QC BK135.out 2).trans rfl; have hcz20_3 : w18.cell? ⟨gb135, 3, none⟩ = some (.bool t139) := (QC BK135.out 3).trans rfl; have hcz20_4 : w18.cell? ⟨gb135, 4, none⟩ = some (.slice Ao15 t140.length co15) := (QC BK135.out 4).trans rfl; have hcz20_5 : w18.cell? ⟨gb135, 5, none⟩ = some (.slice Ao16 t143.length co16) := (QC BK135.out 5).trans rfl; have hcz20_6 : w18.cell? ⟨gb135, 6, none⟩ = some (.int .i64 t146) := (QC BK135.out 6).trans rfl; have hcz20_7 : w18.cell? ⟨gb135, 7, none⟩ = some (.int .i64 t147) := (QC BK135.out 7).trans rfl; have hcz20_8 : w18.cell? ⟨gb135, 8, none⟩ = some (.slice none 0 0) := (QC BK135.out 8).trans rfl; have hcz20_9 : w18.cell? ⟨gb135, 9, none⟩ = some (.slice none 0 0) := (QC BK135.out 9).trans rfl; have hcz20_10 : w18.cell? ⟨gb135, 10, none⟩ = some (.slice none 0 0) := (QC BK135.out 10).trans rfl; have hcz20_11 : w18.cell? ⟨gb135, 11, none⟩ = some (.int .i64 0) := (QC BK135.out 11).trans rfl; have hcz20_12 : w18.cell? ⟨gb135, 12, none⟩ = some (.int .i64 0) := (QC BK135.out 12).trans rfl; have hcz20_13 : w18.cell? ⟨gb135, 13, none⟩ = some (.int .i64 0) := (QC BK135.out 13).trans rfl; have hfz20_0 := QB BK135.out 0; have hfz20_1 := QB BK135.out 1; have hfz20_2 := QB BK135.out 2; have hfz20_3 := QB BK135.out 3; have hfz20_4 := QB BK135.out 4; have hfz20_5 := QB BK135.out 5; have hfz20_6 := QB BK135.out 6; have hfz20_7 := QB BK135.out 7; have hfz20_8 := QB BK135.out 8; have hfz20_9 := QB BK135.out 9; have hfz20_10 := QB BK135.out 10; have hfz20_11 := QB BK135.out 11; have hfz20_12 := QB BK135.out 12; have hfz20_13 := QB BK135.out 13; have hcz21_0 : w18.cell? ⟨gb133, 0, none⟩ = some (.int .i64 a0_0) := (QC BK133.out 0).trans rfl; have hcz21_1 : w18.cell? ⟨gb133, 1, none⟩ = some (.int .i64 a0_1) := (QC BK133.out 1).trans rfl; have hcz21_2 : w18.cell? ⟨gb133, 2, none⟩ = some (.bool a0_2) := (QC BK133.out 2).trans rfl; have hcz21_3 : w18.cell? ⟨gb133, 3, none⟩ = some (.bool a0_3) := (QC BK133.out 3).trans rfl; have hcz21_4 : w18.cell? ⟨gb133, 4, none⟩ = some (.slice A0_4 l0_4.length c0_4) := (QC BK133.out 4).trans rfl; have hcz21_5 : w18.cell? ⟨gb133, 5, none⟩ = some (.slice A0_5 l0_5.length c0_5) := (QC BK133.out 5).trans rfl; have hcz21_6 : w18.cell? ⟨gb133, 6, none⟩ = some (.int .i64 a0_6) := (QC BK133.out 6).trans rfl; have hcz21_7 : w18.cell? ⟨gb133, 7, none⟩ = some (.int .i64 a0_7) := (QC BK133.out 7).trans rfl; have hcz21_8 : w18.cell? ⟨gb133, 8, none⟩ = some (.slice A0_8 l0_8.length c0_8) := (QC BK133.out 8).trans rfl; have hcz21_9 : w18.cell? ⟨gb133, 9, none⟩ = some (.slice A0_9 l0_9.length c0_9) := (QC BK133.out 9).trans rfl; have hcz21_10 : w18.cell? ⟨gb133, 10, none⟩ = some (.slice A0_10 l0_10.length c0_10) := (QC BK133.out 10).trans rfl; have hcz21_11 : w18.cell? ⟨gb133, 11, none⟩ = some (.int .i64 a0_11) := (QC BK133.out 11).trans rfl; have hcz21_12 : w18.cell? ⟨gb133, 12, none⟩ = some (.int .i64 a0_12) := (QC BK133.out 12).trans rfl; have hcz21_13 : w18.cell? ⟨gb133, 13, none⟩ = some (.int .i64 a0_13) := (QC BK133.out 13).trans rfl; have hfz21_0 := QB BK133.out 0; have hfz21_1 := QB BK133.out 1; have hfz21_2 := QB BK133.out 2; have hfz21_3 := QB BK133.out 3; have hfz21_4 := QB BK133.out 4; have hfz21_5 := QB BK133.out 5; have hfz21_6 := QB BK133.out 6; have hfz21_7 := QB BK133.out 7; have hfz21_8 := QB BK133.out 8; have hfz21_9 := QB BK133.out 9; have hfz21_10 := QB BK133.out 10; have hfz21_11 := QB BK133.out 11; have hfz21_12 := QB BK133.out 12; have hfz21_13 := QB BK133.out 13) | ((with_reducible refine QR (f := 96) rfl ?_); refine goesL_ (some 14) rfl rfl Try.func96 (by kernel_rfl) rfl #[.slice A0_9 l0_9.length c0_9] rfl (by (try simp only [List.map_toArray, List.map_cons, List.map_nil]); first | done | rfl | (simp only [List.length_drop, List.length_take]; rfl)) ?_; (with_reducible refine (laws_toIntS.calls k _ _ l0_9 t151 _ ?side1 ?side2 A4.out).mono ?_); (case side1 => exact QP HR0_9.out (by repeat (first | (with_reducible first | exact HB.out | apply QH | apply QD | apply QI | refine QG ?_ GE133.out | refine QG ?_ GE134.out | refine QG ?_ GE135.out) | exact HB.out))); (case side2 => exact HC0_9.out); rintro e w22 ⟨v152, rfl, ho0, hb⟩; refine ⟨_, rfl, ?_⟩; have n0_ := Qb (Kd.R_elder' (by (with_reducible repeat (first | apply QU | apply QV | apply QZ)); exact (Qa (QK (QS HO142.out BK135.out (by decide))) (fun _ h_ => h_.1))) (Kd.R_base ho0) hb); have n1_ := Qb (Kd.R_elder' (by (with_reducible repeat (first | apply QU | apply QV | apply QZ)); exact (Qa (QK (QS HO145.out BK135.out (by decide))) (fun _ h_ => h_.1))) (Kd.R_base ho0) hb); have n2_ := Qb (Kd.S_elder' (by (with_reducible repeat (first | apply Kd.S_alloc | apply Kd.S_drewN | apply Kd.S_drew)); exact (Kd.S_mono (far_s (Kd.S_types HO150.out BK135.out (by decide))) (fun _ h_ => h_.1))) (Kd.R_base ho0) hb); have n3_ := Qb (Kd.R_lower (Kd.R_new' (Kd.R_new' ho0 (Kd.R_lt (by (with_reducible repeat (first | apply QU | apply QV | apply QZ)); exact (Qa (QK (QS HO142.out BK135.out (by decide))) (fun _ h_ => h_.1))))) (Kd.R_lt (by (with_reducible repeat (first | apply QU | apply QV | apply QZ)); exact (Qa (QK (QS HO145.out BK135.out (by decide))) (fun _ h_ => h_.1))))) (QN (by repeat (first | (with_reducible first | exact HB.out | apply QH | apply QD | apply QI | refine QG ?_ GE133.out | refine QG ?_ GE134.out | refine QG ?_ GE135.out) | exact HB.out)))); have n4_ := Qb (QT (g := gb133) (o := .cells #[.int .i64 a0_0, .int .i64 a0_1, .bool a0_2, .bool a0_3, .slice A0_4 l0_4.length c0_4, .slice A0_5 l0_5.length c0_5, .int .i64 a0_6, .int .i64 a0_7, .slice A0_8 l0_8.length c0_8, .slice A0_9 l0_9.length c0_9, .slice A0_10 l0_10.length c0_10, .int .i64 a0_11, .int .i64 a0_12, .int .i64 a0_13] 55 (0, 0)) (by (with_reducible repeat (first | refine QE ?_ _ | refine QJ ?_ | refine QF ?_ _)); refine QW ?_ NB133_135.out _; (with_reducible repeat (first | refine QE ?_ _ | refine QJ ?_ | refine QF ?_ _)); exact BK133.out) hb); have n5_ := Qb (QT (g := gb134) (o := .cells #[.int .i64 0, .int .i64 0, .bool false, .bool false, .slice none 0 0, .slice none 0 0, .int .i64 0, .int .i64 0, .slice none 0 0, .slice none 0 0, .slice none 0 0, .int .i64 0, .int .i64 0, .int .i64 0] 59 (0, 0)) (by (with_reducible repeat (first | refine QE ?_ _ | refine QJ ?_ | refine QF ?_ _)); refine QW ?_ NB134_135.out _; (with_reducible repeat (first | refine QE ?_ _ | refine QJ ?_ | refine QF ?_ _)); exact BK134.out) hb); have n6_ := Qb (QT (g := gb135) (o := .cells #[.int .i64 t136, .int .i64 t137, .bool t138, .bool t139, .slice Ao15 t140.length co15, .slice Ao16 t143.length co16, .int .i64 t146, .int .i64 t147, .slice Ao19 t148.length co19, .slice none 0 0, .slice none 0 0, .int .i64 0, .int .i64 0, .int .i64 0] 59 (0, 0)) (by (with_reducible repeat (first | refine QE ?_ _ | refine QJ ?_ | refine QF ?_ _)); refine QX (cs := #[.int .i64 t136, .int .i64 t137, .bool t138, .bool t139, .slice Ao15 t140.length co15, .slice Ao16 t143.length co16, .int .i64 t146, .int .i64 t147, .slice none 0 0, .slice none 0 0, .slice none 0 0, .int .i64 0, .int .i64 0, .int .i64 0]) ?_ 8 _ rfl; (with_reducible repeat (first | refine QE ?_ _ | refine QJ ?_ | refine QF ?_ _)); exact BK135.out) hb); have n7_ := Qb (QY (by repeat (first | (with_reducible first | exact HB.out | apply QH | apply QD | apply QI | refine QG ?_ GE133.out | refine QG ?_ GE134.out | refine QG ?_ GE135.out) | exact HB.out)) hb); clear HO142; clear HO145; clear HO150; clear BK133; clear BK134; clear BK135; clear HB; have HO142 := n0_; have HO145 := n1_; have HO150 := n2_; have HO153 := n3_; have BK133 := n4_; have BK134 := n5_; have BK135 := n6_; have HB := n7_; clear n0_ n1_ n2_ n3_ n4_ n5_ n6_ n7_; (try clear hb); (try clear hb2); (try clear hk); (try clear hi); (try clear ho0); obtain ⟨Ao23, co23, eo23⟩ := Kd.R_slice HO153.out; subst eo23; have hcz24_0 : w22.cell? ⟨gb135, 0, none⟩ = some (.int .i64 t136) := (QC BK135.out 0).trans rfl; have hcz24_1 : w22.cell? ⟨gb135, 1, none⟩ = some (.int .i64 t137) := (QC BK135.out 1).trans rfl; have hcz24_2 : w22.cell? ⟨gb135, 2, none⟩ = some (.bool t138) := (QC BK135.out 2).trans rfl; have hcz24_3 : w22.cell? ⟨gb135, 3, none⟩ = some (.bool t139) := (QC BK135.out 3).trans rfl; have hcz24_4 : w22.cell? ⟨gb135, 4, none⟩ = some (.slice Ao15 t140.length co15) := (QC BK135.out 4).trans rfl; have hcz24_5 : w22.cell? ⟨gb135, 5, none⟩ = some (.slice Ao16 t143.length co16) := (QC BK135.out 5).trans rfl; have hcz24_6 : w22.cell? ⟨gb135, 6, none⟩ = some (.int .i64 t146) := (QC BK135.out 6).trans rfl; have hcz24_7 : w22.cell? ⟨gb135, 7, none⟩ = some (.int .i64 t147) := (QC BK135.out 7).trans rfl; have hcz24_8 : w22.cell? ⟨gb135, 8, none⟩ = some (.slice Ao19 t148.length co19) := (QC BK135.out 8).trans rfl; have hcz24_9 : w22.cell? ⟨gb135, 9, none⟩ = some (.slice none 0 0) := (QC BK135.out 9).trans rfl; have hcz24_10 : w22.cell? ⟨gb135, 10, none⟩ = some (.slice none 0 0) := (QC BK135.out 10).trans rfl; have hcz24_11 : w22.cell? ⟨gb135, 11, none⟩ = some (.int .i64 0) := (QC BK135.out 11).trans rfl; have hcz24_12 : w22.cell? ⟨gb135, 12, none⟩ = some (.int .i64 0) := (QC BK135.out 12).trans rfl; have hcz24_13 : w22.cell? ⟨gb135, 13, none⟩ = some (.int .i64 0) := (QC BK135.out 13).trans rfl; have hfz24_0 := QB BK135.out 0; have hfz24_1 := QB BK135.out 1; have hfz24_2 := QB BK135.out 2; have hfz24_3 := QB BK135.out 3; have hfz24_4 := QB BK135.out 4; have hfz24_5 := QB BK135.out 5; have hfz24_6 := QB BK135.out 6; have hfz24_7 := QB BK135.out 7; have hfz24_8 := QB BK135.out 8; have hfz24_9 := QB BK135.out 9; have hfz24_10 := QB BK135.out 10; have hfz24_11 := QB BK135.out 11; have hfz24_12 := QB BK135.out 12; have hfz24_13 := QB BK135.out 13; have hcz25_0 : w22.cell? ⟨gb133, 0, none⟩ = some (.int .i64 a0_0) := (QC BK133.out 0).trans rfl; have hcz25_1 : w22.cell? ⟨gb133, 1, none⟩ = some (.int .i64 a0_1) := (QC BK133.out 1).trans rfl; have hcz25_2 : w22.cell? ⟨gb133, 2, none⟩ = some (.bool a0_2) := (QC BK133.out 2).trans rfl; have hcz25_3 : w22.cell? ⟨gb133, 3, none⟩ = some (.bool a0_3) := (QC BK133.out 3).trans rfl; have hcz25_4 : w22.cell? ⟨gb133, 4, none⟩ = some (.slice A0_4 l0_4.length c0_4) := (QC BK133.out 4).trans rfl; have hcz25_5 : w22.cell? ⟨gb133, 5, none⟩ = some (.slice A0_5 l0_5.length c0_5) := (QC BK133.out 5).trans rfl; have hcz25_6 : w22.cell? ⟨gb133, 6, none⟩ = some (.int .i64 a0_6) := (QC BK133.out 6).trans rfl; have hcz25_7 : w22.cell? ⟨gb133, 7, none⟩ = some (.int .i64 a0_7) := (QC BK133.out 7).trans rfl; have hcz25_8 : w22.cell? ⟨gb133, 8, none⟩ = some (.slice A0_8 l0_8.length c0_8) := (QC BK133.out 8).trans rfl; have hcz25_9 : w22.cell? ⟨gb133, 9, none⟩ = some (.slice A0_9 l0_9.length c0_9) := (QC BK133.out 9).trans rfl; have hcz25_10 : w22.cell? ⟨gb133, 10, none⟩ = some (.slice A0_10 l0_10.length c0_10) := (QC BK133.out 10).trans rfl; have hcz25_11 : w22.cell? ⟨gb133, 11, none⟩ = some (.int .i64 a0_11) := (QC BK133.out 11).trans rfl; have hcz25_12 : w22.cell? ⟨gb133, 12, none⟩ = some (.int .i64 a0_12) := (QC BK133.out 12).trans rfl; have hcz25_13 : w22.cell? ⟨gb133, 13, none⟩ = some (.int .i64 a0_13) := (QC BK133.out 13).trans rfl; have hfz25_0 := QB BK133.out 0; have hfz25_1 := QB BK133.out 1; have hfz25_2 := QB BK133.out 2; have hfz25_3 := QB BK133.out 3; have hfz25_4 := QB BK133.out 4; have hfz25_5 := QB BK133.out 5; have hfz25_6 := QB BK133.out 6; have hfz25_7 := QB BK133.out 7; have hfz25_8 := QB BK133.out 8; have hfz25_9 := QB BK133.out 9; have hfz25_10 := QB BK133.out 10; have hfz25_11 := QB BK133.out 11; have hfz25_12 := QB BK133.out 12; have hfz25_13 := QB BK133.out 13) | ((with_reducible refine QR (f := 96) rfl ?_); refine goesL_ (some 18) rfl rfl Try.func96 (by kernel_rfl) rfl #[.slice A0_10 l0_10.length c0_10] rfl (by (try simp only [List.map_toArray, List.map_cons, List.map_nil]); first | done | rfl | (simp only [List.length_drop, List.length_take]; rfl)) ?_; (with_reducible refine (laws_toIntS.calls k _ _ l0_10 t154 _ ?side1 ?side2 A5.out).mono ?_); (case side1 => exact QP HR0_10.out (by repeat (first | (with_reducible first | exact HB.out | apply QH | apply QD | apply QI | refine QG ?_ GE133.out | refine QG ?_ GE134.out | refine QG ?_ GE135.out) | exact HB.out))); (case side2 => exact HC0_10.out); rintro e w26 ⟨v155, rfl, ho0, hb⟩; refine ⟨_, rfl, ?_⟩; have n0_ := Qb (Kd.R_elder' (by (with_reducible repeat (first | apply QU | apply QV | apply QZ)); exact (Qa (QK (QS HO142.out BK135.out (by decide))) (fun _ h_ => h_.1))) (Kd.R_base ho0) hb); have n1_ := Qb (Kd.R_elder' (by (with_reducible repeat (first | apply QU | apply QV | apply QZ)); exact (Qa (QK (QS HO145.out BK135.out (by decide))) (fun _ h_ => h_.1))) (Kd.R_base ho0) hb); have n2_ := Qb (Kd.S_elder' (by (with_reducible repeat (first | apply Kd.S_alloc | apply Kd.S_drewN | apply Kd.S_drew)); exact (Kd.S_mono (far_s (Kd.S_types HO150.out BK135.out (by decide))) (fun _ h_ => h_.1))) (Kd.R_base ho0) hb); have n3_ := Qb (Kd.R_elder' (by (with_reducible repeat (first | apply QU | apply QV | apply QZ)); exact (Qa (QK (QS HO153.out BK135.out (by decide))) (fun _ h_ => h_.1))) (Kd.R_base ho0) hb); have n4_ := Qb (Kd.R_lower (Kd.R_new' (Kd.R_new' (Kd.R_new' ho0 (Kd.R_lt (by (with_reducible repeat (first | apply QU | apply QV | apply QZ)); exact (Qa (QK (QS HO142.out BK135.out (by decide))) (fun _ h_ => h_.1))))) (Kd.R_lt (by (with_reducible repeat (first | apply QU | apply QV | apply QZ)); exact (Qa (QK (QS HO145.out BK135.out (by decide))) (fun _ h_ => h_.1))))) (Kd.R_lt (by (with_reducible repeat (first | apply QU | apply QV | apply QZ)); exact (Qa (QK (QS HO153.out BK135.out (by decide))) (fun _ h_ => h_.1))))) (QN (by repeat (first | (with_reducible first | exact HB.out | apply QH | apply QD | apply QI | refine QG ?_ GE133.out | refine QG ?_ GE134.out | refine QG ?_ GE135.out) | exact HB.out)))); have n5_ := Qb (QT (g := gb133) (o := .cells #[.int .i64 a0_0, .int .i64 a0_1, .bool a0_2, .bool a0_3, .slice A0_4 l0_4.length c0_4, .slice A0_5 l0_5.length c0_5, .int .i64 a0_6, .int .i64 a0_7, .slice A0_8 l0_8.length c0_8, .slice A0_9 l0_9.length c0_9, .slice A0_10 l0_10.length c0_10, .int .i64 a0_11, .int .i64 a0_12, .int .i64 a0_13] 55 (0, 0)) (by (with_reducible repeat (first | refine QE ?_ _ | refine QJ ?_ | refine QF ?_ _)); refine QW ?_ NB133_135.out _; (with_reducible repeat (first | refine QE ?_ _ | refine QJ ?_ | refine QF ?_ _)); exact BK133.out) hb); have n6_ := Qb (QT (g := gb134) (o := .cells #[.int .i64 0, .int .i64 0, .bool false, .bool false, .slice none 0 0, .slice none 0 0, .int .i64 0, .int .i64 0, .slice none 0 0, .slice none 0 0, .slice none 0 0, .int .i64 0, .int .i64 0, .int .i64 0] 59 (0, 0)) (by (with_reducible repeat (first | refine QE ?_ _ | refine QJ ?_ | refine QF ?_ _)); refine QW ?_ NB134_135.out _; (with_reducible repeat (first | refine QE ?_ _ | refine QJ ?_ | refine QF ?_ _)); exact BK134.out) hb); have n7_ := Qb (QT (g := gb135) (o := .cells #[.int .i64 t136, .int .i64 t137, .bool t138, .bool t139, .slice Ao15 t140.length co15, .slice Ao16 t143.length co16, .int .i64 t146, .int .i64 t147, .slice Ao19 t148.length co19, .slice Ao23 t151.length co23, .slice none 0 0, .int .i64 0, .int .i64 0, .int .i64 0] 59 (0, 0)) (by (with_reducible repeat (first | refine QE ?_ _ | refine QJ ?_ | refine QF ?_ _)); refine QX (cs := #[.int .i64 t136, .int .i64 t137, .bool t138, .bool t139, .slice Ao15 t140.length co15, .slice Ao16 t143.length co16, .int .i64 t146, .int .i64 t147, .slice Ao19 t148.length co19, .slice none 0 0, .slice none 0 0, .int .i64 0, .int .i64 0, .int .i64 0]) ?_ 9 _ rfl; (with_reducible repeat (first | refine QE ?_ _ | refine QJ ?_ | refine QF ?_ _)); exact BK135.out) hb); have n8_ := Qb (QY (by repeat (first | (with_reducible first | exact HB.out | apply QH | apply QD | apply QI | refine QG ?_ GE133.out | refine QG ?_ GE134.out | refine QG ?_ GE135.out) | exact HB.out)) hb); clear HO142; clear HO145; clear HO150; clear HO153; clear BK133; clear BK134; clear BK135; clear HB; have HO142 := n0_; have HO145 := n1_; have HO150 := n2_; have HO153 := n3_; have HO156 := n4_; have BK133 := n5_; have BK134 := n6_; have BK135 := n7_; have HB := n8_; clear n0_ n1_ n2_ n3_ n4_ n5_ n6_ n7_ n8_; (try clear hb); (try clear hb2); (try clear hk); (try clear hi); (try clear ho0); obtain ⟨Ao27, co27, eo27⟩ := Kd.R_slice HO156.out; subst eo27; have hcz28_0 : w26.cell? ⟨gb135, 0, none⟩ = some (.int .i64 t136) := (QC BK135.out 0).trans rfl; have hcz28_1 : w26.cell? ⟨gb135, 1, none⟩ = some (.int .i64 t137) := (QC BK135.out 1).trans rfl; have hcz28_2 : w26.cell? ⟨gb135, 2, none⟩ = some (.bool t138) := (QC BK135.out 2).trans rfl; have hcz28_3 : w26.cell? ⟨gb135, 3, none⟩ = some (.bool t139) := (QC BK135.out 3).trans rfl; have hcz28_4 : w26.cell? ⟨gb135, 4, none⟩ = some (.slice Ao15 t140.length co15) := (QC BK135.out 4).trans rfl; have hcz28_5 : w26.cell? ⟨gb135, 5, none⟩ = some (.slice Ao16 t143.length co16) := (QC BK135.out 5).trans rfl; have hcz28_6 : w26.cell? ⟨gb135, 6, none⟩ = some (.int .i64 t146) := (QC BK135.out 6).trans rfl; have hcz28_7 : w26.cell? ⟨gb135, 7, none⟩ = some (.int .i64 t147) := (QC BK135.out 7).trans rfl; have hcz28_8 : w26.cell? ⟨gb135, 8, none⟩ = some (.slice Ao19 t148.length co19) := (QC BK135.out 8).trans rfl; have hcz28_9 : w26.cell? ⟨gb135, 9, none⟩ = some (.slice Ao23 t151.length co23) := (QC BK135.out 9).trans rfl; have hcz28_10 : w26.cell? ⟨gb135, 10, none⟩ = some (.slice none 0 0) := (QC BK135.out 10).trans rfl; have hcz28_11 : w26.cell? ⟨gb135, 11, none⟩ = some (.int .i64 0) := (QC BK135.out 11).trans rfl; have hcz28_12 : w26.cell? ⟨gb135, 12, none⟩ = some (.int .i64 0) := (QC BK135.out 12).trans rfl; have hcz28_13 : w26.cell? ⟨gb135, 13, none⟩ = some (.int .i64 0) := (QC BK135.out 13).trans rfl; have hfz28_0 := QB BK135.out 0; have hfz28_1 := QB BK135.out 1; have hfz28_2 := QB BK135.out 2; have hfz28_3 := QB BK135.out 3; have hfz28_4 := QB BK135.out 4; have hfz28_5 := QB BK135.out 5; have hfz28_6 := QB BK135.out 6; have hfz28_7 := QB BK135.out 7; have hfz28_8 := QB BK135.out 8; have hfz28_9 := QB BK135.out 9; have hfz28_10 := QB BK135.out 10; have hfz28_11 := QB BK135.out 11; have hfz28_12 := QB BK135.out 12; have hfz28_13 := QB BK135.out 13; have hcz29_0 : w26.cell? ⟨gb133, 0, none⟩ = some (.int .i64 a0_0) := (QC BK133.out 0).trans rfl; have hcz29_1 : w26.cell? ⟨gb133, 1, none⟩ = some (.int .i64 a0_1) := (QC BK133.out 1).trans rfl; have hcz29_2 : w26.cell? ⟨gb133, 2, none⟩ = some (.bool a0_2) := (QC BK133.out 2).trans rfl; have hcz29_3 : w26.cell? ⟨gb133, 3, none⟩ = some (.bool a0_3) := (QC BK133.out 3).trans rfl; have hcz29_4 : w26.cell? ⟨gb133, 4, none⟩ = some (.slice A0_4 l0_4.length c0_4) := (QC BK133.out 4).trans rfl; have hcz29_5 : w26.cell? ⟨gb133, 5, none⟩ = some (.slice A0_5 l0_5.length c0_5) := (QC BK133.out 5).trans rfl; have hcz29_6 : w26.cell? ⟨gb133, 6, none⟩ = some (.int .i64 a0_6) := (QC BK133.out 6).trans rfl; have hcz29_7 : w26.cell? ⟨gb133, 7, none⟩ = some (.int .i64 a0_7) := (QC BK133.out 7).trans rfl; have hcz29_8 : w26.cell? ⟨gb133, 8, none⟩ = some (.slice A0_8 l0_8.length c0_8) := (QC BK133.out 8).trans rfl; have hcz29_9 : w26.cell? ⟨gb133, 9, none⟩ = some (.slice A0_9 l0_9.length c0_9) := (QC BK133.out 9).trans rfl; have hcz29_10 : w26.cell? ⟨gb133, 10, none⟩ = some (.slice A0_10 l0_10.length c0_10) := (QC BK133.out 10).trans rfl; have hcz29_11 : w26.cell? ⟨gb133, 11, none⟩ = some (.int .i64 a0_11) := (QC BK133.out 11).trans rfl; have hcz29_12 : w26.cell? ⟨gb133, 12, none⟩ = some (.int .i64 a0_12) := (QC BK133.out 12).trans rfl; have hcz29_13 : w26.cell? ⟨gb133, 13, none⟩ = some (.int .i64 a0_13) := (QC BK133.out 13).trans rfl; have hfz29_0 := QB BK133.out 0; have hfz29_1 := QB BK133.out 1; have hfz29_2 := QB BK133.out 2; have hfz29_3 := QB BK133.out 3; have hfz29_4 := QB BK133.out 4; have hfz29_5 := QB BK133.out 5; have hfz29_6 := QB BK133.out 6; have hfz29_7 := QB BK133.out 7; have hfz29_8 := QB BK133.out 8; have hfz29_9 := QB BK133.out 9; have hfz29_10 := QB BK133.out 10; have hfz29_11 := QB BK133.out 11; have hfz29_12 := QB BK133.out 12; have hfz29_13 := QB BK133.out 13; have hcz30_0 : w26.cell? ⟨gb134, 0, none⟩ = some (.int .i64 0) := (QC BK134.out 0).trans rfl; have hcz30_1 : w26.cell? ⟨gb134, 1, none⟩ = some (.int .i64 0) := (QC BK134.out 1).trans rfl; have hcz30_2 : w26.cell? ⟨gb134, 2, none⟩ = some (.bool false) := (QC BK134.out 2).trans rfl; have hcz30_3 : w26.cell? ⟨gb134, 3, none⟩ = some (.bool false) := (QC BK134.out 3).trans rfl; have hcz30_4 : w26.cell? ⟨gb134, 4, none⟩ = some (.slice none 0 0) := (QC BK134.out 4).trans rfl; have hcz30_5 : w26.cell? ⟨gb134, 5, none⟩ = some (.slice none 0 0) := (QC BK134.out 5).trans rfl; have hcz30_6 : w26.cell? ⟨gb134, 6, none⟩ = some (.int .i64 0) := (QC BK134.out 6).trans rfl; have hcz30_7 : w26.cell? ⟨gb134, 7, none⟩ = some (.int .i64 0) := (QC BK134.out 7).trans rfl; have hcz30_8 : w26.cell? ⟨gb134, 8, none⟩ = some (.slice none 0 0) := (QC BK134.out 8).trans rfl; have hcz30_9 : w26.cell? ⟨gb134, 9, none⟩ = some (.slice none 0 0) := (QC BK134.out 9).trans rfl; have hcz30_10 : w26.cell? ⟨gb134, 10, none⟩ = some (.slice none 0 0) := (QC BK134.out 10).trans rfl; have hcz30_11 : w26.cell? ⟨gb134, 11, none⟩ = some (.int .i64 0) := (QC BK134.out 11).trans rfl; have hcz30_12 : w26.cell? ⟨gb134, 12, none⟩ = some (.int .i64 0) := (QC BK134.out 12).trans rfl; have hcz30_13 : w26.cell? ⟨gb134, 13, none⟩ = some (.int .i64 0) := (QC BK134.out 13).trans rfl; have hfz30_0 := QB BK134.out 0; have hfz30_1 := QB BK134.out 1; have hfz30_2 := QB BK134.out 2; have hfz30_3 := QB BK134.out 3; have hfz30_4 := QB BK134.out 4; have hfz30_5 := QB BK134.out 5; have hfz30_6 := QB BK134.out 6; have hfz30_7 := QB BK134.out 7; have hfz30_8 := QB BK134.out 8; have hfz30_9 := QB BK134.out 9; have hfz30_10 := QB BK134.out 10; have hfz30_11 := QB BK134.out 11; have hfz30_12 := QB BK134.out 12; have hfz30_13 := QB BK134.out 13))
 refine bodyPost_ret (results_cell_row rfl _ _ gb134 59 #[.int .i64 t136, .int .i64 t137, .bool t138, .bool t139, .slice Ao15 t140.length co15, .slice Ao16 t143.length co16, .int .i64 t146, .int .i64 t147, .slice Ao19 t148.length co19, .slice Ao23 t151.length co23, .slice Ao27 t154.length co27, .int .i64 a0_11, .int .i64 a0_12, .int .i64 a0_13] (0, 0) _ rfl (by (with_reducible repeat (first | refine QE ?_ _ | refine QJ ?_ | refine QF ?_ _)); refine QX (cs := #[.int .i64 t136, .int .i64 t137, .bool t138, .bool t139, .slice Ao15 t140.length co15, .slice Ao16 t143.length co16, .int .i64 t146, .int .i64 t147, .slice Ao19 t148.length co19, .slice Ao23 t151.length co23, .slice Ao27 t154.length co27, .int .i64 a0_11, .int .i64 a0_12, .int .i64 0]) ?_ 13 _ rfl; (with_reducible repeat (first | refine QE ?_ _ | refine QJ ?_ | refine QF ?_ _)); refine QX (cs := #[.int .i64 t136, .int .i64 t137, .bool t138, .bool t139, .slice Ao15 t140.length co15, .slice Ao16 t143.length co16, .int .i64 t146, .int .i64 t147, .slice Ao19 t148.length co19, .slice Ao23 t151.length co23, .slice Ao27 t154.length co27, .int .i64 a0_11, .int .i64 0, .int .i64 0]) ?_ 12 _ rfl; (with_reducible repeat (first | refine QE ?_ _ | refine QJ ?_ | refine QF ?_ _)); refine QX (cs := #[.int .i64 t136, .int .i64 t137, .bool t138, .bool t139, .slice Ao15 t140.length co15, .slice Ao16 t143.length co16, .int .i64 t146, .int .i64 t147, .slice Ao19 t148.length co19, .slice Ao23 t151.length co23, .slice Ao27 t154.length co27, .int .i64 0, .int .i64 0, .int .i64 0]) ?_ 11 _ rfl; (with_reducible repeat (first | refine QE ?_ _ | refine QJ ?_ | refine QF ?_ _)); refine QX (cs := #[.int .i64 t136, .int .i64 t137, .bool t138, .bool t139, .slice Ao15 t140.length co15, .slice Ao16 t143.length co16, .int .i64 t146, .int .i64 t147, .slice Ao19 t148.length co19, .slice Ao23 t151.length co23, .slice none 0 0, .int .i64 0, .int .i64 0, .int .i64 0]) ?_ 10 _ rfl; (with_reducible repeat (first | refine QE ?_ _ | refine QJ ?_ | refine QF ?_ _)); refine QX (cs := #[.int .i64 t136, .int .i64 t137, .bool t138, .bool t139, .slice Ao15 t140.length co15, .slice Ao16 t143.length co16, .int .i64 t146, .int .i64 t147, .slice Ao19 t148.length co19, .slice none 0 0, .slice none 0 0, .int .i64 0, .int .i64 0, .int .i64 0]) ?_ 9 _ rfl; (with_reducible repeat (first | refine QE ?_ _ | refine QJ ?_ | refine QF ?_ _)); refine QX (cs := #[.int .i64 t136, .int .i64 t137, .bool t138, .bool t139, .slice Ao15 t140.length co15, .slice Ao16 t143.length co16, .int .i64 t146, .int .i64 t147, .slice none 0 0, .slice none 0 0, .slice none 0 0, .int .i64 0, .int .i64 0, .int .i64 0]) ?_ 8 _ rfl; (with_reducible repeat (first | refine QE ?_ _ | refine QJ ?_ | refine QF ?_ _)); refine QX (cs := #[.int .i64 t136, .int .i64 t137, .bool t138, .bool t139, .slice Ao15 t140.length co15, .slice Ao16 t143.length co16, .int .i64 t146, .int .i64 0, .slice none 0 0, .slice none 0 0, .slice none 0 0, .int .i64 0, .int .i64 0, .int .i64 0]) ?_ 7 _ rfl; (with_reducible repeat (first | refine QE ?_ _ | refine QJ ?_ | refine QF ?_ _)); refine QX (cs := #[.int .i64 t136, .int .i64 t137, .bool t138, .bool t139, .slice Ao15 t140.length co15, .slice Ao16 t143.length co16, .int .i64 0, .int .i64 0, .slice none 0 0, .slice none 0 0, .slice none 0 0, .int .i64 0, .int .i64 0, .int .i64 0]) ?_ 6 _ rfl; (with_reducible repeat (first | refine QE ?_ _ | refine QJ ?_ | refine QF ?_ _)); refine QX (cs := #[.int .i64 t136, .int .i64 t137, .bool t138, .bool t139, .slice Ao15 t140.length co15, .slice none 0 0, .int .i64 0, .int .i64 0, .slice none 0 0, .slice none 0 0, .slice none 0 0, .int .i64 0, .int .i64 0, .int .i64 0]) ?_ 5 _ rfl; (with_reducible repeat (first | refine QE ?_ _ | refine QJ ?_ | refine QF ?_ _)); refine QX (cs := #[.int .i64 t136, .int .i64 t137, .bool t138, .bool t139, .slice none 0 0, .slice none 0 0, .int .i64 0, .int .i64 0, .slice none 0 0, .slice none 0 0, .slice none 0 0, .int .i64 0, .int .i64 0, .int .i64 0]) ?_ 4 _ rfl; (with_reducible repeat (first | refine QE ?_ _ | refine QJ ?_ | refine QF ?_ _)); refine QX (cs := #[.int .i64 t136, .int .i64 t137, .bool t138, .bool false, .slice none 0 0, .slice none 0 0, .int .i64 0, .int .i64 0, .slice none 0 0, .slice none 0 0, .slice none 0 0, .int .i64 0, .int .i64 0, .int .i64 0]) ?_ 3 _ rfl; (with_reducible repeat (first | refine QE ?_ _ | refine QJ ?_ | refine QF ?_ _)); refine QX (cs := #[.int .i64 t136, .int .i64 t137, .bool false, .bool false, .slice none 0 0, .slice none 0 0, .int .i64 0, .int .i64 0, .slice none 0 0, .slice none 0 0, .slice none 0 0, .int .i64 0, .int .i64 0, .int .i64 0]) ?_ 2 _ rfl; (with_reducible repeat (first | refine QE ?_ _ | refine QJ ?_ | refine QF ?_ _)); refine QX (cs := #[.int .i64 t136, .int .i64 0, .bool false, .bool false, .slice none 0 0, .slice none 0 0, .int .i64 0, .int .i64 0, .slice none 0 0, .slice none 0 0, .slice none 0 0, .int .i64 0, .int .i64 0, .int .i64 0]) ?_ 1 _ rfl; (with_reducible repeat (first | refine QE ?_ _ | refine QJ ?_ | refine QF ?_ _)); refine QX (cs := #[.int .i64 0, .int .i64 0, .bool false, .bool false, .slice none 0 0, .slice none 0 0, .int .i64 0, .int .i64 0, .slice none 0 0, .slice none 0 0, .slice none 0 0, .int .i64 0, .int .i64 0, .int .i64 0]) ?_ 0 _ rfl; (with_reducible repeat (first | refine QE ?_ _ | refine QJ ?_ | refine QF ?_ _)); refine QW ?_ NB134_135.out _; (with_reducible repeat (first | refine QE ?_ _ | refine QJ ?_ | refine QF ?_ _)); refine QW ?_ NB134_135.out _; (with_reducible repeat (first | refine QE ?_ _ | refine QJ ?_ | refine QF ?_ _)); refine QW ?_ NB134_135.out _; (with_reducible repeat (first | refine QE ?_ _ | refine QJ ?_ | refine QF ?_ _)); refine QW ?_ NB134_135.out _; (with_reducible repeat (first | refine QE ?_ _ | refine QJ ?_ | refine QF ?_ _)); exact BK134.out) Try.underlying59 rfl (by kernel_rfl)) rfl ?_
 exact ⟨_, _, _, _, _, by first | rfl | (simp [errW_none, errW_some] <;> rfl) | (simp [*, errW_none, errW_some] <;> rfl), by (with_reducible repeat (first | apply QU | apply QV | apply QZ)); exact Qa (QK (QK (QK (QK (QK (QK (QK (QK (QK (QK (QK (QK (QK (QK (Kd.R_far (p := ⟨gb135, 13, none⟩) (Kd.R_far (p := ⟨gb135, 12, none⟩) (Kd.R_far (p := ⟨gb135, 11, none⟩) (Kd.R_far (p := ⟨gb135, 10, none⟩) (QS (QS HO142.out BK135.out (by decide)) BK134.out (by decide)) (fun _ hk => hk.1.2) (.slice Ao27 t154.length co27)) (fun _ hk => hk.1.2) (.int .i64 a0_11)) (fun _ hk => hk.1.2) (.int .i64 a0_12)) (fun _ hk => hk.1.2) (.int .i64 a0_13)))))))))))))))) (fun _ hk => ⟨hk.1.1.1.1, ⟨hk.1.1.1.2, hk.1.1.2⟩⟩), by (with_reducible repeat (first | apply QU | apply QV | apply QZ)); exact Qa (QK (QK (QK (QK (QK (QK (QK (QK (QK (QK (QK (QK (QK (QK (Kd.R_far (p := ⟨gb135, 13, none⟩) (Kd.R_far (p := ⟨gb135, 12, none⟩) (Kd.R_far (p := ⟨gb135, 11, none⟩) (Kd.R_far (p := ⟨gb135, 10, none⟩) (QS (QS HO145.out BK135.out (by decide)) BK134.out (by decide)) (fun _ hk => hk.1.2) (.slice Ao27 t154.length co27)) (fun _ hk => hk.1.2) (.int .i64 a0_11)) (fun _ hk => hk.1.2) (.int .i64 a0_12)) (fun _ hk => hk.1.2) (.int .i64 a0_13)))))))))))))))) (fun _ hk => ⟨hk.1.1.1.1, ⟨hk.1.1.1.2, hk.1.1.2⟩⟩), by (with_reducible repeat (first | apply Kd.S_alloc | apply Kd.S_drewN | apply Kd.S_drew)); exact Kd.S_mono (far_s (far_s (far_s (far_s (far_s (far_s (far_s (far_s (far_s (far_s (far_s (far_s (far_s (far_s (Kd.S_far (p := ⟨gb135, 13, none⟩) (Kd.S_far (p := ⟨gb135, 12, none⟩) (Kd.S_far (p := ⟨gb135, 11, none⟩) (Kd.S_far (p := ⟨gb135, 10, none⟩) (Kd.S_types (Kd.S_types HO150.out BK135.out (by decide)) BK134.out (by decide)) (fun _ hk => hk.1.2) (.slice Ao27 t154.length co27)) (fun _ hk => hk.1.2) (.int .i64 a0_11)) (fun _ hk => hk.1.2) (.int .i64 a0_12)) (fun _ hk => hk.1.2) (.int .i64 a0_13)))))))))))))))) (fun _ hk => ⟨hk.1.1.1.1.1.2, ⟨hk.1.1.1.1.2, ⟨hk.1.1.1.2, hk.1.1.2⟩⟩⟩), by (with_reducible repeat (first | apply QU | apply QV | apply QZ)); exact Qa (QK (QK (QK (QK (QK (QK (QK (QK (QK (QK (QK (QK (QK (QK (Kd.R_far (p := ⟨gb135, 13, none⟩) (Kd.R_far (p := ⟨gb135, 12, none⟩) (Kd.R_far (p := ⟨gb135, 11, none⟩) (Kd.R_far (p := ⟨gb135, 10, none⟩) (QS (QS HO153.out BK135.out (by decide)) BK134.out (by decide)) (fun _ hk => hk.1.2) (.slice Ao27 t154.length co27)) (fun _ hk => hk.1.2) (.int .i64 a0_11)) (fun _ hk => hk.1.2) (.int .i64 a0_12)) (fun _ hk => hk.1.2) (.int .i64 a0_13)))))))))))))))) (fun _ hk => ⟨hk.1.1.1.1.2, ⟨hk.1.1.1.2, hk.1.1.2⟩⟩), by (with_reducible repeat (first | apply QU | apply QV | apply QZ)); exact Qa (QK (QK (QK (QK (QK (QK (QK (QK (QK (QK (QK (QK (QK (QK (Kd.R_far (p := ⟨gb135, 13, none⟩) (Kd.R_far (p := ⟨gb135, 12, none⟩) (Kd.R_far (p := ⟨gb135, 11, none⟩) (Kd.R_far (p := ⟨gb135, 10, none⟩) (QS (QS HO156.out BK135.out (by decide)) BK134.out (by decide)) (fun _ hk => hk.1.2) (.slice Ao27 t154.length co27)) (fun _ hk => hk.1.2) (.int .i64 a0_11)) (fun _ hk => hk.1.2) (.int .i64 a0_12)) (fun _ hk => hk.1.2) (.int .i64 a0_13)))))))))))))))) (fun _ hk => ⟨hk.1.1.1.1.2, ⟨hk.1.1.1.2, hk.1.1.2⟩⟩), by repeat (first | (with_reducible first | exact HB.out | apply QH | apply QD | apply QI | refine QG ?_ GE133.out | refine QG ?_ GE134.out | refine QG ?_ GE135.out) | exact HB.out)⟩

/-! ### laws_eqIntS: function 74 -/
def laws_eqIntS.l0 : Nat → List Int → List Int → Int → Option (Bool)
 | 0, _, _, _ => none
 | k + 1, x0, x1, x5 => if x5 < (x0.length : Int) then (if 0 ≤ x5 then (if x5 < (x1.length : Int) then (if (rd x0 x5) = (rd x1 x5) then (laws_eqIntS.l0 k x0 x1 (wrap64 (x5 + 1))) else (some false)) else (none)) else (none)) else (some true)
def laws_eqIntS.f (k : Nat) (l0 : List Int) (l1 : List Int) : Option (Bool) := if (l0.length : Int) = (l1.length : Int) then (laws_eqIntS.l0 k l0 l1 0) else (some false)
theorem laws_eqIntS.mono_l : ∀ k, (∀ y0 y1 y2, LeO (laws_eqIntS.l0 k y0 y1 y2) (laws_eqIntS.l0 (k + 1) y0 y1 y2))
 | 0 => fun _ _ _ r h => by simp [laws_eqIntS.l0] at h
 | k + 1 => by
  have ih0 := laws_eqIntS.mono_l k
  ·intro y0 y1 y2
   unfold laws_eqIntS.l0
   repeat' first
   | (with_reducible exact ih0 _ _ _)
   | (with_reducible exact LeO.refl _)
   | (with_reducible exact LeO.none _)
   | (with_reducible refine LeO.ite ?_ ?_)
   | (with_reducible refine LeO.bind ?_ (fun _ => ?_))
   | exact ih0 _ _ _
   | exact LeO.none _
   | refine LeO.ite ?_ ?_
   | refine LeO.bind ?_ (fun _ => ?_)
theorem laws_eqIntS.mono : ∀ a0 a1 k, LeO (laws_eqIntS.f k a0 a1) (laws_eqIntS.f (k + 1) a0 a1) := by
 intro a0 a1 k
 have ih0 := laws_eqIntS.mono_l k
 unfold laws_eqIntS.f
 repeat' first
   | (with_reducible exact ih0 _ _ _)
   | (with_reducible exact LeO.refl _)
   | (with_reducible exact LeO.none _)
   | (with_reducible refine LeO.ite ?_ ?_)
   | (with_reducible refine LeO.bind ?_ (fun _ => ?_))
   | exact ih0 _ _ _
   | exact LeO.none _
   | refine LeO.ite ?_ ?_
   | refine LeO.bind ?_ (fun _ => ?_)
set_option maxHeartbeats 8000000 in
set_option maxRecDepth 100000 in
theorem laws_eqIntS.calls (k : Nat) (A0 : Option Addr) (c0 : Nat) (l0 : List Int) (A1 : Option Addr) (c1 : Nat) (l1 : List Int) (r : Bool) (w : World) (hr0 : Kd.C (Kd.int .i64) w A0 l0.length l0) (hc0 : l0.length ≤ c0) (hr1 : Kd.C (Kd.int .i64) w A1 l1.length l1) (hc1 : l1.length ≤ c1) (h : laws_eqIntS.f k l0 l1 = some r) :
  Calls Try.prog 74 #[.slice A0 l0.length c0, .slice A1 l1.length c1] w fun e w' => e = .returned (.bool r) ∧ Drawn0 w w' := by
 have HR0 := Qb hr0
 have HC0 := Qb hc0
 clear hr0 hc0
 have HR1 := Qb hr1
 have HC1 := Qb hc1
 clear hr1 hc1
 have H : (if (l0.length : Int) = (l1.length : Int) then (laws_eqIntS.l0 k l0 l1 0) else (some false)) = some r := h
 clear h
 by_cases c3 : (l0.length : Int) = (l1.length : Int)
 ·rw [if_pos c3] at H
  have c3b0 : ((l0.length : Int) == (l1.length : Int)) = true := beq_iff_eq.mpr c3
  have c3b1 : ((l0.length : Int) != (l1.length : Int)) = false := bne_eq_false_iff_eq.mpr c3
  have c3b2 : (l0.length == l1.length) = true := by first | simpa using c3 | (simp at c3 ⊢; omega)
  clear c3
  have H' := Qb H
  clear H
  go_enter Try.func74, Try.ntmps74
  go_wp2
  repeat (go_quiet (fail); try go_wp2)
  go_loopg [5] k (fun kq v5 w' => ∃ (x5_1 : Int), v5 = .int .i64 x5_1 ∧ Aside0 (laws_eqIntS.l0 kq l0 l1 x5_1 = some r) ∧ Aside0 (kq ≤ k) ∧ Drawn0 w w')
  case atStart => exact ⟨(0), (by first | rfl | (simp; done) | (simp [*]; done)), H', ⟨Nat.le_refl _⟩, by repeat (first | exact Drawn0.refl _ | apply Drawn0.step)⟩
  case round =>
   clear H'
   try clear c1
   try clear p2
   try clear c3
   try clear c3b0
   try clear c3b1
   try clear c3b2
   obtain ⟨x5_1, rfl, HA, HK1, ⟨m1, rfl⟩⟩ := hrel
   cases gk with
   | zero => exact absurd HA.out (by simp [laws_eqIntS.l0])
   | succ k1 =>
    have H := HA.out
    clear HA
    simp only [laws_eqIntS.l0] at H
    by_cases c4 : x5_1 < (l0.length : Int)
    ·rw [if_pos c4] at H
     have c4b0 : decide (x5_1 < (l0.length : Int)) = true := decide_eq_true c4
     clear c4
     by_cases c5 : 0 ≤ x5_1
     ·rw [if_pos c5] at H
      have c5b0 : decide (0 ≤ x5_1) = true := decide_eq_true c5
      clear c5
      by_cases c6 : x5_1 < (l1.length : Int)
      ·rw [if_pos c6] at H
       have c6b0 : decide (x5_1 < (l1.length : Int)) = true := decide_eq_true c6
       clear c6
       by_cases c7 : (rd l0 x5_1) = (rd l1 x5_1)
       ·rw [if_pos c7] at H
        have c7b0 : ((rd l0 x5_1) == (rd l1 x5_1)) = true := beq_iff_eq.mpr c7
        have c7b1 : ((rd l0 x5_1) != (rd l1 x5_1)) = false := bne_eq_false_iff_eq.mpr c7
        clear c7
        have H' := Qb H
        clear H
        have p157 : 0 ≤ (x5_1 : Int) := of_decide_eq_true (by first | (with_reducible assumption) | assumption)
        have q157 : x5_1 < (l0.length : Int) := of_decide_eq_true (by first | (with_reducible assumption) | assumption)
        obtain ⟨ad157, e157, hx157_0⟩ := Kd.at_int HR0.out x5_1 p157 q157
        cases e157
        replace p157 := eq_true p157
        replace q157 := eq_true q157
        have p158 : 0 ≤ (x5_1 : Int) := of_decide_eq_true (by first | (with_reducible assumption) | assumption)
        have q158 : x5_1 < (l1.length : Int) := of_decide_eq_true (by first | (with_reducible assumption) | assumption)
        obtain ⟨ad158, e158, hx158_0⟩ := Kd.at_int HR1.out x5_1 p158 q158
        cases e158
        replace p158 := eq_true p158
        replace q158 := eq_true q158
        go_wp2
        repeat (go_quiet (fail); try go_wp2)
        go_roundg k1
        case measure => have := HK1.out; omega
        case rel => exact ⟨(wrap64 (x5_1 + 1)), (by first | rfl | (simp; done) | (simp [*]; done)), H', ⟨by have := HK1.out; omega⟩, by repeat (first | exact Drawn0.refl _ | apply Drawn0.step)⟩
       ·rw [if_neg c7] at H
        have c7b0 : ((rd l0 x5_1) == (rd l1 x5_1)) = false := beq_eq_false_iff_ne.mpr c7
        have c7b1 : ((rd l0 x5_1) != (rd l1 x5_1)) = true := bne_iff_ne.mpr c7
        obtain rfl := Option.some.inj H
        have p157 : 0 ≤ (x5_1 : Int) := of_decide_eq_true (by first | (with_reducible assumption) | assumption)
        have q157 : x5_1 < (l0.length : Int) := of_decide_eq_true (by first | (with_reducible assumption) | assumption)
        obtain ⟨ad157, e157, hx157_0⟩ := Kd.at_int HR0.out x5_1 p157 q157
        cases e157
        replace p157 := eq_true p157
        replace q157 := eq_true q157
        have p158 : 0 ≤ (x5_1 : Int) := of_decide_eq_true (by first | (with_reducible assumption) | assumption)
        have q158 : x5_1 < (l1.length : Int) := of_decide_eq_true (by first | (with_reducible assumption) | assumption)
        obtain ⟨ad158, e158, hx158_0⟩ := Kd.at_int HR1.out x5_1 p158 q158
        cases e158
        replace p158 := eq_true p158
        replace q158 := eq_true q158
        go_wp2
        repeat (go_quiet (fail); try go_wp2)
        go_ret
        exact ⟨by first | rfl | (simp; done) | (simp [*]; done), by repeat (first | exact Drawn0.refl _ | apply Drawn0.step)⟩
      ·rw [if_neg c6] at H
       exact absurd H (by simp)
     ·rw [if_neg c5] at H
      exact absurd H (by simp)
    ·rw [if_neg c4] at H
     have c4b0 : decide (x5_1 < (l0.length : Int)) = false := decide_eq_false c4
     clear c4
     obtain rfl := Option.some.inj H
     go_wp2
     repeat (go_quiet (fail); try go_wp2)
     go_ret
     exact ⟨by first | rfl | (simp; done) | (simp [*]; done), by repeat (first | exact Drawn0.refl _ | apply Drawn0.step)⟩
 ·rw [if_neg c3] at H
  have c3b0 : ((l0.length : Int) == (l1.length : Int)) = false := beq_eq_false_iff_ne.mpr c3
  have c3b1 : ((l0.length : Int) != (l1.length : Int)) = true := bne_iff_ne.mpr c3
  have c3b2 : (l0.length == l1.length) = false := by first | simpa using c3 | (simp at c3 ⊢; omega)
  obtain rfl := Option.some.inj H
  go_enter Try.func74, Try.ntmps74
  go_wp2
  repeat (go_quiet (fail); try go_wp2)
  go_ret
  exact ⟨by first | rfl | (simp; done) | (simp [*]; done), by repeat (first | exact Drawn0.refl _ | apply Drawn0.step)⟩

/-! ### laws_eqRules: function 30 -/
def laws_eqRules.f (k : Nat) (a0_0 : Int) (a0_1 : Int) (a0_2 : Bool) (a0_3 : Bool) (l0_4 : List Int) (l0_5 : List Int) (a0_6 : Int) (a0_7 : Int) (a1_0 : Int) (a1_1 : Int) (a1_2 : Bool) (a1_3 : Bool) (l1_4 : List Int) (l1_5 : List Int) (a1_6 : Int) (a1_7 : Int) : Option (Bool) := if a0_0 = a1_0 then (if a0_1 = a1_1 then (if (a0_2 != a1_2) = true then (some false) else (if (a0_3 != a1_3) = true then (some false) else ((laws_eqIntS.f k l0_4 l1_4).bind fun t161 => (if t161 = true then ((laws_eqIntS.f k l0_5 l1_5).bind fun t162 => (if t162 = true then (if a0_6 = a1_6 then (if a0_7 = a1_7 then (some true) else (some false)) else (some false)) else (some false))) else (some false))))) else (some false)) else (some false)
theorem laws_eqRules.mono : ∀ a0 a1 a2 a3 a4 a5 a6 a7 a8 a9 a10 a11 a12 a13 a14 a15 k, LeO (laws_eqRules.f k a0 a1 a2 a3 a4 a5 a6 a7 a8 a9 a10 a11 a12 a13 a14 a15) (laws_eqRules.f (k + 1) a0 a1 a2 a3 a4 a5 a6 a7 a8 a9 a10 a11 a12 a13 a14 a15) := by
 intro a0 a1 a2 a3 a4 a5 a6 a7 a8 a9 a10 a11 a12 a13 a14 a15 k
 unfold laws_eqRules.f
 repeat' first
   | (with_reducible exact laws_eqIntS.mono _ _ _)
   | (with_reducible exact LeO.refl _)
   | (with_reducible exact LeO.none _)
   | (with_reducible refine LeO.ite ?_ ?_)
   | (with_reducible refine LeO.bind ?_ (fun _ => ?_))
   | exact laws_eqIntS.mono _ _ _
   | exact LeO.none _
   | refine LeO.ite ?_ ?_
   | refine LeO.bind ?_ (fun _ => ?_)
set_option maxHeartbeats 8000000 in
set_option maxRecDepth 100000 in
theorem laws_eqRules.calls (k : Nat) (a0_0 : Int) (a0_1 : Int) (a0_2 : Bool) (a0_3 : Bool) (A0_4 : Option Addr) (c0_4 : Nat) (l0_4 : List Int) (A0_5 : Option Addr) (c0_5 : Nat) (l0_5 : List Int) (a0_6 : Int) (a0_7 : Int) (a1_0 : Int) (a1_1 : Int) (a1_2 : Bool) (a1_3 : Bool) (A1_4 : Option Addr) (c1_4 : Nat) (l1_4 : List Int) (A1_5 : Option Addr) (c1_5 : Nat) (l1_5 : List Int) (a1_6 : Int) (a1_7 : Int) (r : Bool) (w : World) (hr0_4 : Kd.C (Kd.int .i64) w A0_4 l0_4.length l0_4) (hc0_4 : l0_4.length ≤ c0_4) (hr0_5 : Kd.C (Kd.int .i64) w A0_5 l0_5.length l0_5) (hc0_5 : l0_5.length ≤ c0_5) (hr1_4 : Kd.C (Kd.int .i64) w A1_4 l1_4.length l1_4) (hc1_4 : l1_4.length ≤ c1_4) (hr1_5 : Kd.C (Kd.int .i64) w A1_5 l1_5.length l1_5) (hc1_5 : l1_5.length ≤ c1_5) (h : laws_eqRules.f k a0_0 a0_1 a0_2 a0_3 l0_4 l0_5 a0_6 a0_7 a1_0 a1_1 a1_2 a1_3 l1_4 l1_5 a1_6 a1_7 = some r) :
  Calls Try.prog 30 #[.agg #[.int .i64 a0_0, .int .i64 a0_1, .bool a0_2, .bool a0_3, .slice A0_4 l0_4.length c0_4, .slice A0_5 l0_5.length c0_5, .int .i64 a0_6, .int .i64 a0_7], .agg #[.int .i64 a1_0, .int .i64 a1_1, .bool a1_2, .bool a1_3, .slice A1_4 l1_4.length c1_4, .slice A1_5 l1_5.length c1_5, .int .i64 a1_6, .int .i64 a1_7]] w fun e w' => e = .returned (.bool r) ∧ Below w.heap.size w w' := by
 have hu41 := Try.underlying41
 have HR0_4 := Qb hr0_4
 have HC0_4 := Qb hc0_4
 clear hr0_4 hc0_4
 have HR0_5 := Qb hr0_5
 have HC0_5 := Qb hc0_5
 clear hr0_5 hc0_5
 have HR1_4 := Qb hr1_4
 have HC1_4 := Qb hc1_4
 clear hr1_4 hc1_4
 have HR1_5 := Qb hr1_5
 have HC1_5 := Qb hc1_5
 clear hr1_5 hc1_5
 have HB := Qb (Below.refl w.heap.size w)
 have H : (if a0_0 = a1_0 then (if a0_1 = a1_1 then (if (a0_2 != a1_2) = true then (some false) else (if (a0_3 != a1_3) = true then (some false) else ((laws_eqIntS.f k l0_4 l1_4).bind fun t161 => (if t161 = true then ((laws_eqIntS.f k l0_5 l1_5).bind fun t162 => (if t162 = true then (if a0_6 = a1_6 then (if a0_7 = a1_7 then (some true) else (some false)) else (some false)) else (some false))) else (some false))))) else (some false)) else (some false)) = some r := h
 clear h
 by_cases c3 : a0_0 = a1_0
 rotate_left
 rw [if_neg c3] at H
 have c3b0 : (a0_0 == a1_0) = false := beq_eq_false_iff_ne.mpr c3
 have c3b1 : (a0_0 != a1_0) = true := bne_iff_ne.mpr c3
 obtain rfl := Option.some.inj H
 rotate_right
 rw [if_pos c3] at H
 have c3b0 : (a0_0 == a1_0) = true := beq_iff_eq.mpr c3
 have c3b1 : (a0_0 != a1_0) = false := bne_eq_false_iff_eq.mpr c3
 clear c3
 by_cases c4 : a0_1 = a1_1
 rotate_left
 rw [if_neg c4] at H
 have c4b0 : (a0_1 == a1_1) = false := beq_eq_false_iff_ne.mpr c4
 have c4b1 : (a0_1 != a1_1) = true := bne_iff_ne.mpr c4
 obtain rfl := Option.some.inj H
 rotate_right
 rw [if_pos c4] at H
 have c4b0 : (a0_1 == a1_1) = true := beq_iff_eq.mpr c4
 have c4b1 : (a0_1 != a1_1) = false := bne_eq_false_iff_eq.mpr c4
 clear c4
 by_cases c5 : (a0_2 != a1_2) = true
 rotate_left
 rw [if_neg c5] at H
 have c5b0 : (a0_2 != a1_2) = false := by simpa using c5
 (try (have c5b1 : decide (a0_2 = a1_2) = true := by simpa using c5))
 (try (have c5b2 : (a0_2 == a1_2) = true := by simpa using c5))
 clear c5
 by_cases c11 : (a0_3 != a1_3) = true
 rotate_left
 rw [if_neg c11] at H
 have c11b0 : (a0_3 != a1_3) = false := by simpa using c11
 (try (have c11b1 : decide (a0_3 = a1_3) = true := by simpa using c11))
 (try (have c11b2 : (a0_3 == a1_3) = true := by simpa using c11))
 clear c11
 replace H := Qc.mp H
 obtain ⟨t161, A170, H⟩ := H
 have A17 := Qb A170
 clear A170
 by_cases c18 : t161 = true
 rotate_left
 replace c18 := Bool.eq_false_iff.mpr c18
 subst c18
 rw [if_neg (show ¬ (false = true) by decide)] at H
 obtain rfl := Option.some.inj H
 rotate_right
 subst c18
 rw [if_pos rfl] at H
 replace H := Qc.mp H
 obtain ⟨t162, A190, H⟩ := H
 have A19 := Qb A190
 clear A190
 by_cases c20 : t162 = true
 rotate_left
 replace c20 := Bool.eq_false_iff.mpr c20
 subst c20
 rw [if_neg (show ¬ (false = true) by decide)] at H
 obtain rfl := Option.some.inj H
 rotate_right
 subst c20
 rw [if_pos rfl] at H
 by_cases c21 : a0_6 = a1_6
 rotate_left
 rw [if_neg c21] at H
 have c21b0 : (a0_6 == a1_6) = false := beq_eq_false_iff_ne.mpr c21
 have c21b1 : (a0_6 != a1_6) = true := bne_iff_ne.mpr c21
 obtain rfl := Option.some.inj H
 rotate_right
 rw [if_pos c21] at H
 have c21b0 : (a0_6 == a1_6) = true := beq_iff_eq.mpr c21
 have c21b1 : (a0_6 != a1_6) = false := bne_eq_false_iff_eq.mpr c21
 clear c21
 by_cases c22 : a0_7 = a1_7
 rotate_left
 rw [if_neg c22] at H
 have c22b0 : (a0_7 == a1_7) = false := beq_eq_false_iff_ne.mpr c22
 have c22b1 : (a0_7 != a1_7) = true := bne_iff_ne.mpr c22
 obtain rfl := Option.some.inj H
 rotate_right
 rw [if_pos c22] at H
 have c22b0 : (a0_7 == a1_7) = true := beq_iff_eq.mpr c22
 have c22b1 : (a0_7 != a1_7) = false := bne_eq_false_iff_eq.mpr c22
 clear c22
 obtain rfl := Option.some.inj H
 rotate_right
 rw [if_pos c11] at H
 have c11b0 : (a0_3 != a1_3) = true := c11
 (try (have c11b1 : decide (a0_3 = a1_3) = false := by simpa using c11))
 (try (have c11b2 : (a0_3 == a1_3) = false := by simpa using c11))
 (try (have c11b3 : ¬ (a0_3 = a1_3) := by simpa using c11))
 clear c11
 obtain rfl := Option.some.inj H
 rotate_right
 rw [if_pos c5] at H
 have c5b0 : (a0_2 != a1_2) = true := c5
 (try (have c5b1 : decide (a0_2 = a1_2) = false := by simpa using c5))
 (try (have c5b2 : (a0_2 == a1_2) = false := by simpa using c5))
 (try (have c5b3 : ¬ (a0_2 = a1_2) := by simpa using c5))
 clear c5
 obtain rfl := Option.some.inj H
 all_goals
  go_enter Try.func30, Try.ntmps30
  go_wp2_with (first | ((with_reducible refine gate_dst (N := 2) rfl ?_); refine box_event ?hg (N := 2) ?hd (cs := #[.int .i64 a0_0, .int .i64 a0_1, .bool a0_2, .bool a0_3, .slice A0_4 l0_4.length c0_4, .slice A0_5 l0_5.length c0_5, .int .i64 a0_6, .int .i64 a0_7]) (t := 41) ?hr ?_; (case hd => rfl); (case hg => rfl); (case hr => first | (go_simp; done) | (go_simp; rfl)); intro gb159 hg w38 hbox hb; have n0_ := Qb (QY (by repeat (first | (with_reducible first | exact HB.out | apply QH | apply QD | apply QI) | exact HB.out)) hb); have n1_ := Qb (hbox); have n2_ := Qb ((by rw [hg]; exact (QN (by repeat (first | (with_reducible first | exact HB.out | apply QH | apply QD | apply QI) | exact HB.out))) : w.heap.size ≤ gb159)); have n3_ := Qb ((by rw [hg]; exact (QN (by repeat (first | (with_reducible first | exact HB.out | apply QH | apply QD | apply QI) | exact HB.out))) : w.heap.size ≤ gb159)); clear HB; have HB := n0_; have BK159 := n1_; have GW159 := n2_; have GE159 := n3_; clear n0_ n1_ n2_ n3_; clear hb hbox hg) | ((with_reducible refine gate_dst (N := 3) rfl ?_); refine box_event ?hg (N := 3) ?hd (cs := #[.int .i64 a1_0, .int .i64 a1_1, .bool a1_2, .bool a1_3, .slice A1_4 l1_4.length c1_4, .slice A1_5 l1_5.length c1_5, .int .i64 a1_6, .int .i64 a1_7]) (t := 41) ?hr ?_; (case hd => rfl); (case hg => rfl); (case hr => first | (go_simp; done) | (go_simp; rfl)); intro gb160 hg w39 hbox hb; have n0_ := Qb (QT (g := gb159) (o := _) (by (with_reducible repeat (first | refine QE ?_ _ | refine QJ ?_ | refine QF ?_ _)); exact BK159.out) hb); have n1_ := Qb (QY (by repeat (first | (with_reducible first | exact HB.out | apply QH | apply QD | apply QI | refine QG ?_ GE159.out) | exact HB.out)) hb); have n2_ := Qb (hbox); have n3_ := Qb ((by rw [hg]; exact (QN (by repeat (first | (with_reducible first | exact HB.out | apply QH | apply QD | apply QI | refine QG ?_ GE159.out) | exact HB.out))) : w.heap.size ≤ gb160)); have n4_ := Qb ((by rw [hg]; exact (QN (by repeat (first | (with_reducible first | exact HB.out | apply QH | apply QD | apply QI | refine QG ?_ GE159.out) | exact HB.out))) : w.heap.size ≤ gb160)); have n5_ := Qb ((by rw [hg]; exact Nat.ne_of_lt (blk_lt (g := gb159) (o := _) (by (with_reducible repeat (first | refine QE ?_ _ | refine QJ ?_ | refine QF ?_ _)); exact BK159.out)) : gb159 ≠ gb160)); have n6_ := Qb ((by rw [hg]; exact Nat.ne_of_gt (blk_lt (g := gb159) (o := _) (by (with_reducible repeat (first | refine QE ?_ _ | refine QJ ?_ | refine QF ?_ _)); exact BK159.out)) : gb160 ≠ gb159)); clear BK159; clear HB; have BK159 := n0_; have HB := n1_; have BK160 := n2_; have GW160 := n3_; have GE160 := n4_; have NB159_160 := n5_; have NB160_159 := n6_; clear n0_ n1_ n2_ n3_ n4_ n5_ n6_; clear hb hbox hg; have hnb40 := NB159_160.out; have hnc40 := NB160_159.out; have hcz41_0 : w39.cell? ⟨gb159, 0, none⟩ = some (.int .i64 a0_0) := (QC BK159.out 0).trans rfl; have hcz41_1 : w39.cell? ⟨gb159, 1, none⟩ = some (.int .i64 a0_1) := (QC BK159.out 1).trans rfl; have hcz41_2 : w39.cell? ⟨gb159, 2, none⟩ = some (.bool a0_2) := (QC BK159.out 2).trans rfl; have hcz41_3 : w39.cell? ⟨gb159, 3, none⟩ = some (.bool a0_3) := (QC BK159.out 3).trans rfl; have hcz41_4 : w39.cell? ⟨gb159, 4, none⟩ = some (.slice A0_4 l0_4.length c0_4) := (QC BK159.out 4).trans rfl; have hcz41_5 : w39.cell? ⟨gb159, 5, none⟩ = some (.slice A0_5 l0_5.length c0_5) := (QC BK159.out 5).trans rfl; have hcz41_6 : w39.cell? ⟨gb159, 6, none⟩ = some (.int .i64 a0_6) := (QC BK159.out 6).trans rfl; have hcz41_7 : w39.cell? ⟨gb159, 7, none⟩ = some (.int .i64 a0_7) := (QC BK159.out 7).trans rfl; have hfz41_0 := QB BK159.out 0; have hfz41_1 := QB BK159.out 1; have hfz41_2 := QB BK159.out 2; have hfz41_3 := QB BK159.out 3; have hfz41_4 := QB BK159.out 4; have hfz41_5 := QB BK159.out 5; have hfz41_6 := QB BK159.out 6; have hfz41_7 := QB BK159.out 7; have hcz42_0 : w39.cell? ⟨gb160, 0, none⟩ = some (.int .i64 a1_0) := (QC BK160.out 0).trans rfl; have hcz42_1 : w39.cell? ⟨gb160, 1, none⟩ = some (.int .i64 a1_1) := (QC BK160.out 1).trans rfl; have hcz42_2 : w39.cell? ⟨gb160, 2, none⟩ = some (.bool a1_2) := (QC BK160.out 2).trans rfl; have hcz42_3 : w39.cell? ⟨gb160, 3, none⟩ = some (.bool a1_3) := (QC BK160.out 3).trans rfl; have hcz42_4 : w39.cell? ⟨gb160, 4, none⟩ = some (.slice A1_4 l1_4.length c1_4) := (QC BK160.out 4).trans rfl; have hcz42_5 : w39.cell? ⟨gb160, 5, none⟩ = some (.slice A1_5 l1_5.length c1_5) := (QC BK160.out 5).trans rfl; have hcz42_6 : w39.cell? ⟨gb160, 6, none⟩ = some (.int .i64 a1_6) := (QC BK160.out 6).trans rfl; have hcz42_7 : w39.cell? ⟨gb160, 7, none⟩ = some (.int .i64 a1_7) := (QC BK160.out 7).trans rfl; have hfz42_0 := QB BK160.out 0; have hfz42_1 := QB BK160.out 1; have hfz42_2 := QB BK160.out 2; have hfz42_3 := QB BK160.out 3; have hfz42_4 := QB BK160.out 4; have hfz42_5 := QB BK160.out 5; have hfz42_6 := QB BK160.out 6; have hfz42_7 := QB BK160.out 7) | ((with_reducible refine QR (f := 74) rfl ?_); refine goesL_ (some 29) rfl rfl Try.func74 (by kernel_rfl) rfl #[.slice A0_4 l0_4.length c0_4, .slice A1_4 l1_4.length c1_4] rfl (by (try simp only [List.map_toArray, List.map_cons, List.map_nil]); first | done | rfl | (simp only [List.length_drop, List.length_take]; rfl)) ?_; (with_reducible refine (laws_eqIntS.calls k _ _ l0_4 _ _ l1_4 _ _ ?side1 ?side2 ?side3 ?side4 A17.out).mono ?_); (case side1 => repeat (first | exact (QP HR0_4.out HB.out) | (with_reducible refine QL ?_ _) | (with_reducible refine QM ?_ _) | (with_reducible refine QO ?_))); (case side2 => exact HC0_4.out); (case side3 => repeat (first | exact (QP HR1_4.out HB.out) | (with_reducible refine QL ?_ _) | (with_reducible refine QM ?_ _) | (with_reducible refine QO ?_))); (case side4 => exact HC1_4.out); rintro e w' ⟨rfl, ⟨nd, rfl⟩⟩; refine ⟨_, rfl, ?_⟩) | ((with_reducible refine QR (f := 74) rfl ?_); refine goesL_ (some 35) rfl rfl Try.func74 (by kernel_rfl) rfl #[.slice A0_5 l0_5.length c0_5, .slice A1_5 l1_5.length c1_5] rfl (by (try simp only [List.map_toArray, List.map_cons, List.map_nil]); first | done | rfl | (simp only [List.length_drop, List.length_take]; rfl)) ?_; (with_reducible refine (laws_eqIntS.calls k _ _ l0_5 _ _ l1_5 _ _ ?side1 ?side2 ?side3 ?side4 A19.out).mono ?_); (case side1 => repeat (first | exact (QP HR0_5.out (by repeat (first | (with_reducible first | exact HB.out | apply QH | apply QD | apply QI | refine QG ?_ GE159.out | refine QG ?_ GE160.out) | exact HB.out))) | (with_reducible refine QL ?_ _) | (with_reducible refine QM ?_ _) | (with_reducible refine QO ?_))); (case side2 => exact HC0_5.out); (case side3 => repeat (first | exact (QP HR1_5.out (by repeat (first | (with_reducible first | exact HB.out | apply QH | apply QD | apply QI | refine QG ?_ GE159.out | refine QG ?_ GE160.out) | exact HB.out))) | (with_reducible refine QL ?_ _) | (with_reducible refine QM ?_ _) | (with_reducible refine QO ?_))); (case side4 => exact HC1_5.out); rintro e w' ⟨rfl, ⟨nd, rfl⟩⟩; refine ⟨_, rfl, ?_⟩))
  go_ret
  exact ⟨by first | rfl | (simp [errW_none, errW_some] <;> rfl) | (simp [*, errW_none, errW_some] <;> rfl), by repeat (first | (with_reducible first | exact HB.out | apply QH | apply QD | apply QI | refine QG ?_ GE159.out | refine QG ?_ GE160.out) | exact HB.out)⟩

/-! ### laws_eqIntSS: function 113 -/
def laws_eqIntSS.l0 : Nat → List (List Int) → List (List Int) → Int → Option (Bool)
 | 0, _, _, _ => none
 | k + 1, x0, x1, x5 => if x5 < (x0.length : Int) then (if 0 ≤ x5 then (if x5 < (x1.length : Int) then ((laws_eqIntS.f k (rd_L1 x0 x5) (rd_L1 x1 x5)).bind fun t165 => (if t165 = true then (laws_eqIntSS.l0 k x0 x1 (wrap64 (x5 + 1))) else (some false))) else (none)) else (none)) else (some true)
def laws_eqIntSS.f (k : Nat) (l0 : List (List Int)) (l1 : List (List Int)) : Option (Bool) := if (l0.length : Int) = (l1.length : Int) then (laws_eqIntSS.l0 k l0 l1 0) else (some false)
theorem laws_eqIntSS.mono_l : ∀ k, (∀ y0 y1 y2, LeO (laws_eqIntSS.l0 k y0 y1 y2) (laws_eqIntSS.l0 (k + 1) y0 y1 y2))
 | 0 => fun _ _ _ r h => by simp [laws_eqIntSS.l0] at h
 | k + 1 => by
  have ih0 := laws_eqIntSS.mono_l k
  ·intro y0 y1 y2
   unfold laws_eqIntSS.l0
   repeat' first
   | (with_reducible exact ih0 _ _ _)
   | (with_reducible exact laws_eqIntS.mono _ _ _)
   | (with_reducible exact LeO.refl _)
   | (with_reducible exact LeO.none _)
   | (with_reducible refine LeO.ite ?_ ?_)
   | (with_reducible refine LeO.bind ?_ (fun _ => ?_))
   | exact ih0 _ _ _
   | exact laws_eqIntS.mono _ _ _
   | exact LeO.none _
   | refine LeO.ite ?_ ?_
   | refine LeO.bind ?_ (fun _ => ?_)
theorem laws_eqIntSS.mono : ∀ a0 a1 k, LeO (laws_eqIntSS.f k a0 a1) (laws_eqIntSS.f (k + 1) a0 a1) := by
 intro a0 a1 k
 have ih0 := laws_eqIntSS.mono_l k
 unfold laws_eqIntSS.f
 repeat' first
   | (with_reducible exact ih0 _ _ _)
   | (with_reducible exact laws_eqIntS.mono _ _ _)
   | (with_reducible exact LeO.refl _)
   | (with_reducible exact LeO.none _)
   | (with_reducible refine LeO.ite ?_ ?_)
   | (with_reducible refine LeO.bind ?_ (fun _ => ?_))
   | exact ih0 _ _ _
   | exact laws_eqIntS.mono _ _ _
   | exact LeO.none _
   | refine LeO.ite ?_ ?_
   | refine LeO.bind ?_ (fun _ => ?_)
set_option maxHeartbeats 8000000 in
set_option maxRecDepth 100000 in
theorem laws_eqIntSS.calls (k : Nat) (A0 : Option Addr) (c0 : Nat) (l0 : List (List Int)) (A1 : Option Addr) (c1 : Nat) (l1 : List (List Int)) (r : Bool) (w : World) (hr0 : Kd.C (Kd.slice 3 (Kd.int .i64)) w A0 l0.length l0) (hc0 : l0.length ≤ c0) (hr1 : Kd.C (Kd.slice 3 (Kd.int .i64)) w A1 l1.length l1) (hc1 : l1.length ≤ c1) (h : laws_eqIntSS.f k l0 l1 = some r) :
  Calls Try.prog 113 #[.slice A0 l0.length c0, .slice A1 l1.length c1] w fun e w' => e = .returned (.bool r) ∧ Drawn0 w w' := by
 have HR0 := Qb hr0
 have HC0 := Qb hc0
 clear hr0 hc0
 have HR1 := Qb hr1
 have HC1 := Qb hc1
 clear hr1 hc1
 have H : (if (l0.length : Int) = (l1.length : Int) then (laws_eqIntSS.l0 k l0 l1 0) else (some false)) = some r := h
 clear h
 by_cases c3 : (l0.length : Int) = (l1.length : Int)
 ·rw [if_pos c3] at H
  have c3b0 : ((l0.length : Int) == (l1.length : Int)) = true := beq_iff_eq.mpr c3
  have c3b1 : ((l0.length : Int) != (l1.length : Int)) = false := bne_eq_false_iff_eq.mpr c3
  have c3b2 : (l0.length == l1.length) = true := by first | simpa using c3 | (simp at c3 ⊢; omega)
  clear c3
  have H' := Qb H
  clear H
  go_enter Try.func113, Try.ntmps113
  go_wp2
  repeat (go_quiet (fail); try go_wp2)
  go_loopg [5] k (fun kq v5 w' => ∃ (x5_1 : Int), v5 = .int .i64 x5_1 ∧ Aside0 (laws_eqIntSS.l0 kq l0 l1 x5_1 = some r) ∧ Aside0 (kq ≤ k) ∧ Drawn0 w w')
  case atStart => exact ⟨(0), (by first | rfl | (simp; done) | (simp [*]; done)), H', ⟨Nat.le_refl _⟩, by repeat (first | exact Drawn0.refl _ | apply Drawn0.step)⟩
  case round =>
   clear H'
   try clear c1
   try clear p2
   try clear c3
   try clear c3b0
   try clear c3b1
   try clear c3b2
   obtain ⟨x5_1, rfl, HA, HK1, ⟨m1, rfl⟩⟩ := hrel
   cases gk with
   | zero => exact absurd HA.out (by simp [laws_eqIntSS.l0])
   | succ k1 =>
    have H := HA.out
    clear HA
    simp only [laws_eqIntSS.l0] at H
    by_cases c4 : x5_1 < (l0.length : Int)
    ·rw [if_pos c4] at H
     have c4b0 : decide (x5_1 < (l0.length : Int)) = true := decide_eq_true c4
     clear c4
     by_cases c5 : 0 ≤ x5_1
     ·rw [if_pos c5] at H
      have c5b0 : decide (0 ≤ x5_1) = true := decide_eq_true c5
      clear c5
      by_cases c6 : x5_1 < (l1.length : Int)
      ·rw [if_pos c6] at H
       have c6b0 : decide (x5_1 < (l1.length : Int)) = true := decide_eq_true c6
       clear c6
       replace H := Qc.mp H
       obtain ⟨t165, A70, H⟩ := H
       have A7 := Qb A70
       clear A70
       by_cases c8 : t165 = true
       ·subst c8
        rw [if_pos rfl] at H
        have H' := Qb H
        clear H
        have p163 : 0 ≤ (x5_1 : Int) := of_decide_eq_true (by first | (with_reducible assumption) | assumption)
        have q163 : x5_1 < (l0.length : Int) := of_decide_eq_true (by first | (with_reducible assumption) | assumption)
        obtain ⟨ad163, A163_0, c163_0, e163, hx163_0, hl163_0, hi163_0⟩ := at_L1 HR0.out x5_1 p163 q163
        cases e163
        have HR163_0 := Qb hi163_0
        have HC163_0 := Qb hl163_0
        clear hi163_0 hl163_0
        replace p163 := eq_true p163
        replace q163 := eq_true q163
        have p164 : 0 ≤ (x5_1 : Int) := of_decide_eq_true (by first | (with_reducible assumption) | assumption)
        have q164 : x5_1 < (l1.length : Int) := of_decide_eq_true (by first | (with_reducible assumption) | assumption)
        obtain ⟨ad164, A164_0, c164_0, e164, hx164_0, hl164_0, hi164_0⟩ := at_L1 HR1.out x5_1 p164 q164
        cases e164
        have HR164_0 := Qb hi164_0
        have HC164_0 := Qb hl164_0
        clear hi164_0 hl164_0
        replace p164 := eq_true p164
        replace q164 := eq_true q164
        go_wp2_with (first | (go_at_call 74; (with_reducible refine (laws_eqIntS.calls k1 _ _ (rd_L1 l0 x5_1) _ _ (rd_L1 l1 x5_1) true _ ?side1 ?side2 ?side3 ?side4 A7.out).mono ?_); (case side1 => repeat (first | exact HR163_0.out | (with_reducible refine QL ?_ _) | (with_reducible refine QM ?_ _) | (with_reducible refine QO ?_))); (case side2 => exact HC163_0.out); (case side3 => repeat (first | exact HR164_0.out | (with_reducible refine QL ?_ _) | (with_reducible refine QM ?_ _) | (with_reducible refine QO ?_))); (case side4 => exact HC164_0.out); rintro e w' ⟨rfl, ⟨nd, rfl⟩⟩; (try first | exact ⟨rfl, _, World.drewN_drewN _ _ _⟩ | exact ⟨rfl, _, Eq.trans (World.drewN_drewN _ _ _) (congrArg (World.drewN _) (Nat.add_assoc _ _ _))⟩)))
        repeat (go_quiet (first | (go_at_call 74; (with_reducible refine (laws_eqIntS.calls k1 _ _ (rd_L1 l0 x5_1) _ _ (rd_L1 l1 x5_1) true _ ?side1 ?side2 ?side3 ?side4 A7.out).mono ?_); (case side1 => repeat (first | exact HR163_0.out | (with_reducible refine QL ?_ _) | (with_reducible refine QM ?_ _) | (with_reducible refine QO ?_))); (case side2 => exact HC163_0.out); (case side3 => repeat (first | exact HR164_0.out | (with_reducible refine QL ?_ _) | (with_reducible refine QM ?_ _) | (with_reducible refine QO ?_))); (case side4 => exact HC164_0.out); rintro e w' ⟨rfl, ⟨nd, rfl⟩⟩; (try first | exact ⟨rfl, _, World.drewN_drewN _ _ _⟩ | exact ⟨rfl, _, Eq.trans (World.drewN_drewN _ _ _) (congrArg (World.drewN _) (Nat.add_assoc _ _ _))⟩))); try go_wp2_with (first | (go_at_call 74; (with_reducible refine (laws_eqIntS.calls k1 _ _ (rd_L1 l0 x5_1) _ _ (rd_L1 l1 x5_1) true _ ?side1 ?side2 ?side3 ?side4 A7.out).mono ?_); (case side1 => repeat (first | exact HR163_0.out | (with_reducible refine QL ?_ _) | (with_reducible refine QM ?_ _) | (with_reducible refine QO ?_))); (case side2 => exact HC163_0.out); (case side3 => repeat (first | exact HR164_0.out | (with_reducible refine QL ?_ _) | (with_reducible refine QM ?_ _) | (with_reducible refine QO ?_))); (case side4 => exact HC164_0.out); rintro e w' ⟨rfl, ⟨nd, rfl⟩⟩; (try first | exact ⟨rfl, _, World.drewN_drewN _ _ _⟩ | exact ⟨rfl, _, Eq.trans (World.drewN_drewN _ _ _) (congrArg (World.drewN _) (Nat.add_assoc _ _ _))⟩))))
        go_roundg k1
        case measure => have := HK1.out; omega
        case rel => exact ⟨(wrap64 (x5_1 + 1)), (by first | rfl | (simp; done) | (simp [*]; done)), H', ⟨by have := HK1.out; omega⟩, by repeat (first | exact Drawn0.refl _ | apply Drawn0.step)⟩
       ·replace c8 := Bool.eq_false_iff.mpr c8
        subst c8
        rw [if_neg (show ¬ (false = true) by decide)] at H
        obtain rfl := Option.some.inj H
        have p163 : 0 ≤ (x5_1 : Int) := of_decide_eq_true (by first | (with_reducible assumption) | assumption)
        have q163 : x5_1 < (l0.length : Int) := of_decide_eq_true (by first | (with_reducible assumption) | assumption)
        obtain ⟨ad163, A163_0, c163_0, e163, hx163_0, hl163_0, hi163_0⟩ := at_L1 HR0.out x5_1 p163 q163
        cases e163
        have HR163_0 := Qb hi163_0
        have HC163_0 := Qb hl163_0
        clear hi163_0 hl163_0
        replace p163 := eq_true p163
        replace q163 := eq_true q163
        have p164 : 0 ≤ (x5_1 : Int) := of_decide_eq_true (by first | (with_reducible assumption) | assumption)
        have q164 : x5_1 < (l1.length : Int) := of_decide_eq_true (by first | (with_reducible assumption) | assumption)
        obtain ⟨ad164, A164_0, c164_0, e164, hx164_0, hl164_0, hi164_0⟩ := at_L1 HR1.out x5_1 p164 q164
        cases e164
        have HR164_0 := Qb hi164_0
        have HC164_0 := Qb hl164_0
        clear hi164_0 hl164_0
        replace p164 := eq_true p164
        replace q164 := eq_true q164
        go_wp2_with (first | (go_at_call 74; (with_reducible refine (laws_eqIntS.calls k1 _ _ (rd_L1 l0 x5_1) _ _ (rd_L1 l1 x5_1) false _ ?side1 ?side2 ?side3 ?side4 A7.out).mono ?_); (case side1 => repeat (first | exact HR163_0.out | (with_reducible refine QL ?_ _) | (with_reducible refine QM ?_ _) | (with_reducible refine QO ?_))); (case side2 => exact HC163_0.out); (case side3 => repeat (first | exact HR164_0.out | (with_reducible refine QL ?_ _) | (with_reducible refine QM ?_ _) | (with_reducible refine QO ?_))); (case side4 => exact HC164_0.out); rintro e w' ⟨rfl, ⟨nd, rfl⟩⟩; (try first | exact ⟨rfl, _, World.drewN_drewN _ _ _⟩ | exact ⟨rfl, _, Eq.trans (World.drewN_drewN _ _ _) (congrArg (World.drewN _) (Nat.add_assoc _ _ _))⟩)))
        repeat (go_quiet (first | (go_at_call 74; (with_reducible refine (laws_eqIntS.calls k1 _ _ (rd_L1 l0 x5_1) _ _ (rd_L1 l1 x5_1) false _ ?side1 ?side2 ?side3 ?side4 A7.out).mono ?_); (case side1 => repeat (first | exact HR163_0.out | (with_reducible refine QL ?_ _) | (with_reducible refine QM ?_ _) | (with_reducible refine QO ?_))); (case side2 => exact HC163_0.out); (case side3 => repeat (first | exact HR164_0.out | (with_reducible refine QL ?_ _) | (with_reducible refine QM ?_ _) | (with_reducible refine QO ?_))); (case side4 => exact HC164_0.out); rintro e w' ⟨rfl, ⟨nd, rfl⟩⟩; (try first | exact ⟨rfl, _, World.drewN_drewN _ _ _⟩ | exact ⟨rfl, _, Eq.trans (World.drewN_drewN _ _ _) (congrArg (World.drewN _) (Nat.add_assoc _ _ _))⟩))); try go_wp2_with (first | (go_at_call 74; (with_reducible refine (laws_eqIntS.calls k1 _ _ (rd_L1 l0 x5_1) _ _ (rd_L1 l1 x5_1) false _ ?side1 ?side2 ?side3 ?side4 A7.out).mono ?_); (case side1 => repeat (first | exact HR163_0.out | (with_reducible refine QL ?_ _) | (with_reducible refine QM ?_ _) | (with_reducible refine QO ?_))); (case side2 => exact HC163_0.out); (case side3 => repeat (first | exact HR164_0.out | (with_reducible refine QL ?_ _) | (with_reducible refine QM ?_ _) | (with_reducible refine QO ?_))); (case side4 => exact HC164_0.out); rintro e w' ⟨rfl, ⟨nd, rfl⟩⟩; (try first | exact ⟨rfl, _, World.drewN_drewN _ _ _⟩ | exact ⟨rfl, _, Eq.trans (World.drewN_drewN _ _ _) (congrArg (World.drewN _) (Nat.add_assoc _ _ _))⟩))))
        go_ret
        exact ⟨by first | rfl | (simp; done) | (simp [*]; done), by repeat (first | exact Drawn0.refl _ | apply Drawn0.step)⟩
      ·rw [if_neg c6] at H
       exact absurd H (by simp)
     ·rw [if_neg c5] at H
      exact absurd H (by simp)
    ·rw [if_neg c4] at H
     have c4b0 : decide (x5_1 < (l0.length : Int)) = false := decide_eq_false c4
     clear c4
     obtain rfl := Option.some.inj H
     go_wp2
     repeat (go_quiet (fail); try go_wp2)
     go_ret
     exact ⟨by first | rfl | (simp; done) | (simp [*]; done), by repeat (first | exact Drawn0.refl _ | apply Drawn0.step)⟩
 ·rw [if_neg c3] at H
  have c3b0 : ((l0.length : Int) == (l1.length : Int)) = false := beq_eq_false_iff_ne.mpr c3
  have c3b1 : ((l0.length : Int) != (l1.length : Int)) = true := bne_iff_ne.mpr c3
  have c3b2 : (l0.length == l1.length) = false := by first | simpa using c3 | (simp at c3 ⊢; omega)
  obtain rfl := Option.some.inj H
  go_enter Try.func113, Try.ntmps113
  go_wp2
  repeat (go_quiet (fail); try go_wp2)
  go_ret
  exact ⟨by first | rfl | (simp; done) | (simp [*]; done), by repeat (first | exact Drawn0.refl _ | apply Drawn0.step)⟩

/-! ### laws_eqGame: function 47 -/
def laws_eqGame.f (k : Nat) (a0_0 : Int) (a0_1 : Int) (a0_2 : Bool) (a0_3 : Bool) (l0_4 : List Int) (l0_5 : List Int) (a0_6 : Int) (a0_7 : Int) (l0_8 : List (List Int)) (l0_9 : List Int) (l0_10 : List Int) (a0_11 : Int) (a0_12 : Int) (a0_13 : Int) (a1_0 : Int) (a1_1 : Int) (a1_2 : Bool) (a1_3 : Bool) (l1_4 : List Int) (l1_5 : List Int) (a1_6 : Int) (a1_7 : Int) (l1_8 : List (List Int)) (l1_9 : List Int) (l1_10 : List Int) (a1_11 : Int) (a1_12 : Int) (a1_13 : Int) : Option (Bool) := (laws_eqRules.f k a0_0 a0_1 a0_2 a0_3 l0_4 l0_5 a0_6 a0_7 a1_0 a1_1 a1_2 a1_3 l1_4 l1_5 a1_6 a1_7).bind fun t168 => (if t168 = true then ((laws_eqIntSS.f k l0_8 l1_8).bind fun t169 => (if t169 = true then ((laws_eqIntS.f k l0_9 l1_9).bind fun t170 => (if t170 = true then ((laws_eqIntS.f k l0_10 l1_10).bind fun t171 => (if t171 = true then (if a0_11 = a1_11 then (if a0_12 = a1_12 then (if a0_13 = a1_13 then (some true) else (some false)) else (some false)) else (some false)) else (some false))) else (some false))) else (some false))) else (some false))
theorem laws_eqGame.mono : ∀ a0 a1 a2 a3 a4 a5 a6 a7 a8 a9 a10 a11 a12 a13 a14 a15 a16 a17 a18 a19 a20 a21 a22 a23 a24 a25 a26 a27 k, LeO (laws_eqGame.f k a0 a1 a2 a3 a4 a5 a6 a7 a8 a9 a10 a11 a12 a13 a14 a15 a16 a17 a18 a19 a20 a21 a22 a23 a24 a25 a26 a27) (laws_eqGame.f (k + 1) a0 a1 a2 a3 a4 a5 a6 a7 a8 a9 a10 a11 a12 a13 a14 a15 a16 a17 a18 a19 a20 a21 a22 a23 a24 a25 a26 a27) := by
 intro a0 a1 a2 a3 a4 a5 a6 a7 a8 a9 a10 a11 a12 a13 a14 a15 a16 a17 a18 a19 a20 a21 a22 a23 a24 a25 a26 a27 k
 unfold laws_eqGame.f
 repeat' first
   | (with_reducible exact laws_eqIntS.mono _ _ _)
   | (with_reducible exact laws_eqIntSS.mono _ _ _)
   | (with_reducible exact laws_eqRules.mono _ _ _ _ _ _ _ _ _ _ _ _ _ _ _ _ _)
   | (with_reducible exact LeO.refl _)
   | (with_reducible exact LeO.none _)
   | (with_reducible refine LeO.ite ?_ ?_)
   | (with_reducible refine LeO.bind ?_ (fun _ => ?_))
   | exact laws_eqIntS.mono _ _ _
   | exact laws_eqIntSS.mono _ _ _
   | exact laws_eqRules.mono _ _ _ _ _ _ _ _ _ _ _ _ _ _ _ _ _
   | exact LeO.none _
   | refine LeO.ite ?_ ?_
   | refine LeO.bind ?_ (fun _ => ?_)
set_option maxHeartbeats 8000000 in
set_option maxRecDepth 100000 in
theorem laws_eqGame.calls (k : Nat) (a0_0 : Int) (a0_1 : Int) (a0_2 : Bool) (a0_3 : Bool) (A0_4 : Option Addr) (c0_4 : Nat) (l0_4 : List Int) (A0_5 : Option Addr) (c0_5 : Nat) (l0_5 : List Int) (a0_6 : Int) (a0_7 : Int) (A0_8 : Option Addr) (c0_8 : Nat) (l0_8 : List (List Int)) (A0_9 : Option Addr) (c0_9 : Nat) (l0_9 : List Int) (A0_10 : Option Addr) (c0_10 : Nat) (l0_10 : List Int) (a0_11 : Int) (a0_12 : Int) (a0_13 : Int) (a1_0 : Int) (a1_1 : Int) (a1_2 : Bool) (a1_3 : Bool) (A1_4 : Option Addr) (c1_4 : Nat) (l1_4 : List Int) (A1_5 : Option Addr) (c1_5 : Nat) (l1_5 : List Int) (a1_6 : Int) (a1_7 : Int) (A1_8 : Option Addr) (c1_8 : Nat) (l1_8 : List (List Int)) (A1_9 : Option Addr) (c1_9 : Nat) (l1_9 : List Int) (A1_10 : Option Addr) (c1_10 : Nat) (l1_10 : List Int) (a1_11 : Int) (a1_12 : Int) (a1_13 : Int) (r : Bool) (w : World) (hr0_4 : Kd.C (Kd.int .i64) w A0_4 l0_4.length l0_4) (hc0_4 : l0_4.length ≤ c0_4) (hr0_5 : Kd.C (Kd.int .i64) w A0_5 l0_5.length l0_5) (hc0_5 : l0_5.length ≤ c0_5) (hr0_8 : Kd.C (Kd.slice 3 (Kd.int .i64)) w A0_8 l0_8.length l0_8) (hc0_8 : l0_8.length ≤ c0_8) (hr0_9 : Kd.C (Kd.int .i64) w A0_9 l0_9.length l0_9) (hc0_9 : l0_9.length ≤ c0_9) (hr0_10 : Kd.C (Kd.int .i64) w A0_10 l0_10.length l0_10) (hc0_10 : l0_10.length ≤ c0_10) (hr1_4 : Kd.C (Kd.int .i64) w A1_4 l1_4.length l1_4) (hc1_4 : l1_4.length ≤ c1_4) (hr1_5 : Kd.C (Kd.int .i64) w A1_5 l1_5.length l1_5) (hc1_5 : l1_5.length ≤ c1_5) (hr1_8 : Kd.C (Kd.slice 3 (Kd.int .i64)) w A1_8 l1_8.length l1_8) (hc1_8 : l1_8.length ≤ c1_8) (hr1_9 : Kd.C (Kd.int .i64) w A1_9 l1_9.length l1_9) (hc1_9 : l1_9.length ≤ c1_9) (hr1_10 : Kd.C (Kd.int .i64) w A1_10 l1_10.length l1_10) (hc1_10 : l1_10.length ≤ c1_10) (h : laws_eqGame.f k a0_0 a0_1 a0_2 a0_3 l0_4 l0_5 a0_6 a0_7 l0_8 l0_9 l0_10 a0_11 a0_12 a0_13 a1_0 a1_1 a1_2 a1_3 l1_4 l1_5 a1_6 a1_7 l1_8 l1_9 l1_10 a1_11 a1_12 a1_13 = some r) :
  Calls Try.prog 47 #[.agg #[.int .i64 a0_0, .int .i64 a0_1, .bool a0_2, .bool a0_3, .slice A0_4 l0_4.length c0_4, .slice A0_5 l0_5.length c0_5, .int .i64 a0_6, .int .i64 a0_7, .slice A0_8 l0_8.length c0_8, .slice A0_9 l0_9.length c0_9, .slice A0_10 l0_10.length c0_10, .int .i64 a0_11, .int .i64 a0_12, .int .i64 a0_13], .agg #[.int .i64 a1_0, .int .i64 a1_1, .bool a1_2, .bool a1_3, .slice A1_4 l1_4.length c1_4, .slice A1_5 l1_5.length c1_5, .int .i64 a1_6, .int .i64 a1_7, .slice A1_8 l1_8.length c1_8, .slice A1_9 l1_9.length c1_9, .slice A1_10 l1_10.length c1_10, .int .i64 a1_11, .int .i64 a1_12, .int .i64 a1_13]] w fun e w' => e = .returned (.bool r) ∧ Below w.heap.size w w' := by
 have hu59 := Try.underlying59
 have hu41 := Try.underlying41
 have HR0_4 := Qb hr0_4
 have HC0_4 := Qb hc0_4
 clear hr0_4 hc0_4
 have HR0_5 := Qb hr0_5
 have HC0_5 := Qb hc0_5
 clear hr0_5 hc0_5
 have HR0_8 := Qb hr0_8
 have HC0_8 := Qb hc0_8
 clear hr0_8 hc0_8
 have HR0_9 := Qb hr0_9
 have HC0_9 := Qb hc0_9
 clear hr0_9 hc0_9
 have HR0_10 := Qb hr0_10
 have HC0_10 := Qb hc0_10
 clear hr0_10 hc0_10
 have HR1_4 := Qb hr1_4
 have HC1_4 := Qb hc1_4
 clear hr1_4 hc1_4
 have HR1_5 := Qb hr1_5
 have HC1_5 := Qb hc1_5
 clear hr1_5 hc1_5
 have HR1_8 := Qb hr1_8
 have HC1_8 := Qb hc1_8
 clear hr1_8 hc1_8
 have HR1_9 := Qb hr1_9
 have HC1_9 := Qb hc1_9
 clear hr1_9 hc1_9
 have HR1_10 := Qb hr1_10
 have HC1_10 := Qb hc1_10
 clear hr1_10 hc1_10
 have HB := Qb (Below.refl w.heap.size w)
 have H : ((laws_eqRules.f k a0_0 a0_1 a0_2 a0_3 l0_4 l0_5 a0_6 a0_7 a1_0 a1_1 a1_2 a1_3 l1_4 l1_5 a1_6 a1_7).bind fun t168 => (if t168 = true then ((laws_eqIntSS.f k l0_8 l1_8).bind fun t169 => (if t169 = true then ((laws_eqIntS.f k l0_9 l1_9).bind fun t170 => (if t170 = true then ((laws_eqIntS.f k l0_10 l1_10).bind fun t171 => (if t171 = true then (if a0_11 = a1_11 then (if a0_12 = a1_12 then (if a0_13 = a1_13 then (some true) else (some false)) else (some false)) else (some false)) else (some false))) else (some false))) else (some false))) else (some false))) = some r := h
 clear h
 replace H := Qc.mp H
 obtain ⟨t168, A30, H⟩ := H
 have A3 := Qb A30
 clear A30
 by_cases c4 : t168 = true
 rotate_left
 replace c4 := Bool.eq_false_iff.mpr c4
 subst c4
 rw [if_neg (show ¬ (false = true) by decide)] at H
 obtain rfl := Option.some.inj H
 rotate_right
 subst c4
 rw [if_pos rfl] at H
 replace H := Qc.mp H
 obtain ⟨t169, A50, H⟩ := H
 have A5 := Qb A50
 clear A50
 by_cases c6 : t169 = true
 rotate_left
 replace c6 := Bool.eq_false_iff.mpr c6
 subst c6
 rw [if_neg (show ¬ (false = true) by decide)] at H
 obtain rfl := Option.some.inj H
 rotate_right
 subst c6
 rw [if_pos rfl] at H
 replace H := Qc.mp H
 obtain ⟨t170, A70, H⟩ := H
 have A7 := Qb A70
 clear A70
 by_cases c8 : t170 = true
 rotate_left
 replace c8 := Bool.eq_false_iff.mpr c8
 subst c8
 rw [if_neg (show ¬ (false = true) by decide)] at H
 obtain rfl := Option.some.inj H
 rotate_right
 subst c8
 rw [if_pos rfl] at H
 replace H := Qc.mp H
 obtain ⟨t171, A90, H⟩ := H
 have A9 := Qb A90
 clear A90
 by_cases c10 : t171 = true
 rotate_left
 replace c10 := Bool.eq_false_iff.mpr c10
 subst c10
 rw [if_neg (show ¬ (false = true) by decide)] at H
 obtain rfl := Option.some.inj H
 rotate_right
 subst c10
 rw [if_pos rfl] at H
 by_cases c11 : a0_11 = a1_11
 rotate_left
 rw [if_neg c11] at H
 have c11b0 : (a0_11 == a1_11) = false := beq_eq_false_iff_ne.mpr c11
 have c11b1 : (a0_11 != a1_11) = true := bne_iff_ne.mpr c11
 obtain rfl := Option.some.inj H
 rotate_right
 rw [if_pos c11] at H
 have c11b0 : (a0_11 == a1_11) = true := beq_iff_eq.mpr c11
 have c11b1 : (a0_11 != a1_11) = false := bne_eq_false_iff_eq.mpr c11
 clear c11
 by_cases c12 : a0_12 = a1_12
 rotate_left
 rw [if_neg c12] at H
 have c12b0 : (a0_12 == a1_12) = false := beq_eq_false_iff_ne.mpr c12
 have c12b1 : (a0_12 != a1_12) = true := bne_iff_ne.mpr c12
 obtain rfl := Option.some.inj H
 rotate_right
 rw [if_pos c12] at H
 have c12b0 : (a0_12 == a1_12) = true := beq_iff_eq.mpr c12
 have c12b1 : (a0_12 != a1_12) = false := bne_eq_false_iff_eq.mpr c12
 clear c12
 by_cases c13 : a0_13 = a1_13
 rotate_left
 rw [if_neg c13] at H
 have c13b0 : (a0_13 == a1_13) = false := beq_eq_false_iff_ne.mpr c13
 have c13b1 : (a0_13 != a1_13) = true := bne_iff_ne.mpr c13
 obtain rfl := Option.some.inj H
 rotate_right
 rw [if_pos c13] at H
 have c13b0 : (a0_13 == a1_13) = true := beq_iff_eq.mpr c13
 have c13b1 : (a0_13 != a1_13) = false := bne_eq_false_iff_eq.mpr c13
 clear c13
 obtain rfl := Option.some.inj H
 all_goals
  go_enter Try.func47, Try.ntmps47
  go_wp2_with (first | ((with_reducible refine gate_dst (N := 2) rfl ?_); refine box_event ?hg (N := 2) ?hd (cs := #[.int .i64 a0_0, .int .i64 a0_1, .bool a0_2, .bool a0_3, .slice A0_4 l0_4.length c0_4, .slice A0_5 l0_5.length c0_5, .int .i64 a0_6, .int .i64 a0_7, .slice A0_8 l0_8.length c0_8, .slice A0_9 l0_9.length c0_9, .slice A0_10 l0_10.length c0_10, .int .i64 a0_11, .int .i64 a0_12, .int .i64 a0_13]) (t := 59) ?hr ?_; (case hd => rfl); (case hg => rfl); (case hr => first | (go_simp; done) | (go_simp; rfl)); intro gb166 hg w46 hbox hb; have n0_ := Qb (QY (by repeat (first | (with_reducible first | exact HB.out | apply QH | apply QD | apply QI) | exact HB.out)) hb); have n1_ := Qb (hbox); have n2_ := Qb ((by rw [hg]; exact (QN (by repeat (first | (with_reducible first | exact HB.out | apply QH | apply QD | apply QI) | exact HB.out))) : w.heap.size ≤ gb166)); have n3_ := Qb ((by rw [hg]; exact (QN (by repeat (first | (with_reducible first | exact HB.out | apply QH | apply QD | apply QI) | exact HB.out))) : w.heap.size ≤ gb166)); clear HB; have HB := n0_; have BK166 := n1_; have GW166 := n2_; have GE166 := n3_; clear n0_ n1_ n2_ n3_; clear hb hbox hg) | ((with_reducible refine gate_dst (N := 3) rfl ?_); refine box_event ?hg (N := 3) ?hd (cs := #[.int .i64 a1_0, .int .i64 a1_1, .bool a1_2, .bool a1_3, .slice A1_4 l1_4.length c1_4, .slice A1_5 l1_5.length c1_5, .int .i64 a1_6, .int .i64 a1_7, .slice A1_8 l1_8.length c1_8, .slice A1_9 l1_9.length c1_9, .slice A1_10 l1_10.length c1_10, .int .i64 a1_11, .int .i64 a1_12, .int .i64 a1_13]) (t := 59) ?hr ?_; (case hd => rfl); (case hg => rfl); (case hr => first | (go_simp; done) | (go_simp; rfl)); intro gb167 hg w47 hbox hb; have n0_ := Qb (QT (g := gb166) (o := _) (by (with_reducible repeat (first | refine QE ?_ _ | refine QJ ?_ | refine QF ?_ _)); exact BK166.out) hb); have n1_ := Qb (QY (by repeat (first | (with_reducible first | exact HB.out | apply QH | apply QD | apply QI | refine QG ?_ GE166.out) | exact HB.out)) hb); have n2_ := Qb (hbox); have n3_ := Qb ((by rw [hg]; exact (QN (by repeat (first | (with_reducible first | exact HB.out | apply QH | apply QD | apply QI | refine QG ?_ GE166.out) | exact HB.out))) : w.heap.size ≤ gb167)); have n4_ := Qb ((by rw [hg]; exact (QN (by repeat (first | (with_reducible first | exact HB.out | apply QH | apply QD | apply QI | refine QG ?_ GE166.out) | exact HB.out))) : w.heap.size ≤ gb167)); have n5_ := Qb ((by rw [hg]; exact Nat.ne_of_lt (blk_lt (g := gb166) (o := _) (by (with_reducible repeat (first | refine QE ?_ _ | refine QJ ?_ | refine QF ?_ _)); exact BK166.out)) : gb166 ≠ gb167)); have n6_ := Qb ((by rw [hg]; exact Nat.ne_of_gt (blk_lt (g := gb166) (o := _) (by (with_reducible repeat (first | refine QE ?_ _ | refine QJ ?_ | refine QF ?_ _)); exact BK166.out)) : gb167 ≠ gb166)); clear BK166; clear HB; have BK166 := n0_; have HB := n1_; have BK167 := n2_; have GW167 := n3_; have GE167 := n4_; have NB166_167 := n5_; have NB167_166 := n6_; clear n0_ n1_ n2_ n3_ n4_ n5_ n6_; clear hb hbox hg; have hnb48 := NB166_167.out; have hnc48 := NB167_166.out; have hcz49_0 : w47.cell? ⟨gb166, 0, none⟩ = some (.int .i64 a0_0) := (QC BK166.out 0).trans rfl; have hcz49_1 : w47.cell? ⟨gb166, 1, none⟩ = some (.int .i64 a0_1) := (QC BK166.out 1).trans rfl; have hcz49_2 : w47.cell? ⟨gb166, 2, none⟩ = some (.bool a0_2) := (QC BK166.out 2).trans rfl; have hcz49_3 : w47.cell? ⟨gb166, 3, none⟩ = some (.bool a0_3) := (QC BK166.out 3).trans rfl; have hcz49_4 : w47.cell? ⟨gb166, 4, none⟩ = some (.slice A0_4 l0_4.length c0_4) := (QC BK166.out 4).trans rfl; have hcz49_5 : w47.cell? ⟨gb166, 5, none⟩ = some (.slice A0_5 l0_5.length c0_5) := (QC BK166.out 5).trans rfl; have hcz49_6 : w47.cell? ⟨gb166, 6, none⟩ = some (.int .i64 a0_6) := (QC BK166.out 6).trans rfl; have hcz49_7 : w47.cell? ⟨gb166, 7, none⟩ = some (.int .i64 a0_7) := (QC BK166.out 7).trans rfl; have hcz49_8 : w47.cell? ⟨gb166, 8, none⟩ = some (.slice A0_8 l0_8.length c0_8) := (QC BK166.out 8).trans rfl; have hcz49_9 : w47.cell? ⟨gb166, 9, none⟩ = some (.slice A0_9 l0_9.length c0_9) := (QC BK166.out 9).trans rfl; have hcz49_10 : w47.cell? ⟨gb166, 10, none⟩ = some (.slice A0_10 l0_10.length c0_10) := (QC BK166.out 10).trans rfl; have hcz49_11 : w47.cell? ⟨gb166, 11, none⟩ = some (.int .i64 a0_11) := (QC BK166.out 11).trans rfl; have hcz49_12 : w47.cell? ⟨gb166, 12, none⟩ = some (.int .i64 a0_12) := (QC BK166.out 12).trans rfl; have hcz49_13 : w47.cell? ⟨gb166, 13, none⟩ = some (.int .i64 a0_13) := (QC BK166.out 13).trans rfl; have hfz49_0 := QB BK166.out 0; have hfz49_1 := QB BK166.out 1; have hfz49_2 := QB BK166.out 2; have hfz49_3 := QB BK166.out 3; have hfz49_4 := QB BK166.out 4; have hfz49_5 := QB BK166.out 5; have hfz49_6 := QB BK166.out 6; have hfz49_7 := QB BK166.out 7; have hfz49_8 := QB BK166.out 8; have hfz49_9 := QB BK166.out 9; have hfz49_10 := QB BK166.out 10; have hfz49_11 := QB BK166.out 11; have hfz49_12 := QB BK166.out 12; have hfz49_13 := QB BK166.out 13; have hcz50_0 : w47.cell? ⟨gb167, 0, none⟩ = some (.int .i64 a1_0) := (QC BK167.out 0).trans rfl; have hcz50_1 : w47.cell? ⟨gb167, 1, none⟩ = some (.int .i64 a1_1) := (QC BK167.out 1).trans rfl; have hcz50_2 : w47.cell? ⟨gb167, 2, none⟩ = some (.bool a1_2) := (QC BK167.out 2).trans rfl; have hcz50_3 : w47.cell? ⟨gb167, 3, none⟩ = some (.bool a1_3) := (QC BK167.out 3).trans rfl; have hcz50_4 : w47.cell? ⟨gb167, 4, none⟩ = some (.slice A1_4 l1_4.length c1_4) := (QC BK167.out 4).trans rfl; have hcz50_5 : w47.cell? ⟨gb167, 5, none⟩ = some (.slice A1_5 l1_5.length c1_5) := (QC BK167.out 5).trans rfl; have hcz50_6 : w47.cell? ⟨gb167, 6, none⟩ = some (.int .i64 a1_6) := (QC BK167.out 6).trans rfl; have hcz50_7 : w47.cell? ⟨gb167, 7, none⟩ = some (.int .i64 a1_7) := (QC BK167.out 7).trans rfl; have hcz50_8 : w47.cell? ⟨gb167, 8, none⟩ = some (.slice A1_8 l1_8.length c1_8) := (QC BK167.out 8).trans rfl; have hcz50_9 : w47.cell? ⟨gb167, 9, none⟩ = some (.slice A1_9 l1_9.length c1_9) := (QC BK167.out 9).trans rfl; have hcz50_10 : w47.cell? ⟨gb167, 10, none⟩ = some (.slice A1_10 l1_10.length c1_10) := (QC BK167.out 10).trans rfl; have hcz50_11 : w47.cell? ⟨gb167, 11, none⟩ = some (.int .i64 a1_11) := (QC BK167.out 11).trans rfl; have hcz50_12 : w47.cell? ⟨gb167, 12, none⟩ = some (.int .i64 a1_12) := (QC BK167.out 12).trans rfl; have hcz50_13 : w47.cell? ⟨gb167, 13, none⟩ = some (.int .i64 a1_13) := (QC BK167.out 13).trans rfl; have hfz50_0 := QB BK167.out 0; have hfz50_1 := QB BK167.out 1; have hfz50_2 := QB BK167.out 2; have hfz50_3 := QB BK167.out 3; have hfz50_4 := QB BK167.out 4; have hfz50_5 := QB BK167.out 5; have hfz50_6 := QB BK167.out 6; have hfz50_7 := QB BK167.out 7; have hfz50_8 := QB BK167.out 8; have hfz50_9 := QB BK167.out 9; have hfz50_10 := QB BK167.out 10; have hfz50_11 := QB BK167.out 11; have hfz50_12 := QB BK167.out 12; have hfz50_13 := QB BK167.out 13) | ((with_reducible refine QR (f := 30) rfl ?_); refine goesL_ (some 9) rfl rfl Try.func30 (by kernel_rfl) rfl #[.agg #[.int .i64 a0_0, .int .i64 a0_1, .bool a0_2, .bool a0_3, .slice A0_4 l0_4.length c0_4, .slice A0_5 l0_5.length c0_5, .int .i64 a0_6, .int .i64 a0_7], .agg #[.int .i64 a1_0, .int .i64 a1_1, .bool a1_2, .bool a1_3, .slice A1_4 l1_4.length c1_4, .slice A1_5 l1_5.length c1_5, .int .i64 a1_6, .int .i64 a1_7]] rfl (by (try simp only [List.map_toArray, List.map_cons, List.map_nil]); first | done | rfl | (simp only [List.length_drop, List.length_take]; rfl)) ?_; (with_reducible refine (laws_eqRules.calls k a0_0 a0_1 a0_2 a0_3 _ _ l0_4 _ _ l0_5 a0_6 a0_7 a1_0 a1_1 a1_2 a1_3 _ _ l1_4 _ _ l1_5 a1_6 a1_7 _ _ ?side1 ?side2 ?side3 ?side4 ?side5 ?side6 ?side7 ?side8 A3.out).mono ?_); (case side1 => repeat (first | exact (QP HR0_4.out HB.out) | (with_reducible refine QL ?_ _) | (with_reducible refine QM ?_ _) | (with_reducible refine QO ?_))); (case side2 => exact HC0_4.out); (case side3 => repeat (first | exact (QP HR0_5.out HB.out) | (with_reducible refine QL ?_ _) | (with_reducible refine QM ?_ _) | (with_reducible refine QO ?_))); (case side4 => exact HC0_5.out); (case side5 => repeat (first | exact (QP HR1_4.out HB.out) | (with_reducible refine QL ?_ _) | (with_reducible refine QM ?_ _) | (with_reducible refine QO ?_))); (case side6 => exact HC1_4.out); (case side7 => repeat (first | exact (QP HR1_5.out HB.out) | (with_reducible refine QL ?_ _) | (with_reducible refine QM ?_ _) | (with_reducible refine QO ?_))); (case side8 => exact HC1_5.out); rintro e w51 ⟨rfl, hb⟩; refine ⟨_, rfl, ?_⟩; have n0_ := Qb (QT (g := gb166) (o := _) (by (with_reducible repeat (first | refine QE ?_ _ | refine QJ ?_ | refine QF ?_ _)); exact BK166.out) hb); have n1_ := Qb (QT (g := gb167) (o := _) (by (with_reducible repeat (first | refine QE ?_ _ | refine QJ ?_ | refine QF ?_ _)); exact BK167.out) hb); have n2_ := Qb (QY (by repeat (first | (with_reducible first | exact HB.out | apply QH | apply QD | apply QI | refine QG ?_ GE166.out | refine QG ?_ GE167.out) | exact HB.out)) hb); clear BK166; clear BK167; clear HB; have BK166 := n0_; have BK167 := n1_; have HB := n2_; clear n0_ n1_ n2_; (try clear hb); (try clear hb2); (try clear hk); (try clear hi); have hcz52_0 : w51.cell? ⟨gb166, 0, none⟩ = some (.int .i64 a0_0) := (QC BK166.out 0).trans rfl; have hcz52_1 : w51.cell? ⟨gb166, 1, none⟩ = some (.int .i64 a0_1) := (QC BK166.out 1).trans rfl; have hcz52_2 : w51.cell? ⟨gb166, 2, none⟩ = some (.bool a0_2) := (QC BK166.out 2).trans rfl; have hcz52_3 : w51.cell? ⟨gb166, 3, none⟩ = some (.bool a0_3) := (QC BK166.out 3).trans rfl; have hcz52_4 : w51.cell? ⟨gb166, 4, none⟩ = some (.slice A0_4 l0_4.length c0_4) := (QC BK166.out 4).trans rfl; have hcz52_5 : w51.cell? ⟨gb166, 5, none⟩ = some (.slice A0_5 l0_5.length c0_5) := (QC BK166.out 5).trans rfl; have hcz52_6 : w51.cell? ⟨gb166, 6, none⟩ = some (.int .i64 a0_6) := (QC BK166.out 6).trans rfl; have hcz52_7 : w51.cell? ⟨gb166, 7, none⟩ = some (.int .i64 a0_7) := (QC BK166.out 7).trans rfl; have hcz52_8 : w51.cell? ⟨gb166, 8, none⟩ = some (.slice A0_8 l0_8.length c0_8) := (QC BK166.out 8).trans rfl; have hcz52_9 : w51.cell? ⟨gb166, 9, none⟩ = some (.slice A0_9 l0_9.length c0_9) := (QC BK166.out 9).trans rfl; have hcz52_10 : w51.cell? ⟨gb166, 10, none⟩ = some (.slice A0_10 l0_10.length c0_10) := (QC BK166.out 10).trans rfl; have hcz52_11 : w51.cell? ⟨gb166, 11, none⟩ = some (.int .i64 a0_11) := (QC BK166.out 11).trans rfl; have hcz52_12 : w51.cell? ⟨gb166, 12, none⟩ = some (.int .i64 a0_12) := (QC BK166.out 12).trans rfl; have hcz52_13 : w51.cell? ⟨gb166, 13, none⟩ = some (.int .i64 a0_13) := (QC BK166.out 13).trans rfl; have hfz52_0 := QB BK166.out 0; have hfz52_1 := QB BK166.out 1; have hfz52_2 := QB BK166.out 2; have hfz52_3 := QB BK166.out 3; have hfz52_4 := QB BK166.out 4; have hfz52_5 := QB BK166.out 5; have hfz52_6 := QB BK166.out 6; have hfz52_7 := QB BK166.out 7; have hfz52_8 := QB BK166.out 8; have hfz52_9 := QB BK166.out 9; have hfz52_10 := QB BK166.out 10; have hfz52_11 := QB BK166.out 11; have hfz52_12 := QB BK166.out 12; have hfz52_13 := QB BK166.out 13; have hcz53_0 : w51.cell? ⟨gb167, 0, none⟩ = some (.int .i64 a1_0) := (QC BK167.out 0).trans rfl; have hcz53_1 : w51.cell? ⟨gb167, 1, none⟩ = some (.int .i64 a1_1) := (QC BK167.out 1).trans rfl; have hcz53_2 : w51.cell? ⟨gb167, 2, none⟩ = some (.bool a1_2) := (QC BK167.out 2).trans rfl; have hcz53_3 : w51.cell? ⟨gb167, 3, none⟩ = some (.bool a1_3) := (QC BK167.out 3).trans rfl; have hcz53_4 : w51.cell? ⟨gb167, 4, none⟩ = some (.slice A1_4 l1_4.length c1_4) := (QC BK167.out 4).trans rfl; have hcz53_5 : w51.cell? ⟨gb167, 5, none⟩ = some (.slice A1_5 l1_5.length c1_5) := (QC BK167.out 5).trans rfl; have hcz53_6 : w51.cell? ⟨gb167, 6, none⟩ = some (.int .i64 a1_6) := (QC BK167.out 6).trans rfl; have hcz53_7 : w51.cell? ⟨gb167, 7, none⟩ = some (.int .i64 a1_7) := (QC BK167.out 7).trans rfl; have hcz53_8 : w51.cell? ⟨gb167, 8, none⟩ = some (.slice A1_8 l1_8.length c1_8) := (QC BK167.out 8).trans rfl; have hcz53_9 : w51.cell? ⟨gb167, 9, none⟩ = some (.slice A1_9 l1_9.length c1_9) := (QC BK167.out 9).trans rfl; have hcz53_10 : w51.cell? ⟨gb167, 10, none⟩ = some (.slice A1_10 l1_10.length c1_10) := (QC BK167.out 10).trans rfl; have hcz53_11 : w51.cell? ⟨gb167, 11, none⟩ = some (.int .i64 a1_11) := (QC BK167.out 11).trans rfl; have hcz53_12 : w51.cell? ⟨gb167, 12, none⟩ = some (.int .i64 a1_12) := (QC BK167.out 12).trans rfl; have hcz53_13 : w51.cell? ⟨gb167, 13, none⟩ = some (.int .i64 a1_13) := (QC BK167.out 13).trans rfl; have hfz53_0 := QB BK167.out 0; have hfz53_1 := QB BK167.out 1; have hfz53_2 := QB BK167.out 2; have hfz53_3 := QB BK167.out 3; have hfz53_4 := QB BK167.out 4; have hfz53_5 := QB BK167.out 5; have hfz53_6 := QB BK167.out 6; have hfz53_7 := QB BK167.out 7; have hfz53_8 := QB BK167.out 8; have hfz53_9 := QB BK167.out 9; have hfz53_10 := QB BK167.out 10; have hfz53_11 := QB BK167.out 11; have hfz53_12 := QB BK167.out 12; have hfz53_13 := QB BK167.out 13) | ((with_reducible refine QR (f := 113) rfl ?_); refine goesL_ (some 15) rfl rfl Try.func113 (by kernel_rfl) rfl #[.slice A0_8 l0_8.length c0_8, .slice A1_8 l1_8.length c1_8] rfl (by (try simp only [List.map_toArray, List.map_cons, List.map_nil]); first | done | rfl | (simp only [List.length_drop, List.length_take]; rfl)) ?_; (with_reducible refine (laws_eqIntSS.calls k _ _ l0_8 _ _ l1_8 _ _ ?side1 ?side2 ?side3 ?side4 A5.out).mono ?_); (case side1 => repeat (first | exact (QP HR0_8.out HB.out) | (with_reducible refine QL ?_ _) | (with_reducible refine QM ?_ _) | (with_reducible refine QO ?_))); (case side2 => exact HC0_8.out); (case side3 => repeat (first | exact (QP HR1_8.out HB.out) | (with_reducible refine QL ?_ _) | (with_reducible refine QM ?_ _) | (with_reducible refine QO ?_))); (case side4 => exact HC1_8.out); rintro e w' ⟨rfl, ⟨nd, rfl⟩⟩; refine ⟨_, rfl, ?_⟩) | ((with_reducible refine QR (f := 74) rfl ?_); refine goesL_ (some 21) rfl rfl Try.func74 (by kernel_rfl) rfl #[.slice A0_9 l0_9.length c0_9, .slice A1_9 l1_9.length c1_9] rfl (by (try simp only [List.map_toArray, List.map_cons, List.map_nil]); first | done | rfl | (simp only [List.length_drop, List.length_take]; rfl)) ?_; (with_reducible refine (laws_eqIntS.calls k _ _ l0_9 _ _ l1_9 _ _ ?side1 ?side2 ?side3 ?side4 A7.out).mono ?_); (case side1 => repeat (first | exact (QP HR0_9.out (by repeat (first | (with_reducible first | exact HB.out | apply QH | apply QD | apply QI | refine QG ?_ GE166.out | refine QG ?_ GE167.out) | exact HB.out))) | (with_reducible refine QL ?_ _) | (with_reducible refine QM ?_ _) | (with_reducible refine QO ?_))); (case side2 => exact HC0_9.out); (case side3 => repeat (first | exact (QP HR1_9.out (by repeat (first | (with_reducible first | exact HB.out | apply QH | apply QD | apply QI | refine QG ?_ GE166.out | refine QG ?_ GE167.out) | exact HB.out))) | (with_reducible refine QL ?_ _) | (with_reducible refine QM ?_ _) | (with_reducible refine QO ?_))); (case side4 => exact HC1_9.out); rintro e w' ⟨rfl, ⟨nd, rfl⟩⟩; refine ⟨_, rfl, ?_⟩) | ((with_reducible refine QR (f := 74) rfl ?_); refine goesL_ (some 27) rfl rfl Try.func74 (by kernel_rfl) rfl #[.slice A0_10 l0_10.length c0_10, .slice A1_10 l1_10.length c1_10] rfl (by (try simp only [List.map_toArray, List.map_cons, List.map_nil]); first | done | rfl | (simp only [List.length_drop, List.length_take]; rfl)) ?_; (with_reducible refine (laws_eqIntS.calls k _ _ l0_10 _ _ l1_10 _ _ ?side1 ?side2 ?side3 ?side4 A9.out).mono ?_); (case side1 => repeat (first | exact (QP HR0_10.out (by repeat (first | (with_reducible first | exact HB.out | apply QH | apply QD | apply QI | refine QG ?_ GE166.out | refine QG ?_ GE167.out) | exact HB.out))) | (with_reducible refine QL ?_ _) | (with_reducible refine QM ?_ _) | (with_reducible refine QO ?_))); (case side2 => exact HC0_10.out); (case side3 => repeat (first | exact (QP HR1_10.out (by repeat (first | (with_reducible first | exact HB.out | apply QH | apply QD | apply QI | refine QG ?_ GE166.out | refine QG ?_ GE167.out) | exact HB.out))) | (with_reducible refine QL ?_ _) | (with_reducible refine QM ?_ _) | (with_reducible refine QO ?_))); (case side4 => exact HC1_10.out); rintro e w' ⟨rfl, ⟨nd, rfl⟩⟩; refine ⟨_, rfl, ?_⟩))
  go_ret
  exact ⟨by first | rfl | (simp [errW_none, errW_some] <;> rfl) | (simp [*, errW_none, errW_some] <;> rfl), by repeat (first | (with_reducible first | exact HB.out | apply QH | apply QD | apply QI | refine QG ?_ GE166.out | refine QG ?_ GE167.out) | exact HB.out)⟩

/-! ### spec_l1In: function 99 -/
def spec_l1In.f (a0 : Int) (a1 : Int) (a2 : Int) : Option (Bool) := if a0 ≥ a1 then (some (decide (a0 ≤ a2))) else (some false)
set_option maxHeartbeats 8000000 in
set_option maxRecDepth 100000 in
theorem spec_l1In.calls (a0 : Int) (a1 : Int) (a2 : Int) (r : Bool) (w : World) (h : spec_l1In.f a0 a1 a2 = some r) :
  Calls Try.prog 99 #[.int .i64 a0, .int .i64 a1, .int .i64 a2] w fun e w' => e = .returned (.bool r) ∧ Drawn0 w w' := by
 have H : (if a0 ≥ a1 then (some (decide (a0 ≤ a2))) else (some false)) = some r := h
 clear h
 by_cases c4 : a0 ≥ a1
 ·rw [if_pos c4] at H
  have c4b0 : decide (a1 ≤ a0) = true := decide_eq_true c4
  clear c4
  obtain rfl := Option.some.inj H
  go_enter Try.func99, Try.ntmps99
  go_wp2
  go_ret
  exact ⟨by first | rfl | (simp; done) | (simp [*]; done), by repeat (first | exact Drawn0.refl _ | apply Drawn0.step)⟩
 ·rw [if_neg c4] at H
  have c4b0 : decide (a1 ≤ a0) = false := decide_eq_false c4
  clear c4
  obtain rfl := Option.some.inj H
  go_enter Try.func99, Try.ntmps99
  go_wp2
  go_ret
  exact ⟨by first | rfl | (simp; done) | (simp [*]; done), by repeat (first | exact Drawn0.refl _ | apply Drawn0.step)⟩

/-! ### spec_l8Leaf: function 175 -/
def spec_l8Leaf.f (a0 : Int) : Option (Bool) := (spec_l1In.f a0 100 103).bind fun t172 => (if t172 = true then (some true) else ((spec_l1In.f a0 200 212).bind fun t173 => (if t173 = true then (some true) else ((spec_l1In.f a0 300 312).bind fun t174 => (if t174 = true then (some true) else (some (a0 == 400)))))))
set_option maxHeartbeats 8000000 in
set_option maxRecDepth 100000 in
theorem spec_l8Leaf.calls (a0 : Int) (r : Bool) (w : World) (h : spec_l8Leaf.f a0 = some r) :
  Calls Try.prog 175 #[.int .i64 a0] w fun e w' => e = .returned (.bool r) ∧ Drawn0 w w' := by
 have H : ((spec_l1In.f a0 100 103).bind fun t172 => (if t172 = true then (some true) else ((spec_l1In.f a0 200 212).bind fun t173 => (if t173 = true then (some true) else ((spec_l1In.f a0 300 312).bind fun t174 => (if t174 = true then (some true) else (some (a0 == 400)))))))) = some r := h
 clear h
 replace H := Qc.mp H
 obtain ⟨t172, A20, H⟩ := H
 have A2 := Qb A20
 clear A20
 by_cases c3 : t172 = true
 ·subst c3
  rw [if_pos rfl] at H
  obtain rfl := Option.some.inj H
  go_enter Try.func175, Try.ntmps175
  go_wp2_with (first | ((with_reducible refine QR (f := 99) rfl ?_); refine goesL_ (some 4) rfl rfl Try.func99 (by kernel_rfl) rfl #[.int .i64 a0, .int .i64 100, .int .i64 103] rfl (by (try simp only [List.map_toArray, List.map_cons, List.map_nil]); first | done | rfl | (simp only [List.length_drop, List.length_take]; rfl)) ?_; (with_reducible refine (spec_l1In.calls a0 100 103 true _ A2.out).mono ?_); rintro e w' ⟨rfl, ⟨nd, rfl⟩⟩; refine ⟨_, rfl, ?_⟩))
  go_ret
  exact ⟨by first | rfl | (simp; done) | (simp [*]; done), by repeat (first | exact Drawn0.refl _ | apply Drawn0.step)⟩
 ·replace c3 := Bool.eq_false_iff.mpr c3
  subst c3
  rw [if_neg (show ¬ (false = true) by decide)] at H
  replace H := Qc.mp H
  obtain ⟨t173, A40, H⟩ := H
  have A4 := Qb A40
  clear A40
  by_cases c5 : t173 = true
  ·subst c5
   rw [if_pos rfl] at H
   obtain rfl := Option.some.inj H
   go_enter Try.func175, Try.ntmps175
   go_wp2_with (first | ((with_reducible refine QR (f := 99) rfl ?_); refine goesL_ (some 4) rfl rfl Try.func99 (by kernel_rfl) rfl #[.int .i64 a0, .int .i64 100, .int .i64 103] rfl (by (try simp only [List.map_toArray, List.map_cons, List.map_nil]); first | done | rfl | (simp only [List.length_drop, List.length_take]; rfl)) ?_; (with_reducible refine (spec_l1In.calls a0 100 103 false _ A2.out).mono ?_); rintro e w' ⟨rfl, ⟨nd, rfl⟩⟩; refine ⟨_, rfl, ?_⟩) | (go_at_call 99; (with_reducible refine (spec_l1In.calls a0 200 212 true _ A4.out).mono ?_); rintro e w' ⟨rfl, ⟨nd, rfl⟩⟩))
   go_ret
   exact ⟨by first | rfl | (simp; done) | (simp [*]; done), by repeat (first | exact Drawn0.refl _ | apply Drawn0.step)⟩
  ·replace c5 := Bool.eq_false_iff.mpr c5
   subst c5
   rw [if_neg (show ¬ (false = true) by decide)] at H
   replace H := Qc.mp H
   obtain ⟨t174, A60, H⟩ := H
   have A6 := Qb A60
   clear A60
   by_cases c7 : t174 = true
   ·subst c7
    rw [if_pos rfl] at H
    obtain rfl := Option.some.inj H
    go_enter Try.func175, Try.ntmps175
    go_wp2_with (first | ((with_reducible refine QR (f := 99) rfl ?_); refine goesL_ (some 4) rfl rfl Try.func99 (by kernel_rfl) rfl #[.int .i64 a0, .int .i64 100, .int .i64 103] rfl (by (try simp only [List.map_toArray, List.map_cons, List.map_nil]); first | done | rfl | (simp only [List.length_drop, List.length_take]; rfl)) ?_; (with_reducible refine (spec_l1In.calls a0 100 103 false _ A2.out).mono ?_); rintro e w' ⟨rfl, ⟨nd, rfl⟩⟩; refine ⟨_, rfl, ?_⟩) | (go_at_call 99; (with_reducible refine (spec_l1In.calls a0 200 212 false _ A4.out).mono ?_); rintro e w' ⟨rfl, ⟨nd, rfl⟩⟩) | (go_at_call 99; (with_reducible refine (spec_l1In.calls a0 300 312 true _ A6.out).mono ?_); rintro e w' ⟨rfl, ⟨nd, rfl⟩⟩))
    go_ret
    exact ⟨by first | rfl | (simp; done) | (simp [*]; done), by repeat (first | exact Drawn0.refl _ | apply Drawn0.step)⟩
   ·replace c7 := Bool.eq_false_iff.mpr c7
    subst c7
    rw [if_neg (show ¬ (false = true) by decide)] at H
    obtain rfl := Option.some.inj H
    go_enter Try.func175, Try.ntmps175
    go_wp2_with (first | ((with_reducible refine QR (f := 99) rfl ?_); refine goesL_ (some 4) rfl rfl Try.func99 (by kernel_rfl) rfl #[.int .i64 a0, .int .i64 100, .int .i64 103] rfl (by (try simp only [List.map_toArray, List.map_cons, List.map_nil]); first | done | rfl | (simp only [List.length_drop, List.length_take]; rfl)) ?_; (with_reducible refine (spec_l1In.calls a0 100 103 false _ A2.out).mono ?_); rintro e w' ⟨rfl, ⟨nd, rfl⟩⟩; refine ⟨_, rfl, ?_⟩) | (go_at_call 99; (with_reducible refine (spec_l1In.calls a0 200 212 false _ A4.out).mono ?_); rintro e w' ⟨rfl, ⟨nd, rfl⟩⟩) | (go_at_call 99; (with_reducible refine (spec_l1In.calls a0 300 312 false _ A6.out).mono ?_); rintro e w' ⟨rfl, ⟨nd, rfl⟩⟩))
    go_ret
    exact ⟨by first | rfl | (simp; done) | (simp [*]; done), by repeat (first | exact Drawn0.refl _ | apply Drawn0.step)⟩

end Go.Proofs.Ytkhgeockdjjhmaa.QFnExactPlayable
