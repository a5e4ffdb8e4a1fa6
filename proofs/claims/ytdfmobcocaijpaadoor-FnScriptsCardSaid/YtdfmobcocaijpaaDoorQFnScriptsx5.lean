/- What a call of each Go function that FnScripts reaches comes to, as a Lean function: texts of the kit's print, turned by wip/remake.py. No condition beyond what each names. -/
import Derived.Test.YtdfmobcocaijpaaDoorQFnScriptsx4
namespace Go.Proofs.YtdfmobcocaijpaaDoor.QFnScripts
open Go.RowKit Go.Proofs.YtdfmobcocaijpaaDoorW.PrintWords Go.Proofs.YtdfmobcocaijpaaDoorW.PrintLast Go.Proofs.YtdfmobcocaijpaaDoorW.PrintMore
open Go.Proofs.YtdfmobcocaijpaaDoorW.PrintWords renaming pw_below_drewN → QB, below_drew1 → QC, below_alloc → QD, below_set → QG, below_step → QM
open Go.Proofs.YtdfmobcocaijpaaDoorW.PrintLast renaming i64_w → QE, i32_w → QF, any_of → QH, pure_ → QL
open Go.Proofs.YtdfmobcocaijpaaDoorW.PrintWords.Kd renaming R_alloc → QI, R_drewN → QJ, R_drew → QK
open List renaming setIfInBounds_toArray → QN, set_cons_zero → QO, set_cons_succ → QP
open Go.Proofs.YtdfmobcocaijpaaDoorW.PrintWords.Aside0 renaming mk → QR
attribute [local go_sem] max2_int min2_int max_two min_two max_three min_three max_four min_four   -- for this text's walks alone
set_option linter.unusedVariables false
set_option linter.unusedSimpArgs false

/-! ### spec_PatternText: function 68 -/
def spec_PatternText.l0 : Nat → List Int → List ByteArray → Int → Option (ByteArray)
 | 0,_,_,_ => none
 | k + 1,x0,x3,x4 => if x4 < (x0.length : Int) then (if 0 ≤ x4 then (if (rd x0 x4) = (-1) then (if 0 ≤ (wrap64 ((x3.length : Int) - 1)) then (if (wrap64 ((x3.length : Int) - 1)) < (x3.length : Int) then (if 1 + (rdOf ByteArray.empty x3 (wrap64 ((x3.length : Int) - 1))).size ≤ 9223372036854775807 then (spec_PatternText.l0 k x0 (x3.set ((wrap64 ((x3.length : Int) - 1)) : Int).toNat ((⟨#[33]⟩ : ByteArray) ++ (rdOf ByteArray.empty x3 (wrap64 ((x3.length : Int) - 1))))) (wrap64 (x4 + 1))) else (none)) else (none)) else (none)) else (if (rd x0 x4) = (-2) then (if 0 ≤ (wrap64 ((x3.length : Int) - 2)) then (if (wrap64 ((x3.length : Int) - 2)) < (x3.length : Int) then (if 1 + (rdOf ByteArray.empty x3 (wrap64 ((x3.length : Int) - 2))).size ≤ 9223372036854775807 then (if ((⟨#[40]⟩ : ByteArray) ++ (rdOf ByteArray.empty x3 (wrap64 ((x3.length : Int) - 2)))).size + 1 ≤ 9223372036854775807 then (if 0 ≤ (wrap64 ((x3.length : Int) - 1)) then (if (wrap64 ((x3.length : Int) - 1)) < (x3.length : Int) then (if (((⟨#[40]⟩ : ByteArray) ++ (rdOf ByteArray.empty x3 (wrap64 ((x3.length : Int) - 2)))) ++ (⟨#[38]⟩ : ByteArray)).size + (rdOf ByteArray.empty x3 (wrap64 ((x3.length : Int) - 1))).size ≤ 9223372036854775807 then (if ((((⟨#[40]⟩ : ByteArray) ++ (rdOf ByteArray.empty x3 (wrap64 ((x3.length : Int) - 2)))) ++ (⟨#[38]⟩ : ByteArray)) ++ (rdOf ByteArray.empty x3 (wrap64 ((x3.length : Int) - 1)))).size + 1 ≤ 9223372036854775807 then (if (wrap64 ((x3.length : Int) - 2)) ≤ (x3.length : Int) then ((some (x3.take ((wrap64 ((x3.length : Int) - 2)) : Int).toNat : List ByteArray)).bind fun y529 => (if y529.length < 8796093022208 then (spec_PatternText.l0 k x0 (y529 ++ [((((⟨#[40]⟩ : ByteArray) ++ (rdOf ByteArray.empty x3 (wrap64 ((x3.length : Int) - 2)))) ++ (⟨#[38]⟩ : ByteArray)) ++ (rdOf ByteArray.empty x3 (wrap64 ((x3.length : Int) - 1)))) ++ (⟨#[41]⟩ : ByteArray)]) (wrap64 (x4 + 1))) else (none))) else (none)) else (none)) else (none)) else (none)) else (none)) else (none)) else (none)) else (none)) else (none)) else (if (rd x0 x4) = (-3) then (if 0 ≤ (wrap64 ((x3.length : Int) - 2)) then (if (wrap64 ((x3.length : Int) - 2)) < (x3.length : Int) then (if 1 + (rdOf ByteArray.empty x3 (wrap64 ((x3.length : Int) - 2))).size ≤ 9223372036854775807 then (if ((⟨#[40]⟩ : ByteArray) ++ (rdOf ByteArray.empty x3 (wrap64 ((x3.length : Int) - 2)))).size + 1 ≤ 9223372036854775807 then (if 0 ≤ (wrap64 ((x3.length : Int) - 1)) then (if (wrap64 ((x3.length : Int) - 1)) < (x3.length : Int) then (if (((⟨#[40]⟩ : ByteArray) ++ (rdOf ByteArray.empty x3 (wrap64 ((x3.length : Int) - 2)))) ++ (⟨#[124]⟩ : ByteArray)).size + (rdOf ByteArray.empty x3 (wrap64 ((x3.length : Int) - 1))).size ≤ 9223372036854775807 then (if ((((⟨#[40]⟩ : ByteArray) ++ (rdOf ByteArray.empty x3 (wrap64 ((x3.length : Int) - 2)))) ++ (⟨#[124]⟩ : ByteArray)) ++ (rdOf ByteArray.empty x3 (wrap64 ((x3.length : Int) - 1)))).size + 1 ≤ 9223372036854775807 then (if (wrap64 ((x3.length : Int) - 2)) ≤ (x3.length : Int) then ((some (x3.take ((wrap64 ((x3.length : Int) - 2)) : Int).toNat : List ByteArray)).bind fun y537 => (if y537.length < 8796093022208 then (spec_PatternText.l0 k x0 (y537 ++ [((((⟨#[40]⟩ : ByteArray) ++ (rdOf ByteArray.empty x3 (wrap64 ((x3.length : Int) - 2)))) ++ (⟨#[124]⟩ : ByteArray)) ++ (rdOf ByteArray.empty x3 (wrap64 ((x3.length : Int) - 1)))) ++ (⟨#[41]⟩ : ByteArray)]) (wrap64 (x4 + 1))) else (none))) else (none)) else (none)) else (none)) else (none)) else (none)) else (none)) else (none)) else (none)) else (none)) else ((spec_l9Leaf.f (rd x0 x4)).bind fun t544 => (if x3.length < 8796093022208 then (spec_PatternText.l0 k x0 (x3 ++ [t544]) (wrap64 (x4 + 1))) else (none)))))) else (none)) else (if 0 < (x3.length : Int) then (some (rdOf ByteArray.empty x3 0)) else (none))
def spec_PatternText.f (k : Nat) (l0 : List Int) : Option (ByteArray) := (spec_IsPattern.f k l0).bind fun t519 => (if t519 = true then (spec_PatternText.l0 k l0 (([] : List ByteArray)) 0) else (some (⟨#[]⟩ : ByteArray)))
theorem spec_PatternText.mono_l : ∀ k, (∀ y0 y1 y2, LeO (spec_PatternText.l0 k y0 y1 y2) (spec_PatternText.l0 (k + 1) y0 y1 y2))
 | 0 => fun _ _ _ r h => by simp [spec_PatternText.l0] at h
 | k + 1 => by
  have ih0 := spec_PatternText.mono_l k
  ·intro y0 y1 y2
   unfold spec_PatternText.l0
   repeat' first
   | (with_reducible exact ih0 _ _ _)
   | (with_reducible exact spec_IsPattern.mono _ _)
   | (with_reducible exact LeO.refl _)
   | (with_reducible exact LeO.none _)
   | (with_reducible refine LeO.ite ?_ ?_)
   | (with_reducible refine LeO.bind ?_ (fun _ => ?_))
   | exact ih0 _ _ _
   | exact spec_IsPattern.mono _ _
   | exact LeO.none _
   | refine LeO.ite ?_ ?_
   | refine LeO.bind ?_ (fun _ => ?_)
theorem spec_PatternText.mono : ∀ a0 k, LeO (spec_PatternText.f k a0) (spec_PatternText.f (k + 1) a0) := by
 intro a0 k
 have ih0 := spec_PatternText.mono_l k
 unfold spec_PatternText.f
 repeat' first
   | (with_reducible exact ih0 _ _ _)
   | (with_reducible exact spec_IsPattern.mono _ _)
   | (with_reducible exact LeO.refl _)
   | (with_reducible exact LeO.none _)
   | (with_reducible refine LeO.ite ?_ ?_)
   | (with_reducible refine LeO.bind ?_ (fun _ => ?_))
   | exact ih0 _ _ _
   | exact spec_IsPattern.mono _ _
   | exact LeO.none _
   | refine LeO.ite ?_ ?_
   | refine LeO.bind ?_ (fun _ => ?_)
def spec_PatternText.T13 : Bool × List (List Nat × List Nat) := (true, [([], []), ([], []), ([1], [1]), ([0, 2], [0, 2]), ([], []), ([], []), ([5], [5]), ([4, 6], [4, 6]), ([7], [7]), ([8], [8]), ([9], [9]), ([], []), ([], []), ([12], [12]), ([11, 13], [11, 13]), ([14], [14]), ([10, 15], [10, 15]), ([16], [16]), ([17], [17]), ([3, 18], [3, 18]), ([19, 19, 0, 1, 2, 3, 4, 5, 6, 7, 8, 9, 10, 11, 12, 13, 14, 15, 16, 17, 18, 19], [0, 4, 11, 19])])
def spec_PatternText.B13 : List Nat := [0, 0, 2, 7, 0, 0, 32, 112, 240, 496, 1008, 0, 0, 4096, 14336, 30720, 65520, 131056, 262128, 524287, 1048575]
theorem spec_PatternText.tab13 : rtab .any (opsOf Tryd.f68 13) = spec_PatternText.T13 := by kernel_rfl
theorem spec_PatternText.bits13 : waitsOk spec_PatternText.T13.2 spec_PatternText.B13 = true := by kernel_rfl
def spec_PatternText.T15 : Bool × List (List Nat × List Nat) := (true, [([], []), ([], []), ([1], [1]), ([0, 2], [0, 2]), ([], []), ([], []), ([5], [5]), ([4, 6], [4, 6]), ([7], [7]), ([8], [8]), ([9], [9]), ([], []), ([], []), ([12], [12]), ([11, 13], [11, 13]), ([14], [14]), ([10, 15], [10, 15]), ([16], [16]), ([17], [17]), ([3, 18], [3, 18]), ([19, 19, 0, 1, 2, 3, 4, 5, 6, 7, 8, 9, 10, 11, 12, 13, 14, 15, 16, 17, 18, 19], [0, 4, 11, 19])])
def spec_PatternText.B15 : List Nat := [0, 0, 2, 7, 0, 0, 32, 112, 240, 496, 1008, 0, 0, 4096, 14336, 30720, 65520, 131056, 262128, 524287, 1048575]
theorem spec_PatternText.tab15 : rtab .any (opsOf Tryd.f68 15) = spec_PatternText.T15 := by kernel_rfl
theorem spec_PatternText.bits15 : waitsOk spec_PatternText.T15.2 spec_PatternText.B15 = true := by kernel_rfl
set_option maxHeartbeats 8000000 in
set_option maxRecDepth 100000 in
theorem spec_PatternText.calls (k : Nat) (A0 : Option Addr) (c0 : Nat) (l0 : List Int) (r : ByteArray) (w : World) (hr0 : Kd.C (Kd.int .i64) w A0 l0.length l0) (hc0 : l0.length ≤ c0) (h : spec_PatternText.f k l0 = some r) :
  Calls Tryd.prog 68 #[.slice A0 l0.length c0] w fun e w' => e = .returned (.string r) ∧ Below w.heap.size w w' := by
 have HR0 := QR hr0
 have HC0 := QR hc0
 clear hr0 hc0
 have HB := QR (Below.refl w.heap.size w)
 have H : ((spec_IsPattern.f k l0).bind fun t519 => (if t519 = true then (spec_PatternText.l0 k l0 (([] : List ByteArray)) 0) else (some (⟨#[]⟩ : ByteArray)))) = some r := h
 clear h
 replace H := Option.bind_eq_some_iff.mp H
 obtain ⟨t519,A20,H⟩ := H
 have A2 := QR A20
 clear A20
 by_cases c3 : t519 = true
 ·subst c3
  rw [if_pos rfl] at H
  obtain ⟨y520,hy520⟩ : ∃ y_ : List ByteArray,y_ = (([] : List ByteArray)) := ⟨_,rfl⟩
  replace H : (spec_PatternText.l0 k l0 y520 0) = some r := by first | (rw [hy520]; with_reducible exact H) | (have H2_ := (Option.bind_some _ _).symm.trans H; rw [hy520]; with_reducible exact H2_) | (have H2_ := (Option.bind_some _ _).symm.trans H; with_reducible exact H2_) | with_reducible exact H | (rw [hy520]; exact H) | exact H
  have Ny520 := QR hy520
  clear hy520
  have H' := QR H
  clear H
  go_enter Tryd.func68,Tryd.ntmps68
  go_wp2_with (first | ((with_reducible refine gate_callee (f := 84) rfl ?_); refine goesL_ (some 7) rfl rfl Tryd.func84 (by kernel_rfl) rfl #[.slice A0 l0.length c0] rfl (by (try simp only [List.map_toArray,List.map_cons,List.map_nil]); first | done | rfl | (simp only [List.length_drop,List.length_take]; rfl)) ?_; (with_reducible refine (spec_IsPattern.calls k _ _ l0 true _ ?side1 ?side2 A2.out).mono ?_); (case side1 => repeat (first | exact HR0.out | (with_reducible refine Kd.C_alloc ?_ _) | (with_reducible refine Kd.C_drewN ?_ _) | (with_reducible refine Kd.C_drew ?_))); (case side2 => exact HC0.out); rintro e w' ⟨rfl,⟨nd,rfl⟩⟩; refine ⟨_,rfl,?_⟩) | ((with_reducible refine gate_dst (N := 9) rfl ?_); refine Kd.R_lit Kd.string _ 9 ?hg (N := 9) ?hd (xs := ([] : List ByteArray)) (inner := []) (ok := fun _ => True) (okp := fun _ => True) ?hr ?hp (fun _ hk => hk) trivial (Below.refl _ _) (Nat.le_refl _) (by simp) ?_; (case hd => rfl); (case hg => rfl); (case hr => first | (go_simp; done) | (go_simp; rfl)); (case hp => exact (Reps.none _ _)); intro v521 w4 ho5 hb hg_ hnew_; clear hg_ hnew_; (first | rw [← Ny520.out] at ho5 | (simp only [Int.reduceToNat] at ho5; rw [← Ny520.out] at ho5)); have n0_ := QR (Kd.R_lower ho5 (below_size (by repeat (first | (with_reducible first | exact HB.out | apply QD | apply QB | apply QC) | exact HB.out)))); have n1_ := QR (QM (by repeat (first | (with_reducible first | exact HB.out | apply QD | apply QB | apply QC) | exact HB.out)) hb); clear HB; revert n0_ n1_; intro HO522 HB; clear hb ho5))
  go_loopg [3,4] k (fun kq v3 v4 w' => ∃ (x3_1 : List ByteArray) (x4_1 : Int),v4 = .int .i64 x4_1 ∧ Aside0 (spec_PatternText.l0 kq l0 x3_1 x4_1 = some r) ∧ Aside0 (kq ≤ k) ∧ Aside0 (Kd.R Kd.string 9 w' w.heap.size (fun _ => True) v3 x3_1) ∧ Aside0 (Below w.heap.size w w'))
  case atStart => exact ⟨(y520),(0),(by first | rfl | (simp; done) | (simp [*]; done)),H',⟨Nat.le_refl _⟩,⟨by (with_reducible repeat (first | apply QI | apply QJ | apply QK)); exact HO522.out⟩,⟨by repeat (first | (with_reducible first | exact HB.out | apply QD | apply QB | apply QC) | exact HB.out)⟩⟩
  case round =>
   clear H'
   try clear c3
   obtain ⟨x3_1,x4_1,rfl,HA,HK1,HO_3,HB⟩ := hrel
   cases gk with
   | zero => exact absurd HA.out (by simp [spec_PatternText.l0])
   | succ k1 =>
    have H := HA.out
    clear HA
    simp only [spec_PatternText.l0] at H
    by_cases c6 : x4_1 < (l0.length : Int)
    ·rw [if_pos c6] at H
     have c6b0 : decide (x4_1 < (l0.length : Int)) = true := decide_eq_true c6
     clear c6
     by_cases c7 : 0 ≤ x4_1
     ·rw [if_pos c7] at H
      have c7b0 : decide (0 ≤ x4_1) = true := decide_eq_true c7
      clear c7
      by_cases c8 : (rd l0 x4_1) = (-1)
      ·rw [if_pos c8] at H
       have c8b0 : ((rd l0 x4_1) == (-1)) = true := beq_iff_eq.mpr c8
       have c8b1 : ((rd l0 x4_1) != (-1)) = false := bne_eq_false_iff_eq.mpr c8
       clear c8
       obtain ⟨ji9,hji9⟩ : ∃ j_ : Int,(wrap64 ((x3_1.length : Int) - 1)) = j_ := ⟨_,rfl⟩
       replace H : (if 0 ≤ (ji9) then (if (ji9) < (x3_1.length : Int) then (if 1 + (rdOf ByteArray.empty x3_1 (ji9)).size ≤ 9223372036854775807 then (spec_PatternText.l0 k1 l0 (x3_1.set ((ji9) : Int).toNat ((⟨#[33]⟩ : ByteArray) ++ (rdOf ByteArray.empty x3_1 (ji9)))) (wrap64 (x4_1 + 1))) else (none)) else (none)) else (none)) = some r := by first | (rw [hji9] at H; exact H) | (simp only [hji9] at H ⊢; exact H)
       have hji9w : (IntKind.i64.wrap ((x3_1.length : Int) - 1)) = ji9 := (QE _).trans hji9
       by_cases c10 : 0 ≤ (ji9)
       ·rw [if_pos c10] at H
        have c10b0 : decide (0 ≤ (ji9)) = true := decide_eq_true c10
        clear c10
        by_cases c11 : (ji9) < (x3_1.length : Int)
        ·rw [if_pos c11] at H
         have c11b0 : decide ((ji9) < (x3_1.length : Int)) = true := decide_eq_true c11
         clear c11
         by_cases c12 : 1 + (rdOf ByteArray.empty x3_1 (ji9)).size ≤ 9223372036854775807
         ·rw [if_pos c12] at H
          have c12b0 := eq_true c12
          have c12b1 : decide (1 + (rdOf ByteArray.empty x3_1 (ji9)).size ≤ 9223372036854775807) = true := decide_eq_true c12
          try have c12b2 : (9223372036854775807 < 1 + (rdOf ByteArray.empty x3_1 (ji9)).size) = False := eq_false (Nat.not_lt.2 c12)
          obtain ⟨y526,hy526⟩ : ∃ y_ : List ByteArray,y_ = (x3_1.set ((ji9) : Int).toNat ((⟨#[33]⟩ : ByteArray) ++ (rdOf ByteArray.empty x3_1 (ji9)))) := ⟨_,rfl⟩
          replace H : (spec_PatternText.l0 k1 l0 y526 (wrap64 (x4_1 + 1))) = some r := by first | (rw [hy526]; with_reducible exact H) | (have H2_ := (Option.bind_some _ _).symm.trans H; rw [hy526]; with_reducible exact H2_) | (have H2_ := (Option.bind_some _ _).symm.trans H; with_reducible exact H2_) | with_reducible exact H | (rw [hy526]; exact H) | exact H
          have Ny526 := QR hy526
          clear hy526
          have H' := QR H
          clear H
          obtain ⟨Ao14,co14,eo14⟩ := Kd.R_slice HO_3.out
          subst eo14
          have p524 : 0 ≤ (x4_1 : Int) := of_decide_eq_true (by first | (with_reducible assumption) | assumption)
          have q524 : x4_1 < (l0.length : Int) := of_decide_eq_true (by first | (with_reducible assumption) | assumption)
          obtain ⟨ad524,e524,hx524_0⟩ := Kd.at_int HR0.out x4_1 p524 q524
          cases e524
          replace hx524_0 := (HB.out.cell (World.block_lt_of_cell? w _ hx524_0)).trans hx524_0
          replace p524 := eq_true p524
          replace q524 := eq_true q524
          have p525 : 0 ≤ ((ji9) : Int) := of_decide_eq_true (by first | (with_reducible assumption) | assumption)
          have q525 : (ji9) < (x3_1.length : Int) := of_decide_eq_true (by first | (with_reducible assumption) | assumption)
          obtain ⟨ad525,e525,hx525_0⟩ := Kd.at_string (Kd.R_reads' HO_3.out).2.2 (ji9) p525 q525
          cases e525
          replace p525 := eq_true p525
          replace q525 := eq_true q525
          have p13 : 0 ≤ ((ji9) : Int) := of_decide_eq_true (by first | (with_reducible assumption) | assumption)
          have q13 : ((ji9) : Int) < ((x3_1.length : Int) : Int) := of_decide_eq_true (by first | (with_reducible assumption) | assumption)
          obtain ⟨go13,co13,eo13,gb13,gl13,cl13,HG13⟩ := Kd.R_form HO_3.out (by omega)
          (first | cases eo13 | (injection eo13 with ea_ en_ ec_; (first | subst ea_ | (injection ea_ with ea_; subst ea_)); subst ec_; clear en_))
          have GB13 := QR gb13
          have GG13 := QR HG13
          clear gb13 gl13 HG13
          (first | simp only [add_plain] at hx525_0 | skip)
          obtain ⟨hx13_0,hf13_0⟩ := Kd.R_celln (⟨#[]⟩ : ByteArray) HO_3.out ((ji9) : Int) p13 q13
          replace p13 := eq_true p13
          replace q13 := eq_true q13
          have HP15 := Kd.R_putg HO_3.out ((ji9) : Int) ((⟨#[33]⟩ : ByteArray) ++ (rdOf ByteArray.empty x3_1 (ji9)))
          go_wp2_with (first | ((with_reducible refine gate_store (t := 9) (p := 41) rfl ?_); refine store_event (t := 9) (p := 41) (v := ?vo_w16) (w1 := (wr.setCell ⟨go13,((ji9) : Int).toNat,none⟩ (.string ((⟨#[33]⟩ : ByteArray) ++ (rdOf ByteArray.empty x3_1 (ji9)))))) ?hg ?ho ?hn ?hr ?_; (case ho => rfl); (case hg => rfl); (case hn => rfl); (case hr => first | (go_simp; done) | (go_simp; rfl)); intro w16 hw; have hg : wr.grownBy w16 (some go13) := (by rw [hw]; exact HP15.2); have hp_ : Kd.R Kd.string 9 w16 w.heap.size (fun _ => True) (.slice (some ⟨go13,0,none⟩) x3_1.length co14) y526 := (by rw [hw,Ny526.out]; exact HP15.1); clear HP15; have n0_ := QR (hp_); have n1_ := QR ((by rw [hw]; exact QG (HB.out) GB13.out : Below w.heap.size w w16)); clear HO_3; clear HB; revert n0_ n1_; intro HO_3 HB; clear hg hw hp_))
          go_roundg k1
          case measure => have := HK1.out; omega
          case rel => exact ⟨(y526),(wrap64 (x4_1 + 1)),(by first | rfl | (simp; done) | (simp [*]; done)),H',⟨by have := HK1.out; omega⟩,⟨by (with_reducible repeat (first | apply QI | apply QJ | apply QK)); exact HO_3.out⟩,⟨by repeat (first | (with_reducible first | exact HB.out | apply QD | apply QB | apply QC) | exact HB.out)⟩⟩
         ·rw [if_neg c12] at H
          exact absurd H (by simp)
        ·rw [if_neg c11] at H
         exact absurd H (by simp)
       ·rw [if_neg c10] at H
        exact absurd H (by simp)
      ·rw [if_neg c8] at H
       have c8b0 : ((rd l0 x4_1) == (-1)) = false := beq_eq_false_iff_ne.mpr c8
       have c8b1 : ((rd l0 x4_1) != (-1)) = true := bne_iff_ne.mpr c8
       by_cases c17 : (rd l0 x4_1) = (-2)
       ·rw [if_pos c17] at H
        have c17b0 : ((rd l0 x4_1) == (-2)) = true := beq_iff_eq.mpr c17
        have c17b1 : ((rd l0 x4_1) != (-2)) = false := bne_eq_false_iff_eq.mpr c17
        clear c17
        obtain ⟨ji18,hji18⟩ : ∃ j_ : Int,(wrap64 ((x3_1.length : Int) - 2)) = j_ := ⟨_,rfl⟩
        replace H : (if 0 ≤ (ji18) then (if (ji18) < (x3_1.length : Int) then (if 1 + (rdOf ByteArray.empty x3_1 (ji18)).size ≤ 9223372036854775807 then (if ((⟨#[40]⟩ : ByteArray) ++ (rdOf ByteArray.empty x3_1 (ji18))).size + 1 ≤ 9223372036854775807 then (if 0 ≤ (wrap64 ((x3_1.length : Int) - 1)) then (if (wrap64 ((x3_1.length : Int) - 1)) < (x3_1.length : Int) then (if (((⟨#[40]⟩ : ByteArray) ++ (rdOf ByteArray.empty x3_1 (ji18))) ++ (⟨#[38]⟩ : ByteArray)).size + (rdOf ByteArray.empty x3_1 (wrap64 ((x3_1.length : Int) - 1))).size ≤ 9223372036854775807 then (if ((((⟨#[40]⟩ : ByteArray) ++ (rdOf ByteArray.empty x3_1 (ji18))) ++ (⟨#[38]⟩ : ByteArray)) ++ (rdOf ByteArray.empty x3_1 (wrap64 ((x3_1.length : Int) - 1)))).size + 1 ≤ 9223372036854775807 then (if (ji18) ≤ (x3_1.length : Int) then ((some (x3_1.take ((ji18) : Int).toNat : List ByteArray)).bind fun y529 => (if y529.length < 8796093022208 then (spec_PatternText.l0 k1 l0 (y529 ++ [((((⟨#[40]⟩ : ByteArray) ++ (rdOf ByteArray.empty x3_1 (ji18))) ++ (⟨#[38]⟩ : ByteArray)) ++ (rdOf ByteArray.empty x3_1 (wrap64 ((x3_1.length : Int) - 1)))) ++ (⟨#[41]⟩ : ByteArray)]) (wrap64 (x4_1 + 1))) else (none))) else (none)) else (none)) else (none)) else (none)) else (none)) else (none)) else (none)) else (none)) else (none)) = some r := by first | (rw [hji18] at H; exact H) | (simp only [hji18] at H ⊢; exact H)
        have hji18w : (IntKind.i64.wrap ((x3_1.length : Int) - 2)) = ji18 := (QE _).trans hji18
        by_cases c19 : 0 ≤ (ji18)
        ·rw [if_pos c19] at H
         have c19b0 : decide (0 ≤ (ji18)) = true := decide_eq_true c19
         clear c19
         by_cases c20 : (ji18) < (x3_1.length : Int)
         ·rw [if_pos c20] at H
          have c20b0 : decide ((ji18) < (x3_1.length : Int)) = true := decide_eq_true c20
          clear c20
          by_cases c21 : 1 + (rdOf ByteArray.empty x3_1 (ji18)).size ≤ 9223372036854775807
          ·rw [if_pos c21] at H
           have c21b0 := eq_true c21
           have c21b1 : decide (1 + (rdOf ByteArray.empty x3_1 (ji18)).size ≤ 9223372036854775807) = true := decide_eq_true c21
           try have c21b2 : (9223372036854775807 < 1 + (rdOf ByteArray.empty x3_1 (ji18)).size) = False := eq_false (Nat.not_lt.2 c21)
           by_cases c22 : ((⟨#[40]⟩ : ByteArray) ++ (rdOf ByteArray.empty x3_1 (ji18))).size + 1 ≤ 9223372036854775807
           ·rw [if_pos c22] at H
            have c22b0 := eq_true c22
            have c22b1 : decide (((⟨#[40]⟩ : ByteArray) ++ (rdOf ByteArray.empty x3_1 (ji18))).size + 1 ≤ 9223372036854775807) = true := decide_eq_true c22
            try have c22b2 : (9223372036854775807 < ((⟨#[40]⟩ : ByteArray) ++ (rdOf ByteArray.empty x3_1 (ji18))).size + 1) = False := eq_false (Nat.not_lt.2 c22)
            have c22b3 := c22b2
            (try simp only [ByteArray.size_append,ba_size,List.size_toArray,List.length_cons,List.length_nil,Nat.reduceAdd,Nat.zero_add] at c22b3)
            obtain ⟨ji23,hji23⟩ : ∃ j_ : Int,(wrap64 ((x3_1.length : Int) - 1)) = j_ := ⟨_,rfl⟩
            replace H : (if 0 ≤ (ji23) then (if (ji23) < (x3_1.length : Int) then (if (((⟨#[40]⟩ : ByteArray) ++ (rdOf ByteArray.empty x3_1 (ji18))) ++ (⟨#[38]⟩ : ByteArray)).size + (rdOf ByteArray.empty x3_1 (ji23)).size ≤ 9223372036854775807 then (if ((((⟨#[40]⟩ : ByteArray) ++ (rdOf ByteArray.empty x3_1 (ji18))) ++ (⟨#[38]⟩ : ByteArray)) ++ (rdOf ByteArray.empty x3_1 (ji23))).size + 1 ≤ 9223372036854775807 then (if (ji18) ≤ (x3_1.length : Int) then ((some (x3_1.take ((ji18) : Int).toNat : List ByteArray)).bind fun y529 => (if y529.length < 8796093022208 then (spec_PatternText.l0 k1 l0 (y529 ++ [((((⟨#[40]⟩ : ByteArray) ++ (rdOf ByteArray.empty x3_1 (ji18))) ++ (⟨#[38]⟩ : ByteArray)) ++ (rdOf ByteArray.empty x3_1 (ji23))) ++ (⟨#[41]⟩ : ByteArray)]) (wrap64 (x4_1 + 1))) else (none))) else (none)) else (none)) else (none)) else (none)) else (none)) = some r := by first | (rw [hji23] at H; exact H) | (simp only [hji23] at H ⊢; exact H)
            have hji23w : (IntKind.i64.wrap ((x3_1.length : Int) - 1)) = ji23 := (QE _).trans hji23
            by_cases c24 : 0 ≤ (ji23)
            ·rw [if_pos c24] at H
             have c24b0 : decide (0 ≤ (ji23)) = true := decide_eq_true c24
             clear c24
             by_cases c25 : (ji23) < (x3_1.length : Int)
             ·rw [if_pos c25] at H
              have c25b0 : decide ((ji23) < (x3_1.length : Int)) = true := decide_eq_true c25
              clear c25
              by_cases c26 : (((⟨#[40]⟩ : ByteArray) ++ (rdOf ByteArray.empty x3_1 (ji18))) ++ (⟨#[38]⟩ : ByteArray)).size + (rdOf ByteArray.empty x3_1 (ji23)).size ≤ 9223372036854775807
              ·rw [if_pos c26] at H
               have c26b0 := eq_true c26
               have c26b1 : decide ((((⟨#[40]⟩ : ByteArray) ++ (rdOf ByteArray.empty x3_1 (ji18))) ++ (⟨#[38]⟩ : ByteArray)).size + (rdOf ByteArray.empty x3_1 (ji23)).size ≤ 9223372036854775807) = true := decide_eq_true c26
               try have c26b2 : (9223372036854775807 < (((⟨#[40]⟩ : ByteArray) ++ (rdOf ByteArray.empty x3_1 (ji18))) ++ (⟨#[38]⟩ : ByteArray)).size + (rdOf ByteArray.empty x3_1 (ji23)).size) = False := eq_false (Nat.not_lt.2 c26)
               have c26b3 := c26b2
               (try simp only [ByteArray.size_append,ba_size,List.size_toArray,List.length_cons,List.length_nil,Nat.reduceAdd,Nat.zero_add] at c26b3)
               by_cases c27 : ((((⟨#[40]⟩ : ByteArray) ++ (rdOf ByteArray.empty x3_1 (ji18))) ++ (⟨#[38]⟩ : ByteArray)) ++ (rdOf ByteArray.empty x3_1 (ji23))).size + 1 ≤ 9223372036854775807
               ·rw [if_pos c27] at H
                have c27b0 := eq_true c27
                have c27b1 : decide (((((⟨#[40]⟩ : ByteArray) ++ (rdOf ByteArray.empty x3_1 (ji18))) ++ (⟨#[38]⟩ : ByteArray)) ++ (rdOf ByteArray.empty x3_1 (ji23))).size + 1 ≤ 9223372036854775807) = true := decide_eq_true c27
                try have c27b2 : (9223372036854775807 < ((((⟨#[40]⟩ : ByteArray) ++ (rdOf ByteArray.empty x3_1 (ji18))) ++ (⟨#[38]⟩ : ByteArray)) ++ (rdOf ByteArray.empty x3_1 (ji23))).size + 1) = False := eq_false (Nat.not_lt.2 c27)
                have c27b3 := c27b2
                (try simp only [ByteArray.size_append,ba_size,List.size_toArray,List.length_cons,List.length_nil,Nat.reduceAdd,Nat.zero_add] at c27b3)
                by_cases c28 : (ji18) ≤ (x3_1.length : Int)
                ·rw [if_pos c28] at H
                 have c28b0 := eq_true c28
                 have c28b1 : decide ((ji18) ≤ (x3_1.length : Int)) = true := decide_eq_true c28
                 clear c28
                 obtain ⟨y529,hy529⟩ : ∃ y_ : List ByteArray,y_ = (x3_1.take ((ji18) : Int).toNat) := ⟨_,rfl⟩
                 replace H : (if y529.length < 8796093022208 then (spec_PatternText.l0 k1 l0 (y529 ++ [((((⟨#[40]⟩ : ByteArray) ++ (rdOf ByteArray.empty x3_1 (ji18))) ++ (⟨#[38]⟩ : ByteArray)) ++ (rdOf ByteArray.empty x3_1 (ji23))) ++ (⟨#[41]⟩ : ByteArray)]) (wrap64 (x4_1 + 1))) else (none)) = some r := by first | (rw [hy529]; with_reducible exact H) | (have H2_ := (Option.bind_some _ _).symm.trans H; rw [hy529]; with_reducible exact H2_) | (have H2_ := (Option.bind_some _ _).symm.trans H; with_reducible exact H2_) | with_reducible exact H | (rw [hy529]; exact H) | exact H
                 have Ny529 := QR hy529
                 clear hy529
                 by_cases c29 : y529.length < 8796093022208
                 ·rw [if_pos c29] at H
                  have LMc29 := QR c29
                  clear c29
                  obtain ⟨y532,hy532⟩ : ∃ y_ : List ByteArray,y_ = (y529 ++ [((((⟨#[40]⟩ : ByteArray) ++ (rdOf ByteArray.empty x3_1 (ji18))) ++ (⟨#[38]⟩ : ByteArray)) ++ (rdOf ByteArray.empty x3_1 (ji23))) ++ (⟨#[41]⟩ : ByteArray)]) := ⟨_,rfl⟩
                  replace H : (spec_PatternText.l0 k1 l0 y532 (wrap64 (x4_1 + 1))) = some r := by first | (rw [hy532]; with_reducible exact H) | (have H2_ := (Option.bind_some _ _).symm.trans H; rw [hy532]; with_reducible exact H2_) | (have H2_ := (Option.bind_some _ _).symm.trans H; with_reducible exact H2_) | with_reducible exact H | (rw [hy532]; exact H) | exact H
                  have Ny532 := QR hy532
                  clear hy532
                  have H' := QR H
                  clear H
                  obtain ⟨Ao30,co30,eo30⟩ := Kd.R_slice HO_3.out
                  subst eo30
                  have p524 : 0 ≤ (x4_1 : Int) := of_decide_eq_true (by first | (with_reducible assumption) | assumption)
                  have q524 : x4_1 < (l0.length : Int) := of_decide_eq_true (by first | (with_reducible assumption) | assumption)
                  obtain ⟨ad524,e524,hx524_0⟩ := Kd.at_int HR0.out x4_1 p524 q524
                  cases e524
                  replace hx524_0 := (HB.out.cell (World.block_lt_of_cell? w _ hx524_0)).trans hx524_0
                  replace p524 := eq_true p524
                  replace q524 := eq_true q524
                  try go_wp2
                  have n0_ := QR (QK HO_3.out)
                  have n1_ := QR (QC HB.out)
                  clear HO_3
                  clear HB
                  revert n0_ n1_
                  intro HO_3 HB
                  have p527 : 0 ≤ ((ji18) : Int) := of_decide_eq_true (by first | (with_reducible assumption) | assumption)
                  have q527 : (ji18) < (x3_1.length : Int) := of_decide_eq_true (by first | (with_reducible assumption) | assumption)
                  obtain ⟨ad527,e527,hx527_0⟩ := Kd.at_string (Kd.R_reads' HO_3.out).2.2 (ji18) p527 q527
                  cases e527
                  replace p527 := eq_true p527
                  replace q527 := eq_true q527
                  have p528 : 0 ≤ ((ji23) : Int) := of_decide_eq_true (by first | (with_reducible assumption) | assumption)
                  have q528 : (ji23) < (x3_1.length : Int) := of_decide_eq_true (by first | (with_reducible assumption) | assumption)
                  obtain ⟨ad528,e528,hx528_0⟩ := Kd.at_string (Kd.R_reads' HO_3.out).2.2 (ji23) p528 q528
                  obtain rfl : ad527 = ad528 := (by injection e528)
                  replace p528 := eq_true p528
                  replace q528 := eq_true q528
                  have q32 : ((ji18) : Int) ≤ ((x3_1.length : Int) : Int) := of_decide_eq_true (by first | (with_reducible assumption) | assumption)
                  obtain ⟨i032,hi032,_,hsz32,_⟩ := info_parts info9
                  have hcut32 := cut_to (P := Tryd.prog) 36 9 .i64 Tryd.underlying36 hi032 (some ad527) x3_1.length co30 (ji18) (of_decide_eq_true (by first | (with_reducible assumption) | assumption)) q32 (Kd.R_reads' HO_3.out).2.1
                  have hr32 := Kd.R_take (m := ((ji18) : Int).toNat) HO_3.out (by omega)
                  have hy32 : y529.length = ((ji18) : Int).toNat := (by rw [Ny529.out,List.length_take]; omega)
                  rw [← Ny529.out] at hr32
                  rw [← hy32] at hr32 hcut32
                  clear hy32 hi032 hsz32 HO_3
                  have HO531 := QR hr32
                  clear hr32
                  replace q32 := eq_true q32
                  refine start_ (n := 21) (S := fun w' => w'.cell? (ad527.add ((ji18)).toNat) = some (.string (rdOf ByteArray.empty x3_1 (ji18))) ∧ w'.cell? (ad527.add ((ji23)).toNat) = some (.string (rdOf ByteArray.empty x3_1 (ji23)))) (ds := [18,19]) (ab 21 0) (by kernel_rfl) rfl rfl ⟨hx527_0,hx528_0⟩ (fun hHeld => ?_); refine with_tabW spec_PatternText.tab13 spec_PatternText.bits13 (fun HT_ HW_ => ?_)
                  generalize wr.drew = w31 at HB HO531 hx527_0 hx528_0 hHeld ⊢
                  refine QL (i := 0) (N := some 44) (v := ?_) (a' := ?_) (ab 21 1) rfl rfl (QH HT_.out (by kernel_rfl)) (fun _ _ _ h => h) (Or.inl ⟨by rfl,?_⟩) ?_ ?_
                  rotate_left
                  ·intro w'
                   go_simp
                   with_reducible rfl
                  rotate_left
                  ·simp only [Act.put,QN,QO,QP,QE,QF]
                   rfl
                  refine QL (i := 1) (N := some 45) (v := ?_) (a' := ?_) (ab 21 3) rfl rfl (QH HT_.out (by kernel_rfl)) (fun _ _ _ h => h) (Or.inl ⟨by rfl,?_⟩) ?_ ?_
                  rotate_left
                  ·intro w'
                   go_simp
                   with_reducible rfl
                  rotate_left
                  ·simp only [Act.put,QN,QO,QP,QE,QF]
                   rfl
                  refine QL (i := 2) (N := some 46) (v := ?_) (a' := ?_) (ab 21 7) rfl rfl (QH HT_.out (by kernel_rfl)) (fun _ _ _ h => h) (Or.inl ⟨by rfl,?_⟩) ?_ ?_
                  rotate_left
                  ·intro w'
                   go_simp
                   with_reducible rfl
                  rotate_left
                  ·simp only [Act.put,QN,QO,QP,QE,QF]
                   rfl
                  refine QL (i := 4) (N := some 48) (v := ?_) (a' := ?_) (ab 21 23) rfl rfl (QH HT_.out (by kernel_rfl)) (fun _ _ _ h => h) (Or.inl ⟨by rfl,?_⟩) ?_ ?_
                  rotate_left
                  ·intro w'
                   go_simp
                   with_reducible rfl
                  rotate_left
                  ·simp only [Act.put,QN,QO,QP,QE,QF]
                   rfl
                  refine QL (i := 5) (N := some 49) (v := ?_) (a' := ?_) (ab 21 55) rfl rfl (QH HT_.out (by kernel_rfl)) (fun _ _ _ h => h) (Or.inl ⟨by rfl,?_⟩) ?_ ?_
                  rotate_left
                  ·intro w'
                   go_simp
                   with_reducible rfl
                  rotate_left
                  ·simp only [Act.put,QN,QO,QP,QE,QF]
                   rfl
                  refine QL (i := 6) (N := some 50) (v := ?_) (a' := ?_) (ab 21 119) rfl rfl (QH HT_.out (by kernel_rfl)) (fun _ _ _ h => h) (Or.inl ⟨by rfl,?_⟩) ?_ ?_
                  rotate_left
                  ·intro w'
                   go_simp
                   with_reducible rfl
                  rotate_left
                  ·simp only [Act.put,QN,QO,QP,QE,QF]
                   rfl
                  refine QL (i := 7) (N := some 51) (v := ?_) (a' := ?_) (ab 21 247) rfl rfl (QH HT_.out (by kernel_rfl)) (fun _ _ _ h => h) (Or.inl ⟨by rfl,?_⟩) ?_ ?_
                  rotate_left
                  ·intro w'
                   go_simp
                   with_reducible rfl
                  rotate_left
                  ·simp only [Act.put,QN,QO,QP,QE,QF]
                   rfl
                  refine QL (i := 11) (N := some 55) (v := ?_) (a' := ?_) (ab 21 2295) rfl rfl (QH HT_.out (by kernel_rfl)) (fun _ _ _ h => h) (Or.inl ⟨by rfl,?_⟩) ?_ ?_
                  rotate_left
                  ·intro w'
                   go_simp
                   with_reducible rfl
                  rotate_left
                  ·simp only [Act.put,QN,QO,QP,QE,QF]
                   rfl
                  refine QL (i := 12) (N := some 56) (v := ?_) (a' := ?_) (ab 21 6391) rfl rfl (QH HT_.out (by kernel_rfl)) (fun _ _ _ h => h) (Or.inl ⟨by rfl,?_⟩) ?_ ?_
                  rotate_left
                  ·intro w'
                   go_simp
                   with_reducible rfl
                  rotate_left
                  ·simp only [Act.put,QN,QO,QP,QE,QF]
                   rfl
                  refine QL (i := 13) (N := some 57) (v := ?_) (a' := ?_) (ab 21 14583) rfl rfl (QH HT_.out (by kernel_rfl)) (fun _ _ _ h => h) (Or.inl ⟨by rfl,?_⟩) ?_ ?_
                  rotate_left
                  ·intro w'
                   go_simp
                   with_reducible rfl
                  rotate_left
                  ·simp only [Act.put,QN,QO,QP,QE,QF]
                   rfl
                  refine QL (i := 14) (N := some 58) (v := ?_) (a' := ?_) (ab 21 30967) rfl rfl (QH HT_.out (by kernel_rfl)) (fun _ _ _ h => h) (Or.inl ⟨by rfl,?_⟩) ?_ ?_
                  rotate_left
                  ·intro w'
                   go_simp
                   with_reducible rfl
                  rotate_left
                  ·simp only [Act.put,QN,QO,QP,QE,QF]
                   rfl
                  refine QL (i := 3) (N := some 47) (v := ?_) (a' := ?_) (ab 21 30975) rfl rfl (QH HT_.out (by kernel_rfl)) (fun _ _ _ h => h) (Or.inl ⟨by rfl,?_⟩) ?_ ?_
                  rotate_left
                  ·intro w'
                   go_simp
                   with_reducible rfl
                  rotate_left
                  ·simp only [Act.put,QN,QO,QP,QE,QF]
                   rfl
                  refine take_ (i := 8) (N := some 52) (v := ?_) (a' := ?_) (ab 21 31231) rfl rfl (take_ofW HT_.out HW_.out (by kernel_rfl)) (fun _ _ _ h => h) (Or.inl ⟨by rfl,?_⟩) hHeld ?_ ?_
                  rotate_left
                  ·rintro w' ⟨s0,s1⟩
                   go_simp
                   with_reducible rfl
                  rotate_left
                  ·simp only [Act.put,QN,QO,QP,QE,QF]
                   rfl
                  refine QL (i := 9) (N := some 53) (v := ?_) (a' := ?_) (ab 21 31743) rfl rfl (QH HT_.out (by kernel_rfl)) (fun _ _ _ h => h) (Or.inl ⟨by rfl,?_⟩) ?_ ?_
                  rotate_left
                  ·intro w'
                   go_simp
                   with_reducible rfl
                  rotate_left
                  ·simp only [Act.put,QN,QO,QP,QE,QF]
                   rfl
                  refine QL (i := 10) (N := some 54) (v := ?_) (a' := ?_) (ab 21 32767) rfl rfl (QH HT_.out (by kernel_rfl)) (fun _ _ _ h => h) (Or.inl ⟨by rfl,?_⟩) ?_ ?_
                  rotate_left
                  ·intro w'
                   go_simp
                   with_reducible rfl
                  rotate_left
                  ·simp only [Act.put,QN,QO,QP,QE,QF]
                   rfl
                  refine take_ (i := 15) (N := some 59) (v := ?_) (a' := ?_) (ab 21 65535) rfl rfl (take_ofW HT_.out HW_.out (by kernel_rfl)) (fun _ _ _ h => h) (Or.inl ⟨by rfl,?_⟩) hHeld ?_ ?_
                  rotate_left
                  ·rintro w' ⟨s0,s1⟩
                   go_simp
                   with_reducible rfl
                  rotate_left
                  ·simp only [Act.put,QN,QO,QP,QE,QF]
                   rfl
                  refine QL (i := 16) (N := some 60) (v := ?_) (a' := ?_) (ab 21 131071) rfl rfl (QH HT_.out (by kernel_rfl)) (fun _ _ _ h => h) (Or.inl ⟨by rfl,?_⟩) ?_ ?_
                  rotate_left
                  ·intro w'
                   go_simp
                   with_reducible rfl
                  rotate_left
                  ·simp only [Act.put,QN,QO,QP,QE,QF]
                   rfl
                  refine QL (i := 17) (N := some 61) (v := ?_) (a' := ?_) (ab 21 262143) rfl rfl (QH HT_.out (by kernel_rfl)) (fun _ _ _ h => h) (Or.inl ⟨by rfl,?_⟩) ?_ ?_
                  rotate_left
                  ·intro w'
                   go_simp
                   with_reducible rfl
                  rotate_left
                  ·simp only [Act.put,QN,QO,QP,QE,QF]
                   rfl
                  refine last_ (i := 18) (N := some 62) (ab 21 524287) rfl rfl (one_of HT_.out (by kernel_rfl)) (by decide) (fun K hK => ?_)
                  refine value_ (w1 := ?_) (v := ?_) (by rfl) rfl ?_ ?_
                  rotate_left 2
                  ·go_simp
                   constructor
                   ·rfl
                   ·rfl
                  refine hK.out _ _ ?_
                  clear hK K
                  refine norm_ (a' := ?_) ?_ ?_
                  rotate_left
                  ·show Act.put _ (some 62) _ = _
                   simp only [Act.put,QN,QO,QP,QE,QF]
                   rfl
                  refine last_ (i := 19) (N := some 63) (ab 21 1048575) rfl rfl (one_of HT_.out (by kernel_rfl)) (by decide) (fun K hK => ?_)
                  refine Kd.R_append_step Kd.string (w0 := w) w.heap.size (by rfl) (.tmp 47) (.tmp 62) 36 9 (.string ⟨#[]⟩) 16 rfl Tryd.underlying36 info9 rfl (by decide) (by omega) (.slice (some ad527) y529.length co30) y529 (((((⟨#[40]⟩ : ByteArray) ++ (rdOf ByteArray.empty x3_1 (ji18))) ++ (⟨#[38]⟩ : ByteArray)) ++ (rdOf ByteArray.empty x3_1 (ji23))) ++ (⟨#[41]⟩ : ByteArray)) [.string (((((⟨#[40]⟩ : ByteArray) ++ (rdOf ByteArray.empty x3_1 (ji18))) ++ (⟨#[38]⟩ : ByteArray)) ++ (rdOf ByteArray.empty x3_1 (ji23))) ++ (⟨#[41]⟩ : ByteArray))] (fun _ => True) (fun _ => False) rfl rfl ?aP (fun _ hk => hk.elim) ?aF ?aO ?aB ?aS ?aL ?_
                  (case aP => exact rfl)
                  (case aB => exact (by repeat (first | (with_reducible first | exact HB.out | apply QD | apply QB | apply QC) | exact HB.out)))
                  (case aF => exact (fun _ _ => trivial))
                  (case aO => exact (by (with_reducible repeat (first | apply QI | apply QJ | apply QK)); exact HO531.out))
                  (case aS => exact (below_size (by repeat (first | (with_reducible first | exact HB.out | apply QD | apply QB | apply QC) | exact HB.out))))
                  (case aL => have := LMc29.out; omega)
                  intro v533 w33 ho hb hg hat
                  rw [← Ny532.out] at ho
                  have n0_ := QR (hb)
                  have n1_ := QR (ho)
                  clear HB
                  clear HO531
                  revert n0_ n1_
                  intro HB HO534
                  clear ho hb hg hat
                  refine hK.out _ _ ?_
                  clear hK K
                  refine norm_ (a' := ?_) ?_ ?_
                  rotate_left
                  ·show Act.put _ (some 63) _ = _
                   simp only [Act.put,QN,QO,QP,QE,QF]
                   rfl
                  refine QL (i := 20) (N := some 3) (v := ?_) (a' := ?_) (ab 21 2097151) rfl rfl (QH HT_.out (by kernel_rfl)) (fun _ _ _ h => h) (Or.inl ⟨by rfl,?_⟩) ?_ ?_
                  rotate_left
                  ·intro w'
                   go_simp
                   with_reducible rfl
                  rotate_left
                  ·simp only [Act.put,QN,QO,QP,QE,QF]
                   rfl
                  refine done_ (done_of HT_.out (by kernel_rfl)) ?_
                  try go_wp2
                  go_roundg k1
                  case measure => have := HK1.out; omega
                  case rel => exact ⟨(y532),(wrap64 (x4_1 + 1)),(by first | rfl | (simp; done) | (simp [*]; done)),H',⟨by have := HK1.out; omega⟩,⟨by (with_reducible repeat (first | apply QI | apply QJ | apply QK)); exact HO534.out⟩,⟨by repeat (first | (with_reducible first | exact HB.out | apply QD | apply QB | apply QC) | exact HB.out)⟩⟩
                 ·rw [if_neg c29] at H
                  exact absurd H (by simp)
                ·rw [if_neg c28] at H
                 exact absurd H (by simp)
               ·rw [if_neg c27] at H
                exact absurd H (by simp)
              ·rw [if_neg c26] at H
               exact absurd H (by simp)
             ·rw [if_neg c25] at H
              exact absurd H (by simp)
            ·rw [if_neg c24] at H
             exact absurd H (by simp)
           ·rw [if_neg c22] at H
            exact absurd H (by simp)
          ·rw [if_neg c21] at H
           exact absurd H (by simp)
         ·rw [if_neg c20] at H
          exact absurd H (by simp)
        ·rw [if_neg c19] at H
         exact absurd H (by simp)
       ·rw [if_neg c17] at H
        have c17b0 : ((rd l0 x4_1) == (-2)) = false := beq_eq_false_iff_ne.mpr c17
        have c17b1 : ((rd l0 x4_1) != (-2)) = true := bne_iff_ne.mpr c17
        by_cases c34 : (rd l0 x4_1) = (-3)
        ·rw [if_pos c34] at H
         have c34b0 : ((rd l0 x4_1) == (-3)) = true := beq_iff_eq.mpr c34
         have c34b1 : ((rd l0 x4_1) != (-3)) = false := bne_eq_false_iff_eq.mpr c34
         clear c34
         obtain ⟨ji35,hji35⟩ : ∃ j_ : Int,(wrap64 ((x3_1.length : Int) - 2)) = j_ := ⟨_,rfl⟩
         replace H : (if 0 ≤ (ji35) then (if (ji35) < (x3_1.length : Int) then (if 1 + (rdOf ByteArray.empty x3_1 (ji35)).size ≤ 9223372036854775807 then (if ((⟨#[40]⟩ : ByteArray) ++ (rdOf ByteArray.empty x3_1 (ji35))).size + 1 ≤ 9223372036854775807 then (if 0 ≤ (wrap64 ((x3_1.length : Int) - 1)) then (if (wrap64 ((x3_1.length : Int) - 1)) < (x3_1.length : Int) then (if (((⟨#[40]⟩ : ByteArray) ++ (rdOf ByteArray.empty x3_1 (ji35))) ++ (⟨#[124]⟩ : ByteArray)).size + (rdOf ByteArray.empty x3_1 (wrap64 ((x3_1.length : Int) - 1))).size ≤ 9223372036854775807 then (if ((((⟨#[40]⟩ : ByteArray) ++ (rdOf ByteArray.empty x3_1 (ji35))) ++ (⟨#[124]⟩ : ByteArray)) ++ (rdOf ByteArray.empty x3_1 (wrap64 ((x3_1.length : Int) - 1)))).size + 1 ≤ 9223372036854775807 then (if (ji35) ≤ (x3_1.length : Int) then ((some (x3_1.take ((ji35) : Int).toNat : List ByteArray)).bind fun y537 => (if y537.length < 8796093022208 then (spec_PatternText.l0 k1 l0 (y537 ++ [((((⟨#[40]⟩ : ByteArray) ++ (rdOf ByteArray.empty x3_1 (ji35))) ++ (⟨#[124]⟩ : ByteArray)) ++ (rdOf ByteArray.empty x3_1 (wrap64 ((x3_1.length : Int) - 1)))) ++ (⟨#[41]⟩ : ByteArray)]) (wrap64 (x4_1 + 1))) else (none))) else (none)) else (none)) else (none)) else (none)) else (none)) else (none)) else (none)) else (none)) else (none)) = some r := by first | (rw [hji35] at H; exact H) | (simp only [hji35] at H ⊢; exact H)
         have hji35w : (IntKind.i64.wrap ((x3_1.length : Int) - 2)) = ji35 := (QE _).trans hji35
         by_cases c36 : 0 ≤ (ji35)
         ·rw [if_pos c36] at H
          have c36b0 : decide (0 ≤ (ji35)) = true := decide_eq_true c36
          clear c36
          by_cases c37 : (ji35) < (x3_1.length : Int)
          ·rw [if_pos c37] at H
           have c37b0 : decide ((ji35) < (x3_1.length : Int)) = true := decide_eq_true c37
           clear c37
           by_cases c38 : 1 + (rdOf ByteArray.empty x3_1 (ji35)).size ≤ 9223372036854775807
           ·rw [if_pos c38] at H
            have c38b0 := eq_true c38
            have c38b1 : decide (1 + (rdOf ByteArray.empty x3_1 (ji35)).size ≤ 9223372036854775807) = true := decide_eq_true c38
            try have c38b2 : (9223372036854775807 < 1 + (rdOf ByteArray.empty x3_1 (ji35)).size) = False := eq_false (Nat.not_lt.2 c38)
            by_cases c39 : ((⟨#[40]⟩ : ByteArray) ++ (rdOf ByteArray.empty x3_1 (ji35))).size + 1 ≤ 9223372036854775807
            ·rw [if_pos c39] at H
             have c39b0 := eq_true c39
             have c39b1 : decide (((⟨#[40]⟩ : ByteArray) ++ (rdOf ByteArray.empty x3_1 (ji35))).size + 1 ≤ 9223372036854775807) = true := decide_eq_true c39
             try have c39b2 : (9223372036854775807 < ((⟨#[40]⟩ : ByteArray) ++ (rdOf ByteArray.empty x3_1 (ji35))).size + 1) = False := eq_false (Nat.not_lt.2 c39)
             have c39b3 := c39b2
             (try simp only [ByteArray.size_append,ba_size,List.size_toArray,List.length_cons,List.length_nil,Nat.reduceAdd,Nat.zero_add] at c39b3)
             obtain ⟨ji40,hji40⟩ : ∃ j_ : Int,(wrap64 ((x3_1.length : Int) - 1)) = j_ := ⟨_,rfl⟩
             replace H : (if 0 ≤ (ji40) then (if (ji40) < (x3_1.length : Int) then (if (((⟨#[40]⟩ : ByteArray) ++ (rdOf ByteArray.empty x3_1 (ji35))) ++ (⟨#[124]⟩ : ByteArray)).size + (rdOf ByteArray.empty x3_1 (ji40)).size ≤ 9223372036854775807 then (if ((((⟨#[40]⟩ : ByteArray) ++ (rdOf ByteArray.empty x3_1 (ji35))) ++ (⟨#[124]⟩ : ByteArray)) ++ (rdOf ByteArray.empty x3_1 (ji40))).size + 1 ≤ 9223372036854775807 then (if (ji35) ≤ (x3_1.length : Int) then ((some (x3_1.take ((ji35) : Int).toNat : List ByteArray)).bind fun y537 => (if y537.length < 8796093022208 then (spec_PatternText.l0 k1 l0 (y537 ++ [((((⟨#[40]⟩ : ByteArray) ++ (rdOf ByteArray.empty x3_1 (ji35))) ++ (⟨#[124]⟩ : ByteArray)) ++ (rdOf ByteArray.empty x3_1 (ji40))) ++ (⟨#[41]⟩ : ByteArray)]) (wrap64 (x4_1 + 1))) else (none))) else (none)) else (none)) else (none)) else (none)) else (none)) = some r := by first | (rw [hji40] at H; exact H) | (simp only [hji40] at H ⊢; exact H)
             have hji40w : (IntKind.i64.wrap ((x3_1.length : Int) - 1)) = ji40 := (QE _).trans hji40
             by_cases c41 : 0 ≤ (ji40)
             ·rw [if_pos c41] at H
              have c41b0 : decide (0 ≤ (ji40)) = true := decide_eq_true c41
              clear c41
              by_cases c42 : (ji40) < (x3_1.length : Int)
              ·rw [if_pos c42] at H
               have c42b0 : decide ((ji40) < (x3_1.length : Int)) = true := decide_eq_true c42
               clear c42
               by_cases c43 : (((⟨#[40]⟩ : ByteArray) ++ (rdOf ByteArray.empty x3_1 (ji35))) ++ (⟨#[124]⟩ : ByteArray)).size + (rdOf ByteArray.empty x3_1 (ji40)).size ≤ 9223372036854775807
               ·rw [if_pos c43] at H
                have c43b0 := eq_true c43
                have c43b1 : decide ((((⟨#[40]⟩ : ByteArray) ++ (rdOf ByteArray.empty x3_1 (ji35))) ++ (⟨#[124]⟩ : ByteArray)).size + (rdOf ByteArray.empty x3_1 (ji40)).size ≤ 9223372036854775807) = true := decide_eq_true c43
                try have c43b2 : (9223372036854775807 < (((⟨#[40]⟩ : ByteArray) ++ (rdOf ByteArray.empty x3_1 (ji35))) ++ (⟨#[124]⟩ : ByteArray)).size + (rdOf ByteArray.empty x3_1 (ji40)).size) = False := eq_false (Nat.not_lt.2 c43)
                have c43b3 := c43b2
                (try simp only [ByteArray.size_append,ba_size,List.size_toArray,List.length_cons,List.length_nil,Nat.reduceAdd,Nat.zero_add] at c43b3)
                by_cases c44 : ((((⟨#[40]⟩ : ByteArray) ++ (rdOf ByteArray.empty x3_1 (ji35))) ++ (⟨#[124]⟩ : ByteArray)) ++ (rdOf ByteArray.empty x3_1 (ji40))).size + 1 ≤ 9223372036854775807
                ·rw [if_pos c44] at H
                 have c44b0 := eq_true c44
                 have c44b1 : decide (((((⟨#[40]⟩ : ByteArray) ++ (rdOf ByteArray.empty x3_1 (ji35))) ++ (⟨#[124]⟩ : ByteArray)) ++ (rdOf ByteArray.empty x3_1 (ji40))).size + 1 ≤ 9223372036854775807) = true := decide_eq_true c44
                 try have c44b2 : (9223372036854775807 < ((((⟨#[40]⟩ : ByteArray) ++ (rdOf ByteArray.empty x3_1 (ji35))) ++ (⟨#[124]⟩ : ByteArray)) ++ (rdOf ByteArray.empty x3_1 (ji40))).size + 1) = False := eq_false (Nat.not_lt.2 c44)
                 have c44b3 := c44b2
                 (try simp only [ByteArray.size_append,ba_size,List.size_toArray,List.length_cons,List.length_nil,Nat.reduceAdd,Nat.zero_add] at c44b3)
                 by_cases c45 : (ji35) ≤ (x3_1.length : Int)
                 ·rw [if_pos c45] at H
                  have c45b0 := eq_true c45
                  have c45b1 : decide ((ji35) ≤ (x3_1.length : Int)) = true := decide_eq_true c45
                  clear c45
                  obtain ⟨y537,hy537⟩ : ∃ y_ : List ByteArray,y_ = (x3_1.take ((ji35) : Int).toNat) := ⟨_,rfl⟩
                  replace H : (if y537.length < 8796093022208 then (spec_PatternText.l0 k1 l0 (y537 ++ [((((⟨#[40]⟩ : ByteArray) ++ (rdOf ByteArray.empty x3_1 (ji35))) ++ (⟨#[124]⟩ : ByteArray)) ++ (rdOf ByteArray.empty x3_1 (ji40))) ++ (⟨#[41]⟩ : ByteArray)]) (wrap64 (x4_1 + 1))) else (none)) = some r := by first | (rw [hy537]; with_reducible exact H) | (have H2_ := (Option.bind_some _ _).symm.trans H; rw [hy537]; with_reducible exact H2_) | (have H2_ := (Option.bind_some _ _).symm.trans H; with_reducible exact H2_) | with_reducible exact H | (rw [hy537]; exact H) | exact H
                  have Ny537 := QR hy537
                  clear hy537
                  by_cases c46 : y537.length < 8796093022208
                  ·rw [if_pos c46] at H
                   have LMc46 := QR c46
                   clear c46
                   obtain ⟨y540,hy540⟩ : ∃ y_ : List ByteArray,y_ = (y537 ++ [((((⟨#[40]⟩ : ByteArray) ++ (rdOf ByteArray.empty x3_1 (ji35))) ++ (⟨#[124]⟩ : ByteArray)) ++ (rdOf ByteArray.empty x3_1 (ji40))) ++ (⟨#[41]⟩ : ByteArray)]) := ⟨_,rfl⟩
                   replace H : (spec_PatternText.l0 k1 l0 y540 (wrap64 (x4_1 + 1))) = some r := by first | (rw [hy540]; with_reducible exact H) | (have H2_ := (Option.bind_some _ _).symm.trans H; rw [hy540]; with_reducible exact H2_) | (have H2_ := (Option.bind_some _ _).symm.trans H; with_reducible exact H2_) | with_reducible exact H | (rw [hy540]; exact H) | exact H
                   have Ny540 := QR hy540
                   clear hy540
                   have H' := QR H
                   clear H
                   obtain ⟨Ao47,co47,eo47⟩ := Kd.R_slice HO_3.out
                   subst eo47
                   have p524 : 0 ≤ (x4_1 : Int) := of_decide_eq_true (by first | (with_reducible assumption) | assumption)
                   have q524 : x4_1 < (l0.length : Int) := of_decide_eq_true (by first | (with_reducible assumption) | assumption)
                   obtain ⟨ad524,e524,hx524_0⟩ := Kd.at_int HR0.out x4_1 p524 q524
                   cases e524
                   replace hx524_0 := (HB.out.cell (World.block_lt_of_cell? w _ hx524_0)).trans hx524_0
                   replace p524 := eq_true p524
                   replace q524 := eq_true q524
                   try go_wp2
                   have n0_ := QR (QK HO_3.out)
                   have n1_ := QR (QC HB.out)
                   clear HO_3
                   clear HB
                   revert n0_ n1_
                   intro HO_3 HB
                   have p535 : 0 ≤ ((ji35) : Int) := of_decide_eq_true (by first | (with_reducible assumption) | assumption)
                   have q535 : (ji35) < (x3_1.length : Int) := of_decide_eq_true (by first | (with_reducible assumption) | assumption)
                   obtain ⟨ad535,e535,hx535_0⟩ := Kd.at_string (Kd.R_reads' HO_3.out).2.2 (ji35) p535 q535
                   cases e535
                   replace p535 := eq_true p535
                   replace q535 := eq_true q535
                   have p536 : 0 ≤ ((ji40) : Int) := of_decide_eq_true (by first | (with_reducible assumption) | assumption)
                   have q536 : (ji40) < (x3_1.length : Int) := of_decide_eq_true (by first | (with_reducible assumption) | assumption)
                   obtain ⟨ad536,e536,hx536_0⟩ := Kd.at_string (Kd.R_reads' HO_3.out).2.2 (ji40) p536 q536
                   obtain rfl : ad535 = ad536 := (by injection e536)
                   replace p536 := eq_true p536
                   replace q536 := eq_true q536
                   have q49 : ((ji35) : Int) ≤ ((x3_1.length : Int) : Int) := of_decide_eq_true (by first | (with_reducible assumption) | assumption)
                   obtain ⟨i049,hi049,_,hsz49,_⟩ := info_parts info9
                   have hcut49 := cut_to (P := Tryd.prog) 36 9 .i64 Tryd.underlying36 hi049 (some ad535) x3_1.length co47 (ji35) (of_decide_eq_true (by first | (with_reducible assumption) | assumption)) q49 (Kd.R_reads' HO_3.out).2.1
                   have hr49 := Kd.R_take (m := ((ji35) : Int).toNat) HO_3.out (by omega)
                   have hy49 : y537.length = ((ji35) : Int).toNat := (by rw [Ny537.out,List.length_take]; omega)
                   rw [← Ny537.out] at hr49
                   rw [← hy49] at hr49 hcut49
                   clear hy49 hi049 hsz49 HO_3
                   have HO539 := QR hr49
                   clear hr49
                   replace q49 := eq_true q49
                   refine start_ (n := 21) (S := fun w' => w'.cell? (ad535.add ((ji35)).toNat) = some (.string (rdOf ByteArray.empty x3_1 (ji35))) ∧ w'.cell? (ad535.add ((ji40)).toNat) = some (.string (rdOf ByteArray.empty x3_1 (ji40)))) (ds := [18,19]) (ab 21 0) (by kernel_rfl) rfl rfl ⟨hx535_0,hx536_0⟩ (fun hHeld => ?_); refine with_tabW spec_PatternText.tab15 spec_PatternText.bits15 (fun HT_ HW_ => ?_)
                   generalize wr.drew = w48 at HB HO539 hx535_0 hx536_0 hHeld ⊢
                   refine QL (i := 0) (N := some 66) (v := ?_) (a' := ?_) (ab 21 1) rfl rfl (QH HT_.out (by kernel_rfl)) (fun _ _ _ h => h) (Or.inl ⟨by rfl,?_⟩) ?_ ?_
                   rotate_left
                   ·intro w'
                    go_simp
                    with_reducible rfl
                   rotate_left
                   ·simp only [Act.put,QN,QO,QP,QE,QF]
                    rfl
                   refine QL (i := 1) (N := some 67) (v := ?_) (a' := ?_) (ab 21 3) rfl rfl (QH HT_.out (by kernel_rfl)) (fun _ _ _ h => h) (Or.inl ⟨by rfl,?_⟩) ?_ ?_
                   rotate_left
                   ·intro w'
                    go_simp
                    with_reducible rfl
                   rotate_left
                   ·simp only [Act.put,QN,QO,QP,QE,QF]
                    rfl
                   refine QL (i := 2) (N := some 68) (v := ?_) (a' := ?_) (ab 21 7) rfl rfl (QH HT_.out (by kernel_rfl)) (fun _ _ _ h => h) (Or.inl ⟨by rfl,?_⟩) ?_ ?_
                   rotate_left
                   ·intro w'
                    go_simp
                    with_reducible rfl
                   rotate_left
                   ·simp only [Act.put,QN,QO,QP,QE,QF]
                    rfl
                   refine QL (i := 4) (N := some 70) (v := ?_) (a' := ?_) (ab 21 23) rfl rfl (QH HT_.out (by kernel_rfl)) (fun _ _ _ h => h) (Or.inl ⟨by rfl,?_⟩) ?_ ?_
                   rotate_left
                   ·intro w'
                    go_simp
                    with_reducible rfl
                   rotate_left
                   ·simp only [Act.put,QN,QO,QP,QE,QF]
                    rfl
                   refine QL (i := 5) (N := some 71) (v := ?_) (a' := ?_) (ab 21 55) rfl rfl (QH HT_.out (by kernel_rfl)) (fun _ _ _ h => h) (Or.inl ⟨by rfl,?_⟩) ?_ ?_
                   rotate_left
                   ·intro w'
                    go_simp
                    with_reducible rfl
                   rotate_left
                   ·simp only [Act.put,QN,QO,QP,QE,QF]
                    rfl
                   refine QL (i := 6) (N := some 72) (v := ?_) (a' := ?_) (ab 21 119) rfl rfl (QH HT_.out (by kernel_rfl)) (fun _ _ _ h => h) (Or.inl ⟨by rfl,?_⟩) ?_ ?_
                   rotate_left
                   ·intro w'
                    go_simp
                    with_reducible rfl
                   rotate_left
                   ·simp only [Act.put,QN,QO,QP,QE,QF]
                    rfl
                   refine QL (i := 7) (N := some 73) (v := ?_) (a' := ?_) (ab 21 247) rfl rfl (QH HT_.out (by kernel_rfl)) (fun _ _ _ h => h) (Or.inl ⟨by rfl,?_⟩) ?_ ?_
                   rotate_left
                   ·intro w'
                    go_simp
                    with_reducible rfl
                   rotate_left
                   ·simp only [Act.put,QN,QO,QP,QE,QF]
                    rfl
                   refine QL (i := 11) (N := some 77) (v := ?_) (a' := ?_) (ab 21 2295) rfl rfl (QH HT_.out (by kernel_rfl)) (fun _ _ _ h => h) (Or.inl ⟨by rfl,?_⟩) ?_ ?_
                   rotate_left
                   ·intro w'
                    go_simp
                    with_reducible rfl
                   rotate_left
                   ·simp only [Act.put,QN,QO,QP,QE,QF]
                    rfl
                   refine QL (i := 12) (N := some 78) (v := ?_) (a' := ?_) (ab 21 6391) rfl rfl (QH HT_.out (by kernel_rfl)) (fun _ _ _ h => h) (Or.inl ⟨by rfl,?_⟩) ?_ ?_
                   rotate_left
                   ·intro w'
                    go_simp
                    with_reducible rfl
                   rotate_left
                   ·simp only [Act.put,QN,QO,QP,QE,QF]
                    rfl
                   refine QL (i := 13) (N := some 79) (v := ?_) (a' := ?_) (ab 21 14583) rfl rfl (QH HT_.out (by kernel_rfl)) (fun _ _ _ h => h) (Or.inl ⟨by rfl,?_⟩) ?_ ?_
                   rotate_left
                   ·intro w'
                    go_simp
                    with_reducible rfl
                   rotate_left
                   ·simp only [Act.put,QN,QO,QP,QE,QF]
                    rfl
                   refine QL (i := 14) (N := some 80) (v := ?_) (a' := ?_) (ab 21 30967) rfl rfl (QH HT_.out (by kernel_rfl)) (fun _ _ _ h => h) (Or.inl ⟨by rfl,?_⟩) ?_ ?_
                   rotate_left
                   ·intro w'
                    go_simp
                    with_reducible rfl
                   rotate_left
                   ·simp only [Act.put,QN,QO,QP,QE,QF]
                    rfl
                   refine QL (i := 3) (N := some 69) (v := ?_) (a' := ?_) (ab 21 30975) rfl rfl (QH HT_.out (by kernel_rfl)) (fun _ _ _ h => h) (Or.inl ⟨by rfl,?_⟩) ?_ ?_
                   rotate_left
                   ·intro w'
                    go_simp
                    with_reducible rfl
                   rotate_left
                   ·simp only [Act.put,QN,QO,QP,QE,QF]
                    rfl
                   refine take_ (i := 8) (N := some 74) (v := ?_) (a' := ?_) (ab 21 31231) rfl rfl (take_ofW HT_.out HW_.out (by kernel_rfl)) (fun _ _ _ h => h) (Or.inl ⟨by rfl,?_⟩) hHeld ?_ ?_
                   rotate_left
                   ·rintro w' ⟨s0,s1⟩
                    go_simp
                    with_reducible rfl
                   rotate_left
                   ·simp only [Act.put,QN,QO,QP,QE,QF]
                    rfl
                   refine QL (i := 9) (N := some 75) (v := ?_) (a' := ?_) (ab 21 31743) rfl rfl (QH HT_.out (by kernel_rfl)) (fun _ _ _ h => h) (Or.inl ⟨by rfl,?_⟩) ?_ ?_
                   rotate_left
                   ·intro w'
                    go_simp
                    with_reducible rfl
                   rotate_left
                   ·simp only [Act.put,QN,QO,QP,QE,QF]
                    rfl
                   refine QL (i := 10) (N := some 76) (v := ?_) (a' := ?_) (ab 21 32767) rfl rfl (QH HT_.out (by kernel_rfl)) (fun _ _ _ h => h) (Or.inl ⟨by rfl,?_⟩) ?_ ?_
                   rotate_left
                   ·intro w'
                    go_simp
                    with_reducible rfl
                   rotate_left
                   ·simp only [Act.put,QN,QO,QP,QE,QF]
                    rfl
                   refine take_ (i := 15) (N := some 81) (v := ?_) (a' := ?_) (ab 21 65535) rfl rfl (take_ofW HT_.out HW_.out (by kernel_rfl)) (fun _ _ _ h => h) (Or.inl ⟨by rfl,?_⟩) hHeld ?_ ?_
                   rotate_left
                   ·rintro w' ⟨s0,s1⟩
                    go_simp
                    with_reducible rfl
                   rotate_left
                   ·simp only [Act.put,QN,QO,QP,QE,QF]
                    rfl
                   refine QL (i := 16) (N := some 82) (v := ?_) (a' := ?_) (ab 21 131071) rfl rfl (QH HT_.out (by kernel_rfl)) (fun _ _ _ h => h) (Or.inl ⟨by rfl,?_⟩) ?_ ?_
                   rotate_left
                   ·intro w'
                    go_simp
                    with_reducible rfl
                   rotate_left
                   ·simp only [Act.put,QN,QO,QP,QE,QF]
                    rfl
                   refine QL (i := 17) (N := some 83) (v := ?_) (a' := ?_) (ab 21 262143) rfl rfl (QH HT_.out (by kernel_rfl)) (fun _ _ _ h => h) (Or.inl ⟨by rfl,?_⟩) ?_ ?_
                   rotate_left
                   ·intro w'
                    go_simp
                    with_reducible rfl
                   rotate_left
                   ·simp only [Act.put,QN,QO,QP,QE,QF]
                    rfl
                   refine last_ (i := 18) (N := some 84) (ab 21 524287) rfl rfl (one_of HT_.out (by kernel_rfl)) (by decide) (fun K hK => ?_)
                   refine value_ (w1 := ?_) (v := ?_) (by rfl) rfl ?_ ?_
                   rotate_left 2
                   ·go_simp
                    constructor
                    ·rfl
                    ·rfl
                   refine hK.out _ _ ?_
                   clear hK K
                   refine norm_ (a' := ?_) ?_ ?_
                   rotate_left
                   ·show Act.put _ (some 84) _ = _
                    simp only [Act.put,QN,QO,QP,QE,QF]
                    rfl
                   refine last_ (i := 19) (N := some 85) (ab 21 1048575) rfl rfl (one_of HT_.out (by kernel_rfl)) (by decide) (fun K hK => ?_)
                   refine Kd.R_append_step Kd.string (w0 := w) w.heap.size (by rfl) (.tmp 69) (.tmp 84) 36 9 (.string ⟨#[]⟩) 16 rfl Tryd.underlying36 info9 rfl (by decide) (by omega) (.slice (some ad535) y537.length co47) y537 (((((⟨#[40]⟩ : ByteArray) ++ (rdOf ByteArray.empty x3_1 (ji35))) ++ (⟨#[124]⟩ : ByteArray)) ++ (rdOf ByteArray.empty x3_1 (ji40))) ++ (⟨#[41]⟩ : ByteArray)) [.string (((((⟨#[40]⟩ : ByteArray) ++ (rdOf ByteArray.empty x3_1 (ji35))) ++ (⟨#[124]⟩ : ByteArray)) ++ (rdOf ByteArray.empty x3_1 (ji40))) ++ (⟨#[41]⟩ : ByteArray))] (fun _ => True) (fun _ => False) rfl rfl ?aP (fun _ hk => hk.elim) ?aF ?aO ?aB ?aS ?aL ?_
                   (case aP => exact rfl)
                   (case aB => exact (by repeat (first | (with_reducible first | exact HB.out | apply QD | apply QB | apply QC) | exact HB.out)))
                   (case aF => exact (fun _ _ => trivial))
                   (case aO => exact (by (with_reducible repeat (first | apply QI | apply QJ | apply QK)); exact HO539.out))
                   (case aS => exact (below_size (by repeat (first | (with_reducible first | exact HB.out | apply QD | apply QB | apply QC) | exact HB.out))))
                   (case aL => have := LMc46.out; omega)
                   intro v541 w50 ho hb hg hat
                   rw [← Ny540.out] at ho
                   have n0_ := QR (hb)
                   have n1_ := QR (ho)
                   clear HB
                   clear HO539
                   revert n0_ n1_
                   intro HB HO542
                   clear ho hb hg hat
                   refine hK.out _ _ ?_
                   clear hK K
                   refine norm_ (a' := ?_) ?_ ?_
                   rotate_left
                   ·show Act.put _ (some 85) _ = _
                    simp only [Act.put,QN,QO,QP,QE,QF]
                    rfl
                   refine QL (i := 20) (N := some 3) (v := ?_) (a' := ?_) (ab 21 2097151) rfl rfl (QH HT_.out (by kernel_rfl)) (fun _ _ _ h => h) (Or.inl ⟨by rfl,?_⟩) ?_ ?_
                   rotate_left
                   ·intro w'
                    go_simp
                    with_reducible rfl
                   rotate_left
                   ·simp only [Act.put,QN,QO,QP,QE,QF]
                    rfl
                   refine done_ (done_of HT_.out (by kernel_rfl)) ?_
                   try go_wp2
                   go_roundg k1
                   case measure => have := HK1.out; omega
                   case rel => exact ⟨(y540),(wrap64 (x4_1 + 1)),(by first | rfl | (simp; done) | (simp [*]; done)),H',⟨by have := HK1.out; omega⟩,⟨by (with_reducible repeat (first | apply QI | apply QJ | apply QK)); exact HO542.out⟩,⟨by repeat (first | (with_reducible first | exact HB.out | apply QD | apply QB | apply QC) | exact HB.out)⟩⟩
                  ·rw [if_neg c46] at H
                   exact absurd H (by simp)
                 ·rw [if_neg c45] at H
                  exact absurd H (by simp)
                ·rw [if_neg c44] at H
                 exact absurd H (by simp)
               ·rw [if_neg c43] at H
                exact absurd H (by simp)
              ·rw [if_neg c42] at H
               exact absurd H (by simp)
             ·rw [if_neg c41] at H
              exact absurd H (by simp)
            ·rw [if_neg c39] at H
             exact absurd H (by simp)
           ·rw [if_neg c38] at H
            exact absurd H (by simp)
          ·rw [if_neg c37] at H
           exact absurd H (by simp)
         ·rw [if_neg c36] at H
          exact absurd H (by simp)
        ·rw [if_neg c34] at H
         have c34b0 : ((rd l0 x4_1) == (-3)) = false := beq_eq_false_iff_ne.mpr c34
         have c34b1 : ((rd l0 x4_1) != (-3)) = true := bne_iff_ne.mpr c34
         replace H := Option.bind_eq_some_iff.mp H
         obtain ⟨t544,A510,H⟩ := H
         have A51 := QR A510
         clear A510
         by_cases c52 : x3_1.length < 8796093022208
         ·rw [if_pos c52] at H
          have LMc52 := QR c52
          clear c52
          obtain ⟨y545,hy545⟩ : ∃ y_ : List ByteArray,y_ = (x3_1 ++ [t544]) := ⟨_,rfl⟩
          replace H : (spec_PatternText.l0 k1 l0 y545 (wrap64 (x4_1 + 1))) = some r := by first | (rw [hy545]; with_reducible exact H) | (have H2_ := (Option.bind_some _ _).symm.trans H; rw [hy545]; with_reducible exact H2_) | (have H2_ := (Option.bind_some _ _).symm.trans H; with_reducible exact H2_) | with_reducible exact H | (rw [hy545]; exact H) | exact H
          have Ny545 := QR hy545
          clear hy545
          have H' := QR H
          clear H
          obtain ⟨Ao53,co53,eo53⟩ := Kd.R_slice HO_3.out
          subst eo53
          have p524 : 0 ≤ (x4_1 : Int) := of_decide_eq_true (by first | (with_reducible assumption) | assumption)
          have q524 : x4_1 < (l0.length : Int) := of_decide_eq_true (by first | (with_reducible assumption) | assumption)
          obtain ⟨ad524,e524,hx524_0⟩ := Kd.at_int HR0.out x4_1 p524 q524
          cases e524
          replace hx524_0 := (HB.out.cell (World.block_lt_of_cell? w _ hx524_0)).trans hx524_0
          replace p524 := eq_true p524
          replace q524 := eq_true q524
          have p543 : 0 ≤ (x4_1 : Int) := of_decide_eq_true (by first | (with_reducible assumption) | assumption)
          have q543 : x4_1 < (l0.length : Int) := of_decide_eq_true (by first | (with_reducible assumption) | assumption)
          obtain ⟨ad543,e543,hx543_0⟩ := Kd.at_int HR0.out x4_1 p543 q543
          obtain rfl : ad524 = ad543 := (by injection e543)
          replace hx543_0 := (HB.out.cell (World.block_lt_of_cell? w _ hx543_0)).trans hx543_0
          replace p543 := eq_true p543
          replace q543 := eq_true q543
          go_wp2_with (first | ((with_reducible refine gate_callee (f := 85) rfl ?_); refine goesL_ (some 27) rfl rfl Tryd.func85 (by kernel_rfl) rfl #[.int .i64 (rd l0 x4_1)] rfl (by (try simp only [List.map_toArray,List.map_cons,List.map_nil]); first | done | rfl | (simp only [List.length_drop,List.length_take]; rfl)) ?_; (with_reducible refine (spec_l9Leaf.calls (rd l0 x4_1) t544 _ A51.out).mono ?_); rintro e w' ⟨rfl,⟨nd,rfl⟩⟩; refine ⟨_,rfl,?_⟩) | ((with_reducible refine gate_builtin (b := .append) (xs := #[.tmp 22,.tmp 28]) rfl ?_); at_builtin; refine Kd.R_append Kd.string (w0 := w) w.heap.size rfl (.tmp 22) (.tmp 28) 36 9 (.string ⟨#[]⟩) 16 rfl Tryd.underlying36 info9 rfl (by decide) (by omega) (.slice Ao53 x3_1.length co53) x3_1 t544 [.string t544] (fun _ => True) (fun _ => False) rfl rfl ?aP (fun _ hk => hk.elim) ?aF ?aO ?aB ?aS ?aL ?_; (case aP => exact rfl); (case aB => exact (by repeat (first | (with_reducible first | exact HB.out | apply QD | apply QB | apply QC) | exact HB.out))); (case aF => exact (fun _ _ => trivial)); (case aO => exact (by (with_reducible repeat (first | apply QI | apply QJ | apply QK)); exact HO_3.out)); (case aS => exact (below_size (by repeat (first | (with_reducible first | exact HB.out | apply QD | apply QB | apply QC) | exact HB.out)))); (case aL => have := LMc52.out; omega); intro v546 w54 ho hb hg hat; rw [← Ny545.out] at ho; have n0_ := QR (hb); have n1_ := QR (ho); clear HB; clear HO_3; revert n0_ n1_; intro HB HO547; clear ho hb hg hat))
          go_roundg k1
          case measure => have := HK1.out; omega
          case rel => exact ⟨(y545),(wrap64 (x4_1 + 1)),(by first | rfl | (simp; done) | (simp [*]; done)),H',⟨by have := HK1.out; omega⟩,⟨by (with_reducible repeat (first | apply QI | apply QJ | apply QK)); exact HO547.out⟩,⟨by repeat (first | (with_reducible first | exact HB.out | apply QD | apply QB | apply QC) | exact HB.out)⟩⟩
         ·rw [if_neg c52] at H
          exact absurd H (by simp)
     ·rw [if_neg c7] at H
      exact absurd H (by simp)
    ·rw [if_neg c6] at H
     have c6b0 : decide (x4_1 < (l0.length : Int)) = false := decide_eq_false c6
     clear c6
     by_cases c55 : 0 < (x3_1.length : Int)
     ·rw [if_pos c55] at H
      have c55b0 : decide (0 < (x3_1.length : Int)) = true := decide_eq_true c55
      have c55b1 : decide (0 < x3_1.length) = true := decide_eq_true (by omega)
      clear c55
      obtain rfl := Option.some.inj H
      obtain ⟨Ao56,co56,eo56⟩ := Kd.R_slice HO_3.out
      subst eo56
      have p523 : 0 ≤ (0 : Int) := (by omega)
      have q523 : 0 < (x3_1.length : Int) := of_decide_eq_true (by first | (with_reducible assumption) | assumption)
      obtain ⟨ad523,e523,hx523_0⟩ := Kd.at_string (Kd.R_reads' HO_3.out).2.2 0 p523 q523
      cases e523
      have qi523 : (0 < x3_1.length) = True := eq_true (by omega)
      (try rw [show ((0 : Int)).toNat = 0 from rfl] at hx523_0)
      (try rw [Addr.add_zero'] at hx523_0)
      replace p523 := eq_true p523
      replace q523 := eq_true q523
      go_wp2
      go_ret
      exact ⟨by first | rfl | (simp [errW_none,errW_some] <;> rfl) | (simp [*,errW_none,errW_some] <;> rfl),by repeat (first | (with_reducible first | exact HB.out | apply QD | apply QB | apply QC) | exact HB.out)⟩
     ·rw [if_neg c55] at H
      exact absurd H (by simp)
 ·replace c3 := Bool.eq_false_iff.mpr c3
  subst c3
  rw [if_neg (show ¬ (false = true) by decide)] at H
  obtain rfl := Option.some.inj H
  go_enter Tryd.func68,Tryd.ntmps68
  go_wp2_with (first | ((with_reducible refine gate_callee (f := 84) rfl ?_); refine goesL_ (some 7) rfl rfl Tryd.func84 (by kernel_rfl) rfl #[.slice A0 l0.length c0] rfl (by (try simp only [List.map_toArray,List.map_cons,List.map_nil]); first | done | rfl | (simp only [List.length_drop,List.length_take]; rfl)) ?_; (with_reducible refine (spec_IsPattern.calls k _ _ l0 false _ ?side1 ?side2 A2.out).mono ?_); (case side1 => repeat (first | exact HR0.out | (with_reducible refine Kd.C_alloc ?_ _) | (with_reducible refine Kd.C_drewN ?_ _) | (with_reducible refine Kd.C_drew ?_))); (case side2 => exact HC0.out); rintro e w' ⟨rfl,⟨nd,rfl⟩⟩; refine ⟨_,rfl,?_⟩))
  go_ret
  exact ⟨by first | rfl | (simp [errW_none,errW_some] <;> rfl) | (simp [*,errW_none,errW_some] <;> rfl),by repeat (first | (with_reducible first | exact HB.out | apply QD | apply QB | apply QC) | exact HB.out)⟩

/-! ### spec_l23Pattern: function 51 -/
def spec_l23Pattern.f (k : Nat) (l0 : List Int) : Option (ByteArray) := if (l0.length : Int) = 0 then (some (⟨#[45]⟩ : ByteArray)) else ((spec_PatternText.f k l0).bind fun t548 => (some t548))
theorem spec_l23Pattern.mono : ∀ a0 k, LeO (spec_l23Pattern.f k a0) (spec_l23Pattern.f (k + 1) a0) := by
 intro a0 k
 unfold spec_l23Pattern.f
 repeat' first
   | (with_reducible exact spec_PatternText.mono _ _)
   | (with_reducible exact LeO.refl _)
   | (with_reducible exact LeO.none _)
   | (with_reducible refine LeO.ite ?_ ?_)
   | (with_reducible refine LeO.bind ?_ (fun _ => ?_))
   | exact spec_PatternText.mono _ _
   | exact LeO.none _
   | refine LeO.ite ?_ ?_
   | refine LeO.bind ?_ (fun _ => ?_)
set_option maxHeartbeats 8000000 in
set_option maxRecDepth 100000 in
theorem spec_l23Pattern.calls (k : Nat) (A0 : Option Addr) (c0 : Nat) (l0 : List Int) (r : ByteArray) (w : World) (hr0 : Kd.C (Kd.int .i64) w A0 l0.length l0) (hc0 : l0.length ≤ c0) (h : spec_l23Pattern.f k l0 = some r) :
  Calls Tryd.prog 51 #[.slice A0 l0.length c0] w fun e w' => e = .returned (.string r) ∧ Below w.heap.size w w' := by
 have HR0 := QR hr0
 have HC0 := QR hc0
 clear hr0 hc0
 have HB := QR (Below.refl w.heap.size w)
 have H : (if (l0.length : Int) = 0 then (some (⟨#[45]⟩ : ByteArray)) else ((spec_PatternText.f k l0).bind fun t548 => (some t548))) = some r := h
 clear h
 by_cases c2 : (l0.length : Int) = 0
 ·rw [if_pos c2] at H
  have c2b0 : ((l0.length : Int) == 0) = true := beq_iff_eq.mpr c2
  have c2b1 : ((l0.length : Int) != 0) = false := bne_eq_false_iff_eq.mpr c2
  clear c2
  obtain rfl := Option.some.inj H
  go_enter Tryd.func51,Tryd.ntmps51
  go_wp2
  go_ret
  exact ⟨by first | rfl | (simp [errW_none,errW_some] <;> rfl) | (simp [*,errW_none,errW_some] <;> rfl),by repeat (first | (with_reducible first | exact HB.out | apply QD | apply QB | apply QC) | exact HB.out)⟩
 ·rw [if_neg c2] at H
  have c2b0 : ((l0.length : Int) == 0) = false := beq_eq_false_iff_ne.mpr c2
  have c2b1 : ((l0.length : Int) != 0) = true := bne_iff_ne.mpr c2
  have c2b2 : ¬ (l0 = []) := fun h_ => c2 (by rw [h_]; rfl)
  replace H := Option.bind_eq_some_iff.mp H
  obtain ⟨t548,A30,H⟩ := H
  have A3 := QR A30
  clear A30
  obtain rfl := Option.some.inj H
  go_enter Tryd.func51,Tryd.ntmps51
  go_wp2_with (first | ((with_reducible refine gate_callee (f := 68) rfl ?_); refine goesL_ (some 7) rfl rfl Tryd.func68 (by kernel_rfl) rfl #[.slice A0 l0.length c0] rfl (by (try simp only [List.map_toArray,List.map_cons,List.map_nil]); first | done | rfl | (simp only [List.length_drop,List.length_take]; rfl)) ?_; (with_reducible refine (spec_PatternText.calls k _ _ l0 t548 _ ?side1 ?side2 A3.out).mono ?_); (case side1 => repeat (first | exact HR0.out | (with_reducible refine Kd.C_alloc ?_ _) | (with_reducible refine Kd.C_drewN ?_ _) | (with_reducible refine Kd.C_drew ?_))); (case side2 => exact HC0.out); rintro e w4 ⟨rfl,hb⟩; refine ⟨_,rfl,?_⟩; have n0_ := QR (QM (by repeat (first | (with_reducible first | exact HB.out | apply QD | apply QB | apply QC) | exact HB.out)) hb); clear HB; revert n0_; intro HB; (try clear hb); (try clear hi)))
  go_ret
  exact ⟨by first | rfl | (simp [errW_none,errW_some] <;> rfl) | (simp [*,errW_none,errW_some] <;> rfl),by repeat (first | (with_reducible first | exact HB.out | apply QD | apply QB | apply QC) | exact HB.out)⟩

/-! ### spec_RulesText: function 23 -/
def spec_RulesText.f (k : Nat) (a0_0 : Int) (a0_1 : Int) (a0_2 : Bool) (a0_3 : Bool) (l0_4 : List Int) (l0_5 : List Int) (a0_6 : Int) (a0_7 : Int) : Option (ByteArray) := (spec_IsRules.f k a0_0 a0_1 a0_2 a0_3 l0_4 l0_5 a0_6 a0_7).bind fun t550 => (if t550 = true then ((spec_FormatInt.f k a0_0).bind fun t551 => (if 8 + t551.size ≤ 9223372036854775807 then (if ((⟨#[112, 108, 97, 121, 101, 114, 115, 61]⟩ : ByteArray) ++ t551).size + 6 ≤ 9223372036854775807 then ((spec_FormatInt.f k a0_1).bind fun t552 => (if (((⟨#[112, 108, 97, 121, 101, 114, 115, 61]⟩ : ByteArray) ++ t551) ++ (⟨#[32, 101, 97, 99, 104, 61]⟩ : ByteArray)).size + t552.size ≤ 9223372036854775807 then (if ((((⟨#[112, 108, 97, 121, 101, 114, 115, 61]⟩ : ByteArray) ++ t551) ++ (⟨#[32, 101, 97, 99, 104, 61]⟩ : ByteArray)) ++ t552).size + 7 ≤ 9223372036854775807 then ((spec_RulesWord.f k a0_0 a0_1 a0_2 a0_3 l0_4 l0_5 a0_6 a0_7).bind fun t553 => (if (((((⟨#[112, 108, 97, 121, 101, 114, 115, 61]⟩ : ByteArray) ++ t551) ++ (⟨#[32, 101, 97, 99, 104, 61]⟩ : ByteArray)) ++ t552) ++ (⟨#[32, 109, 97, 116, 99, 104, 61]⟩ : ByteArray)).size + t553.size ≤ 9223372036854775807 then (if ((((((⟨#[112, 108, 97, 121, 101, 114, 115, 61]⟩ : ByteArray) ++ t551) ++ (⟨#[32, 101, 97, 99, 104, 61]⟩ : ByteArray)) ++ t552) ++ (⟨#[32, 109, 97, 116, 99, 104, 61]⟩ : ByteArray)) ++ t553).size + 6 ≤ 9223372036854775807 then ((spec_l23Pattern.f k l0_4).bind fun t554 => (if (((((((⟨#[112, 108, 97, 121, 101, 114, 115, 61]⟩ : ByteArray) ++ t551) ++ (⟨#[32, 101, 97, 99, 104, 61]⟩ : ByteArray)) ++ t552) ++ (⟨#[32, 109, 97, 116, 99, 104, 61]⟩ : ByteArray)) ++ t553) ++ (⟨#[32, 119, 105, 108, 100, 61]⟩ : ByteArray)).size + t554.size ≤ 9223372036854775807 then (if ((((((((⟨#[112, 108, 97, 121, 101, 114, 115, 61]⟩ : ByteArray) ++ t551) ++ (⟨#[32, 101, 97, 99, 104, 61]⟩ : ByteArray)) ++ t552) ++ (⟨#[32, 109, 97, 116, 99, 104, 61]⟩ : ByteArray)) ++ t553) ++ (⟨#[32, 119, 105, 108, 100, 61]⟩ : ByteArray)) ++ t554).size + 6 ≤ 9223372036854775807 then ((spec_l23Pattern.f k l0_5).bind fun t555 => (if (((((((((⟨#[112, 108, 97, 121, 101, 114, 115, 61]⟩ : ByteArray) ++ t551) ++ (⟨#[32, 101, 97, 99, 104, 61]⟩ : ByteArray)) ++ t552) ++ (⟨#[32, 109, 97, 116, 99, 104, 61]⟩ : ByteArray)) ++ t553) ++ (⟨#[32, 119, 105, 108, 100, 61]⟩ : ByteArray)) ++ t554) ++ (⟨#[32, 115, 107, 105, 112, 61]⟩ : ByteArray)).size + t555.size ≤ 9223372036854775807 then (if ((((((((((⟨#[112, 108, 97, 121, 101, 114, 115, 61]⟩ : ByteArray) ++ t551) ++ (⟨#[32, 101, 97, 99, 104, 61]⟩ : ByteArray)) ++ t552) ++ (⟨#[32, 109, 97, 116, 99, 104, 61]⟩ : ByteArray)) ++ t553) ++ (⟨#[32, 119, 105, 108, 100, 61]⟩ : ByteArray)) ++ t554) ++ (⟨#[32, 115, 107, 105, 112, 61]⟩ : ByteArray)) ++ t555).size + 6 ≤ 9223372036854775807 then ((spec_FormatInt.f k a0_6).bind fun t556 => (if (((((((((((⟨#[112, 108, 97, 121, 101, 114, 115, 61]⟩ : ByteArray) ++ t551) ++ (⟨#[32, 101, 97, 99, 104, 61]⟩ : ByteArray)) ++ t552) ++ (⟨#[32, 109, 97, 116, 99, 104, 61]⟩ : ByteArray)) ++ t553) ++ (⟨#[32, 119, 105, 108, 100, 61]⟩ : ByteArray)) ++ t554) ++ (⟨#[32, 115, 107, 105, 112, 61]⟩ : ByteArray)) ++ t555) ++ (⟨#[32, 116, 97, 107, 101, 61]⟩ : ByteArray)).size + t556.size ≤ 9223372036854775807 then (if ((((((((((((⟨#[112, 108, 97, 121, 101, 114, 115, 61]⟩ : ByteArray) ++ t551) ++ (⟨#[32, 101, 97, 99, 104, 61]⟩ : ByteArray)) ++ t552) ++ (⟨#[32, 109, 97, 116, 99, 104, 61]⟩ : ByteArray)) ++ t553) ++ (⟨#[32, 119, 105, 108, 100, 61]⟩ : ByteArray)) ++ t554) ++ (⟨#[32, 115, 107, 105, 112, 61]⟩ : ByteArray)) ++ t555) ++ (⟨#[32, 116, 97, 107, 101, 61]⟩ : ByteArray)) ++ t556).size + 7 ≤ 9223372036854775807 then ((spec_FormatInt.f k a0_7).bind fun t557 => (if (((((((((((((⟨#[112, 108, 97, 121, 101, 114, 115, 61]⟩ : ByteArray) ++ t551) ++ (⟨#[32, 101, 97, 99, 104, 61]⟩ : ByteArray)) ++ t552) ++ (⟨#[32, 109, 97, 116, 99, 104, 61]⟩ : ByteArray)) ++ t553) ++ (⟨#[32, 119, 105, 108, 100, 61]⟩ : ByteArray)) ++ t554) ++ (⟨#[32, 115, 107, 105, 112, 61]⟩ : ByteArray)) ++ t555) ++ (⟨#[32, 116, 97, 107, 101, 61]⟩ : ByteArray)) ++ t556) ++ (⟨#[32, 108, 105, 109, 105, 116, 61]⟩ : ByteArray)).size + t557.size ≤ 9223372036854775807 then (some ((((((((((((((⟨#[112, 108, 97, 121, 101, 114, 115, 61]⟩ : ByteArray) ++ t551) ++ (⟨#[32, 101, 97, 99, 104, 61]⟩ : ByteArray)) ++ t552) ++ (⟨#[32, 109, 97, 116, 99, 104, 61]⟩ : ByteArray)) ++ t553) ++ (⟨#[32, 119, 105, 108, 100, 61]⟩ : ByteArray)) ++ t554) ++ (⟨#[32, 115, 107, 105, 112, 61]⟩ : ByteArray)) ++ t555) ++ (⟨#[32, 116, 97, 107, 101, 61]⟩ : ByteArray)) ++ t556) ++ (⟨#[32, 108, 105, 109, 105, 116, 61]⟩ : ByteArray)) ++ t557)) else (none))) else (none)) else (none))) else (none)) else (none))) else (none)) else (none))) else (none)) else (none))) else (none)) else (none))) else (none)) else (none))) else (some (⟨#[]⟩ : ByteArray)))
theorem spec_RulesText.mono : ∀ a0 a1 a2 a3 a4 a5 a6 a7 k, LeO (spec_RulesText.f k a0 a1 a2 a3 a4 a5 a6 a7) (spec_RulesText.f (k + 1) a0 a1 a2 a3 a4 a5 a6 a7) := by
 intro a0 a1 a2 a3 a4 a5 a6 a7 k
 unfold spec_RulesText.f
 repeat' first
   | (with_reducible exact spec_FormatInt.mono _ _)
   | (with_reducible exact spec_IsRules.mono _ _ _ _ _ _ _ _ _)
   | (with_reducible exact spec_RulesWord.mono _ _ _ _ _ _ _ _ _)
   | (with_reducible exact spec_l23Pattern.mono _ _)
   | (with_reducible exact LeO.refl _)
   | (with_reducible exact LeO.none _)
   | (with_reducible refine LeO.ite ?_ ?_)
   | (with_reducible refine LeO.bind ?_ (fun _ => ?_))
   | exact spec_FormatInt.mono _ _
   | exact spec_IsRules.mono _ _ _ _ _ _ _ _ _
   | exact spec_RulesWord.mono _ _ _ _ _ _ _ _ _
   | exact spec_l23Pattern.mono _ _
   | exact LeO.none _
   | refine LeO.ite ?_ ?_
   | refine LeO.bind ?_ (fun _ => ?_)
def spec_RulesText.T3 : Bool × List (List Nat × List Nat) := (true, [([], []), ([0], [0]), ([1], [1]), ([2], [2]), ([3], [3]), ([], []), ([5], [5]), ([6, 2], [6]), ([4, 7], [4, 7]), ([8], [8]), ([], []), ([10, 7], [10]), ([9, 11], [9, 11]), ([12], [12]), ([], []), ([14], [14]), ([15, 11], [15]), ([13, 16], [13, 16]), ([17], [17]), ([], []), ([19], [19]), ([20, 16], [20]), ([18, 21], [18, 21]), ([22], [22]), ([], []), ([24], [24]), ([25, 21], [25]), ([23, 26], [23, 26]), ([27], [27]), ([], []), ([29], [29]), ([30, 26], [30]), ([28, 31], [28, 31]), ([32, 31, 0, 1, 2, 3, 4, 5, 6, 7, 8, 9, 10, 11, 12, 13, 14, 15, 16, 17, 18, 19, 20, 21, 22, 23, 24, 25, 26, 27, 28, 29, 30, 31, 32], [32])])
def spec_RulesText.B3 : List Nat := [0, 1, 3, 7, 15, 0, 32, 103, 255, 511, 0, 1255, 4095, 8191, 0, 16384, 52455, 131071, 262143, 0, 524288, 1690855, 4194303, 8388607, 0, 16777216, 54119655, 134217727, 268435455, 0, 536870912, 1731841255, 4294967295, 8589934591]
theorem spec_RulesText.tab3 : rtab .any (opsOf Tryd.f23 3) = spec_RulesText.T3 := by kernel_rfl
theorem spec_RulesText.bits3 : waitsOk spec_RulesText.T3.2 spec_RulesText.B3 = true := by kernel_rfl
set_option maxHeartbeats 8000000 in
set_option maxRecDepth 100000 in
theorem spec_RulesText.calls (k : Nat) (a0_0 : Int) (a0_1 : Int) (a0_2 : Bool) (a0_3 : Bool) (A0_4 : Option Addr) (c0_4 : Nat) (l0_4 : List Int) (A0_5 : Option Addr) (c0_5 : Nat) (l0_5 : List Int) (a0_6 : Int) (a0_7 : Int) (r : ByteArray) (w : World) (hr0_4 : Kd.C (Kd.int .i64) w A0_4 l0_4.length l0_4) (hc0_4 : l0_4.length ≤ c0_4) (hr0_5 : Kd.C (Kd.int .i64) w A0_5 l0_5.length l0_5) (hc0_5 : l0_5.length ≤ c0_5) (h : spec_RulesText.f k a0_0 a0_1 a0_2 a0_3 l0_4 l0_5 a0_6 a0_7 = some r) :
  Calls Tryd.prog 23 #[.agg #[.int .i64 a0_0,.int .i64 a0_1,.bool a0_2,.bool a0_3,.slice A0_4 l0_4.length c0_4,.slice A0_5 l0_5.length c0_5,.int .i64 a0_6,.int .i64 a0_7]] w fun e w' => e = .returned (.string r) ∧ Below w.heap.size w w' := by
 have hu26 := Tryd.underlying26
 have HR0_4 := QR hr0_4
 have HC0_4 := QR hc0_4
 clear hr0_4 hc0_4
 have HR0_5 := QR hr0_5
 have HC0_5 := QR hc0_5
 clear hr0_5 hc0_5
 have HB := QR (Below.refl w.heap.size w)
 have H := h
 unfold spec_RulesText.f at H
 clear h
 replace H := Option.bind_eq_some_iff.mp H
 obtain ⟨t550,A20,H⟩ := H
 have A2 := QR A20
 clear A20
 by_cases c3 : t550 = true
 ·subst c3
  rw [if_pos rfl] at H
  replace H := Option.bind_eq_some_iff.mp H
  obtain ⟨t551,A40,H⟩ := H
  have A4 := QR A40
  clear A40
  by_cases c5 : 8 + t551.size ≤ 9223372036854775807
  ·rw [if_pos c5] at H
   have c5b0 := eq_true c5
   have c5b1 : decide (8 + t551.size ≤ 9223372036854775807) = true := decide_eq_true c5
   try have c5b2 : (9223372036854775807 < 8 + t551.size) = False := eq_false (Nat.not_lt.2 c5)
   by_cases c6 : ((⟨#[112,108,97,121,101,114,115,61]⟩ : ByteArray) ++ t551).size + 6 ≤ 9223372036854775807
   ·rw [if_pos c6] at H
    have c6b0 := eq_true c6
    have c6b1 : decide (((⟨#[112,108,97,121,101,114,115,61]⟩ : ByteArray) ++ t551).size + 6 ≤ 9223372036854775807) = true := decide_eq_true c6
    try have c6b2 : (9223372036854775807 < ((⟨#[112,108,97,121,101,114,115,61]⟩ : ByteArray) ++ t551).size + 6) = False := eq_false (Nat.not_lt.2 c6)
    have c6b3 := c6b2
    (try simp only [ByteArray.size_append,ba_size,List.size_toArray,List.length_cons,List.length_nil,Nat.reduceAdd,Nat.zero_add] at c6b3)
    replace H := Option.bind_eq_some_iff.mp H
    obtain ⟨t552,A70,H⟩ := H
    have A7 := QR A70
    clear A70
    by_cases c8 : (((⟨#[112,108,97,121,101,114,115,61]⟩ : ByteArray) ++ t551) ++ (⟨#[32,101,97,99,104,61]⟩ : ByteArray)).size + t552.size ≤ 9223372036854775807
    ·rw [if_pos c8] at H
     have c8b0 := eq_true c8
     have c8b1 : decide ((((⟨#[112,108,97,121,101,114,115,61]⟩ : ByteArray) ++ t551) ++ (⟨#[32,101,97,99,104,61]⟩ : ByteArray)).size + t552.size ≤ 9223372036854775807) = true := decide_eq_true c8
     try have c8b2 : (9223372036854775807 < (((⟨#[112,108,97,121,101,114,115,61]⟩ : ByteArray) ++ t551) ++ (⟨#[32,101,97,99,104,61]⟩ : ByteArray)).size + t552.size) = False := eq_false (Nat.not_lt.2 c8)
     have c8b3 := c8b2
     (try simp only [ByteArray.size_append,ba_size,List.size_toArray,List.length_cons,List.length_nil,Nat.reduceAdd,Nat.zero_add] at c8b3)
     by_cases c9 : ((((⟨#[112,108,97,121,101,114,115,61]⟩ : ByteArray) ++ t551) ++ (⟨#[32,101,97,99,104,61]⟩ : ByteArray)) ++ t552).size + 7 ≤ 9223372036854775807
     ·rw [if_pos c9] at H
      have c9b0 := eq_true c9
      have c9b1 : decide (((((⟨#[112,108,97,121,101,114,115,61]⟩ : ByteArray) ++ t551) ++ (⟨#[32,101,97,99,104,61]⟩ : ByteArray)) ++ t552).size + 7 ≤ 9223372036854775807) = true := decide_eq_true c9
      try have c9b2 : (9223372036854775807 < ((((⟨#[112,108,97,121,101,114,115,61]⟩ : ByteArray) ++ t551) ++ (⟨#[32,101,97,99,104,61]⟩ : ByteArray)) ++ t552).size + 7) = False := eq_false (Nat.not_lt.2 c9)
      have c9b3 := c9b2
      (try simp only [ByteArray.size_append,ba_size,List.size_toArray,List.length_cons,List.length_nil,Nat.reduceAdd,Nat.zero_add] at c9b3)
      replace H := Option.bind_eq_some_iff.mp H
      obtain ⟨t553,A100,H⟩ := H
      have A10 := QR A100
      clear A100
      by_cases c11 : (((((⟨#[112,108,97,121,101,114,115,61]⟩ : ByteArray) ++ t551) ++ (⟨#[32,101,97,99,104,61]⟩ : ByteArray)) ++ t552) ++ (⟨#[32,109,97,116,99,104,61]⟩ : ByteArray)).size + t553.size ≤ 9223372036854775807
      ·rw [if_pos c11] at H
       have c11b0 := eq_true c11
       have c11b1 : decide ((((((⟨#[112,108,97,121,101,114,115,61]⟩ : ByteArray) ++ t551) ++ (⟨#[32,101,97,99,104,61]⟩ : ByteArray)) ++ t552) ++ (⟨#[32,109,97,116,99,104,61]⟩ : ByteArray)).size + t553.size ≤ 9223372036854775807) = true := decide_eq_true c11
       try have c11b2 : (9223372036854775807 < (((((⟨#[112,108,97,121,101,114,115,61]⟩ : ByteArray) ++ t551) ++ (⟨#[32,101,97,99,104,61]⟩ : ByteArray)) ++ t552) ++ (⟨#[32,109,97,116,99,104,61]⟩ : ByteArray)).size + t553.size) = False := eq_false (Nat.not_lt.2 c11)
       have c11b3 := c11b2
       (try simp only [ByteArray.size_append,ba_size,List.size_toArray,List.length_cons,List.length_nil,Nat.reduceAdd,Nat.zero_add] at c11b3)
       by_cases c12 : ((((((⟨#[112,108,97,121,101,114,115,61]⟩ : ByteArray) ++ t551) ++ (⟨#[32,101,97,99,104,61]⟩ : ByteArray)) ++ t552) ++ (⟨#[32,109,97,116,99,104,61]⟩ : ByteArray)) ++ t553).size + 6 ≤ 9223372036854775807
       ·rw [if_pos c12] at H
        have c12b0 := eq_true c12
        have c12b1 : decide (((((((⟨#[112,108,97,121,101,114,115,61]⟩ : ByteArray) ++ t551) ++ (⟨#[32,101,97,99,104,61]⟩ : ByteArray)) ++ t552) ++ (⟨#[32,109,97,116,99,104,61]⟩ : ByteArray)) ++ t553).size + 6 ≤ 9223372036854775807) = true := decide_eq_true c12
        try have c12b2 : (9223372036854775807 < ((((((⟨#[112,108,97,121,101,114,115,61]⟩ : ByteArray) ++ t551) ++ (⟨#[32,101,97,99,104,61]⟩ : ByteArray)) ++ t552) ++ (⟨#[32,109,97,116,99,104,61]⟩ : ByteArray)) ++ t553).size + 6) = False := eq_false (Nat.not_lt.2 c12)
        have c12b3 := c12b2
        (try simp only [ByteArray.size_append,ba_size,List.size_toArray,List.length_cons,List.length_nil,Nat.reduceAdd,Nat.zero_add] at c12b3)
        replace H := Option.bind_eq_some_iff.mp H
        obtain ⟨t554,A130,H⟩ := H
        have A13 := QR A130
        clear A130
        by_cases c14 : (((((((⟨#[112,108,97,121,101,114,115,61]⟩ : ByteArray) ++ t551) ++ (⟨#[32,101,97,99,104,61]⟩ : ByteArray)) ++ t552) ++ (⟨#[32,109,97,116,99,104,61]⟩ : ByteArray)) ++ t553) ++ (⟨#[32,119,105,108,100,61]⟩ : ByteArray)).size + t554.size ≤ 9223372036854775807
        ·rw [if_pos c14] at H
         have c14b0 := eq_true c14
         have c14b1 : decide ((((((((⟨#[112,108,97,121,101,114,115,61]⟩ : ByteArray) ++ t551) ++ (⟨#[32,101,97,99,104,61]⟩ : ByteArray)) ++ t552) ++ (⟨#[32,109,97,116,99,104,61]⟩ : ByteArray)) ++ t553) ++ (⟨#[32,119,105,108,100,61]⟩ : ByteArray)).size + t554.size ≤ 9223372036854775807) = true := decide_eq_true c14
         try have c14b2 : (9223372036854775807 < (((((((⟨#[112,108,97,121,101,114,115,61]⟩ : ByteArray) ++ t551) ++ (⟨#[32,101,97,99,104,61]⟩ : ByteArray)) ++ t552) ++ (⟨#[32,109,97,116,99,104,61]⟩ : ByteArray)) ++ t553) ++ (⟨#[32,119,105,108,100,61]⟩ : ByteArray)).size + t554.size) = False := eq_false (Nat.not_lt.2 c14)
         have c14b3 := c14b2
         (try simp only [ByteArray.size_append,ba_size,List.size_toArray,List.length_cons,List.length_nil,Nat.reduceAdd,Nat.zero_add] at c14b3)
         by_cases c15 : ((((((((⟨#[112,108,97,121,101,114,115,61]⟩ : ByteArray) ++ t551) ++ (⟨#[32,101,97,99,104,61]⟩ : ByteArray)) ++ t552) ++ (⟨#[32,109,97,116,99,104,61]⟩ : ByteArray)) ++ t553) ++ (⟨#[32,119,105,108,100,61]⟩ : ByteArray)) ++ t554).size + 6 ≤ 9223372036854775807
         ·rw [if_pos c15] at H
          have c15b0 := eq_true c15
          have c15b1 : decide (((((((((⟨#[112,108,97,121,101,114,115,61]⟩ : ByteArray) ++ t551) ++ (⟨#[32,101,97,99,104,61]⟩ : ByteArray)) ++ t552) ++ (⟨#[32,109,97,116,99,104,61]⟩ : ByteArray)) ++ t553) ++ (⟨#[32,119,105,108,100,61]⟩ : ByteArray)) ++ t554).size + 6 ≤ 9223372036854775807) = true := decide_eq_true c15
          try have c15b2 : (9223372036854775807 < ((((((((⟨#[112,108,97,121,101,114,115,61]⟩ : ByteArray) ++ t551) ++ (⟨#[32,101,97,99,104,61]⟩ : ByteArray)) ++ t552) ++ (⟨#[32,109,97,116,99,104,61]⟩ : ByteArray)) ++ t553) ++ (⟨#[32,119,105,108,100,61]⟩ : ByteArray)) ++ t554).size + 6) = False := eq_false (Nat.not_lt.2 c15)
          have c15b3 := c15b2
          (try simp only [ByteArray.size_append,ba_size,List.size_toArray,List.length_cons,List.length_nil,Nat.reduceAdd,Nat.zero_add] at c15b3)
          replace H := Option.bind_eq_some_iff.mp H
          obtain ⟨t555,A160,H⟩ := H
          have A16 := QR A160
          clear A160
          by_cases c17 : (((((((((⟨#[112,108,97,121,101,114,115,61]⟩ : ByteArray) ++ t551) ++ (⟨#[32,101,97,99,104,61]⟩ : ByteArray)) ++ t552) ++ (⟨#[32,109,97,116,99,104,61]⟩ : ByteArray)) ++ t553) ++ (⟨#[32,119,105,108,100,61]⟩ : ByteArray)) ++ t554) ++ (⟨#[32,115,107,105,112,61]⟩ : ByteArray)).size + t555.size ≤ 9223372036854775807
          ·rw [if_pos c17] at H
           have c17b0 := eq_true c17
           have c17b1 : decide ((((((((((⟨#[112,108,97,121,101,114,115,61]⟩ : ByteArray) ++ t551) ++ (⟨#[32,101,97,99,104,61]⟩ : ByteArray)) ++ t552) ++ (⟨#[32,109,97,116,99,104,61]⟩ : ByteArray)) ++ t553) ++ (⟨#[32,119,105,108,100,61]⟩ : ByteArray)) ++ t554) ++ (⟨#[32,115,107,105,112,61]⟩ : ByteArray)).size + t555.size ≤ 9223372036854775807) = true := decide_eq_true c17
           try have c17b2 : (9223372036854775807 < (((((((((⟨#[112,108,97,121,101,114,115,61]⟩ : ByteArray) ++ t551) ++ (⟨#[32,101,97,99,104,61]⟩ : ByteArray)) ++ t552) ++ (⟨#[32,109,97,116,99,104,61]⟩ : ByteArray)) ++ t553) ++ (⟨#[32,119,105,108,100,61]⟩ : ByteArray)) ++ t554) ++ (⟨#[32,115,107,105,112,61]⟩ : ByteArray)).size + t555.size) = False := eq_false (Nat.not_lt.2 c17)
           have c17b3 := c17b2
           (try simp only [ByteArray.size_append,ba_size,List.size_toArray,List.length_cons,List.length_nil,Nat.reduceAdd,Nat.zero_add] at c17b3)
           by_cases c18 : ((((((((((⟨#[112,108,97,121,101,114,115,61]⟩ : ByteArray) ++ t551) ++ (⟨#[32,101,97,99,104,61]⟩ : ByteArray)) ++ t552) ++ (⟨#[32,109,97,116,99,104,61]⟩ : ByteArray)) ++ t553) ++ (⟨#[32,119,105,108,100,61]⟩ : ByteArray)) ++ t554) ++ (⟨#[32,115,107,105,112,61]⟩ : ByteArray)) ++ t555).size + 6 ≤ 9223372036854775807
           ·rw [if_pos c18] at H
            have c18b0 := eq_true c18
            have c18b1 : decide (((((((((((⟨#[112,108,97,121,101,114,115,61]⟩ : ByteArray) ++ t551) ++ (⟨#[32,101,97,99,104,61]⟩ : ByteArray)) ++ t552) ++ (⟨#[32,109,97,116,99,104,61]⟩ : ByteArray)) ++ t553) ++ (⟨#[32,119,105,108,100,61]⟩ : ByteArray)) ++ t554) ++ (⟨#[32,115,107,105,112,61]⟩ : ByteArray)) ++ t555).size + 6 ≤ 9223372036854775807) = true := decide_eq_true c18
            try have c18b2 : (9223372036854775807 < ((((((((((⟨#[112,108,97,121,101,114,115,61]⟩ : ByteArray) ++ t551) ++ (⟨#[32,101,97,99,104,61]⟩ : ByteArray)) ++ t552) ++ (⟨#[32,109,97,116,99,104,61]⟩ : ByteArray)) ++ t553) ++ (⟨#[32,119,105,108,100,61]⟩ : ByteArray)) ++ t554) ++ (⟨#[32,115,107,105,112,61]⟩ : ByteArray)) ++ t555).size + 6) = False := eq_false (Nat.not_lt.2 c18)
            have c18b3 := c18b2
            (try simp only [ByteArray.size_append,ba_size,List.size_toArray,List.length_cons,List.length_nil,Nat.reduceAdd,Nat.zero_add] at c18b3)
            replace H := Option.bind_eq_some_iff.mp H
            obtain ⟨t556,A190,H⟩ := H
            have A19 := QR A190
            clear A190
            by_cases c20 : (((((((((((⟨#[112,108,97,121,101,114,115,61]⟩ : ByteArray) ++ t551) ++ (⟨#[32,101,97,99,104,61]⟩ : ByteArray)) ++ t552) ++ (⟨#[32,109,97,116,99,104,61]⟩ : ByteArray)) ++ t553) ++ (⟨#[32,119,105,108,100,61]⟩ : ByteArray)) ++ t554) ++ (⟨#[32,115,107,105,112,61]⟩ : ByteArray)) ++ t555) ++ (⟨#[32,116,97,107,101,61]⟩ : ByteArray)).size + t556.size ≤ 9223372036854775807
            ·rw [if_pos c20] at H
             have c20b0 := eq_true c20
             have c20b1 : decide ((((((((((((⟨#[112,108,97,121,101,114,115,61]⟩ : ByteArray) ++ t551) ++ (⟨#[32,101,97,99,104,61]⟩ : ByteArray)) ++ t552) ++ (⟨#[32,109,97,116,99,104,61]⟩ : ByteArray)) ++ t553) ++ (⟨#[32,119,105,108,100,61]⟩ : ByteArray)) ++ t554) ++ (⟨#[32,115,107,105,112,61]⟩ : ByteArray)) ++ t555) ++ (⟨#[32,116,97,107,101,61]⟩ : ByteArray)).size + t556.size ≤ 9223372036854775807) = true := decide_eq_true c20
             try have c20b2 : (9223372036854775807 < (((((((((((⟨#[112,108,97,121,101,114,115,61]⟩ : ByteArray) ++ t551) ++ (⟨#[32,101,97,99,104,61]⟩ : ByteArray)) ++ t552) ++ (⟨#[32,109,97,116,99,104,61]⟩ : ByteArray)) ++ t553) ++ (⟨#[32,119,105,108,100,61]⟩ : ByteArray)) ++ t554) ++ (⟨#[32,115,107,105,112,61]⟩ : ByteArray)) ++ t555) ++ (⟨#[32,116,97,107,101,61]⟩ : ByteArray)).size + t556.size) = False := eq_false (Nat.not_lt.2 c20)
             have c20b3 := c20b2
             (try simp only [ByteArray.size_append,ba_size,List.size_toArray,List.length_cons,List.length_nil,Nat.reduceAdd,Nat.zero_add] at c20b3)
             by_cases c21 : ((((((((((((⟨#[112,108,97,121,101,114,115,61]⟩ : ByteArray) ++ t551) ++ (⟨#[32,101,97,99,104,61]⟩ : ByteArray)) ++ t552) ++ (⟨#[32,109,97,116,99,104,61]⟩ : ByteArray)) ++ t553) ++ (⟨#[32,119,105,108,100,61]⟩ : ByteArray)) ++ t554) ++ (⟨#[32,115,107,105,112,61]⟩ : ByteArray)) ++ t555) ++ (⟨#[32,116,97,107,101,61]⟩ : ByteArray)) ++ t556).size + 7 ≤ 9223372036854775807
             ·rw [if_pos c21] at H
              have c21b0 := eq_true c21
              have c21b1 : decide (((((((((((((⟨#[112,108,97,121,101,114,115,61]⟩ : ByteArray) ++ t551) ++ (⟨#[32,101,97,99,104,61]⟩ : ByteArray)) ++ t552) ++ (⟨#[32,109,97,116,99,104,61]⟩ : ByteArray)) ++ t553) ++ (⟨#[32,119,105,108,100,61]⟩ : ByteArray)) ++ t554) ++ (⟨#[32,115,107,105,112,61]⟩ : ByteArray)) ++ t555) ++ (⟨#[32,116,97,107,101,61]⟩ : ByteArray)) ++ t556).size + 7 ≤ 9223372036854775807) = true := decide_eq_true c21
              try have c21b2 : (9223372036854775807 < ((((((((((((⟨#[112,108,97,121,101,114,115,61]⟩ : ByteArray) ++ t551) ++ (⟨#[32,101,97,99,104,61]⟩ : ByteArray)) ++ t552) ++ (⟨#[32,109,97,116,99,104,61]⟩ : ByteArray)) ++ t553) ++ (⟨#[32,119,105,108,100,61]⟩ : ByteArray)) ++ t554) ++ (⟨#[32,115,107,105,112,61]⟩ : ByteArray)) ++ t555) ++ (⟨#[32,116,97,107,101,61]⟩ : ByteArray)) ++ t556).size + 7) = False := eq_false (Nat.not_lt.2 c21)
              have c21b3 := c21b2
              (try simp only [ByteArray.size_append,ba_size,List.size_toArray,List.length_cons,List.length_nil,Nat.reduceAdd,Nat.zero_add] at c21b3)
              replace H := Option.bind_eq_some_iff.mp H
              obtain ⟨t557,A220,H⟩ := H
              have A22 := QR A220
              clear A220
              by_cases c23 : (((((((((((((⟨#[112,108,97,121,101,114,115,61]⟩ : ByteArray) ++ t551) ++ (⟨#[32,101,97,99,104,61]⟩ : ByteArray)) ++ t552) ++ (⟨#[32,109,97,116,99,104,61]⟩ : ByteArray)) ++ t553) ++ (⟨#[32,119,105,108,100,61]⟩ : ByteArray)) ++ t554) ++ (⟨#[32,115,107,105,112,61]⟩ : ByteArray)) ++ t555) ++ (⟨#[32,116,97,107,101,61]⟩ : ByteArray)) ++ t556) ++ (⟨#[32,108,105,109,105,116,61]⟩ : ByteArray)).size + t557.size ≤ 9223372036854775807
              ·rw [if_pos c23] at H
               have c23b0 := eq_true c23
               have c23b1 : decide ((((((((((((((⟨#[112,108,97,121,101,114,115,61]⟩ : ByteArray) ++ t551) ++ (⟨#[32,101,97,99,104,61]⟩ : ByteArray)) ++ t552) ++ (⟨#[32,109,97,116,99,104,61]⟩ : ByteArray)) ++ t553) ++ (⟨#[32,119,105,108,100,61]⟩ : ByteArray)) ++ t554) ++ (⟨#[32,115,107,105,112,61]⟩ : ByteArray)) ++ t555) ++ (⟨#[32,116,97,107,101,61]⟩ : ByteArray)) ++ t556) ++ (⟨#[32,108,105,109,105,116,61]⟩ : ByteArray)).size + t557.size ≤ 9223372036854775807) = true := decide_eq_true c23
               try have c23b2 : (9223372036854775807 < (((((((((((((⟨#[112,108,97,121,101,114,115,61]⟩ : ByteArray) ++ t551) ++ (⟨#[32,101,97,99,104,61]⟩ : ByteArray)) ++ t552) ++ (⟨#[32,109,97,116,99,104,61]⟩ : ByteArray)) ++ t553) ++ (⟨#[32,119,105,108,100,61]⟩ : ByteArray)) ++ t554) ++ (⟨#[32,115,107,105,112,61]⟩ : ByteArray)) ++ t555) ++ (⟨#[32,116,97,107,101,61]⟩ : ByteArray)) ++ t556) ++ (⟨#[32,108,105,109,105,116,61]⟩ : ByteArray)).size + t557.size) = False := eq_false (Nat.not_lt.2 c23)
               have c23b3 := c23b2
               (try simp only [ByteArray.size_append,ba_size,List.size_toArray,List.length_cons,List.length_nil,Nat.reduceAdd,Nat.zero_add] at c23b3)
               obtain rfl := Option.some.inj H
               go_enter Tryd.func23,Tryd.ntmps23
               try go_wp2_with (first | ((with_reducible refine gate_dst (N := 1) rfl ?_); refine box_event ?hg (N := 1) ?hd (cs := #[.int .i64 a0_0,.int .i64 a0_1,.bool a0_2,.bool a0_3,.slice A0_4 l0_4.length c0_4,.slice A0_5 l0_5.length c0_5,.int .i64 a0_6,.int .i64 a0_7]) (t := 26) ?hr ?_; (case hd => rfl); (case hg => rfl); (case hr => first | (go_simp; done) | (go_simp; rfl)); intro gb549 hg w24 hbox hb; have n0_ := QR (QM (by repeat (first | (with_reducible first | exact HB.out | apply QD | apply QB | apply QC) | exact HB.out)) hb); have n1_ := QR (hbox); have n2_ := QR ((by rw [hg]; exact (below_size (by repeat (first | (with_reducible first | exact HB.out | apply QD | apply QB | apply QC) | exact HB.out))) : w.heap.size ≤ gb549)); have n3_ := QR ((by rw [hg]; exact (below_size (by repeat (first | (with_reducible first | exact HB.out | apply QD | apply QB | apply QC) | exact HB.out))) : w.heap.size ≤ gb549)); clear HB; revert n0_ n1_ n2_ n3_; intro HB BK549 GW549 GE549; clear hb hbox hg; have hcz25 := fun i => blk_cell BK549.out i; have hfz25 := fun i => blk_frozen BK549.out i) | ((with_reducible refine gate_callee (f := 48) rfl ?_); refine goesL_ (some 4) rfl rfl Tryd.func48 (by kernel_rfl) rfl #[.agg #[.int .i64 a0_0,.int .i64 a0_1,.bool a0_2,.bool a0_3,.slice A0_4 l0_4.length c0_4,.slice A0_5 l0_5.length c0_5,.int .i64 a0_6,.int .i64 a0_7]] rfl (by (try simp only [List.map_toArray,List.map_cons,List.map_nil]); first | done | rfl | (simp only [List.length_drop,List.length_take]; rfl)) ?_; (with_reducible refine (spec_IsRules.calls k a0_0 a0_1 a0_2 a0_3 _ _ l0_4 _ _ l0_5 a0_6 a0_7 true _ ?side1 ?side2 ?side3 ?side4 A2.out).mono ?_); (case side1 => repeat (first | exact (Kd.C_below HR0_4.out HB.out) | (with_reducible refine Kd.C_alloc ?_ _) | (with_reducible refine Kd.C_drewN ?_ _) | (with_reducible refine Kd.C_drew ?_))); (case side2 => exact HC0_4.out); (case side3 => repeat (first | exact (Kd.C_below HR0_5.out HB.out) | (with_reducible refine Kd.C_alloc ?_ _) | (with_reducible refine Kd.C_drewN ?_ _) | (with_reducible refine Kd.C_drew ?_))); (case side4 => exact HC0_5.out); rintro e w26 ⟨rfl,hb⟩; refine ⟨_,rfl,?_⟩; have n0_ := QR (blk_below (g := gb549) (o := _) (by (with_reducible repeat (first | refine blk_drewN ?_ _ | refine blk_drew ?_ | refine blk_alloc ?_ _)); exact BK549.out) hb); have n1_ := QR (QM (by repeat (first | (with_reducible first | exact HB.out | apply QD | apply QB | apply QC | refine QG ?_ GE549.out) | exact HB.out)) hb); clear BK549; clear HB; revert n0_ n1_; intro BK549 HB; (try clear hb); (try clear hi)))
               have n0_ := QR (blk_drew BK549.out)
               have n1_ := QR (QC HB.out)
               clear BK549
               clear HB
               revert n0_ n1_
               intro BK549 HB
               refine start_ (n := 34) (S := fun w' => w'.cell? ⟨gb549,0,none⟩ = some (.int .i64 a0_0) ∧ w'.cell? ⟨gb549,1,none⟩ = some (.int .i64 a0_1) ∧ w'.cell? ⟨gb549,2,none⟩ = some (.bool a0_2) ∧ w'.cell? ⟨gb549,3,none⟩ = some (.bool a0_3) ∧ w'.cell? ⟨gb549,4,none⟩ = some (.slice A0_4 l0_4.length c0_4) ∧ w'.cell? ⟨gb549,5,none⟩ = some (.slice A0_5 l0_5.length c0_5) ∧ w'.cell? ⟨gb549,6,none⟩ = some (.int .i64 a0_6) ∧ w'.cell? ⟨gb549,7,none⟩ = some (.int .i64 a0_7)) (ds := []) (ab 34 0) (by kernel_rfl) rfl rfl ⟨(blk_cell BK549.out 0).trans rfl,(blk_cell BK549.out 1).trans rfl,(blk_cell BK549.out 2).trans rfl,(blk_cell BK549.out 3).trans rfl,(blk_cell BK549.out 4).trans rfl,(blk_cell BK549.out 5).trans rfl,(blk_cell BK549.out 6).trans rfl,(blk_cell BK549.out 7).trans rfl⟩ (fun hHeld => ?_); refine with_tabW spec_RulesText.tab3 spec_RulesText.bits3 (fun HT_ HW_ => ?_)
               generalize w26.drew = w27 at BK549 HB hHeld ⊢
               refine QL (i := 0) (N := some 6) (v := ?_) (a' := ?_) (ab 34 1) rfl rfl (QH HT_.out (by kernel_rfl)) (fun _ _ _ h => h) (Or.inl ⟨by rfl,?_⟩) ?_ ?_
               rotate_left
               ·intro w'
                go_simp
                with_reducible rfl
               rotate_left
               ·simp only [Act.put,QN,QO,QP,QE,QF]
                rfl
               refine QL (i := 5) (N := some 11) (v := ?_) (a' := ?_) (ab 34 33) rfl rfl (QH HT_.out (by kernel_rfl)) (fun _ _ _ h => h) (Or.inl ⟨by rfl,?_⟩) ?_ ?_
               rotate_left
               ·intro w'
                go_simp
                with_reducible rfl
               rotate_left
               ·simp only [Act.put,QN,QO,QP,QE,QF]
                rfl
               refine QL (i := 14) (N := some 20) (v := ?_) (a' := ?_) (ab 34 16417) rfl rfl (QH HT_.out (by kernel_rfl)) (fun _ _ _ h => h) (Or.inl ⟨by rfl,?_⟩) ?_ ?_
               rotate_left
               ·intro w'
                go_simp
                with_reducible rfl
               rotate_left
               ·simp only [Act.put,QN,QO,QP,QE,QF]
                rfl
               refine QL (i := 19) (N := some 25) (v := ?_) (a' := ?_) (ab 34 540705) rfl rfl (QH HT_.out (by kernel_rfl)) (fun _ _ _ h => h) (Or.inl ⟨by rfl,?_⟩) ?_ ?_
               rotate_left
               ·intro w'
                go_simp
                with_reducible rfl
               rotate_left
               ·simp only [Act.put,QN,QO,QP,QE,QF]
                rfl
               refine QL (i := 24) (N := some 30) (v := ?_) (a' := ?_) (ab 34 17317921) rfl rfl (QH HT_.out (by kernel_rfl)) (fun _ _ _ h => h) (Or.inl ⟨by rfl,?_⟩) ?_ ?_
               rotate_left
               ·intro w'
                go_simp
                with_reducible rfl
               rotate_left
               ·simp only [Act.put,QN,QO,QP,QE,QF]
                rfl
               refine QL (i := 29) (N := some 35) (v := ?_) (a' := ?_) (ab 34 554188833) rfl rfl (QH HT_.out (by kernel_rfl)) (fun _ _ _ h => h) (Or.inl ⟨by rfl,?_⟩) ?_ ?_
               rotate_left
               ·intro w'
                go_simp
                with_reducible rfl
               rotate_left
               ·simp only [Act.put,QN,QO,QP,QE,QF]
                rfl
               refine take_ (i := 1) (N := some 7) (v := ?_) (a' := ?_) (ab 34 554188835) rfl rfl (take_ofW HT_.out HW_.out (by kernel_rfl)) (fun _ _ _ h => h) (Or.inl ⟨by rfl,?_⟩) hHeld ?_ ?_
               rotate_left
               ·rintro w' ⟨s0,s1,s2,s3,s4,s5,s6,s7⟩
                go_simp
                with_reducible rfl
               rotate_left
               ·simp only [Act.put,QN,QO,QP,QE,QF]
                rfl
               refine take_ (i := 6) (N := some 12) (v := ?_) (a' := ?_) (ab 34 554188899) rfl rfl (take_ofW HT_.out HW_.out (by kernel_rfl)) (fun _ _ _ h => h) (Or.inl ⟨by rfl,?_⟩) hHeld ?_ ?_
               rotate_left
               ·rintro w' ⟨s0,s1,s2,s3,s4,s5,s6,s7⟩
                go_simp
                with_reducible rfl
               rotate_left
               ·simp only [Act.put,QN,QO,QP,QE,QF]
                rfl
               refine take_ (i := 10) (N := some 16) (v := ?_) (a' := ?_) (ab 34 554189923) rfl rfl (take_ofW HT_.out HW_.out (by kernel_rfl)) (fun _ _ _ h => h) (Or.inl ⟨by rfl,?_⟩) hHeld ?_ ?_
               rotate_left
               ·rintro w' ⟨s0,s1,s2,s3,s4,s5,s6,s7⟩
                go_simp
                with_reducible rfl
               rotate_left
               ·simp only [Act.put,QN,QO,QP,QE,QF]
                rfl
               refine take_ (i := 15) (N := some 21) (v := ?_) (a' := ?_) (ab 34 554222691) rfl rfl (take_ofW HT_.out HW_.out (by kernel_rfl)) (fun _ _ _ h => h) (Or.inl ⟨by rfl,?_⟩) hHeld ?_ ?_
               rotate_left
               ·rintro w' ⟨s0,s1,s2,s3,s4,s5,s6,s7⟩
                go_simp
                with_reducible rfl
               rotate_left
               ·simp only [Act.put,QN,QO,QP,QE,QF]
                rfl
               refine take_ (i := 20) (N := some 26) (v := ?_) (a' := ?_) (ab 34 555271267) rfl rfl (take_ofW HT_.out HW_.out (by kernel_rfl)) (fun _ _ _ h => h) (Or.inl ⟨by rfl,?_⟩) hHeld ?_ ?_
               rotate_left
               ·rintro w' ⟨s0,s1,s2,s3,s4,s5,s6,s7⟩
                go_simp
                with_reducible rfl
               rotate_left
               ·simp only [Act.put,QN,QO,QP,QE,QF]
                rfl
               refine take_ (i := 25) (N := some 31) (v := ?_) (a' := ?_) (ab 34 588825699) rfl rfl (take_ofW HT_.out HW_.out (by kernel_rfl)) (fun _ _ _ h => h) (Or.inl ⟨by rfl,?_⟩) hHeld ?_ ?_
               rotate_left
               ·rintro w' ⟨s0,s1,s2,s3,s4,s5,s6,s7⟩
                go_simp
                with_reducible rfl
               rotate_left
               ·simp only [Act.put,QN,QO,QP,QE,QF]
                rfl
               refine take_ (i := 30) (N := some 36) (v := ?_) (a' := ?_) (ab 34 1662567523) rfl rfl (take_ofW HT_.out HW_.out (by kernel_rfl)) (fun _ _ _ h => h) (Or.inl ⟨by rfl,?_⟩) hHeld ?_ ?_
               rotate_left
               ·rintro w' ⟨s0,s1,s2,s3,s4,s5,s6,s7⟩
                go_simp
                with_reducible rfl
               rotate_left
               ·simp only [Act.put,QN,QO,QP,QE,QF]
                rfl
               refine one_ (i := 2) (N := some 8) (ab 34 1662567527) rfl rfl (one_of HT_.out (by kernel_rfl)) (by decide) (fun K hK => ?_)
               refine goes_ Tryd.func49 (by kernel_rfl) rfl #[.int .i64 a0_0] (by rfl) rfl rfl (by (try simp only [List.map_toArray,List.map_cons,List.map_nil]); first | done | rfl | (simp only [List.length_drop,List.length_take]; rfl)) ?_
               with_reducible refine (spec_FormatInt.calls k a0_0 t551 _ A4.out).mono ?_
               rintro e w28 ⟨rfl,hb⟩
               refine ⟨_,rfl,?_⟩
               have n0_ := QR (blk_below (g := gb549) (o := _) (by (with_reducible repeat (first | refine blk_drewN ?_ _ | refine blk_drew ?_ | refine blk_alloc ?_ _)); exact BK549.out) hb)
               have n1_ := QR (QM (by repeat (first | (with_reducible first | exact HB.out | apply QD | apply QB | apply QC | refine QG ?_ GE549.out) | exact HB.out)) hb)
               clear BK549
               clear HB
               revert n0_ n1_
               intro BK549 HB
               (try clear hb)
               (try clear hb2)
               (try clear hk)
               (try clear hi)
               refine hK.out _ _ (by (repeat' apply And.intro) <;> first | exact (blk_cell BK549.out _).trans rfl) (fun hHeld => ?_)
               clear hK K
               refine norm_ (a' := ?_) ?_ ?_
               rotate_left
               ·show Act.put _ (some 8) _ = _
                simp only [Act.put,QN,QO,QP,QE,QF]
                rfl
               refine QL (i := 3) (N := some 9) (v := ?_) (a' := ?_) (ab 34 1662567535) rfl rfl (QH HT_.out (by kernel_rfl)) (fun _ _ _ h => h) (Or.inl ⟨by rfl,?_⟩) ?_ ?_
               rotate_left
               ·intro w'
                go_simp
                with_reducible rfl
               rotate_left
               ·simp only [Act.put,QN,QO,QP,QE,QF]
                rfl
               refine QL (i := 4) (N := some 10) (v := ?_) (a' := ?_) (ab 34 1662567551) rfl rfl (QH HT_.out (by kernel_rfl)) (fun _ _ _ h => h) (Or.inl ⟨by rfl,?_⟩) ?_ ?_
               rotate_left
               ·intro w'
                go_simp
                with_reducible rfl
               rotate_left
               ·simp only [Act.put,QN,QO,QP,QE,QF]
                rfl
               refine one_ (i := 7) (N := some 13) (ab 34 1662567679) rfl rfl (one_of HT_.out (by kernel_rfl)) (by decide) (fun K hK => ?_)
               refine goes_ Tryd.func49 (by kernel_rfl) rfl #[.int .i64 a0_1] (by rfl) rfl rfl (by (try simp only [List.map_toArray,List.map_cons,List.map_nil]); first | done | rfl | (simp only [List.length_drop,List.length_take]; rfl)) ?_
               with_reducible refine (spec_FormatInt.calls k a0_1 t552 _ A7.out).mono ?_
               rintro e w29 ⟨rfl,hb⟩
               refine ⟨_,rfl,?_⟩
               have n0_ := QR (blk_below (g := gb549) (o := _) (by (with_reducible repeat (first | refine blk_drewN ?_ _ | refine blk_drew ?_ | refine blk_alloc ?_ _)); exact BK549.out) hb)
               have n1_ := QR (QM (by repeat (first | (with_reducible first | exact HB.out | apply QD | apply QB | apply QC | refine QG ?_ GE549.out) | exact HB.out)) hb)
               clear BK549
               clear HB
               revert n0_ n1_
               intro BK549 HB
               (try clear hb)
               (try clear hb2)
               (try clear hk)
               (try clear hi)
               refine hK.out _ _ (by (repeat' apply And.intro) <;> first | exact (blk_cell BK549.out _).trans rfl) (fun hHeld => ?_)
               clear hK K
               refine norm_ (a' := ?_) ?_ ?_
               rotate_left
               ·show Act.put _ (some 13) _ = _
                simp only [Act.put,QN,QO,QP,QE,QF]
                rfl
               refine QL (i := 8) (N := some 14) (v := ?_) (a' := ?_) (ab 34 1662567935) rfl rfl (QH HT_.out (by kernel_rfl)) (fun _ _ _ h => h) (Or.inl ⟨by rfl,?_⟩) ?_ ?_
               rotate_left
               ·intro w'
                go_simp
                with_reducible rfl
               rotate_left
               ·simp only [Act.put,QN,QO,QP,QE,QF]
                rfl
               refine QL (i := 9) (N := some 15) (v := ?_) (a' := ?_) (ab 34 1662568447) rfl rfl (QH HT_.out (by kernel_rfl)) (fun _ _ _ h => h) (Or.inl ⟨by rfl,?_⟩) ?_ ?_
               rotate_left
               ·intro w'
                go_simp
                with_reducible rfl
               rotate_left
               ·simp only [Act.put,QN,QO,QP,QE,QF]
                rfl
               refine one_ (i := 11) (N := some 17) (ab 34 1662570495) rfl rfl (one_of HT_.out (by kernel_rfl)) (by decide) (fun K hK => ?_)
               refine goes_ Tryd.func50 (by kernel_rfl) rfl #[.agg #[.int .i64 a0_0,.int .i64 a0_1,.bool a0_2,.bool a0_3,.slice A0_4 l0_4.length c0_4,.slice A0_5 l0_5.length c0_5,.int .i64 a0_6,.int .i64 a0_7]] (by rfl) rfl rfl (by (try simp only [List.map_toArray,List.map_cons,List.map_nil]); first | done | rfl | (simp only [List.length_drop,List.length_take]; rfl)) ?_
               with_reducible refine (spec_RulesWord.calls k a0_0 a0_1 a0_2 a0_3 _ _ l0_4 _ _ l0_5 a0_6 a0_7 t553 _ ?side1 ?side2 ?side3 ?side4 A10.out).mono ?_
               (case side1 => repeat (first | exact (Kd.C_below HR0_4.out HB.out) | (with_reducible refine Kd.C_alloc ?_ _) | (with_reducible refine Kd.C_drewN ?_ _) | (with_reducible refine Kd.C_drew ?_)))
               (case side2 => exact HC0_4.out)
               (case side3 => repeat (first | exact (Kd.C_below HR0_5.out HB.out) | (with_reducible refine Kd.C_alloc ?_ _) | (with_reducible refine Kd.C_drewN ?_ _) | (with_reducible refine Kd.C_drew ?_)))
               (case side4 => exact HC0_5.out)
               rintro e w30 ⟨rfl,hb⟩
               refine ⟨_,rfl,?_⟩
               have n0_ := QR (blk_below (g := gb549) (o := _) (by (with_reducible repeat (first | refine blk_drewN ?_ _ | refine blk_drew ?_ | refine blk_alloc ?_ _)); exact BK549.out) hb)
               have n1_ := QR (QM (by repeat (first | (with_reducible first | exact HB.out | apply QD | apply QB | apply QC | refine QG ?_ GE549.out) | exact HB.out)) hb)
               clear BK549
               clear HB
               revert n0_ n1_
               intro BK549 HB
               (try clear hb)
               (try clear hb2)
               (try clear hk)
               (try clear hi)
               refine hK.out _ _ (by (repeat' apply And.intro) <;> first | exact (blk_cell BK549.out _).trans rfl) (fun hHeld => ?_)
               clear hK K
               refine norm_ (a' := ?_) ?_ ?_
               rotate_left
               ·show Act.put _ (some 17) _ = _
                simp only [Act.put,QN,QO,QP,QE,QF]
                rfl
               refine QL (i := 12) (N := some 18) (v := ?_) (a' := ?_) (ab 34 1662574591) rfl rfl (QH HT_.out (by kernel_rfl)) (fun _ _ _ h => h) (Or.inl ⟨by rfl,?_⟩) ?_ ?_
               rotate_left
               ·intro w'
                go_simp
                with_reducible rfl
               rotate_left
               ·simp only [Act.put,QN,QO,QP,QE,QF]
                rfl
               refine QL (i := 13) (N := some 19) (v := ?_) (a' := ?_) (ab 34 1662582783) rfl rfl (QH HT_.out (by kernel_rfl)) (fun _ _ _ h => h) (Or.inl ⟨by rfl,?_⟩) ?_ ?_
               rotate_left
               ·intro w'
                go_simp
                with_reducible rfl
               rotate_left
               ·simp only [Act.put,QN,QO,QP,QE,QF]
                rfl
               refine one_ (i := 16) (N := some 22) (ab 34 1662648319) rfl rfl (one_of HT_.out (by kernel_rfl)) (by decide) (fun K hK => ?_)
               refine goes_ Tryd.func51 (by kernel_rfl) rfl #[.slice A0_4 l0_4.length c0_4] (by rfl) rfl rfl (by (try simp only [List.map_toArray,List.map_cons,List.map_nil]); first | done | rfl | (simp only [List.length_drop,List.length_take]; rfl)) ?_
               with_reducible refine (spec_l23Pattern.calls k _ _ l0_4 t554 _ ?side1 ?side2 A13.out).mono ?_
               (case side1 => repeat (first | exact (Kd.C_below HR0_4.out HB.out) | (with_reducible refine Kd.C_alloc ?_ _) | (with_reducible refine Kd.C_drewN ?_ _) | (with_reducible refine Kd.C_drew ?_)))
               (case side2 => exact HC0_4.out)
               rintro e w31 ⟨rfl,hb⟩
               refine ⟨_,rfl,?_⟩
               have n0_ := QR (blk_below (g := gb549) (o := _) (by (with_reducible repeat (first | refine blk_drewN ?_ _ | refine blk_drew ?_ | refine blk_alloc ?_ _)); exact BK549.out) hb)
               have n1_ := QR (QM (by repeat (first | (with_reducible first | exact HB.out | apply QD | apply QB | apply QC | refine QG ?_ GE549.out) | exact HB.out)) hb)
               clear BK549
               clear HB
               revert n0_ n1_
               intro BK549 HB
               (try clear hb)
               (try clear hb2)
               (try clear hk)
               (try clear hi)
               refine hK.out _ _ (by (repeat' apply And.intro) <;> first | exact (blk_cell BK549.out _).trans rfl) (fun hHeld => ?_)
               clear hK K
               refine norm_ (a' := ?_) ?_ ?_
               rotate_left
               ·show Act.put _ (some 22) _ = _
                simp only [Act.put,QN,QO,QP,QE,QF]
                rfl
               refine QL (i := 17) (N := some 23) (v := ?_) (a' := ?_) (ab 34 1662779391) rfl rfl (QH HT_.out (by kernel_rfl)) (fun _ _ _ h => h) (Or.inl ⟨by rfl,?_⟩) ?_ ?_
               rotate_left
               ·intro w'
                go_simp
                with_reducible rfl
               rotate_left
               ·simp only [Act.put,QN,QO,QP,QE,QF]
                rfl
               refine QL (i := 18) (N := some 24) (v := ?_) (a' := ?_) (ab 34 1663041535) rfl rfl (QH HT_.out (by kernel_rfl)) (fun _ _ _ h => h) (Or.inl ⟨by rfl,?_⟩) ?_ ?_
               rotate_left
               ·intro w'
                go_simp
                with_reducible rfl
               rotate_left
               ·simp only [Act.put,QN,QO,QP,QE,QF]
                rfl
               refine one_ (i := 21) (N := some 27) (ab 34 1665138687) rfl rfl (one_of HT_.out (by kernel_rfl)) (by decide) (fun K hK => ?_)
               refine goes_ Tryd.func51 (by kernel_rfl) rfl #[.slice A0_5 l0_5.length c0_5] (by rfl) rfl rfl (by (try simp only [List.map_toArray,List.map_cons,List.map_nil]); first | done | rfl | (simp only [List.length_drop,List.length_take]; rfl)) ?_
               with_reducible refine (spec_l23Pattern.calls k _ _ l0_5 t555 _ ?side1 ?side2 A16.out).mono ?_
               (case side1 => repeat (first | exact (Kd.C_below HR0_5.out HB.out) | (with_reducible refine Kd.C_alloc ?_ _) | (with_reducible refine Kd.C_drewN ?_ _) | (with_reducible refine Kd.C_drew ?_)))
               (case side2 => exact HC0_5.out)
               rintro e w32 ⟨rfl,hb⟩
               refine ⟨_,rfl,?_⟩
               have n0_ := QR (blk_below (g := gb549) (o := _) (by (with_reducible repeat (first | refine blk_drewN ?_ _ | refine blk_drew ?_ | refine blk_alloc ?_ _)); exact BK549.out) hb)
               have n1_ := QR (QM (by repeat (first | (with_reducible first | exact HB.out | apply QD | apply QB | apply QC | refine QG ?_ GE549.out) | exact HB.out)) hb)
               clear BK549
               clear HB
               revert n0_ n1_
               intro BK549 HB
               (try clear hb)
               (try clear hb2)
               (try clear hk)
               (try clear hi)
               refine hK.out _ _ (by (repeat' apply And.intro) <;> first | exact (blk_cell BK549.out _).trans rfl) (fun hHeld => ?_)
               clear hK K
               refine norm_ (a' := ?_) ?_ ?_
               rotate_left
               ·show Act.put _ (some 27) _ = _
                simp only [Act.put,QN,QO,QP,QE,QF]
                rfl
               refine QL (i := 22) (N := some 28) (v := ?_) (a' := ?_) (ab 34 1669332991) rfl rfl (QH HT_.out (by kernel_rfl)) (fun _ _ _ h => h) (Or.inl ⟨by rfl,?_⟩) ?_ ?_
               rotate_left
               ·intro w'
                go_simp
                with_reducible rfl
               rotate_left
               ·simp only [Act.put,QN,QO,QP,QE,QF]
                rfl
               refine QL (i := 23) (N := some 29) (v := ?_) (a' := ?_) (ab 34 1677721599) rfl rfl (QH HT_.out (by kernel_rfl)) (fun _ _ _ h => h) (Or.inl ⟨by rfl,?_⟩) ?_ ?_
               rotate_left
               ·intro w'
                go_simp
                with_reducible rfl
               rotate_left
               ·simp only [Act.put,QN,QO,QP,QE,QF]
                rfl
               refine one_ (i := 26) (N := some 32) (ab 34 1744830463) rfl rfl (one_of HT_.out (by kernel_rfl)) (by decide) (fun K hK => ?_)
               refine goes_ Tryd.func49 (by kernel_rfl) rfl #[.int .i64 a0_6] (by rfl) rfl rfl (by (try simp only [List.map_toArray,List.map_cons,List.map_nil]); first | done | rfl | (simp only [List.length_drop,List.length_take]; rfl)) ?_
               with_reducible refine (spec_FormatInt.calls k a0_6 t556 _ A19.out).mono ?_
               rintro e w33 ⟨rfl,hb⟩
               refine ⟨_,rfl,?_⟩
               have n0_ := QR (blk_below (g := gb549) (o := _) (by (with_reducible repeat (first | refine blk_drewN ?_ _ | refine blk_drew ?_ | refine blk_alloc ?_ _)); exact BK549.out) hb)
               have n1_ := QR (QM (by repeat (first | (with_reducible first | exact HB.out | apply QD | apply QB | apply QC | refine QG ?_ GE549.out) | exact HB.out)) hb)
               clear BK549
               clear HB
               revert n0_ n1_
               intro BK549 HB
               (try clear hb)
               (try clear hb2)
               (try clear hk)
               (try clear hi)
               refine hK.out _ _ (by (repeat' apply And.intro) <;> first | exact (blk_cell BK549.out _).trans rfl) (fun hHeld => ?_)
               clear hK K
               refine norm_ (a' := ?_) ?_ ?_
               rotate_left
               ·show Act.put _ (some 32) _ = _
                simp only [Act.put,QN,QO,QP,QE,QF]
                rfl
               refine QL (i := 27) (N := some 33) (v := ?_) (a' := ?_) (ab 34 1879048191) rfl rfl (QH HT_.out (by kernel_rfl)) (fun _ _ _ h => h) (Or.inl ⟨by rfl,?_⟩) ?_ ?_
               rotate_left
               ·intro w'
                go_simp
                with_reducible rfl
               rotate_left
               ·simp only [Act.put,QN,QO,QP,QE,QF]
                rfl
               refine QL (i := 28) (N := some 34) (v := ?_) (a' := ?_) (ab 34 2147483647) rfl rfl (QH HT_.out (by kernel_rfl)) (fun _ _ _ h => h) (Or.inl ⟨by rfl,?_⟩) ?_ ?_
               rotate_left
               ·intro w'
                go_simp
                with_reducible rfl
               rotate_left
               ·simp only [Act.put,QN,QO,QP,QE,QF]
                rfl
               refine one_ (i := 31) (N := some 37) (ab 34 4294967295) rfl rfl (one_of HT_.out (by kernel_rfl)) (by decide) (fun K hK => ?_)
               refine goes_ Tryd.func49 (by kernel_rfl) rfl #[.int .i64 a0_7] (by rfl) rfl rfl (by (try simp only [List.map_toArray,List.map_cons,List.map_nil]); first | done | rfl | (simp only [List.length_drop,List.length_take]; rfl)) ?_
               with_reducible refine (spec_FormatInt.calls k a0_7 t557 _ A22.out).mono ?_
               rintro e w34 ⟨rfl,hb⟩
               refine ⟨_,rfl,?_⟩
               have n0_ := QR (blk_below (g := gb549) (o := _) (by (with_reducible repeat (first | refine blk_drewN ?_ _ | refine blk_drew ?_ | refine blk_alloc ?_ _)); exact BK549.out) hb)
               have n1_ := QR (QM (by repeat (first | (with_reducible first | exact HB.out | apply QD | apply QB | apply QC | refine QG ?_ GE549.out) | exact HB.out)) hb)
               clear BK549
               clear HB
               revert n0_ n1_
               intro BK549 HB
               (try clear hb)
               (try clear hb2)
               (try clear hk)
               (try clear hi)
               refine hK.out _ _ (by (repeat' apply And.intro) <;> first | exact (blk_cell BK549.out _).trans rfl) (fun hHeld => ?_)
               clear hK K
               refine norm_ (a' := ?_) ?_ ?_
               rotate_left
               ·show Act.put _ (some 37) _ = _
                simp only [Act.put,QN,QO,QP,QE,QF]
                rfl
               refine QL (i := 32) (N := some 38) (v := ?_) (a' := ?_) (ab 34 8589934591) rfl rfl (QH HT_.out (by kernel_rfl)) (fun _ _ _ h => h) (Or.inl ⟨by rfl,?_⟩) ?_ ?_
               rotate_left
               ·intro w'
                go_simp
                with_reducible rfl
               rotate_left
               ·simp only [Act.put,QN,QO,QP,QE,QF]
                rfl
               refine QL (i := 33) (N := some 2) (v := ?_) (a' := ?_) (ab 34 17179869183) rfl rfl (QH HT_.out (by kernel_rfl)) (fun _ _ _ h => h) (Or.inl ⟨by rfl,?_⟩) ?_ ?_
               rotate_left
               ·intro w'
                go_simp
                with_reducible rfl
               rotate_left
               ·simp only [Act.put,QN,QO,QP,QE,QF]
                rfl
               refine done_ (done_of HT_.out (by kernel_rfl)) ?_
               try go_wp2
               go_ret
               exact ⟨by first | rfl | (simp [errW_none,errW_some] <;> rfl) | (simp [*,errW_none,errW_some] <;> rfl),by repeat (first | (with_reducible first | exact HB.out | apply QD | apply QB | apply QC | refine QG ?_ GE549.out) | exact HB.out)⟩
              ·rw [if_neg c23] at H
               exact absurd H (by simp)
             ·rw [if_neg c21] at H
              exact absurd H (by simp)
            ·rw [if_neg c20] at H
             exact absurd H (by simp)
           ·rw [if_neg c18] at H
            exact absurd H (by simp)
          ·rw [if_neg c17] at H
           exact absurd H (by simp)
         ·rw [if_neg c15] at H
          exact absurd H (by simp)
        ·rw [if_neg c14] at H
         exact absurd H (by simp)
       ·rw [if_neg c12] at H
        exact absurd H (by simp)
      ·rw [if_neg c11] at H
       exact absurd H (by simp)
     ·rw [if_neg c9] at H
      exact absurd H (by simp)
    ·rw [if_neg c8] at H
     exact absurd H (by simp)
   ·rw [if_neg c6] at H
    exact absurd H (by simp)
  ·rw [if_neg c5] at H
   exact absurd H (by simp)
 ·replace c3 := Bool.eq_false_iff.mpr c3
  subst c3
  rw [if_neg (show ¬ (false = true) by decide)] at H
  obtain rfl := Option.some.inj H
  go_enter Tryd.func23,Tryd.ntmps23
  go_wp2_with (first | ((with_reducible refine gate_dst (N := 1) rfl ?_); refine box_event ?hg (N := 1) ?hd (cs := #[.int .i64 a0_0,.int .i64 a0_1,.bool a0_2,.bool a0_3,.slice A0_4 l0_4.length c0_4,.slice A0_5 l0_5.length c0_5,.int .i64 a0_6,.int .i64 a0_7]) (t := 26) ?hr ?_; (case hd => rfl); (case hg => rfl); (case hr => first | (go_simp; done) | (go_simp; rfl)); intro gb549 hg w35 hbox hb; have n0_ := QR (QM (by repeat (first | (with_reducible first | exact HB.out | apply QD | apply QB | apply QC) | exact HB.out)) hb); have n1_ := QR (hbox); have n2_ := QR ((by rw [hg]; exact (below_size (by repeat (first | (with_reducible first | exact HB.out | apply QD | apply QB | apply QC) | exact HB.out))) : w.heap.size ≤ gb549)); have n3_ := QR ((by rw [hg]; exact (below_size (by repeat (first | (with_reducible first | exact HB.out | apply QD | apply QB | apply QC) | exact HB.out))) : w.heap.size ≤ gb549)); clear HB; revert n0_ n1_ n2_ n3_; intro HB BK549 GW549 GE549; clear hb hbox hg; have hcz36 := fun i => blk_cell BK549.out i; have hfz36 := fun i => blk_frozen BK549.out i) | ((with_reducible refine gate_callee (f := 48) rfl ?_); refine goesL_ (some 4) rfl rfl Tryd.func48 (by kernel_rfl) rfl #[.agg #[.int .i64 a0_0,.int .i64 a0_1,.bool a0_2,.bool a0_3,.slice A0_4 l0_4.length c0_4,.slice A0_5 l0_5.length c0_5,.int .i64 a0_6,.int .i64 a0_7]] rfl (by (try simp only [List.map_toArray,List.map_cons,List.map_nil]); first | done | rfl | (simp only [List.length_drop,List.length_take]; rfl)) ?_; (with_reducible refine (spec_IsRules.calls k a0_0 a0_1 a0_2 a0_3 _ _ l0_4 _ _ l0_5 a0_6 a0_7 false _ ?side1 ?side2 ?side3 ?side4 A2.out).mono ?_); (case side1 => repeat (first | exact (Kd.C_below HR0_4.out HB.out) | (with_reducible refine Kd.C_alloc ?_ _) | (with_reducible refine Kd.C_drewN ?_ _) | (with_reducible refine Kd.C_drew ?_))); (case side2 => exact HC0_4.out); (case side3 => repeat (first | exact (Kd.C_below HR0_5.out HB.out) | (with_reducible refine Kd.C_alloc ?_ _) | (with_reducible refine Kd.C_drewN ?_ _) | (with_reducible refine Kd.C_drew ?_))); (case side4 => exact HC0_5.out); rintro e w37 ⟨rfl,hb⟩; refine ⟨_,rfl,?_⟩; have n0_ := QR (blk_below (g := gb549) (o := _) (by (with_reducible repeat (first | refine blk_drewN ?_ _ | refine blk_drew ?_ | refine blk_alloc ?_ _)); exact BK549.out) hb); have n1_ := QR (QM (by repeat (first | (with_reducible first | exact HB.out | apply QD | apply QB | apply QC | refine QG ?_ GE549.out) | exact HB.out)) hb); clear BK549; clear HB; revert n0_ n1_; intro BK549 HB; (try clear hb); (try clear hi)))
  go_ret
  exact ⟨by first | rfl | (simp [errW_none,errW_some] <;> rfl) | (simp [*,errW_none,errW_some] <;> rfl),by repeat (first | (with_reducible first | exact HB.out | apply QD | apply QB | apply QC | refine QG ?_ GE549.out) | exact HB.out)⟩

/-! ### spec_EasyRules: function 36 -/
def spec_EasyRules.f  : Option (Int × Int × Bool × Bool × List Int × List Int × Int × Int) := some (3, 5, true, true, (([206] : List Int)), (([212] : List Int)), 1, 200)
set_option maxHeartbeats 8000000 in
set_option maxRecDepth 100000 in
theorem spec_EasyRules.calls  (r1 : Int) (r2 : Int) (r3 : Bool) (r4 : Bool) (r5 : List Int) (r6 : List Int) (r7 : Int) (r8 : Int) (w : World) (h : spec_EasyRules.f  = some (r1, r2, r3, r4, r5, r6, r7, r8)) :
  Calls Tryd.prog 36 #[] w fun e w' => ∃ v4_ v5_ : Value,e = .returned (.agg #[.int .i64 r1,.int .i64 r2,.bool r3,.bool r4,v4_,v5_,.int .i64 r7,.int .i64 r8]) ∧ Kd.R (Kd.int .i64) 3 w' w.heap.size (fun k_ => some k_ ≠ (v5_ : Value).ownBlock) v4_ r5 ∧ Kd.R (Kd.int .i64) 3 w' w.heap.size (fun k_ => some k_ ≠ (v4_ : Value).ownBlock) v5_ r6 ∧ Below w.heap.size w w' := by
 have hu26 := Tryd.underlying26
 have HB := QR (Below.refl w.heap.size w)
 have H : (some (3,5,true,true,(([206] : List Int)),(([212] : List Int)),1,200)) = some (r1,r2,r3,r4,r5,r6,r7,r8) := h
 clear h
 obtain ⟨y559,hy559⟩ : ∃ y_ : List Int,y_ = (([206] : List Int)) := ⟨_,rfl⟩
 replace H : (some (3,5,true,true,y559,(([212] : List Int)),1,200)) = some (r1,r2,r3,r4,r5,r6,r7,r8) := by first | (rw [hy559]; with_reducible exact H) | (have H2_ := (Option.bind_some _ _).symm.trans H; rw [hy559]; with_reducible exact H2_) | (have H2_ := (Option.bind_some _ _).symm.trans H; with_reducible exact H2_) | with_reducible exact H | (rw [hy559]; exact H) | exact H
 have Ny559 := QR hy559
 clear hy559
 obtain ⟨y562,hy562⟩ : ∃ y_ : List Int,y_ = (([212] : List Int)) := ⟨_,rfl⟩
 replace H : (some (3,5,true,true,y559,y562,1,200)) = some (r1,r2,r3,r4,r5,r6,r7,r8) := by first | (rw [hy562]; with_reducible exact H) | (have H2_ := (Option.bind_some _ _).symm.trans H; rw [hy562]; with_reducible exact H2_) | (have H2_ := (Option.bind_some _ _).symm.trans H; with_reducible exact H2_) | with_reducible exact H | (rw [hy562]; exact H) | exact H
 have Ny562 := QR hy562
 clear hy562
 simp only [Option.some.injEq,Prod.mk.injEq] at H
 obtain ⟨rfl,rfl,rfl,rfl,rfl,rfl,rfl,rfl⟩ := H
 go_enter Tryd.func36,Tryd.ntmps36
 go_wp2_with (first | ((with_reducible refine gate_dst (N := 0) rfl ?_); refine box_event ?hg (N := 0) ?hd (cs := #[.int .i64 0,.int .i64 0,.bool false,.bool false,.slice none 0 0,.slice none 0 0,.int .i64 0,.int .i64 0]) (t := 26) ?hr ?_; (case hd => rfl); (case hg => rfl); (case hr => first | (go_simp; done) | (go_simp; rfl)); intro gb558 hg w1 hbox hb; have n0_ := QR (QM (by repeat (first | (with_reducible first | exact HB.out | apply QD | apply QB | apply QC) | exact HB.out)) hb); have n1_ := QR (hbox); have n2_ := QR ((by rw [hg]; exact (below_size (by repeat (first | (with_reducible first | exact HB.out | apply QD | apply QB | apply QC) | exact HB.out))) : w.heap.size ≤ gb558)); have n3_ := QR ((by rw [hg]; exact (below_size (by repeat (first | (with_reducible first | exact HB.out | apply QD | apply QB | apply QC) | exact HB.out))) : w.heap.size ≤ gb558)); clear HB; revert n0_ n1_ n2_ n3_; intro HB BK558 GW558 GE558; clear hb hbox hg) | ((with_reducible refine gate_dst (N := 1) rfl ?_); refine Kd.R_lit (Kd.int .i64) _ 3 ?hg (N := 1) ?hd (xs := ([206] : List Int)) (inner := [.int .i64 206]) (ok := fun _ => True) (okp := fun _ => True) ?hr ?hp (fun _ hk => hk) trivial (Below.refl _ _) (Nat.le_refl _) (by simp) ?_; (case hd => rfl); (case hg => rfl); (case hr => first | (go_simp; done) | (go_simp; rfl)); (case hp => exact (Reps.one (show Kd.M (Kd.int .i64) _ _ _ 206 [.int .i64 206] from rfl) (Reps.none _ _))); intro v560 w2 ho3 hb hg_ hnew_; clear hg_ hnew_; (first | rw [← Ny559.out] at ho3 | (simp only [Int.reduceToNat] at ho3; rw [← Ny559.out] at ho3)); have n0_ := QR (Kd.R_lower ho3 (below_size (by repeat (first | (with_reducible first | exact HB.out | apply QD | apply QB | apply QC | refine QG ?_ GE558.out) | exact HB.out)))); have n1_ := QR (blk_below (g := gb558) (o := _) (by (with_reducible repeat (first | refine blk_drewN ?_ _ | refine blk_drew ?_ | refine blk_alloc ?_ _)); exact BK558.out) hb); have n2_ := QR (QM (by repeat (first | (with_reducible first | exact HB.out | apply QD | apply QB | apply QC | refine QG ?_ GE558.out) | exact HB.out)) hb); clear BK558; clear HB; revert n0_ n1_ n2_; intro HO561 BK558 HB; clear hb ho3) | ((with_reducible refine gate_dst (N := 2) rfl ?_); refine Kd.R_lit (Kd.int .i64) _ 3 ?hg (N := 2) ?hd (xs := ([212] : List Int)) (inner := [.int .i64 212]) (ok := fun _ => True) (okp := fun _ => True) ?hr ?hp (fun _ hk => hk) trivial (Below.refl _ _) (Nat.le_refl _) (by simp) ?_; (case hd => rfl); (case hg => rfl); (case hr => first | (go_simp; done) | (go_simp; rfl)); (case hp => exact (Reps.one (show Kd.M (Kd.int .i64) _ _ _ 212 [.int .i64 212] from rfl) (Reps.none _ _))); intro v563 w4 ho5 hb hg_ hnew_; clear hg_ hnew_; (first | rw [← Ny562.out] at ho5 | (simp only [Int.reduceToNat] at ho5; rw [← Ny562.out] at ho5)); have n0_ := QR (Kd.R_elder' (by (with_reducible repeat (first | apply QI | apply QJ | apply QK)); exact HO561.out) (Kd.R_base ho5) hb); have n1_ := QR (Kd.R_lower (Kd.R_new' ho5 (Kd.R_lt (by (with_reducible repeat (first | apply QI | apply QJ | apply QK)); exact HO561.out))) (below_size (by repeat (first | (with_reducible first | exact HB.out | apply QD | apply QB | apply QC | refine QG ?_ GE558.out) | exact HB.out)))); have n2_ := QR (blk_below (g := gb558) (o := _) (by (with_reducible repeat (first | refine blk_drewN ?_ _ | refine blk_drew ?_ | refine blk_alloc ?_ _)); exact BK558.out) hb); have n3_ := QR (QM (by repeat (first | (with_reducible first | exact HB.out | apply QD | apply QB | apply QC | refine QG ?_ GE558.out) | exact HB.out)) hb); clear HO561; clear BK558; clear HB; revert n0_ n1_ n2_ n3_; intro HO561 HO564 BK558 HB; clear hb ho5; obtain ⟨Ao6,co6,eo6⟩ := Kd.R_slice HO564.out; subst eo6; obtain ⟨Ao7,co7,eo7⟩ := Kd.R_slice HO561.out; subst eo7; have hcz8 := fun i => blk_cell BK558.out i; have hfz8 := fun i => blk_frozen BK558.out i))
 refine bodyPost_ret (results_cell_row rfl _ _ gb558 26 #[.int .i64 3,.int .i64 5,.bool true,.bool true,.slice Ao7 y559.length co7,.slice Ao6 y562.length co6,.int .i64 1,.int .i64 200] (0,0) _ rfl (by (with_reducible repeat (first | refine blk_drewN ?_ _ | refine blk_drew ?_ | refine blk_alloc ?_ _)); refine blk_put (cs := #[.int .i64 3,.int .i64 5,.bool true,.bool true,.slice Ao7 y559.length co7,.slice Ao6 y562.length co6,.int .i64 1,.int .i64 0]) ?_ 7 _ rfl; (with_reducible repeat (first | refine blk_drewN ?_ _ | refine blk_drew ?_ | refine blk_alloc ?_ _)); refine blk_put (cs := #[.int .i64 3,.int .i64 5,.bool true,.bool true,.slice Ao7 y559.length co7,.slice Ao6 y562.length co6,.int .i64 0,.int .i64 0]) ?_ 6 _ rfl; (with_reducible repeat (first | refine blk_drewN ?_ _ | refine blk_drew ?_ | refine blk_alloc ?_ _)); refine blk_put (cs := #[.int .i64 3,.int .i64 5,.bool true,.bool true,.slice Ao7 y559.length co7,.slice none 0 0,.int .i64 0,.int .i64 0]) ?_ 5 _ rfl; (with_reducible repeat (first | refine blk_drewN ?_ _ | refine blk_drew ?_ | refine blk_alloc ?_ _)); refine blk_put (cs := #[.int .i64 3,.int .i64 5,.bool true,.bool true,.slice none 0 0,.slice none 0 0,.int .i64 0,.int .i64 0]) ?_ 4 _ rfl; (with_reducible repeat (first | refine blk_drewN ?_ _ | refine blk_drew ?_ | refine blk_alloc ?_ _)); refine blk_put (cs := #[.int .i64 3,.int .i64 5,.bool true,.bool false,.slice none 0 0,.slice none 0 0,.int .i64 0,.int .i64 0]) ?_ 3 _ rfl; (with_reducible repeat (first | refine blk_drewN ?_ _ | refine blk_drew ?_ | refine blk_alloc ?_ _)); refine blk_put (cs := #[.int .i64 3,.int .i64 5,.bool false,.bool false,.slice none 0 0,.slice none 0 0,.int .i64 0,.int .i64 0]) ?_ 2 _ rfl; (with_reducible repeat (first | refine blk_drewN ?_ _ | refine blk_drew ?_ | refine blk_alloc ?_ _)); refine blk_put (cs := #[.int .i64 3,.int .i64 0,.bool false,.bool false,.slice none 0 0,.slice none 0 0,.int .i64 0,.int .i64 0]) ?_ 1 _ rfl; (with_reducible repeat (first | refine blk_drewN ?_ _ | refine blk_drew ?_ | refine blk_alloc ?_ _)); refine blk_put (cs := #[.int .i64 0,.int .i64 0,.bool false,.bool false,.slice none 0 0,.slice none 0 0,.int .i64 0,.int .i64 0]) ?_ 0 _ rfl; (with_reducible repeat (first | refine blk_drewN ?_ _ | refine blk_drew ?_ | refine blk_alloc ?_ _)); exact BK558.out) Tryd.underlying26 rfl (by kernel_rfl)) rfl ?_
 exact ⟨_,_,by first | rfl | (simp [errW_none,errW_some] <;> rfl) | (simp [*,errW_none,errW_some] <;> rfl),by (with_reducible repeat (first | apply QI | apply QJ | apply QK)); exact Kd.R_mono (far_r (far_r (far_r (far_r (far_r (far_r (far_r (far_r (Kd.R_types HO561.out BK558.out (by decide)))))))))) (fun _ hk => hk.1.2),by (with_reducible repeat (first | apply QI | apply QJ | apply QK)); exact Kd.R_mono (far_r (far_r (far_r (far_r (far_r (far_r (far_r (far_r (Kd.R_types HO564.out BK558.out (by decide)))))))))) (fun _ hk => hk.1.2),by repeat (first | (with_reducible first | exact HB.out | apply QD | apply QB | apply QC | refine QG ?_ GE558.out) | exact HB.out)⟩

/-! ### spec_l1Str: function 37 -/
def spec_l1Str.f (s0_0 : List Int) (s0_1 : Int) (s0_2 : Int) (l1 : List ByteArray) : Option (ByteArray × Int × Int) := (spec_l1Below.f s0_0 s0_1 s0_2 (l1.length : Int)).bind fun bt565 => (if 0 ≤ bt565.1 then (if bt565.1 < (l1.length : Int) then (some (rdOf ByteArray.empty l1 bt565.1, bt565.2.1, bt565.2.2)) else (none)) else (none))
set_option maxHeartbeats 8000000 in
set_option maxRecDepth 100000 in
theorem spec_l1Str.calls (g : Nat) (s0_0 : List Int) (s0_1 : Int) (s0_2 : Int) (A1 : Option Addr) (c1 : Nat) (l1 : List ByteArray) (r1 : ByteArray) (r2 : Int) (r3 : Int) (w0 w : World) (hI : IsS80 w0 w g s0_0 s0_1 s0_2) (hB : Below w0.heap.size w0 w) (hr1 : Kd.C Kd.string w A1 l1.length l1) (hc1 : l1.length ≤ c1) (hf1 : ∀ ad, A1 = some ad → 0 < l1.length → ad.block ≠ g) (h : spec_l1Str.f s0_0 s0_1 s0_2 l1 = some (r1, r2, r3)) :
  Calls Tryd.prog 37 #[.pointer (some ⟨g,0,none⟩),.slice A1 l1.length c1] w fun e w' => e = .returned (.string r1) ∧ IsS80 w0 w' g s0_0 r2 r3 ∧ Below w0.heap.size w0 w' ∧ KeepBut w w' g none := by
 have HR1 := QR hr1
 have HC1 := QR hc1
 clear hr1 hc1
 have HI0 := QR hI
 have HK := QR (KeepBut.refl w g none)
 have HL := QR hB.size
 clear hI
 have HW0 := QR hB.size
 have HB := QR hB
 clear hB
 have H : ((spec_l1Below.f s0_0 s0_1 s0_2 (l1.length : Int)).bind fun bt565 => (if 0 ≤ bt565.1 then (if bt565.1 < (l1.length : Int) then (some (rdOf ByteArray.empty l1 bt565.1,bt565.2.1,bt565.2.2)) else (none)) else (none))) = some (r1,r2,r3) := h
 clear h
 replace H := Option.bind_eq_some_iff.mp H
 obtain ⟨⟨t565,t566,t567⟩,A30,H⟩ := H
 replace H : (if 0 ≤ t565 then (if t565 < (l1.length : Int) then (some (rdOf ByteArray.empty l1 t565,t566,t567)) else (none)) else (none)) = some (r1,r2,r3) := H
 have A3 := QR A30
 clear A30
 by_cases c4 : 0 ≤ t565
 ·rw [if_pos c4] at H
  have c4b0 : decide (0 ≤ t565) = true := decide_eq_true c4
  clear c4
  by_cases c5 : t565 < (l1.length : Int)
  ·rw [if_pos c5] at H
   have c5b0 : decide (t565 < (l1.length : Int)) = true := decide_eq_true c5
   clear c5
   simp only [Option.some.injEq,Prod.mk.injEq] at H
   obtain ⟨rfl,rfl,rfl⟩ := H
   go_enter Tryd.func37,Tryd.ntmps37
   go_wp2_with (first | ((with_reducible refine gate_callee (f := 38) rfl ?_); refine goesL_ (some 9) rfl rfl Tryd.func38 (by kernel_rfl) rfl #[.pointer (some ⟨g,0,none⟩),.int .i64 (l1.length : Int)] rfl (by (try simp only [List.map_toArray,List.map_cons,List.map_nil]); first | done | rfl | (simp only [List.length_drop,List.length_take]; rfl)) ?_; (with_reducible refine (spec_l1Below.calls g s0_0 s0_1 s0_2 (l1.length : Int) t565 t566 t567 w0 _ ?side1 ?side2 A3.out).mono ?_); (case side1 => repeat (first | (with_reducible first | exact HI0.out | apply IsS80.alloc | apply IsS80.drewN | apply IsS80.drew | apply IsS80.set_1 | apply IsS80.set_2) | exact HI0.out)); (case side2 => repeat (first | (with_reducible first | exact HB.out | apply QD | apply QB | apply QC | refine QG ?_ (IsS80.ge HI0.out)) | exact HB.out)); rintro e w6 ⟨rfl,hi,hb,hk⟩; refine ⟨_,rfl,?_⟩; have n0_ := QR (KeepBut.trans (by repeat (first | (with_reducible first | exact HK.out | apply KeepBut.set_ | apply keep_drewN | apply keep_drew | apply keep_alloc) | exact HK.out)) hk (.inl rfl)); have n1_ := QR (hb); have n2_ := QR (hi); clear HK; clear HB; clear HI0; revert n0_ n1_ n2_; intro HK HB HI0; (try clear hb); (try clear hk); (try clear hi); have p568 : 0 ≤ (t565 : Int) := of_decide_eq_true (by first | (with_reducible assumption) | assumption); have q568 : t565 < (l1.length : Int) := of_decide_eq_true (by first | (with_reducible assumption) | assumption); obtain ⟨ad568,e568,hx568_0⟩ := Kd.at_string HR1.out t565 p568 q568; cases e568; replace hx568_0 := keep_cell HK.out hx568_0 (by first | (rw [add_block]; exact hf1 _ rfl (by omega)) | exact hf1 _ rfl (by omega) | exact hf1 ad568 rfl (by omega)); replace p568 := eq_true p568; replace q568 := eq_true q568))
   go_ret
   exact ⟨by first | rfl | (simp [errW_none,errW_some] <;> rfl) | (simp [*,errW_none,errW_some] <;> rfl),by repeat (first | (with_reducible first | exact HI0.out | apply IsS80.alloc | apply IsS80.drewN | apply IsS80.drew | apply IsS80.set_1 | apply IsS80.set_2) | exact HI0.out),by repeat (first | (with_reducible first | exact HB.out | apply QD | apply QB | apply QC | refine QG ?_ (IsS80.ge HI0.out)) | exact HB.out),by repeat (first | (with_reducible first | exact HK.out | apply KeepBut.set_ | apply keep_drewN | apply keep_drew | apply keep_alloc) | exact HK.out)⟩
  ·rw [if_neg c5] at H
   exact absurd H (by simp)
 ·rw [if_neg c4] at H
  exact absurd H (by simp)

/-! ### spec_DrawParseRules: function 13 -/
def spec_DrawParseRules.f (k : Nat) (l0 : List Int) : Option (ByteArray) := (spec_l1New.f k l0).bind fun bt569 => ((spec_l22Any.f k bt569.1 bt569.2.1 bt569.2.2).bind fun bt573 => ((spec_RulesText.f k bt573.1 bt573.2.1 bt573.2.2.1 bt573.2.2.2.1 bt573.2.2.2.2.1 bt573.2.2.2.2.2.1 bt573.2.2.2.2.2.2.1 bt573.2.2.2.2.2.2.2.1).bind fun t587 => ((spec_EasyRules.f).bind fun bt588 => ((spec_RulesText.f k bt588.1 bt588.2.1 bt588.2.2.1 bt588.2.2.2.1 bt588.2.2.2.2.1 bt588.2.2.2.2.2.1 bt588.2.2.2.2.2.2.1 bt588.2.2.2.2.2.2.2).bind fun t600 => (if t600.size + 1 ≤ 9223372036854775807 then ((spec_l1Str.f bt569.1 bt573.2.2.2.2.2.2.2.2.1 bt573.2.2.2.2.2.2.2.2.2 (([t587, t587, t587, t600, t600 ++ (⟨#[32]⟩ : ByteArray), (⟨#[]⟩ : ByteArray), (⟨#[112, 108, 97, 121, 101, 114, 115, 61, 51]⟩ : ByteArray), (⟨#[112, 108, 97, 121, 101, 114, 115, 61, 51, 32, 101, 97, 99, 104, 61, 53, 32, 109, 97, 116, 99, 104, 61, 110, 111, 110, 101, 32, 119, 105, 108, 100, 61, 45, 32, 115, 107, 105, 112, 61, 45, 32, 116, 97, 107, 101, 61, 49, 32, 108, 105, 109, 105, 116, 61, 57]⟩ : ByteArray), (⟨#[112, 108, 97, 121, 101, 114, 115, 61, 51, 32, 101, 97, 99, 104, 61, 53, 32, 109, 97, 116, 99, 104, 61, 98, 111, 116, 104, 32, 119, 105, 108, 100, 61, 120, 32, 115, 107, 105, 112, 61, 45, 32, 116, 97, 107, 101, 61, 49, 32, 108, 105, 109, 105, 116, 61, 57]⟩ : ByteArray), (⟨#[112, 108, 97, 121, 101, 114, 115, 61, 51, 32, 101, 97, 99, 104, 61, 53, 32, 109, 97, 116, 99, 104, 61, 98, 111, 116, 104, 32, 119, 105, 108, 100, 61, 45, 32, 115, 107, 105, 112, 61, 45, 32, 116, 97, 107, 101, 61, 49, 32, 108, 105, 109, 105, 116, 61, 48, 57]⟩ : ByteArray), (⟨#[101, 97, 99, 104, 61, 53, 32, 112, 108, 97, 121, 101, 114, 115, 61, 51, 32, 109, 97, 116, 99, 104, 61, 98, 111, 116, 104, 32, 119, 105, 108, 100, 61, 45, 32, 115, 107, 105, 112, 61, 45, 32, 116, 97, 107, 101, 61, 49, 32, 108, 105, 109, 105, 116, 61, 57]⟩ : ByteArray)] : List ByteArray))).bind fun bt604 => (some bt604.1)) else (none))))))
theorem spec_DrawParseRules.mono : ∀ a0 k, LeO (spec_DrawParseRules.f k a0) (spec_DrawParseRules.f (k + 1) a0) := by
 intro a0 k
 unfold spec_DrawParseRules.f
 repeat' first
   | (with_reducible exact spec_RulesText.mono _ _ _ _ _ _ _ _ _)
   | (with_reducible exact spec_l1New.mono _ _)
   | (with_reducible exact spec_l22Any.mono _ _ _ _)
   | (with_reducible exact LeO.refl _)
   | (with_reducible exact LeO.none _)
   | (with_reducible refine LeO.ite ?_ ?_)
   | (with_reducible refine LeO.bind ?_ (fun _ => ?_))
   | exact spec_RulesText.mono _ _ _ _ _ _ _ _ _
   | exact spec_l1New.mono _ _
   | exact spec_l22Any.mono _ _ _ _
   | exact LeO.none _
   | refine LeO.ite ?_ ?_
   | refine LeO.bind ?_ (fun _ => ?_)
set_option maxHeartbeats 8000000 in
set_option maxRecDepth 100000 in
theorem spec_DrawParseRules.calls (k : Nat) (A0 : Option Addr) (c0 : Nat) (l0 : List Int) (r : ByteArray) (w : World) (hr0 : Kd.C (Kd.int .u8) w A0 l0.length l0) (hc0 : l0.length ≤ c0) (h : spec_DrawParseRules.f k l0 = some r) :
  Calls Tryd.prog 13 #[.slice A0 l0.length c0] w fun e w' => e = .returned (.string r) ∧ Below w.heap.size w w' := by
 have HR0 := QR hr0
 have HC0 := QR hc0
 clear hr0 hc0
 have HB := QR (Below.refl w.heap.size w)
 have H : ((spec_l1New.f k l0).bind fun bt569 => ((spec_l22Any.f k bt569.1 bt569.2.1 bt569.2.2).bind fun bt573 => ((spec_RulesText.f k bt573.1 bt573.2.1 bt573.2.2.1 bt573.2.2.2.1 bt573.2.2.2.2.1 bt573.2.2.2.2.2.1 bt573.2.2.2.2.2.2.1 bt573.2.2.2.2.2.2.2.1).bind fun t587 => ((spec_EasyRules.f).bind fun bt588 => ((spec_RulesText.f k bt588.1 bt588.2.1 bt588.2.2.1 bt588.2.2.2.1 bt588.2.2.2.2.1 bt588.2.2.2.2.2.1 bt588.2.2.2.2.2.2.1 bt588.2.2.2.2.2.2.2).bind fun t600 => (if t600.size + 1 ≤ 9223372036854775807 then ((spec_l1Str.f bt569.1 bt573.2.2.2.2.2.2.2.2.1 bt573.2.2.2.2.2.2.2.2.2 (([t587,t587,t587,t600,t600 ++ (⟨#[32]⟩ : ByteArray),(⟨#[]⟩ : ByteArray),(⟨#[112,108,97,121,101,114,115,61,51]⟩ : ByteArray),(⟨#[112,108,97,121,101,114,115,61,51,32,101,97,99,104,61,53,32,109,97,116,99,104,61,110,111,110,101,32,119,105,108,100,61,45,32,115,107,105,112,61,45,32,116,97,107,101,61,49,32,108,105,109,105,116,61,57]⟩ : ByteArray),(⟨#[112,108,97,121,101,114,115,61,51,32,101,97,99,104,61,53,32,109,97,116,99,104,61,98,111,116,104,32,119,105,108,100,61,120,32,115,107,105,112,61,45,32,116,97,107,101,61,49,32,108,105,109,105,116,61,57]⟩ : ByteArray),(⟨#[112,108,97,121,101,114,115,61,51,32,101,97,99,104,61,53,32,109,97,116,99,104,61,98,111,116,104,32,119,105,108,100,61,45,32,115,107,105,112,61,45,32,116,97,107,101,61,49,32,108,105,109,105,116,61,48,57]⟩ : ByteArray),(⟨#[101,97,99,104,61,53,32,112,108,97,121,101,114,115,61,51,32,109,97,116,99,104,61,98,111,116,104,32,119,105,108,100,61,45,32,115,107,105,112,61,45,32,116,97,107,101,61,49,32,108,105,109,105,116,61,57]⟩ : ByteArray)] : List ByteArray))).bind fun bt604 => (some bt604.1)) else (none))))))) = some r := h
 clear h
 replace H := Option.bind_eq_some_iff.mp H
 obtain ⟨⟨t569,t570,t571⟩,A20,H⟩ := H
 replace H : ((spec_l22Any.f k t569 t570 t571).bind fun bt573 => ((spec_RulesText.f k bt573.1 bt573.2.1 bt573.2.2.1 bt573.2.2.2.1 bt573.2.2.2.2.1 bt573.2.2.2.2.2.1 bt573.2.2.2.2.2.2.1 bt573.2.2.2.2.2.2.2.1).bind fun t587 => ((spec_EasyRules.f).bind fun bt588 => ((spec_RulesText.f k bt588.1 bt588.2.1 bt588.2.2.1 bt588.2.2.2.1 bt588.2.2.2.2.1 bt588.2.2.2.2.2.1 bt588.2.2.2.2.2.2.1 bt588.2.2.2.2.2.2.2).bind fun t600 => (if t600.size + 1 ≤ 9223372036854775807 then ((spec_l1Str.f t569 bt573.2.2.2.2.2.2.2.2.1 bt573.2.2.2.2.2.2.2.2.2 (([t587,t587,t587,t600,t600 ++ (⟨#[32]⟩ : ByteArray),(⟨#[]⟩ : ByteArray),(⟨#[112,108,97,121,101,114,115,61,51]⟩ : ByteArray),(⟨#[112,108,97,121,101,114,115,61,51,32,101,97,99,104,61,53,32,109,97,116,99,104,61,110,111,110,101,32,119,105,108,100,61,45,32,115,107,105,112,61,45,32,116,97,107,101,61,49,32,108,105,109,105,116,61,57]⟩ : ByteArray),(⟨#[112,108,97,121,101,114,115,61,51,32,101,97,99,104,61,53,32,109,97,116,99,104,61,98,111,116,104,32,119,105,108,100,61,120,32,115,107,105,112,61,45,32,116,97,107,101,61,49,32,108,105,109,105,116,61,57]⟩ : ByteArray),(⟨#[112,108,97,121,101,114,115,61,51,32,101,97,99,104,61,53,32,109,97,116,99,104,61,98,111,116,104,32,119,105,108,100,61,45,32,115,107,105,112,61,45,32,116,97,107,101,61,49,32,108,105,109,105,116,61,48,57]⟩ : ByteArray),(⟨#[101,97,99,104,61,53,32,112,108,97,121,101,114,115,61,51,32,109,97,116,99,104,61,98,111,116,104,32,119,105,108,100,61,45,32,115,107,105,112,61,45,32,116,97,107,101,61,49,32,108,105,109,105,116,61,57]⟩ : ByteArray)] : List ByteArray))).bind fun bt604 => (some bt604.1)) else (none)))))) = some r := H
 have A2 := QR A20
 clear A20
 replace H := Option.bind_eq_some_iff.mp H
 obtain ⟨⟨t573,t574,t575,t576,t577,t580,t583,t584,t585,t586⟩,A30,H⟩ := H
 replace H : ((spec_RulesText.f k t573 t574 t575 t576 t577 t580 t583 t584).bind fun t587 => ((spec_EasyRules.f).bind fun bt588 => ((spec_RulesText.f k bt588.1 bt588.2.1 bt588.2.2.1 bt588.2.2.2.1 bt588.2.2.2.2.1 bt588.2.2.2.2.2.1 bt588.2.2.2.2.2.2.1 bt588.2.2.2.2.2.2.2).bind fun t600 => (if t600.size + 1 ≤ 9223372036854775807 then ((spec_l1Str.f t569 t585 t586 (([t587,t587,t587,t600,t600 ++ (⟨#[32]⟩ : ByteArray),(⟨#[]⟩ : ByteArray),(⟨#[112,108,97,121,101,114,115,61,51]⟩ : ByteArray),(⟨#[112,108,97,121,101,114,115,61,51,32,101,97,99,104,61,53,32,109,97,116,99,104,61,110,111,110,101,32,119,105,108,100,61,45,32,115,107,105,112,61,45,32,116,97,107,101,61,49,32,108,105,109,105,116,61,57]⟩ : ByteArray),(⟨#[112,108,97,121,101,114,115,61,51,32,101,97,99,104,61,53,32,109,97,116,99,104,61,98,111,116,104,32,119,105,108,100,61,120,32,115,107,105,112,61,45,32,116,97,107,101,61,49,32,108,105,109,105,116,61,57]⟩ : ByteArray),(⟨#[112,108,97,121,101,114,115,61,51,32,101,97,99,104,61,53,32,109,97,116,99,104,61,98,111,116,104,32,119,105,108,100,61,45,32,115,107,105,112,61,45,32,116,97,107,101,61,49,32,108,105,109,105,116,61,48,57]⟩ : ByteArray),(⟨#[101,97,99,104,61,53,32,112,108,97,121,101,114,115,61,51,32,109,97,116,99,104,61,98,111,116,104,32,119,105,108,100,61,45,32,115,107,105,112,61,45,32,116,97,107,101,61,49,32,108,105,109,105,116,61,57]⟩ : ByteArray)] : List ByteArray))).bind fun bt604 => (some bt604.1)) else (none))))) = some r := H
 have A3 := QR A30
 clear A30
 replace H := Option.bind_eq_some_iff.mp H
 obtain ⟨t587,A40,H⟩ := H
 have A4 := QR A40
 clear A40
 replace H := Option.bind_eq_some_iff.mp H
 obtain ⟨⟨t588,t589,t590,t591,t592,t595,t598,t599⟩,A50,H⟩ := H
 replace H : ((spec_RulesText.f k t588 t589 t590 t591 t592 t595 t598 t599).bind fun t600 => (if t600.size + 1 ≤ 9223372036854775807 then ((spec_l1Str.f t569 t585 t586 (([t587,t587,t587,t600,t600 ++ (⟨#[32]⟩ : ByteArray),(⟨#[]⟩ : ByteArray),(⟨#[112,108,97,121,101,114,115,61,51]⟩ : ByteArray),(⟨#[112,108,97,121,101,114,115,61,51,32,101,97,99,104,61,53,32,109,97,116,99,104,61,110,111,110,101,32,119,105,108,100,61,45,32,115,107,105,112,61,45,32,116,97,107,101,61,49,32,108,105,109,105,116,61,57]⟩ : ByteArray),(⟨#[112,108,97,121,101,114,115,61,51,32,101,97,99,104,61,53,32,109,97,116,99,104,61,98,111,116,104,32,119,105,108,100,61,120,32,115,107,105,112,61,45,32,116,97,107,101,61,49,32,108,105,109,105,116,61,57]⟩ : ByteArray),(⟨#[112,108,97,121,101,114,115,61,51,32,101,97,99,104,61,53,32,109,97,116,99,104,61,98,111,116,104,32,119,105,108,100,61,45,32,115,107,105,112,61,45,32,116,97,107,101,61,49,32,108,105,109,105,116,61,48,57]⟩ : ByteArray),(⟨#[101,97,99,104,61,53,32,112,108,97,121,101,114,115,61,51,32,109,97,116,99,104,61,98,111,116,104,32,119,105,108,100,61,45,32,115,107,105,112,61,45,32,116,97,107,101,61,49,32,108,105,109,105,116,61,57]⟩ : ByteArray)] : List ByteArray))).bind fun bt604 => (some bt604.1)) else (none))) = some r := H
 have A5 := QR A50
 clear A50
 replace H := Option.bind_eq_some_iff.mp H
 obtain ⟨t600,A60,H⟩ := H
 have A6 := QR A60
 clear A60
 by_cases c7 : t600.size + 1 ≤ 9223372036854775807
 ·rw [if_pos c7] at H
  have c7b0 := eq_true c7
  have c7b1 : decide (t600.size + 1 ≤ 9223372036854775807) = true := decide_eq_true c7
  try have c7b2 : (9223372036854775807 < t600.size + 1) = False := eq_false (Nat.not_lt.2 c7)
  obtain ⟨y601,hy601⟩ : ∃ y_ : List ByteArray,y_ = (([t587,t587,t587,t600,t600 ++ (⟨#[32]⟩ : ByteArray),(⟨#[]⟩ : ByteArray),(⟨#[112,108,97,121,101,114,115,61,51]⟩ : ByteArray),(⟨#[112,108,97,121,101,114,115,61,51,32,101,97,99,104,61,53,32,109,97,116,99,104,61,110,111,110,101,32,119,105,108,100,61,45,32,115,107,105,112,61,45,32,116,97,107,101,61,49,32,108,105,109,105,116,61,57]⟩ : ByteArray),(⟨#[112,108,97,121,101,114,115,61,51,32,101,97,99,104,61,53,32,109,97,116,99,104,61,98,111,116,104,32,119,105,108,100,61,120,32,115,107,105,112,61,45,32,116,97,107,101,61,49,32,108,105,109,105,116,61,57]⟩ : ByteArray),(⟨#[112,108,97,121,101,114,115,61,51,32,101,97,99,104,61,53,32,109,97,116,99,104,61,98,111,116,104,32,119,105,108,100,61,45,32,115,107,105,112,61,45,32,116,97,107,101,61,49,32,108,105,109,105,116,61,48,57]⟩ : ByteArray),(⟨#[101,97,99,104,61,53,32,112,108,97,121,101,114,115,61,51,32,109,97,116,99,104,61,98,111,116,104,32,119,105,108,100,61,45,32,115,107,105,112,61,45,32,116,97,107,101,61,49,32,108,105,109,105,116,61,57]⟩ : ByteArray)] : List ByteArray)) := ⟨_,rfl⟩
  replace H : ((spec_l1Str.f t569 t585 t586 y601).bind fun bt604 => (some bt604.1)) = some r := by first | (rw [hy601]; with_reducible exact H) | (have H2_ := (Option.bind_some _ _).symm.trans H; rw [hy601]; with_reducible exact H2_) | (have H2_ := (Option.bind_some _ _).symm.trans H; with_reducible exact H2_) | with_reducible exact H | (rw [hy601]; exact H) | exact H
  have Ny601 := QR hy601
  clear hy601
  replace H := Option.bind_eq_some_iff.mp H
  obtain ⟨⟨t604,t605,t606⟩,A80,H⟩ := H
  replace H : (some t604) = some r := H
  have A8 := QR A80
  clear A80
  obtain rfl := Option.some.inj H
  go_enter Tryd.func13,Tryd.ntmps13
  go_wp2_with (first | ((with_reducible refine gate_callee (f := 34) rfl ?_); refine goesL_ (some 7) rfl rfl Tryd.func34 (by kernel_rfl) rfl #[.slice A0 l0.length c0] rfl (by (try simp only [List.map_toArray,List.map_cons,List.map_nil]); first | done | rfl | (simp only [List.length_drop,List.length_take]; rfl)) ?_; (with_reducible refine (spec_l1New.calls k _ _ l0 t569 t570 t571 w _ ?side1 ?side2 ?side3 A2.out).mono ?_); (case side1 => repeat (first | (with_reducible first | exact HB.out | apply QD | apply QB | apply QC) | exact HB.out)); (case side2 => exact HR0.out); (case side3 => exact HC0.out); rintro e w9 ⟨g572,rfl,hi,hb,hb2⟩; refine ⟨_,rfl,?_⟩; have n0_ := QR (hb); have n1_ := QR (hi); clear HB; revert n0_ n1_; intro HB HI572; (try clear hb); (try clear hb2); (try clear hk); (try clear hi)) | ((with_reducible refine gate_callee (f := 35) rfl ?_); refine goesL_ (some 9) rfl rfl Tryd.func35 (by kernel_rfl) rfl #[.pointer (some ⟨g572,0,none⟩)] rfl (by (try simp only [List.map_toArray,List.map_cons,List.map_nil]); first | done | rfl | (simp only [List.length_drop,List.length_take]; rfl)) ?_; (with_reducible refine (spec_l22Any.calls k g572 t569 t570 t571 t573 t574 t575 t576 t577 t580 t583 t584 t585 t586 w _ ?side1 ?side2 A3.out).mono ?_); (case side1 => repeat (first | (with_reducible first | exact HI572.out | apply IsS80.alloc | apply IsS80.drewN | apply IsS80.drew | apply IsS80.set_1 | apply IsS80.set_2) | exact HI572.out)); (case side2 => repeat (first | (with_reducible first | exact HB.out | apply QD | apply QB | apply QC | refine QG ?_ (IsS80.ge HI572.out)) | exact HB.out)); rintro e w10 ⟨v578,v581,rfl,ho0,ho1,hi,hb,hk⟩; refine ⟨_,rfl,?_⟩; have n0_ := QR (Kd.Q_lower ho0 (below_size (by repeat (first | (with_reducible first | exact HB.out | apply QD | apply QB | apply QC | refine QG ?_ (IsS80.ge HI572.out)) | exact HB.out)))); have n1_ := QR (Kd.R_lower ho1 (below_size (by repeat (first | (with_reducible first | exact HB.out | apply QD | apply QB | apply QC | refine QG ?_ (IsS80.ge HI572.out)) | exact HB.out)))); have n2_ := QR (hb); have n3_ := QR (hi); clear HB; clear HI572; revert n0_ n1_ n2_ n3_; intro HO579 HO582 HB HI572; (try clear hb); (try clear hb2); (try clear hk); (try clear hi); (try clear ho0); (try clear ho1); obtain ⟨Ao11,co11,eo11,_⟩ := Kd.Q_slice HO579.out; subst eo11; obtain ⟨Ao12,co12,eo12⟩ := Kd.R_slice HO582.out; subst eo12) | ((with_reducible refine gate_callee (f := 23) rfl ?_); refine goesL_ (some 10) rfl rfl Tryd.func23 (by kernel_rfl) rfl #[.agg #[.int .i64 t573,.int .i64 t574,.bool t575,.bool t576,.slice Ao11 t577.length co11,.slice Ao12 t580.length co12,.int .i64 t583,.int .i64 t584]] rfl (by (try simp only [List.map_toArray,List.map_cons,List.map_nil]); first | done | rfl | (simp only [List.length_drop,List.length_take]; rfl)) ?_; (with_reducible refine (spec_RulesText.calls k t573 t574 t575 t576 _ _ t577 _ _ t580 t583 t584 t587 _ ?side1 ?side2 ?side3 ?side4 A4.out).mono ?_); (case side1 => repeat (first | exact (Kd.Q_reads' HO579.out).2.2 | (with_reducible refine Kd.C_alloc ?_ _) | (with_reducible refine Kd.C_drewN ?_ _) | (with_reducible refine Kd.C_drew ?_))); (case side2 => exact (Kd.Q_reads' HO579.out).2.1); (case side3 => repeat (first | exact (Kd.R_reads' HO582.out).2.2 | (with_reducible refine Kd.C_alloc ?_ _) | (with_reducible refine Kd.C_drewN ?_ _) | (with_reducible refine Kd.C_drew ?_))); (case side4 => exact (Kd.R_reads' HO582.out).2.1); rintro e w13 ⟨rfl,hb⟩; refine ⟨_,rfl,?_⟩; have n0_ := QR (Kd.Q_below (by (with_reducible repeat (first | apply Kd.Q_alloc | apply Kd.Q_drewN | apply Kd.Q_drew)); exact HO579.out) hb); have n1_ := QR (Kd.R_below (by (with_reducible repeat (first | apply QI | apply QJ | apply QK)); exact HO582.out) hb); have n2_ := QR (IsS80.below (by repeat (first | (with_reducible first | exact HI572.out | apply IsS80.alloc | apply IsS80.drewN | apply IsS80.drew | apply IsS80.set_1 | apply IsS80.set_2) | exact HI572.out)) hb); have n3_ := QR (QM (by repeat (first | (with_reducible first | exact HB.out | apply QD | apply QB | apply QC | refine QG ?_ (IsS80.ge HI572.out)) | exact HB.out)) hb); clear HO579; clear HO582; clear HI572; clear HB; revert n0_ n1_ n2_ n3_; intro HO579 HO582 HI572 HB; (try clear hb); (try clear hb2); (try clear hk); (try clear hi)) | ((with_reducible refine gate_callee (f := 36) rfl ?_); refine goesL_ (some 11) rfl rfl Tryd.func36 (by kernel_rfl) rfl #[] rfl (by (try simp only [List.map_toArray,List.map_cons,List.map_nil]); first | done | rfl | (simp only [List.length_drop,List.length_take]; rfl)) ?_; (with_reducible refine (spec_EasyRules.calls  t588 t589 t590 t591 t592 t595 t598 t599 _ A5.out).mono ?_); rintro e w14 ⟨v593,v596,rfl,ho0,ho1,hb⟩; refine ⟨_,rfl,?_⟩; have n0_ := QR (Kd.Q_mono (Kd.Q_told (Kd.Q_told (Kd.Q_old (by (with_reducible repeat (first | apply Kd.Q_alloc | apply Kd.Q_drewN | apply Kd.Q_drew)); exact HO579.out) hb) (Kd.R_base ho0)) (Kd.R_base ho1)) (fun _ h_ => h_.1)); have n1_ := QR (Kd.R_mono (Kd.R_told (Kd.R_told (Kd.R_old (by (with_reducible repeat (first | apply QI | apply QJ | apply QK)); exact HO582.out) hb) (Kd.R_base ho0)) (Kd.R_base ho1)) (fun _ h_ => h_.1)); have n2_ := QR (Kd.R_lower (Kd.R_new' (Kd.R_new' ho0 (Kd.Q_lt (by (with_reducible repeat (first | apply Kd.Q_alloc | apply Kd.Q_drewN | apply Kd.Q_drew)); exact HO579.out))) (Kd.R_lt (by (with_reducible repeat (first | apply QI | apply QJ | apply QK)); exact HO582.out))) (below_size (by repeat (first | (with_reducible first | exact HB.out | apply QD | apply QB | apply QC | refine QG ?_ (IsS80.ge HI572.out)) | exact HB.out)))); have n3_ := QR (Kd.R_lower (Kd.R_new' (Kd.R_new' ho1 (Kd.Q_lt (by (with_reducible repeat (first | apply Kd.Q_alloc | apply Kd.Q_drewN | apply Kd.Q_drew)); exact HO579.out))) (Kd.R_lt (by (with_reducible repeat (first | apply QI | apply QJ | apply QK)); exact HO582.out))) (below_size (by repeat (first | (with_reducible first | exact HB.out | apply QD | apply QB | apply QC | refine QG ?_ (IsS80.ge HI572.out)) | exact HB.out)))); have n4_ := QR (IsS80.below (by repeat (first | (with_reducible first | exact HI572.out | apply IsS80.alloc | apply IsS80.drewN | apply IsS80.drew | apply IsS80.set_1 | apply IsS80.set_2) | exact HI572.out)) hb); have n5_ := QR (QM (by repeat (first | (with_reducible first | exact HB.out | apply QD | apply QB | apply QC | refine QG ?_ (IsS80.ge HI572.out)) | exact HB.out)) hb); clear HO579; clear HO582; clear HI572; clear HB; revert n0_ n1_ n2_ n3_ n4_ n5_; intro HO579 HO582 HO594 HO597 HI572 HB; (try clear hb); (try clear hb2); (try clear hk); (try clear hi); (try clear ho0); (try clear ho1); obtain ⟨Ao15,co15,eo15⟩ := Kd.R_slice HO594.out; subst eo15; obtain ⟨Ao16,co16,eo16⟩ := Kd.R_slice HO597.out; subst eo16) | ((with_reducible refine gate_callee (f := 23) rfl ?_); refine goesL_ (some 12) rfl rfl Tryd.func23 (by kernel_rfl) rfl #[.agg #[.int .i64 t588,.int .i64 t589,.bool t590,.bool t591,.slice Ao15 t592.length co15,.slice Ao16 t595.length co16,.int .i64 t598,.int .i64 t599]] rfl (by (try simp only [List.map_toArray,List.map_cons,List.map_nil]); first | done | rfl | (simp only [List.length_drop,List.length_take]; rfl)) ?_; (with_reducible refine (spec_RulesText.calls k t588 t589 t590 t591 _ _ t592 _ _ t595 t598 t599 t600 _ ?side1 ?side2 ?side3 ?side4 A6.out).mono ?_); (case side1 => repeat (first | exact (Kd.R_reads' HO594.out).2.2 | (with_reducible refine Kd.C_alloc ?_ _) | (with_reducible refine Kd.C_drewN ?_ _) | (with_reducible refine Kd.C_drew ?_))); (case side2 => exact (Kd.R_reads' HO594.out).2.1); (case side3 => repeat (first | exact (Kd.R_reads' HO597.out).2.2 | (with_reducible refine Kd.C_alloc ?_ _) | (with_reducible refine Kd.C_drewN ?_ _) | (with_reducible refine Kd.C_drew ?_))); (case side4 => exact (Kd.R_reads' HO597.out).2.1); rintro e w17 ⟨rfl,hb⟩; refine ⟨_,rfl,?_⟩; have n0_ := QR (Kd.Q_below (by (with_reducible repeat (first | apply Kd.Q_alloc | apply Kd.Q_drewN | apply Kd.Q_drew)); exact HO579.out) hb); have n1_ := QR (Kd.R_below (by (with_reducible repeat (first | apply QI | apply QJ | apply QK)); exact HO582.out) hb); have n2_ := QR (Kd.R_below (by (with_reducible repeat (first | apply QI | apply QJ | apply QK)); exact HO594.out) hb); have n3_ := QR (Kd.R_below (by (with_reducible repeat (first | apply QI | apply QJ | apply QK)); exact HO597.out) hb); have n4_ := QR (IsS80.below (by repeat (first | (with_reducible first | exact HI572.out | apply IsS80.alloc | apply IsS80.drewN | apply IsS80.drew | apply IsS80.set_1 | apply IsS80.set_2) | exact HI572.out)) hb); have n5_ := QR (QM (by repeat (first | (with_reducible first | exact HB.out | apply QD | apply QB | apply QC | refine QG ?_ (IsS80.ge HI572.out)) | exact HB.out)) hb); clear HO579; clear HO582; clear HO594; clear HO597; clear HI572; clear HB; revert n0_ n1_ n2_ n3_ n4_ n5_; intro HO579 HO582 HO594 HO597 HI572 HB; (try clear hb); (try clear hb2); (try clear hk); (try clear hi)) | ((with_reducible refine gate_dst (N := 20) rfl ?_); refine Kd.R_lit Kd.string _ 9 ?hg (N := 20) ?hd (xs := ([t587,t587,t587,t600,t600 ++ (⟨#[32]⟩ : ByteArray),(⟨#[]⟩ : ByteArray),(⟨#[112,108,97,121,101,114,115,61,51]⟩ : ByteArray),(⟨#[112,108,97,121,101,114,115,61,51,32,101,97,99,104,61,53,32,109,97,116,99,104,61,110,111,110,101,32,119,105,108,100,61,45,32,115,107,105,112,61,45,32,116,97,107,101,61,49,32,108,105,109,105,116,61,57]⟩ : ByteArray),(⟨#[112,108,97,121,101,114,115,61,51,32,101,97,99,104,61,53,32,109,97,116,99,104,61,98,111,116,104,32,119,105,108,100,61,120,32,115,107,105,112,61,45,32,116,97,107,101,61,49,32,108,105,109,105,116,61,57]⟩ : ByteArray),(⟨#[112,108,97,121,101,114,115,61,51,32,101,97,99,104,61,53,32,109,97,116,99,104,61,98,111,116,104,32,119,105,108,100,61,45,32,115,107,105,112,61,45,32,116,97,107,101,61,49,32,108,105,109,105,116,61,48,57]⟩ : ByteArray),(⟨#[101,97,99,104,61,53,32,112,108,97,121,101,114,115,61,51,32,109,97,116,99,104,61,98,111,116,104,32,119,105,108,100,61,45,32,115,107,105,112,61,45,32,116,97,107,101,61,49,32,108,105,109,105,116,61,57]⟩ : ByteArray)] : List ByteArray)) (inner := [.string t587,.string t587,.string t587,.string t600,.string (t600 ++ (⟨#[32]⟩ : ByteArray)),.string (⟨#[]⟩ : ByteArray),.string (⟨#[112,108,97,121,101,114,115,61,51]⟩ : ByteArray),.string (⟨#[112,108,97,121,101,114,115,61,51,32,101,97,99,104,61,53,32,109,97,116,99,104,61,110,111,110,101,32,119,105,108,100,61,45,32,115,107,105,112,61,45,32,116,97,107,101,61,49,32,108,105,109,105,116,61,57]⟩ : ByteArray),.string (⟨#[112,108,97,121,101,114,115,61,51,32,101,97,99,104,61,53,32,109,97,116,99,104,61,98,111,116,104,32,119,105,108,100,61,120,32,115,107,105,112,61,45,32,116,97,107,101,61,49,32,108,105,109,105,116,61,57]⟩ : ByteArray),.string (⟨#[112,108,97,121,101,114,115,61,51,32,101,97,99,104,61,53,32,109,97,116,99,104,61,98,111,116,104,32,119,105,108,100,61,45,32,115,107,105,112,61,45,32,116,97,107,101,61,49,32,108,105,109,105,116,61,48,57]⟩ : ByteArray),.string (⟨#[101,97,99,104,61,53,32,112,108,97,121,101,114,115,61,51,32,109,97,116,99,104,61,98,111,116,104,32,119,105,108,100,61,45,32,115,107,105,112,61,45,32,116,97,107,101,61,49,32,108,105,109,105,116,61,57]⟩ : ByteArray)]) (ok := fun _ => True) (okp := fun _ => True) ?hr ?hp (fun _ hk => hk) trivial (Below.refl _ _) (Nat.le_refl _) (by simp) ?_; (case hd => rfl); (case hg => rfl); (case hr => first | (go_simp; done) | (go_simp; rfl)); (case hp => exact (Reps.one (show Kd.M Kd.string _ _ _ t587 [.string t587] from rfl) (Reps.one (show Kd.M Kd.string _ _ _ t587 [.string t587] from rfl) (Reps.one (show Kd.M Kd.string _ _ _ t587 [.string t587] from rfl) (Reps.one (show Kd.M Kd.string _ _ _ t600 [.string t600] from rfl) (Reps.one (show Kd.M Kd.string _ _ _ (t600 ++ (⟨#[32]⟩ : ByteArray)) [.string (t600 ++ (⟨#[32]⟩ : ByteArray))] from rfl) (Reps.one (show Kd.M Kd.string _ _ _ (⟨#[]⟩ : ByteArray) [.string (⟨#[]⟩ : ByteArray)] from rfl) (Reps.one (show Kd.M Kd.string _ _ _ (⟨#[112,108,97,121,101,114,115,61,51]⟩ : ByteArray) [.string (⟨#[112,108,97,121,101,114,115,61,51]⟩ : ByteArray)] from rfl) (Reps.one (show Kd.M Kd.string _ _ _ (⟨#[112,108,97,121,101,114,115,61,51,32,101,97,99,104,61,53,32,109,97,116,99,104,61,110,111,110,101,32,119,105,108,100,61,45,32,115,107,105,112,61,45,32,116,97,107,101,61,49,32,108,105,109,105,116,61,57]⟩ : ByteArray) [.string (⟨#[112,108,97,121,101,114,115,61,51,32,101,97,99,104,61,53,32,109,97,116,99,104,61,110,111,110,101,32,119,105,108,100,61,45,32,115,107,105,112,61,45,32,116,97,107,101,61,49,32,108,105,109,105,116,61,57]⟩ : ByteArray)] from rfl) (Reps.one (show Kd.M Kd.string _ _ _ (⟨#[112,108,97,121,101,114,115,61,51,32,101,97,99,104,61,53,32,109,97,116,99,104,61,98,111,116,104,32,119,105,108,100,61,120,32,115,107,105,112,61,45,32,116,97,107,101,61,49,32,108,105,109,105,116,61,57]⟩ : ByteArray) [.string (⟨#[112,108,97,121,101,114,115,61,51,32,101,97,99,104,61,53,32,109,97,116,99,104,61,98,111,116,104,32,119,105,108,100,61,120,32,115,107,105,112,61,45,32,116,97,107,101,61,49,32,108,105,109,105,116,61,57]⟩ : ByteArray)] from rfl) (Reps.one (show Kd.M Kd.string _ _ _ (⟨#[112,108,97,121,101,114,115,61,51,32,101,97,99,104,61,53,32,109,97,116,99,104,61,98,111,116,104,32,119,105,108,100,61,45,32,115,107,105,112,61,45,32,116,97,107,101,61,49,32,108,105,109,105,116,61,48,57]⟩ : ByteArray) [.string (⟨#[112,108,97,121,101,114,115,61,51,32,101,97,99,104,61,53,32,109,97,116,99,104,61,98,111,116,104,32,119,105,108,100,61,45,32,115,107,105,112,61,45,32,116,97,107,101,61,49,32,108,105,109,105,116,61,48,57]⟩ : ByteArray)] from rfl) (Reps.one (show Kd.M Kd.string _ _ _ (⟨#[101,97,99,104,61,53,32,112,108,97,121,101,114,115,61,51,32,109,97,116,99,104,61,98,111,116,104,32,119,105,108,100,61,45,32,115,107,105,112,61,45,32,116,97,107,101,61,49,32,108,105,109,105,116,61,57]⟩ : ByteArray) [.string (⟨#[101,97,99,104,61,53,32,112,108,97,121,101,114,115,61,51,32,109,97,116,99,104,61,98,111,116,104,32,119,105,108,100,61,45,32,115,107,105,112,61,45,32,116,97,107,101,61,49,32,108,105,109,105,116,61,57]⟩ : ByteArray)] from rfl) (Reps.none _ _))))))))))))); intro v602 w18 ho19 hb hg_ hnew_; clear hg_ hnew_; (first | rw [← Ny601.out] at ho19 | (simp only [Int.reduceToNat] at ho19; rw [← Ny601.out] at ho19)); have n0_ := QR (Kd.Q_below (by (with_reducible repeat (first | apply Kd.Q_alloc | apply Kd.Q_drewN | apply Kd.Q_drew)); exact HO579.out) hb); have n1_ := QR (Kd.R_below (by (with_reducible repeat (first | apply QI | apply QJ | apply QK)); exact HO582.out) hb); have n2_ := QR (Kd.R_below (by (with_reducible repeat (first | apply QI | apply QJ | apply QK)); exact HO594.out) hb); have n3_ := QR (Kd.R_below (by (with_reducible repeat (first | apply QI | apply QJ | apply QK)); exact HO597.out) hb); have n4_ := QR (Kd.R_lower ho19 (below_size (by repeat (first | (with_reducible first | exact HB.out | apply QD | apply QB | apply QC | refine QG ?_ (IsS80.ge HI572.out)) | exact HB.out)))); have n5_ := QR (IsS80.below (by repeat (first | (with_reducible first | exact HI572.out | apply IsS80.alloc | apply IsS80.drewN | apply IsS80.drew | apply IsS80.set_1 | apply IsS80.set_2) | exact HI572.out)) hb); have n6_ := QR (QM (by repeat (first | (with_reducible first | exact HB.out | apply QD | apply QB | apply QC | refine QG ?_ (IsS80.ge HI572.out)) | exact HB.out)) hb); clear HO579; clear HO582; clear HO594; clear HO597; clear HI572; clear HB; revert n0_ n1_ n2_ n3_ n4_ n5_ n6_; intro HO579 HO582 HO594 HO597 HO603 HI572 HB; clear hb ho19; obtain ⟨Ao20,co20,eo20⟩ := Kd.R_slice HO603.out; subst eo20) | ((with_reducible refine gate_callee (f := 37) rfl ?_); refine goesL_ (some 21) rfl rfl Tryd.func37 (by kernel_rfl) rfl #[.pointer (some ⟨g572,0,none⟩),.slice Ao20 y601.length co20] rfl (by (try simp only [List.map_toArray,List.map_cons,List.map_nil]); first | done | rfl | (simp only [List.length_drop,List.length_take]; rfl)) ?_; (with_reducible refine (spec_l1Str.calls g572 t569 t585 t586 _ _ y601 t604 t605 t606 w _ ?side1 ?side2 ?side3 ?side4 ?side5 A8.out).mono ?_); (case side1 => repeat (first | (with_reducible first | exact HI572.out | apply IsS80.alloc | apply IsS80.drewN | apply IsS80.drew | apply IsS80.set_1 | apply IsS80.set_2) | exact HI572.out)); (case side2 => repeat (first | (with_reducible first | exact HB.out | apply QD | apply QB | apply QC | refine QG ?_ (IsS80.ge HI572.out)) | exact HB.out)); (case side3 => repeat (first | exact (Kd.R_reads' HO603.out).2.2 | (with_reducible refine Kd.C_alloc ?_ _) | (with_reducible refine Kd.C_drewN ?_ _) | (with_reducible refine Kd.C_drew ?_))); (case side4 => exact (Kd.R_reads' HO603.out).2.1); (case side5 => exact far_slice (IsS80.own_ne HI572.out HO603.out (by decide))); rintro e w21 ⟨rfl,hi,hb,hk⟩; refine ⟨_,rfl,?_⟩; have n0_ := QR (Kd.Q_mono (Kd.Q_keep (IsS80.apartQ (show IsS80 w _ g572 t569 t585 t586 from by repeat (first | (with_reducible first | exact HI572.out | apply IsS80.alloc | apply IsS80.drewN | apply IsS80.drew | apply IsS80.set_1 | apply IsS80.set_2) | exact HI572.out)) (by (with_reducible repeat (first | apply Kd.Q_alloc | apply Kd.Q_drewN | apply Kd.Q_drew)); exact HO579.out) (by decide)) hk (fun _ h => h.2)) (fun _ h => h.1)); have n1_ := QR (Kd.R_mono (Kd.R_keep (IsS80.apart (show IsS80 w _ g572 t569 t585 t586 from by repeat (first | (with_reducible first | exact HI572.out | apply IsS80.alloc | apply IsS80.drewN | apply IsS80.drew | apply IsS80.set_1 | apply IsS80.set_2) | exact HI572.out)) (by (with_reducible repeat (first | apply QI | apply QJ | apply QK)); exact HO582.out) (by decide)) hk (fun _ h => h.2)) (fun _ h => h.1)); have n2_ := QR (Kd.R_mono (Kd.R_keep (IsS80.apart (show IsS80 w _ g572 t569 t585 t586 from by repeat (first | (with_reducible first | exact HI572.out | apply IsS80.alloc | apply IsS80.drewN | apply IsS80.drew | apply IsS80.set_1 | apply IsS80.set_2) | exact HI572.out)) (by (with_reducible repeat (first | apply QI | apply QJ | apply QK)); exact HO594.out) (by decide)) hk (fun _ h => h.2)) (fun _ h => h.1)); have n3_ := QR (Kd.R_mono (Kd.R_keep (IsS80.apart (show IsS80 w _ g572 t569 t585 t586 from by repeat (first | (with_reducible first | exact HI572.out | apply IsS80.alloc | apply IsS80.drewN | apply IsS80.drew | apply IsS80.set_1 | apply IsS80.set_2) | exact HI572.out)) (by (with_reducible repeat (first | apply QI | apply QJ | apply QK)); exact HO597.out) (by decide)) hk (fun _ h => h.2)) (fun _ h => h.1)); have n4_ := QR (Kd.R_mono (Kd.R_keep (IsS80.apart (show IsS80 w _ g572 t569 t585 t586 from by repeat (first | (with_reducible first | exact HI572.out | apply IsS80.alloc | apply IsS80.drewN | apply IsS80.drew | apply IsS80.set_1 | apply IsS80.set_2) | exact HI572.out)) (by (with_reducible repeat (first | apply QI | apply QJ | apply QK)); exact HO603.out) (by decide)) hk (fun _ h => h.2)) (fun _ h => h.1)); have n5_ := QR (hb); have n6_ := QR (hi); clear HO579; clear HO582; clear HO594; clear HO597; clear HO603; clear HB; clear HI572; revert n0_ n1_ n2_ n3_ n4_ n5_ n6_; intro HO579 HO582 HO594 HO597 HO603 HB HI572; (try clear hb); (try clear hb2); (try clear hk); (try clear hi)))
  go_ret
  exact ⟨by first | rfl | (simp [errW_none,errW_some] <;> rfl) | (simp [*,errW_none,errW_some] <;> rfl),by repeat (first | (with_reducible first | exact HB.out | apply QD | apply QB | apply QC | refine QG ?_ (IsS80.ge HI572.out)) | exact HB.out)⟩
 ·rw [if_neg c7] at H
  exact absurd H (by simp)

end Go.Proofs.YtdfmobcocaijpaaDoor.QFnScripts
