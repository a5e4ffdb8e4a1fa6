/- What a call of each Go function that FnScripts reaches comes to, as a Lean function: texts of the kit's print, turned by wip/remake.py. No condition beyond what each names. -/
import Derived.Test.YtdfmobcocaijpaaDoorQFnScriptsx2
namespace Go.Proofs.YtdfmobcocaijpaaDoor.QFnScripts
open Go.RowKit Go.Proofs.YtdfmobcocaijpaaDoorW.PrintWords Go.Proofs.YtdfmobcocaijpaaDoorW.PrintLast Go.Proofs.YtdfmobcocaijpaaDoorW.PrintMore
open Go.Proofs.YtdfmobcocaijpaaDoorW.PrintWords renaming pw_below_drewN → QB, below_drew1 → QC, below_alloc → QD, blk_frozen → QE, below_set → QF, below_size → QJ, below_step → QK
open Go.Proofs.YtdfmobcocaijpaaDoorW.PrintLast renaming i64_w → QG, i32_w → QH, any_of → QI
open List renaming setIfInBounds_toArray → QL, set_cons_zero → QM, set_cons_succ → QN
open Go.Proofs.YtdfmobcocaijpaaDoorW.PrintWords.Aside0 renaming mk → QO
open Option renaming bind_eq_some_iff → QP
attribute [local go_sem] max2_int min2_int max_two min_two max_three min_three max_four min_four   -- for this text's walks alone
set_option linter.unusedVariables false
set_option linter.unusedSimpArgs false

/-! ### impl_PatternText: function 55 -/
def impl_PatternText.l0 : Nat → List ByteArray → List Int → Int → Int → Option (ByteArray)
 | 0,_,_,_,_ => none
 | k + 1,x3,x11,x12,x13 => if x13 < x12 then (if 0 ≤ x13 then (if x13 < (x11.length : Int) then (if (rd x11 x13) = (-1) then (if 0 ≤ (wrap64 ((x3.length : Int) - 1)) then (if (wrap64 ((x3.length : Int) - 1)) < (x3.length : Int) then (if 1 + (rdOf ByteArray.empty x3 (wrap64 ((x3.length : Int) - 1))).size ≤ 9223372036854775807 then (impl_PatternText.l0 k (x3.set ((wrap64 ((x3.length : Int) - 1)) : Int).toNat ((⟨#[33]⟩ : ByteArray) ++ (rdOf ByteArray.empty x3 (wrap64 ((x3.length : Int) - 1))))) x11 x12 (wrap64 (x13 + 1))) else (none)) else (none)) else (none)) else (if (rd x11 x13) = (-2) then (if 0 ≤ (wrap64 ((x3.length : Int) - 2)) then (if (wrap64 ((x3.length : Int) - 2)) < (x3.length : Int) then (if 1 + (rdOf ByteArray.empty x3 (wrap64 ((x3.length : Int) - 2))).size ≤ 9223372036854775807 then (if ((⟨#[40]⟩ : ByteArray) ++ (rdOf ByteArray.empty x3 (wrap64 ((x3.length : Int) - 2)))).size + 1 ≤ 9223372036854775807 then (if 0 ≤ (wrap64 ((x3.length : Int) - 1)) then (if (wrap64 ((x3.length : Int) - 1)) < (x3.length : Int) then (if (((⟨#[40]⟩ : ByteArray) ++ (rdOf ByteArray.empty x3 (wrap64 ((x3.length : Int) - 2)))) ++ (⟨#[38]⟩ : ByteArray)).size + (rdOf ByteArray.empty x3 (wrap64 ((x3.length : Int) - 1))).size ≤ 9223372036854775807 then (if ((((⟨#[40]⟩ : ByteArray) ++ (rdOf ByteArray.empty x3 (wrap64 ((x3.length : Int) - 2)))) ++ (⟨#[38]⟩ : ByteArray)) ++ (rdOf ByteArray.empty x3 (wrap64 ((x3.length : Int) - 1)))).size + 1 ≤ 9223372036854775807 then (if (wrap64 ((x3.length : Int) - 2)) ≤ (x3.length : Int) then ((some (x3.take ((wrap64 ((x3.length : Int) - 2)) : Int).toNat : List ByteArray)).bind fun y366 => (if y366.length < 8796093022208 then (impl_PatternText.l0 k (y366 ++ [((((⟨#[40]⟩ : ByteArray) ++ (rdOf ByteArray.empty x3 (wrap64 ((x3.length : Int) - 2)))) ++ (⟨#[38]⟩ : ByteArray)) ++ (rdOf ByteArray.empty x3 (wrap64 ((x3.length : Int) - 1)))) ++ (⟨#[41]⟩ : ByteArray)]) x11 x12 (wrap64 (x13 + 1))) else (none))) else (none)) else (none)) else (none)) else (none)) else (none)) else (none)) else (none)) else (none)) else (none)) else (if (rd x11 x13) = (-3) then (if 0 ≤ (wrap64 ((x3.length : Int) - 2)) then (if (wrap64 ((x3.length : Int) - 2)) < (x3.length : Int) then (if 1 + (rdOf ByteArray.empty x3 (wrap64 ((x3.length : Int) - 2))).size ≤ 9223372036854775807 then (if ((⟨#[40]⟩ : ByteArray) ++ (rdOf ByteArray.empty x3 (wrap64 ((x3.length : Int) - 2)))).size + 1 ≤ 9223372036854775807 then (if 0 ≤ (wrap64 ((x3.length : Int) - 1)) then (if (wrap64 ((x3.length : Int) - 1)) < (x3.length : Int) then (if (((⟨#[40]⟩ : ByteArray) ++ (rdOf ByteArray.empty x3 (wrap64 ((x3.length : Int) - 2)))) ++ (⟨#[124]⟩ : ByteArray)).size + (rdOf ByteArray.empty x3 (wrap64 ((x3.length : Int) - 1))).size ≤ 9223372036854775807 then (if ((((⟨#[40]⟩ : ByteArray) ++ (rdOf ByteArray.empty x3 (wrap64 ((x3.length : Int) - 2)))) ++ (⟨#[124]⟩ : ByteArray)) ++ (rdOf ByteArray.empty x3 (wrap64 ((x3.length : Int) - 1)))).size + 1 ≤ 9223372036854775807 then (if (wrap64 ((x3.length : Int) - 2)) ≤ (x3.length : Int) then ((some (x3.take ((wrap64 ((x3.length : Int) - 2)) : Int).toNat : List ByteArray)).bind fun y374 => (if y374.length < 8796093022208 then (impl_PatternText.l0 k (y374 ++ [((((⟨#[40]⟩ : ByteArray) ++ (rdOf ByteArray.empty x3 (wrap64 ((x3.length : Int) - 2)))) ++ (⟨#[124]⟩ : ByteArray)) ++ (rdOf ByteArray.empty x3 (wrap64 ((x3.length : Int) - 1)))) ++ (⟨#[41]⟩ : ByteArray)]) x11 x12 (wrap64 (x13 + 1))) else (none))) else (none)) else (none)) else (none)) else (none)) else (none)) else (none)) else (none)) else (none)) else (none)) else ((impl_signText.f (rd x11 x13)).bind fun t380 => (if x3.length < 8796093022208 then (impl_PatternText.l0 k (x3 ++ [t380]) x11 x12 (wrap64 (x13 + 1))) else (none)))))) else (none)) else (none)) else (if 0 < (x3.length : Int) then (some (rdOf ByteArray.empty x3 0)) else (none))
def impl_PatternText.f (k : Nat) (l0 : List Int) : Option (ByteArray) := (impl_IsPattern.f k l0).bind fun t356 => (if t356 = true then (impl_PatternText.l0 k (([] : List ByteArray)) l0 (l0.length : Int) 0) else (some (⟨#[]⟩ : ByteArray)))
theorem impl_PatternText.mono_l : ∀ k, (∀ y0 y1 y2 y3, LeO (impl_PatternText.l0 k y0 y1 y2 y3) (impl_PatternText.l0 (k + 1) y0 y1 y2 y3))
 | 0 => fun _ _ _ _ r h => by simp [impl_PatternText.l0] at h
 | k + 1 => by
  have ih0 := impl_PatternText.mono_l k
  ·intro y0 y1 y2 y3
   unfold impl_PatternText.l0
   repeat' first
   | (with_reducible exact ih0 _ _ _ _)
   | (with_reducible exact impl_IsPattern.mono _ _)
   | (with_reducible exact LeO.refl _)
   | (with_reducible exact LeO.none _)
   | (with_reducible refine LeO.ite ?_ ?_)
   | (with_reducible refine LeO.bind ?_ (fun _ => ?_))
   | exact ih0 _ _ _ _
   | exact impl_IsPattern.mono _ _
   | exact LeO.none _
   | refine LeO.ite ?_ ?_
   | refine LeO.bind ?_ (fun _ => ?_)
theorem impl_PatternText.mono : ∀ a0 k, LeO (impl_PatternText.f k a0) (impl_PatternText.f (k + 1) a0) := by
 intro a0 k
 have ih0 := impl_PatternText.mono_l k
 unfold impl_PatternText.f
 repeat' first
   | (with_reducible exact ih0 _ _ _ _)
   | (with_reducible exact impl_IsPattern.mono _ _)
   | (with_reducible exact LeO.refl _)
   | (with_reducible exact LeO.none _)
   | (with_reducible refine LeO.ite ?_ ?_)
   | (with_reducible refine LeO.bind ?_ (fun _ => ?_))
   | exact ih0 _ _ _ _
   | exact impl_IsPattern.mono _ _
   | exact LeO.none _
   | refine LeO.ite ?_ ?_
   | refine LeO.bind ?_ (fun _ => ?_)
def impl_PatternText.T13 : Bool × List (List Nat × List Nat) := (true, [([], []), ([], []), ([1], [1]), ([0, 2], [0, 2]), ([], []), ([], []), ([5], [5]), ([4, 6], [4, 6]), ([7], [7]), ([8], [8]), ([9], [9]), ([], []), ([], []), ([12], [12]), ([11, 13], [11, 13]), ([14], [14]), ([10, 15], [10, 15]), ([16], [16]), ([17], [17]), ([3, 18], [3, 18]), ([19, 19, 0, 1, 2, 3, 4, 5, 6, 7, 8, 9, 10, 11, 12, 13, 14, 15, 16, 17, 18, 19], [0, 4, 11, 19])])
def impl_PatternText.B13 : List Nat := [0, 0, 2, 7, 0, 0, 32, 112, 240, 496, 1008, 0, 0, 4096, 14336, 30720, 65520, 131056, 262128, 524287, 1048575]
theorem impl_PatternText.tab13 : rtab .any (opsOf Tryd.f55 13) = impl_PatternText.T13 := by kernel_rfl
theorem impl_PatternText.bits13 : waitsOk impl_PatternText.T13.2 impl_PatternText.B13 = true := by kernel_rfl
def impl_PatternText.T15 : Bool × List (List Nat × List Nat) := (true, [([], []), ([], []), ([1], [1]), ([0, 2], [0, 2]), ([], []), ([], []), ([5], [5]), ([4, 6], [4, 6]), ([7], [7]), ([8], [8]), ([9], [9]), ([], []), ([], []), ([12], [12]), ([11, 13], [11, 13]), ([14], [14]), ([10, 15], [10, 15]), ([16], [16]), ([17], [17]), ([3, 18], [3, 18]), ([19, 19, 0, 1, 2, 3, 4, 5, 6, 7, 8, 9, 10, 11, 12, 13, 14, 15, 16, 17, 18, 19], [0, 4, 11, 19])])
def impl_PatternText.B15 : List Nat := [0, 0, 2, 7, 0, 0, 32, 112, 240, 496, 1008, 0, 0, 4096, 14336, 30720, 65520, 131056, 262128, 524287, 1048575]
theorem impl_PatternText.tab15 : rtab .any (opsOf Tryd.f55 15) = impl_PatternText.T15 := by kernel_rfl
theorem impl_PatternText.bits15 : waitsOk impl_PatternText.T15.2 impl_PatternText.B15 = true := by kernel_rfl
set_option maxHeartbeats 8000000 in
set_option maxRecDepth 100000 in
theorem impl_PatternText.calls (k : Nat) (A0 : Option Addr) (c0 : Nat) (l0 : List Int) (r : ByteArray) (w : World) (hr0 : Kd.C (Kd.int .i64) w A0 l0.length l0) (hc0 : l0.length ≤ c0) (h : impl_PatternText.f k l0 = some r) :
  Calls Tryd.prog 55 #[.slice A0 l0.length c0] w fun e w' => e = .returned (.string r) ∧ Below w.heap.size w w' := by
 have HR0 := QO hr0
 have HC0 := QO hc0
 clear hr0 hc0
 have HB := QO (Below.refl w.heap.size w)
 have H : ((impl_IsPattern.f k l0).bind fun t356 => (if t356 = true then (impl_PatternText.l0 k (([] : List ByteArray)) l0 (l0.length : Int) 0) else (some (⟨#[]⟩ : ByteArray)))) = some r := h
 clear h
 replace H := QP.mp H
 obtain ⟨t356,A20,H⟩ := H
 have A2 := QO A20
 clear A20
 by_cases c3 : t356 = true
 ·subst c3
  rw [if_pos rfl] at H
  obtain ⟨y357,hy357⟩ : ∃ y_ : List ByteArray,y_ = (([] : List ByteArray)) := ⟨_,rfl⟩
  replace H : (impl_PatternText.l0 k y357 l0 (l0.length : Int) 0) = some r := by first | (rw [hy357]; with_reducible exact H) | (have H2_ := (Option.bind_some _ _).symm.trans H; rw [hy357]; with_reducible exact H2_) | (have H2_ := (Option.bind_some _ _).symm.trans H; with_reducible exact H2_) | with_reducible exact H | (rw [hy357]; exact H) | exact H
  have Ny357 := QO hy357
  clear hy357
  have H' := QO H
  clear H
  go_enter Tryd.func55,Tryd.ntmps55
  go_wp2_with (first | ((with_reducible refine gate_callee (f := 60) rfl ?_); refine goesL_ (some 8) rfl rfl Tryd.func60 (by kernel_rfl) rfl #[.slice A0 l0.length c0] rfl (by (try simp only [List.map_toArray,List.map_cons,List.map_nil]); first | done | rfl | (simp only [List.length_drop,List.length_take]; rfl)) ?_; (with_reducible refine (impl_IsPattern.calls k _ _ l0 true _ ?side1 ?side2 A2.out).mono ?_); (case side1 => repeat (first | exact HR0.out | (with_reducible refine Kd.C_alloc ?_ _) | (with_reducible refine Kd.C_drewN ?_ _) | (with_reducible refine Kd.C_drew ?_))); (case side2 => exact HC0.out); rintro e w' ⟨rfl,⟨nd,rfl⟩⟩; refine ⟨_,rfl,?_⟩) | ((with_reducible refine gate_dst (N := 10) rfl ?_); refine Kd.R_lit Kd.string _ 9 ?hg (N := 10) ?hd (xs := ([] : List ByteArray)) (inner := []) (ok := fun _ => True) (okp := fun _ => True) ?hr ?hp (fun _ hk => hk) trivial (Below.refl _ _) (Nat.le_refl _) (by simp) ?_; (case hd => rfl); (case hg => rfl); (case hr => first | (go_simp; done) | (go_simp; rfl)); (case hp => exact (Reps.none _ _)); intro v358 w4 ho5 hb hg_ hnew_; clear hg_ hnew_; (first | rw [← Ny357.out] at ho5 | (simp only [Int.reduceToNat] at ho5; rw [← Ny357.out] at ho5)); have n0_ := QO (Kd.R_lower ho5 (QJ (by repeat (first | (with_reducible first | exact HB.out | apply QD | apply QB | apply QC) | exact HB.out)))); have n1_ := QO (QK (by repeat (first | (with_reducible first | exact HB.out | apply QD | apply QB | apply QC) | exact HB.out)) hb); clear HB; revert n0_ n1_; intro HO359 HB; clear hb ho5))
  go_loopg [3,13] k (fun kq v3 v13 w' => ∃ (x3_1 : List ByteArray) (x13_1 : Int),v13 = .int .i64 x13_1 ∧ Aside0 (impl_PatternText.l0 kq x3_1 l0 (l0.length : Int) x13_1 = some r) ∧ Aside0 (kq ≤ k) ∧ Aside0 (Kd.R Kd.string 9 w' w.heap.size (fun _ => True) v3 x3_1) ∧ Aside0 (Below w.heap.size w w'))
  case atStart => exact ⟨(y357),(0),(by first | rfl | (simp; done) | (simp [*]; done)),H',⟨Nat.le_refl _⟩,⟨by (with_reducible repeat (first | apply Kd.R_alloc | apply Kd.R_drewN | apply Kd.R_drew)); exact HO359.out⟩,⟨by repeat (first | (with_reducible first | exact HB.out | apply QD | apply QB | apply QC) | exact HB.out)⟩⟩
  case round =>
   clear H'
   try clear c3
   obtain ⟨x3_1,x13_1,rfl,HA,HK1,HO_3,HB⟩ := hrel
   cases gk with
   | zero => exact absurd HA.out (by simp [impl_PatternText.l0])
   | succ k1 =>
    have H := HA.out
    clear HA
    simp only [impl_PatternText.l0] at H
    by_cases c6 : x13_1 < (l0.length : Int)
    ·rw [if_pos c6] at H
     have c6b0 : decide (x13_1 < (l0.length : Int)) = true := decide_eq_true c6
     clear c6
     by_cases c7 : 0 ≤ x13_1
     ·rw [if_pos c7] at H
      have c7b0 : decide (0 ≤ x13_1) = true := decide_eq_true c7
      clear c7
      by_cases c8 : x13_1 < (l0.length : Int)
      ·rw [if_pos c8] at H
       have c8b0 : decide (x13_1 < (l0.length : Int)) = true := decide_eq_true c8
       clear c8
       by_cases c9 : (rd l0 x13_1) = (-1)
       ·rw [if_pos c9] at H
        have c9b0 : ((rd l0 x13_1) == (-1)) = true := beq_iff_eq.mpr c9
        have c9b1 : ((rd l0 x13_1) != (-1)) = false := bne_eq_false_iff_eq.mpr c9
        clear c9
        obtain ⟨ji10,hji10⟩ : ∃ j_ : Int,(wrap64 ((x3_1.length : Int) - 1)) = j_ := ⟨_,rfl⟩
        replace H : (if 0 ≤ (ji10) then (if (ji10) < (x3_1.length : Int) then (if 1 + (rdOf ByteArray.empty x3_1 (ji10)).size ≤ 9223372036854775807 then (impl_PatternText.l0 k1 (x3_1.set ((ji10) : Int).toNat ((⟨#[33]⟩ : ByteArray) ++ (rdOf ByteArray.empty x3_1 (ji10)))) l0 (l0.length : Int) (wrap64 (x13_1 + 1))) else (none)) else (none)) else (none)) = some r := by first | (rw [hji10] at H; exact H) | (simp only [hji10] at H ⊢; exact H)
        have hji10w : (IntKind.i64.wrap ((x3_1.length : Int) - 1)) = ji10 := (QG _).trans hji10
        by_cases c11 : 0 ≤ (ji10)
        ·rw [if_pos c11] at H
         have c11b0 : decide (0 ≤ (ji10)) = true := decide_eq_true c11
         clear c11
         by_cases c12 : (ji10) < (x3_1.length : Int)
         ·rw [if_pos c12] at H
          have c12b0 : decide ((ji10) < (x3_1.length : Int)) = true := decide_eq_true c12
          clear c12
          by_cases c13 : 1 + (rdOf ByteArray.empty x3_1 (ji10)).size ≤ 9223372036854775807
          ·rw [if_pos c13] at H
           have c13b0 := eq_true c13
           have c13b1 : decide (1 + (rdOf ByteArray.empty x3_1 (ji10)).size ≤ 9223372036854775807) = true := decide_eq_true c13
           try have c13b2 : (9223372036854775807 < 1 + (rdOf ByteArray.empty x3_1 (ji10)).size) = False := eq_false (Nat.not_lt.2 c13)
           obtain ⟨y363,hy363⟩ : ∃ y_ : List ByteArray,y_ = (x3_1.set ((ji10) : Int).toNat ((⟨#[33]⟩ : ByteArray) ++ (rdOf ByteArray.empty x3_1 (ji10)))) := ⟨_,rfl⟩
           replace H : (impl_PatternText.l0 k1 y363 l0 (l0.length : Int) (wrap64 (x13_1 + 1))) = some r := by first | (rw [hy363]; with_reducible exact H) | (have H2_ := (Option.bind_some _ _).symm.trans H; rw [hy363]; with_reducible exact H2_) | (have H2_ := (Option.bind_some _ _).symm.trans H; with_reducible exact H2_) | with_reducible exact H | (rw [hy363]; exact H) | exact H
           have Ny363 := QO hy363
           clear hy363
           have H' := QO H
           clear H
           have p361 : 0 ≤ (x13_1 : Int) := of_decide_eq_true (by first | (with_reducible assumption) | assumption)
           have q361 : x13_1 < (l0.length : Int) := of_decide_eq_true (by first | (with_reducible assumption) | assumption)
           obtain ⟨ad361,e361,hx361_0⟩ := Kd.at_int HR0.out x13_1 p361 q361
           cases e361
           replace hx361_0 := (HB.out.cell (World.block_lt_of_cell? w _ hx361_0)).trans hx361_0
           replace p361 := eq_true p361
           replace q361 := eq_true q361
           obtain ⟨Ao15,co15,eo15⟩ := Kd.R_slice HO_3.out
           subst eo15
           have p362 : 0 ≤ ((ji10) : Int) := of_decide_eq_true (by first | (with_reducible assumption) | assumption)
           have q362 : (ji10) < (x3_1.length : Int) := of_decide_eq_true (by first | (with_reducible assumption) | assumption)
           obtain ⟨ad362,e362,hx362_0⟩ := Kd.at_string (Kd.R_reads' HO_3.out).2.2 (ji10) p362 q362
           cases e362
           replace p362 := eq_true p362
           replace q362 := eq_true q362
           have p14 : 0 ≤ ((ji10) : Int) := of_decide_eq_true (by first | (with_reducible assumption) | assumption)
           have q14 : ((ji10) : Int) < ((x3_1.length : Int) : Int) := of_decide_eq_true (by first | (with_reducible assumption) | assumption)
           obtain ⟨go14,co14,eo14,gb14,gl14,cl14,HG14⟩ := Kd.R_form HO_3.out (by omega)
           (first | cases eo14 | (injection eo14 with ea_ en_ ec_; (first | subst ea_ | (injection ea_ with ea_; subst ea_)); subst ec_; clear en_))
           have GB14 := QO gb14
           have GG14 := QO HG14
           clear gb14 gl14 HG14
           (first | simp only [add_plain] at hx362_0 | skip)
           obtain ⟨hx14_0,hf14_0⟩ := Kd.R_celln (⟨#[]⟩ : ByteArray) HO_3.out ((ji10) : Int) p14 q14
           replace p14 := eq_true p14
           replace q14 := eq_true q14
           have HP16 := Kd.R_putg HO_3.out ((ji10) : Int) ((⟨#[33]⟩ : ByteArray) ++ (rdOf ByteArray.empty x3_1 (ji10)))
           go_wp2_with (first | ((with_reducible refine gate_store (t := 9) (p := 36) rfl ?_); refine store_event (t := 9) (p := 36) (v := ?vo_w17) (w1 := (wr.setCell ⟨go14,((ji10) : Int).toNat,none⟩ (.string ((⟨#[33]⟩ : ByteArray) ++ (rdOf ByteArray.empty x3_1 (ji10)))))) ?hg ?ho ?hn ?hr ?_; (case ho => rfl); (case hg => rfl); (case hn => rfl); (case hr => first | (go_simp; done) | (go_simp; rfl)); intro w17 hw; have hg : wr.grownBy w17 (some go14) := (by rw [hw]; exact HP16.2); have hp_ : Kd.R Kd.string 9 w17 w.heap.size (fun _ => True) (.slice (some ⟨go14,0,none⟩) x3_1.length co15) y363 := (by rw [hw,Ny363.out]; exact HP16.1); clear HP16; have n0_ := QO (hp_); have n1_ := QO ((by rw [hw]; exact QF (HB.out) GB14.out : Below w.heap.size w w17)); clear HO_3; clear HB; revert n0_ n1_; intro HO_3 HB; clear hg hw hp_))
           go_roundg k1
           case measure => have := HK1.out; omega
           case rel => exact ⟨(y363),(wrap64 (x13_1 + 1)),(by first | rfl | (simp; done) | (simp [*]; done)),H',⟨by have := HK1.out; omega⟩,⟨by (with_reducible repeat (first | apply Kd.R_alloc | apply Kd.R_drewN | apply Kd.R_drew)); exact HO_3.out⟩,⟨by repeat (first | (with_reducible first | exact HB.out | apply QD | apply QB | apply QC) | exact HB.out)⟩⟩
          ·rw [if_neg c13] at H
           exact absurd H (by simp)
         ·rw [if_neg c12] at H
          exact absurd H (by simp)
        ·rw [if_neg c11] at H
         exact absurd H (by simp)
       ·rw [if_neg c9] at H
        have c9b0 : ((rd l0 x13_1) == (-1)) = false := beq_eq_false_iff_ne.mpr c9
        have c9b1 : ((rd l0 x13_1) != (-1)) = true := bne_iff_ne.mpr c9
        by_cases c18 : (rd l0 x13_1) = (-2)
        ·rw [if_pos c18] at H
         have c18b0 : ((rd l0 x13_1) == (-2)) = true := beq_iff_eq.mpr c18
         have c18b1 : ((rd l0 x13_1) != (-2)) = false := bne_eq_false_iff_eq.mpr c18
         clear c18
         obtain ⟨ji19,hji19⟩ : ∃ j_ : Int,(wrap64 ((x3_1.length : Int) - 2)) = j_ := ⟨_,rfl⟩
         replace H : (if 0 ≤ (ji19) then (if (ji19) < (x3_1.length : Int) then (if 1 + (rdOf ByteArray.empty x3_1 (ji19)).size ≤ 9223372036854775807 then (if ((⟨#[40]⟩ : ByteArray) ++ (rdOf ByteArray.empty x3_1 (ji19))).size + 1 ≤ 9223372036854775807 then (if 0 ≤ (wrap64 ((x3_1.length : Int) - 1)) then (if (wrap64 ((x3_1.length : Int) - 1)) < (x3_1.length : Int) then (if (((⟨#[40]⟩ : ByteArray) ++ (rdOf ByteArray.empty x3_1 (ji19))) ++ (⟨#[38]⟩ : ByteArray)).size + (rdOf ByteArray.empty x3_1 (wrap64 ((x3_1.length : Int) - 1))).size ≤ 9223372036854775807 then (if ((((⟨#[40]⟩ : ByteArray) ++ (rdOf ByteArray.empty x3_1 (ji19))) ++ (⟨#[38]⟩ : ByteArray)) ++ (rdOf ByteArray.empty x3_1 (wrap64 ((x3_1.length : Int) - 1)))).size + 1 ≤ 9223372036854775807 then (if (ji19) ≤ (x3_1.length : Int) then ((some (x3_1.take ((ji19) : Int).toNat : List ByteArray)).bind fun y366 => (if y366.length < 8796093022208 then (impl_PatternText.l0 k1 (y366 ++ [((((⟨#[40]⟩ : ByteArray) ++ (rdOf ByteArray.empty x3_1 (ji19))) ++ (⟨#[38]⟩ : ByteArray)) ++ (rdOf ByteArray.empty x3_1 (wrap64 ((x3_1.length : Int) - 1)))) ++ (⟨#[41]⟩ : ByteArray)]) l0 (l0.length : Int) (wrap64 (x13_1 + 1))) else (none))) else (none)) else (none)) else (none)) else (none)) else (none)) else (none)) else (none)) else (none)) else (none)) = some r := by first | (rw [hji19] at H; exact H) | (simp only [hji19] at H ⊢; exact H)
         have hji19w : (IntKind.i64.wrap ((x3_1.length : Int) - 2)) = ji19 := (QG _).trans hji19
         by_cases c20 : 0 ≤ (ji19)
         ·rw [if_pos c20] at H
          have c20b0 : decide (0 ≤ (ji19)) = true := decide_eq_true c20
          clear c20
          by_cases c21 : (ji19) < (x3_1.length : Int)
          ·rw [if_pos c21] at H
           have c21b0 : decide ((ji19) < (x3_1.length : Int)) = true := decide_eq_true c21
           clear c21
           by_cases c22 : 1 + (rdOf ByteArray.empty x3_1 (ji19)).size ≤ 9223372036854775807
           ·rw [if_pos c22] at H
            have c22b0 := eq_true c22
            have c22b1 : decide (1 + (rdOf ByteArray.empty x3_1 (ji19)).size ≤ 9223372036854775807) = true := decide_eq_true c22
            try have c22b2 : (9223372036854775807 < 1 + (rdOf ByteArray.empty x3_1 (ji19)).size) = False := eq_false (Nat.not_lt.2 c22)
            by_cases c23 : ((⟨#[40]⟩ : ByteArray) ++ (rdOf ByteArray.empty x3_1 (ji19))).size + 1 ≤ 9223372036854775807
            ·rw [if_pos c23] at H
             have c23b0 := eq_true c23
             have c23b1 : decide (((⟨#[40]⟩ : ByteArray) ++ (rdOf ByteArray.empty x3_1 (ji19))).size + 1 ≤ 9223372036854775807) = true := decide_eq_true c23
             try have c23b2 : (9223372036854775807 < ((⟨#[40]⟩ : ByteArray) ++ (rdOf ByteArray.empty x3_1 (ji19))).size + 1) = False := eq_false (Nat.not_lt.2 c23)
             have c23b3 := c23b2
             (try simp only [ByteArray.size_append,ba_size,List.size_toArray,List.length_cons,List.length_nil,Nat.reduceAdd,Nat.zero_add] at c23b3)
             obtain ⟨ji24,hji24⟩ : ∃ j_ : Int,(wrap64 ((x3_1.length : Int) - 1)) = j_ := ⟨_,rfl⟩
             replace H : (if 0 ≤ (ji24) then (if (ji24) < (x3_1.length : Int) then (if (((⟨#[40]⟩ : ByteArray) ++ (rdOf ByteArray.empty x3_1 (ji19))) ++ (⟨#[38]⟩ : ByteArray)).size + (rdOf ByteArray.empty x3_1 (ji24)).size ≤ 9223372036854775807 then (if ((((⟨#[40]⟩ : ByteArray) ++ (rdOf ByteArray.empty x3_1 (ji19))) ++ (⟨#[38]⟩ : ByteArray)) ++ (rdOf ByteArray.empty x3_1 (ji24))).size + 1 ≤ 9223372036854775807 then (if (ji19) ≤ (x3_1.length : Int) then ((some (x3_1.take ((ji19) : Int).toNat : List ByteArray)).bind fun y366 => (if y366.length < 8796093022208 then (impl_PatternText.l0 k1 (y366 ++ [((((⟨#[40]⟩ : ByteArray) ++ (rdOf ByteArray.empty x3_1 (ji19))) ++ (⟨#[38]⟩ : ByteArray)) ++ (rdOf ByteArray.empty x3_1 (ji24))) ++ (⟨#[41]⟩ : ByteArray)]) l0 (l0.length : Int) (wrap64 (x13_1 + 1))) else (none))) else (none)) else (none)) else (none)) else (none)) else (none)) = some r := by first | (rw [hji24] at H; exact H) | (simp only [hji24] at H ⊢; exact H)
             have hji24w : (IntKind.i64.wrap ((x3_1.length : Int) - 1)) = ji24 := (QG _).trans hji24
             by_cases c25 : 0 ≤ (ji24)
             ·rw [if_pos c25] at H
              have c25b0 : decide (0 ≤ (ji24)) = true := decide_eq_true c25
              clear c25
              by_cases c26 : (ji24) < (x3_1.length : Int)
              ·rw [if_pos c26] at H
               have c26b0 : decide ((ji24) < (x3_1.length : Int)) = true := decide_eq_true c26
               clear c26
               by_cases c27 : (((⟨#[40]⟩ : ByteArray) ++ (rdOf ByteArray.empty x3_1 (ji19))) ++ (⟨#[38]⟩ : ByteArray)).size + (rdOf ByteArray.empty x3_1 (ji24)).size ≤ 9223372036854775807
               ·rw [if_pos c27] at H
                have c27b0 := eq_true c27
                have c27b1 : decide ((((⟨#[40]⟩ : ByteArray) ++ (rdOf ByteArray.empty x3_1 (ji19))) ++ (⟨#[38]⟩ : ByteArray)).size + (rdOf ByteArray.empty x3_1 (ji24)).size ≤ 9223372036854775807) = true := decide_eq_true c27
                try have c27b2 : (9223372036854775807 < (((⟨#[40]⟩ : ByteArray) ++ (rdOf ByteArray.empty x3_1 (ji19))) ++ (⟨#[38]⟩ : ByteArray)).size + (rdOf ByteArray.empty x3_1 (ji24)).size) = False := eq_false (Nat.not_lt.2 c27)
                have c27b3 := c27b2
                (try simp only [ByteArray.size_append,ba_size,List.size_toArray,List.length_cons,List.length_nil,Nat.reduceAdd,Nat.zero_add] at c27b3)
                by_cases c28 : ((((⟨#[40]⟩ : ByteArray) ++ (rdOf ByteArray.empty x3_1 (ji19))) ++ (⟨#[38]⟩ : ByteArray)) ++ (rdOf ByteArray.empty x3_1 (ji24))).size + 1 ≤ 9223372036854775807
                ·rw [if_pos c28] at H
                 have c28b0 := eq_true c28
                 have c28b1 : decide (((((⟨#[40]⟩ : ByteArray) ++ (rdOf ByteArray.empty x3_1 (ji19))) ++ (⟨#[38]⟩ : ByteArray)) ++ (rdOf ByteArray.empty x3_1 (ji24))).size + 1 ≤ 9223372036854775807) = true := decide_eq_true c28
                 try have c28b2 : (9223372036854775807 < ((((⟨#[40]⟩ : ByteArray) ++ (rdOf ByteArray.empty x3_1 (ji19))) ++ (⟨#[38]⟩ : ByteArray)) ++ (rdOf ByteArray.empty x3_1 (ji24))).size + 1) = False := eq_false (Nat.not_lt.2 c28)
                 have c28b3 := c28b2
                 (try simp only [ByteArray.size_append,ba_size,List.size_toArray,List.length_cons,List.length_nil,Nat.reduceAdd,Nat.zero_add] at c28b3)
                 by_cases c29 : (ji19) ≤ (x3_1.length : Int)
                 ·rw [if_pos c29] at H
                  have c29b0 := eq_true c29
                  have c29b1 : decide ((ji19) ≤ (x3_1.length : Int)) = true := decide_eq_true c29
                  clear c29
                  obtain ⟨y366,hy366⟩ : ∃ y_ : List ByteArray,y_ = (x3_1.take ((ji19) : Int).toNat) := ⟨_,rfl⟩
                  replace H : (if y366.length < 8796093022208 then (impl_PatternText.l0 k1 (y366 ++ [((((⟨#[40]⟩ : ByteArray) ++ (rdOf ByteArray.empty x3_1 (ji19))) ++ (⟨#[38]⟩ : ByteArray)) ++ (rdOf ByteArray.empty x3_1 (ji24))) ++ (⟨#[41]⟩ : ByteArray)]) l0 (l0.length : Int) (wrap64 (x13_1 + 1))) else (none)) = some r := by first | (rw [hy366]; with_reducible exact H) | (have H2_ := (Option.bind_some _ _).symm.trans H; rw [hy366]; with_reducible exact H2_) | (have H2_ := (Option.bind_some _ _).symm.trans H; with_reducible exact H2_) | with_reducible exact H | (rw [hy366]; exact H) | exact H
                  have Ny366 := QO hy366
                  clear hy366
                  by_cases c30 : y366.length < 8796093022208
                  ·rw [if_pos c30] at H
                   have LMc30 := QO c30
                   clear c30
                   obtain ⟨y369,hy369⟩ : ∃ y_ : List ByteArray,y_ = (y366 ++ [((((⟨#[40]⟩ : ByteArray) ++ (rdOf ByteArray.empty x3_1 (ji19))) ++ (⟨#[38]⟩ : ByteArray)) ++ (rdOf ByteArray.empty x3_1 (ji24))) ++ (⟨#[41]⟩ : ByteArray)]) := ⟨_,rfl⟩
                   replace H : (impl_PatternText.l0 k1 y369 l0 (l0.length : Int) (wrap64 (x13_1 + 1))) = some r := by first | (rw [hy369]; with_reducible exact H) | (have H2_ := (Option.bind_some _ _).symm.trans H; rw [hy369]; with_reducible exact H2_) | (have H2_ := (Option.bind_some _ _).symm.trans H; with_reducible exact H2_) | with_reducible exact H | (rw [hy369]; exact H) | exact H
                   have Ny369 := QO hy369
                   clear hy369
                   have H' := QO H
                   clear H
                   have p361 : 0 ≤ (x13_1 : Int) := of_decide_eq_true (by first | (with_reducible assumption) | assumption)
                   have q361 : x13_1 < (l0.length : Int) := of_decide_eq_true (by first | (with_reducible assumption) | assumption)
                   obtain ⟨ad361,e361,hx361_0⟩ := Kd.at_int HR0.out x13_1 p361 q361
                   cases e361
                   replace hx361_0 := (HB.out.cell (World.block_lt_of_cell? w _ hx361_0)).trans hx361_0
                   replace p361 := eq_true p361
                   replace q361 := eq_true q361
                   obtain ⟨Ao31,co31,eo31⟩ := Kd.R_slice HO_3.out
                   subst eo31
                   try go_wp2
                   have n0_ := QO (Kd.R_drew HO_3.out)
                   have n1_ := QO (QC HB.out)
                   clear HO_3
                   clear HB
                   revert n0_ n1_
                   intro HO_3 HB
                   have p364 : 0 ≤ ((ji19) : Int) := of_decide_eq_true (by first | (with_reducible assumption) | assumption)
                   have q364 : (ji19) < (x3_1.length : Int) := of_decide_eq_true (by first | (with_reducible assumption) | assumption)
                   obtain ⟨ad364,e364,hx364_0⟩ := Kd.at_string (Kd.R_reads' HO_3.out).2.2 (ji19) p364 q364
                   cases e364
                   replace p364 := eq_true p364
                   replace q364 := eq_true q364
                   have p365 : 0 ≤ ((ji24) : Int) := of_decide_eq_true (by first | (with_reducible assumption) | assumption)
                   have q365 : (ji24) < (x3_1.length : Int) := of_decide_eq_true (by first | (with_reducible assumption) | assumption)
                   obtain ⟨ad365,e365,hx365_0⟩ := Kd.at_string (Kd.R_reads' HO_3.out).2.2 (ji24) p365 q365
                   obtain rfl : ad364 = ad365 := (by injection e365)
                   replace p365 := eq_true p365
                   replace q365 := eq_true q365
                   have q33 : ((ji19) : Int) ≤ ((x3_1.length : Int) : Int) := of_decide_eq_true (by first | (with_reducible assumption) | assumption)
                   obtain ⟨i033,hi033,_,hsz33,_⟩ := info_parts info9
                   have hcut33 := cut_to (P := Tryd.prog) 36 9 .i64 Tryd.underlying36 hi033 (some ad364) x3_1.length co31 (ji19) (of_decide_eq_true (by first | (with_reducible assumption) | assumption)) q33 (Kd.R_reads' HO_3.out).2.1
                   have hr33 := Kd.R_take (m := ((ji19) : Int).toNat) HO_3.out (by omega)
                   have hy33 : y366.length = ((ji19) : Int).toNat := (by rw [Ny366.out,List.length_take]; omega)
                   rw [← Ny366.out] at hr33
                   rw [← hy33] at hr33 hcut33
                   clear hy33 hi033 hsz33 HO_3
                   have HO368 := QO hr33
                   clear hr33
                   replace q33 := eq_true q33
                   refine start_ (n := 21) (S := fun w' => w'.cell? (ad364.add ((ji19)).toNat) = some (.string (rdOf ByteArray.empty x3_1 (ji19))) ∧ w'.cell? (ad364.add ((ji24)).toNat) = some (.string (rdOf ByteArray.empty x3_1 (ji24)))) (ds := [18,19]) (ab 21 0) (by kernel_rfl) rfl rfl ⟨hx364_0,hx365_0⟩ (fun hHeld => ?_); refine with_tabW impl_PatternText.tab13 impl_PatternText.bits13 (fun HT_ HW_ => ?_)
                   generalize wr.drew = w32 at HB HO368 hx364_0 hx365_0 hHeld ⊢
                   refine pure_ (i := 0) (N := some 39) (v := ?_) (a' := ?_) (ab 21 1) rfl rfl (QI HT_.out (by kernel_rfl)) (fun _ _ _ h => h) (Or.inl ⟨by rfl,?_⟩) ?_ ?_
                   rotate_left
                   ·intro w'
                    go_simp
                    with_reducible rfl
                   rotate_left
                   ·simp only [Act.put,QL,QM,QN,QG,QH]
                    rfl
                   refine pure_ (i := 1) (N := some 40) (v := ?_) (a' := ?_) (ab 21 3) rfl rfl (QI HT_.out (by kernel_rfl)) (fun _ _ _ h => h) (Or.inl ⟨by rfl,?_⟩) ?_ ?_
                   rotate_left
                   ·intro w'
                    go_simp
                    with_reducible rfl
                   rotate_left
                   ·simp only [Act.put,QL,QM,QN,QG,QH]
                    rfl
                   refine pure_ (i := 2) (N := some 41) (v := ?_) (a' := ?_) (ab 21 7) rfl rfl (QI HT_.out (by kernel_rfl)) (fun _ _ _ h => h) (Or.inl ⟨by rfl,?_⟩) ?_ ?_
                   rotate_left
                   ·intro w'
                    go_simp
                    with_reducible rfl
                   rotate_left
                   ·simp only [Act.put,QL,QM,QN,QG,QH]
                    rfl
                   refine pure_ (i := 4) (N := some 43) (v := ?_) (a' := ?_) (ab 21 23) rfl rfl (QI HT_.out (by kernel_rfl)) (fun _ _ _ h => h) (Or.inl ⟨by rfl,?_⟩) ?_ ?_
                   rotate_left
                   ·intro w'
                    go_simp
                    with_reducible rfl
                   rotate_left
                   ·simp only [Act.put,QL,QM,QN,QG,QH]
                    rfl
                   refine pure_ (i := 5) (N := some 44) (v := ?_) (a' := ?_) (ab 21 55) rfl rfl (QI HT_.out (by kernel_rfl)) (fun _ _ _ h => h) (Or.inl ⟨by rfl,?_⟩) ?_ ?_
                   rotate_left
                   ·intro w'
                    go_simp
                    with_reducible rfl
                   rotate_left
                   ·simp only [Act.put,QL,QM,QN,QG,QH]
                    rfl
                   refine pure_ (i := 6) (N := some 45) (v := ?_) (a' := ?_) (ab 21 119) rfl rfl (QI HT_.out (by kernel_rfl)) (fun _ _ _ h => h) (Or.inl ⟨by rfl,?_⟩) ?_ ?_
                   rotate_left
                   ·intro w'
                    go_simp
                    with_reducible rfl
                   rotate_left
                   ·simp only [Act.put,QL,QM,QN,QG,QH]
                    rfl
                   refine pure_ (i := 7) (N := some 46) (v := ?_) (a' := ?_) (ab 21 247) rfl rfl (QI HT_.out (by kernel_rfl)) (fun _ _ _ h => h) (Or.inl ⟨by rfl,?_⟩) ?_ ?_
                   rotate_left
                   ·intro w'
                    go_simp
                    with_reducible rfl
                   rotate_left
                   ·simp only [Act.put,QL,QM,QN,QG,QH]
                    rfl
                   refine pure_ (i := 11) (N := some 50) (v := ?_) (a' := ?_) (ab 21 2295) rfl rfl (QI HT_.out (by kernel_rfl)) (fun _ _ _ h => h) (Or.inl ⟨by rfl,?_⟩) ?_ ?_
                   rotate_left
                   ·intro w'
                    go_simp
                    with_reducible rfl
                   rotate_left
                   ·simp only [Act.put,QL,QM,QN,QG,QH]
                    rfl
                   refine pure_ (i := 12) (N := some 51) (v := ?_) (a' := ?_) (ab 21 6391) rfl rfl (QI HT_.out (by kernel_rfl)) (fun _ _ _ h => h) (Or.inl ⟨by rfl,?_⟩) ?_ ?_
                   rotate_left
                   ·intro w'
                    go_simp
                    with_reducible rfl
                   rotate_left
                   ·simp only [Act.put,QL,QM,QN,QG,QH]
                    rfl
                   refine pure_ (i := 13) (N := some 52) (v := ?_) (a' := ?_) (ab 21 14583) rfl rfl (QI HT_.out (by kernel_rfl)) (fun _ _ _ h => h) (Or.inl ⟨by rfl,?_⟩) ?_ ?_
                   rotate_left
                   ·intro w'
                    go_simp
                    with_reducible rfl
                   rotate_left
                   ·simp only [Act.put,QL,QM,QN,QG,QH]
                    rfl
                   refine pure_ (i := 14) (N := some 53) (v := ?_) (a' := ?_) (ab 21 30967) rfl rfl (QI HT_.out (by kernel_rfl)) (fun _ _ _ h => h) (Or.inl ⟨by rfl,?_⟩) ?_ ?_
                   rotate_left
                   ·intro w'
                    go_simp
                    with_reducible rfl
                   rotate_left
                   ·simp only [Act.put,QL,QM,QN,QG,QH]
                    rfl
                   refine pure_ (i := 3) (N := some 42) (v := ?_) (a' := ?_) (ab 21 30975) rfl rfl (QI HT_.out (by kernel_rfl)) (fun _ _ _ h => h) (Or.inl ⟨by rfl,?_⟩) ?_ ?_
                   rotate_left
                   ·intro w'
                    go_simp
                    with_reducible rfl
                   rotate_left
                   ·simp only [Act.put,QL,QM,QN,QG,QH]
                    rfl
                   refine take_ (i := 8) (N := some 47) (v := ?_) (a' := ?_) (ab 21 31231) rfl rfl (take_ofW HT_.out HW_.out (by kernel_rfl)) (fun _ _ _ h => h) (Or.inl ⟨by rfl,?_⟩) hHeld ?_ ?_
                   rotate_left
                   ·rintro w' ⟨s0,s1⟩
                    go_simp
                    with_reducible rfl
                   rotate_left
                   ·simp only [Act.put,QL,QM,QN,QG,QH]
                    rfl
                   refine pure_ (i := 9) (N := some 48) (v := ?_) (a' := ?_) (ab 21 31743) rfl rfl (QI HT_.out (by kernel_rfl)) (fun _ _ _ h => h) (Or.inl ⟨by rfl,?_⟩) ?_ ?_
                   rotate_left
                   ·intro w'
                    go_simp
                    with_reducible rfl
                   rotate_left
                   ·simp only [Act.put,QL,QM,QN,QG,QH]
                    rfl
                   refine pure_ (i := 10) (N := some 49) (v := ?_) (a' := ?_) (ab 21 32767) rfl rfl (QI HT_.out (by kernel_rfl)) (fun _ _ _ h => h) (Or.inl ⟨by rfl,?_⟩) ?_ ?_
                   rotate_left
                   ·intro w'
                    go_simp
                    with_reducible rfl
                   rotate_left
                   ·simp only [Act.put,QL,QM,QN,QG,QH]
                    rfl
                   refine take_ (i := 15) (N := some 54) (v := ?_) (a' := ?_) (ab 21 65535) rfl rfl (take_ofW HT_.out HW_.out (by kernel_rfl)) (fun _ _ _ h => h) (Or.inl ⟨by rfl,?_⟩) hHeld ?_ ?_
                   rotate_left
                   ·rintro w' ⟨s0,s1⟩
                    go_simp
                    with_reducible rfl
                   rotate_left
                   ·simp only [Act.put,QL,QM,QN,QG,QH]
                    rfl
                   refine pure_ (i := 16) (N := some 55) (v := ?_) (a' := ?_) (ab 21 131071) rfl rfl (QI HT_.out (by kernel_rfl)) (fun _ _ _ h => h) (Or.inl ⟨by rfl,?_⟩) ?_ ?_
                   rotate_left
                   ·intro w'
                    go_simp
                    with_reducible rfl
                   rotate_left
                   ·simp only [Act.put,QL,QM,QN,QG,QH]
                    rfl
                   refine pure_ (i := 17) (N := some 56) (v := ?_) (a' := ?_) (ab 21 262143) rfl rfl (QI HT_.out (by kernel_rfl)) (fun _ _ _ h => h) (Or.inl ⟨by rfl,?_⟩) ?_ ?_
                   rotate_left
                   ·intro w'
                    go_simp
                    with_reducible rfl
                   rotate_left
                   ·simp only [Act.put,QL,QM,QN,QG,QH]
                    rfl
                   refine last_ (i := 18) (N := some 57) (ab 21 524287) rfl rfl (one_of HT_.out (by kernel_rfl)) (by decide) (fun K hK => ?_)
                   refine value_ (w1 := ?_) (v := ?_) (by rfl) rfl ?_ ?_
                   rotate_left 2
                   ·go_simp
                    constructor
                    ·rfl
                    ·rfl
                   refine hK.out _ _ ?_
                   clear hK K
                   refine norm_ (a' := ?_) ?_ ?_
                   rotate_left
                   ·show Act.put _ (some 57) _ = _
                    simp only [Act.put,QL,QM,QN,QG,QH]
                    rfl
                   refine last_ (i := 19) (N := some 58) (ab 21 1048575) rfl rfl (one_of HT_.out (by kernel_rfl)) (by decide) (fun K hK => ?_)
                   refine Kd.R_append_step Kd.string (w0 := w) w.heap.size (by rfl) (.tmp 42) (.tmp 57) 36 9 (.string ⟨#[]⟩) 16 rfl Tryd.underlying36 info9 rfl (by decide) (by omega) (.slice (some ad364) y366.length co31) y366 (((((⟨#[40]⟩ : ByteArray) ++ (rdOf ByteArray.empty x3_1 (ji19))) ++ (⟨#[38]⟩ : ByteArray)) ++ (rdOf ByteArray.empty x3_1 (ji24))) ++ (⟨#[41]⟩ : ByteArray)) [.string (((((⟨#[40]⟩ : ByteArray) ++ (rdOf ByteArray.empty x3_1 (ji19))) ++ (⟨#[38]⟩ : ByteArray)) ++ (rdOf ByteArray.empty x3_1 (ji24))) ++ (⟨#[41]⟩ : ByteArray))] (fun _ => True) (fun _ => False) rfl rfl ?aP (fun _ hk => hk.elim) ?aF ?aO ?aB ?aS ?aL ?_
                   (case aP => exact rfl)
                   (case aB => exact (by repeat (first | (with_reducible first | exact HB.out | apply QD | apply QB | apply QC) | exact HB.out)))
                   (case aF => exact (fun _ _ => trivial))
                   (case aO => exact (by (with_reducible repeat (first | apply Kd.R_alloc | apply Kd.R_drewN | apply Kd.R_drew)); exact HO368.out))
                   (case aS => exact (QJ (by repeat (first | (with_reducible first | exact HB.out | apply QD | apply QB | apply QC) | exact HB.out))))
                   (case aL => have := LMc30.out; omega)
                   intro v370 w34 ho hb hg hat
                   rw [← Ny369.out] at ho
                   have n0_ := QO (hb)
                   have n1_ := QO (ho)
                   clear HB
                   clear HO368
                   revert n0_ n1_
                   intro HB HO371
                   clear ho hb hg hat
                   refine hK.out _ _ ?_
                   clear hK K
                   refine norm_ (a' := ?_) ?_ ?_
                   rotate_left
                   ·show Act.put _ (some 58) _ = _
                    simp only [Act.put,QL,QM,QN,QG,QH]
                    rfl
                   refine pure_ (i := 20) (N := some 3) (v := ?_) (a' := ?_) (ab 21 2097151) rfl rfl (QI HT_.out (by kernel_rfl)) (fun _ _ _ h => h) (Or.inl ⟨by rfl,?_⟩) ?_ ?_
                   rotate_left
                   ·intro w'
                    go_simp
                    with_reducible rfl
                   rotate_left
                   ·simp only [Act.put,QL,QM,QN,QG,QH]
                    rfl
                   refine done_ (done_of HT_.out (by kernel_rfl)) ?_
                   try go_wp2
                   go_roundg k1
                   case measure => have := HK1.out; omega
                   case rel => exact ⟨(y369),(wrap64 (x13_1 + 1)),(by first | rfl | (simp; done) | (simp [*]; done)),H',⟨by have := HK1.out; omega⟩,⟨by (with_reducible repeat (first | apply Kd.R_alloc | apply Kd.R_drewN | apply Kd.R_drew)); exact HO371.out⟩,⟨by repeat (first | (with_reducible first | exact HB.out | apply QD | apply QB | apply QC) | exact HB.out)⟩⟩
                  ·rw [if_neg c30] at H
                   exact absurd H (by simp)
                 ·rw [if_neg c29] at H
                  exact absurd H (by simp)
                ·rw [if_neg c28] at H
                 exact absurd H (by simp)
               ·rw [if_neg c27] at H
                exact absurd H (by simp)
              ·rw [if_neg c26] at H
               exact absurd H (by simp)
             ·rw [if_neg c25] at H
              exact absurd H (by simp)
            ·rw [if_neg c23] at H
             exact absurd H (by simp)
           ·rw [if_neg c22] at H
            exact absurd H (by simp)
          ·rw [if_neg c21] at H
           exact absurd H (by simp)
         ·rw [if_neg c20] at H
          exact absurd H (by simp)
        ·rw [if_neg c18] at H
         have c18b0 : ((rd l0 x13_1) == (-2)) = false := beq_eq_false_iff_ne.mpr c18
         have c18b1 : ((rd l0 x13_1) != (-2)) = true := bne_iff_ne.mpr c18
         by_cases c35 : (rd l0 x13_1) = (-3)
         ·rw [if_pos c35] at H
          have c35b0 : ((rd l0 x13_1) == (-3)) = true := beq_iff_eq.mpr c35
          have c35b1 : ((rd l0 x13_1) != (-3)) = false := bne_eq_false_iff_eq.mpr c35
          clear c35
          obtain ⟨ji36,hji36⟩ : ∃ j_ : Int,(wrap64 ((x3_1.length : Int) - 2)) = j_ := ⟨_,rfl⟩
          replace H : (if 0 ≤ (ji36) then (if (ji36) < (x3_1.length : Int) then (if 1 + (rdOf ByteArray.empty x3_1 (ji36)).size ≤ 9223372036854775807 then (if ((⟨#[40]⟩ : ByteArray) ++ (rdOf ByteArray.empty x3_1 (ji36))).size + 1 ≤ 9223372036854775807 then (if 0 ≤ (wrap64 ((x3_1.length : Int) - 1)) then (if (wrap64 ((x3_1.length : Int) - 1)) < (x3_1.length : Int) then (if (((⟨#[40]⟩ : ByteArray) ++ (rdOf ByteArray.empty x3_1 (ji36))) ++ (⟨#[124]⟩ : ByteArray)).size + (rdOf ByteArray.empty x3_1 (wrap64 ((x3_1.length : Int) - 1))).size ≤ 9223372036854775807 then (if ((((⟨#[40]⟩ : ByteArray) ++ (rdOf ByteArray.empty x3_1 (ji36))) ++ (⟨#[124]⟩ : ByteArray)) ++ (rdOf ByteArray.empty x3_1 (wrap64 ((x3_1.length : Int) - 1)))).size + 1 ≤ 9223372036854775807 then (if (ji36) ≤ (x3_1.length : Int) then ((some (x3_1.take ((ji36) : Int).toNat : List ByteArray)).bind fun y374 => (if y374.length < 8796093022208 then (impl_PatternText.l0 k1 (y374 ++ [((((⟨#[40]⟩ : ByteArray) ++ (rdOf ByteArray.empty x3_1 (ji36))) ++ (⟨#[124]⟩ : ByteArray)) ++ (rdOf ByteArray.empty x3_1 (wrap64 ((x3_1.length : Int) - 1)))) ++ (⟨#[41]⟩ : ByteArray)]) l0 (l0.length : Int) (wrap64 (x13_1 + 1))) else (none))) else (none)) else (none)) else (none)) else (none)) else (none)) else (none)) else (none)) else (none)) else (none)) = some r := by first | (rw [hji36] at H; exact H) | (simp only [hji36] at H ⊢; exact H)
          have hji36w : (IntKind.i64.wrap ((x3_1.length : Int) - 2)) = ji36 := (QG _).trans hji36
          by_cases c37 : 0 ≤ (ji36)
          ·rw [if_pos c37] at H
           have c37b0 : decide (0 ≤ (ji36)) = true := decide_eq_true c37
           clear c37
           by_cases c38 : (ji36) < (x3_1.length : Int)
           ·rw [if_pos c38] at H
            have c38b0 : decide ((ji36) < (x3_1.length : Int)) = true := decide_eq_true c38
            clear c38
            by_cases c39 : 1 + (rdOf ByteArray.empty x3_1 (ji36)).size ≤ 9223372036854775807
            ·rw [if_pos c39] at H
             have c39b0 := eq_true c39
             have c39b1 : decide (1 + (rdOf ByteArray.empty x3_1 (ji36)).size ≤ 9223372036854775807) = true := decide_eq_true c39
             try have c39b2 : (9223372036854775807 < 1 + (rdOf ByteArray.empty x3_1 (ji36)).size) = False := eq_false (Nat.not_lt.2 c39)
             by_cases c40 : ((⟨#[40]⟩ : ByteArray) ++ (rdOf ByteArray.empty x3_1 (ji36))).size + 1 ≤ 9223372036854775807
             ·rw [if_pos c40] at H
              have c40b0 := eq_true c40
              have c40b1 : decide (((⟨#[40]⟩ : ByteArray) ++ (rdOf ByteArray.empty x3_1 (ji36))).size + 1 ≤ 9223372036854775807) = true := decide_eq_true c40
              try have c40b2 : (9223372036854775807 < ((⟨#[40]⟩ : ByteArray) ++ (rdOf ByteArray.empty x3_1 (ji36))).size + 1) = False := eq_false (Nat.not_lt.2 c40)
              have c40b3 := c40b2
              (try simp only [ByteArray.size_append,ba_size,List.size_toArray,List.length_cons,List.length_nil,Nat.reduceAdd,Nat.zero_add] at c40b3)
              obtain ⟨ji41,hji41⟩ : ∃ j_ : Int,(wrap64 ((x3_1.length : Int) - 1)) = j_ := ⟨_,rfl⟩
              replace H : (if 0 ≤ (ji41) then (if (ji41) < (x3_1.length : Int) then (if (((⟨#[40]⟩ : ByteArray) ++ (rdOf ByteArray.empty x3_1 (ji36))) ++ (⟨#[124]⟩ : ByteArray)).size + (rdOf ByteArray.empty x3_1 (ji41)).size ≤ 9223372036854775807 then (if ((((⟨#[40]⟩ : ByteArray) ++ (rdOf ByteArray.empty x3_1 (ji36))) ++ (⟨#[124]⟩ : ByteArray)) ++ (rdOf ByteArray.empty x3_1 (ji41))).size + 1 ≤ 9223372036854775807 then (if (ji36) ≤ (x3_1.length : Int) then ((some (x3_1.take ((ji36) : Int).toNat : List ByteArray)).bind fun y374 => (if y374.length < 8796093022208 then (impl_PatternText.l0 k1 (y374 ++ [((((⟨#[40]⟩ : ByteArray) ++ (rdOf ByteArray.empty x3_1 (ji36))) ++ (⟨#[124]⟩ : ByteArray)) ++ (rdOf ByteArray.empty x3_1 (ji41))) ++ (⟨#[41]⟩ : ByteArray)]) l0 (l0.length : Int) (wrap64 (x13_1 + 1))) else (none))) else (none)) else (none)) else (none)) else (none)) else (none)) = some r := by first | (rw [hji41] at H; exact H) | (simp only [hji41] at H ⊢; exact H)
              have hji41w : (IntKind.i64.wrap ((x3_1.length : Int) - 1)) = ji41 := (QG _).trans hji41
              by_cases c42 : 0 ≤ (ji41)
              ·rw [if_pos c42] at H
               have c42b0 : decide (0 ≤ (ji41)) = true := decide_eq_true c42
               clear c42
               by_cases c43 : (ji41) < (x3_1.length : Int)
               ·rw [if_pos c43] at H
                have c43b0 : decide ((ji41) < (x3_1.length : Int)) = true := decide_eq_true c43
                clear c43
                by_cases c44 : (((⟨#[40]⟩ : ByteArray) ++ (rdOf ByteArray.empty x3_1 (ji36))) ++ (⟨#[124]⟩ : ByteArray)).size + (rdOf ByteArray.empty x3_1 (ji41)).size ≤ 9223372036854775807
                ·rw [if_pos c44] at H
                 have c44b0 := eq_true c44
                 have c44b1 : decide ((((⟨#[40]⟩ : ByteArray) ++ (rdOf ByteArray.empty x3_1 (ji36))) ++ (⟨#[124]⟩ : ByteArray)).size + (rdOf ByteArray.empty x3_1 (ji41)).size ≤ 9223372036854775807) = true := decide_eq_true c44
                 try have c44b2 : (9223372036854775807 < (((⟨#[40]⟩ : ByteArray) ++ (rdOf ByteArray.empty x3_1 (ji36))) ++ (⟨#[124]⟩ : ByteArray)).size + (rdOf ByteArray.empty x3_1 (ji41)).size) = False := eq_false (Nat.not_lt.2 c44)
                 have c44b3 := c44b2
                 (try simp only [ByteArray.size_append,ba_size,List.size_toArray,List.length_cons,List.length_nil,Nat.reduceAdd,Nat.zero_add] at c44b3)
                 by_cases c45 : ((((⟨#[40]⟩ : ByteArray) ++ (rdOf ByteArray.empty x3_1 (ji36))) ++ (⟨#[124]⟩ : ByteArray)) ++ (rdOf ByteArray.empty x3_1 (ji41))).size + 1 ≤ 9223372036854775807
                 ·rw [if_pos c45] at H
                  have c45b0 := eq_true c45
                  have c45b1 : decide (((((⟨#[40]⟩ : ByteArray) ++ (rdOf ByteArray.empty x3_1 (ji36))) ++ (⟨#[124]⟩ : ByteArray)) ++ (rdOf ByteArray.empty x3_1 (ji41))).size + 1 ≤ 9223372036854775807) = true := decide_eq_true c45
                  try have c45b2 : (9223372036854775807 < ((((⟨#[40]⟩ : ByteArray) ++ (rdOf ByteArray.empty x3_1 (ji36))) ++ (⟨#[124]⟩ : ByteArray)) ++ (rdOf ByteArray.empty x3_1 (ji41))).size + 1) = False := eq_false (Nat.not_lt.2 c45)
                  have c45b3 := c45b2
                  (try simp only [ByteArray.size_append,ba_size,List.size_toArray,List.length_cons,List.length_nil,Nat.reduceAdd,Nat.zero_add] at c45b3)
                  by_cases c46 : (ji36) ≤ (x3_1.length : Int)
                  ·rw [if_pos c46] at H
                   have c46b0 := eq_true c46
                   have c46b1 : decide ((ji36) ≤ (x3_1.length : Int)) = true := decide_eq_true c46
                   clear c46
                   obtain ⟨y374,hy374⟩ : ∃ y_ : List ByteArray,y_ = (x3_1.take ((ji36) : Int).toNat) := ⟨_,rfl⟩
                   replace H : (if y374.length < 8796093022208 then (impl_PatternText.l0 k1 (y374 ++ [((((⟨#[40]⟩ : ByteArray) ++ (rdOf ByteArray.empty x3_1 (ji36))) ++ (⟨#[124]⟩ : ByteArray)) ++ (rdOf ByteArray.empty x3_1 (ji41))) ++ (⟨#[41]⟩ : ByteArray)]) l0 (l0.length : Int) (wrap64 (x13_1 + 1))) else (none)) = some r := by first | (rw [hy374]; with_reducible exact H) | (have H2_ := (Option.bind_some _ _).symm.trans H; rw [hy374]; with_reducible exact H2_) | (have H2_ := (Option.bind_some _ _).symm.trans H; with_reducible exact H2_) | with_reducible exact H | (rw [hy374]; exact H) | exact H
                   have Ny374 := QO hy374
                   clear hy374
                   by_cases c47 : y374.length < 8796093022208
                   ·rw [if_pos c47] at H
                    have LMc47 := QO c47
                    clear c47
                    obtain ⟨y377,hy377⟩ : ∃ y_ : List ByteArray,y_ = (y374 ++ [((((⟨#[40]⟩ : ByteArray) ++ (rdOf ByteArray.empty x3_1 (ji36))) ++ (⟨#[124]⟩ : ByteArray)) ++ (rdOf ByteArray.empty x3_1 (ji41))) ++ (⟨#[41]⟩ : ByteArray)]) := ⟨_,rfl⟩
                    replace H : (impl_PatternText.l0 k1 y377 l0 (l0.length : Int) (wrap64 (x13_1 + 1))) = some r := by first | (rw [hy377]; with_reducible exact H) | (have H2_ := (Option.bind_some _ _).symm.trans H; rw [hy377]; with_reducible exact H2_) | (have H2_ := (Option.bind_some _ _).symm.trans H; with_reducible exact H2_) | with_reducible exact H | (rw [hy377]; exact H) | exact H
                    have Ny377 := QO hy377
                    clear hy377
                    have H' := QO H
                    clear H
                    have p361 : 0 ≤ (x13_1 : Int) := of_decide_eq_true (by first | (with_reducible assumption) | assumption)
                    have q361 : x13_1 < (l0.length : Int) := of_decide_eq_true (by first | (with_reducible assumption) | assumption)
                    obtain ⟨ad361,e361,hx361_0⟩ := Kd.at_int HR0.out x13_1 p361 q361
                    cases e361
                    replace hx361_0 := (HB.out.cell (World.block_lt_of_cell? w _ hx361_0)).trans hx361_0
                    replace p361 := eq_true p361
                    replace q361 := eq_true q361
                    obtain ⟨Ao48,co48,eo48⟩ := Kd.R_slice HO_3.out
                    subst eo48
                    try go_wp2
                    have n0_ := QO (Kd.R_drew HO_3.out)
                    have n1_ := QO (QC HB.out)
                    clear HO_3
                    clear HB
                    revert n0_ n1_
                    intro HO_3 HB
                    have p372 : 0 ≤ ((ji36) : Int) := of_decide_eq_true (by first | (with_reducible assumption) | assumption)
                    have q372 : (ji36) < (x3_1.length : Int) := of_decide_eq_true (by first | (with_reducible assumption) | assumption)
                    obtain ⟨ad372,e372,hx372_0⟩ := Kd.at_string (Kd.R_reads' HO_3.out).2.2 (ji36) p372 q372
                    cases e372
                    replace p372 := eq_true p372
                    replace q372 := eq_true q372
                    have p373 : 0 ≤ ((ji41) : Int) := of_decide_eq_true (by first | (with_reducible assumption) | assumption)
                    have q373 : (ji41) < (x3_1.length : Int) := of_decide_eq_true (by first | (with_reducible assumption) | assumption)
                    obtain ⟨ad373,e373,hx373_0⟩ := Kd.at_string (Kd.R_reads' HO_3.out).2.2 (ji41) p373 q373
                    obtain rfl : ad372 = ad373 := (by injection e373)
                    replace p373 := eq_true p373
                    replace q373 := eq_true q373
                    have q50 : ((ji36) : Int) ≤ ((x3_1.length : Int) : Int) := of_decide_eq_true (by first | (with_reducible assumption) | assumption)
                    obtain ⟨i050,hi050,_,hsz50,_⟩ := info_parts info9
                    have hcut50 := cut_to (P := Tryd.prog) 36 9 .i64 Tryd.underlying36 hi050 (some ad372) x3_1.length co48 (ji36) (of_decide_eq_true (by first | (with_reducible assumption) | assumption)) q50 (Kd.R_reads' HO_3.out).2.1
                    have hr50 := Kd.R_take (m := ((ji36) : Int).toNat) HO_3.out (by omega)
                    have hy50 : y374.length = ((ji36) : Int).toNat := (by rw [Ny374.out,List.length_take]; omega)
                    rw [← Ny374.out] at hr50
                    rw [← hy50] at hr50 hcut50
                    clear hy50 hi050 hsz50 HO_3
                    have HO376 := QO hr50
                    clear hr50
                    replace q50 := eq_true q50
                    refine start_ (n := 21) (S := fun w' => w'.cell? (ad372.add ((ji36)).toNat) = some (.string (rdOf ByteArray.empty x3_1 (ji36))) ∧ w'.cell? (ad372.add ((ji41)).toNat) = some (.string (rdOf ByteArray.empty x3_1 (ji41)))) (ds := [18,19]) (ab 21 0) (by kernel_rfl) rfl rfl ⟨hx372_0,hx373_0⟩ (fun hHeld => ?_); refine with_tabW impl_PatternText.tab15 impl_PatternText.bits15 (fun HT_ HW_ => ?_)
                    generalize wr.drew = w49 at HB HO376 hx372_0 hx373_0 hHeld ⊢
                    refine pure_ (i := 0) (N := some 61) (v := ?_) (a' := ?_) (ab 21 1) rfl rfl (QI HT_.out (by kernel_rfl)) (fun _ _ _ h => h) (Or.inl ⟨by rfl,?_⟩) ?_ ?_
                    rotate_left
                    ·intro w'
                     go_simp
                     with_reducible rfl
                    rotate_left
                    ·simp only [Act.put,QL,QM,QN,QG,QH]
                     rfl
                    refine pure_ (i := 1) (N := some 62) (v := ?_) (a' := ?_) (ab 21 3) rfl rfl (QI HT_.out (by kernel_rfl)) (fun _ _ _ h => h) (Or.inl ⟨by rfl,?_⟩) ?_ ?_
                    rotate_left
                    ·intro w'
                     go_simp
                     with_reducible rfl
                    rotate_left
                    ·simp only [Act.put,QL,QM,QN,QG,QH]
                     rfl
                    refine pure_ (i := 2) (N := some 63) (v := ?_) (a' := ?_) (ab 21 7) rfl rfl (QI HT_.out (by kernel_rfl)) (fun _ _ _ h => h) (Or.inl ⟨by rfl,?_⟩) ?_ ?_
                    rotate_left
                    ·intro w'
                     go_simp
                     with_reducible rfl
                    rotate_left
                    ·simp only [Act.put,QL,QM,QN,QG,QH]
                     rfl
                    refine pure_ (i := 4) (N := some 65) (v := ?_) (a' := ?_) (ab 21 23) rfl rfl (QI HT_.out (by kernel_rfl)) (fun _ _ _ h => h) (Or.inl ⟨by rfl,?_⟩) ?_ ?_
                    rotate_left
                    ·intro w'
                     go_simp
                     with_reducible rfl
                    rotate_left
                    ·simp only [Act.put,QL,QM,QN,QG,QH]
                     rfl
                    refine pure_ (i := 5) (N := some 66) (v := ?_) (a' := ?_) (ab 21 55) rfl rfl (QI HT_.out (by kernel_rfl)) (fun _ _ _ h => h) (Or.inl ⟨by rfl,?_⟩) ?_ ?_
                    rotate_left
                    ·intro w'
                     go_simp
                     with_reducible rfl
                    rotate_left
                    ·simp only [Act.put,QL,QM,QN,QG,QH]
                     rfl
                    refine pure_ (i := 6) (N := some 67) (v := ?_) (a' := ?_) (ab 21 119) rfl rfl (QI HT_.out (by kernel_rfl)) (fun _ _ _ h => h) (Or.inl ⟨by rfl,?_⟩) ?_ ?_
                    rotate_left
                    ·intro w'
                     go_simp
                     with_reducible rfl
                    rotate_left
                    ·simp only [Act.put,QL,QM,QN,QG,QH]
                     rfl
                    refine pure_ (i := 7) (N := some 68) (v := ?_) (a' := ?_) (ab 21 247) rfl rfl (QI HT_.out (by kernel_rfl)) (fun _ _ _ h => h) (Or.inl ⟨by rfl,?_⟩) ?_ ?_
                    rotate_left
                    ·intro w'
                     go_simp
                     with_reducible rfl
                    rotate_left
                    ·simp only [Act.put,QL,QM,QN,QG,QH]
                     rfl
                    refine pure_ (i := 11) (N := some 72) (v := ?_) (a' := ?_) (ab 21 2295) rfl rfl (QI HT_.out (by kernel_rfl)) (fun _ _ _ h => h) (Or.inl ⟨by rfl,?_⟩) ?_ ?_
                    rotate_left
                    ·intro w'
                     go_simp
                     with_reducible rfl
                    rotate_left
                    ·simp only [Act.put,QL,QM,QN,QG,QH]
                     rfl
                    refine pure_ (i := 12) (N := some 73) (v := ?_) (a' := ?_) (ab 21 6391) rfl rfl (QI HT_.out (by kernel_rfl)) (fun _ _ _ h => h) (Or.inl ⟨by rfl,?_⟩) ?_ ?_
                    rotate_left
                    ·intro w'
                     go_simp
                     with_reducible rfl
                    rotate_left
                    ·simp only [Act.put,QL,QM,QN,QG,QH]
                     rfl
                    refine pure_ (i := 13) (N := some 74) (v := ?_) (a' := ?_) (ab 21 14583) rfl rfl (QI HT_.out (by kernel_rfl)) (fun _ _ _ h => h) (Or.inl ⟨by rfl,?_⟩) ?_ ?_
                    rotate_left
                    ·intro w'
                     go_simp
                     with_reducible rfl
                    rotate_left
                    ·simp only [Act.put,QL,QM,QN,QG,QH]
                     rfl
                    refine pure_ (i := 14) (N := some 75) (v := ?_) (a' := ?_) (ab 21 30967) rfl rfl (QI HT_.out (by kernel_rfl)) (fun _ _ _ h => h) (Or.inl ⟨by rfl,?_⟩) ?_ ?_
                    rotate_left
                    ·intro w'
                     go_simp
                     with_reducible rfl
                    rotate_left
                    ·simp only [Act.put,QL,QM,QN,QG,QH]
                     rfl
                    refine pure_ (i := 3) (N := some 64) (v := ?_) (a' := ?_) (ab 21 30975) rfl rfl (QI HT_.out (by kernel_rfl)) (fun _ _ _ h => h) (Or.inl ⟨by rfl,?_⟩) ?_ ?_
                    rotate_left
                    ·intro w'
                     go_simp
                     with_reducible rfl
                    rotate_left
                    ·simp only [Act.put,QL,QM,QN,QG,QH]
                     rfl
                    refine take_ (i := 8) (N := some 69) (v := ?_) (a' := ?_) (ab 21 31231) rfl rfl (take_ofW HT_.out HW_.out (by kernel_rfl)) (fun _ _ _ h => h) (Or.inl ⟨by rfl,?_⟩) hHeld ?_ ?_
                    rotate_left
                    ·rintro w' ⟨s0,s1⟩
                     go_simp
                     with_reducible rfl
                    rotate_left
                    ·simp only [Act.put,QL,QM,QN,QG,QH]
                     rfl
                    refine pure_ (i := 9) (N := some 70) (v := ?_) (a' := ?_) (ab 21 31743) rfl rfl (QI HT_.out (by kernel_rfl)) (fun _ _ _ h => h) (Or.inl ⟨by rfl,?_⟩) ?_ ?_
                    rotate_left
                    ·intro w'
                     go_simp
                     with_reducible rfl
                    rotate_left
                    ·simp only [Act.put,QL,QM,QN,QG,QH]
                     rfl
                    refine pure_ (i := 10) (N := some 71) (v := ?_) (a' := ?_) (ab 21 32767) rfl rfl (QI HT_.out (by kernel_rfl)) (fun _ _ _ h => h) (Or.inl ⟨by rfl,?_⟩) ?_ ?_
                    rotate_left
                    ·intro w'
                     go_simp
                     with_reducible rfl
                    rotate_left
                    ·simp only [Act.put,QL,QM,QN,QG,QH]
                     rfl
                    refine take_ (i := 15) (N := some 76) (v := ?_) (a' := ?_) (ab 21 65535) rfl rfl (take_ofW HT_.out HW_.out (by kernel_rfl)) (fun _ _ _ h => h) (Or.inl ⟨by rfl,?_⟩) hHeld ?_ ?_
                    rotate_left
                    ·rintro w' ⟨s0,s1⟩
                     go_simp
                     with_reducible rfl
                    rotate_left
                    ·simp only [Act.put,QL,QM,QN,QG,QH]
                     rfl
                    refine pure_ (i := 16) (N := some 77) (v := ?_) (a' := ?_) (ab 21 131071) rfl rfl (QI HT_.out (by kernel_rfl)) (fun _ _ _ h => h) (Or.inl ⟨by rfl,?_⟩) ?_ ?_
                    rotate_left
                    ·intro w'
                     go_simp
                     with_reducible rfl
                    rotate_left
                    ·simp only [Act.put,QL,QM,QN,QG,QH]
                     rfl
                    refine pure_ (i := 17) (N := some 78) (v := ?_) (a' := ?_) (ab 21 262143) rfl rfl (QI HT_.out (by kernel_rfl)) (fun _ _ _ h => h) (Or.inl ⟨by rfl,?_⟩) ?_ ?_
                    rotate_left
                    ·intro w'
                     go_simp
                     with_reducible rfl
                    rotate_left
                    ·simp only [Act.put,QL,QM,QN,QG,QH]
                     rfl
                    refine last_ (i := 18) (N := some 79) (ab 21 524287) rfl rfl (one_of HT_.out (by kernel_rfl)) (by decide) (fun K hK => ?_)
                    refine value_ (w1 := ?_) (v := ?_) (by rfl) rfl ?_ ?_
                    rotate_left 2
                    ·go_simp
                     constructor
                     ·rfl
                     ·rfl
                    refine hK.out _ _ ?_
                    clear hK K
                    refine norm_ (a' := ?_) ?_ ?_
                    rotate_left
                    ·show Act.put _ (some 79) _ = _
                     simp only [Act.put,QL,QM,QN,QG,QH]
                     rfl
                    refine last_ (i := 19) (N := some 80) (ab 21 1048575) rfl rfl (one_of HT_.out (by kernel_rfl)) (by decide) (fun K hK => ?_)
                    refine Kd.R_append_step Kd.string (w0 := w) w.heap.size (by rfl) (.tmp 64) (.tmp 79) 36 9 (.string ⟨#[]⟩) 16 rfl Tryd.underlying36 info9 rfl (by decide) (by omega) (.slice (some ad372) y374.length co48) y374 (((((⟨#[40]⟩ : ByteArray) ++ (rdOf ByteArray.empty x3_1 (ji36))) ++ (⟨#[124]⟩ : ByteArray)) ++ (rdOf ByteArray.empty x3_1 (ji41))) ++ (⟨#[41]⟩ : ByteArray)) [.string (((((⟨#[40]⟩ : ByteArray) ++ (rdOf ByteArray.empty x3_1 (ji36))) ++ (⟨#[124]⟩ : ByteArray)) ++ (rdOf ByteArray.empty x3_1 (ji41))) ++ (⟨#[41]⟩ : ByteArray))] (fun _ => True) (fun _ => False) rfl rfl ?aP (fun _ hk => hk.elim) ?aF ?aO ?aB ?aS ?aL ?_
                    (case aP => exact rfl)
                    (case aB => exact (by repeat (first | (with_reducible first | exact HB.out | apply QD | apply QB | apply QC) | exact HB.out)))
                    (case aF => exact (fun _ _ => trivial))
                    (case aO => exact (by (with_reducible repeat (first | apply Kd.R_alloc | apply Kd.R_drewN | apply Kd.R_drew)); exact HO376.out))
                    (case aS => exact (QJ (by repeat (first | (with_reducible first | exact HB.out | apply QD | apply QB | apply QC) | exact HB.out))))
                    (case aL => have := LMc47.out; omega)
                    intro v378 w51 ho hb hg hat
                    rw [← Ny377.out] at ho
                    have n0_ := QO (hb)
                    have n1_ := QO (ho)
                    clear HB
                    clear HO376
                    revert n0_ n1_
                    intro HB HO379
                    clear ho hb hg hat
                    refine hK.out _ _ ?_
                    clear hK K
                    refine norm_ (a' := ?_) ?_ ?_
                    rotate_left
                    ·show Act.put _ (some 80) _ = _
                     simp only [Act.put,QL,QM,QN,QG,QH]
                     rfl
                    refine pure_ (i := 20) (N := some 3) (v := ?_) (a' := ?_) (ab 21 2097151) rfl rfl (QI HT_.out (by kernel_rfl)) (fun _ _ _ h => h) (Or.inl ⟨by rfl,?_⟩) ?_ ?_
                    rotate_left
                    ·intro w'
                     go_simp
                     with_reducible rfl
                    rotate_left
                    ·simp only [Act.put,QL,QM,QN,QG,QH]
                     rfl
                    refine done_ (done_of HT_.out (by kernel_rfl)) ?_
                    try go_wp2
                    go_roundg k1
                    case measure => have := HK1.out; omega
                    case rel => exact ⟨(y377),(wrap64 (x13_1 + 1)),(by first | rfl | (simp; done) | (simp [*]; done)),H',⟨by have := HK1.out; omega⟩,⟨by (with_reducible repeat (first | apply Kd.R_alloc | apply Kd.R_drewN | apply Kd.R_drew)); exact HO379.out⟩,⟨by repeat (first | (with_reducible first | exact HB.out | apply QD | apply QB | apply QC) | exact HB.out)⟩⟩
                   ·rw [if_neg c47] at H
                    exact absurd H (by simp)
                  ·rw [if_neg c46] at H
                   exact absurd H (by simp)
                 ·rw [if_neg c45] at H
                  exact absurd H (by simp)
                ·rw [if_neg c44] at H
                 exact absurd H (by simp)
               ·rw [if_neg c43] at H
                exact absurd H (by simp)
              ·rw [if_neg c42] at H
               exact absurd H (by simp)
             ·rw [if_neg c40] at H
              exact absurd H (by simp)
            ·rw [if_neg c39] at H
             exact absurd H (by simp)
           ·rw [if_neg c38] at H
            exact absurd H (by simp)
          ·rw [if_neg c37] at H
           exact absurd H (by simp)
         ·rw [if_neg c35] at H
          have c35b0 : ((rd l0 x13_1) == (-3)) = false := beq_eq_false_iff_ne.mpr c35
          have c35b1 : ((rd l0 x13_1) != (-3)) = true := bne_iff_ne.mpr c35
          replace H := QP.mp H
          obtain ⟨t380,A520,H⟩ := H
          have A52 := QO A520
          clear A520
          by_cases c53 : x3_1.length < 8796093022208
          ·rw [if_pos c53] at H
           have LMc53 := QO c53
           clear c53
           obtain ⟨y381,hy381⟩ : ∃ y_ : List ByteArray,y_ = (x3_1 ++ [t380]) := ⟨_,rfl⟩
           replace H : (impl_PatternText.l0 k1 y381 l0 (l0.length : Int) (wrap64 (x13_1 + 1))) = some r := by first | (rw [hy381]; with_reducible exact H) | (have H2_ := (Option.bind_some _ _).symm.trans H; rw [hy381]; with_reducible exact H2_) | (have H2_ := (Option.bind_some _ _).symm.trans H; with_reducible exact H2_) | with_reducible exact H | (rw [hy381]; exact H) | exact H
           have Ny381 := QO hy381
           clear hy381
           have H' := QO H
           clear H
           have p361 : 0 ≤ (x13_1 : Int) := of_decide_eq_true (by first | (with_reducible assumption) | assumption)
           have q361 : x13_1 < (l0.length : Int) := of_decide_eq_true (by first | (with_reducible assumption) | assumption)
           obtain ⟨ad361,e361,hx361_0⟩ := Kd.at_int HR0.out x13_1 p361 q361
           cases e361
           replace hx361_0 := (HB.out.cell (World.block_lt_of_cell? w _ hx361_0)).trans hx361_0
           replace p361 := eq_true p361
           replace q361 := eq_true q361
           obtain ⟨Ao54,co54,eo54⟩ := Kd.R_slice HO_3.out
           subst eo54
           go_wp2_with (first | ((with_reducible refine gate_callee (f := 75) rfl ?_); refine goesL_ (some 22) rfl rfl Tryd.func75 (by kernel_rfl) rfl #[.int .i64 (rd l0 x13_1)] rfl (by (try simp only [List.map_toArray,List.map_cons,List.map_nil]); first | done | rfl | (simp only [List.length_drop,List.length_take]; rfl)) ?_; (with_reducible refine (impl_signText.calls (rd l0 x13_1) t380 _ A52.out).mono ?_); rintro e w' ⟨rfl,⟨nd,rfl⟩⟩; refine ⟨_,rfl,?_⟩) | ((with_reducible refine gate_builtin (b := .append) (xs := #[.tmp 20,.tmp 23]) rfl ?_); at_builtin; refine Kd.R_append Kd.string (w0 := w) w.heap.size rfl (.tmp 20) (.tmp 23) 36 9 (.string ⟨#[]⟩) 16 rfl Tryd.underlying36 info9 rfl (by decide) (by omega) (.slice Ao54 x3_1.length co54) x3_1 t380 [.string t380] (fun _ => True) (fun _ => False) rfl rfl ?aP (fun _ hk => hk.elim) ?aF ?aO ?aB ?aS ?aL ?_; (case aP => exact rfl); (case aB => exact (by repeat (first | (with_reducible first | exact HB.out | apply QD | apply QB | apply QC) | exact HB.out))); (case aF => exact (fun _ _ => trivial)); (case aO => exact (by (with_reducible repeat (first | apply Kd.R_alloc | apply Kd.R_drewN | apply Kd.R_drew)); exact HO_3.out)); (case aS => exact (QJ (by repeat (first | (with_reducible first | exact HB.out | apply QD | apply QB | apply QC) | exact HB.out)))); (case aL => have := LMc53.out; omega); intro v382 w55 ho hb hg hat; rw [← Ny381.out] at ho; have n0_ := QO (hb); have n1_ := QO (ho); clear HB; clear HO_3; revert n0_ n1_; intro HB HO383; clear ho hb hg hat))
           go_roundg k1
           case measure => have := HK1.out; omega
           case rel => exact ⟨(y381),(wrap64 (x13_1 + 1)),(by first | rfl | (simp; done) | (simp [*]; done)),H',⟨by have := HK1.out; omega⟩,⟨by (with_reducible repeat (first | apply Kd.R_alloc | apply Kd.R_drewN | apply Kd.R_drew)); exact HO383.out⟩,⟨by repeat (first | (with_reducible first | exact HB.out | apply QD | apply QB | apply QC) | exact HB.out)⟩⟩
          ·rw [if_neg c53] at H
           exact absurd H (by simp)
      ·rw [if_neg c8] at H
       exact absurd H (by simp)
     ·rw [if_neg c7] at H
      exact absurd H (by simp)
    ·rw [if_neg c6] at H
     have c6b0 : decide (x13_1 < (l0.length : Int)) = false := decide_eq_false c6
     clear c6
     by_cases c56 : 0 < (x3_1.length : Int)
     ·rw [if_pos c56] at H
      have c56b0 : decide (0 < (x3_1.length : Int)) = true := decide_eq_true c56
      have c56b1 : decide (0 < x3_1.length) = true := decide_eq_true (by omega)
      clear c56
      obtain rfl := Option.some.inj H
      obtain ⟨Ao57,co57,eo57⟩ := Kd.R_slice HO_3.out
      subst eo57
      have p360 : 0 ≤ (0 : Int) := (by omega)
      have q360 : 0 < (x3_1.length : Int) := of_decide_eq_true (by first | (with_reducible assumption) | assumption)
      obtain ⟨ad360,e360,hx360_0⟩ := Kd.at_string (Kd.R_reads' HO_3.out).2.2 0 p360 q360
      cases e360
      have qi360 : (0 < x3_1.length) = True := eq_true (by omega)
      (try rw [show ((0 : Int)).toNat = 0 from rfl] at hx360_0)
      (try rw [Addr.add_zero'] at hx360_0)
      replace p360 := eq_true p360
      replace q360 := eq_true q360
      go_wp2
      go_ret
      exact ⟨by first | rfl | (simp [errW_none,errW_some] <;> rfl) | (simp [*,errW_none,errW_some] <;> rfl),by repeat (first | (with_reducible first | exact HB.out | apply QD | apply QB | apply QC) | exact HB.out)⟩
     ·rw [if_neg c56] at H
      exact absurd H (by simp)
 ·replace c3 := Bool.eq_false_iff.mpr c3
  subst c3
  rw [if_neg (show ¬ (false = true) by decide)] at H
  obtain rfl := Option.some.inj H
  go_enter Tryd.func55,Tryd.ntmps55
  go_wp2_with (first | ((with_reducible refine gate_callee (f := 60) rfl ?_); refine goesL_ (some 8) rfl rfl Tryd.func60 (by kernel_rfl) rfl #[.slice A0 l0.length c0] rfl (by (try simp only [List.map_toArray,List.map_cons,List.map_nil]); first | done | rfl | (simp only [List.length_drop,List.length_take]; rfl)) ?_; (with_reducible refine (impl_IsPattern.calls k _ _ l0 false _ ?side1 ?side2 A2.out).mono ?_); (case side1 => repeat (first | exact HR0.out | (with_reducible refine Kd.C_alloc ?_ _) | (with_reducible refine Kd.C_drewN ?_ _) | (with_reducible refine Kd.C_drew ?_))); (case side2 => exact HC0.out); rintro e w' ⟨rfl,⟨nd,rfl⟩⟩; refine ⟨_,rfl,?_⟩))
  go_ret
  exact ⟨by first | rfl | (simp [errW_none,errW_some] <;> rfl) | (simp [*,errW_none,errW_some] <;> rfl),by repeat (first | (with_reducible first | exact HB.out | apply QD | apply QB | apply QC) | exact HB.out)⟩

/-! ### impl_maybeText: function 30 -/
def impl_maybeText.f (k : Nat) (l0 : List Int) : Option (ByteArray) := if (l0.length : Int) = 0 then (some (⟨#[45]⟩ : ByteArray)) else ((impl_PatternText.f k l0).bind fun t384 => (some t384))
theorem impl_maybeText.mono : ∀ a0 k, LeO (impl_maybeText.f k a0) (impl_maybeText.f (k + 1) a0) := by
 intro a0 k
 unfold impl_maybeText.f
 repeat' first
   | (with_reducible exact impl_PatternText.mono _ _)
   | (with_reducible exact LeO.refl _)
   | (with_reducible exact LeO.none _)
   | (with_reducible refine LeO.ite ?_ ?_)
   | (with_reducible refine LeO.bind ?_ (fun _ => ?_))
   | exact impl_PatternText.mono _ _
   | exact LeO.none _
   | refine LeO.ite ?_ ?_
   | refine LeO.bind ?_ (fun _ => ?_)
set_option maxHeartbeats 8000000 in
set_option maxRecDepth 100000 in
theorem impl_maybeText.calls (k : Nat) (A0 : Option Addr) (c0 : Nat) (l0 : List Int) (r : ByteArray) (w : World) (hr0 : Kd.C (Kd.int .i64) w A0 l0.length l0) (hc0 : l0.length ≤ c0) (h : impl_maybeText.f k l0 = some r) :
  Calls Tryd.prog 30 #[.slice A0 l0.length c0] w fun e w' => e = .returned (.string r) ∧ Below w.heap.size w w' := by
 have HR0 := QO hr0
 have HC0 := QO hc0
 clear hr0 hc0
 have HB := QO (Below.refl w.heap.size w)
 have H : (if (l0.length : Int) = 0 then (some (⟨#[45]⟩ : ByteArray)) else ((impl_PatternText.f k l0).bind fun t384 => (some t384))) = some r := h
 clear h
 by_cases c2 : (l0.length : Int) = 0
 ·rw [if_pos c2] at H
  have c2b0 : ((l0.length : Int) == 0) = true := beq_iff_eq.mpr c2
  have c2b1 : ((l0.length : Int) != 0) = false := bne_eq_false_iff_eq.mpr c2
  clear c2
  obtain rfl := Option.some.inj H
  go_enter Tryd.func30,Tryd.ntmps30
  go_wp2
  go_ret
  exact ⟨by first | rfl | (simp [errW_none,errW_some] <;> rfl) | (simp [*,errW_none,errW_some] <;> rfl),by repeat (first | (with_reducible first | exact HB.out | apply QD | apply QB | apply QC) | exact HB.out)⟩
 ·rw [if_neg c2] at H
  have c2b0 : ((l0.length : Int) == 0) = false := beq_eq_false_iff_ne.mpr c2
  have c2b1 : ((l0.length : Int) != 0) = true := bne_iff_ne.mpr c2
  have c2b2 : ¬ (l0 = []) := fun h_ => c2 (by rw [h_]; rfl)
  replace H := QP.mp H
  obtain ⟨t384,A30,H⟩ := H
  have A3 := QO A30
  clear A30
  obtain rfl := Option.some.inj H
  go_enter Tryd.func30,Tryd.ntmps30
  go_wp2_with (first | ((with_reducible refine gate_callee (f := 55) rfl ?_); refine goesL_ (some 7) rfl rfl Tryd.func55 (by kernel_rfl) rfl #[.slice A0 l0.length c0] rfl (by (try simp only [List.map_toArray,List.map_cons,List.map_nil]); first | done | rfl | (simp only [List.length_drop,List.length_take]; rfl)) ?_; (with_reducible refine (impl_PatternText.calls k _ _ l0 t384 _ ?side1 ?side2 A3.out).mono ?_); (case side1 => repeat (first | exact HR0.out | (with_reducible refine Kd.C_alloc ?_ _) | (with_reducible refine Kd.C_drewN ?_ _) | (with_reducible refine Kd.C_drew ?_))); (case side2 => exact HC0.out); rintro e w4 ⟨rfl,hb⟩; refine ⟨_,rfl,?_⟩; have n0_ := QO (QK (by repeat (first | (with_reducible first | exact HB.out | apply QD | apply QB | apply QC) | exact HB.out)) hb); clear HB; revert n0_; intro HB; (try clear hb); (try clear hi)))
  go_ret
  exact ⟨by first | rfl | (simp [errW_none,errW_some] <;> rfl) | (simp [*,errW_none,errW_some] <;> rfl),by repeat (first | (with_reducible first | exact HB.out | apply QD | apply QB | apply QC) | exact HB.out)⟩

/-! ### impl_RulesText: function 9 -/
def impl_RulesText.f (k : Nat) (a0_0 : Int) (a0_1 : Int) (a0_2 : Bool) (a0_3 : Bool) (l0_4 : List Int) (l0_5 : List Int) (a0_6 : Int) (a0_7 : Int) : Option (ByteArray) := (impl_IsRules.f k a0_0 a0_1 a0_2 a0_3 l0_4 l0_5 a0_6 a0_7).bind fun t386 => (if t386 = true then ((impl_FormatInt.f a0_0).bind fun t387 => (if 8 + t387.size ≤ 9223372036854775807 then ((impl_FormatInt.f a0_1).bind fun t388 => (if 5 + t388.size ≤ 9223372036854775807 then ((impl_RulesWord.f k a0_0 a0_1 a0_2 a0_3 l0_4 l0_5 a0_6 a0_7).bind fun t389 => (if 6 + t389.size ≤ 9223372036854775807 then ((impl_maybeText.f k l0_4).bind fun t390 => (if 5 + t390.size ≤ 9223372036854775807 then ((impl_maybeText.f k l0_5).bind fun t391 => (if 5 + t391.size ≤ 9223372036854775807 then ((impl_FormatInt.f a0_6).bind fun t392 => (if 5 + t392.size ≤ 9223372036854775807 then ((impl_FormatInt.f a0_7).bind fun t393 => (if 6 + t393.size ≤ 9223372036854775807 then ((strings_Join.f (([(⟨#[112, 108, 97, 121, 101, 114, 115, 61]⟩ : ByteArray) ++ t387, (⟨#[101, 97, 99, 104, 61]⟩ : ByteArray) ++ t388, (⟨#[109, 97, 116, 99, 104, 61]⟩ : ByteArray) ++ t389, (⟨#[119, 105, 108, 100, 61]⟩ : ByteArray) ++ t390, (⟨#[115, 107, 105, 112, 61]⟩ : ByteArray) ++ t391, (⟨#[116, 97, 107, 101, 61]⟩ : ByteArray) ++ t392, (⟨#[108, 105, 109, 105, 116, 61]⟩ : ByteArray) ++ t393] : List ByteArray)) (⟨#[32]⟩ : ByteArray)).bind fun t397 => (some t397)) else (none))) else (none))) else (none))) else (none))) else (none))) else (none))) else (none))) else (some (⟨#[]⟩ : ByteArray)))
theorem impl_RulesText.mono : ∀ a0 a1 a2 a3 a4 a5 a6 a7 k, LeO (impl_RulesText.f k a0 a1 a2 a3 a4 a5 a6 a7) (impl_RulesText.f (k + 1) a0 a1 a2 a3 a4 a5 a6 a7) := by
 intro a0 a1 a2 a3 a4 a5 a6 a7 k
 unfold impl_RulesText.f
 repeat' first
   | (with_reducible exact impl_IsRules.mono _ _ _ _ _ _ _ _ _)
   | (with_reducible exact impl_RulesWord.mono _ _ _ _ _ _ _ _ _)
   | (with_reducible exact impl_maybeText.mono _ _)
   | (with_reducible exact LeO.refl _)
   | (with_reducible exact LeO.none _)
   | (with_reducible refine LeO.ite ?_ ?_)
   | (with_reducible refine LeO.bind ?_ (fun _ => ?_))
   | exact impl_IsRules.mono _ _ _ _ _ _ _ _ _
   | exact impl_RulesWord.mono _ _ _ _ _ _ _ _ _
   | exact impl_maybeText.mono _ _
   | exact LeO.none _
   | refine LeO.ite ?_ ?_
   | refine LeO.bind ?_ (fun _ => ?_)
def impl_RulesText.T3 : Bool × List (List Nat × List Nat) := (true, [([], []), ([0], [0]), ([1], [1]), ([2], [2]), ([], []), ([4], [4]), ([5, 2], [5]), ([6], [6]), ([], []), ([8, 6], [8]), ([9], [9]), ([], []), ([11], [11]), ([12, 9], [12]), ([13], [13]), ([], []), ([15], [15]), ([16, 13], [16]), ([17], [17]), ([], []), ([19], [19]), ([20, 17], [20]), ([21], [21]), ([], []), ([23], [23]), ([24, 21], [24]), ([25], [25]), ([3, 7, 10, 14, 18, 22, 26], [3, 7, 10, 14, 18, 22, 26]), ([27, 25], [27]), ([28, 28, 0, 1, 2, 3, 4, 5, 6, 7, 8, 9, 10, 11, 12, 13, 14, 15, 16, 17, 18, 19, 20, 21, 22, 23, 24, 25, 26, 27, 28], [28])])
def impl_RulesText.B3 : List Nat := [0, 1, 3, 7, 0, 16, 55, 119, 0, 375, 887, 0, 2048, 7031, 15223, 0, 32768, 113527, 244599, 0, 524288, 1817463, 3914615, 0, 8388608, 29080439, 62634871, 134217727, 268435455, 536870911]
theorem impl_RulesText.tab3 : rtab .any (opsOf Tryd.f9 3) = impl_RulesText.T3 := by kernel_rfl
theorem impl_RulesText.bits3 : waitsOk impl_RulesText.T3.2 impl_RulesText.B3 = true := by kernel_rfl
set_option maxHeartbeats 8000000 in
set_option maxRecDepth 100000 in
theorem impl_RulesText.calls (k : Nat) (a0_0 : Int) (a0_1 : Int) (a0_2 : Bool) (a0_3 : Bool) (A0_4 : Option Addr) (c0_4 : Nat) (l0_4 : List Int) (A0_5 : Option Addr) (c0_5 : Nat) (l0_5 : List Int) (a0_6 : Int) (a0_7 : Int) (r : ByteArray) (w : World) (ht : Laid w) (hr0_4 : Kd.C (Kd.int .i64) w A0_4 l0_4.length l0_4) (hc0_4 : l0_4.length ≤ c0_4) (hr0_5 : Kd.C (Kd.int .i64) w A0_5 l0_5.length l0_5) (hc0_5 : l0_5.length ≤ c0_5) (h : impl_RulesText.f k a0_0 a0_1 a0_2 a0_3 l0_4 l0_5 a0_6 a0_7 = some r) :
  Calls Tryd.prog 9 #[.agg #[.int .i64 a0_0,.int .i64 a0_1,.bool a0_2,.bool a0_3,.slice A0_4 l0_4.length c0_4,.slice A0_5 l0_5.length c0_5,.int .i64 a0_6,.int .i64 a0_7]] w fun e w' => e = .returned (.string r) ∧ Below w.heap.size w w' := by
 have HTAB := QO ht
 clear ht
 have hu26 := Tryd.underlying26
 have HR0_4 := QO hr0_4
 have HC0_4 := QO hc0_4
 clear hr0_4 hc0_4
 have HR0_5 := QO hr0_5
 have HC0_5 := QO hc0_5
 clear hr0_5 hc0_5
 have HB := QO (Below.refl w.heap.size w)
 have H : ((impl_IsRules.f k a0_0 a0_1 a0_2 a0_3 l0_4 l0_5 a0_6 a0_7).bind fun t386 => (if t386 = true then ((impl_FormatInt.f a0_0).bind fun t387 => (if 8 + t387.size ≤ 9223372036854775807 then ((impl_FormatInt.f a0_1).bind fun t388 => (if 5 + t388.size ≤ 9223372036854775807 then ((impl_RulesWord.f k a0_0 a0_1 a0_2 a0_3 l0_4 l0_5 a0_6 a0_7).bind fun t389 => (if 6 + t389.size ≤ 9223372036854775807 then ((impl_maybeText.f k l0_4).bind fun t390 => (if 5 + t390.size ≤ 9223372036854775807 then ((impl_maybeText.f k l0_5).bind fun t391 => (if 5 + t391.size ≤ 9223372036854775807 then ((impl_FormatInt.f a0_6).bind fun t392 => (if 5 + t392.size ≤ 9223372036854775807 then ((impl_FormatInt.f a0_7).bind fun t393 => (if 6 + t393.size ≤ 9223372036854775807 then ((strings_Join.f (([(⟨#[112,108,97,121,101,114,115,61]⟩ : ByteArray) ++ t387,(⟨#[101,97,99,104,61]⟩ : ByteArray) ++ t388,(⟨#[109,97,116,99,104,61]⟩ : ByteArray) ++ t389,(⟨#[119,105,108,100,61]⟩ : ByteArray) ++ t390,(⟨#[115,107,105,112,61]⟩ : ByteArray) ++ t391,(⟨#[116,97,107,101,61]⟩ : ByteArray) ++ t392,(⟨#[108,105,109,105,116,61]⟩ : ByteArray) ++ t393] : List ByteArray)) (⟨#[32]⟩ : ByteArray)).bind fun t397 => (some t397)) else (none))) else (none))) else (none))) else (none))) else (none))) else (none))) else (none))) else (some (⟨#[]⟩ : ByteArray)))) = some r := h
 clear h
 replace H := QP.mp H
 obtain ⟨t386,A20,H⟩ := H
 have A2 := QO A20
 clear A20
 by_cases c3 : t386 = true
 ·subst c3
  rw [if_pos rfl] at H
  replace H := QP.mp H
  obtain ⟨t387,A40,H⟩ := H
  have A4 := QO A40
  clear A40
  by_cases c5 : 8 + t387.size ≤ 9223372036854775807
  ·rw [if_pos c5] at H
   have c5b0 := eq_true c5
   have c5b1 : decide (8 + t387.size ≤ 9223372036854775807) = true := decide_eq_true c5
   try have c5b2 : (9223372036854775807 < 8 + t387.size) = False := eq_false (Nat.not_lt.2 c5)
   replace H := QP.mp H
   obtain ⟨t388,A60,H⟩ := H
   have A6 := QO A60
   clear A60
   by_cases c7 : 5 + t388.size ≤ 9223372036854775807
   ·rw [if_pos c7] at H
    have c7b0 := eq_true c7
    have c7b1 : decide (5 + t388.size ≤ 9223372036854775807) = true := decide_eq_true c7
    try have c7b2 : (9223372036854775807 < 5 + t388.size) = False := eq_false (Nat.not_lt.2 c7)
    replace H := QP.mp H
    obtain ⟨t389,A80,H⟩ := H
    have A8 := QO A80
    clear A80
    by_cases c9 : 6 + t389.size ≤ 9223372036854775807
    ·rw [if_pos c9] at H
     have c9b0 := eq_true c9
     have c9b1 : decide (6 + t389.size ≤ 9223372036854775807) = true := decide_eq_true c9
     try have c9b2 : (9223372036854775807 < 6 + t389.size) = False := eq_false (Nat.not_lt.2 c9)
     replace H := QP.mp H
     obtain ⟨t390,A100,H⟩ := H
     have A10 := QO A100
     clear A100
     by_cases c11 : 5 + t390.size ≤ 9223372036854775807
     ·rw [if_pos c11] at H
      have c11b0 := eq_true c11
      have c11b1 : decide (5 + t390.size ≤ 9223372036854775807) = true := decide_eq_true c11
      try have c11b2 : (9223372036854775807 < 5 + t390.size) = False := eq_false (Nat.not_lt.2 c11)
      replace H := QP.mp H
      obtain ⟨t391,A120,H⟩ := H
      have A12 := QO A120
      clear A120
      by_cases c13 : 5 + t391.size ≤ 9223372036854775807
      ·rw [if_pos c13] at H
       have c13b0 := eq_true c13
       have c13b1 : decide (5 + t391.size ≤ 9223372036854775807) = true := decide_eq_true c13
       try have c13b2 : (9223372036854775807 < 5 + t391.size) = False := eq_false (Nat.not_lt.2 c13)
       replace H := QP.mp H
       obtain ⟨t392,A140,H⟩ := H
       have A14 := QO A140
       clear A140
       by_cases c15 : 5 + t392.size ≤ 9223372036854775807
       ·rw [if_pos c15] at H
        have c15b0 := eq_true c15
        have c15b1 : decide (5 + t392.size ≤ 9223372036854775807) = true := decide_eq_true c15
        try have c15b2 : (9223372036854775807 < 5 + t392.size) = False := eq_false (Nat.not_lt.2 c15)
        replace H := QP.mp H
        obtain ⟨t393,A160,H⟩ := H
        have A16 := QO A160
        clear A160
        by_cases c17 : 6 + t393.size ≤ 9223372036854775807
        ·rw [if_pos c17] at H
         have c17b0 := eq_true c17
         have c17b1 : decide (6 + t393.size ≤ 9223372036854775807) = true := decide_eq_true c17
         try have c17b2 : (9223372036854775807 < 6 + t393.size) = False := eq_false (Nat.not_lt.2 c17)
         obtain ⟨y394,hy394⟩ : ∃ y_ : List ByteArray,y_ = (([(⟨#[112,108,97,121,101,114,115,61]⟩ : ByteArray) ++ t387,(⟨#[101,97,99,104,61]⟩ : ByteArray) ++ t388,(⟨#[109,97,116,99,104,61]⟩ : ByteArray) ++ t389,(⟨#[119,105,108,100,61]⟩ : ByteArray) ++ t390,(⟨#[115,107,105,112,61]⟩ : ByteArray) ++ t391,(⟨#[116,97,107,101,61]⟩ : ByteArray) ++ t392,(⟨#[108,105,109,105,116,61]⟩ : ByteArray) ++ t393] : List ByteArray)) := ⟨_,rfl⟩
         replace H : ((strings_Join.f y394 (⟨#[32]⟩ : ByteArray)).bind fun t397 => (some t397)) = some r := by first | (rw [hy394]; with_reducible exact H) | (have H2_ := (Option.bind_some _ _).symm.trans H; rw [hy394]; with_reducible exact H2_) | (have H2_ := (Option.bind_some _ _).symm.trans H; with_reducible exact H2_) | with_reducible exact H | (rw [hy394]; exact H) | exact H
         have Ny394 := QO hy394
         clear hy394
         replace H := QP.mp H
         obtain ⟨t397,A180,H⟩ := H
         have A18 := QO A180
         clear A180
         obtain rfl := Option.some.inj H
         go_enter Tryd.func9,Tryd.ntmps9
         try go_wp2_with (first | ((with_reducible refine gate_dst (N := 1) rfl ?_); refine box_event ?hg (N := 1) ?hd (cs := #[.int .i64 a0_0,.int .i64 a0_1,.bool a0_2,.bool a0_3,.slice A0_4 l0_4.length c0_4,.slice A0_5 l0_5.length c0_5,.int .i64 a0_6,.int .i64 a0_7]) (t := 26) ?hr ?_; (case hd => rfl); (case hg => rfl); (case hr => first | (go_simp; done) | (go_simp; rfl)); intro gb385 hg w19 hbox hb; have n0_ := QO (QK (by repeat (first | (with_reducible first | exact HB.out | apply QD | apply QB | apply QC) | exact HB.out)) hb); have n1_ := QO (hbox); have n2_ := QO ((by rw [hg]; exact (QJ (by repeat (first | (with_reducible first | exact HB.out | apply QD | apply QB | apply QC) | exact HB.out))) : w.heap.size ≤ gb385)); have n3_ := QO ((by rw [hg]; exact (QJ (by repeat (first | (with_reducible first | exact HB.out | apply QD | apply QB | apply QC) | exact HB.out))) : w.heap.size ≤ gb385)); clear HB; revert n0_ n1_ n2_ n3_; intro HB BK385 GW385 GE385; clear hb hbox hg; have hcz20 := fun i => blk_cell BK385.out i; have hfz20 := fun i => QE BK385.out i) | ((with_reducible refine gate_callee (f := 10) rfl ?_); refine goesL_ (some 4) rfl rfl Tryd.func10 (by kernel_rfl) rfl #[.agg #[.int .i64 a0_0,.int .i64 a0_1,.bool a0_2,.bool a0_3,.slice A0_4 l0_4.length c0_4,.slice A0_5 l0_5.length c0_5,.int .i64 a0_6,.int .i64 a0_7]] rfl (by (try simp only [List.map_toArray,List.map_cons,List.map_nil]); first | done | rfl | (simp only [List.length_drop,List.length_take]; rfl)) ?_; (with_reducible refine (impl_IsRules.calls k a0_0 a0_1 a0_2 a0_3 _ _ l0_4 _ _ l0_5 a0_6 a0_7 true _ ?side1 ?side2 ?side3 ?side4 A2.out).mono ?_); (case side1 => repeat (first | exact (Kd.C_below HR0_4.out HB.out) | (with_reducible refine Kd.C_alloc ?_ _) | (with_reducible refine Kd.C_drewN ?_ _) | (with_reducible refine Kd.C_drew ?_))); (case side2 => exact HC0_4.out); (case side3 => repeat (first | exact (Kd.C_below HR0_5.out HB.out) | (with_reducible refine Kd.C_alloc ?_ _) | (with_reducible refine Kd.C_drewN ?_ _) | (with_reducible refine Kd.C_drew ?_))); (case side4 => exact HC0_5.out); rintro e w21 ⟨rfl,hb⟩; refine ⟨_,rfl,?_⟩; have n0_ := QO (blk_below (g := gb385) (o := _) (by (with_reducible repeat (first | refine blk_drewN ?_ _ | refine blk_drew ?_ | refine blk_alloc ?_ _)); exact BK385.out) hb); have n1_ := QO (QK (by repeat (first | (with_reducible first | exact HB.out | apply QD | apply QB | apply QC | refine QF ?_ GE385.out) | exact HB.out)) hb); clear BK385; clear HB; revert n0_ n1_; intro BK385 HB; (try clear hb); (try clear hk); (try clear hi)))
         have n0_ := QO (blk_drew BK385.out)
         have n1_ := QO (QC HB.out)
         clear BK385
         clear HB
         revert n0_ n1_
         intro BK385 HB
         refine start_ (n := 30) (S := fun w' => w'.cell? ⟨gb385,0,none⟩ = some (.int .i64 a0_0) ∧ w'.cell? ⟨gb385,1,none⟩ = some (.int .i64 a0_1) ∧ w'.cell? ⟨gb385,2,none⟩ = some (.bool a0_2) ∧ w'.cell? ⟨gb385,3,none⟩ = some (.bool a0_3) ∧ w'.cell? ⟨gb385,4,none⟩ = some (.slice A0_4 l0_4.length c0_4) ∧ w'.cell? ⟨gb385,5,none⟩ = some (.slice A0_5 l0_5.length c0_5) ∧ w'.cell? ⟨gb385,6,none⟩ = some (.int .i64 a0_6) ∧ w'.cell? ⟨gb385,7,none⟩ = some (.int .i64 a0_7)) (ds := []) (ab 30 0) (by kernel_rfl) rfl rfl ⟨(blk_cell BK385.out 0).trans rfl,(blk_cell BK385.out 1).trans rfl,(blk_cell BK385.out 2).trans rfl,(blk_cell BK385.out 3).trans rfl,(blk_cell BK385.out 4).trans rfl,(blk_cell BK385.out 5).trans rfl,(blk_cell BK385.out 6).trans rfl,(blk_cell BK385.out 7).trans rfl⟩ (fun hHeld => ?_); refine with_tabW impl_RulesText.tab3 impl_RulesText.bits3 (fun HT_ HW_ => ?_)
         generalize w21.drew = w22 at BK385 HB hHeld ⊢
         refine pure_ (i := 0) (N := some 6) (v := ?_) (a' := ?_) (ab 30 1) rfl rfl (QI HT_.out (by kernel_rfl)) (fun _ _ _ h => h) (Or.inl ⟨by rfl,?_⟩) ?_ ?_
         rotate_left
         ·intro w'
          go_simp
          with_reducible rfl
         rotate_left
         ·simp only [Act.put,QL,QM,QN,QG,QH]
          rfl
         refine pure_ (i := 4) (N := some 10) (v := ?_) (a' := ?_) (ab 30 17) rfl rfl (QI HT_.out (by kernel_rfl)) (fun _ _ _ h => h) (Or.inl ⟨by rfl,?_⟩) ?_ ?_
         rotate_left
         ·intro w'
          go_simp
          with_reducible rfl
         rotate_left
         ·simp only [Act.put,QL,QM,QN,QG,QH]
          rfl
         refine pure_ (i := 11) (N := some 17) (v := ?_) (a' := ?_) (ab 30 2065) rfl rfl (QI HT_.out (by kernel_rfl)) (fun _ _ _ h => h) (Or.inl ⟨by rfl,?_⟩) ?_ ?_
         rotate_left
         ·intro w'
          go_simp
          with_reducible rfl
         rotate_left
         ·simp only [Act.put,QL,QM,QN,QG,QH]
          rfl
         refine pure_ (i := 15) (N := some 21) (v := ?_) (a' := ?_) (ab 30 34833) rfl rfl (QI HT_.out (by kernel_rfl)) (fun _ _ _ h => h) (Or.inl ⟨by rfl,?_⟩) ?_ ?_
         rotate_left
         ·intro w'
          go_simp
          with_reducible rfl
         rotate_left
         ·simp only [Act.put,QL,QM,QN,QG,QH]
          rfl
         refine pure_ (i := 19) (N := some 25) (v := ?_) (a' := ?_) (ab 30 559121) rfl rfl (QI HT_.out (by kernel_rfl)) (fun _ _ _ h => h) (Or.inl ⟨by rfl,?_⟩) ?_ ?_
         rotate_left
         ·intro w'
          go_simp
          with_reducible rfl
         rotate_left
         ·simp only [Act.put,QL,QM,QN,QG,QH]
          rfl
         refine pure_ (i := 23) (N := some 29) (v := ?_) (a' := ?_) (ab 30 8947729) rfl rfl (QI HT_.out (by kernel_rfl)) (fun _ _ _ h => h) (Or.inl ⟨by rfl,?_⟩) ?_ ?_
         rotate_left
         ·intro w'
          go_simp
          with_reducible rfl
         rotate_left
         ·simp only [Act.put,QL,QM,QN,QG,QH]
          rfl
         refine take_ (i := 1) (N := some 7) (v := ?_) (a' := ?_) (ab 30 8947731) rfl rfl (take_ofW HT_.out HW_.out (by kernel_rfl)) (fun _ _ _ h => h) (Or.inl ⟨by rfl,?_⟩) hHeld ?_ ?_
         rotate_left
         ·rintro w' ⟨s0,s1,s2,s3,s4,s5,s6,s7⟩
          go_simp
          with_reducible rfl
         rotate_left
         ·simp only [Act.put,QL,QM,QN,QG,QH]
          rfl
         refine take_ (i := 5) (N := some 11) (v := ?_) (a' := ?_) (ab 30 8947763) rfl rfl (take_ofW HT_.out HW_.out (by kernel_rfl)) (fun _ _ _ h => h) (Or.inl ⟨by rfl,?_⟩) hHeld ?_ ?_
         rotate_left
         ·rintro w' ⟨s0,s1,s2,s3,s4,s5,s6,s7⟩
          go_simp
          with_reducible rfl
         rotate_left
         ·simp only [Act.put,QL,QM,QN,QG,QH]
          rfl
         refine take_ (i := 8) (N := some 14) (v := ?_) (a' := ?_) (ab 30 8948019) rfl rfl (take_ofW HT_.out HW_.out (by kernel_rfl)) (fun _ _ _ h => h) (Or.inl ⟨by rfl,?_⟩) hHeld ?_ ?_
         rotate_left
         ·rintro w' ⟨s0,s1,s2,s3,s4,s5,s6,s7⟩
          go_simp
          with_reducible rfl
         rotate_left
         ·simp only [Act.put,QL,QM,QN,QG,QH]
          rfl
         refine take_ (i := 12) (N := some 18) (v := ?_) (a' := ?_) (ab 30 8952115) rfl rfl (take_ofW HT_.out HW_.out (by kernel_rfl)) (fun _ _ _ h => h) (Or.inl ⟨by rfl,?_⟩) hHeld ?_ ?_
         rotate_left
         ·rintro w' ⟨s0,s1,s2,s3,s4,s5,s6,s7⟩
          go_simp
          with_reducible rfl
         rotate_left
         ·simp only [Act.put,QL,QM,QN,QG,QH]
          rfl
         refine take_ (i := 16) (N := some 22) (v := ?_) (a' := ?_) (ab 30 9017651) rfl rfl (take_ofW HT_.out HW_.out (by kernel_rfl)) (fun _ _ _ h => h) (Or.inl ⟨by rfl,?_⟩) hHeld ?_ ?_
         rotate_left
         ·rintro w' ⟨s0,s1,s2,s3,s4,s5,s6,s7⟩
          go_simp
          with_reducible rfl
         rotate_left
         ·simp only [Act.put,QL,QM,QN,QG,QH]
          rfl
         refine take_ (i := 20) (N := some 26) (v := ?_) (a' := ?_) (ab 30 10066227) rfl rfl (take_ofW HT_.out HW_.out (by kernel_rfl)) (fun _ _ _ h => h) (Or.inl ⟨by rfl,?_⟩) hHeld ?_ ?_
         rotate_left
         ·rintro w' ⟨s0,s1,s2,s3,s4,s5,s6,s7⟩
          go_simp
          with_reducible rfl
         rotate_left
         ·simp only [Act.put,QL,QM,QN,QG,QH]
          rfl
         refine take_ (i := 24) (N := some 30) (v := ?_) (a' := ?_) (ab 30 26843443) rfl rfl (take_ofW HT_.out HW_.out (by kernel_rfl)) (fun _ _ _ h => h) (Or.inl ⟨by rfl,?_⟩) hHeld ?_ ?_
         rotate_left
         ·rintro w' ⟨s0,s1,s2,s3,s4,s5,s6,s7⟩
          go_simp
          with_reducible rfl
         rotate_left
         ·simp only [Act.put,QL,QM,QN,QG,QH]
          rfl
         refine one_ (i := 2) (N := some 8) (ab 30 26843447) rfl rfl (one_of HT_.out (by kernel_rfl)) (by decide) (fun K hK => ?_)
         refine goes_ Tryd.func29 (by kernel_rfl) rfl #[.int .i64 a0_0] (by rfl) rfl rfl (by (try simp only [List.map_toArray,List.map_cons,List.map_nil]); first | done | rfl | (simp only [List.length_drop,List.length_take]; rfl)) ?_
         with_reducible refine (impl_FormatInt.calls a0_0 t387 _ ?ht_ A4.out).mono ?_
         case ht_ => exact HTAB.out.at (by repeat (first | (with_reducible first | exact HB.out | apply QD | apply QB | apply QC | refine QF ?_ GE385.out) | exact HB.out))
         rintro e w23 ⟨rfl,hb⟩
         refine ⟨_,rfl,?_⟩
         have n0_ := QO (blk_below (g := gb385) (o := _) (by (with_reducible repeat (first | refine blk_drewN ?_ _ | refine blk_drew ?_ | refine blk_alloc ?_ _)); exact BK385.out) hb)
         have n1_ := QO (QK (by repeat (first | (with_reducible first | exact HB.out | apply QD | apply QB | apply QC | refine QF ?_ GE385.out) | exact HB.out)) hb)
         clear BK385
         clear HB
         revert n0_ n1_
         intro BK385 HB
         (try clear hb)
         (try clear hb2)
         (try clear hk)
         (try clear hi)
         refine hK.out _ _ (by (repeat' apply And.intro) <;> first | exact (blk_cell BK385.out _).trans rfl) (fun hHeld => ?_)
         clear hK K
         refine norm_ (a' := ?_) ?_ ?_
         rotate_left
         ·show Act.put _ (some 8) _ = _
          simp only [Act.put,QL,QM,QN,QG,QH]
          rfl
         refine pure_ (i := 3) (N := some 9) (v := ?_) (a' := ?_) (ab 30 26843455) rfl rfl (QI HT_.out (by kernel_rfl)) (fun _ _ _ h => h) (Or.inl ⟨by rfl,?_⟩) ?_ ?_
         rotate_left
         ·intro w'
          go_simp
          with_reducible rfl
         rotate_left
         ·simp only [Act.put,QL,QM,QN,QG,QH]
          rfl
         refine one_ (i := 6) (N := some 12) (ab 30 26843519) rfl rfl (one_of HT_.out (by kernel_rfl)) (by decide) (fun K hK => ?_)
         refine goes_ Tryd.func29 (by kernel_rfl) rfl #[.int .i64 a0_1] (by rfl) rfl rfl (by (try simp only [List.map_toArray,List.map_cons,List.map_nil]); first | done | rfl | (simp only [List.length_drop,List.length_take]; rfl)) ?_
         with_reducible refine (impl_FormatInt.calls a0_1 t388 _ ?ht_ A6.out).mono ?_
         case ht_ => exact HTAB.out.at (by repeat (first | (with_reducible first | exact HB.out | apply QD | apply QB | apply QC | refine QF ?_ GE385.out) | exact HB.out))
         rintro e w24 ⟨rfl,hb⟩
         refine ⟨_,rfl,?_⟩
         have n0_ := QO (blk_below (g := gb385) (o := _) (by (with_reducible repeat (first | refine blk_drewN ?_ _ | refine blk_drew ?_ | refine blk_alloc ?_ _)); exact BK385.out) hb)
         have n1_ := QO (QK (by repeat (first | (with_reducible first | exact HB.out | apply QD | apply QB | apply QC | refine QF ?_ GE385.out) | exact HB.out)) hb)
         clear BK385
         clear HB
         revert n0_ n1_
         intro BK385 HB
         (try clear hb)
         (try clear hb2)
         (try clear hk)
         (try clear hi)
         refine hK.out _ _ (by (repeat' apply And.intro) <;> first | exact (blk_cell BK385.out _).trans rfl) (fun hHeld => ?_)
         clear hK K
         refine norm_ (a' := ?_) ?_ ?_
         rotate_left
         ·show Act.put _ (some 12) _ = _
          simp only [Act.put,QL,QM,QN,QG,QH]
          rfl
         refine pure_ (i := 7) (N := some 13) (v := ?_) (a' := ?_) (ab 30 26843647) rfl rfl (QI HT_.out (by kernel_rfl)) (fun _ _ _ h => h) (Or.inl ⟨by rfl,?_⟩) ?_ ?_
         rotate_left
         ·intro w'
          go_simp
          with_reducible rfl
         rotate_left
         ·simp only [Act.put,QL,QM,QN,QG,QH]
          rfl
         refine one_ (i := 9) (N := some 15) (ab 30 26844159) rfl rfl (one_of HT_.out (by kernel_rfl)) (by decide) (fun K hK => ?_)
         refine goes_ Tryd.func12 (by kernel_rfl) rfl #[.agg #[.int .i64 a0_0,.int .i64 a0_1,.bool a0_2,.bool a0_3,.slice A0_4 l0_4.length c0_4,.slice A0_5 l0_5.length c0_5,.int .i64 a0_6,.int .i64 a0_7]] (by rfl) rfl rfl (by (try simp only [List.map_toArray,List.map_cons,List.map_nil]); first | done | rfl | (simp only [List.length_drop,List.length_take]; rfl)) ?_
         with_reducible refine (impl_RulesWord.calls k a0_0 a0_1 a0_2 a0_3 _ _ l0_4 _ _ l0_5 a0_6 a0_7 t389 _ ?side1 ?side2 ?side3 ?side4 A8.out).mono ?_
         (case side1 => repeat (first | exact (Kd.C_below HR0_4.out HB.out) | (with_reducible refine Kd.C_alloc ?_ _) | (with_reducible refine Kd.C_drewN ?_ _) | (with_reducible refine Kd.C_drew ?_)))
         (case side2 => exact HC0_4.out)
         (case side3 => repeat (first | exact (Kd.C_below HR0_5.out HB.out) | (with_reducible refine Kd.C_alloc ?_ _) | (with_reducible refine Kd.C_drewN ?_ _) | (with_reducible refine Kd.C_drew ?_)))
         (case side4 => exact HC0_5.out)
         rintro e w25 ⟨rfl,hb⟩
         refine ⟨_,rfl,?_⟩
         have n0_ := QO (blk_below (g := gb385) (o := _) (by (with_reducible repeat (first | refine blk_drewN ?_ _ | refine blk_drew ?_ | refine blk_alloc ?_ _)); exact BK385.out) hb)
         have n1_ := QO (QK (by repeat (first | (with_reducible first | exact HB.out | apply QD | apply QB | apply QC | refine QF ?_ GE385.out) | exact HB.out)) hb)
         clear BK385
         clear HB
         revert n0_ n1_
         intro BK385 HB
         (try clear hb)
         (try clear hb2)
         (try clear hk)
         (try clear hi)
         refine hK.out _ _ (by (repeat' apply And.intro) <;> first | exact (blk_cell BK385.out _).trans rfl) (fun hHeld => ?_)
         clear hK K
         refine norm_ (a' := ?_) ?_ ?_
         rotate_left
         ·show Act.put _ (some 15) _ = _
          simp only [Act.put,QL,QM,QN,QG,QH]
          rfl
         refine pure_ (i := 10) (N := some 16) (v := ?_) (a' := ?_) (ab 30 26845183) rfl rfl (QI HT_.out (by kernel_rfl)) (fun _ _ _ h => h) (Or.inl ⟨by rfl,?_⟩) ?_ ?_
         rotate_left
         ·intro w'
          go_simp
          with_reducible rfl
         rotate_left
         ·simp only [Act.put,QL,QM,QN,QG,QH]
          rfl
         refine one_ (i := 13) (N := some 19) (ab 30 26853375) rfl rfl (one_of HT_.out (by kernel_rfl)) (by decide) (fun K hK => ?_)
         refine goes_ Tryd.func30 (by kernel_rfl) rfl #[.slice A0_4 l0_4.length c0_4] (by rfl) rfl rfl (by (try simp only [List.map_toArray,List.map_cons,List.map_nil]); first | done | rfl | (simp only [List.length_drop,List.length_take]; rfl)) ?_
         with_reducible refine (impl_maybeText.calls k _ _ l0_4 t390 _ ?side1 ?side2 A10.out).mono ?_
         (case side1 => repeat (first | exact (Kd.C_below HR0_4.out HB.out) | (with_reducible refine Kd.C_alloc ?_ _) | (with_reducible refine Kd.C_drewN ?_ _) | (with_reducible refine Kd.C_drew ?_)))
         (case side2 => exact HC0_4.out)
         rintro e w26 ⟨rfl,hb⟩
         refine ⟨_,rfl,?_⟩
         have n0_ := QO (blk_below (g := gb385) (o := _) (by (with_reducible repeat (first | refine blk_drewN ?_ _ | refine blk_drew ?_ | refine blk_alloc ?_ _)); exact BK385.out) hb)
         have n1_ := QO (QK (by repeat (first | (with_reducible first | exact HB.out | apply QD | apply QB | apply QC | refine QF ?_ GE385.out) | exact HB.out)) hb)
         clear BK385
         clear HB
         revert n0_ n1_
         intro BK385 HB
         (try clear hb)
         (try clear hb2)
         (try clear hk)
         (try clear hi)
         refine hK.out _ _ (by (repeat' apply And.intro) <;> first | exact (blk_cell BK385.out _).trans rfl) (fun hHeld => ?_)
         clear hK K
         refine norm_ (a' := ?_) ?_ ?_
         rotate_left
         ·show Act.put _ (some 19) _ = _
          simp only [Act.put,QL,QM,QN,QG,QH]
          rfl
         refine pure_ (i := 14) (N := some 20) (v := ?_) (a' := ?_) (ab 30 26869759) rfl rfl (QI HT_.out (by kernel_rfl)) (fun _ _ _ h => h) (Or.inl ⟨by rfl,?_⟩) ?_ ?_
         rotate_left
         ·intro w'
          go_simp
          with_reducible rfl
         rotate_left
         ·simp only [Act.put,QL,QM,QN,QG,QH]
          rfl
         refine one_ (i := 17) (N := some 23) (ab 30 27000831) rfl rfl (one_of HT_.out (by kernel_rfl)) (by decide) (fun K hK => ?_)
         refine goes_ Tryd.func30 (by kernel_rfl) rfl #[.slice A0_5 l0_5.length c0_5] (by rfl) rfl rfl (by (try simp only [List.map_toArray,List.map_cons,List.map_nil]); first | done | rfl | (simp only [List.length_drop,List.length_take]; rfl)) ?_
         with_reducible refine (impl_maybeText.calls k _ _ l0_5 t391 _ ?side1 ?side2 A12.out).mono ?_
         (case side1 => repeat (first | exact (Kd.C_below HR0_5.out HB.out) | (with_reducible refine Kd.C_alloc ?_ _) | (with_reducible refine Kd.C_drewN ?_ _) | (with_reducible refine Kd.C_drew ?_)))
         (case side2 => exact HC0_5.out)
         rintro e w27 ⟨rfl,hb⟩
         refine ⟨_,rfl,?_⟩
         have n0_ := QO (blk_below (g := gb385) (o := _) (by (with_reducible repeat (first | refine blk_drewN ?_ _ | refine blk_drew ?_ | refine blk_alloc ?_ _)); exact BK385.out) hb)
         have n1_ := QO (QK (by repeat (first | (with_reducible first | exact HB.out | apply QD | apply QB | apply QC | refine QF ?_ GE385.out) | exact HB.out)) hb)
         clear BK385
         clear HB
         revert n0_ n1_
         intro BK385 HB
         (try clear hb)
         (try clear hb2)
         (try clear hk)
         (try clear hi)
         refine hK.out _ _ (by (repeat' apply And.intro) <;> first | exact (blk_cell BK385.out _).trans rfl) (fun hHeld => ?_)
         clear hK K
         refine norm_ (a' := ?_) ?_ ?_
         rotate_left
         ·show Act.put _ (some 23) _ = _
          simp only [Act.put,QL,QM,QN,QG,QH]
          rfl
         refine pure_ (i := 18) (N := some 24) (v := ?_) (a' := ?_) (ab 30 27262975) rfl rfl (QI HT_.out (by kernel_rfl)) (fun _ _ _ h => h) (Or.inl ⟨by rfl,?_⟩) ?_ ?_
         rotate_left
         ·intro w'
          go_simp
          with_reducible rfl
         rotate_left
         ·simp only [Act.put,QL,QM,QN,QG,QH]
          rfl
         refine one_ (i := 21) (N := some 27) (ab 30 29360127) rfl rfl (one_of HT_.out (by kernel_rfl)) (by decide) (fun K hK => ?_)
         refine goes_ Tryd.func29 (by kernel_rfl) rfl #[.int .i64 a0_6] (by rfl) rfl rfl (by (try simp only [List.map_toArray,List.map_cons,List.map_nil]); first | done | rfl | (simp only [List.length_drop,List.length_take]; rfl)) ?_
         with_reducible refine (impl_FormatInt.calls a0_6 t392 _ ?ht_ A14.out).mono ?_
         case ht_ => exact HTAB.out.at (by repeat (first | (with_reducible first | exact HB.out | apply QD | apply QB | apply QC | refine QF ?_ GE385.out) | exact HB.out))
         rintro e w28 ⟨rfl,hb⟩
         refine ⟨_,rfl,?_⟩
         have n0_ := QO (blk_below (g := gb385) (o := _) (by (with_reducible repeat (first | refine blk_drewN ?_ _ | refine blk_drew ?_ | refine blk_alloc ?_ _)); exact BK385.out) hb)
         have n1_ := QO (QK (by repeat (first | (with_reducible first | exact HB.out | apply QD | apply QB | apply QC | refine QF ?_ GE385.out) | exact HB.out)) hb)
         clear BK385
         clear HB
         revert n0_ n1_
         intro BK385 HB
         (try clear hb)
         (try clear hb2)
         (try clear hk)
         (try clear hi)
         refine hK.out _ _ (by (repeat' apply And.intro) <;> first | exact (blk_cell BK385.out _).trans rfl) (fun hHeld => ?_)
         clear hK K
         refine norm_ (a' := ?_) ?_ ?_
         rotate_left
         ·show Act.put _ (some 27) _ = _
          simp only [Act.put,QL,QM,QN,QG,QH]
          rfl
         refine pure_ (i := 22) (N := some 28) (v := ?_) (a' := ?_) (ab 30 33554431) rfl rfl (QI HT_.out (by kernel_rfl)) (fun _ _ _ h => h) (Or.inl ⟨by rfl,?_⟩) ?_ ?_
         rotate_left
         ·intro w'
          go_simp
          with_reducible rfl
         rotate_left
         ·simp only [Act.put,QL,QM,QN,QG,QH]
          rfl
         refine one_ (i := 25) (N := some 31) (ab 30 67108863) rfl rfl (one_of HT_.out (by kernel_rfl)) (by decide) (fun K hK => ?_)
         refine goes_ Tryd.func29 (by kernel_rfl) rfl #[.int .i64 a0_7] (by rfl) rfl rfl (by (try simp only [List.map_toArray,List.map_cons,List.map_nil]); first | done | rfl | (simp only [List.length_drop,List.length_take]; rfl)) ?_
         with_reducible refine (impl_FormatInt.calls a0_7 t393 _ ?ht_ A16.out).mono ?_
         case ht_ => exact HTAB.out.at (by repeat (first | (with_reducible first | exact HB.out | apply QD | apply QB | apply QC | refine QF ?_ GE385.out) | exact HB.out))
         rintro e w29 ⟨rfl,hb⟩
         refine ⟨_,rfl,?_⟩
         have n0_ := QO (blk_below (g := gb385) (o := _) (by (with_reducible repeat (first | refine blk_drewN ?_ _ | refine blk_drew ?_ | refine blk_alloc ?_ _)); exact BK385.out) hb)
         have n1_ := QO (QK (by repeat (first | (with_reducible first | exact HB.out | apply QD | apply QB | apply QC | refine QF ?_ GE385.out) | exact HB.out)) hb)
         clear BK385
         clear HB
         revert n0_ n1_
         intro BK385 HB
         (try clear hb)
         (try clear hb2)
         (try clear hk)
         (try clear hi)
         refine hK.out _ _ (by (repeat' apply And.intro) <;> first | exact (blk_cell BK385.out _).trans rfl) (fun hHeld => ?_)
         clear hK K
         refine norm_ (a' := ?_) ?_ ?_
         rotate_left
         ·show Act.put _ (some 31) _ = _
          simp only [Act.put,QL,QM,QN,QG,QH]
          rfl
         refine pure_ (i := 26) (N := some 32) (v := ?_) (a' := ?_) (ab 30 134217727) rfl rfl (QI HT_.out (by kernel_rfl)) (fun _ _ _ h => h) (Or.inl ⟨by rfl,?_⟩) ?_ ?_
         rotate_left
         ·intro w'
          go_simp
          with_reducible rfl
         rotate_left
         ·simp only [Act.put,QL,QM,QN,QG,QH]
          rfl
         refine one_ (i := 27) (N := some 33) (ab 30 268435455) rfl rfl (one_of HT_.out (by kernel_rfl)) (by decide) (fun K hK => ?_)
         refine Kd.R_lit_step Kd.string _ 9 ?hg (N := 33) ?hd (xs := ([(⟨#[112,108,97,121,101,114,115,61]⟩ : ByteArray) ++ t387,(⟨#[101,97,99,104,61]⟩ : ByteArray) ++ t388,(⟨#[109,97,116,99,104,61]⟩ : ByteArray) ++ t389,(⟨#[119,105,108,100,61]⟩ : ByteArray) ++ t390,(⟨#[115,107,105,112,61]⟩ : ByteArray) ++ t391,(⟨#[116,97,107,101,61]⟩ : ByteArray) ++ t392,(⟨#[108,105,109,105,116,61]⟩ : ByteArray) ++ t393] : List ByteArray)) (inner := [.string ((⟨#[112,108,97,121,101,114,115,61]⟩ : ByteArray) ++ t387),.string ((⟨#[101,97,99,104,61]⟩ : ByteArray) ++ t388),.string ((⟨#[109,97,116,99,104,61]⟩ : ByteArray) ++ t389),.string ((⟨#[119,105,108,100,61]⟩ : ByteArray) ++ t390),.string ((⟨#[115,107,105,112,61]⟩ : ByteArray) ++ t391),.string ((⟨#[116,97,107,101,61]⟩ : ByteArray) ++ t392),.string ((⟨#[108,105,109,105,116,61]⟩ : ByteArray) ++ t393)]) (ok := fun _ => True) (okp := fun _ => True) ?hr ?hp (fun _ hk => hk) trivial (Below.refl _ _) (Nat.le_refl _) (by simp) ?_; (case hd => rfl); (case hg => rfl); (case hr => first | (go_simp; done) | (go_simp; rfl)); (case hp => exact (Reps.one (show Kd.M Kd.string _ _ _ ((⟨#[112,108,97,121,101,114,115,61]⟩ : ByteArray) ++ t387) [.string ((⟨#[112,108,97,121,101,114,115,61]⟩ : ByteArray) ++ t387)] from rfl) (Reps.one (show Kd.M Kd.string _ _ _ ((⟨#[101,97,99,104,61]⟩ : ByteArray) ++ t388) [.string ((⟨#[101,97,99,104,61]⟩ : ByteArray) ++ t388)] from rfl) (Reps.one (show Kd.M Kd.string _ _ _ ((⟨#[109,97,116,99,104,61]⟩ : ByteArray) ++ t389) [.string ((⟨#[109,97,116,99,104,61]⟩ : ByteArray) ++ t389)] from rfl) (Reps.one (show Kd.M Kd.string _ _ _ ((⟨#[119,105,108,100,61]⟩ : ByteArray) ++ t390) [.string ((⟨#[119,105,108,100,61]⟩ : ByteArray) ++ t390)] from rfl) (Reps.one (show Kd.M Kd.string _ _ _ ((⟨#[115,107,105,112,61]⟩ : ByteArray) ++ t391) [.string ((⟨#[115,107,105,112,61]⟩ : ByteArray) ++ t391)] from rfl) (Reps.one (show Kd.M Kd.string _ _ _ ((⟨#[116,97,107,101,61]⟩ : ByteArray) ++ t392) [.string ((⟨#[116,97,107,101,61]⟩ : ByteArray) ++ t392)] from rfl) (Reps.one (show Kd.M Kd.string _ _ _ ((⟨#[108,105,109,105,116,61]⟩ : ByteArray) ++ t393) [.string ((⟨#[108,105,109,105,116,61]⟩ : ByteArray) ++ t393)] from rfl) (Reps.none _ _)))))))))
         intro v395 w30 ho31 hb hg_ hnew_
         clear hg_ hnew_
         (first | rw [← Ny394.out] at ho31 | (simp only [Int.reduceToNat] at ho31; rw [← Ny394.out] at ho31))
         have n0_ := QO (Kd.R_lower ho31 (QJ (by repeat (first | (with_reducible first | exact HB.out | apply QD | apply QB | apply QC | refine QF ?_ GE385.out) | exact HB.out))))
         have n1_ := QO (blk_below (g := gb385) (o := _) (by (with_reducible repeat (first | refine blk_drewN ?_ _ | refine blk_drew ?_ | refine blk_alloc ?_ _)); exact BK385.out) hb)
         have n2_ := QO (QK (by repeat (first | (with_reducible first | exact HB.out | apply QD | apply QB | apply QC | refine QF ?_ GE385.out) | exact HB.out)) hb)
         clear BK385
         clear HB
         revert n0_ n1_ n2_
         intro HO396 BK385 HB
         clear hb ho31
         obtain ⟨Ao32,co32,eo32⟩ := Kd.R_slice HO396.out
         (first | subst eo32 | (injection eo32 with f1_ f2_ f3_; have f4_ := f1_.symm; have f5_ := f3_.symm; clear f1_ f2_ f3_; subst f4_; subst f5_))
         refine hK.out _ _ (by (repeat' apply And.intro) <;> first | exact (blk_cell BK385.out _).trans rfl) (fun hHeld => ?_)
         clear hK K
         refine norm_ (a' := ?_) ?_ ?_
         rotate_left
         ·show Act.put _ (some 33) _ = _
          simp only [Act.put,QL,QM,QN,QG,QH]
          rfl
         refine one_ (i := 28) (N := some 34) (ab 30 536870911) rfl rfl (one_of HT_.out (by kernel_rfl)) (by decide) (fun K hK => ?_)
         refine goes_ Tryd.func28 (by kernel_rfl) rfl #[.slice Ao32 y394.length co32,.string (⟨#[32]⟩ : ByteArray)] (by rfl) rfl rfl (by (try simp only [List.map_toArray,List.map_cons,List.map_nil]); first | done | rfl | (simp only [List.length_drop,List.length_take]; rfl)) ?_
         with_reducible refine (strings_Join.calls _ _ y394 (⟨#[32]⟩ : ByteArray) t397 _ ?side1 ?side2 A18.out).mono ?_
         (case side1 => exact ⟨_,_,_,HO396.out⟩)
         (case side2 => exact (Kd.R_reads' HO396.out).2.1)
         rintro e w33 ⟨rfl,hb⟩
         refine ⟨_,rfl,?_⟩
         have n0_ := QO (Kd.R_below (by (with_reducible repeat (first | apply Kd.R_alloc | apply Kd.R_drewN | apply Kd.R_drew)); exact HO396.out) hb)
         have n1_ := QO (blk_below (g := gb385) (o := _) (by (with_reducible repeat (first | refine blk_drewN ?_ _ | refine blk_drew ?_ | refine blk_alloc ?_ _)); exact BK385.out) hb)
         have n2_ := QO (QK (by repeat (first | (with_reducible first | exact HB.out | apply QD | apply QB | apply QC | refine QF ?_ GE385.out) | exact HB.out)) hb)
         clear HO396
         clear BK385
         clear HB
         revert n0_ n1_ n2_
         intro HO396 BK385 HB
         (try clear hb)
         (try clear hb2)
         (try clear hk)
         (try clear hi)
         refine hK.out _ _ (by (repeat' apply And.intro) <;> first | exact (blk_cell BK385.out _).trans rfl) (fun hHeld => ?_)
         clear hK K
         refine norm_ (a' := ?_) ?_ ?_
         rotate_left
         ·show Act.put _ (some 34) _ = _
          simp only [Act.put,QL,QM,QN,QG,QH]
          rfl
         refine pure_ (i := 29) (N := some 2) (v := ?_) (a' := ?_) (ab 30 1073741823) rfl rfl (QI HT_.out (by kernel_rfl)) (fun _ _ _ h => h) (Or.inl ⟨by rfl,?_⟩) ?_ ?_
         rotate_left
         ·intro w'
          go_simp
          with_reducible rfl
         rotate_left
         ·simp only [Act.put,QL,QM,QN,QG,QH]
          rfl
         refine done_ (done_of HT_.out (by kernel_rfl)) ?_
         try go_wp2
         go_ret
         exact ⟨by first | rfl | (simp [errW_none,errW_some] <;> rfl) | (simp [*,errW_none,errW_some] <;> rfl),by repeat (first | (with_reducible first | exact HB.out | apply QD | apply QB | apply QC | refine QF ?_ GE385.out) | exact HB.out)⟩
        ·rw [if_neg c17] at H
         exact absurd H (by simp)
       ·rw [if_neg c15] at H
        exact absurd H (by simp)
      ·rw [if_neg c13] at H
       exact absurd H (by simp)
     ·rw [if_neg c11] at H
      exact absurd H (by simp)
    ·rw [if_neg c9] at H
     exact absurd H (by simp)
   ·rw [if_neg c7] at H
    exact absurd H (by simp)
  ·rw [if_neg c5] at H
   exact absurd H (by simp)
 ·replace c3 := Bool.eq_false_iff.mpr c3
  subst c3
  rw [if_neg (show ¬ (false = true) by decide)] at H
  obtain rfl := Option.some.inj H
  go_enter Tryd.func9,Tryd.ntmps9
  go_wp2_with (first | ((with_reducible refine gate_dst (N := 1) rfl ?_); refine box_event ?hg (N := 1) ?hd (cs := #[.int .i64 a0_0,.int .i64 a0_1,.bool a0_2,.bool a0_3,.slice A0_4 l0_4.length c0_4,.slice A0_5 l0_5.length c0_5,.int .i64 a0_6,.int .i64 a0_7]) (t := 26) ?hr ?_; (case hd => rfl); (case hg => rfl); (case hr => first | (go_simp; done) | (go_simp; rfl)); intro gb385 hg w34 hbox hb; have n0_ := QO (QK (by repeat (first | (with_reducible first | exact HB.out | apply QD | apply QB | apply QC) | exact HB.out)) hb); have n1_ := QO (hbox); have n2_ := QO ((by rw [hg]; exact (QJ (by repeat (first | (with_reducible first | exact HB.out | apply QD | apply QB | apply QC) | exact HB.out))) : w.heap.size ≤ gb385)); have n3_ := QO ((by rw [hg]; exact (QJ (by repeat (first | (with_reducible first | exact HB.out | apply QD | apply QB | apply QC) | exact HB.out))) : w.heap.size ≤ gb385)); clear HB; revert n0_ n1_ n2_ n3_; intro HB BK385 GW385 GE385; clear hb hbox hg; have hcz35 := fun i => blk_cell BK385.out i; have hfz35 := fun i => QE BK385.out i) | ((with_reducible refine gate_callee (f := 10) rfl ?_); refine goesL_ (some 4) rfl rfl Tryd.func10 (by kernel_rfl) rfl #[.agg #[.int .i64 a0_0,.int .i64 a0_1,.bool a0_2,.bool a0_3,.slice A0_4 l0_4.length c0_4,.slice A0_5 l0_5.length c0_5,.int .i64 a0_6,.int .i64 a0_7]] rfl (by (try simp only [List.map_toArray,List.map_cons,List.map_nil]); first | done | rfl | (simp only [List.length_drop,List.length_take]; rfl)) ?_; (with_reducible refine (impl_IsRules.calls k a0_0 a0_1 a0_2 a0_3 _ _ l0_4 _ _ l0_5 a0_6 a0_7 false _ ?side1 ?side2 ?side3 ?side4 A2.out).mono ?_); (case side1 => repeat (first | exact (Kd.C_below HR0_4.out HB.out) | (with_reducible refine Kd.C_alloc ?_ _) | (with_reducible refine Kd.C_drewN ?_ _) | (with_reducible refine Kd.C_drew ?_))); (case side2 => exact HC0_4.out); (case side3 => repeat (first | exact (Kd.C_below HR0_5.out HB.out) | (with_reducible refine Kd.C_alloc ?_ _) | (with_reducible refine Kd.C_drewN ?_ _) | (with_reducible refine Kd.C_drew ?_))); (case side4 => exact HC0_5.out); rintro e w36 ⟨rfl,hb⟩; refine ⟨_,rfl,?_⟩; have n0_ := QO (blk_below (g := gb385) (o := _) (by (with_reducible repeat (first | refine blk_drewN ?_ _ | refine blk_drew ?_ | refine blk_alloc ?_ _)); exact BK385.out) hb); have n1_ := QO (QK (by repeat (first | (with_reducible first | exact HB.out | apply QD | apply QB | apply QC | refine QF ?_ GE385.out) | exact HB.out)) hb); clear BK385; clear HB; revert n0_ n1_; intro BK385 HB; (try clear hb); (try clear hk); (try clear hi)))
  go_ret
  exact ⟨by first | rfl | (simp [errW_none,errW_some] <;> rfl) | (simp [*,errW_none,errW_some] <;> rfl),by repeat (first | (with_reducible first | exact HB.out | apply QD | apply QB | apply QC | refine QF ?_ GE385.out) | exact HB.out)⟩

/-! ### impl_SplitWords: function 15 -/
def impl_SplitWords.l0 : Nat → ByteArray → Int → List ByteArray → Int → Int → Int → Option (List ByteArray)
 | 0,_,_,_,_,_,_ => none
 | k + 1,x0,x1,x5,x6,x10,x11 => if x11 < x10 then (if 0 ≤ x11 then (if x11 < (x0.size : Int) then (if (bt x0 x11) = x1 then (if 0 ≤ x6 then (if x6 ≤ x11 then (if x11 ≤ (x0.size : Int) then (if x5.length < 8796093022208 then (impl_SplitWords.l0 k x0 x1 (x5 ++ [x0.extract (x6 : Int).toNat (x11 : Int).toNat]) (wrap64 (x11 + 1)) x10 (wrap64 (x11 + 1))) else (none)) else (none)) else (none)) else (none)) else (impl_SplitWords.l0 k x0 x1 x5 x6 x10 (wrap64 (x11 + 1)))) else (none)) else (none)) else (if 0 ≤ x6 then (if x6 ≤ (x0.size : Int) then (if x5.length < 8796093022208 then (some (x5 ++ [x0.extract (x6 : Int).toNat x0.size])) else (none)) else (none)) else (none))
def impl_SplitWords.f (k : Nat) (a0 : ByteArray) (a1 : Int) : Option (List ByteArray) := impl_SplitWords.l0 k a0 a1 (([] : List ByteArray)) 0 (a0.size : Int) 0
theorem impl_SplitWords.mono_l : ∀ k, (∀ y0 y1 y2 y3 y4 y5, LeO (impl_SplitWords.l0 k y0 y1 y2 y3 y4 y5) (impl_SplitWords.l0 (k + 1) y0 y1 y2 y3 y4 y5))
 | 0 => fun _ _ _ _ _ _ r h => by simp [impl_SplitWords.l0] at h
 | k + 1 => by
  have ih0 := impl_SplitWords.mono_l k
  ·intro y0 y1 y2 y3 y4 y5
   unfold impl_SplitWords.l0
   repeat' first
   | (with_reducible exact ih0 _ _ _ _ _ _)
   | (with_reducible exact LeO.refl _)
   | (with_reducible exact LeO.none _)
   | (with_reducible refine LeO.ite ?_ ?_)
   | (with_reducible refine LeO.bind ?_ (fun _ => ?_))
   | exact ih0 _ _ _ _ _ _
   | exact LeO.none _
   | refine LeO.ite ?_ ?_
   | refine LeO.bind ?_ (fun _ => ?_)
theorem impl_SplitWords.mono : ∀ a0 a1 k, LeO (impl_SplitWords.f k a0 a1) (impl_SplitWords.f (k + 1) a0 a1) := by
 intro a0 a1 k
 have ih0 := impl_SplitWords.mono_l k
 unfold impl_SplitWords.f
 repeat' first
   | (with_reducible exact ih0 _ _ _ _ _ _)
   | (with_reducible exact LeO.refl _)
   | (with_reducible exact LeO.none _)
   | (with_reducible refine LeO.ite ?_ ?_)
   | (with_reducible refine LeO.bind ?_ (fun _ => ?_))
   | exact ih0 _ _ _ _ _ _
   | exact LeO.none _
   | refine LeO.ite ?_ ?_
   | refine LeO.bind ?_ (fun _ => ?_)
set_option maxHeartbeats 8000000 in
set_option maxRecDepth 100000 in
theorem impl_SplitWords.calls (k : Nat) (a0 : ByteArray) (a1 : Int) (r : List ByteArray) (w : World) (h : impl_SplitWords.f k a0 a1 = some r) :
  Calls Tryd.prog 15 #[.string a0,.int .u8 a1] w fun e w' => ∃ v0_ : Value,e = .returned (v0_) ∧ Kd.R Kd.string 9 w' w.heap.size (fun _ => True) v0_ r ∧ Below w.heap.size w w' := by
 have HB := QO (Below.refl w.heap.size w)
 have H : (impl_SplitWords.l0 k a0 a1 (([] : List ByteArray)) 0 (a0.size : Int) 0) = some r := h
 clear h
 obtain ⟨y398,hy398⟩ : ∃ y_ : List ByteArray,y_ = (([] : List ByteArray)) := ⟨_,rfl⟩
 replace H : (impl_SplitWords.l0 k a0 a1 y398 0 (a0.size : Int) 0) = some r := by first | (rw [hy398]; with_reducible exact H) | (have H2_ := (Option.bind_some _ _).symm.trans H; rw [hy398]; with_reducible exact H2_) | (have H2_ := (Option.bind_some _ _).symm.trans H; with_reducible exact H2_) | with_reducible exact H | (rw [hy398]; exact H) | exact H
 have Ny398 := QO hy398
 clear hy398
 have H' := QO H
 clear H
 go_enter Tryd.func15,Tryd.ntmps15
 go_wp2_with (first | ((with_reducible refine gate_dst (N := 8) rfl ?_); refine Kd.R_lit Kd.string _ 9 ?hg (N := 8) ?hd (xs := ([] : List ByteArray)) (inner := []) (ok := fun _ => True) (okp := fun _ => True) ?hr ?hp (fun _ hk => hk) trivial (Below.refl _ _) (Nat.le_refl _) (by simp) ?_; (case hd => rfl); (case hg => rfl); (case hr => first | (go_simp; done) | (go_simp; rfl)); (case hp => exact (Reps.none _ _)); intro v399 w3 ho4 hb hg_ hnew_; clear hg_ hnew_; (first | rw [← Ny398.out] at ho4 | (simp only [Int.reduceToNat] at ho4; rw [← Ny398.out] at ho4)); have n0_ := QO (Kd.R_lower ho4 (QJ (by repeat (first | (with_reducible first | exact HB.out | apply QD | apply QB | apply QC) | exact HB.out)))); have n1_ := QO (QK (by repeat (first | (with_reducible first | exact HB.out | apply QD | apply QB | apply QC) | exact HB.out)) hb); clear HB; revert n0_ n1_; intro HO400 HB; clear hb ho4))
 go_loopg [5,6,11] k (fun kq v5 v6 v11 w' => ∃ (x5_1 : List ByteArray) (x6_1 : Int) (x11_1 : Int),v6 = .int .i64 x6_1 ∧ v11 = .int .i64 x11_1 ∧ Aside0 (impl_SplitWords.l0 kq a0 a1 x5_1 x6_1 (a0.size : Int) x11_1 = some r) ∧ Aside0 (kq ≤ k) ∧ Aside0 (Kd.R Kd.string 9 w' w.heap.size (fun _ => True) v5 x5_1) ∧ Aside0 (Below w.heap.size w w'))
 case atStart => exact ⟨(y398),(0),(0),(by first | rfl | (simp; done) | (simp [*]; done)),(by first | rfl | (simp; done) | (simp [*]; done)),H',⟨Nat.le_refl _⟩,⟨by (with_reducible repeat (first | apply Kd.R_alloc | apply Kd.R_drewN | apply Kd.R_drew)); exact HO400.out⟩,⟨by repeat (first | (with_reducible first | exact HB.out | apply QD | apply QB | apply QC) | exact HB.out)⟩⟩
 case round =>
  clear H'
  obtain ⟨x5_1,x6_1,x11_1,rfl,rfl,HA,HK1,HO_5,HB⟩ := hrel
  cases gk with
  | zero => exact absurd HA.out (by simp [impl_SplitWords.l0])
  | succ k1 =>
   have H := HA.out
   clear HA
   simp only [impl_SplitWords.l0] at H
   by_cases c5 : x11_1 < (a0.size : Int)
   ·rw [if_pos c5] at H
    have c5b0 : decide (x11_1 < (a0.size : Int)) = true := decide_eq_true c5
    clear c5
    by_cases c6 : 0 ≤ x11_1
    ·rw [if_pos c6] at H
     have c6b0 : decide (0 ≤ x11_1) = true := decide_eq_true c6
     clear c6
     by_cases c7 : x11_1 < (a0.size : Int)
     ·rw [if_pos c7] at H
      have c7b0 : decide (x11_1 < (a0.size : Int)) = true := decide_eq_true c7
      clear c7
      by_cases c9 : (bt a0 x11_1) = a1
      ·rw [if_pos c9] at H
       have c9b0 : ((bt a0 x11_1) == a1) = true := beq_iff_eq.mpr c9
       have c9b1 : ((bt a0 x11_1) != a1) = false := bne_eq_false_iff_eq.mpr c9
       clear c9
       by_cases c10 : 0 ≤ x6_1
       ·rw [if_pos c10] at H
        have c10b0 := eq_true c10
        have c10b1 : decide (0 ≤ x6_1) = true := decide_eq_true c10
        clear c10
        by_cases c11 : x6_1 ≤ x11_1
        ·rw [if_pos c11] at H
         have c11b0 := eq_true c11
         have c11b1 : decide (x6_1 ≤ x11_1) = true := decide_eq_true c11
         clear c11
         by_cases c12 : x11_1 ≤ (a0.size : Int)
         ·rw [if_pos c12] at H
          have c12b0 := eq_true c12
          have c12b1 : decide (x11_1 ≤ (a0.size : Int)) = true := decide_eq_true c12
          clear c12
          by_cases c13 : x5_1.length < 8796093022208
          ·rw [if_pos c13] at H
           have LMc13 := QO c13
           clear c13
           obtain ⟨y401,hy401⟩ : ∃ y_ : List ByteArray,y_ = (x5_1 ++ [a0.extract (x6_1 : Int).toNat (x11_1 : Int).toNat]) := ⟨_,rfl⟩
           replace H : (impl_SplitWords.l0 k1 a0 a1 y401 (wrap64 (x11_1 + 1)) (a0.size : Int) (wrap64 (x11_1 + 1))) = some r := by first | (rw [hy401]; with_reducible exact H) | (have H2_ := (Option.bind_some _ _).symm.trans H; rw [hy401]; with_reducible exact H2_) | (have H2_ := (Option.bind_some _ _).symm.trans H; with_reducible exact H2_) | with_reducible exact H | (rw [hy401]; exact H) | exact H
           have Ny401 := QO hy401
           clear hy401
           have H' := QO H
           clear H
           have p8 : 0 ≤ (x11_1 : Int) := of_decide_eq_true (by first | (with_reducible assumption) | assumption)
           have q8 : x11_1 < (a0.size : Int) := of_decide_eq_true (by first | (with_reducible assumption) | assumption)
           have hx8 := bt_at a0 x11_1
           replace p8 := eq_true p8
           replace q8 := eq_true q8
           go_wp2_with (first | ((with_reducible refine gate_builtin (b := .append) (xs := #[.tmp 19,.tmp 24]) rfl ?_); at_builtin; refine Kd.R_append Kd.string (w0 := w) w.heap.size rfl (.tmp 19) (.tmp 24) 36 9 (.string ⟨#[]⟩) 16 rfl Tryd.underlying36 info9 rfl (by decide) (by omega) u5 x5_1 (a0.extract (x6_1 : Int).toNat (x11_1 : Int).toNat) [.string (a0.extract (x6_1 : Int).toNat (x11_1 : Int).toNat)] (fun _ => True) (fun _ => False) rfl rfl ?aP (fun _ hk => hk.elim) ?aF ?aO ?aB ?aS ?aL ?_; (case aP => exact rfl); (case aB => exact (by repeat (first | (with_reducible first | exact HB.out | apply QD | apply QB | apply QC) | exact HB.out))); (case aF => exact (fun _ _ => trivial)); (case aO => exact (by (with_reducible repeat (first | apply Kd.R_alloc | apply Kd.R_drewN | apply Kd.R_drew)); exact HO_5.out)); (case aS => exact (QJ (by repeat (first | (with_reducible first | exact HB.out | apply QD | apply QB | apply QC) | exact HB.out)))); (case aL => have := LMc13.out; omega); intro v402 w14 ho hb hg hat; rw [← Ny401.out] at ho; have n0_ := QO (hb); have n1_ := QO (ho); clear HB; clear HO_5; revert n0_ n1_; intro HB HO403; clear ho hb hg hat))
           go_roundg k1
           case measure => have := HK1.out; omega
           case rel => exact ⟨(y401),(wrap64 (x11_1 + 1)),(wrap64 (x11_1 + 1)),(by first | rfl | (simp; done) | (simp [*]; done)),(by first | rfl | (simp; done) | (simp [*]; done)),H',⟨by have := HK1.out; omega⟩,⟨by (with_reducible repeat (first | apply Kd.R_alloc | apply Kd.R_drewN | apply Kd.R_drew)); exact HO403.out⟩,⟨by repeat (first | (with_reducible first | exact HB.out | apply QD | apply QB | apply QC) | exact HB.out)⟩⟩
          ·rw [if_neg c13] at H
           exact absurd H (by simp)
         ·rw [if_neg c12] at H
          exact absurd H (by simp)
        ·rw [if_neg c11] at H
         exact absurd H (by simp)
       ·rw [if_neg c10] at H
        exact absurd H (by simp)
      ·rw [if_neg c9] at H
       have c9b0 : ((bt a0 x11_1) == a1) = false := beq_eq_false_iff_ne.mpr c9
       have c9b1 : ((bt a0 x11_1) != a1) = true := bne_iff_ne.mpr c9
       have H' := QO H
       clear H
       have p8 : 0 ≤ (x11_1 : Int) := of_decide_eq_true (by first | (with_reducible assumption) | assumption)
       have q8 : x11_1 < (a0.size : Int) := of_decide_eq_true (by first | (with_reducible assumption) | assumption)
       have hx8 := bt_at a0 x11_1
       replace p8 := eq_true p8
       replace q8 := eq_true q8
       go_wp2
       go_roundg k1
       case measure => have := HK1.out; omega
       case rel => exact ⟨(x5_1),(x6_1),(wrap64 (x11_1 + 1)),(by first | rfl | (simp; done) | (simp [*]; done)),(by first | rfl | (simp; done) | (simp [*]; done)),H',⟨by have := HK1.out; omega⟩,⟨by (with_reducible repeat (first | apply Kd.R_alloc | apply Kd.R_drewN | apply Kd.R_drew)); exact HO_5.out⟩,⟨by repeat (first | (with_reducible first | exact HB.out | apply QD | apply QB | apply QC) | exact HB.out)⟩⟩
     ·rw [if_neg c7] at H
      exact absurd H (by simp)
    ·rw [if_neg c6] at H
     exact absurd H (by simp)
   ·rw [if_neg c5] at H
    have c5b0 : decide (x11_1 < (a0.size : Int)) = false := decide_eq_false c5
    clear c5
    by_cases c10 : 0 ≤ x6_1
    ·rw [if_pos c10] at H
     have c10b0 := eq_true c10
     have c10b1 : decide (0 ≤ x6_1) = true := decide_eq_true c10
     clear c10
     by_cases c16 : x6_1 ≤ (a0.size : Int)
     ·rw [if_pos c16] at H
      have c16b0 := eq_true c16
      have c16b1 : decide (x6_1 ≤ (a0.size : Int)) = true := decide_eq_true c16
      clear c16
      by_cases c13 : x5_1.length < 8796093022208
      ·rw [if_pos c13] at H
       have LMc13 := QO c13
       clear c13
       obtain ⟨y404,hy404⟩ : ∃ y_ : List ByteArray,y_ = (x5_1 ++ [a0.extract (x6_1 : Int).toNat a0.size]) := ⟨_,rfl⟩
       replace H : (some y404) = some r := by first | (rw [hy404]; with_reducible exact H) | (have H2_ := (Option.bind_some _ _).symm.trans H; rw [hy404]; with_reducible exact H2_) | (have H2_ := (Option.bind_some _ _).symm.trans H; with_reducible exact H2_) | with_reducible exact H | (rw [hy404]; exact H) | exact H
       have Ny404 := QO hy404
       clear hy404
       obtain rfl := Option.some.inj H
       go_wp2_with (first | ((with_reducible refine gate_builtin (b := .append) (xs := #[.tmp 29,.tmp 33]) rfl ?_); at_builtin; refine Kd.R_append Kd.string (w0 := w) w.heap.size rfl (.tmp 29) (.tmp 33) 36 9 (.string ⟨#[]⟩) 16 rfl Tryd.underlying36 info9 rfl (by decide) (by omega) u5 x5_1 (a0.extract (x6_1 : Int).toNat a0.size) [.string (a0.extract (x6_1 : Int).toNat a0.size)] (fun _ => True) (fun _ => False) rfl rfl ?aP (fun _ hk => hk.elim) ?aF ?aO ?aB ?aS ?aL ?_; (case aP => exact rfl); (case aB => exact (by repeat (first | (with_reducible first | exact HB.out | apply QD | apply QB | apply QC) | exact HB.out))); (case aF => exact (fun _ _ => trivial)); (case aO => exact (by (with_reducible repeat (first | apply Kd.R_alloc | apply Kd.R_drewN | apply Kd.R_drew)); exact HO_5.out)); (case aS => exact (QJ (by repeat (first | (with_reducible first | exact HB.out | apply QD | apply QB | apply QC) | exact HB.out)))); (case aL => have := LMc13.out; omega); intro v405 w18 ho hb hg hat; rw [← Ny404.out] at ho; have n0_ := QO (hb); have n1_ := QO (ho); clear HB; clear HO_5; revert n0_ n1_; intro HB HO406; clear ho hb hg hat))
       go_ret
       exact ⟨_,by first | rfl | (simp [errW_none,errW_some] <;> rfl) | (simp [*,errW_none,errW_some] <;> rfl),by (with_reducible repeat (first | apply Kd.R_alloc | apply Kd.R_drewN | apply Kd.R_drew)); exact HO406.out,by repeat (first | (with_reducible first | exact HB.out | apply QD | apply QB | apply QC) | exact HB.out)⟩
      ·rw [if_neg c13] at H
       exact absurd H (by simp)
     ·rw [if_neg c16] at H
      exact absurd H (by simp)
    ·rw [if_neg c10] at H
     exact absurd H (by simp)

/-! ### stringslite_HasPrefix: function 82 -/
def stringslite_HasPrefix.f (a0 : ByteArray) (a1 : ByteArray) : Option (Bool) := if (a0.size : Int) ≥ (a1.size : Int) then (if 0 ≤ (a1.size : Int) then (if (a1.size : Int) ≤ (a0.size : Int) then (some ((a0.extract 0 ((a1.size : Int) : Int).toNat).toList == a1.toList)) else (none)) else (none)) else (some false)
set_option maxHeartbeats 8000000 in
set_option maxRecDepth 100000 in
theorem stringslite_HasPrefix.calls (a0 : ByteArray) (a1 : ByteArray) (r : Bool) (w : World) (h : stringslite_HasPrefix.f a0 a1 = some r) :
  Calls Tryd.prog 82 #[.string a0,.string a1] w fun e w' => e = .returned (.bool r) ∧ Drawn0 w w' := by
 have H : (if (a0.size : Int) ≥ (a1.size : Int) then (if 0 ≤ (a1.size : Int) then (if (a1.size : Int) ≤ (a0.size : Int) then (some ((a0.extract 0 ((a1.size : Int) : Int).toNat).toList == a1.toList)) else (none)) else (none)) else (some false)) = some r := h
 clear h
 by_cases c3 : (a0.size : Int) ≥ (a1.size : Int)
 ·rw [if_pos c3] at H
  have c3b0 : decide ((a1.size : Int) ≤ (a0.size : Int)) = true := decide_eq_true c3
  have c3b1 : decide (a1.size ≤ a0.size) = true := decide_eq_true (Int.ofNat_le.mp c3)
  clear c3
  by_cases c4 : 0 ≤ (a1.size : Int)
  ·rw [if_pos c4] at H
   have c4b0 := eq_true c4
   have c4b1 : decide (0 ≤ (a1.size : Int)) = true := decide_eq_true c4
   clear c4
   by_cases c5 : (a1.size : Int) ≤ (a0.size : Int)
   ·rw [if_pos c5] at H
    have c5b0 := eq_true c5
    have c5b1 : decide ((a1.size : Int) ≤ (a0.size : Int)) = true := decide_eq_true c5
    clear c5
    obtain rfl := Option.some.inj H
    go_enter Tryd.func82,Tryd.ntmps82
    go_wp2
    go_ret
    exact ⟨by first | rfl | (simp; done) | (simp [*]; done),by repeat (first | exact Drawn0.refl _ | apply Drawn0.step)⟩
   ·rw [if_neg c5] at H
    exact absurd H (by simp)
  ·rw [if_neg c4] at H
   exact absurd H (by simp)
 ·rw [if_neg c3] at H
  have c3b0 : decide ((a1.size : Int) ≤ (a0.size : Int)) = false := decide_eq_false c3
  have c3b1 : decide (a1.size ≤ a0.size) = false := decide_eq_false (fun h => c3 (Int.ofNat_le.mpr h))
  clear c3
  obtain rfl := Option.some.inj H
  go_enter Tryd.func82,Tryd.ntmps82
  go_wp2
  go_ret
  exact ⟨by first | rfl | (simp; done) | (simp [*]; done),by repeat (first | exact Drawn0.refl _ | apply Drawn0.step)⟩

/-! ### stringslite_CutPrefix: function 65 -/
def stringslite_CutPrefix.f (a0 : ByteArray) (a1 : ByteArray) : Option (ByteArray × Bool) := (stringslite_HasPrefix.f a0 a1).bind fun t407 => (if t407 = true then (if 0 ≤ (a1.size : Int) then (if (a1.size : Int) ≤ (a0.size : Int) then (some (a0.extract ((a1.size : Int) : Int).toNat a0.size, true)) else (none)) else (none)) else (some (a0, false)))
set_option maxHeartbeats 8000000 in
set_option maxRecDepth 100000 in
theorem stringslite_CutPrefix.calls (a0 : ByteArray) (a1 : ByteArray) (r1 : ByteArray) (r2 : Bool) (w : World) (h : stringslite_CutPrefix.f a0 a1 = some (r1, r2)) :
  Calls Tryd.prog 65 #[.string a0,.string a1] w fun e w' => e = .returned (.tuple #[.string r1,.bool r2]) ∧ Drawn0 w w' := by
 have H : ((stringslite_HasPrefix.f a0 a1).bind fun t407 => (if t407 = true then (if 0 ≤ (a1.size : Int) then (if (a1.size : Int) ≤ (a0.size : Int) then (some (a0.extract ((a1.size : Int) : Int).toNat a0.size,true)) else (none)) else (none)) else (some (a0,false)))) = some (r1,r2) := h
 clear h
 replace H := QP.mp H
 obtain ⟨t407,A30,H⟩ := H
 replace H : (if t407 = true then (if 0 ≤ (a1.size : Int) then (if (a1.size : Int) ≤ (a0.size : Int) then (some (a0.extract ((a1.size : Int) : Int).toNat a0.size,true)) else (none)) else (none)) else (some (a0,false))) = some (r1,r2) := H
 have A3 := QO A30
 clear A30
 by_cases c4 : t407 = true
 ·subst c4
  have H1 : (if 0 ≤ (a1.size : Int) then (if (a1.size : Int) ≤ (a0.size : Int) then (some (a0.extract ((a1.size : Int) : Int).toNat a0.size,true)) else (none)) else (none)) = some (r1,r2) := by rw [if_pos rfl] at H; exact H
  clear H
  have H := H1
  clear H1
  by_cases c5 : 0 ≤ (a1.size : Int)
  ·rw [if_pos c5] at H
   have c5b0 := eq_true c5
   have c5b1 : decide (0 ≤ (a1.size : Int)) = true := decide_eq_true c5
   clear c5
   by_cases c6 : (a1.size : Int) ≤ (a0.size : Int)
   ·rw [if_pos c6] at H
    have c6b0 := eq_true c6
    have c6b1 : decide ((a1.size : Int) ≤ (a0.size : Int)) = true := decide_eq_true c6
    clear c6
    simp only [Option.some.injEq,Prod.mk.injEq] at H
    obtain ⟨rfl,rfl⟩ := H
    go_enter Tryd.func65,Tryd.ntmps65
    go_wp2_with (first | ((with_reducible refine gate_callee (f := 82) rfl ?_); refine goesL_ (some 8) rfl rfl Tryd.func82 (by kernel_rfl) rfl #[.string a0,.string a1] rfl (by (try simp only [List.map_toArray,List.map_cons,List.map_nil]); first | done | rfl | (simp only [List.length_drop,List.length_take]; rfl)) ?_; (with_reducible refine (stringslite_HasPrefix.calls a0 a1 true _ A3.out).mono ?_); rintro e w' ⟨rfl,⟨nd,rfl⟩⟩; refine ⟨_,rfl,?_⟩))
    go_ret2
    exact ⟨by first | rfl | (simp; done) | (simp [*]; done),by repeat (first | exact Drawn0.refl _ | apply Drawn0.step)⟩
   ·rw [if_neg c6] at H
    exact absurd H (by simp)
  ·rw [if_neg c5] at H
   exact absurd H (by simp)
 ·replace c4 := Bool.eq_false_iff.mpr c4
  subst c4
  have H1 : (some (a0,false)) = some (r1,r2) := by rw [if_neg (show ¬ (false = true) by decide)] at H; exact H
  clear H
  have H := H1
  clear H1
  simp only [Option.some.injEq,Prod.mk.injEq] at H
  obtain ⟨rfl,rfl⟩ := H
  go_enter Tryd.func65,Tryd.ntmps65
  go_wp2_with (first | ((with_reducible refine gate_callee (f := 82) rfl ?_); refine goesL_ (some 8) rfl rfl Tryd.func82 (by kernel_rfl) rfl #[.string a0,.string a1] rfl (by (try simp only [List.map_toArray,List.map_cons,List.map_nil]); first | done | rfl | (simp only [List.length_drop,List.length_take]; rfl)) ?_; (with_reducible refine (stringslite_HasPrefix.calls a0 a1 false _ A3.out).mono ?_); rintro e w' ⟨rfl,⟨nd,rfl⟩⟩; refine ⟨_,rfl,?_⟩))
  go_ret2
  exact ⟨by first | rfl | (simp; done) | (simp [*]; done),by repeat (first | exact Drawn0.refl _ | apply Drawn0.step)⟩

/-! ### strings_CutPrefix: function 39 -/
def strings_CutPrefix.f (a0 : ByteArray) (a1 : ByteArray) : Option (ByteArray × Bool) := (stringslite_CutPrefix.f a0 a1).bind fun bt408 => (some (bt408.1, bt408.2))
set_option maxHeartbeats 8000000 in
set_option maxRecDepth 100000 in
theorem strings_CutPrefix.calls (a0 : ByteArray) (a1 : ByteArray) (r1 : ByteArray) (r2 : Bool) (w : World) (h : strings_CutPrefix.f a0 a1 = some (r1, r2)) :
  Calls Tryd.prog 39 #[.string a0,.string a1] w fun e w' => e = .returned (.tuple #[.string r1,.bool r2]) ∧ Drawn0 w w' := by
 have H : ((stringslite_CutPrefix.f a0 a1).bind fun bt408 => (some (bt408.1,bt408.2))) = some (r1,r2) := h
 clear h
 replace H := QP.mp H
 obtain ⟨⟨t408,t409⟩,A30,H⟩ := H
 replace H : (some (t408,t409)) = some (r1,r2) := H
 have A3 := QO A30
 clear A30
 simp only [Option.some.injEq,Prod.mk.injEq] at H
 obtain ⟨rfl,rfl⟩ := H
 go_enter Tryd.func39,Tryd.ntmps39
 go_wp2_with (first | ((with_reducible refine gate_callee (f := 65) rfl ?_); refine goesL_ (some 8) rfl rfl Tryd.func65 (by kernel_rfl) rfl #[.string a0,.string a1] rfl (by (try simp only [List.map_toArray,List.map_cons,List.map_nil]); first | done | rfl | (simp only [List.length_drop,List.length_take]; rfl)) ?_; (with_reducible refine (stringslite_CutPrefix.calls a0 a1 t408 t409 _ A3.out).mono ?_); rintro e w' ⟨rfl,⟨nd,rfl⟩⟩; refine ⟨_,rfl,?_⟩))
 go_ret2
 exact ⟨by first | rfl | (simp; done) | (simp [*]; done),by repeat (first | exact Drawn0.refl _ | apply Drawn0.step)⟩

/-! ### impl_ValueAfter: function 17 -/
def impl_ValueAfter.f (a0 : ByteArray) (a1 : ByteArray) : Option (ByteArray × Bool) := if a1.size + 1 ≤ 9223372036854775807 then ((strings_CutPrefix.f a0 (a1 ++ (⟨#[61]⟩ : ByteArray))).bind fun bt410 => (if bt410.2 = true then (some (bt410.1, true)) else (some ((⟨#[]⟩ : ByteArray), false)))) else (none)
set_option maxHeartbeats 8000000 in
set_option maxRecDepth 100000 in
theorem impl_ValueAfter.calls (a0 : ByteArray) (a1 : ByteArray) (r1 : ByteArray) (r2 : Bool) (w : World) (h : impl_ValueAfter.f a0 a1 = some (r1, r2)) :
  Calls Tryd.prog 17 #[.string a0,.string a1] w fun e w' => e = .returned (.tuple #[.string r1,.bool r2]) ∧ Drawn0 w w' := by
 have H : (if a1.size + 1 ≤ 9223372036854775807 then ((strings_CutPrefix.f a0 (a1 ++ (⟨#[61]⟩ : ByteArray))).bind fun bt410 => (if bt410.2 = true then (some (bt410.1,true)) else (some ((⟨#[]⟩ : ByteArray),false)))) else (none)) = some (r1,r2) := h
 clear h
 by_cases c3 : a1.size + 1 ≤ 9223372036854775807
 ·rw [if_pos c3] at H
  have c3b0 := eq_true c3
  have c3b1 : decide (a1.size + 1 ≤ 9223372036854775807) = true := decide_eq_true c3
  try have c3b2 : (9223372036854775807 < a1.size + 1) = False := eq_false (Nat.not_lt.2 c3)
  replace H := QP.mp H
  obtain ⟨⟨t410,t411⟩,A40,H⟩ := H
  replace H : (if t411 = true then (some (t410,true)) else (some ((⟨#[]⟩ : ByteArray),false))) = some (r1,r2) := H
  have A4 := QO A40
  clear A40
  by_cases c5 : t411 = true
  ·subst c5
   have H1 : (some (t410,true)) = some (r1,r2) := by rw [if_pos rfl] at H; exact H
   clear H
   have H := H1
   clear H1
   simp only [Option.some.injEq,Prod.mk.injEq] at H
   obtain ⟨rfl,rfl⟩ := H
   go_enter Tryd.func17,Tryd.ntmps17
   go_wp2_with (first | ((with_reducible refine gate_callee (f := 39) rfl ?_); refine goesL_ (some 12) rfl rfl Tryd.func39 (by kernel_rfl) rfl #[.string a0,.string (a1 ++ (⟨#[61]⟩ : ByteArray))] rfl (by (try simp only [List.map_toArray,List.map_cons,List.map_nil]); first | done | rfl | (simp only [List.length_drop,List.length_take]; rfl)) ?_; (with_reducible refine (strings_CutPrefix.calls a0 (a1 ++ (⟨#[61]⟩ : ByteArray)) t410 true _ A4.out).mono ?_); rintro e w' ⟨rfl,⟨nd,rfl⟩⟩; refine ⟨_,rfl,?_⟩))
   go_ret2
   exact ⟨by first | rfl | (simp; done) | (simp [*]; done),by repeat (first | exact Drawn0.refl _ | apply Drawn0.step)⟩
  ·replace c5 := Bool.eq_false_iff.mpr c5
   subst c5
   have H1 : (some ((⟨#[]⟩ : ByteArray),false)) = some (r1,r2) := by rw [if_neg (show ¬ (false = true) by decide)] at H; exact H
   clear H
   have H := H1
   clear H1
   simp only [Option.some.injEq,Prod.mk.injEq] at H
   obtain ⟨rfl,rfl⟩ := H
   go_enter Tryd.func17,Tryd.ntmps17
   go_wp2_with (first | ((with_reducible refine gate_callee (f := 39) rfl ?_); refine goesL_ (some 12) rfl rfl Tryd.func39 (by kernel_rfl) rfl #[.string a0,.string (a1 ++ (⟨#[61]⟩ : ByteArray))] rfl (by (try simp only [List.map_toArray,List.map_cons,List.map_nil]); first | done | rfl | (simp only [List.length_drop,List.length_take]; rfl)) ?_; (with_reducible refine (strings_CutPrefix.calls a0 (a1 ++ (⟨#[61]⟩ : ByteArray)) t410 false _ A4.out).mono ?_); rintro e w' ⟨rfl,⟨nd,rfl⟩⟩; refine ⟨_,rfl,?_⟩))
   go_ret2
   exact ⟨by first | rfl | (simp; done) | (simp [*]; done),by repeat (first | exact Drawn0.refl _ | apply Drawn0.step)⟩
 ·rw [if_neg c3] at H
  exact absurd H (by simp)

/-! ### impl_ParseInt: function 26 -/
/-- The library's table, and its two errors as the start-up makes them. -/
def LaidE (w : World) : Prop := Laid w ∧ (∃ tp p, w.var? Tryd.prog "strconv.ErrSyntax" = some #[.iface tp p]) ∧ ∃ tp p, w.var? Tryd.prog "strconv.ErrRange" = some #[.iface tp p]
theorem LaidE.at {w w' : World} (h : LaidE w) (hb : Below w.heap.size w w') : LaidE w' := by
 have hv : ∀ (n : String) (x : Array Value), w.var? Tryd.prog n = some x → w'.var? Tryd.prog n = some x := by
  intro n x h
  unfold World.var? at h ⊢
  cases hg : Tryd.prog.globalNamed n with
  | none => rw [hg] at h; exact absurd h (by simp)
  | some g =>
   rw [hg] at h
   simp only [Option.bind_some] at h ⊢
   have hl : g < w.heap.size := by
    refine Nat.lt_of_not_le fun hle => ?_
    rw [Array.getElem?_eq_none hle] at h
    exact absurd h (by simp)
   rw [hb.block g hl]
   exact h
 obtain ⟨h1, ⟨t2, p2, h2⟩, ⟨t3, p3, h3⟩⟩ := h
 exact ⟨h1.at hb, ⟨t2, p2, hv _ _ h2⟩, ⟨t3, p3, hv _ _ h3⟩⟩
def impl_ParseInt.f (s : ByteArray) : Option (Int × Bool) :=
 if (s.size : Int) > 13 then some (0, false) else match Go.Lib.atoiAll s.data.toList with
  | .ok v => if 0 ≤ v ∧ v ≤ 1000000000000 ∧ (⟨(Go.Lib.itoa v).toArray⟩ : ByteArray).toList = s.toList then some (v, true) else some (0, false)
  | _ => some (0, false)
set_option maxHeartbeats 8000000 in
set_option maxRecDepth 100000 in
theorem impl_ParseInt.long (s : ByteArray) (w : World) (hl : (s.size : Int) > 13) :
  Calls Tryd.prog 26 #[.string s] w fun e w' => e = .returned (.tuple #[.int .i64 0, .bool false]) ∧ Below w.heap.size w w' := by
 have h0 : decide (13 < (s.size : Int)) = true := decide_eq_true hl
 have h1 : decide (13 < s.size) = true := decide_eq_true (by omega)
 clear hl
 go_enter Tryd.func26, Tryd.ntmps26
 go_wp2
 refine bodyPost_ret (results_tmp2 rfl _ _ _) rfl ?_
 exact ⟨rfl, Below.refl _ _⟩
set_option maxHeartbeats 8000000 in
set_option maxRecDepth 100000 in
theorem impl_ParseInt.no (s : ByteArray) (w : World) (ht : LaidE w) (hl : ¬ (s.size : Int) > 13) (ha : ∀ v, Go.Lib.atoiAll s.data.toList ≠ .ok v) :
  Calls Tryd.prog 26 #[.string s] w fun e w' => e = .returned (.tuple #[.int .i64 0, .bool false]) ∧ Below w.heap.size w w' := by
 have h0 : decide (13 < (s.size : Int)) = false := decide_eq_false hl
 have h1 : decide (13 < s.size) = false := decide_eq_false (by omega)
 have HS : Aside0 (s.size ≤ 281474976710656) := ⟨by omega⟩
 have HT := QO ht
 clear hl ht
 cases hc : Go.Lib.atoiAll s.data.toList with
 | ok v => exact absurd hc (ha v)
 | _ =>
  have HC := QO hc
  clear hc ha
  go_enter Tryd.func26, Tryd.ntmps26
  go_wp2_with (fail)
  first
   | (obtain ⟨tp, p, hv⟩ := HT.out.2.1; refine (Go.Proofs.Tryd.strconv_Atoi_syntax_var s HS.out HC.out tp p _ hv).mono ?_)
   | (obtain ⟨tp, p, hv⟩ := HT.out.2.2; refine (Go.Proofs.Tryd.strconv_Atoi_range_var s HS.out HC.out tp p _ hv).mono ?_)
  rintro e w1 ⟨N, rfl, _, _, hb⟩
  have HB := QO hb
  clear hv hb
  go_wp2
  refine bodyPost_ret (results_tmp2 rfl _ _ _) rfl ?_
  exact ⟨rfl, HB.out⟩
set_option maxHeartbeats 8000000 in
set_option maxRecDepth 100000 in
theorem impl_ParseInt.out (s : ByteArray) (v : Int) (w : World) (hl : ¬ (s.size : Int) > 13) (ha : Go.Lib.atoiAll s.data.toList = .ok v) (hr : ¬ (0 ≤ v ∧ v ≤ 1000000000000)) :
  Calls Tryd.prog 26 #[.string s] w fun e w' => e = .returned (.tuple #[.int .i64 0, .bool false]) ∧ Below w.heap.size w w' := by
 have h0 : decide (13 < (s.size : Int)) = false := decide_eq_false hl
 have h1 : decide (13 < s.size) = false := decide_eq_false (by omega)
 have HS : Aside0 (s.size ≤ 9223372036854775806) := ⟨by omega⟩
 have HA := QO ha
 have HF : Aside0 (impl_InRange.f v 0 1000000000000 = some false) := ⟨by unfold impl_InRange.f; by_cases h : v ≥ 0 <;> simp [h] <;> omega⟩
 clear hl ha hr
 go_enter Tryd.func26, Tryd.ntmps26
 go_wp2_with (fail)
 refine (Go.Proofs.Tryd.strconv_Atoi_ok s HS.out v HA.out _).mono ?_
 rintro e w1 ⟨rfl, hw⟩
 have HB : Aside0 (Below w.heap.size w w1) := ⟨hw.elim (fun e => e ▸ Below.refl _ _) (fun ⟨_, e⟩ => e ▸ Go.Lib.bytesWorld_below _ _ _)⟩
 clear hw
 go_wp2_with (fail)
 refine (impl_InRange.calls v 0 1000000000000 false _ HF.out).mono ?_
 rintro e w2 ⟨rfl, nd, rfl⟩
 go_wp2
 refine bodyPost_ret (results_tmp2 rfl _ _ _) rfl ?_
 exact ⟨rfl, QB HB.out _⟩
set_option maxHeartbeats 8000000 in
set_option maxRecDepth 100000 in
theorem impl_ParseInt.in_ (s : ByteArray) (v : Int) (t : ByteArray) (b : Bool) (w : World) (ht : Laid w) (hl : ¬ (s.size : Int) > 13) (ha : Go.Lib.atoiAll s.data.toList = .ok v) (hr : 0 ≤ v ∧ v ≤ 1000000000000) (hf : impl_FormatInt.f v = some t) (hb : (t.toList == s.toList) = b) :
  Calls Tryd.prog 26 #[.string s] w fun e w' => e = .returned (.tuple #[.int .i64 (if b then v else 0), .bool b]) ∧ Below w.heap.size w w' := by
 have h0 : decide (13 < (s.size : Int)) = false := decide_eq_false hl
 have h1 : decide (13 < s.size) = false := decide_eq_false (by omega)
 have HS : Aside0 (s.size ≤ 9223372036854775806) := ⟨by omega⟩
 have HA := QO ha
 have HT := QO ht
 have HN := QO hf
 have HF : Aside0 (impl_InRange.f v 0 1000000000000 = some true) := ⟨by unfold impl_InRange.f; rw [if_pos hr.1, decide_eq_true hr.2]⟩
 clear hl ha hr ht hf
 cases b
 all_goals
  have hb2 : (t.toList != s.toList) = _ := congrArg (fun x => !x) hb
  simp only [Bool.not_false, Bool.not_true] at hb2
  go_enter Tryd.func26, Tryd.ntmps26
  go_wp2_with (fail)
  refine (Go.Proofs.Tryd.strconv_Atoi_ok s HS.out v HA.out _).mono ?_
  rintro e w1 ⟨rfl, hw⟩
  have HB : Aside0 (Below w.heap.size w w1) := ⟨hw.elim (fun e => e ▸ Below.refl _ _) (fun ⟨_, e⟩ => e ▸ Go.Lib.bytesWorld_below _ _ _)⟩
  clear hw
  go_wp2_with (fail)
  refine (impl_InRange.calls v 0 1000000000000 true _ HF.out).mono ?_
  rintro e w2 ⟨rfl, nd, rfl⟩
  have HB2 := QO (QB HB.out nd)
  go_wp2_with (fail)
  refine (impl_FormatInt.calls v t _ (HT.out.at HB2.out) HN.out).mono ?_
  rintro e w3 ⟨rfl, hb3⟩
  have HB3 := QO (QK HB2.out hb3)
  clear hb3
  go_wp2
  refine bodyPost_ret (results_tmp2 rfl _ _ _) rfl ?_
  exact ⟨by first | rfl | (simp only [Bool.false_eq_true, ↓reduceIte]; rfl), HB3.out⟩
theorem impl_ParseInt.calls (a0 : ByteArray) (r1 : Int) (r2 : Bool) (w : World) (ht : LaidE w) (h : impl_ParseInt.f a0 = some (r1, r2)) :
  Calls Tryd.prog 26 #[.string a0] w fun e w' => e = .returned (.tuple #[.int .i64 r1, .bool r2]) ∧ Below w.heap.size w w' := by
 unfold impl_ParseInt.f at h
 by_cases hl : (a0.size : Int) > 13
 ·rw [if_pos hl] at h
  obtain ⟨rfl, rfl⟩ := Prod.mk.inj (Option.some.inj h)
  exact impl_ParseInt.long a0 w hl
 rw [if_neg hl] at h
 cases ha : Go.Lib.atoiAll a0.data.toList with
 | ok v =>
  rw [ha] at h
  simp only at h
  by_cases hr : 0 ≤ v ∧ v ≤ 1000000000000
  ·have hf : impl_FormatInt.f v = some ⟨(Go.Lib.itoa v).toArray⟩ := by unfold impl_FormatInt.f; rw [if_pos ⟨by omega, by omega⟩]
   by_cases hc : (⟨(Go.Lib.itoa v).toArray⟩ : ByteArray).toList = a0.toList
   ·rw [if_pos ⟨hr.1, hr.2, hc⟩] at h
    obtain ⟨rfl, rfl⟩ := Prod.mk.inj (Option.some.inj h)
    exact impl_ParseInt.in_ a0 _ _ true w ht.1 hl ha hr hf (beq_iff_eq.mpr hc)
   ·rw [if_neg (fun c => hc c.2.2)] at h
    obtain ⟨rfl, rfl⟩ := Prod.mk.inj (Option.some.inj h)
    exact impl_ParseInt.in_ a0 v _ false w ht.1 hl ha hr hf (beq_eq_false_iff_ne.mpr hc)
  ·rw [if_neg (fun c => hr ⟨c.1, c.2.1⟩)] at h
   obtain ⟨rfl, rfl⟩ := Prod.mk.inj (Option.some.inj h)
   exact impl_ParseInt.out a0 v w hl ha hr
 | _ =>
  rw [ha] at h
  obtain ⟨rfl, rfl⟩ := Prod.mk.inj (Option.some.inj h)
  exact impl_ParseInt.no a0 w ht hl (fun v e => by rw [ha] at e; cases e)

/-! ### impl_ParsePattern: function 27 -/
/-- The reader of patterns at block g: its text, its place, what it has read, in memory of its own. -/
def Note (w0 W : World) (g : Nat) (s : ByteArray) (at_ : Int) (out : List Int) : Prop := ∃ A c, W.heap[g]? = some (.cells #[.string s, .int .i64 at_, .slice A out.length c] 72 (0, 0)) ∧ Kd.R (Kd.int .i64) 3 W w0.heap.size (fun k => k ≠ g) (.slice A out.length c) out
theorem Note.drewN {w0 W : World} {g : Nat} {s : ByteArray} {at_ : Int} {out : List Int} (h : Note w0 W g s at_ out) (n : Nat) : Note w0 (W.drewN n) g s at_ out := h
theorem Note.set1 {w0 W : World} {g : Nat} {s : ByteArray} {at_ : Int} {out : List Int} (h : Note w0 W g s at_ out) (x : Int) : Note w0 (W.setCell ⟨g, 1, none⟩ (.int .i64 x)) g s x out := by
 obtain ⟨A, c, hb, hr⟩ := h
 exact ⟨A, c, by simpa using blk_set hb 1 (.int .i64 x), Kd.R_far hr (fun k hk => hk) _⟩
theorem Note.set2 {w0 W W1 : World} {g : Nat} {s : ByteArray} {at_ : Int} {out out1 : List Int} {A : Option Addr} {c : Nat} {v : Value} {row : Option Nat} (hb : W.heap[g]? = some (.cells #[.string s, .int .i64 at_, .slice A out.length c] 72 (0, 0))) (hw : W.grownBy W1 row) (hne : ∀ k, row = some k → k ≠ g) (h : Kd.R (Kd.int .i64) 3 W1 w0.heap.size (fun k => k ≠ g) v out1) : Note w0 (W1.setCell ⟨g, 2, none⟩ v) g s at_ out1 := by
 obtain ⟨A1, c1, rfl⟩ := Kd.R_slice h
 refine ⟨A1, c1, ?_, Kd.R_far h (fun k hk => hk) _⟩
 have := blk_set (blk_grown hb hw (fun e => hne g e.symm rfl)) 2 (.slice A1 out1.length c1)
 simpa using this
theorem note_cell {W : World} {g : Nat} {s : ByteArray} {at_ : Int} {out : List Int} {A : Option Addr} {c : Nat} (h : W.heap[g]? = some (.cells #[.string s, .int .i64 at_, .slice A out.length c] 72 (0, 0))) : W.cell? ⟨g, 0, none⟩ = some (.string s) ∧ W.cell? ⟨g, 1, none⟩ = some (.int .i64 at_) ∧ W.cell? ⟨g, 2, none⟩ = some (.slice A out.length c) := ⟨(blk_cell h 0).trans rfl, (blk_cell h 1).trans rfl, (blk_cell h 2).trans rfl⟩
/-- The byte at the place; 0 at the end. -/
def noteB (s : ByteArray) (x : Int) : Int := if x < (s.size : Int) then bt s x else 0
set_option maxHeartbeats 8000000 in
set_option maxRecDepth 100000 in
theorem note_next (g : Nat) (s : ByteArray) (at_ : Int) (out : List Int) (w0 w : World) (h : Note w0 w g s at_ out) (hp : 0 ≤ at_) :
  Calls Tryd.prog 72 #[.pointer (some ⟨g, 0, none⟩)] w fun e w' => e = .returned (.int .u8 (noteB s at_)) ∧ ∃ n, w' = w.drewN n := by
 obtain ⟨A, c, hb, hr⟩ := h
 obtain ⟨hc0, hc1, hc2⟩ := note_cell hb
 have hf0 := QE hb 0
 have hf1 := QE hb 1
 clear hb hr
 have p4 : 0 ≤ at_ := hp
 by_cases q4 : at_ < (s.size : Int)
 ·have c2b0 : decide (at_ < (s.size : Int)) = true := decide_eq_true q4
  have e : noteB s at_ = bt s at_ := if_pos q4
  rw [e]
  clear e hp
  have hx4 := bt_at s at_
  replace p4 := eq_true p4
  replace q4 := eq_true q4
  go_enter Tryd.func72, Tryd.ntmps72
  go_wp2
  repeat (go_quiet (fail); try go_wp2)
  go_ret
  exact ⟨rfl, _, by first | rfl | exact World.drewN_drewN _ _ _⟩
 ·have c2b0 : decide (at_ < (s.size : Int)) = false := decide_eq_false q4
  have e : noteB s at_ = 0 := if_neg q4
  rw [e]
  clear e hp q4
  go_enter Tryd.func72, Tryd.ntmps72
  go_wp2
  repeat (go_quiet (fail); try go_wp2)
  go_ret
  exact ⟨rfl, _, by first | rfl | exact World.drewN_drewN _ _ _⟩
abbrev NoteR := Bool × Int × List Int
/-- What two patterns behind a bracket come to, over what one comes to. -/
def pairM (rd : Int → List Int → Option NoteR) (s : ByteArray) (x : Int) (o : List Int) : Option NoteR :=
 (rd x o).bind fun r => if r.1 = true then
  (if 0 ≤ r.2.1 ∧ r.2.1 ≤ 1000000 then
   (if noteB s r.2.1 = 38 ∨ noteB s r.2.1 = 124 then (rd (r.2.1 + 1) r.2.2).bind fun q => if q.1 = true then
     (if 0 ≤ q.2.1 ∧ q.2.1 ≤ 1000000 ∧ q.2.2.length ≤ 1000000 then
      (if noteB s q.2.1 = 41 then some (true, q.2.1 + 1, q.2.2 ++ [if noteB s r.2.1 = 38 then -2 else -3]) else some (false, q.2.1, q.2.2)) else none)
    else some (false, q.2.1, q.2.2)
   else some (false, r.2.1, r.2.2)) else none)
 else some (false, r.2.1, r.2.2)
/-- A call of read or pair at block g. -/
def NoteCalls (f : FuncId) (w0 : World) (g : Nat) (s : ByteArray) (x : Int) (o : List Int) (r : NoteR) : Prop := ∀ w, Note w0 w g s x o → Below w0.heap.size w0 w → w0.heap.size ≤ g →
 Calls Tryd.prog f #[.pointer (some ⟨g, 0, none⟩)] w fun e w' => e = .returned (.bool r.1) ∧ Note w0 w' g s r.2.1 r.2.2 ∧ Below w0.heap.size w0 w'
theorem wrap_small (x : Int) (h0 : 0 ≤ x) (h1 : x ≤ 1000000) : wrap64 (x + 1) = x + 1 := by unfold wrap64; omega
set_option maxHeartbeats 8000000 in
set_option maxRecDepth 100000 in
theorem note_pair (w0 : World) (g : Nat) (s : ByteArray) (rd : Int → List Int → Option NoteR) (hrd : ∀ x o r, rd x o = some r → NoteCalls 54 w0 g s x o r) (x : Int) (o : List Int) (r : NoteR) (h : pairM rd s x o = some r) : NoteCalls 73 w0 g s x o r := by
 intro w hN hB hg
 unfold pairM at h
 obtain ⟨⟨b1, x1, o1⟩, h1, h⟩ := QP.mp h
 have HC1 := QO (hrd _ _ _ h1)
 have HN := QO hN
 have HB := QO hB
 have HG := QO hg
 clear h1 hN hB hg
 simp only at h
 cases b1
 ·obtain rfl := Option.some.inj h
  clear hrd h
  go_enter Tryd.func73, Tryd.ntmps73
  go_wp2_with (fail)
  refine (HC1.out _ HN.out HB.out HG.out).mono ?_
  rintro e w1 ⟨rfl, hn1, hb1⟩
  have HN1 := QO hn1
  have HB1 := QO hb1
  clear hn1 hb1
  go_wp2
  go_ret
  exact ⟨rfl, HN1.out, HB1.out⟩
 rw [if_pos rfl] at h
 by_cases hx1 : 0 ≤ x1 ∧ x1 ≤ 1000000
 case neg => rw [if_neg hx1] at h; exact absurd h (by simp)
 rw [if_pos hx1] at h
 have hw1 : wrap64 (x1 + 1) = x1 + 1 := wrap_small x1 hx1.1 hx1.2
 by_cases hd : noteB s x1 = 38 ∨ noteB s x1 = 124
 case neg =>
  rw [if_neg hd] at h
  obtain rfl := Option.some.inj h
  have d1 : (noteB s x1 == 38) = false := beq_eq_false_iff_ne.mpr (fun e => hd (.inl e))
  have d2 : (noteB s x1 == 124) = false := beq_eq_false_iff_ne.mpr (fun e => hd (.inr e))
  have HX := QO hx1.1
  clear hrd h hd hx1 hw1
  go_enter Tryd.func73, Tryd.ntmps73
  go_wp2_with (fail)
  refine (HC1.out _ HN.out HB.out HG.out).mono ?_
  rintro e w1 ⟨rfl, hn1, hb1⟩
  have HN1 := QO hn1
  have HB1 := QO hb1
  clear hn1 hb1
  go_wp2_with (fail)
  refine (note_next g s x1 o1 w0 _ HN1.out HX.out).mono ?_
  rintro e w2 ⟨rfl, n2, rfl⟩
  go_wp2
  go_ret
  exact ⟨rfl, HN1.out.drewN _, QB HB1.out _⟩
 rw [if_pos hd] at h
 obtain ⟨⟨b2, x2, o2⟩, h2, h⟩ := QP.mp h
 have HC2 := QO (hrd _ _ _ h2)
 clear h2 hrd
 simp only at h
 have HX := QO hx1.1
 clear hx1
 -- what follows, for either sign
 have key : ∀ (d1 : Bool) (hd1 : (noteB s x1 == 38) = d1) (hd2 : d1 = false → (noteB s x1 == 124) = true), Calls Tryd.prog 73 #[.pointer (some ⟨g, 0, none⟩)] w fun e w' => e = .returned (.bool r.1) ∧ Note w0 w' g s r.2.1 r.2.2 ∧ Below w0.heap.size w0 w' := by
  intro d1 hd1 hd2
  have hsg : (if noteB s x1 = 38 then (-2 : Int) else -3) = if d1 then -2 else -3 := by
   cases d1
   ·rw [if_neg (beq_eq_false_iff_ne.mp hd1)]; rfl
   ·rw [if_pos (beq_iff_eq.mp hd1)]; rfl
  rw [hsg] at h
  clear hsg hd
  have HH := QO h
  clear h
  cases d1
  all_goals
   have hd3 := hd2
   try have hd3 := hd2 rfl
   clear hd2
   go_enter Tryd.func73, Tryd.ntmps73
   go_wp2_with (fail)
   refine (HC1.out _ HN.out HB.out HG.out).mono ?_
   rintro e w1 ⟨rfl, hn1, hb1⟩
   have HN1 := QO hn1
   have HB1 := QO hb1
   clear hn1 hb1
   go_wp2_with (fail)
   refine (note_next g s x1 o1 w0 _ HN1.out HX.out).mono ?_
   rintro e w2 ⟨rfl, n2, rfl⟩
   have HN2 := QO (HN1.out.drewN n2)
   have HB2 := QO (QB HB1.out n2)
   clear HN1 HB1
   generalize w1.drewN n2 = w2 at *
   obtain ⟨A, c, hb, hr⟩ := HN2.out
   obtain ⟨hc0, hc1, hc2⟩ := note_cell hb
   have hf1 := QE hb 1
   clear hb hr
   go_wp2_with (fail)
   rw [hw1]
   have HN3 := QO ((HN2.out.drewN 0).set1 (x1 + 1))
   have HB3 := QO (QF (QB HB2.out 0) HG.out (j := 1) (v := .int .i64 (x1 + 1)))
   clear hc0 hc1 hc2 hf1
   refine (HC2.out _ HN3.out HB3.out HG.out).mono ?_
   rintro e w4 ⟨rfl, hn4, hb4⟩
   have HN4 := QO hn4
   have HB4 := QO hb4
   clear hn4 hb4 HC1 HC2 HN HB HN2 HB2 HN3 HB3
   have h := HH.out
   clear HH
   cases b2
   ·obtain rfl := Option.some.inj h
    clear h
    go_wp2
    go_ret
    exact ⟨rfl, HN4.out.drewN 0, QB HB4.out 0⟩
   rw [if_pos rfl] at h
   by_cases hx2 : 0 ≤ x2 ∧ x2 ≤ 1000000 ∧ o2.length ≤ 1000000
   case neg => rw [if_neg hx2] at h; exact absurd h (by simp)
   rw [if_pos hx2] at h
   have hw2 : wrap64 (x2 + 1) = x2 + 1 := wrap_small x2 hx2.1 hx2.2.1
   have HX2 := QO hx2.1
   have HL2 := QO hx2.2.2
   clear hx2
   by_cases hq : noteB s x2 = 41
   case neg =>
    rw [if_neg hq] at h
    obtain rfl := Option.some.inj h
    have q1 : (noteB s x2 != 41) = true := bne_iff_ne.mpr hq
    have q2 : (noteB s x2 == 41) = false := beq_eq_false_iff_ne.mpr hq
    clear h hq
    go_wp2_with (fail)
    refine (note_next g s x2 o2 w0 _ HN4.out HX2.out).mono ?_
    rintro e w5 ⟨rfl, n5, rfl⟩
    go_wp2
    go_ret
    exact ⟨rfl, HN4.out.drewN _, QB HB4.out _⟩
   rw [if_pos hq] at h
   obtain rfl := Option.some.inj h
   have q1 : (noteB s x2 != 41) = false := bne_eq_false_iff_eq.mpr hq
   have q2 : (noteB s x2 == 41) = true := beq_iff_eq.mpr hq
   clear h hq
   go_wp2_with (fail)
   refine (note_next g s x2 o2 w0 _ HN4.out HX2.out).mono ?_
   rintro e w5 ⟨rfl, n5, rfl⟩
   have HN5 := QO (HN4.out.drewN n5)
   have HB5 := QO (QB HB4.out n5)
   clear HN4 HB4
   generalize w4.drewN n5 = w5 at *
   obtain ⟨A5, c5, hb5, hr5⟩ := HN5.out
   obtain ⟨hc50, hc51, hc52⟩ := note_cell hb5
   have hf51 := QE hb5 1
   have HB6 := QO (by simpa using blk_set hb5 1 (.int .i64 (x2 + 1)) : (w5.setCell ⟨g, 1, none⟩ (.int .i64 (x2 + 1))).heap[g]? = some (.cells #[.string s, .int .i64 (x2 + 1), .slice A5 o2.length c5] 72 (0, 0)))
   have HR6 := QO (Kd.R_far (p := ⟨g, 1, none⟩) hr5 (fun k hk => hk) (.int .i64 (x2 + 1)))
   have HW6 := QO (QF (j := 1) (v := .int .i64 (x2 + 1)) HB5.out HG.out)
   clear hb5 hr5
   go_wp2_with (first | ((with_reducible refine gate_builtin (b := .append) (xs := #[.tmp 39, .tmp 41]) rfl ?_); at_builtin; refine Kd.R_append (Kd.int .i64) (w0 := w0) w0.heap.size rfl (.tmp 39) (.tmp 41) 24 3 (.int .i64 0) 8 rfl Tryd.underlying24 info3 rfl (by decide) (by omega) (.slice A5 o2.length c5) o2 (-2) [.int .i64 (-2)] (fun k => k ≠ g) (fun _ => False) rfl (by first | rfl | exact congrArg (fun n => Value.slice (some ⟨n, 0, none⟩) 1 1) (World.size_setCell _ _ _).symm) ?aP (fun _ hk => hk.elim) ?aF ?aO ?aB ?aS ?aL ?_; (case aP => exact rfl); (case aB => exact HW6.out); (case aF => exact Kd.freshB HB6.out); (case aO => exact HR6.out); (case aS => exact QJ HW6.out); (case aL => have := HL2.out; omega); intro v7 w7 ho hb hg hat; obtain ⟨A7, c7, rfl⟩ := Kd.R_slice ho; have hb7 := blk_grown HB6.out hg (fun e => HR6.out.1 g e.symm rfl); have hc72 := (note_cell hb7).2.2; have hf72 := QE hb7 2; have HN7 := QO (Note.set2 (w0 := w0) HB6.out hg HR6.out.1 ho); have HB7 := QO (fun v : Value => QF (j := 2) (v := v) hb HG.out); clear hb7 hb hg hat ho HB6 HR6 HW6 HB5 HN5 hc50 hc51 hc52 hf51) | ((with_reducible refine gate_builtin (b := .append) (xs := #[.tmp 39, .tmp 41]) rfl ?_); at_builtin; refine Kd.R_append (Kd.int .i64) (w0 := w0) w0.heap.size rfl (.tmp 39) (.tmp 41) 24 3 (.int .i64 0) 8 rfl Tryd.underlying24 info3 rfl (by decide) (by omega) (.slice A5 o2.length c5) o2 (-3) [.int .i64 (-3)] (fun k => k ≠ g) (fun _ => False) rfl (by first | rfl | exact congrArg (fun n => Value.slice (some ⟨n, 0, none⟩) 1 1) (World.size_setCell _ _ _).symm) ?aP (fun _ hk => hk.elim) ?aF ?aO ?aB ?aS ?aL ?_; (case aP => exact rfl); (case aB => exact HW6.out); (case aF => exact Kd.freshB HB6.out); (case aO => exact HR6.out); (case aS => exact QJ HW6.out); (case aL => have := HL2.out; omega); intro v7 w7 ho hb hg hat; obtain ⟨A7, c7, rfl⟩ := Kd.R_slice ho; have hb7 := blk_grown HB6.out hg (fun e => HR6.out.1 g e.symm rfl); have hc72 := (note_cell hb7).2.2; have hf72 := QE hb7 2; have HN7 := QO (Note.set2 (w0 := w0) HB6.out hg HR6.out.1 ho); have HB7 := QO (fun v : Value => QF (j := 2) (v := v) hb HG.out); clear hb7 hb hg hat ho HB6 HR6 HW6 HB5 HN5 hc50 hc51 hc52 hf51))
   go_ret
   exact ⟨rfl, by simpa only [List.length_append, List.length_cons, List.length_nil, Nat.zero_add] using HN7.out, HB7.out _⟩
 by_cases hd1 : noteB s x1 = 38
 ·exact key true (beq_iff_eq.mpr hd1) (fun e => by cases e)
 ·exact key false (beq_eq_false_iff_ne.mpr hd1) (fun _ => beq_iff_eq.mpr (hd.resolve_left hd1))
/-- The place of a byte among the letters of the suits, of the ranks. -/
def suitI (b : Int) : Int := Go.Lib.indexByte [99, 100, 104, 115] b.toNat.toUInt8
def rankI (b : Int) : Int := Go.Lib.indexByte [50, 51, 52, 53, 54, 55, 56, 57, 84, 74, 81, 75, 65] b.toNat.toUInt8
/-- What a pattern comes to: whether there is one, the place behind it, the signs. -/
def readM : Nat → ByteArray → Int → List Int → Option NoteR
 | 0, _, _, _ => none
 | k + 1, s, x, o => if 0 ≤ x ∧ x ≤ 1000 ∧ o.length ≤ 1000000 then
   (if noteB s x = 0 then some (false, x + 1, o)
   else if noteB s x = 33 then (readM k s (x + 1) o).bind fun r => if r.1 = true then (if r.2.2.length ≤ 1000000 then some (true, r.2.1, r.2.2 ++ [-1]) else none) else some (false, r.2.1, r.2.2)
   else if noteB s x = 40 then pairM (readM k s) s (x + 1) o
   else if noteB s x = 114 then some (true, x + 1, o ++ [400])
   else if 0 ≤ suitI (noteB s x) then some (true, x + 1, o ++ [wrap64 (100 + suitI (noteB s x))])
   else if rankI (noteB s x) < 0 then some (false, x + 1, o)
   else if noteB s (x + 1) = 43 then some (true, x + 1 + 1, o ++ [wrap64 (300 + rankI (noteB s x))])
   else some (true, x + 1, o ++ [wrap64 (200 + rankI (noteB s x))])) else none
theorem suit_at (b : Int) (w : World) : Calls Tryd.prog 74 #[.string ⟨#[99, 100, 104, 115]⟩, .int .u8 b] w fun e w' => e = .returned (.int .i64 (suitI b)) ∧ w' = w := Go.Proofs.Tryd.strings_IndexByte _ b w
theorem rank_at (b : Int) (w : World) : Calls Tryd.prog 74 #[.string ⟨#[50, 51, 52, 53, 54, 55, 56, 57, 84, 74, 81, 75, 65]⟩, .int .u8 b] w fun e w' => e = .returned (.int .i64 (rankI b)) ∧ w' = w := Go.Proofs.Tryd.strings_IndexByte _ b w
set_option maxHeartbeats 8000000 in
set_option maxRecDepth 100000 in
theorem note_read (w0 : World) (g : Nat) (s : ByteArray) : ∀ (k : Nat) (x : Int) (o : List Int) (r : NoteR), readM k s x o = some r → NoteCalls 54 w0 g s x o r := by
 intro k
 induction k with
 | zero => intro x o r h; exact absurd h (by simp [readM])
 | succ k ih =>
  intro x o r h w hN hB hg
  unfold readM at h
  by_cases hx : 0 ≤ x ∧ x ≤ 1000 ∧ o.length ≤ 1000000
  case neg => rw [if_neg hx] at h; exact absurd h (by simp)
  rw [if_pos hx] at h
  have hw1 : wrap64 (x + 1) = x + 1 := wrap_small x hx.1 (by omega)
  have hw2 : wrap64 (x + 1 + 1) = x + 1 + 1 := wrap_small (x + 1) (by omega) (by omega)
  have HX := QO hx.1
  have HX1 : Aside0 (0 ≤ x + 1) := ⟨by omega⟩
  have HL := QO hx.2.2
  have HN := QO hN
  have HB := QO hB
  have HG := QO hg
  have IH := QO ih
  clear hN hB hg hx ih
  by_cases e0 : noteB s x = 0
  ·rw [if_pos e0] at h
   obtain rfl := Option.some.inj h
   have b0 : (noteB s x == 0) = true := beq_iff_eq.mpr e0
   clear h IH e0
   go_enter Tryd.func54, Tryd.ntmps54
   go_wp2_with (fail)
   refine (note_next g s x o w0 _ HN.out HX.out).mono ?_
   rintro e w1 ⟨rfl, n1, rfl⟩
   have HN1 := QO (HN.out.drewN n1)
   have HB1 := QO (QB HB.out n1)
   clear HN HB
   generalize w.drewN n1 = w1 at *
   obtain ⟨A, c, hb, hr⟩ := HN1.out
   obtain ⟨hc0, hc1, hc2⟩ := note_cell hb
   have hf1 := QE hb 1
   have hf2 := QE hb 2
   have HN2 := QO (HN1.out.set1 (x + 1))
   have HB2 := QO (QF (j := 1) (v := .int .i64 (x + 1)) HB1.out HG.out)
   have HB6 := QO (by simpa using blk_set hb 1 (.int .i64 (x + 1)) : (w1.setCell ⟨g, 1, none⟩ (.int .i64 (x + 1))).heap[g]? = some (.cells #[.string s, .int .i64 (x + 1), .slice A o.length c] 72 (0, 0)))
   have HR6 := QO (Kd.R_far (p := ⟨g, 1, none⟩) hr (fun k hk => hk) (.int .i64 (x + 1)))
   have HW6 := HB2
   have HL6 := HL
   clear hb hr HN1 HB1
   go_wp2
   go_ret
   exact ⟨rfl, HN2.out, HB2.out⟩
  rw [if_neg e0] at h
  by_cases e33 : noteB s x = 33
  ·rw [if_pos e33] at h
   obtain ⟨⟨b1, x1, o1⟩, h1, h⟩ := QP.mp h
   have HC := QO (IH.out _ _ _ h1)
   simp only at h
   have b0 : (noteB s x == 0) = false := beq_eq_false_iff_ne.mpr e0
   have b33 : (noteB s x == 33) = true := beq_iff_eq.mpr e33
   clear h1 IH e0 e33
   cases b1
   ·obtain rfl := Option.some.inj h
    clear h
    go_enter Tryd.func54, Tryd.ntmps54
    go_wp2_with (fail)
    refine (note_next g s x o w0 _ HN.out HX.out).mono ?_
    rintro e w1 ⟨rfl, n1, rfl⟩
    have HN1 := QO (HN.out.drewN n1)
    have HB1 := QO (QB HB.out n1)
    clear HN HB
    generalize w.drewN n1 = w1 at *
    obtain ⟨A, c, hb, hr⟩ := HN1.out
    obtain ⟨hc0, hc1, hc2⟩ := note_cell hb
    have hf1 := QE hb 1
    have hf2 := QE hb 2
    have HN2 := QO (HN1.out.set1 (x + 1))
    have HB2 := QO (QF (j := 1) (v := .int .i64 (x + 1)) HB1.out HG.out)
    have HB6 := QO (by simpa using blk_set hb 1 (.int .i64 (x + 1)) : (w1.setCell ⟨g, 1, none⟩ (.int .i64 (x + 1))).heap[g]? = some (.cells #[.string s, .int .i64 (x + 1), .slice A o.length c] 72 (0, 0)))
    have HR6 := QO (Kd.R_far (p := ⟨g, 1, none⟩) hr (fun k hk => hk) (.int .i64 (x + 1)))
    have HW6 := HB2
    have HL6 := HL
    clear hb hr HN1 HB1
    go_wp2_with (fail)
    refine (HC.out _ HN2.out HB2.out HG.out).mono ?_
    rintro e w3 ⟨rfl, hn3, hb3⟩
    have HN3 := QO hn3
    have HB3 := QO hb3
    clear hn3 hb3
    go_wp2
    go_ret
    exact ⟨rfl, HN3.out, HB3.out⟩
   rw [if_pos rfl] at h
   by_cases hl : o1.length ≤ 1000000
   case neg => rw [if_neg hl] at h; exact absurd h (by simp)
   rw [if_pos hl] at h
   obtain rfl := Option.some.inj h
   clear h
   go_enter Tryd.func54, Tryd.ntmps54
   go_wp2_with (fail)
   refine (note_next g s x o w0 _ HN.out HX.out).mono ?_
   rintro e w1 ⟨rfl, n1, rfl⟩
   have HN1 := QO (HN.out.drewN n1)
   have HB1 := QO (QB HB.out n1)
   clear HN HB
   generalize w.drewN n1 = w1 at *
   obtain ⟨A, c, hb, hr⟩ := HN1.out
   obtain ⟨hc0, hc1, hc2⟩ := note_cell hb
   have hf1 := QE hb 1
   have hf2 := QE hb 2
   have HN2 := QO (HN1.out.set1 (x + 1))
   have HB2 := QO (QF (j := 1) (v := .int .i64 (x + 1)) HB1.out HG.out)
   have HB6 := QO (by simpa using blk_set hb 1 (.int .i64 (x + 1)) : (w1.setCell ⟨g, 1, none⟩ (.int .i64 (x + 1))).heap[g]? = some (.cells #[.string s, .int .i64 (x + 1), .slice A o.length c] 72 (0, 0)))
   have HR6 := QO (Kd.R_far (p := ⟨g, 1, none⟩) hr (fun k hk => hk) (.int .i64 (x + 1)))
   have HW6 := HB2
   have HL6 := HL
   clear hb hr HN1 HB1
   go_wp2_with (fail)
   refine (HC.out _ HN2.out HB2.out HG.out).mono ?_
   rintro e w3 ⟨rfl, hn3, hb3⟩
   clear HB6 HR6 HW6 HL6 HN2 HB2 hc0 hc1 hc2 hf1 hf2 HC
   have HW6 := QO hb3
   obtain ⟨A3, c3, hb3c, hr3⟩ := hn3
   have hc32 := (note_cell hb3c).2.2
   have HB6 := QO hb3c
   have HR6 := QO hr3
   have HL6 := QO hl
   clear hb3 hb3c hr3 hl
   go_wp2_with (first | ((with_reducible refine gate_builtin (b := .append) (xs := #[.tmp 28, .tmp 29]) rfl ?_); at_builtin; refine Kd.R_append (Kd.int .i64) (w0 := w0) w0.heap.size rfl (.tmp 28) (.tmp 29) 24 3 (.int .i64 0) 8 rfl Tryd.underlying24 info3 rfl (by decide) (by omega) (.slice A3 o1.length c3) o1 (-1) [.int .i64 (-1)] (fun k => k ≠ g) (fun _ => False) rfl (by first | rfl | exact congrArg (fun n => Value.slice (some ⟨n, 0, none⟩) 1 1) (World.size_setCell _ _ _).symm) ?aP (fun _ hk => hk.elim) ?aF ?aO ?aB ?aS ?aL ?_; (case aP => exact rfl); (case aB => exact HW6.out); (case aF => exact Kd.freshB HB6.out); (case aO => exact HR6.out); (case aS => exact QJ HW6.out); (case aL => have := HL6.out; omega); intro v7 w7 ho hb hg hat; obtain ⟨A7, c7, rfl⟩ := Kd.R_slice ho; have hb7 := blk_grown HB6.out hg (fun e => HR6.out.1 g e.symm rfl); have hc72 := (note_cell hb7).2.2; have hf72 := QE hb7 2; have HN7 := QO (Note.set2 (w0 := w0) HB6.out hg HR6.out.1 ho); have HB7 := QO (fun v : Value => QF (j := 2) (v := v) hb HG.out); clear hb7 hb hg hat ho HB6 HR6 HW6))
   go_ret
   exact ⟨rfl, by simpa only [List.length_append, List.length_cons, List.length_nil, Nat.zero_add] using HN7.out, HB7.out _⟩
  rw [if_neg e33] at h
  by_cases e40 : noteB s x = 40
  ·rw [if_pos e40] at h
   have HC := QO (note_pair w0 g s (readM k s) IH.out _ _ _ h)
   have b0 : (noteB s x == 0) = false := beq_eq_false_iff_ne.mpr e0
   have b33 : (noteB s x == 33) = false := beq_eq_false_iff_ne.mpr e33
   have b40 : (noteB s x == 40) = true := beq_iff_eq.mpr e40
   clear h IH e0 e33 e40
   go_enter Tryd.func54, Tryd.ntmps54
   go_wp2_with (fail)
   refine (note_next g s x o w0 _ HN.out HX.out).mono ?_
   rintro e w1 ⟨rfl, n1, rfl⟩
   have HN1 := QO (HN.out.drewN n1)
   have HB1 := QO (QB HB.out n1)
   clear HN HB
   generalize w.drewN n1 = w1 at *
   obtain ⟨A, c, hb, hr⟩ := HN1.out
   obtain ⟨hc0, hc1, hc2⟩ := note_cell hb
   have hf1 := QE hb 1
   have hf2 := QE hb 2
   have HN2 := QO (HN1.out.set1 (x + 1))
   have HB2 := QO (QF (j := 1) (v := .int .i64 (x + 1)) HB1.out HG.out)
   have HB6 := QO (by simpa using blk_set hb 1 (.int .i64 (x + 1)) : (w1.setCell ⟨g, 1, none⟩ (.int .i64 (x + 1))).heap[g]? = some (.cells #[.string s, .int .i64 (x + 1), .slice A o.length c] 72 (0, 0)))
   have HR6 := QO (Kd.R_far (p := ⟨g, 1, none⟩) hr (fun k hk => hk) (.int .i64 (x + 1)))
   have HW6 := HB2
   have HL6 := HL
   clear hb hr HN1 HB1
   go_wp2_with (fail)
   refine (HC.out _ HN2.out HB2.out HG.out).mono ?_
   rintro e w3 ⟨rfl, hn3, hb3⟩
   have HN3 := QO hn3
   have HB3 := QO hb3
   clear hn3 hb3
   go_wp2
   go_ret
   exact ⟨rfl, HN3.out, HB3.out⟩
  rw [if_neg e40] at h
  clear IH
  by_cases e114 : noteB s x = 114
  ·rw [if_pos e114] at h
   obtain rfl := Option.some.inj h
   have b0 : (noteB s x == 0) = false := beq_eq_false_iff_ne.mpr e0
   have b33 : (noteB s x == 33) = false := beq_eq_false_iff_ne.mpr e33
   have b40 : (noteB s x == 40) = false := beq_eq_false_iff_ne.mpr e40
   have b114 : (noteB s x == 114) = true := beq_iff_eq.mpr e114
   clear h e0 e33 e40 e114
   go_enter Tryd.func54, Tryd.ntmps54
   go_wp2_with (fail)
   refine (note_next g s x o w0 _ HN.out HX.out).mono ?_
   rintro e w1 ⟨rfl, n1, rfl⟩
   have HN1 := QO (HN.out.drewN n1)
   have HB1 := QO (QB HB.out n1)
   clear HN HB
   generalize w.drewN n1 = w1 at *
   obtain ⟨A, c, hb, hr⟩ := HN1.out
   obtain ⟨hc0, hc1, hc2⟩ := note_cell hb
   have hf1 := QE hb 1
   have hf2 := QE hb 2
   have HN2 := QO (HN1.out.set1 (x + 1))
   have HB2 := QO (QF (j := 1) (v := .int .i64 (x + 1)) HB1.out HG.out)
   have HB6 := QO (by simpa using blk_set hb 1 (.int .i64 (x + 1)) : (w1.setCell ⟨g, 1, none⟩ (.int .i64 (x + 1))).heap[g]? = some (.cells #[.string s, .int .i64 (x + 1), .slice A o.length c] 72 (0, 0)))
   have HR6 := QO (Kd.R_far (p := ⟨g, 1, none⟩) hr (fun k hk => hk) (.int .i64 (x + 1)))
   have HW6 := HB2
   have HL6 := HL
   clear hb hr HN1 HB1
   go_wp2_with (first | ((with_reducible refine gate_builtin (b := .append) (xs := #[.tmp 45, .tmp 46]) rfl ?_); at_builtin; refine Kd.R_append (Kd.int .i64) (w0 := w0) w0.heap.size rfl (.tmp 45) (.tmp 46) 24 3 (.int .i64 0) 8 rfl Tryd.underlying24 info3 rfl (by decide) (by omega) (.slice A o.length c) o (400) [.int .i64 (400)] (fun k => k ≠ g) (fun _ => False) rfl (by first | rfl | exact congrArg (fun n => Value.slice (some ⟨n, 0, none⟩) 1 1) (World.size_setCell _ _ _).symm) ?aP (fun _ hk => hk.elim) ?aF ?aO ?aB ?aS ?aL ?_; (case aP => exact rfl); (case aB => exact HW6.out); (case aF => exact Kd.freshB HB6.out); (case aO => exact HR6.out); (case aS => exact QJ HW6.out); (case aL => have := HL6.out; omega); intro v7 w7 ho hb hg hat; obtain ⟨A7, c7, rfl⟩ := Kd.R_slice ho; have hb7 := blk_grown HB6.out hg (fun e => HR6.out.1 g e.symm rfl); have hc72 := (note_cell hb7).2.2; have hf72 := QE hb7 2; have HN7 := QO (Note.set2 (w0 := w0) HB6.out hg HR6.out.1 ho); have HB7 := QO (fun v : Value => QF (j := 2) (v := v) hb HG.out); clear hb7 hb hg hat ho HB6 HR6 HW6))
   go_ret
   exact ⟨rfl, by simpa only [List.length_append, List.length_cons, List.length_nil, Nat.zero_add] using HN7.out, HB7.out _⟩
  rw [if_neg e114] at h
  have b0 : (noteB s x == 0) = false := beq_eq_false_iff_ne.mpr e0
  have b33 : (noteB s x == 33) = false := beq_eq_false_iff_ne.mpr e33
  have b40 : (noteB s x == 40) = false := beq_eq_false_iff_ne.mpr e40
  have b114 : (noteB s x == 114) = false := beq_eq_false_iff_ne.mpr e114
  clear e0 e33 e40 e114
  by_cases es : 0 ≤ suitI (noteB s x)
  ·rw [if_pos es] at h
   obtain rfl := Option.some.inj h
   have es1 : decide (0 ≤ suitI (noteB s x)) = true := decide_eq_true es
   clear h es
   go_enter Tryd.func54, Tryd.ntmps54
   go_wp2_with (fail)
   refine (note_next g s x o w0 _ HN.out HX.out).mono ?_
   rintro e w1 ⟨rfl, n1, rfl⟩
   have HN1 := QO (HN.out.drewN n1)
   have HB1 := QO (QB HB.out n1)
   clear HN HB
   generalize w.drewN n1 = w1 at *
   obtain ⟨A, c, hb, hr⟩ := HN1.out
   obtain ⟨hc0, hc1, hc2⟩ := note_cell hb
   have hf1 := QE hb 1
   have hf2 := QE hb 2
   have HN2 := QO (HN1.out.set1 (x + 1))
   have HB2 := QO (QF (j := 1) (v := .int .i64 (x + 1)) HB1.out HG.out)
   have HB6 := QO (by simpa using blk_set hb 1 (.int .i64 (x + 1)) : (w1.setCell ⟨g, 1, none⟩ (.int .i64 (x + 1))).heap[g]? = some (.cells #[.string s, .int .i64 (x + 1), .slice A o.length c] 72 (0, 0)))
   have HR6 := QO (Kd.R_far (p := ⟨g, 1, none⟩) hr (fun k hk => hk) (.int .i64 (x + 1)))
   have HW6 := HB2
   have HL6 := HL
   clear hb hr HN1 HB1
   go_wp2_with (fail)
   refine (suit_at (noteB s x) _).mono ?_
   rintro e w2 ⟨rfl, rfl⟩
   go_wp2_with (first | ((with_reducible refine gate_builtin (b := .append) (xs := #[.tmp 58, .tmp 61]) rfl ?_); at_builtin; refine Kd.R_append (Kd.int .i64) (w0 := w0) w0.heap.size rfl (.tmp 58) (.tmp 61) 24 3 (.int .i64 0) 8 rfl Tryd.underlying24 info3 rfl (by decide) (by omega) (.slice A o.length c) o (wrap64 (100 + suitI (noteB s x))) [.int .i64 (wrap64 (100 + suitI (noteB s x)))] (fun k => k ≠ g) (fun _ => False) rfl (by first | rfl | exact congrArg (fun n => Value.slice (some ⟨n, 0, none⟩) 1 1) (World.size_setCell _ _ _).symm) ?aP (fun _ hk => hk.elim) ?aF ?aO ?aB ?aS ?aL ?_; (case aP => exact rfl); (case aB => exact HW6.out); (case aF => exact Kd.freshB HB6.out); (case aO => exact HR6.out); (case aS => exact QJ HW6.out); (case aL => have := HL6.out; omega); intro v7 w7 ho hb hg hat; obtain ⟨A7, c7, rfl⟩ := Kd.R_slice ho; have hb7 := blk_grown HB6.out hg (fun e => HR6.out.1 g e.symm rfl); have hc72 := (note_cell hb7).2.2; have hf72 := QE hb7 2; have HN7 := QO (Note.set2 (w0 := w0) HB6.out hg HR6.out.1 ho); have HB7 := QO (fun v : Value => QF (j := 2) (v := v) hb HG.out); clear hb7 hb hg hat ho HB6 HR6 HW6))
   go_ret
   exact ⟨rfl, by simpa only [List.length_append, List.length_cons, List.length_nil, Nat.zero_add] using HN7.out, HB7.out _⟩
  rw [if_neg es] at h
  have es1 : decide (0 ≤ suitI (noteB s x)) = false := decide_eq_false es
  clear es
  by_cases er : rankI (noteB s x) < 0
  ·rw [if_pos er] at h
   obtain rfl := Option.some.inj h
   have er1 : decide (rankI (noteB s x) < 0) = true := decide_eq_true er
   clear h er
   go_enter Tryd.func54, Tryd.ntmps54
   go_wp2_with (fail)
   refine (note_next g s x o w0 _ HN.out HX.out).mono ?_
   rintro e w1 ⟨rfl, n1, rfl⟩
   have HN1 := QO (HN.out.drewN n1)
   have HB1 := QO (QB HB.out n1)
   clear HN HB
   generalize w.drewN n1 = w1 at *
   obtain ⟨A, c, hb, hr⟩ := HN1.out
   obtain ⟨hc0, hc1, hc2⟩ := note_cell hb
   have hf1 := QE hb 1
   have hf2 := QE hb 2
   have HN2 := QO (HN1.out.set1 (x + 1))
   have HB2 := QO (QF (j := 1) (v := .int .i64 (x + 1)) HB1.out HG.out)
   have HB6 := QO (by simpa using blk_set hb 1 (.int .i64 (x + 1)) : (w1.setCell ⟨g, 1, none⟩ (.int .i64 (x + 1))).heap[g]? = some (.cells #[.string s, .int .i64 (x + 1), .slice A o.length c] 72 (0, 0)))
   have HR6 := QO (Kd.R_far (p := ⟨g, 1, none⟩) hr (fun k hk => hk) (.int .i64 (x + 1)))
   have HW6 := HB2
   have HL6 := HL
   clear hb hr HN1 HB1
   go_wp2_with (fail)
   refine (suit_at (noteB s x) _).mono ?_
   rintro e w2 ⟨rfl, rfl⟩
   go_wp2_with (fail)
   refine (rank_at (noteB s x) _).mono ?_
   rintro e w2 ⟨rfl, rfl⟩
   go_wp2
   go_ret
   exact ⟨rfl, HN2.out, HB2.out⟩
  rw [if_neg er] at h
  have er1 : decide (rankI (noteB s x) < 0) = false := decide_eq_false er
  clear er
  by_cases ep : noteB s (x + 1) = 43
  ·rw [if_pos ep] at h
   obtain rfl := Option.some.inj h
   have ep1 : (noteB s (x + 1) == 43) = true := beq_iff_eq.mpr ep
   clear h ep
   go_enter Tryd.func54, Tryd.ntmps54
   go_wp2_with (fail)
   refine (note_next g s x o w0 _ HN.out HX.out).mono ?_
   rintro e w1 ⟨rfl, n1, rfl⟩
   have HN1 := QO (HN.out.drewN n1)
   have HB1 := QO (QB HB.out n1)
   clear HN HB
   generalize w.drewN n1 = w1 at *
   obtain ⟨A, c, hb, hr⟩ := HN1.out
   obtain ⟨hc0, hc1, hc2⟩ := note_cell hb
   have hf1 := QE hb 1
   have hf2 := QE hb 2
   have HN2 := QO (HN1.out.set1 (x + 1))
   have HB2 := QO (QF (j := 1) (v := .int .i64 (x + 1)) HB1.out HG.out)
   have HB6 := QO (by simpa using blk_set hb 1 (.int .i64 (x + 1)) : (w1.setCell ⟨g, 1, none⟩ (.int .i64 (x + 1))).heap[g]? = some (.cells #[.string s, .int .i64 (x + 1), .slice A o.length c] 72 (0, 0)))
   have HR6 := QO (Kd.R_far (p := ⟨g, 1, none⟩) hr (fun k hk => hk) (.int .i64 (x + 1)))
   have HW6 := HB2
   have HL6 := HL
   clear hb hr HN1 HB1
   go_wp2_with (fail)
   refine (suit_at (noteB s x) _).mono ?_
   rintro e w2 ⟨rfl, rfl⟩
   go_wp2_with (fail)
   refine (rank_at (noteB s x) _).mono ?_
   rintro e w2 ⟨rfl, rfl⟩
   go_wp2_with (fail)
   refine (note_next g s (x + 1) o w0 _ HN2.out HX1.out).mono ?_
   rintro e w3 ⟨rfl, n3, rfl⟩
   have HN3 := QO (HN2.out.drewN n3)
   have HB3 := QO (QB HB2.out n3)
   clear HB6 HR6 HW6 HN2 HB2 hc0 hc1 hc2 hf1 hf2
   generalize (w1.setCell _ _).drewN n3 = w3 at *
   obtain ⟨A3, c3, hb3, hr3⟩ := HN3.out
   obtain ⟨hc30, hc31, hc32⟩ := note_cell hb3
   have hf31 := QE hb3 1
   have hf32 := QE hb3 2
   have HB6 := QO (by simpa using blk_set hb3 1 (.int .i64 (x + 1 + 1)) : (w3.setCell ⟨g, 1, none⟩ (.int .i64 (x + 1 + 1))).heap[g]? = some (.cells #[.string s, .int .i64 (x + 1 + 1), .slice A3 o.length c3] 72 (0, 0)))
   have HR6 := QO (Kd.R_far (p := ⟨g, 1, none⟩) hr3 (fun k hk => hk) (.int .i64 (x + 1 + 1)))
   have HW6 := QO (QF (j := 1) (v := .int .i64 (x + 1 + 1)) HB3.out HG.out)
   clear hb3 hr3 HN3 HB3
   go_wp2_with (first | ((with_reducible refine gate_builtin (b := .append) (xs := #[.tmp 83, .tmp 86]) rfl ?_); at_builtin; refine Kd.R_append (Kd.int .i64) (w0 := w0) w0.heap.size rfl (.tmp 83) (.tmp 86) 24 3 (.int .i64 0) 8 rfl Tryd.underlying24 info3 rfl (by decide) (by omega) (.slice A3 o.length c3) o (wrap64 (300 + rankI (noteB s x))) [.int .i64 (wrap64 (300 + rankI (noteB s x)))] (fun k => k ≠ g) (fun _ => False) rfl (by first | rfl | exact congrArg (fun n => Value.slice (some ⟨n, 0, none⟩) 1 1) (World.size_setCell _ _ _).symm) ?aP (fun _ hk => hk.elim) ?aF ?aO ?aB ?aS ?aL ?_; (case aP => exact rfl); (case aB => exact HW6.out); (case aF => exact Kd.freshB HB6.out); (case aO => exact HR6.out); (case aS => exact QJ HW6.out); (case aL => have := HL6.out; omega); intro v7 w7 ho hb hg hat; obtain ⟨A7, c7, rfl⟩ := Kd.R_slice ho; have hb7 := blk_grown HB6.out hg (fun e => HR6.out.1 g e.symm rfl); have hc72 := (note_cell hb7).2.2; have hf72 := QE hb7 2; have HN7 := QO (Note.set2 (w0 := w0) HB6.out hg HR6.out.1 ho); have HB7 := QO (fun v : Value => QF (j := 2) (v := v) hb HG.out); clear hb7 hb hg hat ho HB6 HR6 HW6))
   go_ret
   exact ⟨rfl, by simpa only [List.length_append, List.length_cons, List.length_nil, Nat.zero_add] using HN7.out, HB7.out _⟩
  ·rw [if_neg ep] at h
   obtain rfl := Option.some.inj h
   have ep1 : (noteB s (x + 1) == 43) = false := beq_eq_false_iff_ne.mpr ep
   clear h ep
   go_enter Tryd.func54, Tryd.ntmps54
   go_wp2_with (fail)
   refine (note_next g s x o w0 _ HN.out HX.out).mono ?_
   rintro e w1 ⟨rfl, n1, rfl⟩
   have HN1 := QO (HN.out.drewN n1)
   have HB1 := QO (QB HB.out n1)
   clear HN HB
   generalize w.drewN n1 = w1 at *
   obtain ⟨A, c, hb, hr⟩ := HN1.out
   obtain ⟨hc0, hc1, hc2⟩ := note_cell hb
   have hf1 := QE hb 1
   have hf2 := QE hb 2
   have HN2 := QO (HN1.out.set1 (x + 1))
   have HB2 := QO (QF (j := 1) (v := .int .i64 (x + 1)) HB1.out HG.out)
   have HB6 := QO (by simpa using blk_set hb 1 (.int .i64 (x + 1)) : (w1.setCell ⟨g, 1, none⟩ (.int .i64 (x + 1))).heap[g]? = some (.cells #[.string s, .int .i64 (x + 1), .slice A o.length c] 72 (0, 0)))
   have HR6 := QO (Kd.R_far (p := ⟨g, 1, none⟩) hr (fun k hk => hk) (.int .i64 (x + 1)))
   have HW6 := HB2
   have HL6 := HL
   clear hb hr HN1 HB1
   go_wp2_with (fail)
   refine (suit_at (noteB s x) _).mono ?_
   rintro e w2 ⟨rfl, rfl⟩
   go_wp2_with (fail)
   refine (rank_at (noteB s x) _).mono ?_
   rintro e w2 ⟨rfl, rfl⟩
   go_wp2_with (fail)
   refine (note_next g s (x + 1) o w0 _ HN2.out HX1.out).mono ?_
   rintro e w3 ⟨rfl, n3, rfl⟩
   have HN3 := QO (HN2.out.drewN n3)
   have HB3 := QO (QB HB2.out n3)
   clear HB6 HR6 HW6 HN2 HB2 hc0 hc1 hc2 hf1 hf2
   generalize (w1.setCell _ _).drewN n3 = w3 at *
   obtain ⟨A3, c3, hb3, hr3⟩ := HN3.out
   obtain ⟨hc30, hc31, hc32⟩ := note_cell hb3
   have hf31 := QE hb3 1
   have hf32 := QE hb3 2
   have HB6 := QO hb3
   have HR6 := QO hr3
   have HW6 := HB3
   clear hb3 hr3 HN3
   go_wp2_with (first | ((with_reducible refine gate_builtin (b := .append) (xs := #[.tmp 94, .tmp 97]) rfl ?_); at_builtin; refine Kd.R_append (Kd.int .i64) (w0 := w0) w0.heap.size rfl (.tmp 94) (.tmp 97) 24 3 (.int .i64 0) 8 rfl Tryd.underlying24 info3 rfl (by decide) (by omega) (.slice A3 o.length c3) o (wrap64 (200 + rankI (noteB s x))) [.int .i64 (wrap64 (200 + rankI (noteB s x)))] (fun k => k ≠ g) (fun _ => False) rfl (by first | rfl | exact congrArg (fun n => Value.slice (some ⟨n, 0, none⟩) 1 1) (World.size_setCell _ _ _).symm) ?aP (fun _ hk => hk.elim) ?aF ?aO ?aB ?aS ?aL ?_; (case aP => exact rfl); (case aB => exact HW6.out); (case aF => exact Kd.freshB HB6.out); (case aO => exact HR6.out); (case aS => exact QJ HW6.out); (case aL => have := HL6.out; omega); intro v7 w7 ho hb hg hat; obtain ⟨A7, c7, rfl⟩ := Kd.R_slice ho; have hb7 := blk_grown HB6.out hg (fun e => HR6.out.1 g e.symm rfl); have hc72 := (note_cell hb7).2.2; have hf72 := QE hb7 2; have HN7 := QO (Note.set2 (w0 := w0) HB6.out hg HR6.out.1 ho); have HB7 := QO (fun v : Value => QF (j := 2) (v := v) hb HG.out); clear hb7 hb hg hat ho HB6 HR6 HW6))
   go_ret
   exact ⟨rfl, by simpa only [List.length_append, List.length_cons, List.length_nil, Nat.zero_add] using HN7.out, HB7.out _⟩
def impl_ParsePattern.f (k : Nat) (a0 : ByteArray) : Option (List Int × Bool) :=
 if 100 < (a0.size : Int) then some ([], false) else (readM k a0 0 []).bind fun r => if r.1 = true then (impl_PatternText.f k r.2.2).bind fun t => if t.toList = a0.toList then some (r.2.2, true) else some ([], false) else some ([], false)
theorem readM_mono : ∀ (k : Nat) (s : ByteArray) (x : Int) (o : List Int), LeO (readM k s x o) (readM (k + 1) s x o) := by
 intro k
 induction k with
 | zero => intro s x o r h; simp [readM] at h
 | succ k ih =>
  intro s x o
  have hp : ∀ x o, LeO (pairM (readM k s) s x o) (pairM (readM (k + 1) s) s x o) := by
   intro x o
   unfold pairM
   refine LeO.bind (ih s x o) fun r => ?_
   refine LeO.ite (LeO.ite (LeO.ite (LeO.bind (ih s _ _) fun q => LeO.refl _) (LeO.refl _)) (LeO.refl _)) (LeO.refl _)
  unfold readM
  refine LeO.ite (LeO.ite (LeO.refl _) (LeO.ite (LeO.bind (ih s _ _) fun r => LeO.refl _) (LeO.ite (hp _ _) (LeO.refl _)))) (LeO.refl _)
theorem impl_ParsePattern.mono : ∀ a0 k, LeO (impl_ParsePattern.f k a0) (impl_ParsePattern.f (k + 1) a0) := by
 intro a0 k
 unfold impl_ParsePattern.f
 exact LeO.ite (LeO.refl _) (LeO.bind (readM_mono k a0 0 []) fun r => LeO.ite (LeO.bind (impl_PatternText.mono _ k) fun t => LeO.refl _) (LeO.refl _))
set_option maxHeartbeats 8000000 in
set_option maxRecDepth 100000 in
theorem impl_ParsePattern.long (a0 : ByteArray) (w : World) (hl : 100 < (a0.size : Int)) :
  Calls Tryd.prog 27 #[.string a0] w fun e w' => ∃ v0_ : Value, e = .returned (.tuple #[v0_, .bool false]) ∧ Kd.R (Kd.int .i64) 3 w' w.heap.size (fun _ => True) v0_ [] ∧ Below w.heap.size w w' := by
 have h0 : decide (100 < (a0.size : Int)) = true := decide_eq_true hl
 have h1 : decide (100 < a0.size) = true := decide_eq_true (by omega)
 clear hl
 go_enter Tryd.func27, Tryd.ntmps27
 go_wp2_with (first | ((with_reducible refine gate_dst (N := 7) rfl ?_); refine box_event ?hg (N := 7) ?hd (cs := #[.string a0, .int .i64 0, .slice none 0 0]) (t := 72) ?hr ?_; (case hd => rfl); (case hg => rfl); (case hr => first | (go_simp; done) | (go_simp; rfl)); intro gb hg w4 hbox hb; have HN4 : Aside0 (Note w w4 gb a0 0 []) := ⟨⟨none, 0, hbox, Kd.R_nil _ _ _ _ _⟩⟩; have HB4 := QO hb; have HG4 : Aside0 (w.heap.size ≤ gb) := ⟨Nat.le_of_eq hg.symm⟩; clear hg hbox hb) | ((with_reducible refine gate_dst (N := 25) rfl ?_); refine Kd.R_lit (Kd.int .i64) _ 3 ?hg (N := 25) ?hd (xs := ([] : List Int)) (inner := []) (ok := fun _ => True) (okp := fun _ => True) ?hr ?hp (fun _ hk => hk) trivial (Below.refl _ _) (Nat.le_refl _) (by simp) ?_; (case hd => rfl); (case hg => rfl); (case hr => first | (go_simp; done) | (go_simp; rfl)); (case hp => exact (Reps.none _ _)); intro v8 w8 ho8 hb8 hg8 hnew8; have HO8 := QO (Kd.R_lower ho8 (QJ HB4.out)); have HB8 := QO (QK HB4.out hb8); clear ho8 hb8 hg8 hnew8))
 go_ret2
 exact ⟨_, rfl, HO8.out, HB8.out⟩
set_option maxHeartbeats 8000000 in
set_option maxRecDepth 100000 in
theorem impl_ParsePattern.no (k : Nat) (a0 : ByteArray) (x : Int) (o : List Int) (w : World) (hl : ¬ 100 < (a0.size : Int)) (hr : readM k a0 0 [] = some (false, x, o)) :
  Calls Tryd.prog 27 #[.string a0] w fun e w' => ∃ v0_ : Value, e = .returned (.tuple #[v0_, .bool false]) ∧ Kd.R (Kd.int .i64) 3 w' w.heap.size (fun _ => True) v0_ [] ∧ Below w.heap.size w w' := by
 have h0 : decide (100 < (a0.size : Int)) = false := decide_eq_false hl
 have h1 : decide (100 < a0.size) = false := decide_eq_false (by omega)
 have HR := QO hr
 clear hl hr
 go_enter Tryd.func27, Tryd.ntmps27
 go_wp2_with (first | ((with_reducible refine gate_dst (N := 7) rfl ?_); refine box_event ?hg (N := 7) ?hd (cs := #[.string a0, .int .i64 0, .slice none 0 0]) (t := 72) ?hr ?_; (case hd => rfl); (case hg => rfl); (case hr => first | (go_simp; done) | (go_simp; rfl)); intro gb hg w4 hbox hb; have HN4 : Aside0 (Note w w4 gb a0 0 []) := ⟨⟨none, 0, hbox, Kd.R_nil _ _ _ _ _⟩⟩; have HB4 := QO hb; have HG4 : Aside0 (w.heap.size ≤ gb) := ⟨Nat.le_of_eq hg.symm⟩; clear hg hbox hb))
 go_wp2_with (fail)
 refine (note_read w gb a0 k 0 [] _ HR.out _ HN4.out HB4.out HG4.out).mono ?_
 rintro e w5 ⟨rfl, hn5, hb5⟩
 have HB5 := QO hb5
 clear hn5 hb5
 go_wp2_with (first | ((with_reducible refine gate_dst (N := 25) rfl ?_); refine Kd.R_lit (Kd.int .i64) _ 3 ?hg (N := 25) ?hd (xs := ([] : List Int)) (inner := []) (ok := fun _ => True) (okp := fun _ => True) ?hr ?hp (fun _ hk => hk) trivial (Below.refl _ _) (Nat.le_refl _) (by simp) ?_; (case hd => rfl); (case hg => rfl); (case hr => first | (go_simp; done) | (go_simp; rfl)); (case hp => exact (Reps.none _ _)); intro v8 w8 ho8 hb8 hg8 hnew8; have HO8 := QO (Kd.R_lower ho8 (QJ HB5.out)); have HB8 := QO (QK HB5.out hb8); clear ho8 hb8 hg8 hnew8))
 go_ret2
 exact ⟨_, rfl, HO8.out, HB8.out⟩
set_option maxHeartbeats 8000000 in
set_option maxRecDepth 100000 in
theorem impl_ParsePattern.ne (k : Nat) (a0 : ByteArray) (x : Int) (o : List Int) (t : ByteArray) (w : World) (hl : ¬ 100 < (a0.size : Int)) (hr : readM k a0 0 [] = some (true, x, o)) (ht : impl_PatternText.f k o = some t) (he : ¬ t.toList = a0.toList) :
  Calls Tryd.prog 27 #[.string a0] w fun e w' => ∃ v0_ : Value, e = .returned (.tuple #[v0_, .bool false]) ∧ Kd.R (Kd.int .i64) 3 w' w.heap.size (fun _ => True) v0_ [] ∧ Below w.heap.size w w' := by
 have e0 : (t.toList == a0.toList) = false := beq_eq_false_iff_ne.mpr he
 have e1 : (t.toList != a0.toList) = true := bne_iff_ne.mpr he
 have HT := QO ht
 clear he ht
 have h0 : decide (100 < (a0.size : Int)) = false := decide_eq_false hl
 have h1 : decide (100 < a0.size) = false := decide_eq_false (by omega)
 have HR := QO hr
 clear hl hr
 go_enter Tryd.func27, Tryd.ntmps27
 go_wp2_with (first | ((with_reducible refine gate_dst (N := 7) rfl ?_); refine box_event ?hg (N := 7) ?hd (cs := #[.string a0, .int .i64 0, .slice none 0 0]) (t := 72) ?hr ?_; (case hd => rfl); (case hg => rfl); (case hr => first | (go_simp; done) | (go_simp; rfl)); intro gb hg w4 hbox hb; have HN4 : Aside0 (Note w w4 gb a0 0 []) := ⟨⟨none, 0, hbox, Kd.R_nil _ _ _ _ _⟩⟩; have HB4 := QO hb; have HG4 : Aside0 (w.heap.size ≤ gb) := ⟨Nat.le_of_eq hg.symm⟩; clear hg hbox hb))
 go_wp2_with (fail)
 refine (note_read w gb a0 k 0 [] _ HR.out _ HN4.out HB4.out HG4.out).mono ?_
 rintro e w5 ⟨rfl, hn5, hb5⟩
 have HB5 := QO hb5
 obtain ⟨A5, c5, hbc5, hr5⟩ := hn5
 have hc52 := (note_cell hbc5).2.2
 have HC5 := QO hbc5
 have HO5 := QO hr5
 clear hbc5 hr5 hb5
 go_wp2_with (fail)
 refine (impl_PatternText.calls k A5 c5 o t _ (Kd.R_reads' HO5.out).2.2 (Kd.R_reads' HO5.out).2.1 HT.out).mono ?_
 rintro e w6 ⟨rfl, hb6⟩
 have HB6 := QO (QK HB5.out hb6)
 have HO6 := QO (Kd.R_below HO5.out hb6)
 have hc62 := (note_cell (blk_below HC5.out hb6)).2.2
 clear hb6 HC5 HO5 HB5 hc52
 go_wp2_with (first | ((with_reducible refine gate_dst (N := 25) rfl ?_); refine Kd.R_lit (Kd.int .i64) _ 3 ?hg (N := 25) ?hd (xs := ([] : List Int)) (inner := []) (ok := fun _ => True) (okp := fun _ => True) ?hr ?hp (fun _ hk => hk) trivial (Below.refl _ _) (Nat.le_refl _) (by simp) ?_; (case hd => rfl); (case hg => rfl); (case hr => first | (go_simp; done) | (go_simp; rfl)); (case hp => exact (Reps.none _ _)); intro v8 w8 ho8 hb8 hg8 hnew8; have HO8 := QO (Kd.R_lower ho8 (QJ HB6.out)); have HB8 := QO (QK HB6.out hb8); clear ho8 hb8 hg8 hnew8))
 go_ret2
 exact ⟨_, rfl, HO8.out, HB8.out⟩
set_option maxHeartbeats 8000000 in
set_option maxRecDepth 100000 in
theorem impl_ParsePattern.yes (k : Nat) (a0 : ByteArray) (x : Int) (o : List Int) (t : ByteArray) (w : World) (hl : ¬ 100 < (a0.size : Int)) (hr : readM k a0 0 [] = some (true, x, o)) (ht : impl_PatternText.f k o = some t) (he : t.toList = a0.toList) :
  Calls Tryd.prog 27 #[.string a0] w fun e w' => ∃ v0_ : Value, e = .returned (.tuple #[v0_, .bool true]) ∧ Kd.R (Kd.int .i64) 3 w' w.heap.size (fun _ => True) v0_ o ∧ Below w.heap.size w w' := by
 have e0 : (t.toList == a0.toList) = true := beq_iff_eq.mpr he
 have e1 : (t.toList != a0.toList) = false := bne_eq_false_iff_eq.mpr he
 have HT := QO ht
 clear he ht
 have h0 : decide (100 < (a0.size : Int)) = false := decide_eq_false hl
 have h1 : decide (100 < a0.size) = false := decide_eq_false (by omega)
 have HR := QO hr
 clear hl hr
 go_enter Tryd.func27, Tryd.ntmps27
 go_wp2_with (first | ((with_reducible refine gate_dst (N := 7) rfl ?_); refine box_event ?hg (N := 7) ?hd (cs := #[.string a0, .int .i64 0, .slice none 0 0]) (t := 72) ?hr ?_; (case hd => rfl); (case hg => rfl); (case hr => first | (go_simp; done) | (go_simp; rfl)); intro gb hg w4 hbox hb; have HN4 : Aside0 (Note w w4 gb a0 0 []) := ⟨⟨none, 0, hbox, Kd.R_nil _ _ _ _ _⟩⟩; have HB4 := QO hb; have HG4 : Aside0 (w.heap.size ≤ gb) := ⟨Nat.le_of_eq hg.symm⟩; clear hg hbox hb))
 go_wp2_with (fail)
 refine (note_read w gb a0 k 0 [] _ HR.out _ HN4.out HB4.out HG4.out).mono ?_
 rintro e w5 ⟨rfl, hn5, hb5⟩
 have HB5 := QO hb5
 obtain ⟨A5, c5, hbc5, hr5⟩ := hn5
 have hc52 := (note_cell hbc5).2.2
 have HC5 := QO hbc5
 have HO5 := QO hr5
 clear hbc5 hr5 hb5
 go_wp2_with (fail)
 refine (impl_PatternText.calls k A5 c5 o t _ (Kd.R_reads' HO5.out).2.2 (Kd.R_reads' HO5.out).2.1 HT.out).mono ?_
 rintro e w6 ⟨rfl, hb6⟩
 have HB6 := QO (QK HB5.out hb6)
 have HO6 := QO (Kd.R_below HO5.out hb6)
 have hc62 := (note_cell (blk_below HC5.out hb6)).2.2
 clear hb6 HC5 HO5 HB5 hc52
 go_wp2
 go_ret2
 exact ⟨_, rfl, Kd.R_mono HO6.out (fun _ _ => trivial), HB6.out⟩
theorem impl_ParsePattern.calls (k : Nat) (a0 : ByteArray) (r1 : List Int) (r2 : Bool) (w : World) (h : impl_ParsePattern.f k a0 = some (r1, r2)) :
  Calls Tryd.prog 27 #[.string a0] w fun e w' => ∃ v0_ : Value, e = .returned (.tuple #[v0_, .bool r2]) ∧ Kd.R (Kd.int .i64) 3 w' w.heap.size (fun _ => True) v0_ r1 ∧ Below w.heap.size w w' := by
 unfold impl_ParsePattern.f at h
 by_cases hl : 100 < (a0.size : Int)
 ·rw [if_pos hl] at h
  obtain ⟨rfl, rfl⟩ := Prod.mk.inj (Option.some.inj h)
  exact impl_ParsePattern.long a0 w hl
 rw [if_neg hl] at h
 obtain ⟨⟨b, x, o⟩, hr, h⟩ := QP.mp h
 simp only at h
 cases b
 ·obtain ⟨rfl, rfl⟩ := Prod.mk.inj (Option.some.inj h)
  exact impl_ParsePattern.no k a0 x o w hl hr
 rw [if_pos rfl] at h
 obtain ⟨t, ht, h⟩ := QP.mp h
 by_cases he : t.toList = a0.toList
 ·rw [if_pos he] at h
  obtain ⟨rfl, rfl⟩ := Prod.mk.inj (Option.some.inj h)
  exact impl_ParsePattern.yes k a0 x o t w hl hr ht he
 ·rw [if_neg he] at h
  obtain ⟨rfl, rfl⟩ := Prod.mk.inj (Option.some.inj h)
  exact impl_ParsePattern.ne k a0 x o t w hl hr ht he

end Go.Proofs.YtdfmobcocaijpaaDoor.QFnScripts
