/- What a call of each Go function that FnExactChoiceOf reaches comes to, as a Lean function: texts of the kit's print, turned by wip/remake.py. No condition beyond what each names. -/
import Derived.Test.YtdfmobcocaijpaaQFnExactChoiceOfx5
namespace Go.Proofs.Ytdfmobcocaijpaa.QFnExactChoiceOf
open Go.RowKit Go.Proofs.YtdfmobcocaijpaaW.PrintWords Go.Proofs.YtdfmobcocaijpaaW.PrintLast Go.Proofs.YtdfmobcocaijpaaW.PrintMore
open Go.Proofs.YtdfmobcocaijpaaW.PrintWords renaming pw_below_drewN → QB, below_drew1 → QC, blk_cell → QD, below_alloc → QE, blk_frozen → QF, below_set → QM
open Go.Proofs.YtdfmobcocaijpaaW.PrintWords.Kd renaming R_drew → QG, R_alloc → QI, R_drewN → QJ
open Go.Proofs.YtdfmobcocaijpaaW.PrintLast renaming i64_w → QH, i32_w → QK, any_of → QL, pure_ → QN
open List renaming setIfInBounds_toArray → QO, set_cons_zero → QP, set_cons_succ → QR
open Go.Proofs.YtdfmobcocaijpaaW.PrintWords.Aside0 renaming mk → QS
open Option renaming bind_eq_some_iff → QT
attribute [local go_sem] max2_int min2_int max_two min_two max_three min_three max_four min_four   -- for this text's walks alone
set_option linter.unusedVariables false
set_option linter.unusedSimpArgs false

/-! ### impl_Matches: function 47 -/
mutual
def impl_Matches.j0 : Nat → List Int → Int → Bool → Option (Bool)
 | 0,_,_,_ => none
 | k + 1,x0,x1,x16 => if x16 = true then (some false) else (impl_Matches.l0 k x1 (([] : List Bool)) x0 (x0.length : Int) 0)
def impl_Matches.l0 : Nat → Int → List Bool → List Int → Int → Int → Option (Bool)
 | 0,_,_,_,_,_ => none
 | k + 1,x1,x5,x18,x19,x20 => if x20 < x19 then (if 0 ≤ x20 then (if x20 < (x18.length : Int) then (if (rd x18 x20) = (-1) then (if 0 ≤ (wrap64 ((x5.length : Int) - 1)) then (if (wrap64 ((x5.length : Int) - 1)) < (x5.length : Int) then (impl_Matches.l0 k x1 (x5.set ((wrap64 ((x5.length : Int) - 1)) : Int).toNat (!(rdOf false x5 (wrap64 ((x5.length : Int) - 1))))) x18 x19 (wrap64 (x20 + 1))) else (none)) else (none)) else (if (rd x18 x20) = (-2) then (if 0 ≤ (wrap64 ((x5.length : Int) - 2)) then (if (wrap64 ((x5.length : Int) - 2)) < (x5.length : Int) then (if rdOf false x5 (wrap64 ((x5.length : Int) - 2)) = true then (if 0 ≤ (wrap64 ((x5.length : Int) - 1)) then (if (wrap64 ((x5.length : Int) - 1)) < (x5.length : Int) then (if (wrap64 ((x5.length : Int) - 2)) ≤ (x5.length : Int) then ((some (x5.take ((wrap64 ((x5.length : Int) - 2)) : Int).toNat : List Bool)).bind fun y422 => (if y422.length < 140737488355328 then (impl_Matches.l0 k x1 (y422 ++ [rdOf false x5 (wrap64 ((x5.length : Int) - 1))]) x18 x19 (wrap64 (x20 + 1))) else (none))) else (none)) else (none)) else (none)) else (if (wrap64 ((x5.length : Int) - 2)) ≤ (x5.length : Int) then ((some (x5.take ((wrap64 ((x5.length : Int) - 2)) : Int).toNat : List Bool)).bind fun y428 => (if y428.length < 140737488355328 then (impl_Matches.l0 k x1 (y428 ++ [false]) x18 x19 (wrap64 (x20 + 1))) else (none))) else (none))) else (none)) else (none)) else (if (rd x18 x20) = (-3) then (if 0 ≤ (wrap64 ((x5.length : Int) - 2)) then (if (wrap64 ((x5.length : Int) - 2)) < (x5.length : Int) then (if rdOf false x5 (wrap64 ((x5.length : Int) - 2)) = true then (if (wrap64 ((x5.length : Int) - 2)) ≤ (x5.length : Int) then ((some (x5.take ((wrap64 ((x5.length : Int) - 2)) : Int).toNat : List Bool)).bind fun y435 => (if y435.length < 140737488355328 then (impl_Matches.l0 k x1 (y435 ++ [true]) x18 x19 (wrap64 (x20 + 1))) else (none))) else (none)) else (if 0 ≤ (wrap64 ((x5.length : Int) - 1)) then (if (wrap64 ((x5.length : Int) - 1)) < (x5.length : Int) then (if (wrap64 ((x5.length : Int) - 2)) ≤ (x5.length : Int) then ((some (x5.take ((wrap64 ((x5.length : Int) - 2)) : Int).toNat : List Bool)).bind fun y442 => (if y442.length < 140737488355328 then (impl_Matches.l0 k x1 (y442 ++ [rdOf false x5 (wrap64 ((x5.length : Int) - 1))]) x18 x19 (wrap64 (x20 + 1))) else (none))) else (none)) else (none)) else (none))) else (none)) else (none)) else ((impl_asks.f (rd x18 x20) x1).bind fun t448 => (if x5.length < 140737488355328 then (impl_Matches.l0 k x1 (x5 ++ [t448]) x18 x19 (wrap64 (x20 + 1))) else (none)))))) else (none)) else (none)) else (if 0 < (x5.length : Int) then (some (rdOf false x5 0)) else (none))
end
def impl_Matches.f (k : Nat) (l0 : List Int) (a1 : Int) : Option (Bool) := (impl_IsPattern.f k l0).bind fun t411 => (if t411 = true then ((impl_IsCard.f a1).bind fun t412 => (impl_Matches.j0 k l0 a1 (!t412))) else (impl_Matches.j0 k l0 a1 true))
theorem impl_Matches.mono_l : ∀ k, (∀ y0 y1 y2, LeO (impl_Matches.j0 k y0 y1 y2) (impl_Matches.j0 (k + 1) y0 y1 y2)) ∧ (∀ y0 y1 y2 y3 y4, LeO (impl_Matches.l0 k y0 y1 y2 y3 y4) (impl_Matches.l0 (k + 1) y0 y1 y2 y3 y4))
 | 0 => ⟨fun _ _ _ r h => by simp [impl_Matches.j0] at h,fun _ _ _ _ _ r h => by simp [impl_Matches.l0] at h⟩
 | k + 1 => by
  obtain ⟨ih0,ih1⟩ := impl_Matches.mono_l k
  refine ⟨?_,?_⟩
  ·intro y0 y1 y2
   unfold impl_Matches.j0
   repeat' first
   | (with_reducible exact ih0 _ _ _)
   | (with_reducible exact ih1 _ _ _ _ _)
   | (with_reducible exact impl_IsPattern.mono _ _)
   | (with_reducible exact LeO.refl _)
   | (with_reducible exact LeO.none _)
   | (with_reducible refine LeO.ite ?_ ?_)
   | (with_reducible refine LeO.bind ?_ (fun _ => ?_))
   | exact ih0 _ _ _
   | exact ih1 _ _ _ _ _
   | exact impl_IsPattern.mono _ _
   | exact LeO.none _
   | refine LeO.ite ?_ ?_
   | refine LeO.bind ?_ (fun _ => ?_)
  ·intro y0 y1 y2 y3 y4
   unfold impl_Matches.l0
   repeat' first
   | (with_reducible exact ih0 _ _ _)
   | (with_reducible exact ih1 _ _ _ _ _)
   | (with_reducible exact impl_IsPattern.mono _ _)
   | (with_reducible exact LeO.refl _)
   | (with_reducible exact LeO.none _)
   | (with_reducible refine LeO.ite ?_ ?_)
   | (with_reducible refine LeO.bind ?_ (fun _ => ?_))
   | exact ih0 _ _ _
   | exact ih1 _ _ _ _ _
   | exact impl_IsPattern.mono _ _
   | exact LeO.none _
   | refine LeO.ite ?_ ?_
   | refine LeO.bind ?_ (fun _ => ?_)
theorem impl_Matches.mono : ∀ a0 a1 k, LeO (impl_Matches.f k a0 a1) (impl_Matches.f (k + 1) a0 a1) := by
 intro a0 a1 k
 obtain ⟨ih0,ih1⟩ := impl_Matches.mono_l k
 unfold impl_Matches.f
 repeat' first
   | (with_reducible exact ih0 _ _ _)
   | (with_reducible exact ih1 _ _ _ _ _)
   | (with_reducible exact impl_IsPattern.mono _ _)
   | (with_reducible exact LeO.refl _)
   | (with_reducible exact LeO.none _)
   | (with_reducible refine LeO.ite ?_ ?_)
   | (with_reducible refine LeO.bind ?_ (fun _ => ?_))
   | exact ih0 _ _ _
   | exact ih1 _ _ _ _ _
   | exact impl_IsPattern.mono _ _
   | exact LeO.none _
   | refine LeO.ite ?_ ?_
   | refine LeO.bind ?_ (fun _ => ?_)
def impl_Matches.T13 : Bool × List (List Nat × List Nat) := (true, [([], []), ([], []), ([1], [1]), ([0, 2], [0, 2]), ([], []), ([], []), ([5], [5]), ([4, 6], [4, 6]), ([7], [7]), ([8], [8]), ([9], [9]), ([9], [9]), ([11, 9], [9, 11]), ([10, 12, 9], [9, 10, 12]), ([13, 9], [9, 13]), ([9, 14], [9, 14]), ([15], [15]), ([3, 16, 9], [3, 16]), ([17, 17, 0, 1, 2, 3, 4, 5, 6, 7, 8, 9, 10, 11, 12, 13, 14, 15, 16, 17], [0, 4, 10, 17])])
def impl_Matches.B13 : List Nat := [0, 0, 2, 7, 0, 0, 32, 112, 240, 496, 1008, 1008, 3056, 8176, 16368, 32752, 65520, 131071, 262143]
theorem impl_Matches.tab13 : rtab .any (opsOf Try.f47 13) = impl_Matches.T13 := by kernel_rfl
theorem impl_Matches.bits13 : waitsOk impl_Matches.T13.2 impl_Matches.B13 = true := by kernel_rfl
def impl_Matches.T15 : Bool × List (List Nat × List Nat) := (true, [([], []), ([], []), ([1], [1]), ([0, 2], [0, 2]), ([], []), ([], []), ([5], [5]), ([4, 6], [4, 6]), ([7], [7]), ([8], [8]), ([9], [9]), ([9], [9]), ([11, 9], [9, 11]), ([10, 12, 9], [9, 10, 12]), ([13, 9], [9, 13]), ([9, 14], [9, 14]), ([15], [15]), ([3, 16, 9], [3, 16]), ([17, 17, 0, 1, 2, 3, 4, 5, 6, 7, 8, 9, 10, 11, 12, 13, 14, 15, 16, 17], [0, 4, 10, 17])])
def impl_Matches.B15 : List Nat := [0, 0, 2, 7, 0, 0, 32, 112, 240, 496, 1008, 1008, 3056, 8176, 16368, 32752, 65520, 131071, 262143]
theorem impl_Matches.tab15 : rtab .any (opsOf Try.f47 15) = impl_Matches.T15 := by kernel_rfl
theorem impl_Matches.bits15 : waitsOk impl_Matches.T15.2 impl_Matches.B15 = true := by kernel_rfl
set_option maxHeartbeats 8000000 in
set_option maxRecDepth 100000 in
theorem impl_Matches.calls (k : Nat) (A0 : Option Addr) (c0 : Nat) (l0 : List Int) (a1 : Int) (r : Bool) (w : World) (hr0 : Kd.C (Kd.int .i64) w A0 l0.length l0) (hc0 : l0.length ≤ c0) (h : impl_Matches.f k l0 a1 = some r) :
  Calls Try.prog 47 #[.slice A0 l0.length c0,.int .i64 a1] w fun e w' => e = .returned (.bool r) ∧ Below w.heap.size w w' := by
 have HR0 := QS hr0
 have HC0 := QS hc0
 clear hr0 hc0
 have HB := QS (Below.refl w.heap.size w)
 have H : ((impl_IsPattern.f k l0).bind fun t411 => (if t411 = true then ((impl_IsCard.f a1).bind fun t412 => (impl_Matches.j0 k l0 a1 (!t412))) else (impl_Matches.j0 k l0 a1 true))) = some r := h
 clear h
 have HC3 := QS H
 clear H
 go_enter Try.func47,Try.ntmps47
 go_upto_region 1 with (fail)
 go_cut [16] (fun v16 wc => ∃ (kq : Nat) (x16_2 : Bool),v16 = .bool x16_2 ∧ Aside0 (impl_Matches.j0 kq l0 a1 x16_2 = some r) ∧ Aside0 (kq ≤ k) ∧ Aside0 (Below w.heap.size w wc))
 case first =>
  have H := HC3.out
  clear HC3
  replace H := QT.mp H
  obtain ⟨t411,A40,H⟩ := H
  have A4 := QS A40
  clear A40
  by_cases c5 : t411 = true
  ·subst c5
   rw [if_pos rfl] at H
   replace H := QT.mp H
   obtain ⟨t412,A60,H⟩ := H
   have A6 := QS A60
   clear A60
   have H' := QS H
   clear H
   go_wp2_with (first | ((with_reducible refine gate_callee (f := 56) rfl ?_); refine goesL_ (some 10) rfl rfl Try.func56 (by kernel_rfl) rfl #[.slice A0 l0.length c0] rfl (by (try simp only [List.map_toArray,List.map_cons,List.map_nil]); first | done | rfl | (simp only [List.length_drop,List.length_take]; rfl)) ?_; (with_reducible refine (impl_IsPattern.calls k _ _ l0 true _ ?side1 ?side2 A4.out).mono ?_); (case side1 => repeat (first | exact (Kd.C_below HR0.out HB.out) | (with_reducible refine Kd.C_alloc ?_ _) | (with_reducible refine Kd.C_drewN ?_ _) | (with_reducible refine Kd.C_drew ?_))); (case side2 => exact HC0.out); rintro e w' ⟨rfl,⟨nd,rfl⟩⟩; refine ⟨_,rfl,?_⟩) | (go_at_call 34; (with_reducible refine (impl_IsCard.calls a1 t412 _ A6.out).mono ?_); rintro e w' ⟨rfl,⟨nd,rfl⟩⟩))
   go_meet
   case rel => exact ⟨_,(!t412),(by first | rfl | (simp; done) | (simp [*]; done)),H',⟨by first | omega | exact Nat.le_refl _⟩,⟨by repeat (first | (with_reducible first | exact HB.out | apply QE | apply QB | apply QC) | exact HB.out)⟩⟩
  ·replace c5 := Bool.eq_false_iff.mpr c5
   subst c5
   rw [if_neg (show ¬ (false = true) by decide)] at H
   have H' := QS H
   clear H
   go_wp2_with (first | ((with_reducible refine gate_callee (f := 56) rfl ?_); refine goesL_ (some 10) rfl rfl Try.func56 (by kernel_rfl) rfl #[.slice A0 l0.length c0] rfl (by (try simp only [List.map_toArray,List.map_cons,List.map_nil]); first | done | rfl | (simp only [List.length_drop,List.length_take]; rfl)) ?_; (with_reducible refine (impl_IsPattern.calls k _ _ l0 false _ ?side1 ?side2 A4.out).mono ?_); (case side1 => repeat (first | exact (Kd.C_below HR0.out HB.out) | (with_reducible refine Kd.C_alloc ?_ _) | (with_reducible refine Kd.C_drewN ?_ _) | (with_reducible refine Kd.C_drew ?_))); (case side2 => exact HC0.out); rintro e w' ⟨rfl,⟨nd,rfl⟩⟩; refine ⟨_,rfl,?_⟩))
   go_meet
   case rel => exact ⟨_,(true),(by first | rfl | (simp; done) | (simp [*]; done)),H',⟨by first | omega | exact Nat.le_refl _⟩,⟨by repeat (first | (with_reducible first | exact HB.out | apply QE | apply QB | apply QC) | exact HB.out)⟩⟩
 case rest =>
  clear HC3
  try clear p2
  try clear c4
  try clear c5
  obtain ⟨kq,x16_2,rfl,HA,HJ2,HB⟩ := hcut
  cases kq with
  | zero => exact absurd HA.out (by simp [impl_Matches.j0])
  | succ kj2 =>
   have H := HA.out
   clear HA
   simp only [impl_Matches.j0] at H
   by_cases c7 : x16_2 = true
   ·subst c7
    rw [if_pos rfl] at H
    obtain rfl := Option.some.inj H
    go_wp2
    go_ret
    exact ⟨by first | rfl | (simp [errW_none,errW_some] <;> rfl) | (simp [*,errW_none,errW_some] <;> rfl),by repeat (first | (with_reducible first | exact HB.out | apply QE | apply QB | apply QC) | exact HB.out)⟩
   ·replace c7 := Bool.eq_false_iff.mpr c7
    subst c7
    rw [if_neg (show ¬ (false = true) by decide)] at H
    obtain ⟨y413,hy413⟩ : ∃ y_ : List Bool,y_ = (([] : List Bool)) := ⟨_,rfl⟩
    replace H : (impl_Matches.l0 kj2 a1 y413 l0 (l0.length : Int) 0) = some r := by first | (rw [hy413]; with_reducible exact H) | (have H2_ := (Option.bind_some _ _).symm.trans H; rw [hy413]; with_reducible exact H2_) | (have H2_ := (Option.bind_some _ _).symm.trans H; with_reducible exact H2_) | with_reducible exact H | (rw [hy413]; exact H) | exact H
    have Ny413 := QS hy413
    clear hy413
    have H' := QS H
    clear H
    go_wp2_with (first | ((with_reducible refine gate_dst (N := 17) rfl ?_); refine Kd.R_lit Kd.bool _ 4 ?hg (N := 17) ?hd (xs := ([] : List Bool)) (inner := []) (ok := fun _ => True) (okp := fun _ => True) ?hr ?hp (fun _ hk => hk) trivial (Below.refl _ _) (Nat.le_refl _) (by simp) ?_; (case hd => rfl); (case hg => rfl); (case hr => first | (go_simp; done) | (go_simp; rfl)); (case hp => exact (Reps.none _ _)); intro v414 w8 ho9 hb hg_ hnew_; clear hg_ hnew_; (first | rw [← Ny413.out] at ho9 | (simp only [Int.reduceToNat] at ho9; rw [← Ny413.out] at ho9)); have n0_ := QS (Kd.R_lower ho9 (below_size (by repeat (first | (with_reducible first | exact HB.out | apply QE | apply QB | apply QC) | exact HB.out)))); have n1_ := QS (below_step (by repeat (first | (with_reducible first | exact HB.out | apply QE | apply QB | apply QC) | exact HB.out)) hb); clear HB; revert n0_ n1_; intro HO415 HB; clear hb ho9))
    go_loopg [5,20] kj2 (fun kq v5 v20 w' => ∃ (x5_2 : List Bool) (x20_2 : Int),v20 = .int .i64 x20_2 ∧ Aside0 (impl_Matches.l0 kq a1 x5_2 l0 (l0.length : Int) x20_2 = some r) ∧ Aside0 (kq ≤ kj2) ∧ Aside0 (Kd.R Kd.bool 4 w' w.heap.size (fun _ => True) v5 x5_2) ∧ Aside0 (Below w.heap.size w w'))
    case atStart => exact ⟨(y413),(0),(by first | rfl | (simp; done) | (simp [*]; done)),H',⟨Nat.le_refl _⟩,⟨by (with_reducible repeat (first | apply QI | apply QJ | apply QG)); exact HO415.out⟩,⟨by repeat (first | (with_reducible first | exact HB.out | apply QE | apply QB | apply QC) | exact HB.out)⟩⟩
    case round =>
     clear H'
     try clear p2
     try clear c4
     try clear c5
     try clear c7
     try clear p2
     obtain ⟨x5_2,x20_2,rfl,HA,HK2,HO_5,HB⟩ := hrel
     cases gk with
     | zero => exact absurd HA.out (by simp [impl_Matches.l0])
     | succ k2 =>
      have H := HA.out
      clear HA
      simp only [impl_Matches.l0] at H
      by_cases c10 : x20_2 < (l0.length : Int)
      ·rw [if_pos c10] at H
       have c10b0 : decide (x20_2 < (l0.length : Int)) = true := decide_eq_true c10
       clear c10
       by_cases c11 : 0 ≤ x20_2
       ·rw [if_pos c11] at H
        have c11b0 : decide (0 ≤ x20_2) = true := decide_eq_true c11
        clear c11
        by_cases c12 : x20_2 < (l0.length : Int)
        ·rw [if_pos c12] at H
         have c12b0 : decide (x20_2 < (l0.length : Int)) = true := decide_eq_true c12
         clear c12
         by_cases c13 : (rd l0 x20_2) = (-1)
         ·rw [if_pos c13] at H
          have c13b0 : ((rd l0 x20_2) == (-1)) = true := beq_iff_eq.mpr c13
          have c13b1 : ((rd l0 x20_2) != (-1)) = false := bne_eq_false_iff_eq.mpr c13
          clear c13
          obtain ⟨ji14,hji14⟩ : ∃ j_ : Int,(wrap64 ((x5_2.length : Int) - 1)) = j_ := ⟨_,rfl⟩
          replace H : (if 0 ≤ (ji14) then (if (ji14) < (x5_2.length : Int) then (impl_Matches.l0 k2 a1 (x5_2.set ((ji14) : Int).toNat (!(rdOf false x5_2 (ji14)))) l0 (l0.length : Int) (wrap64 (x20_2 + 1))) else (none)) else (none)) = some r := by first | (rw [hji14] at H; exact H) | (simp only [hji14] at H ⊢; exact H)
          have hji14w : (IntKind.i64.wrap ((x5_2.length : Int) - 1)) = ji14 := (QH _).trans hji14
          by_cases c15 : 0 ≤ (ji14)
          ·rw [if_pos c15] at H
           have c15b0 : decide (0 ≤ (ji14)) = true := decide_eq_true c15
           clear c15
           by_cases c16 : (ji14) < (x5_2.length : Int)
           ·rw [if_pos c16] at H
            have c16b0 : decide ((ji14) < (x5_2.length : Int)) = true := decide_eq_true c16
            clear c16
            obtain ⟨y419,hy419⟩ : ∃ y_ : List Bool,y_ = (x5_2.set ((ji14) : Int).toNat (!(rdOf false x5_2 (ji14)))) := ⟨_,rfl⟩
            replace H : (impl_Matches.l0 k2 a1 y419 l0 (l0.length : Int) (wrap64 (x20_2 + 1))) = some r := by first | (rw [hy419]; with_reducible exact H) | (have H2_ := (Option.bind_some _ _).symm.trans H; rw [hy419]; with_reducible exact H2_) | (have H2_ := (Option.bind_some _ _).symm.trans H; with_reducible exact H2_) | with_reducible exact H | (rw [hy419]; exact H) | exact H
            have Ny419 := QS hy419
            clear hy419
            have H' := QS H
            clear H
            have p417 : 0 ≤ (x20_2 : Int) := of_decide_eq_true (by first | (with_reducible assumption) | assumption)
            have q417 : x20_2 < (l0.length : Int) := of_decide_eq_true (by first | (with_reducible assumption) | assumption)
            obtain ⟨ad417,e417,hx417_0⟩ := Kd.at_int HR0.out x20_2 p417 q417
            cases e417
            replace hx417_0 := (HB.out.cell (World.block_lt_of_cell? w _ hx417_0)).trans hx417_0
            replace p417 := eq_true p417
            replace q417 := eq_true q417
            obtain ⟨Ao18,co18,eo18⟩ := Kd.R_slice HO_5.out
            subst eo18
            have p418 : 0 ≤ ((ji14) : Int) := of_decide_eq_true (by first | (with_reducible assumption) | assumption)
            have q418 : (ji14) < (x5_2.length : Int) := of_decide_eq_true (by first | (with_reducible assumption) | assumption)
            obtain ⟨ad418,e418,hx418_0⟩ := Kd.at_bool (Kd.R_reads' HO_5.out).2.2 (ji14) p418 q418
            cases e418
            replace p418 := eq_true p418
            replace q418 := eq_true q418
            have p17 : 0 ≤ ((ji14) : Int) := of_decide_eq_true (by first | (with_reducible assumption) | assumption)
            have q17 : ((ji14) : Int) < ((x5_2.length : Int) : Int) := of_decide_eq_true (by first | (with_reducible assumption) | assumption)
            obtain ⟨go17,co17,eo17,gb17,gl17,cl17,HG17⟩ := Kd.R_form HO_5.out (by omega)
            (first | cases eo17 | (injection eo17 with ea_ en_ ec_; (first | subst ea_ | (injection ea_ with ea_; subst ea_)); subst ec_; clear en_))
            have GB17 := QS gb17
            have GG17 := QS HG17
            clear gb17 gl17 HG17
            (first | simp only [add_plain] at hx418_0 | skip)
            obtain ⟨hx17_0,hf17_0⟩ := Kd.R_celln false HO_5.out ((ji14) : Int) p17 q17
            replace p17 := eq_true p17
            replace q17 := eq_true q17
            have HP19 := Kd.R_putg HO_5.out ((ji14) : Int) (!(rdOf false x5_2 (ji14)))
            go_wp2_with (first | ((with_reducible refine gate_store (t := 4) (p := 44) rfl ?_); refine store_event (t := 4) (p := 44) (v := ?vo_w20) (w1 := (wr.setCell ⟨go17,((ji14) : Int).toNat,none⟩ (.bool (!(rdOf false x5_2 (ji14)))))) ?hg ?ho ?hn ?hr ?_; (case ho => rfl); (case hg => rfl); (case hn => rfl); (case hr => first | (go_simp; done) | (go_simp; rfl)); intro w20 hw; have hg : wr.grownBy w20 (some go17) := (by rw [hw]; exact HP19.2); have hp_ : Kd.R Kd.bool 4 w20 w.heap.size (fun _ => True) (.slice (some ⟨go17,0,none⟩) x5_2.length co18) y419 := (by rw [hw,Ny419.out]; exact HP19.1); clear HP19; have n0_ := QS (hp_); have n1_ := QS ((by rw [hw]; exact QM (HB.out) GB17.out : Below w.heap.size w w20)); clear HO_5; clear HB; revert n0_ n1_; intro HO_5 HB; clear hg hw hp_))
            go_roundg k2
            case measure => have := HJ2.out; have := HK2.out; omega
            case rel => exact ⟨(y419),(wrap64 (x20_2 + 1)),(by first | rfl | (simp; done) | (simp [*]; done)),H',⟨by have := HJ2.out; have := HK2.out; omega⟩,⟨by (with_reducible repeat (first | apply QI | apply QJ | apply QG)); exact HO_5.out⟩,⟨by repeat (first | (with_reducible first | exact HB.out | apply QE | apply QB | apply QC) | exact HB.out)⟩⟩
           ·rw [if_neg c16] at H
            exact absurd H (by simp)
          ·rw [if_neg c15] at H
           exact absurd H (by simp)
         ·rw [if_neg c13] at H
          have c13b0 : ((rd l0 x20_2) == (-1)) = false := beq_eq_false_iff_ne.mpr c13
          have c13b1 : ((rd l0 x20_2) != (-1)) = true := bne_iff_ne.mpr c13
          by_cases c21 : (rd l0 x20_2) = (-2)
          ·rw [if_pos c21] at H
           have c21b0 : ((rd l0 x20_2) == (-2)) = true := beq_iff_eq.mpr c21
           have c21b1 : ((rd l0 x20_2) != (-2)) = false := bne_eq_false_iff_eq.mpr c21
           clear c21
           obtain ⟨ji22,hji22⟩ : ∃ j_ : Int,(wrap64 ((x5_2.length : Int) - 2)) = j_ := ⟨_,rfl⟩
           replace H : (if 0 ≤ (ji22) then (if (ji22) < (x5_2.length : Int) then (if rdOf false x5_2 (ji22) = true then (if 0 ≤ (wrap64 ((x5_2.length : Int) - 1)) then (if (wrap64 ((x5_2.length : Int) - 1)) < (x5_2.length : Int) then (if (ji22) ≤ (x5_2.length : Int) then ((some (x5_2.take ((ji22) : Int).toNat : List Bool)).bind fun y422 => (if y422.length < 140737488355328 then (impl_Matches.l0 k2 a1 (y422 ++ [rdOf false x5_2 (wrap64 ((x5_2.length : Int) - 1))]) l0 (l0.length : Int) (wrap64 (x20_2 + 1))) else (none))) else (none)) else (none)) else (none)) else (if (ji22) ≤ (x5_2.length : Int) then ((some (x5_2.take ((ji22) : Int).toNat : List Bool)).bind fun y428 => (if y428.length < 140737488355328 then (impl_Matches.l0 k2 a1 (y428 ++ [false]) l0 (l0.length : Int) (wrap64 (x20_2 + 1))) else (none))) else (none))) else (none)) else (none)) = some r := by first | (rw [hji22] at H; exact H) | (simp only [hji22] at H ⊢; exact H)
           have hji22w : (IntKind.i64.wrap ((x5_2.length : Int) - 2)) = ji22 := (QH _).trans hji22
           by_cases c23 : 0 ≤ (ji22)
           ·rw [if_pos c23] at H
            have c23b0 : decide (0 ≤ (ji22)) = true := decide_eq_true c23
            clear c23
            by_cases c24 : (ji22) < (x5_2.length : Int)
            ·rw [if_pos c24] at H
             have c24b0 : decide ((ji22) < (x5_2.length : Int)) = true := decide_eq_true c24
             clear c24
             obtain ⟨bq25,hbq25⟩ : ∃ b_ : Bool,b_ = (rdOf false x5_2 (ji22)) := ⟨_,rfl⟩
             replace H : (if bq25 = true then (if 0 ≤ (wrap64 ((x5_2.length : Int) - 1)) then (if (wrap64 ((x5_2.length : Int) - 1)) < (x5_2.length : Int) then (if (ji22) ≤ (x5_2.length : Int) then ((some (x5_2.take ((ji22) : Int).toNat : List Bool)).bind fun y422 => (if y422.length < 140737488355328 then (impl_Matches.l0 k2 a1 (y422 ++ [rdOf false x5_2 (wrap64 ((x5_2.length : Int) - 1))]) l0 (l0.length : Int) (wrap64 (x20_2 + 1))) else (none))) else (none)) else (none)) else (none)) else (if (ji22) ≤ (x5_2.length : Int) then ((some (x5_2.take ((ji22) : Int).toNat : List Bool)).bind fun y428 => (if y428.length < 140737488355328 then (impl_Matches.l0 k2 a1 (y428 ++ [false]) l0 (l0.length : Int) (wrap64 (x20_2 + 1))) else (none))) else (none))) = some r := by rw [← hbq25] at H; exact H
             have Nbq25 := QS hbq25
             clear hbq25
             by_cases c26 : bq25 = true
             ·subst c26
              rw [if_pos rfl] at H
              obtain ⟨ji27,hji27⟩ : ∃ j_ : Int,(wrap64 ((x5_2.length : Int) - 1)) = j_ := ⟨_,rfl⟩
              replace H : (if 0 ≤ (ji27) then (if (ji27) < (x5_2.length : Int) then (if (ji22) ≤ (x5_2.length : Int) then ((some (x5_2.take ((ji22) : Int).toNat : List Bool)).bind fun y422 => (if y422.length < 140737488355328 then (impl_Matches.l0 k2 a1 (y422 ++ [rdOf false x5_2 (ji27)]) l0 (l0.length : Int) (wrap64 (x20_2 + 1))) else (none))) else (none)) else (none)) else (none)) = some r := by first | (rw [hji27] at H; exact H) | (simp only [hji27] at H ⊢; exact H)
              have hji27w : (IntKind.i64.wrap ((x5_2.length : Int) - 1)) = ji27 := (QH _).trans hji27
              by_cases c28 : 0 ≤ (ji27)
              ·rw [if_pos c28] at H
               have c28b0 : decide (0 ≤ (ji27)) = true := decide_eq_true c28
               clear c28
               by_cases c29 : (ji27) < (x5_2.length : Int)
               ·rw [if_pos c29] at H
                have c29b0 : decide ((ji27) < (x5_2.length : Int)) = true := decide_eq_true c29
                clear c29
                by_cases c30 : (ji22) ≤ (x5_2.length : Int)
                ·rw [if_pos c30] at H
                 have c30b0 := eq_true c30
                 have c30b1 : decide ((ji22) ≤ (x5_2.length : Int)) = true := decide_eq_true c30
                 clear c30
                 obtain ⟨y422,hy422⟩ : ∃ y_ : List Bool,y_ = (x5_2.take ((ji22) : Int).toNat) := ⟨_,rfl⟩
                 replace H : (if y422.length < 140737488355328 then (impl_Matches.l0 k2 a1 (y422 ++ [rdOf false x5_2 (ji27)]) l0 (l0.length : Int) (wrap64 (x20_2 + 1))) else (none)) = some r := by first | (rw [hy422]; with_reducible exact H) | (have H2_ := (Option.bind_some _ _).symm.trans H; rw [hy422]; with_reducible exact H2_) | (have H2_ := (Option.bind_some _ _).symm.trans H; with_reducible exact H2_) | with_reducible exact H | (rw [hy422]; exact H) | exact H
                 have Ny422 := QS hy422
                 clear hy422
                 by_cases c31 : y422.length < 140737488355328
                 ·rw [if_pos c31] at H
                  have LMc31 := QS c31
                  clear c31
                  obtain ⟨y425,hy425⟩ : ∃ y_ : List Bool,y_ = (y422 ++ [rdOf false x5_2 (ji27)]) := ⟨_,rfl⟩
                  replace H : (impl_Matches.l0 k2 a1 y425 l0 (l0.length : Int) (wrap64 (x20_2 + 1))) = some r := by first | (rw [hy425]; with_reducible exact H) | (have H2_ := (Option.bind_some _ _).symm.trans H; rw [hy425]; with_reducible exact H2_) | (have H2_ := (Option.bind_some _ _).symm.trans H; with_reducible exact H2_) | with_reducible exact H | (rw [hy425]; exact H) | exact H
                  have Ny425 := QS hy425
                  clear hy425
                  have H' := QS H
                  clear H
                  have p417 : 0 ≤ (x20_2 : Int) := of_decide_eq_true (by first | (with_reducible assumption) | assumption)
                  have q417 : x20_2 < (l0.length : Int) := of_decide_eq_true (by first | (with_reducible assumption) | assumption)
                  obtain ⟨ad417,e417,hx417_0⟩ := Kd.at_int HR0.out x20_2 p417 q417
                  cases e417
                  replace hx417_0 := (HB.out.cell (World.block_lt_of_cell? w _ hx417_0)).trans hx417_0
                  replace p417 := eq_true p417
                  replace q417 := eq_true q417
                  obtain ⟨Ao32,co32,eo32⟩ := Kd.R_slice HO_5.out
                  subst eo32
                  try go_wp2
                  have n0_ := QS (QG HO_5.out)
                  have n1_ := QS (QC HB.out)
                  clear HO_5
                  clear HB
                  revert n0_ n1_
                  intro HO_5 HB
                  have p420 : 0 ≤ ((ji22) : Int) := of_decide_eq_true (by first | (with_reducible assumption) | assumption)
                  have q420 : (ji22) < (x5_2.length : Int) := of_decide_eq_true (by first | (with_reducible assumption) | assumption)
                  obtain ⟨ad420,e420,hx420_0⟩ := Kd.at_bool (Kd.R_reads' HO_5.out).2.2 (ji22) p420 q420
                  (try rw [← Nbq25.out] at hx420_0)
                  cases e420
                  replace p420 := eq_true p420
                  replace q420 := eq_true q420
                  have p421 : 0 ≤ ((ji27) : Int) := of_decide_eq_true (by first | (with_reducible assumption) | assumption)
                  have q421 : (ji27) < (x5_2.length : Int) := of_decide_eq_true (by first | (with_reducible assumption) | assumption)
                  obtain ⟨ad421,e421,hx421_0⟩ := Kd.at_bool (Kd.R_reads' HO_5.out).2.2 (ji27) p421 q421
                  (try rw [← Nbq25.out] at hx421_0)
                  obtain rfl : ad420 = ad421 := (by injection e421)
                  replace p421 := eq_true p421
                  replace q421 := eq_true q421
                  have q34 : ((ji22) : Int) ≤ ((x5_2.length : Int) : Int) := of_decide_eq_true (by first | (with_reducible assumption) | assumption)
                  obtain ⟨i034,hi034,_,hsz34,_⟩ := info_parts info4
                  have hcut34 := cut_to (P := Try.prog) 57 4 .i64 Try.underlying57 hi034 (some ad420) x5_2.length co32 (ji22) (of_decide_eq_true (by first | (with_reducible assumption) | assumption)) q34 (Kd.R_reads' HO_5.out).2.1
                  have hr34 := Kd.R_take (m := ((ji22) : Int).toNat) HO_5.out (by omega)
                  have hy34 : y422.length = ((ji22) : Int).toNat := (by rw [Ny422.out,List.length_take]; omega)
                  rw [← Ny422.out] at hr34
                  rw [← hy34] at hr34 hcut34
                  clear hy34 hi034 hsz34 HO_5
                  have HO424 := QS hr34
                  clear hr34
                  replace q34 := eq_true q34
                  refine start_ (n := 19) (S := fun w' => w'.cell? (ad420.add ((ji22)).toNat) = some (.bool true) ∧ w'.cell? (ad420.add ((ji27)).toNat) = some (.bool (rdOf false x5_2 (ji27)))) (ds := [16,17]) (ab 19 0) (by kernel_rfl) rfl rfl ⟨hx420_0,hx421_0⟩ (fun hHeld => ?_); refine with_tabW impl_Matches.tab13 impl_Matches.bits13 (fun HT_ HW_ => ?_)
                  generalize wr.drew = w33 at HB HO424 hx420_0 hx421_0 hHeld ⊢
                  refine QN (i := 0) (N := some 47) (v := ?_) (a' := ?_) (ab 19 1) rfl rfl (QL HT_.out (by kernel_rfl)) (fun _ _ _ h => h) (Or.inl ⟨by rfl,?_⟩) ?_ ?_
                  rotate_left
                  ·intro w'
                   go_simp
                   with_reducible rfl
                  rotate_left
                  ·simp only [Act.put,QO,QP,QR,QH,QK]
                   rfl
                  refine QN (i := 1) (N := some 48) (v := ?_) (a' := ?_) (ab 19 3) rfl rfl (QL HT_.out (by kernel_rfl)) (fun _ _ _ h => h) (Or.inl ⟨by rfl,?_⟩) ?_ ?_
                  rotate_left
                  ·intro w'
                   go_simp
                   with_reducible rfl
                  rotate_left
                  ·simp only [Act.put,QO,QP,QR,QH,QK]
                   rfl
                  refine QN (i := 2) (N := some 49) (v := ?_) (a' := ?_) (ab 19 7) rfl rfl (QL HT_.out (by kernel_rfl)) (fun _ _ _ h => h) (Or.inl ⟨by rfl,?_⟩) ?_ ?_
                  rotate_left
                  ·intro w'
                   go_simp
                   with_reducible rfl
                  rotate_left
                  ·simp only [Act.put,QO,QP,QR,QH,QK]
                   rfl
                  refine QN (i := 4) (N := some 51) (v := ?_) (a' := ?_) (ab 19 23) rfl rfl (QL HT_.out (by kernel_rfl)) (fun _ _ _ h => h) (Or.inl ⟨by rfl,?_⟩) ?_ ?_
                  rotate_left
                  ·intro w'
                   go_simp
                   with_reducible rfl
                  rotate_left
                  ·simp only [Act.put,QO,QP,QR,QH,QK]
                   rfl
                  refine QN (i := 5) (N := some 52) (v := ?_) (a' := ?_) (ab 19 55) rfl rfl (QL HT_.out (by kernel_rfl)) (fun _ _ _ h => h) (Or.inl ⟨by rfl,?_⟩) ?_ ?_
                  rotate_left
                  ·intro w'
                   go_simp
                   with_reducible rfl
                  rotate_left
                  ·simp only [Act.put,QO,QP,QR,QH,QK]
                   rfl
                  refine QN (i := 6) (N := some 53) (v := ?_) (a' := ?_) (ab 19 119) rfl rfl (QL HT_.out (by kernel_rfl)) (fun _ _ _ h => h) (Or.inl ⟨by rfl,?_⟩) ?_ ?_
                  rotate_left
                  ·intro w'
                   go_simp
                   with_reducible rfl
                  rotate_left
                  ·simp only [Act.put,QO,QP,QR,QH,QK]
                   rfl
                  refine QN (i := 7) (N := some 54) (v := ?_) (a' := ?_) (ab 19 247) rfl rfl (QL HT_.out (by kernel_rfl)) (fun _ _ _ h => h) (Or.inl ⟨by rfl,?_⟩) ?_ ?_
                  rotate_left
                  ·intro w'
                   go_simp
                   with_reducible rfl
                  rotate_left
                  ·simp only [Act.put,QO,QP,QR,QH,QK]
                   rfl
                  refine QN (i := 3) (N := some 50) (v := ?_) (a' := ?_) (ab 19 255) rfl rfl (QL HT_.out (by kernel_rfl)) (fun _ _ _ h => h) (Or.inl ⟨by rfl,?_⟩) ?_ ?_
                  rotate_left
                  ·intro w'
                   go_simp
                   with_reducible rfl
                  rotate_left
                  ·simp only [Act.put,QO,QP,QR,QH,QK]
                   rfl
                  refine take_ (i := 8) (N := some 55) (v := ?_) (a' := ?_) (ab 19 511) rfl rfl (take_ofW HT_.out HW_.out (by kernel_rfl)) (fun _ _ _ h => h) (Or.inl ⟨by rfl,?_⟩) hHeld ?_ ?_
                  rotate_left
                  ·rintro w' ⟨s0,s1⟩
                   go_simp
                   with_reducible rfl
                  rotate_left
                  ·simp only [Act.put,QO,QP,QR,QH,QK]
                   rfl
                  refine QN (i := 9) (N := some 56) (v := ?_) (a' := ?_) (ab 19 1023) rfl rfl (QL HT_.out (by kernel_rfl)) (fun _ _ _ h => h) (Or.inl ⟨by rfl,?_⟩) ?_ ?_
                  rotate_left
                  ·intro w'
                   go_simp
                   with_reducible rfl
                  rotate_left
                  ·simp only [Act.put,QO,QP,QR,QH,QK]
                   rfl
                  refine QN (i := 10) (N := some 57) (v := ?_) (a' := ?_) (ab 19 2047) rfl rfl (QL HT_.out (by kernel_rfl)) (fun _ _ _ h => h) (Or.inl ⟨by rfl,?_⟩) ?_ ?_
                  rotate_left
                  ·intro w'
                   go_simp
                   with_reducible rfl
                  rotate_left
                  ·simp only [Act.put,QO,QP,QR,QH,QK]
                   rfl
                  refine QN (i := 11) (N := some 58) (v := ?_) (a' := ?_) (ab 19 4095) rfl rfl (QL HT_.out (by kernel_rfl)) (fun _ _ _ h => h) (Or.inl ⟨by rfl,?_⟩) ?_ ?_
                  rotate_left
                  ·intro w'
                   go_simp
                   with_reducible rfl
                  rotate_left
                  ·simp only [Act.put,QO,QP,QR,QH,QK]
                   rfl
                  refine QN (i := 12) (N := some 59) (v := ?_) (a' := ?_) (ab 19 8191) rfl rfl (QL HT_.out (by kernel_rfl)) (fun _ _ _ h => h) (Or.inl ⟨by rfl,?_⟩) ?_ ?_
                  rotate_left
                  ·intro w'
                   go_simp
                   with_reducible rfl
                  rotate_left
                  ·simp only [Act.put,QO,QP,QR,QH,QK]
                   rfl
                  refine QN (i := 13) (N := some 60) (v := ?_) (a' := ?_) (ab 19 16383) rfl rfl (QL HT_.out (by kernel_rfl)) (fun _ _ _ h => h) (Or.inl ⟨by rfl,?_⟩) ?_ ?_
                  rotate_left
                  ·intro w'
                   go_simp
                   with_reducible rfl
                  rotate_left
                  ·simp only [Act.put,QO,QP,QR,QH,QK]
                   rfl
                  refine take_ (i := 14) (N := some 61) (v := ?_) (a' := ?_) (ab 19 32767) rfl rfl (take_ofW HT_.out HW_.out (by kernel_rfl)) (fun _ _ _ h => h) (Or.inl ⟨by rfl,?_⟩) hHeld ?_ ?_
                  rotate_left
                  ·rintro w' ⟨s0,s1⟩
                   go_simp
                   with_reducible rfl
                  rotate_left
                  ·simp only [Act.put,QO,QP,QR,QH,QK]
                   rfl
                  refine QN (i := 15) (N := some 62) (v := ?_) (a' := ?_) (ab 19 65535) rfl rfl (QL HT_.out (by kernel_rfl)) (fun _ _ _ h => h) (Or.inl ⟨by rfl,?_⟩) ?_ ?_
                  rotate_left
                  ·intro w'
                   go_simp
                   with_reducible rfl
                  rotate_left
                  ·simp only [Act.put,QO,QP,QR,QH,QK]
                   rfl
                  refine last_ (i := 16) (N := some 63) (ab 19 131071) rfl rfl (one_of HT_.out (by kernel_rfl)) (by decide) (fun K hK => ?_)
                  refine value_ (w1 := ?_) (v := ?_) (by rfl) rfl ?_ ?_
                  rotate_left 2
                  ·go_simp
                   constructor
                   ·rfl
                   ·rfl
                  refine hK.out _ _ ?_
                  clear hK K
                  refine norm_ (a' := ?_) ?_ ?_
                  rotate_left
                  ·show Act.put _ (some 63) _ = _
                   simp only [Act.put,QO,QP,QR,QH,QK]
                   rfl
                  refine last_ (i := 17) (N := some 64) (ab 19 262143) rfl rfl (one_of HT_.out (by kernel_rfl)) (by decide) (fun K hK => ?_)
                  refine Kd.R_append_step Kd.bool (w0 := w) w.heap.size (by rfl) (.tmp 50) (.tmp 63) 57 4 (.bool false) 1 rfl Try.underlying57 info4 rfl (by decide) (by omega) (.slice (some ad420) y422.length co32) y422 (rdOf false x5_2 (ji27)) [.bool (rdOf false x5_2 (ji27))] (fun _ => True) (fun _ => False) rfl rfl ?aP (fun _ hk => hk.elim) ?aF ?aO ?aB ?aS ?aL ?_
                  (case aP => exact rfl)
                  (case aB => exact (by repeat (first | (with_reducible first | exact HB.out | apply QE | apply QB | apply QC) | exact HB.out)))
                  (case aF => exact (fun _ _ => trivial))
                  (case aO => exact (by (with_reducible repeat (first | apply QI | apply QJ | apply QG)); exact HO424.out))
                  (case aS => exact (below_size (by repeat (first | (with_reducible first | exact HB.out | apply QE | apply QB | apply QC) | exact HB.out))))
                  (case aL => have := LMc31.out; omega)
                  intro v426 w35 ho hb hg hat
                  rw [← Ny425.out] at ho
                  have n0_ := QS (hb)
                  have n1_ := QS (ho)
                  clear HB
                  clear HO424
                  revert n0_ n1_
                  intro HB HO427
                  clear ho hb hg hat
                  refine hK.out _ _ ?_
                  clear hK K
                  refine norm_ (a' := ?_) ?_ ?_
                  rotate_left
                  ·show Act.put _ (some 64) _ = _
                   simp only [Act.put,QO,QP,QR,QH,QK]
                   rfl
                  refine QN (i := 18) (N := some 5) (v := ?_) (a' := ?_) (ab 19 524287) rfl rfl (QL HT_.out (by kernel_rfl)) (fun _ _ _ h => h) (Or.inl ⟨by rfl,?_⟩) ?_ ?_
                  rotate_left
                  ·intro w'
                   go_simp
                   with_reducible rfl
                  rotate_left
                  ·simp only [Act.put,QO,QP,QR,QH,QK]
                   rfl
                  refine done_ (done_of HT_.out (by kernel_rfl)) ?_
                  try go_wp2
                  go_roundg k2
                  case measure => have := HJ2.out; have := HK2.out; omega
                  case rel => exact ⟨(y425),(wrap64 (x20_2 + 1)),(by first | rfl | (simp; done) | (simp [*]; done)),H',⟨by have := HJ2.out; have := HK2.out; omega⟩,⟨by (with_reducible repeat (first | apply QI | apply QJ | apply QG)); exact HO427.out⟩,⟨by repeat (first | (with_reducible first | exact HB.out | apply QE | apply QB | apply QC) | exact HB.out)⟩⟩
                 ·rw [if_neg c31] at H
                  exact absurd H (by simp)
                ·rw [if_neg c30] at H
                 exact absurd H (by simp)
               ·rw [if_neg c29] at H
                exact absurd H (by simp)
              ·rw [if_neg c28] at H
               exact absurd H (by simp)
             ·replace c26 := Bool.eq_false_iff.mpr c26
              subst c26
              rw [if_neg (show ¬ (false = true) by decide)] at H
              by_cases c36 : (ji22) ≤ (x5_2.length : Int)
              ·rw [if_pos c36] at H
               have c36b0 := eq_true c36
               have c36b1 : decide ((ji22) ≤ (x5_2.length : Int)) = true := decide_eq_true c36
               clear c36
               obtain ⟨y428,hy428⟩ : ∃ y_ : List Bool,y_ = (x5_2.take ((ji22) : Int).toNat) := ⟨_,rfl⟩
               replace H : (if y428.length < 140737488355328 then (impl_Matches.l0 k2 a1 (y428 ++ [false]) l0 (l0.length : Int) (wrap64 (x20_2 + 1))) else (none)) = some r := by first | (rw [hy428]; with_reducible exact H) | (have H2_ := (Option.bind_some _ _).symm.trans H; rw [hy428]; with_reducible exact H2_) | (have H2_ := (Option.bind_some _ _).symm.trans H; with_reducible exact H2_) | with_reducible exact H | (rw [hy428]; exact H) | exact H
               have Ny428 := QS hy428
               clear hy428
               by_cases c37 : y428.length < 140737488355328
               ·rw [if_pos c37] at H
                have LMc37 := QS c37
                clear c37
                obtain ⟨y431,hy431⟩ : ∃ y_ : List Bool,y_ = (y428 ++ [false]) := ⟨_,rfl⟩
                replace H : (impl_Matches.l0 k2 a1 y431 l0 (l0.length : Int) (wrap64 (x20_2 + 1))) = some r := by first | (rw [hy431]; with_reducible exact H) | (have H2_ := (Option.bind_some _ _).symm.trans H; rw [hy431]; with_reducible exact H2_) | (have H2_ := (Option.bind_some _ _).symm.trans H; with_reducible exact H2_) | with_reducible exact H | (rw [hy431]; exact H) | exact H
                have Ny431 := QS hy431
                clear hy431
                have H' := QS H
                clear H
                have p417 : 0 ≤ (x20_2 : Int) := of_decide_eq_true (by first | (with_reducible assumption) | assumption)
                have q417 : x20_2 < (l0.length : Int) := of_decide_eq_true (by first | (with_reducible assumption) | assumption)
                obtain ⟨ad417,e417,hx417_0⟩ := Kd.at_int HR0.out x20_2 p417 q417
                cases e417
                replace hx417_0 := (HB.out.cell (World.block_lt_of_cell? w _ hx417_0)).trans hx417_0
                replace p417 := eq_true p417
                replace q417 := eq_true q417
                obtain ⟨Ao38,co38,eo38⟩ := Kd.R_slice HO_5.out
                subst eo38
                try go_wp2
                have n0_ := QS (QG HO_5.out)
                have n1_ := QS (QC HB.out)
                clear HO_5
                clear HB
                revert n0_ n1_
                intro HO_5 HB
                have p420 : 0 ≤ ((ji22) : Int) := of_decide_eq_true (by first | (with_reducible assumption) | assumption)
                have q420 : (ji22) < (x5_2.length : Int) := of_decide_eq_true (by first | (with_reducible assumption) | assumption)
                obtain ⟨ad420,e420,hx420_0⟩ := Kd.at_bool (Kd.R_reads' HO_5.out).2.2 (ji22) p420 q420
                (try rw [← Nbq25.out] at hx420_0)
                cases e420
                replace p420 := eq_true p420
                replace q420 := eq_true q420
                have q40 : ((ji22) : Int) ≤ ((x5_2.length : Int) : Int) := of_decide_eq_true (by first | (with_reducible assumption) | assumption)
                obtain ⟨i040,hi040,_,hsz40,_⟩ := info_parts info4
                have hcut40 := cut_to (P := Try.prog) 57 4 .i64 Try.underlying57 hi040 (some ad420) x5_2.length co38 (ji22) (of_decide_eq_true (by first | (with_reducible assumption) | assumption)) q40 (Kd.R_reads' HO_5.out).2.1
                have hr40 := Kd.R_take (m := ((ji22) : Int).toNat) HO_5.out (by omega)
                have hy40 : y428.length = ((ji22) : Int).toNat := (by rw [Ny428.out,List.length_take]; omega)
                rw [← Ny428.out] at hr40
                rw [← hy40] at hr40 hcut40
                clear hy40 hi040 hsz40 HO_5
                have HO430 := QS hr40
                clear hr40
                replace q40 := eq_true q40
                refine start_ (n := 19) (S := fun w' => w'.cell? (ad420.add ((ji22)).toNat) = some (.bool false)) (ds := [16,17]) (ab 19 0) (by kernel_rfl) rfl rfl (hx420_0) (fun hHeld => ?_); refine with_tabW impl_Matches.tab13 impl_Matches.bits13 (fun HT_ HW_ => ?_)
                generalize wr.drew = w39 at HB HO430 hx420_0 hHeld ⊢
                refine QN (i := 0) (N := some 47) (v := ?_) (a' := ?_) (ab 19 1) rfl rfl (QL HT_.out (by kernel_rfl)) (fun _ _ _ h => h) (Or.inl ⟨by rfl,?_⟩) ?_ ?_
                rotate_left
                ·intro w'
                 go_simp
                 with_reducible rfl
                rotate_left
                ·simp only [Act.put,QO,QP,QR,QH,QK]
                 rfl
                refine QN (i := 1) (N := some 48) (v := ?_) (a' := ?_) (ab 19 3) rfl rfl (QL HT_.out (by kernel_rfl)) (fun _ _ _ h => h) (Or.inl ⟨by rfl,?_⟩) ?_ ?_
                rotate_left
                ·intro w'
                 go_simp
                 with_reducible rfl
                rotate_left
                ·simp only [Act.put,QO,QP,QR,QH,QK]
                 rfl
                refine QN (i := 2) (N := some 49) (v := ?_) (a' := ?_) (ab 19 7) rfl rfl (QL HT_.out (by kernel_rfl)) (fun _ _ _ h => h) (Or.inl ⟨by rfl,?_⟩) ?_ ?_
                rotate_left
                ·intro w'
                 go_simp
                 with_reducible rfl
                rotate_left
                ·simp only [Act.put,QO,QP,QR,QH,QK]
                 rfl
                refine QN (i := 4) (N := some 51) (v := ?_) (a' := ?_) (ab 19 23) rfl rfl (QL HT_.out (by kernel_rfl)) (fun _ _ _ h => h) (Or.inl ⟨by rfl,?_⟩) ?_ ?_
                rotate_left
                ·intro w'
                 go_simp
                 with_reducible rfl
                rotate_left
                ·simp only [Act.put,QO,QP,QR,QH,QK]
                 rfl
                refine QN (i := 5) (N := some 52) (v := ?_) (a' := ?_) (ab 19 55) rfl rfl (QL HT_.out (by kernel_rfl)) (fun _ _ _ h => h) (Or.inl ⟨by rfl,?_⟩) ?_ ?_
                rotate_left
                ·intro w'
                 go_simp
                 with_reducible rfl
                rotate_left
                ·simp only [Act.put,QO,QP,QR,QH,QK]
                 rfl
                refine QN (i := 6) (N := some 53) (v := ?_) (a' := ?_) (ab 19 119) rfl rfl (QL HT_.out (by kernel_rfl)) (fun _ _ _ h => h) (Or.inl ⟨by rfl,?_⟩) ?_ ?_
                rotate_left
                ·intro w'
                 go_simp
                 with_reducible rfl
                rotate_left
                ·simp only [Act.put,QO,QP,QR,QH,QK]
                 rfl
                refine QN (i := 7) (N := some 54) (v := ?_) (a' := ?_) (ab 19 247) rfl rfl (QL HT_.out (by kernel_rfl)) (fun _ _ _ h => h) (Or.inl ⟨by rfl,?_⟩) ?_ ?_
                rotate_left
                ·intro w'
                 go_simp
                 with_reducible rfl
                rotate_left
                ·simp only [Act.put,QO,QP,QR,QH,QK]
                 rfl
                refine QN (i := 3) (N := some 50) (v := ?_) (a' := ?_) (ab 19 255) rfl rfl (QL HT_.out (by kernel_rfl)) (fun _ _ _ h => h) (Or.inl ⟨by rfl,?_⟩) ?_ ?_
                rotate_left
                ·intro w'
                 go_simp
                 with_reducible rfl
                rotate_left
                ·simp only [Act.put,QO,QP,QR,QH,QK]
                 rfl
                refine take_ (i := 8) (N := some 55) (v := ?_) (a' := ?_) (ab 19 511) rfl rfl (take_ofW HT_.out HW_.out (by kernel_rfl)) (fun _ _ _ h => h) (Or.inl ⟨by rfl,?_⟩) hHeld ?_ ?_
                rotate_left
                ·intro w' s0
                 go_simp
                 with_reducible rfl
                rotate_left
                ·simp only [Act.put,QO,QP,QR,QH,QK]
                 rfl
                refine QN (i := 9) (N := some 56) (v := ?_) (a' := ?_) (ab 19 1023) rfl rfl (QL HT_.out (by kernel_rfl)) (fun _ _ _ h => h) (Or.inl ⟨by rfl,?_⟩) ?_ ?_
                rotate_left
                ·intro w'
                 go_simp
                 with_reducible rfl
                rotate_left
                ·simp only [Act.put,QO,QP,QR,QH,QK]
                 rfl
                refine skips_ HT_.out (fun _ _ _ _ h => h) (ab 19 32767) 4 [(10,57),(11,58),(12,59),(13,60),(14,61)] _ _ _ (by kernel_rfl) (by kernel_rfl) (by kernel_rfl) (a' := ?_) ?_ ?_
                rotate_left
                ·simp only [skA,Act.put,QO,QP,QR,QH,QK]
                 rfl
                refine QN (i := 15) (N := some 62) (v := ?_) (a' := ?_) (ab 19 65535) rfl rfl (QL HT_.out (by kernel_rfl)) (fun _ _ _ h => h) (Or.inl ⟨by rfl,?_⟩) ?_ ?_
                rotate_left
                ·intro w'
                 go_simp
                 with_reducible rfl
                rotate_left
                ·simp only [Act.put,QO,QP,QR,QH,QK]
                 rfl
                refine last_ (i := 16) (N := some 63) (ab 19 131071) rfl rfl (one_of HT_.out (by kernel_rfl)) (by decide) (fun K hK => ?_)
                refine value_ (w1 := ?_) (v := ?_) (by rfl) rfl ?_ ?_
                rotate_left 2
                ·go_simp
                 constructor
                 ·rfl
                 ·rfl
                refine hK.out _ _ ?_
                clear hK K
                refine norm_ (a' := ?_) ?_ ?_
                rotate_left
                ·show Act.put _ (some 63) _ = _
                 simp only [Act.put,QO,QP,QR,QH,QK]
                 rfl
                refine last_ (i := 17) (N := some 64) (ab 19 262143) rfl rfl (one_of HT_.out (by kernel_rfl)) (by decide) (fun K hK => ?_)
                refine Kd.R_append_step Kd.bool (w0 := w) w.heap.size (by rfl) (.tmp 50) (.tmp 63) 57 4 (.bool false) 1 rfl Try.underlying57 info4 rfl (by decide) (by omega) (.slice (some ad420) y428.length co38) y428 false [.bool false] (fun _ => True) (fun _ => False) rfl rfl ?aP (fun _ hk => hk.elim) ?aF ?aO ?aB ?aS ?aL ?_
                (case aP => exact rfl)
                (case aB => exact (by repeat (first | (with_reducible first | exact HB.out | apply QE | apply QB | apply QC) | exact HB.out)))
                (case aF => exact (fun _ _ => trivial))
                (case aO => exact (by (with_reducible repeat (first | apply QI | apply QJ | apply QG)); exact HO430.out))
                (case aS => exact (below_size (by repeat (first | (with_reducible first | exact HB.out | apply QE | apply QB | apply QC) | exact HB.out))))
                (case aL => have := LMc37.out; omega)
                intro v432 w41 ho hb hg hat
                rw [← Ny431.out] at ho
                have n0_ := QS (hb)
                have n1_ := QS (ho)
                clear HB
                clear HO430
                revert n0_ n1_
                intro HB HO433
                clear ho hb hg hat
                refine hK.out _ _ ?_
                clear hK K
                refine norm_ (a' := ?_) ?_ ?_
                rotate_left
                ·show Act.put _ (some 64) _ = _
                 simp only [Act.put,QO,QP,QR,QH,QK]
                 rfl
                refine QN (i := 18) (N := some 5) (v := ?_) (a' := ?_) (ab 19 524287) rfl rfl (QL HT_.out (by kernel_rfl)) (fun _ _ _ h => h) (Or.inl ⟨by rfl,?_⟩) ?_ ?_
                rotate_left
                ·intro w'
                 go_simp
                 with_reducible rfl
                rotate_left
                ·simp only [Act.put,QO,QP,QR,QH,QK]
                 rfl
                refine done_ (done_of HT_.out (by kernel_rfl)) ?_
                try go_wp2
                go_roundg k2
                case measure => have := HJ2.out; have := HK2.out; omega
                case rel => exact ⟨(y431),(wrap64 (x20_2 + 1)),(by first | rfl | (simp; done) | (simp [*]; done)),H',⟨by have := HJ2.out; have := HK2.out; omega⟩,⟨by (with_reducible repeat (first | apply QI | apply QJ | apply QG)); exact HO433.out⟩,⟨by repeat (first | (with_reducible first | exact HB.out | apply QE | apply QB | apply QC) | exact HB.out)⟩⟩
               ·rw [if_neg c37] at H
                exact absurd H (by simp)
              ·rw [if_neg c36] at H
               exact absurd H (by simp)
            ·rw [if_neg c24] at H
             exact absurd H (by simp)
           ·rw [if_neg c23] at H
            exact absurd H (by simp)
          ·rw [if_neg c21] at H
           have c21b0 : ((rd l0 x20_2) == (-2)) = false := beq_eq_false_iff_ne.mpr c21
           have c21b1 : ((rd l0 x20_2) != (-2)) = true := bne_iff_ne.mpr c21
           by_cases c42 : (rd l0 x20_2) = (-3)
           ·rw [if_pos c42] at H
            have c42b0 : ((rd l0 x20_2) == (-3)) = true := beq_iff_eq.mpr c42
            have c42b1 : ((rd l0 x20_2) != (-3)) = false := bne_eq_false_iff_eq.mpr c42
            clear c42
            obtain ⟨ji43,hji43⟩ : ∃ j_ : Int,(wrap64 ((x5_2.length : Int) - 2)) = j_ := ⟨_,rfl⟩
            replace H : (if 0 ≤ (ji43) then (if (ji43) < (x5_2.length : Int) then (if rdOf false x5_2 (ji43) = true then (if (ji43) ≤ (x5_2.length : Int) then ((some (x5_2.take ((ji43) : Int).toNat : List Bool)).bind fun y435 => (if y435.length < 140737488355328 then (impl_Matches.l0 k2 a1 (y435 ++ [true]) l0 (l0.length : Int) (wrap64 (x20_2 + 1))) else (none))) else (none)) else (if 0 ≤ (wrap64 ((x5_2.length : Int) - 1)) then (if (wrap64 ((x5_2.length : Int) - 1)) < (x5_2.length : Int) then (if (ji43) ≤ (x5_2.length : Int) then ((some (x5_2.take ((ji43) : Int).toNat : List Bool)).bind fun y442 => (if y442.length < 140737488355328 then (impl_Matches.l0 k2 a1 (y442 ++ [rdOf false x5_2 (wrap64 ((x5_2.length : Int) - 1))]) l0 (l0.length : Int) (wrap64 (x20_2 + 1))) else (none))) else (none)) else (none)) else (none))) else (none)) else (none)) = some r := by first | (rw [hji43] at H; exact H) | (simp only [hji43] at H ⊢; exact H)
            have hji43w : (IntKind.i64.wrap ((x5_2.length : Int) - 2)) = ji43 := (QH _).trans hji43
            by_cases c44 : 0 ≤ (ji43)
            ·rw [if_pos c44] at H
             have c44b0 : decide (0 ≤ (ji43)) = true := decide_eq_true c44
             clear c44
             by_cases c45 : (ji43) < (x5_2.length : Int)
             ·rw [if_pos c45] at H
              have c45b0 : decide ((ji43) < (x5_2.length : Int)) = true := decide_eq_true c45
              clear c45
              obtain ⟨bq46,hbq46⟩ : ∃ b_ : Bool,b_ = (rdOf false x5_2 (ji43)) := ⟨_,rfl⟩
              replace H : (if bq46 = true then (if (ji43) ≤ (x5_2.length : Int) then ((some (x5_2.take ((ji43) : Int).toNat : List Bool)).bind fun y435 => (if y435.length < 140737488355328 then (impl_Matches.l0 k2 a1 (y435 ++ [true]) l0 (l0.length : Int) (wrap64 (x20_2 + 1))) else (none))) else (none)) else (if 0 ≤ (wrap64 ((x5_2.length : Int) - 1)) then (if (wrap64 ((x5_2.length : Int) - 1)) < (x5_2.length : Int) then (if (ji43) ≤ (x5_2.length : Int) then ((some (x5_2.take ((ji43) : Int).toNat : List Bool)).bind fun y442 => (if y442.length < 140737488355328 then (impl_Matches.l0 k2 a1 (y442 ++ [rdOf false x5_2 (wrap64 ((x5_2.length : Int) - 1))]) l0 (l0.length : Int) (wrap64 (x20_2 + 1))) else (none))) else (none)) else (none)) else (none))) = some r := by rw [← hbq46] at H; exact H
              have Nbq46 := QS hbq46
              clear hbq46
              by_cases c47 : bq46 = true
              ·subst c47
               rw [if_pos rfl] at H
               by_cases c48 : (ji43) ≤ (x5_2.length : Int)
               ·rw [if_pos c48] at H
                have c48b0 := eq_true c48
                have c48b1 : decide ((ji43) ≤ (x5_2.length : Int)) = true := decide_eq_true c48
                clear c48
                obtain ⟨y435,hy435⟩ : ∃ y_ : List Bool,y_ = (x5_2.take ((ji43) : Int).toNat) := ⟨_,rfl⟩
                replace H : (if y435.length < 140737488355328 then (impl_Matches.l0 k2 a1 (y435 ++ [true]) l0 (l0.length : Int) (wrap64 (x20_2 + 1))) else (none)) = some r := by first | (rw [hy435]; with_reducible exact H) | (have H2_ := (Option.bind_some _ _).symm.trans H; rw [hy435]; with_reducible exact H2_) | (have H2_ := (Option.bind_some _ _).symm.trans H; with_reducible exact H2_) | with_reducible exact H | (rw [hy435]; exact H) | exact H
                have Ny435 := QS hy435
                clear hy435
                by_cases c49 : y435.length < 140737488355328
                ·rw [if_pos c49] at H
                 have LMc49 := QS c49
                 clear c49
                 obtain ⟨y438,hy438⟩ : ∃ y_ : List Bool,y_ = (y435 ++ [true]) := ⟨_,rfl⟩
                 replace H : (impl_Matches.l0 k2 a1 y438 l0 (l0.length : Int) (wrap64 (x20_2 + 1))) = some r := by first | (rw [hy438]; with_reducible exact H) | (have H2_ := (Option.bind_some _ _).symm.trans H; rw [hy438]; with_reducible exact H2_) | (have H2_ := (Option.bind_some _ _).symm.trans H; with_reducible exact H2_) | with_reducible exact H | (rw [hy438]; exact H) | exact H
                 have Ny438 := QS hy438
                 clear hy438
                 have H' := QS H
                 clear H
                 have p417 : 0 ≤ (x20_2 : Int) := of_decide_eq_true (by first | (with_reducible assumption) | assumption)
                 have q417 : x20_2 < (l0.length : Int) := of_decide_eq_true (by first | (with_reducible assumption) | assumption)
                 obtain ⟨ad417,e417,hx417_0⟩ := Kd.at_int HR0.out x20_2 p417 q417
                 cases e417
                 replace hx417_0 := (HB.out.cell (World.block_lt_of_cell? w _ hx417_0)).trans hx417_0
                 replace p417 := eq_true p417
                 replace q417 := eq_true q417
                 obtain ⟨Ao50,co50,eo50⟩ := Kd.R_slice HO_5.out
                 subst eo50
                 try go_wp2
                 have n0_ := QS (QG HO_5.out)
                 have n1_ := QS (QC HB.out)
                 clear HO_5
                 clear HB
                 revert n0_ n1_
                 intro HO_5 HB
                 have p434 : 0 ≤ ((ji43) : Int) := of_decide_eq_true (by first | (with_reducible assumption) | assumption)
                 have q434 : (ji43) < (x5_2.length : Int) := of_decide_eq_true (by first | (with_reducible assumption) | assumption)
                 obtain ⟨ad434,e434,hx434_0⟩ := Kd.at_bool (Kd.R_reads' HO_5.out).2.2 (ji43) p434 q434
                 (try rw [← Nbq46.out] at hx434_0)
                 cases e434
                 replace p434 := eq_true p434
                 replace q434 := eq_true q434
                 have q52 : ((ji43) : Int) ≤ ((x5_2.length : Int) : Int) := of_decide_eq_true (by first | (with_reducible assumption) | assumption)
                 obtain ⟨i052,hi052,_,hsz52,_⟩ := info_parts info4
                 have hcut52 := cut_to (P := Try.prog) 57 4 .i64 Try.underlying57 hi052 (some ad434) x5_2.length co50 (ji43) (of_decide_eq_true (by first | (with_reducible assumption) | assumption)) q52 (Kd.R_reads' HO_5.out).2.1
                 have hr52 := Kd.R_take (m := ((ji43) : Int).toNat) HO_5.out (by omega)
                 have hy52 : y435.length = ((ji43) : Int).toNat := (by rw [Ny435.out,List.length_take]; omega)
                 rw [← Ny435.out] at hr52
                 rw [← hy52] at hr52 hcut52
                 clear hy52 hi052 hsz52 HO_5
                 have HO437 := QS hr52
                 clear hr52
                 replace q52 := eq_true q52
                 refine start_ (n := 19) (S := fun w' => w'.cell? (ad434.add ((ji43)).toNat) = some (.bool true)) (ds := [16,17]) (ab 19 0) (by kernel_rfl) rfl rfl (hx434_0) (fun hHeld => ?_); refine with_tabW impl_Matches.tab15 impl_Matches.bits15 (fun HT_ HW_ => ?_)
                 generalize wr.drew = w51 at HB HO437 hx434_0 hHeld ⊢
                 refine QN (i := 0) (N := some 67) (v := ?_) (a' := ?_) (ab 19 1) rfl rfl (QL HT_.out (by kernel_rfl)) (fun _ _ _ h => h) (Or.inl ⟨by rfl,?_⟩) ?_ ?_
                 rotate_left
                 ·intro w'
                  go_simp
                  with_reducible rfl
                 rotate_left
                 ·simp only [Act.put,QO,QP,QR,QH,QK]
                  rfl
                 refine QN (i := 1) (N := some 68) (v := ?_) (a' := ?_) (ab 19 3) rfl rfl (QL HT_.out (by kernel_rfl)) (fun _ _ _ h => h) (Or.inl ⟨by rfl,?_⟩) ?_ ?_
                 rotate_left
                 ·intro w'
                  go_simp
                  with_reducible rfl
                 rotate_left
                 ·simp only [Act.put,QO,QP,QR,QH,QK]
                  rfl
                 refine QN (i := 2) (N := some 69) (v := ?_) (a' := ?_) (ab 19 7) rfl rfl (QL HT_.out (by kernel_rfl)) (fun _ _ _ h => h) (Or.inl ⟨by rfl,?_⟩) ?_ ?_
                 rotate_left
                 ·intro w'
                  go_simp
                  with_reducible rfl
                 rotate_left
                 ·simp only [Act.put,QO,QP,QR,QH,QK]
                  rfl
                 refine QN (i := 4) (N := some 71) (v := ?_) (a' := ?_) (ab 19 23) rfl rfl (QL HT_.out (by kernel_rfl)) (fun _ _ _ h => h) (Or.inl ⟨by rfl,?_⟩) ?_ ?_
                 rotate_left
                 ·intro w'
                  go_simp
                  with_reducible rfl
                 rotate_left
                 ·simp only [Act.put,QO,QP,QR,QH,QK]
                  rfl
                 refine QN (i := 5) (N := some 72) (v := ?_) (a' := ?_) (ab 19 55) rfl rfl (QL HT_.out (by kernel_rfl)) (fun _ _ _ h => h) (Or.inl ⟨by rfl,?_⟩) ?_ ?_
                 rotate_left
                 ·intro w'
                  go_simp
                  with_reducible rfl
                 rotate_left
                 ·simp only [Act.put,QO,QP,QR,QH,QK]
                  rfl
                 refine QN (i := 6) (N := some 73) (v := ?_) (a' := ?_) (ab 19 119) rfl rfl (QL HT_.out (by kernel_rfl)) (fun _ _ _ h => h) (Or.inl ⟨by rfl,?_⟩) ?_ ?_
                 rotate_left
                 ·intro w'
                  go_simp
                  with_reducible rfl
                 rotate_left
                 ·simp only [Act.put,QO,QP,QR,QH,QK]
                  rfl
                 refine QN (i := 7) (N := some 74) (v := ?_) (a' := ?_) (ab 19 247) rfl rfl (QL HT_.out (by kernel_rfl)) (fun _ _ _ h => h) (Or.inl ⟨by rfl,?_⟩) ?_ ?_
                 rotate_left
                 ·intro w'
                  go_simp
                  with_reducible rfl
                 rotate_left
                 ·simp only [Act.put,QO,QP,QR,QH,QK]
                  rfl
                 refine QN (i := 3) (N := some 70) (v := ?_) (a' := ?_) (ab 19 255) rfl rfl (QL HT_.out (by kernel_rfl)) (fun _ _ _ h => h) (Or.inl ⟨by rfl,?_⟩) ?_ ?_
                 rotate_left
                 ·intro w'
                  go_simp
                  with_reducible rfl
                 rotate_left
                 ·simp only [Act.put,QO,QP,QR,QH,QK]
                  rfl
                 refine take_ (i := 8) (N := some 75) (v := ?_) (a' := ?_) (ab 19 511) rfl rfl (take_ofW HT_.out HW_.out (by kernel_rfl)) (fun _ _ _ h => h) (Or.inl ⟨by rfl,?_⟩) hHeld ?_ ?_
                 rotate_left
                 ·intro w' s0
                  go_simp
                  with_reducible rfl
                 rotate_left
                 ·simp only [Act.put,QO,QP,QR,QH,QK]
                  rfl
                 refine QN (i := 9) (N := some 76) (v := ?_) (a' := ?_) (ab 19 1023) rfl rfl (QL HT_.out (by kernel_rfl)) (fun _ _ _ h => h) (Or.inl ⟨by rfl,?_⟩) ?_ ?_
                 rotate_left
                 ·intro w'
                  go_simp
                  with_reducible rfl
                 rotate_left
                 ·simp only [Act.put,QO,QP,QR,QH,QK]
                  rfl
                 refine skips_ HT_.out (fun _ _ _ _ h => h) (ab 19 32767) 4 [(10,77),(11,78),(12,79),(13,80),(14,81)] _ _ _ (by kernel_rfl) (by kernel_rfl) (by kernel_rfl) (a' := ?_) ?_ ?_
                 rotate_left
                 ·simp only [skA,Act.put,QO,QP,QR,QH,QK]
                  rfl
                 refine QN (i := 15) (N := some 82) (v := ?_) (a' := ?_) (ab 19 65535) rfl rfl (QL HT_.out (by kernel_rfl)) (fun _ _ _ h => h) (Or.inl ⟨by rfl,?_⟩) ?_ ?_
                 rotate_left
                 ·intro w'
                  go_simp
                  with_reducible rfl
                 rotate_left
                 ·simp only [Act.put,QO,QP,QR,QH,QK]
                  rfl
                 refine last_ (i := 16) (N := some 83) (ab 19 131071) rfl rfl (one_of HT_.out (by kernel_rfl)) (by decide) (fun K hK => ?_)
                 refine value_ (w1 := ?_) (v := ?_) (by rfl) rfl ?_ ?_
                 rotate_left 2
                 ·go_simp
                  constructor
                  ·rfl
                  ·rfl
                 refine hK.out _ _ ?_
                 clear hK K
                 refine norm_ (a' := ?_) ?_ ?_
                 rotate_left
                 ·show Act.put _ (some 83) _ = _
                  simp only [Act.put,QO,QP,QR,QH,QK]
                  rfl
                 refine last_ (i := 17) (N := some 84) (ab 19 262143) rfl rfl (one_of HT_.out (by kernel_rfl)) (by decide) (fun K hK => ?_)
                 refine Kd.R_append_step Kd.bool (w0 := w) w.heap.size (by rfl) (.tmp 70) (.tmp 83) 57 4 (.bool false) 1 rfl Try.underlying57 info4 rfl (by decide) (by omega) (.slice (some ad434) y435.length co50) y435 true [.bool true] (fun _ => True) (fun _ => False) rfl rfl ?aP (fun _ hk => hk.elim) ?aF ?aO ?aB ?aS ?aL ?_
                 (case aP => exact rfl)
                 (case aB => exact (by repeat (first | (with_reducible first | exact HB.out | apply QE | apply QB | apply QC) | exact HB.out)))
                 (case aF => exact (fun _ _ => trivial))
                 (case aO => exact (by (with_reducible repeat (first | apply QI | apply QJ | apply QG)); exact HO437.out))
                 (case aS => exact (below_size (by repeat (first | (with_reducible first | exact HB.out | apply QE | apply QB | apply QC) | exact HB.out))))
                 (case aL => have := LMc49.out; omega)
                 intro v439 w53 ho hb hg hat
                 rw [← Ny438.out] at ho
                 have n0_ := QS (hb)
                 have n1_ := QS (ho)
                 clear HB
                 clear HO437
                 revert n0_ n1_
                 intro HB HO440
                 clear ho hb hg hat
                 refine hK.out _ _ ?_
                 clear hK K
                 refine norm_ (a' := ?_) ?_ ?_
                 rotate_left
                 ·show Act.put _ (some 84) _ = _
                  simp only [Act.put,QO,QP,QR,QH,QK]
                  rfl
                 refine QN (i := 18) (N := some 5) (v := ?_) (a' := ?_) (ab 19 524287) rfl rfl (QL HT_.out (by kernel_rfl)) (fun _ _ _ h => h) (Or.inl ⟨by rfl,?_⟩) ?_ ?_
                 rotate_left
                 ·intro w'
                  go_simp
                  with_reducible rfl
                 rotate_left
                 ·simp only [Act.put,QO,QP,QR,QH,QK]
                  rfl
                 refine done_ (done_of HT_.out (by kernel_rfl)) ?_
                 try go_wp2
                 go_roundg k2
                 case measure => have := HJ2.out; have := HK2.out; omega
                 case rel => exact ⟨(y438),(wrap64 (x20_2 + 1)),(by first | rfl | (simp; done) | (simp [*]; done)),H',⟨by have := HJ2.out; have := HK2.out; omega⟩,⟨by (with_reducible repeat (first | apply QI | apply QJ | apply QG)); exact HO440.out⟩,⟨by repeat (first | (with_reducible first | exact HB.out | apply QE | apply QB | apply QC) | exact HB.out)⟩⟩
                ·rw [if_neg c49] at H
                 exact absurd H (by simp)
               ·rw [if_neg c48] at H
                exact absurd H (by simp)
              ·replace c47 := Bool.eq_false_iff.mpr c47
               subst c47
               rw [if_neg (show ¬ (false = true) by decide)] at H
               obtain ⟨ji54,hji54⟩ : ∃ j_ : Int,(wrap64 ((x5_2.length : Int) - 1)) = j_ := ⟨_,rfl⟩
               replace H : (if 0 ≤ (ji54) then (if (ji54) < (x5_2.length : Int) then (if (ji43) ≤ (x5_2.length : Int) then ((some (x5_2.take ((ji43) : Int).toNat : List Bool)).bind fun y442 => (if y442.length < 140737488355328 then (impl_Matches.l0 k2 a1 (y442 ++ [rdOf false x5_2 (ji54)]) l0 (l0.length : Int) (wrap64 (x20_2 + 1))) else (none))) else (none)) else (none)) else (none)) = some r := by first | (rw [hji54] at H; exact H) | (simp only [hji54] at H ⊢; exact H)
               have hji54w : (IntKind.i64.wrap ((x5_2.length : Int) - 1)) = ji54 := (QH _).trans hji54
               by_cases c55 : 0 ≤ (ji54)
               ·rw [if_pos c55] at H
                have c55b0 : decide (0 ≤ (ji54)) = true := decide_eq_true c55
                clear c55
                by_cases c56 : (ji54) < (x5_2.length : Int)
                ·rw [if_pos c56] at H
                 have c56b0 : decide ((ji54) < (x5_2.length : Int)) = true := decide_eq_true c56
                 clear c56
                 by_cases c57 : (ji43) ≤ (x5_2.length : Int)
                 ·rw [if_pos c57] at H
                  have c57b0 := eq_true c57
                  have c57b1 : decide ((ji43) ≤ (x5_2.length : Int)) = true := decide_eq_true c57
                  clear c57
                  obtain ⟨y442,hy442⟩ : ∃ y_ : List Bool,y_ = (x5_2.take ((ji43) : Int).toNat) := ⟨_,rfl⟩
                  replace H : (if y442.length < 140737488355328 then (impl_Matches.l0 k2 a1 (y442 ++ [rdOf false x5_2 (ji54)]) l0 (l0.length : Int) (wrap64 (x20_2 + 1))) else (none)) = some r := by first | (rw [hy442]; with_reducible exact H) | (have H2_ := (Option.bind_some _ _).symm.trans H; rw [hy442]; with_reducible exact H2_) | (have H2_ := (Option.bind_some _ _).symm.trans H; with_reducible exact H2_) | with_reducible exact H | (rw [hy442]; exact H) | exact H
                  have Ny442 := QS hy442
                  clear hy442
                  by_cases c58 : y442.length < 140737488355328
                  ·rw [if_pos c58] at H
                   have LMc58 := QS c58
                   clear c58
                   obtain ⟨y445,hy445⟩ : ∃ y_ : List Bool,y_ = (y442 ++ [rdOf false x5_2 (ji54)]) := ⟨_,rfl⟩
                   replace H : (impl_Matches.l0 k2 a1 y445 l0 (l0.length : Int) (wrap64 (x20_2 + 1))) = some r := by first | (rw [hy445]; with_reducible exact H) | (have H2_ := (Option.bind_some _ _).symm.trans H; rw [hy445]; with_reducible exact H2_) | (have H2_ := (Option.bind_some _ _).symm.trans H; with_reducible exact H2_) | with_reducible exact H | (rw [hy445]; exact H) | exact H
                   have Ny445 := QS hy445
                   clear hy445
                   have H' := QS H
                   clear H
                   have p417 : 0 ≤ (x20_2 : Int) := of_decide_eq_true (by first | (with_reducible assumption) | assumption)
                   have q417 : x20_2 < (l0.length : Int) := of_decide_eq_true (by first | (with_reducible assumption) | assumption)
                   obtain ⟨ad417,e417,hx417_0⟩ := Kd.at_int HR0.out x20_2 p417 q417
                   cases e417
                   replace hx417_0 := (HB.out.cell (World.block_lt_of_cell? w _ hx417_0)).trans hx417_0
                   replace p417 := eq_true p417
                   replace q417 := eq_true q417
                   obtain ⟨Ao59,co59,eo59⟩ := Kd.R_slice HO_5.out
                   subst eo59
                   try go_wp2
                   have n0_ := QS (QG HO_5.out)
                   have n1_ := QS (QC HB.out)
                   clear HO_5
                   clear HB
                   revert n0_ n1_
                   intro HO_5 HB
                   have p434 : 0 ≤ ((ji43) : Int) := of_decide_eq_true (by first | (with_reducible assumption) | assumption)
                   have q434 : (ji43) < (x5_2.length : Int) := of_decide_eq_true (by first | (with_reducible assumption) | assumption)
                   obtain ⟨ad434,e434,hx434_0⟩ := Kd.at_bool (Kd.R_reads' HO_5.out).2.2 (ji43) p434 q434
                   (try rw [← Nbq46.out] at hx434_0)
                   cases e434
                   replace p434 := eq_true p434
                   replace q434 := eq_true q434
                   have p441 : 0 ≤ ((ji54) : Int) := of_decide_eq_true (by first | (with_reducible assumption) | assumption)
                   have q441 : (ji54) < (x5_2.length : Int) := of_decide_eq_true (by first | (with_reducible assumption) | assumption)
                   obtain ⟨ad441,e441,hx441_0⟩ := Kd.at_bool (Kd.R_reads' HO_5.out).2.2 (ji54) p441 q441
                   (try rw [← Nbq46.out] at hx441_0)
                   obtain rfl : ad434 = ad441 := (by injection e441)
                   replace p441 := eq_true p441
                   replace q441 := eq_true q441
                   have q61 : ((ji43) : Int) ≤ ((x5_2.length : Int) : Int) := of_decide_eq_true (by first | (with_reducible assumption) | assumption)
                   obtain ⟨i061,hi061,_,hsz61,_⟩ := info_parts info4
                   have hcut61 := cut_to (P := Try.prog) 57 4 .i64 Try.underlying57 hi061 (some ad434) x5_2.length co59 (ji43) (of_decide_eq_true (by first | (with_reducible assumption) | assumption)) q61 (Kd.R_reads' HO_5.out).2.1
                   have hr61 := Kd.R_take (m := ((ji43) : Int).toNat) HO_5.out (by omega)
                   have hy61 : y442.length = ((ji43) : Int).toNat := (by rw [Ny442.out,List.length_take]; omega)
                   rw [← Ny442.out] at hr61
                   rw [← hy61] at hr61 hcut61
                   clear hy61 hi061 hsz61 HO_5
                   have HO444 := QS hr61
                   clear hr61
                   replace q61 := eq_true q61
                   refine start_ (n := 19) (S := fun w' => w'.cell? (ad434.add ((ji43)).toNat) = some (.bool false) ∧ w'.cell? (ad434.add ((ji54)).toNat) = some (.bool (rdOf false x5_2 (ji54)))) (ds := [16,17]) (ab 19 0) (by kernel_rfl) rfl rfl ⟨hx434_0,hx441_0⟩ (fun hHeld => ?_); refine with_tabW impl_Matches.tab15 impl_Matches.bits15 (fun HT_ HW_ => ?_)
                   generalize wr.drew = w60 at HB HO444 hx434_0 hx441_0 hHeld ⊢
                   refine QN (i := 0) (N := some 67) (v := ?_) (a' := ?_) (ab 19 1) rfl rfl (QL HT_.out (by kernel_rfl)) (fun _ _ _ h => h) (Or.inl ⟨by rfl,?_⟩) ?_ ?_
                   rotate_left
                   ·intro w'
                    go_simp
                    with_reducible rfl
                   rotate_left
                   ·simp only [Act.put,QO,QP,QR,QH,QK]
                    rfl
                   refine QN (i := 1) (N := some 68) (v := ?_) (a' := ?_) (ab 19 3) rfl rfl (QL HT_.out (by kernel_rfl)) (fun _ _ _ h => h) (Or.inl ⟨by rfl,?_⟩) ?_ ?_
                   rotate_left
                   ·intro w'
                    go_simp
                    with_reducible rfl
                   rotate_left
                   ·simp only [Act.put,QO,QP,QR,QH,QK]
                    rfl
                   refine QN (i := 2) (N := some 69) (v := ?_) (a' := ?_) (ab 19 7) rfl rfl (QL HT_.out (by kernel_rfl)) (fun _ _ _ h => h) (Or.inl ⟨by rfl,?_⟩) ?_ ?_
                   rotate_left
                   ·intro w'
                    go_simp
                    with_reducible rfl
                   rotate_left
                   ·simp only [Act.put,QO,QP,QR,QH,QK]
                    rfl
                   refine QN (i := 4) (N := some 71) (v := ?_) (a' := ?_) (ab 19 23) rfl rfl (QL HT_.out (by kernel_rfl)) (fun _ _ _ h => h) (Or.inl ⟨by rfl,?_⟩) ?_ ?_
                   rotate_left
                   ·intro w'
                    go_simp
                    with_reducible rfl
                   rotate_left
                   ·simp only [Act.put,QO,QP,QR,QH,QK]
                    rfl
                   refine QN (i := 5) (N := some 72) (v := ?_) (a' := ?_) (ab 19 55) rfl rfl (QL HT_.out (by kernel_rfl)) (fun _ _ _ h => h) (Or.inl ⟨by rfl,?_⟩) ?_ ?_
                   rotate_left
                   ·intro w'
                    go_simp
                    with_reducible rfl
                   rotate_left
                   ·simp only [Act.put,QO,QP,QR,QH,QK]
                    rfl
                   refine QN (i := 6) (N := some 73) (v := ?_) (a' := ?_) (ab 19 119) rfl rfl (QL HT_.out (by kernel_rfl)) (fun _ _ _ h => h) (Or.inl ⟨by rfl,?_⟩) ?_ ?_
                   rotate_left
                   ·intro w'
                    go_simp
                    with_reducible rfl
                   rotate_left
                   ·simp only [Act.put,QO,QP,QR,QH,QK]
                    rfl
                   refine QN (i := 7) (N := some 74) (v := ?_) (a' := ?_) (ab 19 247) rfl rfl (QL HT_.out (by kernel_rfl)) (fun _ _ _ h => h) (Or.inl ⟨by rfl,?_⟩) ?_ ?_
                   rotate_left
                   ·intro w'
                    go_simp
                    with_reducible rfl
                   rotate_left
                   ·simp only [Act.put,QO,QP,QR,QH,QK]
                    rfl
                   refine QN (i := 3) (N := some 70) (v := ?_) (a' := ?_) (ab 19 255) rfl rfl (QL HT_.out (by kernel_rfl)) (fun _ _ _ h => h) (Or.inl ⟨by rfl,?_⟩) ?_ ?_
                   rotate_left
                   ·intro w'
                    go_simp
                    with_reducible rfl
                   rotate_left
                   ·simp only [Act.put,QO,QP,QR,QH,QK]
                    rfl
                   refine take_ (i := 8) (N := some 75) (v := ?_) (a' := ?_) (ab 19 511) rfl rfl (take_ofW HT_.out HW_.out (by kernel_rfl)) (fun _ _ _ h => h) (Or.inl ⟨by rfl,?_⟩) hHeld ?_ ?_
                   rotate_left
                   ·rintro w' ⟨s0,s1⟩
                    go_simp
                    with_reducible rfl
                   rotate_left
                   ·simp only [Act.put,QO,QP,QR,QH,QK]
                    rfl
                   refine QN (i := 9) (N := some 76) (v := ?_) (a' := ?_) (ab 19 1023) rfl rfl (QL HT_.out (by kernel_rfl)) (fun _ _ _ h => h) (Or.inl ⟨by rfl,?_⟩) ?_ ?_
                   rotate_left
                   ·intro w'
                    go_simp
                    with_reducible rfl
                   rotate_left
                   ·simp only [Act.put,QO,QP,QR,QH,QK]
                    rfl
                   refine QN (i := 10) (N := some 77) (v := ?_) (a' := ?_) (ab 19 2047) rfl rfl (QL HT_.out (by kernel_rfl)) (fun _ _ _ h => h) (Or.inl ⟨by rfl,?_⟩) ?_ ?_
                   rotate_left
                   ·intro w'
                    go_simp
                    with_reducible rfl
                   rotate_left
                   ·simp only [Act.put,QO,QP,QR,QH,QK]
                    rfl
                   refine QN (i := 11) (N := some 78) (v := ?_) (a' := ?_) (ab 19 4095) rfl rfl (QL HT_.out (by kernel_rfl)) (fun _ _ _ h => h) (Or.inl ⟨by rfl,?_⟩) ?_ ?_
                   rotate_left
                   ·intro w'
                    go_simp
                    with_reducible rfl
                   rotate_left
                   ·simp only [Act.put,QO,QP,QR,QH,QK]
                    rfl
                   refine QN (i := 12) (N := some 79) (v := ?_) (a' := ?_) (ab 19 8191) rfl rfl (QL HT_.out (by kernel_rfl)) (fun _ _ _ h => h) (Or.inl ⟨by rfl,?_⟩) ?_ ?_
                   rotate_left
                   ·intro w'
                    go_simp
                    with_reducible rfl
                   rotate_left
                   ·simp only [Act.put,QO,QP,QR,QH,QK]
                    rfl
                   refine QN (i := 13) (N := some 80) (v := ?_) (a' := ?_) (ab 19 16383) rfl rfl (QL HT_.out (by kernel_rfl)) (fun _ _ _ h => h) (Or.inl ⟨by rfl,?_⟩) ?_ ?_
                   rotate_left
                   ·intro w'
                    go_simp
                    with_reducible rfl
                   rotate_left
                   ·simp only [Act.put,QO,QP,QR,QH,QK]
                    rfl
                   refine take_ (i := 14) (N := some 81) (v := ?_) (a' := ?_) (ab 19 32767) rfl rfl (take_ofW HT_.out HW_.out (by kernel_rfl)) (fun _ _ _ h => h) (Or.inl ⟨by rfl,?_⟩) hHeld ?_ ?_
                   rotate_left
                   ·rintro w' ⟨s0,s1⟩
                    go_simp
                    with_reducible rfl
                   rotate_left
                   ·simp only [Act.put,QO,QP,QR,QH,QK]
                    rfl
                   refine QN (i := 15) (N := some 82) (v := ?_) (a' := ?_) (ab 19 65535) rfl rfl (QL HT_.out (by kernel_rfl)) (fun _ _ _ h => h) (Or.inl ⟨by rfl,?_⟩) ?_ ?_
                   rotate_left
                   ·intro w'
                    go_simp
                    with_reducible rfl
                   rotate_left
                   ·simp only [Act.put,QO,QP,QR,QH,QK]
                    rfl
                   refine last_ (i := 16) (N := some 83) (ab 19 131071) rfl rfl (one_of HT_.out (by kernel_rfl)) (by decide) (fun K hK => ?_)
                   refine value_ (w1 := ?_) (v := ?_) (by rfl) rfl ?_ ?_
                   rotate_left 2
                   ·go_simp
                    constructor
                    ·rfl
                    ·rfl
                   refine hK.out _ _ ?_
                   clear hK K
                   refine norm_ (a' := ?_) ?_ ?_
                   rotate_left
                   ·show Act.put _ (some 83) _ = _
                    simp only [Act.put,QO,QP,QR,QH,QK]
                    rfl
                   refine last_ (i := 17) (N := some 84) (ab 19 262143) rfl rfl (one_of HT_.out (by kernel_rfl)) (by decide) (fun K hK => ?_)
                   refine Kd.R_append_step Kd.bool (w0 := w) w.heap.size (by rfl) (.tmp 70) (.tmp 83) 57 4 (.bool false) 1 rfl Try.underlying57 info4 rfl (by decide) (by omega) (.slice (some ad434) y442.length co59) y442 (rdOf false x5_2 (ji54)) [.bool (rdOf false x5_2 (ji54))] (fun _ => True) (fun _ => False) rfl rfl ?aP (fun _ hk => hk.elim) ?aF ?aO ?aB ?aS ?aL ?_
                   (case aP => exact rfl)
                   (case aB => exact (by repeat (first | (with_reducible first | exact HB.out | apply QE | apply QB | apply QC) | exact HB.out)))
                   (case aF => exact (fun _ _ => trivial))
                   (case aO => exact (by (with_reducible repeat (first | apply QI | apply QJ | apply QG)); exact HO444.out))
                   (case aS => exact (below_size (by repeat (first | (with_reducible first | exact HB.out | apply QE | apply QB | apply QC) | exact HB.out))))
                   (case aL => have := LMc58.out; omega)
                   intro v446 w62 ho hb hg hat
                   rw [← Ny445.out] at ho
                   have n0_ := QS (hb)
                   have n1_ := QS (ho)
                   clear HB
                   clear HO444
                   revert n0_ n1_
                   intro HB HO447
                   clear ho hb hg hat
                   refine hK.out _ _ ?_
                   clear hK K
                   refine norm_ (a' := ?_) ?_ ?_
                   rotate_left
                   ·show Act.put _ (some 84) _ = _
                    simp only [Act.put,QO,QP,QR,QH,QK]
                    rfl
                   refine QN (i := 18) (N := some 5) (v := ?_) (a' := ?_) (ab 19 524287) rfl rfl (QL HT_.out (by kernel_rfl)) (fun _ _ _ h => h) (Or.inl ⟨by rfl,?_⟩) ?_ ?_
                   rotate_left
                   ·intro w'
                    go_simp
                    with_reducible rfl
                   rotate_left
                   ·simp only [Act.put,QO,QP,QR,QH,QK]
                    rfl
                   refine done_ (done_of HT_.out (by kernel_rfl)) ?_
                   try go_wp2
                   go_roundg k2
                   case measure => have := HJ2.out; have := HK2.out; omega
                   case rel => exact ⟨(y445),(wrap64 (x20_2 + 1)),(by first | rfl | (simp; done) | (simp [*]; done)),H',⟨by have := HJ2.out; have := HK2.out; omega⟩,⟨by (with_reducible repeat (first | apply QI | apply QJ | apply QG)); exact HO447.out⟩,⟨by repeat (first | (with_reducible first | exact HB.out | apply QE | apply QB | apply QC) | exact HB.out)⟩⟩
                  ·rw [if_neg c58] at H
                   exact absurd H (by simp)
                 ·rw [if_neg c57] at H
                  exact absurd H (by simp)
                ·rw [if_neg c56] at H
                 exact absurd H (by simp)
               ·rw [if_neg c55] at H
                exact absurd H (by simp)
             ·rw [if_neg c45] at H
              exact absurd H (by simp)
            ·rw [if_neg c44] at H
             exact absurd H (by simp)
           ·rw [if_neg c42] at H
            have c42b0 : ((rd l0 x20_2) == (-3)) = false := beq_eq_false_iff_ne.mpr c42
            have c42b1 : ((rd l0 x20_2) != (-3)) = true := bne_iff_ne.mpr c42
            replace H := QT.mp H
            obtain ⟨t448,A630,H⟩ := H
            have A63 := QS A630
            clear A630
            by_cases c64 : x5_2.length < 140737488355328
            ·rw [if_pos c64] at H
             have LMc64 := QS c64
             clear c64
             obtain ⟨y449,hy449⟩ : ∃ y_ : List Bool,y_ = (x5_2 ++ [t448]) := ⟨_,rfl⟩
             replace H : (impl_Matches.l0 k2 a1 y449 l0 (l0.length : Int) (wrap64 (x20_2 + 1))) = some r := by first | (rw [hy449]; with_reducible exact H) | (have H2_ := (Option.bind_some _ _).symm.trans H; rw [hy449]; with_reducible exact H2_) | (have H2_ := (Option.bind_some _ _).symm.trans H; with_reducible exact H2_) | with_reducible exact H | (rw [hy449]; exact H) | exact H
             have Ny449 := QS hy449
             clear hy449
             have H' := QS H
             clear H
             have p417 : 0 ≤ (x20_2 : Int) := of_decide_eq_true (by first | (with_reducible assumption) | assumption)
             have q417 : x20_2 < (l0.length : Int) := of_decide_eq_true (by first | (with_reducible assumption) | assumption)
             obtain ⟨ad417,e417,hx417_0⟩ := Kd.at_int HR0.out x20_2 p417 q417
             cases e417
             replace hx417_0 := (HB.out.cell (World.block_lt_of_cell? w _ hx417_0)).trans hx417_0
             replace p417 := eq_true p417
             replace q417 := eq_true q417
             obtain ⟨Ao65,co65,eo65⟩ := Kd.R_slice HO_5.out
             subst eo65
             go_wp2_with (first | ((with_reducible refine gate_callee (f := 57) rfl ?_); refine goesL_ (some 30) rfl rfl Try.func57 (by kernel_rfl) rfl #[.int .i64 (rd l0 x20_2),.int .i64 a1] rfl (by (try simp only [List.map_toArray,List.map_cons,List.map_nil]); first | done | rfl | (simp only [List.length_drop,List.length_take]; rfl)) ?_; (with_reducible refine (impl_asks.calls (rd l0 x20_2) a1 t448 _ A63.out).mono ?_); rintro e w' ⟨rfl,⟨nd,rfl⟩⟩; refine ⟨_,rfl,?_⟩) | ((with_reducible refine gate_builtin (b := .append) (xs := #[.tmp 27,.tmp 31]) rfl ?_); at_builtin; refine Kd.R_append Kd.bool (w0 := w) w.heap.size rfl (.tmp 27) (.tmp 31) 57 4 (.bool false) 1 rfl Try.underlying57 info4 rfl (by decide) (by omega) (.slice Ao65 x5_2.length co65) x5_2 t448 [.bool t448] (fun _ => True) (fun _ => False) rfl rfl ?aP (fun _ hk => hk.elim) ?aF ?aO ?aB ?aS ?aL ?_; (case aP => exact rfl); (case aB => exact (by repeat (first | (with_reducible first | exact HB.out | apply QE | apply QB | apply QC) | exact HB.out))); (case aF => exact (fun _ _ => trivial)); (case aO => exact (by (with_reducible repeat (first | apply QI | apply QJ | apply QG)); exact HO_5.out)); (case aS => exact (below_size (by repeat (first | (with_reducible first | exact HB.out | apply QE | apply QB | apply QC) | exact HB.out)))); (case aL => have := LMc64.out; omega); intro v450 w66 ho hb hg hat; rw [← Ny449.out] at ho; have n0_ := QS (hb); have n1_ := QS (ho); clear HB; clear HO_5; revert n0_ n1_; intro HB HO451; clear ho hb hg hat))
             go_roundg k2
             case measure => have := HJ2.out; have := HK2.out; omega
             case rel => exact ⟨(y449),(wrap64 (x20_2 + 1)),(by first | rfl | (simp; done) | (simp [*]; done)),H',⟨by have := HJ2.out; have := HK2.out; omega⟩,⟨by (with_reducible repeat (first | apply QI | apply QJ | apply QG)); exact HO451.out⟩,⟨by repeat (first | (with_reducible first | exact HB.out | apply QE | apply QB | apply QC) | exact HB.out)⟩⟩
            ·rw [if_neg c64] at H
             exact absurd H (by simp)
        ·rw [if_neg c12] at H
         exact absurd H (by simp)
       ·rw [if_neg c11] at H
        exact absurd H (by simp)
      ·rw [if_neg c10] at H
       have c10b0 : decide (x20_2 < (l0.length : Int)) = false := decide_eq_false c10
       clear c10
       by_cases c67 : 0 < (x5_2.length : Int)
       ·rw [if_pos c67] at H
        have c67b0 : decide (0 < (x5_2.length : Int)) = true := decide_eq_true c67
        have c67b1 : decide (0 < x5_2.length) = true := decide_eq_true (by omega)
        clear c67
        obtain rfl := Option.some.inj H
        obtain ⟨Ao68,co68,eo68⟩ := Kd.R_slice HO_5.out
        subst eo68
        have p416 : 0 ≤ (0 : Int) := (by omega)
        have q416 : 0 < (x5_2.length : Int) := of_decide_eq_true (by first | (with_reducible assumption) | assumption)
        obtain ⟨ad416,e416,hx416_0⟩ := Kd.at_bool (Kd.R_reads' HO_5.out).2.2 0 p416 q416
        cases e416
        have qi416 : (0 < x5_2.length) = True := eq_true (by omega)
        (try rw [show ((0 : Int)).toNat = 0 from rfl] at hx416_0)
        (try rw [Addr.add_zero'] at hx416_0)
        replace p416 := eq_true p416
        replace q416 := eq_true q416
        go_wp2
        go_ret
        exact ⟨by first | rfl | (simp [errW_none,errW_some] <;> rfl) | (simp [*,errW_none,errW_some] <;> rfl),by repeat (first | (with_reducible first | exact HB.out | apply QE | apply QB | apply QC) | exact HB.out)⟩
       ·rw [if_neg c67] at H
        exact absurd H (by simp)

/-! ### impl_FitsOn: function 33 -/
def impl_FitsOn.j0 : Nat → Int → Int → Bool → Int → Int → Bool → Bool → List Int → List Int → Int → Int → Option (Bool)
 | 0,_,_,_,_,_,_,_,_,_,_,_ => none
 | k + 1,x1,x2,x19,x453000,x453001,x453002,x453003,x453004,x453005,x453006,x453007 => if x19 = true then (some false) else (if x453002 = true then ((impl_SuitOf.f x2).bind fun t456 => ((impl_SuitOf.f x1).bind fun t457 => (if t456 = t457 then (some true) else (if x453003 = true then ((impl_RankOf.f x2).bind fun t458 => ((impl_RankOf.f x1).bind fun t459 => (if t458 = t459 then (some true) else ((impl_Matches.f k x453004 x2).bind fun t460 => (some t460))))) else ((impl_Matches.f k x453004 x2).bind fun t461 => (some t461)))))) else (if x453003 = true then ((impl_RankOf.f x2).bind fun t462 => ((impl_RankOf.f x1).bind fun t463 => (if t462 = t463 then (some true) else ((impl_Matches.f k x453004 x2).bind fun t464 => (some t464))))) else ((impl_Matches.f k x453004 x2).bind fun t465 => (some t465))))
def impl_FitsOn.f (k : Nat) (a0_0 : Int) (a0_1 : Int) (a0_2 : Bool) (a0_3 : Bool) (l0_4 : List Int) (l0_5 : List Int) (a0_6 : Int) (a0_7 : Int) (a1 : Int) (a2 : Int) : Option (Bool) := (impl_IsRules.f k a0_0 a0_1 a0_2 a0_3 l0_4 l0_5 a0_6 a0_7).bind fun t453 => (if t453 = true then ((impl_IsCard.f a1).bind fun t454 => (if t454 = true then ((impl_IsCard.f a2).bind fun t455 => (impl_FitsOn.j0 k a1 a2 (!t455) a0_0 a0_1 a0_2 a0_3 l0_4 l0_5 a0_6 a0_7)) else (impl_FitsOn.j0 k a1 a2 true a0_0 a0_1 a0_2 a0_3 l0_4 l0_5 a0_6 a0_7))) else (impl_FitsOn.j0 k a1 a2 true a0_0 a0_1 a0_2 a0_3 l0_4 l0_5 a0_6 a0_7))
theorem impl_FitsOn.mono_l : ∀ k, (∀ y0 y1 y2 y3 y4 y5 y6 y7 y8 y9 y10, LeO (impl_FitsOn.j0 k y0 y1 y2 y3 y4 y5 y6 y7 y8 y9 y10) (impl_FitsOn.j0 (k + 1) y0 y1 y2 y3 y4 y5 y6 y7 y8 y9 y10))
 | 0 => fun _ _ _ _ _ _ _ _ _ _ _ r h => by simp [impl_FitsOn.j0] at h
 | k + 1 => by
  have ih0 := impl_FitsOn.mono_l k
  ·intro y0 y1 y2 y3 y4 y5 y6 y7 y8 y9 y10
   unfold impl_FitsOn.j0
   repeat' first
   | (with_reducible exact ih0 _ _ _ _ _ _ _ _ _ _ _)
   | (with_reducible exact impl_IsRules.mono _ _ _ _ _ _ _ _ _)
   | (with_reducible exact impl_Matches.mono _ _ _)
   | (with_reducible exact LeO.refl _)
   | (with_reducible exact LeO.none _)
   | (with_reducible refine LeO.ite ?_ ?_)
   | (with_reducible refine LeO.bind ?_ (fun _ => ?_))
   | exact ih0 _ _ _ _ _ _ _ _ _ _ _
   | exact impl_IsRules.mono _ _ _ _ _ _ _ _ _
   | exact impl_Matches.mono _ _ _
   | exact LeO.none _
   | refine LeO.ite ?_ ?_
   | refine LeO.bind ?_ (fun _ => ?_)
theorem impl_FitsOn.mono : ∀ a0 a1 a2 a3 a4 a5 a6 a7 a8 a9 k, LeO (impl_FitsOn.f k a0 a1 a2 a3 a4 a5 a6 a7 a8 a9) (impl_FitsOn.f (k + 1) a0 a1 a2 a3 a4 a5 a6 a7 a8 a9) := by
 intro a0 a1 a2 a3 a4 a5 a6 a7 a8 a9 k
 have ih0 := impl_FitsOn.mono_l k
 unfold impl_FitsOn.f
 repeat' first
   | (with_reducible exact ih0 _ _ _ _ _ _ _ _ _ _ _)
   | (with_reducible exact impl_IsRules.mono _ _ _ _ _ _ _ _ _)
   | (with_reducible exact impl_Matches.mono _ _ _)
   | (with_reducible exact LeO.refl _)
   | (with_reducible exact LeO.none _)
   | (with_reducible refine LeO.ite ?_ ?_)
   | (with_reducible refine LeO.bind ?_ (fun _ => ?_))
   | exact ih0 _ _ _ _ _ _ _ _ _ _ _
   | exact impl_IsRules.mono _ _ _ _ _ _ _ _ _
   | exact impl_Matches.mono _ _ _
   | exact LeO.none _
   | refine LeO.ite ?_ ?_
   | refine LeO.bind ?_ (fun _ => ?_)
set_option maxHeartbeats 8000000 in
set_option maxRecDepth 100000 in
theorem impl_FitsOn.calls (k : Nat) (a0_0 : Int) (a0_1 : Int) (a0_2 : Bool) (a0_3 : Bool) (A0_4 : Option Addr) (c0_4 : Nat) (l0_4 : List Int) (A0_5 : Option Addr) (c0_5 : Nat) (l0_5 : List Int) (a0_6 : Int) (a0_7 : Int) (a1 : Int) (a2 : Int) (r : Bool) (w : World) (hr0_4 : Kd.C (Kd.int .i64) w A0_4 l0_4.length l0_4) (hc0_4 : l0_4.length ≤ c0_4) (hr0_5 : Kd.C (Kd.int .i64) w A0_5 l0_5.length l0_5) (hc0_5 : l0_5.length ≤ c0_5) (h : impl_FitsOn.f k a0_0 a0_1 a0_2 a0_3 l0_4 l0_5 a0_6 a0_7 a1 a2 = some r) :
  Calls Try.prog 33 #[.agg #[.int .i64 a0_0,.int .i64 a0_1,.bool a0_2,.bool a0_3,.slice A0_4 l0_4.length c0_4,.slice A0_5 l0_5.length c0_5,.int .i64 a0_6,.int .i64 a0_7],.int .i64 a1,.int .i64 a2] w fun e w' => e = .returned (.bool r) ∧ Below w.heap.size w w' := by
 have hu30 := Try.underlying30
 have HR0_4 := QS hr0_4
 have HC0_4 := QS hc0_4
 clear hr0_4 hc0_4
 have HR0_5 := QS hr0_5
 have HC0_5 := QS hc0_5
 clear hr0_5 hc0_5
 have HB := QS (Below.refl w.heap.size w)
 have H : ((impl_IsRules.f k a0_0 a0_1 a0_2 a0_3 l0_4 l0_5 a0_6 a0_7).bind fun t453 => (if t453 = true then ((impl_IsCard.f a1).bind fun t454 => (if t454 = true then ((impl_IsCard.f a2).bind fun t455 => (impl_FitsOn.j0 k a1 a2 (!t455) a0_0 a0_1 a0_2 a0_3 l0_4 l0_5 a0_6 a0_7)) else (impl_FitsOn.j0 k a1 a2 true a0_0 a0_1 a0_2 a0_3 l0_4 l0_5 a0_6 a0_7))) else (impl_FitsOn.j0 k a1 a2 true a0_0 a0_1 a0_2 a0_3 l0_4 l0_5 a0_6 a0_7))) = some r := h
 clear h
 have HC4 := QS H
 clear H
 go_enter Try.func33,Try.ntmps33
 go_upto_region 1 with (first | ((with_reducible refine gate_dst (N := 3) rfl ?_); refine box_event ?hg (N := 3) ?hd (cs := #[.int .i64 a0_0,.int .i64 a0_1,.bool a0_2,.bool a0_3,.slice A0_4 l0_4.length c0_4,.slice A0_5 l0_5.length c0_5,.int .i64 a0_6,.int .i64 a0_7]) (t := 30) ?hr ?_; (case hd => rfl); (case hg => rfl); (case hr => first | (go_simp; done) | (go_simp; rfl)); intro gb452 hg w5 hbox hb; have n0_ := QS (below_step (by repeat (first | (with_reducible first | exact HB.out | apply QE | apply QB | apply QC) | exact HB.out)) hb); have n1_ := QS (hbox); have n2_ := QS ((by rw [hg]; exact (below_size (by repeat (first | (with_reducible first | exact HB.out | apply QE | apply QB | apply QC) | exact HB.out))) : w.heap.size ≤ gb452)); have n3_ := QS ((by rw [hg]; exact (below_size (by repeat (first | (with_reducible first | exact HB.out | apply QE | apply QB | apply QC) | exact HB.out))) : w.heap.size ≤ gb452)); clear HB; revert n0_ n1_ n2_ n3_; intro HB BK452 GW452 GE452; clear hb hbox hg))
 (try simp only [Act.put,QO,QP,QR])
 go_cut [19] (fun v19 wc => ∃ (kq : Nat) (x19_3 : Bool),v19 = .bool x19_3 ∧ Aside0 (impl_FitsOn.j0 kq a1 a2 x19_3 a0_0 a0_1 a0_2 a0_3 l0_4 l0_5 a0_6 a0_7 = some r) ∧ Aside0 (kq ≤ k) ∧ Aside0 (wc.heap[gb452]? = some (.cells #[.int .i64 a0_0,.int .i64 a0_1,.bool a0_2,.bool a0_3,(.slice A0_4 l0_4.length c0_4),(.slice A0_5 l0_5.length c0_5),.int .i64 a0_6,.int .i64 a0_7] 30 (0,0))) ∧ Aside0 (Below w.heap.size w wc))
 case first =>
  have H := HC4.out
  clear HC4
  replace H := QT.mp H
  obtain ⟨t453,A60,H⟩ := H
  have A6 := QS A60
  clear A60
  by_cases c7 : t453 = true
  rotate_left
  replace c7 := Bool.eq_false_iff.mpr c7
  subst c7
  rw [if_neg (show ¬ (false = true) by decide)] at H
  have H' := QS H
  clear H
  rotate_right
  subst c7
  rw [if_pos rfl] at H
  replace H := QT.mp H
  obtain ⟨t454,A80,H⟩ := H
  have A8 := QS A80
  clear A80
  by_cases c9 : t454 = true
  rotate_left
  replace c9 := Bool.eq_false_iff.mpr c9
  subst c9
  rw [if_neg (show ¬ (false = true) by decide)] at H
  have H' := QS H
  clear H
  rotate_right
  subst c9
  rw [if_pos rfl] at H
  replace H := QT.mp H
  obtain ⟨t455,A100,H⟩ := H
  have A10 := QS A100
  clear A100
  have H' := QS H
  clear H
  all_goals
   have hcz11_0 : w5.cell? ⟨gb452,0,none⟩ = some (.int .i64 a0_0) := (QD BK452.out 0).trans rfl
   have hcz11_1 : w5.cell? ⟨gb452,1,none⟩ = some (.int .i64 a0_1) := (QD BK452.out 1).trans rfl
   have hcz11_2 : w5.cell? ⟨gb452,2,none⟩ = some (.bool a0_2) := (QD BK452.out 2).trans rfl
   have hcz11_3 : w5.cell? ⟨gb452,3,none⟩ = some (.bool a0_3) := (QD BK452.out 3).trans rfl
   have hcz11_4 : w5.cell? ⟨gb452,4,none⟩ = some (.slice A0_4 l0_4.length c0_4) := (QD BK452.out 4).trans rfl
   have hcz11_5 : w5.cell? ⟨gb452,5,none⟩ = some (.slice A0_5 l0_5.length c0_5) := (QD BK452.out 5).trans rfl
   have hcz11_6 : w5.cell? ⟨gb452,6,none⟩ = some (.int .i64 a0_6) := (QD BK452.out 6).trans rfl
   have hcz11_7 : w5.cell? ⟨gb452,7,none⟩ = some (.int .i64 a0_7) := (QD BK452.out 7).trans rfl
   have hfz11_0 := QF BK452.out 0
   have hfz11_1 := QF BK452.out 1
   have hfz11_2 := QF BK452.out 2
   have hfz11_3 := QF BK452.out 3
   have hfz11_4 := QF BK452.out 4
   have hfz11_5 := QF BK452.out 5
   have hfz11_6 := QF BK452.out 6
   have hfz11_7 := QF BK452.out 7
   go_wp2_with (first | ((with_reducible refine gate_callee (f := 41) rfl ?_); refine goesL_ (some 8) rfl rfl Try.func41 (by kernel_rfl) rfl #[.agg #[.int .i64 a0_0,.int .i64 a0_1,.bool a0_2,.bool a0_3,.slice A0_4 l0_4.length c0_4,.slice A0_5 l0_5.length c0_5,.int .i64 a0_6,.int .i64 a0_7]] rfl (by (try simp only [List.map_toArray,List.map_cons,List.map_nil]); first | done | rfl | (simp only [List.length_drop,List.length_take]; rfl)) ?_; (with_reducible refine (impl_IsRules.calls k a0_0 a0_1 a0_2 a0_3 _ _ l0_4 _ _ l0_5 a0_6 a0_7 _ _ ?side1 ?side2 ?side3 ?side4 A6.out).mono ?_); (case side1 => repeat (first | exact (Kd.C_below HR0_4.out HB.out) | (with_reducible refine Kd.C_alloc ?_ _) | (with_reducible refine Kd.C_drewN ?_ _) | (with_reducible refine Kd.C_drew ?_))); (case side2 => exact HC0_4.out); (case side3 => repeat (first | exact (Kd.C_below HR0_5.out HB.out) | (with_reducible refine Kd.C_alloc ?_ _) | (with_reducible refine Kd.C_drewN ?_ _) | (with_reducible refine Kd.C_drew ?_))); (case side4 => exact HC0_5.out); rintro e w12 ⟨rfl,hb⟩; refine ⟨_,rfl,?_⟩; have n0_ := QS (blk_below (g := gb452) (o := .cells #[.int .i64 a0_0,.int .i64 a0_1,.bool a0_2,.bool a0_3,.slice A0_4 l0_4.length c0_4,.slice A0_5 l0_5.length c0_5,.int .i64 a0_6,.int .i64 a0_7] 30 (0,0)) (by (with_reducible repeat (first | refine blk_drewN ?_ _ | refine blk_drew ?_ | refine blk_alloc ?_ _)); exact BK452.out) hb); have n1_ := QS (below_step (by repeat (first | (with_reducible first | exact HB.out | apply QE | apply QB | apply QC | refine QM ?_ GE452.out) | exact HB.out)) hb); clear BK452; clear HB; revert n0_ n1_; intro BK452 HB; (try clear hb); (try clear hb2); (try clear hk); (try clear hi)) | (go_at_call 34; (with_reducible refine (impl_IsCard.calls a1 _ _ A8.out).mono ?_); rintro e w' ⟨rfl,⟨nd,rfl⟩⟩) | (go_at_call 34; (with_reducible refine (impl_IsCard.calls a2 t455 _ A10.out).mono ?_); rintro e w' ⟨rfl,⟨nd,rfl⟩⟩))
   go_meet
   case rel => exact ⟨_,_,(by first | rfl | (simp; done) | (simp [*]; done)),H',⟨by first | omega | exact Nat.le_refl _⟩,⟨by (with_reducible repeat (first | refine blk_drewN ?_ _ | refine blk_drew ?_ | refine blk_alloc ?_ _)); exact BK452.out⟩,⟨by repeat (first | (with_reducible first | exact HB.out | apply QE | apply QB | apply QC | refine QM ?_ GE452.out) | exact HB.out)⟩⟩
 case rest =>
  clear HC4
  try clear p2
  try clear c3
  try clear c4
  try clear c7
  try clear c9
  try clear hcz11_0 hcz11_1 hcz11_2 hcz11_3 hcz11_4 hcz11_5 hcz11_6 hcz11_7
  try clear hcz13_0 hcz13_1 hcz13_2 hcz13_3 hcz13_4 hcz13_5 hcz13_6 hcz13_7
  try clear hcz15_0 hcz15_1 hcz15_2 hcz15_3 hcz15_4 hcz15_5 hcz15_6 hcz15_7
  try clear hfz11_0 hfz11_1 hfz11_2 hfz11_3 hfz11_4 hfz11_5 hfz11_6 hfz11_7
  try clear hfz13_0 hfz13_1 hfz13_2 hfz13_3 hfz13_4 hfz13_5 hfz13_6 hfz13_7
  try clear hfz15_0 hfz15_1 hfz15_2 hfz15_3 hfz15_4 hfz15_5 hfz15_6 hfz15_7
  obtain ⟨kq,x19_3,rfl,HA,HJ3,BK452,HB⟩ := hcut
  cases kq with
  | zero => exact absurd HA.out (by simp [impl_FitsOn.j0])
  | succ kj3 =>
   have H := HA.out
   clear HA
   simp only [impl_FitsOn.j0] at H
   by_cases c17 : x19_3 = true
   rotate_left
   replace c17 := Bool.eq_false_iff.mpr c17
   subst c17
   rw [if_neg (show ¬ (false = true) by decide)] at H
   by_cases c18 : a0_2 = true
   rotate_left
   replace c18 := Bool.eq_false_iff.mpr c18
   subst c18
   rw [if_neg (show ¬ (false = true) by decide)] at H
   by_cases c23 : a0_3 = true
   rotate_left
   ·replace c23 := Bool.eq_false_iff.mpr c23
    subst c23
    rw [if_neg (show ¬ (false = true) by decide)] at H
    replace H := QT.mp H
    obtain ⟨t460,A280,H⟩ := H
    have A28 := QS A280
    clear A280
    try (obtain rfl := Option.some.inj (A28.out.symm.trans A28.out))
    obtain rfl := Option.some.inj H
    have hcz43_0 : wc.cell? ⟨gb452,0,none⟩ = some (.int .i64 a0_0) := (QD BK452.out 0).trans rfl
    have hcz43_1 : wc.cell? ⟨gb452,1,none⟩ = some (.int .i64 a0_1) := (QD BK452.out 1).trans rfl
    have hcz43_2 : wc.cell? ⟨gb452,2,none⟩ = some (.bool false) := (QD BK452.out 2).trans rfl
    have hcz43_3 : wc.cell? ⟨gb452,3,none⟩ = some (.bool false) := (QD BK452.out 3).trans rfl
    have hcz43_4 : wc.cell? ⟨gb452,4,none⟩ = some (.slice A0_4 l0_4.length c0_4) := (QD BK452.out 4).trans rfl
    have hcz43_5 : wc.cell? ⟨gb452,5,none⟩ = some (.slice A0_5 l0_5.length c0_5) := (QD BK452.out 5).trans rfl
    have hcz43_6 : wc.cell? ⟨gb452,6,none⟩ = some (.int .i64 a0_6) := (QD BK452.out 6).trans rfl
    have hcz43_7 : wc.cell? ⟨gb452,7,none⟩ = some (.int .i64 a0_7) := (QD BK452.out 7).trans rfl
    have hfz43_0 := QF BK452.out 0
    have hfz43_1 := QF BK452.out 1
    have hfz43_2 := QF BK452.out 2
    have hfz43_3 := QF BK452.out 3
    have hfz43_4 := QF BK452.out 4
    have hfz43_5 := QF BK452.out 5
    have hfz43_6 := QF BK452.out 6
    have hfz43_7 := QF BK452.out 7
    go_wp2_with (first | (go_at_call 47; (with_reducible refine (impl_Matches.calls kj3 _ _ l0_4 a2 t460 _ ?side1 ?side2 A28.out).mono ?_); (case side1 => repeat (first | exact (Kd.C_below HR0_4.out HB.out) | (with_reducible refine Kd.C_alloc ?_ _) | (with_reducible refine Kd.C_drewN ?_ _) | (with_reducible refine Kd.C_drew ?_))); (case side2 => exact HC0_4.out); rintro e w44 ⟨rfl,hb⟩; have n0_ := QS (blk_below (g := gb452) (o := .cells #[.int .i64 a0_0,.int .i64 a0_1,.bool false,.bool false,.slice A0_4 l0_4.length c0_4,.slice A0_5 l0_5.length c0_5,.int .i64 a0_6,.int .i64 a0_7] 30 (0,0)) (by (with_reducible repeat (first | refine blk_drewN ?_ _ | refine blk_drew ?_ | refine blk_alloc ?_ _)); exact BK452.out) hb); have n1_ := QS (below_step (by repeat (first | (with_reducible first | exact HB.out | apply QE | apply QB | apply QC | refine QM ?_ GE452.out) | exact HB.out)) hb); clear BK452; clear HB; revert n0_ n1_; intro BK452 HB; (try clear hb); (try clear hb2); (try clear hk); (try clear hi)))
    go_ret
    exact ⟨by first | rfl | (simp [errW_none,errW_some] <;> rfl) | (simp [*,errW_none,errW_some] <;> rfl),by repeat (first | (with_reducible first | exact HB.out | apply QE | apply QB | apply QC | refine QM ?_ GE452.out) | exact HB.out)⟩
   rotate_right
   subst c23
   rw [if_pos rfl] at H
   replace H := QT.mp H
   obtain ⟨t458,A240,H⟩ := H
   have A24 := QS A240
   clear A240
   try (obtain rfl := Option.some.inj (A24.out.symm.trans A24.out))
   replace H := QT.mp H
   obtain ⟨t459,A250,H⟩ := H
   have A25 := QS A250
   clear A250
   try (obtain rfl := Option.some.inj (A25.out.symm.trans A25.out))
   by_cases c26 : t458 = t459
   rotate_left
   rw [if_neg c26] at H
   have c26b0 : (t458 == t459) = false := beq_eq_false_iff_ne.mpr c26
   have c26b1 : (t458 != t459) = true := bne_iff_ne.mpr c26
   replace H := QT.mp H
   obtain ⟨t460,A280,H⟩ := H
   have A28 := QS A280
   clear A280
   try (obtain rfl := Option.some.inj (A28.out.symm.trans A31.out))
   obtain rfl := Option.some.inj H
   rotate_right
   rw [if_pos c26] at H
   have c26b0 : (t458 == t459) = true := beq_iff_eq.mpr c26
   have c26b1 : (t458 != t459) = false := bne_eq_false_iff_eq.mpr c26
   clear c26
   obtain rfl := Option.some.inj H
   rotate_right
   subst c18
   rw [if_pos rfl] at H
   replace H := QT.mp H
   obtain ⟨t456,A190,H⟩ := H
   have A19 := QS A190
   clear A190
   replace H := QT.mp H
   obtain ⟨t457,A200,H⟩ := H
   have A20 := QS A200
   clear A200
   by_cases c21 : t456 = t457
   rotate_left
   rw [if_neg c21] at H
   have c21b0 : (t456 == t457) = false := beq_eq_false_iff_ne.mpr c21
   have c21b1 : (t456 != t457) = true := bne_iff_ne.mpr c21
   by_cases c23 : a0_3 = true
   rotate_left
   replace c23 := Bool.eq_false_iff.mpr c23
   subst c23
   rw [if_neg (show ¬ (false = true) by decide)] at H
   replace H := QT.mp H
   obtain ⟨t460,A280,H⟩ := H
   have A28 := QS A280
   clear A280
   try (obtain rfl := Option.some.inj (A28.out.symm.trans A28.out))
   obtain rfl := Option.some.inj H
   rotate_right
   subst c23
   rw [if_pos rfl] at H
   replace H := QT.mp H
   obtain ⟨t458,A240,H⟩ := H
   have A24 := QS A240
   clear A240
   replace H := QT.mp H
   obtain ⟨t459,A250,H⟩ := H
   have A25 := QS A250
   clear A250
   by_cases c26 : t458 = t459
   rotate_left
   rw [if_neg c26] at H
   have c26b0 : (t458 == t459) = false := beq_eq_false_iff_ne.mpr c26
   have c26b1 : (t458 != t459) = true := bne_iff_ne.mpr c26
   replace H := QT.mp H
   obtain ⟨t460,A280,H⟩ := H
   have A28 := QS A280
   clear A280
   obtain rfl := Option.some.inj H
   rotate_right
   rw [if_pos c26] at H
   have c26b0 : (t458 == t459) = true := beq_iff_eq.mpr c26
   have c26b1 : (t458 != t459) = false := bne_eq_false_iff_eq.mpr c26
   clear c26
   obtain rfl := Option.some.inj H
   rotate_right
   rw [if_pos c21] at H
   have c21b0 : (t456 == t457) = true := beq_iff_eq.mpr c21
   have c21b1 : (t456 != t457) = false := bne_eq_false_iff_eq.mpr c21
   clear c21
   obtain rfl := Option.some.inj H
   rotate_right
   ·subst c17
    rw [if_pos rfl] at H
    obtain rfl := Option.some.inj H
    go_wp2
    go_ret
    exact ⟨by first | rfl | (simp [errW_none,errW_some] <;> rfl) | (simp [*,errW_none,errW_some] <;> rfl),by repeat (first | (with_reducible first | exact HB.out | apply QE | apply QB | apply QC | refine QM ?_ GE452.out) | exact HB.out)⟩
   all_goals
    have hcz29_0 : wc.cell? ⟨gb452,0,none⟩ = some (.int .i64 a0_0) := (QD BK452.out 0).trans rfl
    have hcz29_1 : wc.cell? ⟨gb452,1,none⟩ = some (.int .i64 a0_1) := (QD BK452.out 1).trans rfl
    have hcz29_2 : wc.cell? ⟨gb452,2,none⟩ = some (.bool _) := (QD BK452.out 2).trans rfl
    have hcz29_3 : wc.cell? ⟨gb452,3,none⟩ = some (.bool _) := (QD BK452.out 3).trans rfl
    have hcz29_4 : wc.cell? ⟨gb452,4,none⟩ = some (.slice A0_4 l0_4.length c0_4) := (QD BK452.out 4).trans rfl
    have hcz29_5 : wc.cell? ⟨gb452,5,none⟩ = some (.slice A0_5 l0_5.length c0_5) := (QD BK452.out 5).trans rfl
    have hcz29_6 : wc.cell? ⟨gb452,6,none⟩ = some (.int .i64 a0_6) := (QD BK452.out 6).trans rfl
    have hcz29_7 : wc.cell? ⟨gb452,7,none⟩ = some (.int .i64 a0_7) := (QD BK452.out 7).trans rfl
    have hfz29_0 := QF BK452.out 0
    have hfz29_1 := QF BK452.out 1
    have hfz29_2 := QF BK452.out 2
    have hfz29_3 := QF BK452.out 3
    have hfz29_4 := QF BK452.out 4
    have hfz29_5 := QF BK452.out 5
    have hfz29_6 := QF BK452.out 6
    have hfz29_7 := QF BK452.out 7
    go_wp2_with (first | (go_at_call 21; (with_reducible refine (impl_SuitOf.calls a2 t456 _ A19.out).mono ?_); rintro e w' ⟨rfl,⟨nd,rfl⟩⟩) | (go_at_call 21; (with_reducible refine (impl_SuitOf.calls a1 t457 _ A20.out).mono ?_); rintro e w' ⟨rfl,⟨nd,rfl⟩⟩) | (go_at_call 46; (with_reducible refine (impl_RankOf.calls a2 t458 _ A24.out).mono ?_); rintro e w' ⟨rfl,⟨nd,rfl⟩⟩) | (go_at_call 46; (with_reducible refine (impl_RankOf.calls a1 t459 _ A25.out).mono ?_); rintro e w' ⟨rfl,⟨nd,rfl⟩⟩) | (go_at_call 47; (with_reducible refine (impl_Matches.calls kj3 _ _ l0_4 a2 t460 _ ?side1 ?side2 A28.out).mono ?_); (case side1 => repeat (first | exact (Kd.C_below HR0_4.out (by repeat (first | (with_reducible first | exact HB.out | apply QE | apply QB | apply QC | refine QM ?_ GE452.out) | exact HB.out))) | (with_reducible refine Kd.C_alloc ?_ _) | (with_reducible refine Kd.C_drewN ?_ _) | (with_reducible refine Kd.C_drew ?_))); (case side2 => exact HC0_4.out); rintro e w30 ⟨rfl,hb⟩; have n0_ := QS (blk_below (g := gb452) (o := .cells #[.int .i64 a0_0,.int .i64 a0_1,.bool _,.bool _,.slice A0_4 l0_4.length c0_4,.slice A0_5 l0_5.length c0_5,.int .i64 a0_6,.int .i64 a0_7] 30 (0,0)) (by (with_reducible repeat (first | refine blk_drewN ?_ _ | refine blk_drew ?_ | refine blk_alloc ?_ _)); exact BK452.out) hb); have n1_ := QS (below_step (by repeat (first | (with_reducible first | exact HB.out | apply QE | apply QB | apply QC | refine QM ?_ GE452.out) | exact HB.out)) hb); clear BK452; clear HB; revert n0_ n1_; intro BK452 HB; (try clear hb); (try clear hb2); (try clear hk); (try clear hi)))
    go_ret
    exact ⟨by first | rfl | (simp [errW_none,errW_some] <;> rfl) | (simp [*,errW_none,errW_some] <;> rfl),by repeat (first | (with_reducible first | exact HB.out | apply QE | apply QB | apply QC | refine QM ?_ GE452.out) | exact HB.out)⟩

/-! ### impl_Playable: function 19 -/
mutual
def impl_Playable.j0 : Nat → Bool → Int → Int → Bool → Bool → List Int → List Int → Int → Int → List (List Int) → List Int → List Int → Int → Int → Int → Option (List Int)
 | 0,_,_,_,_,_,_,_,_,_,_,_,_,_,_,_ => none
 | k + 1,x12,x467000,x467001,x467002,x467003,x467004,x467005,x467006,x467007,x467008,x467009,x467010,x467011,x467012,x467013 => if x12 = true then (some ([] : List Int)) else (if 0 ≤ x467011 then (if x467011 < (x467008.length : Int) then ((impl_Sorted.f (rd_L1 x467008 x467011)).bind fun t473 => (impl_Playable.l0 k (([] : List Int)) t473 (t473.length : Int) 0 x467000 x467001 x467002 x467003 x467004 x467005 x467006 x467007 x467008 x467009 x467010 x467011 x467012 x467013)) else (none)) else (none))
def impl_Playable.l0 : Nat → List Int → List Int → Int → Int → Int → Int → Bool → Bool → List Int → List Int → Int → Int → List (List Int) → List Int → List Int → Int → Int → Int → Option (List Int)
 | 0,_,_,_,_,_,_,_,_,_,_,_,_,_,_,_,_,_,_ => none
 | k + 1,x3,x20,x21,x22,x467000,x467001,x467002,x467003,x467004,x467005,x467006,x467007,x467008,x467009,x467010,x467011,x467012,x467013 => if x22 < x21 then (if 0 ≤ x22 then (if x22 < (x20.length : Int) then (if 0 ≤ (wrap64 ((x467010.length : Int) - 1)) then (if (wrap64 ((x467010.length : Int) - 1)) < (x467010.length : Int) then ((impl_FitsOn.f k x467000 x467001 x467002 x467003 x467004 x467005 x467006 x467007 (rd x467010 (wrap64 ((x467010.length : Int) - 1))) (rd x20 x22)).bind fun t478 => (if t478 = true then (if x3.length < 17592186044416 then (impl_Playable.l0 k (x3 ++ [rd x20 x22]) x20 x21 (wrap64 (x22 + 1)) x467000 x467001 x467002 x467003 x467004 x467005 x467006 x467007 x467008 x467009 x467010 x467011 x467012 x467013) else (none)) else (impl_Playable.l0 k x3 x20 x21 (wrap64 (x22 + 1)) x467000 x467001 x467002 x467003 x467004 x467005 x467006 x467007 x467008 x467009 x467010 x467011 x467012 x467013))) else (none)) else (none)) else (none)) else (none)) else (some x3)
end
def impl_Playable.f (k : Nat) (a0_0 : Int) (a0_1 : Int) (a0_2 : Bool) (a0_3 : Bool) (l0_4 : List Int) (l0_5 : List Int) (a0_6 : Int) (a0_7 : Int) (l0_8 : List (List Int)) (l0_9 : List Int) (l0_10 : List Int) (a0_11 : Int) (a0_12 : Int) (a0_13 : Int) : Option (List Int) := (impl_IsGame.f k a0_0 a0_1 a0_2 a0_3 l0_4 l0_5 a0_6 a0_7 l0_8 l0_9 l0_10 a0_11 a0_12 a0_13).bind fun t467 => (if t467 = true then ((impl_IsEnded.f k a0_0 a0_1 a0_2 a0_3 l0_4 l0_5 a0_6 a0_7 l0_8 l0_9 l0_10 a0_11 a0_12 a0_13).bind fun t468 => (impl_Playable.j0 k t468 a0_0 a0_1 a0_2 a0_3 l0_4 l0_5 a0_6 a0_7 l0_8 l0_9 l0_10 a0_11 a0_12 a0_13)) else (impl_Playable.j0 k true a0_0 a0_1 a0_2 a0_3 l0_4 l0_5 a0_6 a0_7 l0_8 l0_9 l0_10 a0_11 a0_12 a0_13))
theorem impl_Playable.mono_l : ∀ k, (∀ y0 y1 y2 y3 y4 y5 y6 y7 y8 y9 y10 y11 y12 y13 y14, LeO (impl_Playable.j0 k y0 y1 y2 y3 y4 y5 y6 y7 y8 y9 y10 y11 y12 y13 y14) (impl_Playable.j0 (k + 1) y0 y1 y2 y3 y4 y5 y6 y7 y8 y9 y10 y11 y12 y13 y14)) ∧ (∀ y0 y1 y2 y3 y4 y5 y6 y7 y8 y9 y10 y11 y12 y13 y14 y15 y16 y17, LeO (impl_Playable.l0 k y0 y1 y2 y3 y4 y5 y6 y7 y8 y9 y10 y11 y12 y13 y14 y15 y16 y17) (impl_Playable.l0 (k + 1) y0 y1 y2 y3 y4 y5 y6 y7 y8 y9 y10 y11 y12 y13 y14 y15 y16 y17))
 | 0 => ⟨fun _ _ _ _ _ _ _ _ _ _ _ _ _ _ _ r h => by simp [impl_Playable.j0] at h,fun _ _ _ _ _ _ _ _ _ _ _ _ _ _ _ _ _ _ r h => by simp [impl_Playable.l0] at h⟩
 | k + 1 => by
  obtain ⟨ih0,ih1⟩ := impl_Playable.mono_l k
  refine ⟨?_,?_⟩
  ·intro y0 y1 y2 y3 y4 y5 y6 y7 y8 y9 y10 y11 y12 y13 y14
   unfold impl_Playable.j0
   repeat' first
   | (with_reducible exact ih0 _ _ _ _ _ _ _ _ _ _ _ _ _ _ _)
   | (with_reducible exact ih1 _ _ _ _ _ _ _ _ _ _ _ _ _ _ _ _ _ _)
   | (with_reducible exact impl_FitsOn.mono _ _ _ _ _ _ _ _ _ _ _)
   | (with_reducible exact impl_IsEnded.mono _ _ _ _ _ _ _ _ _ _ _ _ _ _ _)
   | (with_reducible exact impl_IsGame.mono _ _ _ _ _ _ _ _ _ _ _ _ _ _ _)
   | (with_reducible exact LeO.refl _)
   | (with_reducible exact LeO.none _)
   | (with_reducible refine LeO.ite ?_ ?_)
   | (with_reducible refine LeO.bind ?_ (fun _ => ?_))
   | exact ih0 _ _ _ _ _ _ _ _ _ _ _ _ _ _ _
   | exact ih1 _ _ _ _ _ _ _ _ _ _ _ _ _ _ _ _ _ _
   | exact impl_FitsOn.mono _ _ _ _ _ _ _ _ _ _ _
   | exact impl_IsEnded.mono _ _ _ _ _ _ _ _ _ _ _ _ _ _ _
   | exact impl_IsGame.mono _ _ _ _ _ _ _ _ _ _ _ _ _ _ _
   | exact LeO.none _
   | refine LeO.ite ?_ ?_
   | refine LeO.bind ?_ (fun _ => ?_)
  ·intro y0 y1 y2 y3 y4 y5 y6 y7 y8 y9 y10 y11 y12 y13 y14 y15 y16 y17
   unfold impl_Playable.l0
   repeat' first
   | (with_reducible exact ih0 _ _ _ _ _ _ _ _ _ _ _ _ _ _ _)
   | (with_reducible exact ih1 _ _ _ _ _ _ _ _ _ _ _ _ _ _ _ _ _ _)
   | (with_reducible exact impl_FitsOn.mono _ _ _ _ _ _ _ _ _ _ _)
   | (with_reducible exact impl_IsEnded.mono _ _ _ _ _ _ _ _ _ _ _ _ _ _ _)
   | (with_reducible exact impl_IsGame.mono _ _ _ _ _ _ _ _ _ _ _ _ _ _ _)
   | (with_reducible exact LeO.refl _)
   | (with_reducible exact LeO.none _)
   | (with_reducible refine LeO.ite ?_ ?_)
   | (with_reducible refine LeO.bind ?_ (fun _ => ?_))
   | exact ih0 _ _ _ _ _ _ _ _ _ _ _ _ _ _ _
   | exact ih1 _ _ _ _ _ _ _ _ _ _ _ _ _ _ _ _ _ _
   | exact impl_FitsOn.mono _ _ _ _ _ _ _ _ _ _ _
   | exact impl_IsEnded.mono _ _ _ _ _ _ _ _ _ _ _ _ _ _ _
   | exact impl_IsGame.mono _ _ _ _ _ _ _ _ _ _ _ _ _ _ _
   | exact LeO.none _
   | refine LeO.ite ?_ ?_
   | refine LeO.bind ?_ (fun _ => ?_)
theorem impl_Playable.mono : ∀ a0 a1 a2 a3 a4 a5 a6 a7 a8 a9 a10 a11 a12 a13 k, LeO (impl_Playable.f k a0 a1 a2 a3 a4 a5 a6 a7 a8 a9 a10 a11 a12 a13) (impl_Playable.f (k + 1) a0 a1 a2 a3 a4 a5 a6 a7 a8 a9 a10 a11 a12 a13) := by
 intro a0 a1 a2 a3 a4 a5 a6 a7 a8 a9 a10 a11 a12 a13 k
 obtain ⟨ih0,ih1⟩ := impl_Playable.mono_l k
 unfold impl_Playable.f
 repeat' first
   | (with_reducible exact ih0 _ _ _ _ _ _ _ _ _ _ _ _ _ _ _)
   | (with_reducible exact ih1 _ _ _ _ _ _ _ _ _ _ _ _ _ _ _ _ _ _)
   | (with_reducible exact impl_FitsOn.mono _ _ _ _ _ _ _ _ _ _ _)
   | (with_reducible exact impl_IsEnded.mono _ _ _ _ _ _ _ _ _ _ _ _ _ _ _)
   | (with_reducible exact impl_IsGame.mono _ _ _ _ _ _ _ _ _ _ _ _ _ _ _)
   | (with_reducible exact LeO.refl _)
   | (with_reducible exact LeO.none _)
   | (with_reducible refine LeO.ite ?_ ?_)
   | (with_reducible refine LeO.bind ?_ (fun _ => ?_))
   | exact ih0 _ _ _ _ _ _ _ _ _ _ _ _ _ _ _
   | exact ih1 _ _ _ _ _ _ _ _ _ _ _ _ _ _ _ _ _ _
   | exact impl_FitsOn.mono _ _ _ _ _ _ _ _ _ _ _
   | exact impl_IsEnded.mono _ _ _ _ _ _ _ _ _ _ _ _ _ _ _
   | exact impl_IsGame.mono _ _ _ _ _ _ _ _ _ _ _ _ _ _ _
   | exact LeO.none _
   | refine LeO.ite ?_ ?_
   | refine LeO.bind ?_ (fun _ => ?_)
def impl_Playable.T7 : Bool × List (List Nat × List Nat) := (true, [([], []), ([0], [0]), ([], []), ([2], [2]), ([], []), ([4], [4]), ([5], [5]), ([6], [6]), ([3, 7], [3, 7]), ([8], [8]), ([], []), ([1, 9, 10], [1, 9, 10])])
def impl_Playable.B7 : List Nat := [0, 1, 0, 4, 0, 16, 48, 112, 252, 508, 0, 2047]
theorem impl_Playable.tab7 : rtab .any (opsOf Try.f19 7) = impl_Playable.T7 := by kernel_rfl
theorem impl_Playable.bits7 : waitsOk impl_Playable.T7.2 impl_Playable.B7 = true := by kernel_rfl
set_option maxHeartbeats 8000000 in
set_option maxRecDepth 100000 in
theorem impl_Playable.calls (k : Nat) (a0_0 : Int) (a0_1 : Int) (a0_2 : Bool) (a0_3 : Bool) (A0_4 : Option Addr) (c0_4 : Nat) (l0_4 : List Int) (A0_5 : Option Addr) (c0_5 : Nat) (l0_5 : List Int) (a0_6 : Int) (a0_7 : Int) (A0_8 : Option Addr) (c0_8 : Nat) (l0_8 : List (List Int)) (A0_9 : Option Addr) (c0_9 : Nat) (l0_9 : List Int) (A0_10 : Option Addr) (c0_10 : Nat) (l0_10 : List Int) (a0_11 : Int) (a0_12 : Int) (a0_13 : Int) (r : List Int) (w : World) (hr0_4 : Kd.C (Kd.int .i64) w A0_4 l0_4.length l0_4) (hc0_4 : l0_4.length ≤ c0_4) (hr0_5 : Kd.C (Kd.int .i64) w A0_5 l0_5.length l0_5) (hc0_5 : l0_5.length ≤ c0_5) (hr0_8 : Kd.C (Kd.slice 3 (Kd.int .i64)) w A0_8 l0_8.length l0_8) (hc0_8 : l0_8.length ≤ c0_8) (hr0_9 : Kd.C (Kd.int .i64) w A0_9 l0_9.length l0_9) (hc0_9 : l0_9.length ≤ c0_9) (hr0_10 : Kd.C (Kd.int .i64) w A0_10 l0_10.length l0_10) (hc0_10 : l0_10.length ≤ c0_10) (h : impl_Playable.f k a0_0 a0_1 a0_2 a0_3 l0_4 l0_5 a0_6 a0_7 l0_8 l0_9 l0_10 a0_11 a0_12 a0_13 = some r) :
  Calls Try.prog 19 #[.agg #[.int .i64 a0_0,.int .i64 a0_1,.bool a0_2,.bool a0_3,.slice A0_4 l0_4.length c0_4,.slice A0_5 l0_5.length c0_5,.int .i64 a0_6,.int .i64 a0_7,.slice A0_8 l0_8.length c0_8,.slice A0_9 l0_9.length c0_9,.slice A0_10 l0_10.length c0_10,.int .i64 a0_11,.int .i64 a0_12,.int .i64 a0_13]] w fun e w' => ∃ v0_ : Value,e = .returned (v0_) ∧ Kd.R (Kd.int .i64) 3 w' w.heap.size (fun _ => True) v0_ r ∧ Below w.heap.size w w' := by
 have hu32 := Try.underlying32
 have hu30 := Try.underlying30
 have HR0_4 := QS hr0_4
 have HC0_4 := QS hc0_4
 clear hr0_4 hc0_4
 have HR0_5 := QS hr0_5
 have HC0_5 := QS hc0_5
 clear hr0_5 hc0_5
 have HR0_8 := QS hr0_8
 have HC0_8 := QS hc0_8
 clear hr0_8 hc0_8
 have HR0_9 := QS hr0_9
 have HC0_9 := QS hc0_9
 clear hr0_9 hc0_9
 have HR0_10 := QS hr0_10
 have HC0_10 := QS hc0_10
 clear hr0_10 hc0_10
 have HB := QS (Below.refl w.heap.size w)
 have H : ((impl_IsGame.f k a0_0 a0_1 a0_2 a0_3 l0_4 l0_5 a0_6 a0_7 l0_8 l0_9 l0_10 a0_11 a0_12 a0_13).bind fun t467 => (if t467 = true then ((impl_IsEnded.f k a0_0 a0_1 a0_2 a0_3 l0_4 l0_5 a0_6 a0_7 l0_8 l0_9 l0_10 a0_11 a0_12 a0_13).bind fun t468 => (impl_Playable.j0 k t468 a0_0 a0_1 a0_2 a0_3 l0_4 l0_5 a0_6 a0_7 l0_8 l0_9 l0_10 a0_11 a0_12 a0_13)) else (impl_Playable.j0 k true a0_0 a0_1 a0_2 a0_3 l0_4 l0_5 a0_6 a0_7 l0_8 l0_9 l0_10 a0_11 a0_12 a0_13))) = some r := h
 clear h
 have HC2 := QS H
 clear H
 go_enter Try.func19,Try.ntmps19
 go_upto_region 1 with (first | ((with_reducible refine gate_dst (N := 1) rfl ?_); refine box_event ?hg (N := 1) ?hd (cs := #[.int .i64 a0_0,.int .i64 a0_1,.bool a0_2,.bool a0_3,.slice A0_4 l0_4.length c0_4,.slice A0_5 l0_5.length c0_5,.int .i64 a0_6,.int .i64 a0_7,.slice A0_8 l0_8.length c0_8,.slice A0_9 l0_9.length c0_9,.slice A0_10 l0_10.length c0_10,.int .i64 a0_11,.int .i64 a0_12,.int .i64 a0_13]) (t := 32) ?hr ?_; (case hd => rfl); (case hg => rfl); (case hr => first | (go_simp; done) | (go_simp; rfl)); intro gb466 hg w3 hbox hb; have n0_ := QS (below_step (by repeat (first | (with_reducible first | exact HB.out | apply QE | apply QB | apply QC) | exact HB.out)) hb); have n1_ := QS (hbox); have n2_ := QS ((by rw [hg]; exact (below_size (by repeat (first | (with_reducible first | exact HB.out | apply QE | apply QB | apply QC) | exact HB.out))) : w.heap.size ≤ gb466)); have n3_ := QS ((by rw [hg]; exact (below_size (by repeat (first | (with_reducible first | exact HB.out | apply QE | apply QB | apply QC) | exact HB.out))) : w.heap.size ≤ gb466)); clear HB; revert n0_ n1_ n2_ n3_; intro HB BK466 GW466 GE466; clear hb hbox hg))
 (try simp only [Act.put,QO,QP,QR])
 go_cut [12] (fun v12 wc => ∃ (kq : Nat) (x12_1 : Bool),v12 = .bool x12_1 ∧ Aside0 (impl_Playable.j0 kq x12_1 a0_0 a0_1 a0_2 a0_3 l0_4 l0_5 a0_6 a0_7 l0_8 l0_9 l0_10 a0_11 a0_12 a0_13 = some r) ∧ Aside0 (kq ≤ k) ∧ Aside0 (wc.heap[gb466]? = some (.cells #[.int .i64 a0_0,.int .i64 a0_1,.bool a0_2,.bool a0_3,(.slice A0_4 l0_4.length c0_4),(.slice A0_5 l0_5.length c0_5),.int .i64 a0_6,.int .i64 a0_7,(.slice A0_8 l0_8.length c0_8),(.slice A0_9 l0_9.length c0_9),(.slice A0_10 l0_10.length c0_10),.int .i64 a0_11,.int .i64 a0_12,.int .i64 a0_13] 32 (0,0))) ∧ Aside0 (Below w.heap.size w wc))
 case first =>
  have H := HC2.out
  clear HC2
  replace H := QT.mp H
  obtain ⟨t467,A40,H⟩ := H
  have A4 := QS A40
  clear A40
  by_cases c5 : t467 = true
  rotate_left
  replace c5 := Bool.eq_false_iff.mpr c5
  subst c5
  rw [if_neg (show ¬ (false = true) by decide)] at H
  have H' := QS H
  clear H
  rotate_right
  subst c5
  rw [if_pos rfl] at H
  replace H := QT.mp H
  obtain ⟨t468,A60,H⟩ := H
  have A6 := QS A60
  clear A60
  have H' := QS H
  clear H
  all_goals
   have hcz7_0 : w3.cell? ⟨gb466,0,none⟩ = some (.int .i64 a0_0) := (QD BK466.out 0).trans rfl
   have hcz7_1 : w3.cell? ⟨gb466,1,none⟩ = some (.int .i64 a0_1) := (QD BK466.out 1).trans rfl
   have hcz7_2 : w3.cell? ⟨gb466,2,none⟩ = some (.bool a0_2) := (QD BK466.out 2).trans rfl
   have hcz7_3 : w3.cell? ⟨gb466,3,none⟩ = some (.bool a0_3) := (QD BK466.out 3).trans rfl
   have hcz7_4 : w3.cell? ⟨gb466,4,none⟩ = some (.slice A0_4 l0_4.length c0_4) := (QD BK466.out 4).trans rfl
   have hcz7_5 : w3.cell? ⟨gb466,5,none⟩ = some (.slice A0_5 l0_5.length c0_5) := (QD BK466.out 5).trans rfl
   have hcz7_6 : w3.cell? ⟨gb466,6,none⟩ = some (.int .i64 a0_6) := (QD BK466.out 6).trans rfl
   have hcz7_7 : w3.cell? ⟨gb466,7,none⟩ = some (.int .i64 a0_7) := (QD BK466.out 7).trans rfl
   have hcz7_8 : w3.cell? ⟨gb466,8,none⟩ = some (.slice A0_8 l0_8.length c0_8) := (QD BK466.out 8).trans rfl
   have hcz7_9 : w3.cell? ⟨gb466,9,none⟩ = some (.slice A0_9 l0_9.length c0_9) := (QD BK466.out 9).trans rfl
   have hcz7_10 : w3.cell? ⟨gb466,10,none⟩ = some (.slice A0_10 l0_10.length c0_10) := (QD BK466.out 10).trans rfl
   have hcz7_11 : w3.cell? ⟨gb466,11,none⟩ = some (.int .i64 a0_11) := (QD BK466.out 11).trans rfl
   have hcz7_12 : w3.cell? ⟨gb466,12,none⟩ = some (.int .i64 a0_12) := (QD BK466.out 12).trans rfl
   have hcz7_13 : w3.cell? ⟨gb466,13,none⟩ = some (.int .i64 a0_13) := (QD BK466.out 13).trans rfl
   have hfz7_0 := QF BK466.out 0
   have hfz7_1 := QF BK466.out 1
   have hfz7_2 := QF BK466.out 2
   have hfz7_3 := QF BK466.out 3
   have hfz7_4 := QF BK466.out 4
   have hfz7_5 := QF BK466.out 5
   have hfz7_6 := QF BK466.out 6
   have hfz7_7 := QF BK466.out 7
   have hfz7_8 := QF BK466.out 8
   have hfz7_9 := QF BK466.out 9
   have hfz7_10 := QF BK466.out 10
   have hfz7_11 := QF BK466.out 11
   have hfz7_12 := QF BK466.out 12
   have hfz7_13 := QF BK466.out 13
   go_wp2_with (first | ((with_reducible refine gate_callee (f := 30) rfl ?_); refine goesL_ (some 7) rfl rfl Try.func30 (by kernel_rfl) rfl #[.agg #[.int .i64 a0_0,.int .i64 a0_1,.bool a0_2,.bool a0_3,.slice A0_4 l0_4.length c0_4,.slice A0_5 l0_5.length c0_5,.int .i64 a0_6,.int .i64 a0_7,.slice A0_8 l0_8.length c0_8,.slice A0_9 l0_9.length c0_9,.slice A0_10 l0_10.length c0_10,.int .i64 a0_11,.int .i64 a0_12,.int .i64 a0_13]] rfl (by (try simp only [List.map_toArray,List.map_cons,List.map_nil]); first | done | rfl | (simp only [List.length_drop,List.length_take]; rfl)) ?_; (with_reducible refine (impl_IsGame.calls k a0_0 a0_1 a0_2 a0_3 _ _ l0_4 _ _ l0_5 a0_6 a0_7 _ _ l0_8 (fun k_ => k_ < w.heap.size) _ _ l0_9 (fun k_ => k_ < w.heap.size) _ _ l0_10 a0_11 a0_12 a0_13 _ _ ?side1 ?side2 ?side3 ?side4 ?side5 ?side6 ?side7 ?side8 A4.out).mono ?_); (case side1 => repeat (first | exact (Kd.C_below HR0_4.out HB.out) | (with_reducible refine Kd.C_alloc ?_ _) | (with_reducible refine Kd.C_drewN ?_ _) | (with_reducible refine Kd.C_drew ?_))); (case side2 => exact HC0_4.out); (case side3 => repeat (first | exact (Kd.C_below HR0_5.out HB.out) | (with_reducible refine Kd.C_alloc ?_ _) | (with_reducible refine Kd.C_drewN ?_ _) | (with_reducible refine Kd.C_drew ?_))); (case side4 => exact HC0_5.out); (case side5 => repeat (first | exact (Kd.C_below HR0_8.out HB.out) | (with_reducible refine Kd.C_alloc ?_ _) | (with_reducible refine Kd.C_drewN ?_ _) | (with_reducible refine Kd.C_drew ?_))); (case side6 => exact HC0_8.out); (case side7 => exact Kd.V_mk HC0_9.out (Kd.F_below (Kd.C_F (Kd.heap_int .i64) HR0_9.out) (by repeat (first | (with_reducible first | exact HB.out | apply QE | apply QB | apply QC | refine QM ?_ GE466.out) | exact HB.out)))); (case side8 => exact Kd.V_mk HC0_10.out (Kd.F_below (Kd.C_F (Kd.heap_int .i64) HR0_10.out) (by repeat (first | (with_reducible first | exact HB.out | apply QE | apply QB | apply QC | refine QM ?_ GE466.out) | exact HB.out)))); rintro e w8 ⟨rfl,hb⟩; refine ⟨_,rfl,?_⟩; have n0_ := QS (blk_below (g := gb466) (o := .cells #[.int .i64 a0_0,.int .i64 a0_1,.bool a0_2,.bool a0_3,.slice A0_4 l0_4.length c0_4,.slice A0_5 l0_5.length c0_5,.int .i64 a0_6,.int .i64 a0_7,.slice A0_8 l0_8.length c0_8,.slice A0_9 l0_9.length c0_9,.slice A0_10 l0_10.length c0_10,.int .i64 a0_11,.int .i64 a0_12,.int .i64 a0_13] 32 (0,0)) (by (with_reducible repeat (first | refine blk_drewN ?_ _ | refine blk_drew ?_ | refine blk_alloc ?_ _)); exact BK466.out) hb); have n1_ := QS (below_step (by repeat (first | (with_reducible first | exact HB.out | apply QE | apply QB | apply QC | refine QM ?_ GE466.out) | exact HB.out)) hb); clear BK466; clear HB; revert n0_ n1_; intro BK466 HB; (try clear hb); (try clear hb2); (try clear hk); (try clear hi); have hcz9_0 : w8.cell? ⟨gb466,0,none⟩ = some (.int .i64 a0_0) := (QD BK466.out 0).trans rfl; have hcz9_1 : w8.cell? ⟨gb466,1,none⟩ = some (.int .i64 a0_1) := (QD BK466.out 1).trans rfl; have hcz9_2 : w8.cell? ⟨gb466,2,none⟩ = some (.bool a0_2) := (QD BK466.out 2).trans rfl; have hcz9_3 : w8.cell? ⟨gb466,3,none⟩ = some (.bool a0_3) := (QD BK466.out 3).trans rfl; have hcz9_4 : w8.cell? ⟨gb466,4,none⟩ = some (.slice A0_4 l0_4.length c0_4) := (QD BK466.out 4).trans rfl; have hcz9_5 : w8.cell? ⟨gb466,5,none⟩ = some (.slice A0_5 l0_5.length c0_5) := (QD BK466.out 5).trans rfl; have hcz9_6 : w8.cell? ⟨gb466,6,none⟩ = some (.int .i64 a0_6) := (QD BK466.out 6).trans rfl; have hcz9_7 : w8.cell? ⟨gb466,7,none⟩ = some (.int .i64 a0_7) := (QD BK466.out 7).trans rfl; have hcz9_8 : w8.cell? ⟨gb466,8,none⟩ = some (.slice A0_8 l0_8.length c0_8) := (QD BK466.out 8).trans rfl; have hcz9_9 : w8.cell? ⟨gb466,9,none⟩ = some (.slice A0_9 l0_9.length c0_9) := (QD BK466.out 9).trans rfl; have hcz9_10 : w8.cell? ⟨gb466,10,none⟩ = some (.slice A0_10 l0_10.length c0_10) := (QD BK466.out 10).trans rfl; have hcz9_11 : w8.cell? ⟨gb466,11,none⟩ = some (.int .i64 a0_11) := (QD BK466.out 11).trans rfl; have hcz9_12 : w8.cell? ⟨gb466,12,none⟩ = some (.int .i64 a0_12) := (QD BK466.out 12).trans rfl; have hcz9_13 : w8.cell? ⟨gb466,13,none⟩ = some (.int .i64 a0_13) := (QD BK466.out 13).trans rfl; have hfz9_0 := QF BK466.out 0; have hfz9_1 := QF BK466.out 1; have hfz9_2 := QF BK466.out 2; have hfz9_3 := QF BK466.out 3; have hfz9_4 := QF BK466.out 4; have hfz9_5 := QF BK466.out 5; have hfz9_6 := QF BK466.out 6; have hfz9_7 := QF BK466.out 7; have hfz9_8 := QF BK466.out 8; have hfz9_9 := QF BK466.out 9; have hfz9_10 := QF BK466.out 10; have hfz9_11 := QF BK466.out 11; have hfz9_12 := QF BK466.out 12; have hfz9_13 := QF BK466.out 13) | (go_at_call 31; (with_reducible refine (impl_IsEnded.calls k a0_0 a0_1 a0_2 a0_3 _ _ l0_4 _ _ l0_5 a0_6 a0_7 _ _ l0_8 _ _ l0_9 _ _ l0_10 a0_11 a0_12 a0_13 t468 _ ?side1 ?side2 ?side3 ?side4 ?side5 ?side6 ?side7 ?side8 ?side9 ?side10 A6.out).mono ?_); (case side1 => repeat (first | exact (Kd.C_below HR0_4.out HB.out) | (with_reducible refine Kd.C_alloc ?_ _) | (with_reducible refine Kd.C_drewN ?_ _) | (with_reducible refine Kd.C_drew ?_))); (case side2 => exact HC0_4.out); (case side3 => repeat (first | exact (Kd.C_below HR0_5.out HB.out) | (with_reducible refine Kd.C_alloc ?_ _) | (with_reducible refine Kd.C_drewN ?_ _) | (with_reducible refine Kd.C_drew ?_))); (case side4 => exact HC0_5.out); (case side5 => repeat (first | exact (Kd.C_below HR0_8.out HB.out) | (with_reducible refine Kd.C_alloc ?_ _) | (with_reducible refine Kd.C_drewN ?_ _) | (with_reducible refine Kd.C_drew ?_))); (case side6 => exact HC0_8.out); (case side7 => repeat (first | exact (Kd.C_below HR0_9.out HB.out) | (with_reducible refine Kd.C_alloc ?_ _) | (with_reducible refine Kd.C_drewN ?_ _) | (with_reducible refine Kd.C_drew ?_))); (case side8 => exact HC0_9.out); (case side9 => repeat (first | exact (Kd.C_below HR0_10.out HB.out) | (with_reducible refine Kd.C_alloc ?_ _) | (with_reducible refine Kd.C_drewN ?_ _) | (with_reducible refine Kd.C_drew ?_))); (case side10 => exact HC0_10.out); rintro e w10 ⟨rfl,hb⟩; have n0_ := QS (blk_below (g := gb466) (o := .cells #[.int .i64 a0_0,.int .i64 a0_1,.bool a0_2,.bool a0_3,.slice A0_4 l0_4.length c0_4,.slice A0_5 l0_5.length c0_5,.int .i64 a0_6,.int .i64 a0_7,.slice A0_8 l0_8.length c0_8,.slice A0_9 l0_9.length c0_9,.slice A0_10 l0_10.length c0_10,.int .i64 a0_11,.int .i64 a0_12,.int .i64 a0_13] 32 (0,0)) (by (with_reducible repeat (first | refine blk_drewN ?_ _ | refine blk_drew ?_ | refine blk_alloc ?_ _)); exact BK466.out) hb); have n1_ := QS (below_step (by repeat (first | (with_reducible first | exact HB.out | apply QE | apply QB | apply QC | refine QM ?_ GE466.out) | exact HB.out)) hb); clear BK466; clear HB; revert n0_ n1_; intro BK466 HB; (try clear hb); (try clear hb2); (try clear hk); (try clear hi)))
   go_meet
   case rel => exact ⟨_,_,(by first | rfl | (simp; done) | (simp [*]; done)),H',⟨by first | omega | exact Nat.le_refl _⟩,⟨by (with_reducible repeat (first | refine blk_drewN ?_ _ | refine blk_drew ?_ | refine blk_alloc ?_ _)); exact BK466.out⟩,⟨by repeat (first | (with_reducible first | exact HB.out | apply QE | apply QB | apply QC | refine QM ?_ GE466.out) | exact HB.out)⟩⟩
 case rest =>
  clear HC2
  try clear c1
  try clear p2
  try clear c3
  try clear c5
  try clear hcz11_0 hcz11_1 hcz11_10 hcz11_11 hcz11_12 hcz11_13 hcz11_2 hcz11_3 hcz11_4 hcz11_5 hcz11_6 hcz11_7 hcz11_8 hcz11_9
  try clear hcz7_0 hcz7_1 hcz7_10 hcz7_11 hcz7_12 hcz7_13 hcz7_2 hcz7_3 hcz7_4 hcz7_5 hcz7_6 hcz7_7 hcz7_8 hcz7_9
  try clear hcz9_0 hcz9_1 hcz9_10 hcz9_11 hcz9_12 hcz9_13 hcz9_2 hcz9_3 hcz9_4 hcz9_5 hcz9_6 hcz9_7 hcz9_8 hcz9_9
  try clear hfz11_0 hfz11_1 hfz11_10 hfz11_11 hfz11_12 hfz11_13 hfz11_2 hfz11_3 hfz11_4 hfz11_5 hfz11_6 hfz11_7 hfz11_8 hfz11_9
  try clear hfz7_0 hfz7_1 hfz7_10 hfz7_11 hfz7_12 hfz7_13 hfz7_2 hfz7_3 hfz7_4 hfz7_5 hfz7_6 hfz7_7 hfz7_8 hfz7_9
  try clear hfz9_0 hfz9_1 hfz9_10 hfz9_11 hfz9_12 hfz9_13 hfz9_2 hfz9_3 hfz9_4 hfz9_5 hfz9_6 hfz9_7 hfz9_8 hfz9_9
  obtain ⟨kq,x12_1,rfl,HA,HJ1,BK466,HB⟩ := hcut
  cases kq with
  | zero => exact absurd HA.out (by simp [impl_Playable.j0])
  | succ kj1 =>
   have H := HA.out
   clear HA
   simp only [impl_Playable.j0] at H
   by_cases c13 : x12_1 = true
   ·subst c13
    rw [if_pos rfl] at H
    obtain rfl := Option.some.inj H
    go_wp2
    go_ret
    exact ⟨_,by first | rfl | (simp [errW_none,errW_some] <;> rfl) | (simp [*,errW_none,errW_some] <;> rfl),by first | exact Kd.R_nil _ _ _ _ _ | exact Kd.N_nil _ _ _ _ _ | exact Kd.V_nil _ _ _ _ _ | exact Kd.Q_nil _ _ _ _ _ | exact Kd.S_nil _ _ _ _ _,by repeat (first | (with_reducible first | exact HB.out | apply QE | apply QB | apply QC | refine QM ?_ GE466.out) | exact HB.out)⟩
   ·replace c13 := Bool.eq_false_iff.mpr c13
    subst c13
    rw [if_neg (show ¬ (false = true) by decide)] at H
    obtain ⟨y469,hy469⟩ : ∃ y_ : List Int,y_ = (([] : List Int)) := ⟨_,rfl⟩
    replace H : (if 0 ≤ a0_11 then (if a0_11 < (l0_8.length : Int) then ((impl_Sorted.f (rd_L1 l0_8 a0_11)).bind fun t473 => (impl_Playable.l0 kj1 y469 t473 (t473.length : Int) 0 a0_0 a0_1 a0_2 a0_3 l0_4 l0_5 a0_6 a0_7 l0_8 l0_9 l0_10 a0_11 a0_12 a0_13)) else (none)) else (none)) = some r := by first | (rw [hy469]; with_reducible exact H) | (have H2_ := (Option.bind_some _ _).symm.trans H; rw [hy469]; with_reducible exact H2_) | (have H2_ := (Option.bind_some _ _).symm.trans H; with_reducible exact H2_) | with_reducible exact H | (rw [hy469]; exact H) | exact H
    have Ny469 := QS hy469
    clear hy469
    by_cases c14 : 0 ≤ a0_11
    ·rw [if_pos c14] at H
     have c14b0 : decide (0 ≤ a0_11) = true := decide_eq_true c14
     clear c14
     by_cases c15 : a0_11 < (l0_8.length : Int)
     ·rw [if_pos c15] at H
      have c15b0 : decide (a0_11 < (l0_8.length : Int)) = true := decide_eq_true c15
      clear c15
      replace H := QT.mp H
      obtain ⟨t473,A160,H⟩ := H
      have A16 := QS A160
      clear A160
      have H' := QS H
      clear H
      go_wp2_with (first | ((with_reducible refine gate_dst (N := 13) rfl ?_); refine Kd.R_lit (Kd.int .i64) _ 3 ?hg (N := 13) ?hd (xs := ([] : List Int)) (inner := []) (ok := fun _ => True) (okp := fun _ => True) ?hr ?hp (fun _ hk => hk) trivial (Below.refl _ _) (Nat.le_refl _) (by simp) ?_; (case hd => rfl); (case hg => rfl); (case hr => first | (go_simp; done) | (go_simp; rfl)); (case hp => exact (Reps.none _ _)); intro v470 w17 ho18 hb hg_ hnew_; clear hg_ hnew_; (first | rw [← Ny469.out] at ho18 | (simp only [Int.reduceToNat] at ho18; rw [← Ny469.out] at ho18)); have n0_ := QS (Kd.R_lower ho18 (below_size (by repeat (first | (with_reducible first | exact HB.out | apply QE | apply QB | apply QC | refine QM ?_ GE466.out) | exact HB.out)))); have n1_ := QS (blk_below (g := gb466) (o := .cells #[.int .i64 a0_0,.int .i64 a0_1,.bool a0_2,.bool a0_3,.slice A0_4 l0_4.length c0_4,.slice A0_5 l0_5.length c0_5,.int .i64 a0_6,.int .i64 a0_7,.slice A0_8 l0_8.length c0_8,.slice A0_9 l0_9.length c0_9,.slice A0_10 l0_10.length c0_10,.int .i64 a0_11,.int .i64 a0_12,.int .i64 a0_13] 32 (0,0)) (by (with_reducible repeat (first | refine blk_drewN ?_ _ | refine blk_drew ?_ | refine blk_alloc ?_ _)); exact BK466.out) hb); have n2_ := QS (below_step (by repeat (first | (with_reducible first | exact HB.out | apply QE | apply QB | apply QC | refine QM ?_ GE466.out) | exact HB.out)) hb); clear BK466; clear HB; revert n0_ n1_ n2_; intro HO471 BK466 HB; clear hb ho18; have hcz19_0 : w17.cell? ⟨gb466,0,none⟩ = some (.int .i64 a0_0) := (QD BK466.out 0).trans rfl; have hcz19_1 : w17.cell? ⟨gb466,1,none⟩ = some (.int .i64 a0_1) := (QD BK466.out 1).trans rfl; have hcz19_2 : w17.cell? ⟨gb466,2,none⟩ = some (.bool a0_2) := (QD BK466.out 2).trans rfl; have hcz19_3 : w17.cell? ⟨gb466,3,none⟩ = some (.bool a0_3) := (QD BK466.out 3).trans rfl; have hcz19_4 : w17.cell? ⟨gb466,4,none⟩ = some (.slice A0_4 l0_4.length c0_4) := (QD BK466.out 4).trans rfl; have hcz19_5 : w17.cell? ⟨gb466,5,none⟩ = some (.slice A0_5 l0_5.length c0_5) := (QD BK466.out 5).trans rfl; have hcz19_6 : w17.cell? ⟨gb466,6,none⟩ = some (.int .i64 a0_6) := (QD BK466.out 6).trans rfl; have hcz19_7 : w17.cell? ⟨gb466,7,none⟩ = some (.int .i64 a0_7) := (QD BK466.out 7).trans rfl; have hcz19_8 : w17.cell? ⟨gb466,8,none⟩ = some (.slice A0_8 l0_8.length c0_8) := (QD BK466.out 8).trans rfl; have hcz19_9 : w17.cell? ⟨gb466,9,none⟩ = some (.slice A0_9 l0_9.length c0_9) := (QD BK466.out 9).trans rfl; have hcz19_10 : w17.cell? ⟨gb466,10,none⟩ = some (.slice A0_10 l0_10.length c0_10) := (QD BK466.out 10).trans rfl; have hcz19_11 : w17.cell? ⟨gb466,11,none⟩ = some (.int .i64 a0_11) := (QD BK466.out 11).trans rfl; have hcz19_12 : w17.cell? ⟨gb466,12,none⟩ = some (.int .i64 a0_12) := (QD BK466.out 12).trans rfl; have hcz19_13 : w17.cell? ⟨gb466,13,none⟩ = some (.int .i64 a0_13) := (QD BK466.out 13).trans rfl; have hfz19_0 := QF BK466.out 0; have hfz19_1 := QF BK466.out 1; have hfz19_2 := QF BK466.out 2; have hfz19_3 := QF BK466.out 3; have hfz19_4 := QF BK466.out 4; have hfz19_5 := QF BK466.out 5; have hfz19_6 := QF BK466.out 6; have hfz19_7 := QF BK466.out 7; have hfz19_8 := QF BK466.out 8; have hfz19_9 := QF BK466.out 9; have hfz19_10 := QF BK466.out 10; have hfz19_11 := QF BK466.out 11; have hfz19_12 := QF BK466.out 12; have hfz19_13 := QF BK466.out 13; have p472 : 0 ≤ (a0_11 : Int) := of_decide_eq_true (by first | (with_reducible assumption) | assumption); have q472 : a0_11 < (l0_8.length : Int) := of_decide_eq_true (by first | (with_reducible assumption) | assumption); obtain ⟨ad472,A472_0,c472_0,e472,hx472_0,hl472_0,hi472_0⟩ := at_L1 HR0_8.out a0_11 p472 q472; cases e472; replace hx472_0 := (HB.out.cell (World.block_lt_of_cell? w _ hx472_0)).trans hx472_0; have HR472_0 := QS hi472_0; have HC472_0 := QS hl472_0; clear hi472_0 hl472_0; replace p472 := eq_true p472; replace q472 := eq_true q472) | ((with_reducible refine gate_callee (f := 32) rfl ?_); refine goesL_ (some 20) rfl rfl Try.func32 (by kernel_rfl) rfl #[.slice A472_0 (rd_L1 l0_8 a0_11).length c472_0] rfl (by (try simp only [List.map_toArray,List.map_cons,List.map_nil]); first | done | rfl | (simp only [List.length_drop,List.length_take]; rfl)) ?_; (with_reducible refine (impl_Sorted.calls _ _ (rd_L1 l0_8 a0_11) t473 _ ?side1 ?side2 A16.out).mono ?_); (case side1 => repeat (first | exact (Kd.C_below HR472_0.out HB.out) | (with_reducible refine Kd.C_alloc ?_ _) | (with_reducible refine Kd.C_drewN ?_ _) | (with_reducible refine Kd.C_drew ?_))); (case side2 => exact HC472_0.out); rintro e w20 ⟨v474,rfl,ho0,hb⟩; refine ⟨_,rfl,?_⟩; have n0_ := QS (Kd.R_elder' (by (with_reducible repeat (first | apply QI | apply QJ | apply QG)); exact HO471.out) (Kd.R_base ho0) hb); have n1_ := QS (Kd.R_lower (Kd.R_new' ho0 (Kd.R_lt (by (with_reducible repeat (first | apply QI | apply QJ | apply QG)); exact HO471.out))) (below_size (by repeat (first | (with_reducible first | exact HB.out | apply QE | apply QB | apply QC | refine QM ?_ GE466.out) | exact HB.out)))); have n2_ := QS (blk_below (g := gb466) (o := .cells #[.int .i64 a0_0,.int .i64 a0_1,.bool a0_2,.bool a0_3,.slice A0_4 l0_4.length c0_4,.slice A0_5 l0_5.length c0_5,.int .i64 a0_6,.int .i64 a0_7,.slice (some ad472) l0_8.length c0_8,.slice A0_9 l0_9.length c0_9,.slice A0_10 l0_10.length c0_10,.int .i64 a0_11,.int .i64 a0_12,.int .i64 a0_13] 32 (0,0)) (by (with_reducible repeat (first | refine blk_drewN ?_ _ | refine blk_drew ?_ | refine blk_alloc ?_ _)); exact BK466.out) hb); have n3_ := QS (below_step (by repeat (first | (with_reducible first | exact HB.out | apply QE | apply QB | apply QC | refine QM ?_ GE466.out) | exact HB.out)) hb); clear HO471; clear BK466; clear HB; revert n0_ n1_ n2_ n3_; intro HO471 HO475 BK466 HB; (try clear hb); (try clear hb2); (try clear hk); (try clear hi); (try clear ho0); obtain ⟨Ao21,co21,eo21⟩ := Kd.R_slice HO475.out; subst eo21))
      go_loopg [3,22] kj1 (fun kq v3 v22 w' => ∃ (x3_2 : List Int) (x22_2 : Int),v22 = .int .i64 x22_2 ∧ Aside0 (impl_Playable.l0 kq x3_2 t473 (t473.length : Int) x22_2 a0_0 a0_1 a0_2 a0_3 l0_4 l0_5 a0_6 a0_7 l0_8 l0_9 l0_10 a0_11 a0_12 a0_13 = some r) ∧ Aside0 (kq ≤ kj1) ∧ Aside0 (Kd.R (Kd.int .i64) 3 w' w.heap.size (fun k_ => some k_ ≠ ((.slice Ao21 t473.length co21) : Value).ownBlock) v3 x3_2) ∧ Aside0 (Kd.R (Kd.int .i64) 3 w' w.heap.size (fun k_ => some k_ ≠ (v3 : Value).ownBlock) (.slice Ao21 t473.length co21) t473) ∧ Aside0 (w'.heap[gb466]? = some (.cells #[.int .i64 a0_0,.int .i64 a0_1,.bool a0_2,.bool a0_3,(.slice A0_4 l0_4.length c0_4),(.slice A0_5 l0_5.length c0_5),.int .i64 a0_6,.int .i64 a0_7,(.slice (some ad472) l0_8.length c0_8),(.slice A0_9 l0_9.length c0_9),(.slice A0_10 l0_10.length c0_10),.int .i64 a0_11,.int .i64 a0_12,.int .i64 a0_13] 32 (0,0))) ∧ Aside0 (Below w.heap.size w w'))
      case atStart => exact ⟨(y469),(0),(by first | rfl | (simp; done) | (simp [*]; done)),H',⟨Nat.le_refl _⟩,⟨by (with_reducible repeat (first | apply QI | apply QJ | apply QG)); exact Kd.R_mono HO471.out (by first | exact fun k_ hk => hk.2 | exact fun k_ hk => hk)⟩,⟨by (with_reducible repeat (first | apply QI | apply QJ | apply QG)); exact Kd.R_mono HO475.out (by first | exact fun k_ hk => hk.2 | exact fun k_ hk => hk)⟩,⟨by (with_reducible repeat (first | refine blk_drewN ?_ _ | refine blk_drew ?_ | refine blk_alloc ?_ _)); exact BK466.out⟩,⟨by repeat (first | (with_reducible first | exact HB.out | apply QE | apply QB | apply QC | refine QM ?_ GE466.out) | exact HB.out)⟩⟩
      case round =>
       clear H'
       try clear c1
       try clear p2
       try clear c3
       try clear c4
       try clear p4
       try clear q4
       try clear hx4
       try clear c5
       try clear c13
       try clear c14
       try clear c14b0
       try clear c15
       try clear c15b0
       try clear c19
       try clear hcz11_0 hcz11_1 hcz11_10 hcz11_11 hcz11_12 hcz11_13 hcz11_2 hcz11_3 hcz11_4 hcz11_5 hcz11_6 hcz11_7 hcz11_8 hcz11_9
       try clear hcz19_0 hcz19_1 hcz19_10 hcz19_11 hcz19_12 hcz19_13 hcz19_2 hcz19_3 hcz19_4 hcz19_5 hcz19_6 hcz19_7 hcz19_8 hcz19_9
       try clear hcz7_0 hcz7_1 hcz7_10 hcz7_11 hcz7_12 hcz7_13 hcz7_2 hcz7_3 hcz7_4 hcz7_5 hcz7_6 hcz7_7 hcz7_8 hcz7_9
       try clear hcz9_0 hcz9_1 hcz9_10 hcz9_11 hcz9_12 hcz9_13 hcz9_2 hcz9_3 hcz9_4 hcz9_5 hcz9_6 hcz9_7 hcz9_8 hcz9_9
       try clear hfz11_0 hfz11_1 hfz11_10 hfz11_11 hfz11_12 hfz11_13 hfz11_2 hfz11_3 hfz11_4 hfz11_5 hfz11_6 hfz11_7 hfz11_8 hfz11_9
       try clear hfz19_0 hfz19_1 hfz19_10 hfz19_11 hfz19_12 hfz19_13 hfz19_2 hfz19_3 hfz19_4 hfz19_5 hfz19_6 hfz19_7 hfz19_8 hfz19_9
       try clear hfz7_0 hfz7_1 hfz7_10 hfz7_11 hfz7_12 hfz7_13 hfz7_2 hfz7_3 hfz7_4 hfz7_5 hfz7_6 hfz7_7 hfz7_8 hfz7_9
       try clear hfz9_0 hfz9_1 hfz9_10 hfz9_11 hfz9_12 hfz9_13 hfz9_2 hfz9_3 hfz9_4 hfz9_5 hfz9_6 hfz9_7 hfz9_8 hfz9_9
       try clear hx472_0
       try clear p2
       try clear p472
       try clear q472
       obtain ⟨x3_2,x22_2,rfl,HA,HK2,HO_3,HO_20,BK466,HB⟩ := hrel
       cases gk with
       | zero => exact absurd HA.out (by simp [impl_Playable.l0])
       | succ k2 =>
        have H := HA.out
        clear HA
        simp only [impl_Playable.l0] at H
        by_cases c22 : x22_2 < (t473.length : Int)
        ·rw [if_pos c22] at H
         have c22b0 : decide (x22_2 < (t473.length : Int)) = true := decide_eq_true c22
         clear c22
         by_cases c23 : 0 ≤ x22_2
         ·rw [if_pos c23] at H
          have c23b0 : decide (0 ≤ x22_2) = true := decide_eq_true c23
          clear c23
          by_cases c24 : x22_2 < (t473.length : Int)
          ·rw [if_pos c24] at H
           have c24b0 : decide (x22_2 < (t473.length : Int)) = true := decide_eq_true c24
           clear c24
           obtain ⟨ji25,hji25⟩ : ∃ j_ : Int,(wrap64 ((l0_10.length : Int) - 1)) = j_ := ⟨_,rfl⟩
           replace H : (if 0 ≤ (ji25) then (if (ji25) < (l0_10.length : Int) then ((impl_FitsOn.f k2 a0_0 a0_1 a0_2 a0_3 l0_4 l0_5 a0_6 a0_7 (rd l0_10 (ji25)) (rd t473 x22_2)).bind fun t478 => (if t478 = true then (if x3_2.length < 17592186044416 then (impl_Playable.l0 k2 (x3_2 ++ [rd t473 x22_2]) t473 (t473.length : Int) (wrap64 (x22_2 + 1)) a0_0 a0_1 a0_2 a0_3 l0_4 l0_5 a0_6 a0_7 l0_8 l0_9 l0_10 a0_11 a0_12 a0_13) else (none)) else (impl_Playable.l0 k2 x3_2 t473 (t473.length : Int) (wrap64 (x22_2 + 1)) a0_0 a0_1 a0_2 a0_3 l0_4 l0_5 a0_6 a0_7 l0_8 l0_9 l0_10 a0_11 a0_12 a0_13))) else (none)) else (none)) = some r := by first | (rw [hji25] at H; exact H) | (simp only [hji25] at H ⊢; exact H)
           have hji25w : (IntKind.i64.wrap ((l0_10.length : Int) - 1)) = ji25 := (QH _).trans hji25
           by_cases c26 : 0 ≤ (ji25)
           ·rw [if_pos c26] at H
            have c26b0 : decide (0 ≤ (ji25)) = true := decide_eq_true c26
            clear c26
            by_cases c27 : (ji25) < (l0_10.length : Int)
            ·rw [if_pos c27] at H
             have c27b0 : decide ((ji25) < (l0_10.length : Int)) = true := decide_eq_true c27
             clear c27
             replace H := QT.mp H
             obtain ⟨t478,A280,H⟩ := H
             have A28 := QS A280
             clear A280
             have p476 : 0 ≤ (x22_2 : Int) := of_decide_eq_true (by first | (with_reducible assumption) | assumption)
             have q476 : x22_2 < (t473.length : Int) := of_decide_eq_true (by first | (with_reducible assumption) | assumption)
             obtain ⟨ad476,e476,hx476_0⟩ := Kd.at_int (Kd.R_reads' HO_20.out).2.2 x22_2 p476 q476
             cases e476
             replace p476 := eq_true p476
             replace q476 := eq_true q476
             try go_wp2
             have n0_ := QS (QG HO_3.out)
             have n1_ := QS (QG HO_20.out)
             have n2_ := QS (blk_drew BK466.out)
             have n3_ := QS (QC HB.out)
             clear HO_3
             clear HO_20
             clear BK466
             clear HB
             revert n0_ n1_ n2_ n3_
             intro HO_3 HO_20 BK466 HB
             have p477 : 0 ≤ ((ji25) : Int) := of_decide_eq_true (by first | (with_reducible assumption) | assumption)
             have q477 : (ji25) < (l0_10.length : Int) := of_decide_eq_true (by first | (with_reducible assumption) | assumption)
             obtain ⟨ad477,e477,hx477_0⟩ := Kd.at_int HR0_10.out (ji25) p477 q477
             have hw477_0 := hx477_0
             cases e477
             replace hx477_0 := (HB.out.cell (World.block_lt_of_cell? w _ hx477_0)).trans hx477_0
             replace p477 := eq_true p477
             replace q477 := eq_true q477
             refine start_ (n := 12) (S := fun w' => w'.cell? ⟨gb466,0,none⟩ = some (.int .i64 a0_0) ∧ w'.cell? ⟨gb466,1,none⟩ = some (.int .i64 a0_1) ∧ w'.cell? ⟨gb466,2,none⟩ = some (.bool a0_2) ∧ w'.cell? ⟨gb466,3,none⟩ = some (.bool a0_3) ∧ w'.cell? ⟨gb466,4,none⟩ = some (.slice A0_4 l0_4.length c0_4) ∧ w'.cell? ⟨gb466,5,none⟩ = some (.slice A0_5 l0_5.length c0_5) ∧ w'.cell? ⟨gb466,6,none⟩ = some (.int .i64 a0_6) ∧ w'.cell? ⟨gb466,7,none⟩ = some (.int .i64 a0_7) ∧ w'.cell? ⟨gb466,8,none⟩ = some (.slice (some ad472) l0_8.length c0_8) ∧ w'.cell? ⟨gb466,9,none⟩ = some (.slice A0_9 l0_9.length c0_9) ∧ w'.cell? ⟨gb466,10,none⟩ = some (.slice (some ad477) l0_10.length c0_10) ∧ w'.cell? ⟨gb466,11,none⟩ = some (.int .i64 a0_11) ∧ w'.cell? ⟨gb466,12,none⟩ = some (.int .i64 a0_12) ∧ w'.cell? ⟨gb466,13,none⟩ = some (.int .i64 a0_13) ∧ w'.cell? (ad477.add ((ji25)).toNat) = some (.int .i64 (rd l0_10 (ji25)))) (ds := []) #[false,false,false,false,false,false,false,false,false,false,false,false] (by kernel_rfl) rfl rfl ⟨(QD BK466.out 0).trans rfl,(QD BK466.out 1).trans rfl,(QD BK466.out 2).trans rfl,(QD BK466.out 3).trans rfl,(QD BK466.out 4).trans rfl,(QD BK466.out 5).trans rfl,(QD BK466.out 6).trans rfl,(QD BK466.out 7).trans rfl,(QD BK466.out 8).trans rfl,(QD BK466.out 9).trans rfl,(QD BK466.out 10).trans rfl,(QD BK466.out 11).trans rfl,(QD BK466.out 12).trans rfl,(QD BK466.out 13).trans rfl,((HB.out.cell (World.block_lt_of_cell? w _ hw477_0)).trans hw477_0)⟩ (fun hHeld => ?_); refine with_tabW impl_Playable.tab7 impl_Playable.bits7 (fun HT_ HW_ => ?_)
             generalize wr.drew = w31 at HO_3 HO_20 BK466 HB hx477_0 hHeld ⊢
             refine QN (i := 0) (N := some 26) (v := ?_) (a' := ?_) #[true,false,false,false,false,false,false,false,false,false,false,false] rfl rfl (QL HT_.out (by kernel_rfl)) (fun _ _ _ h => h) (Or.inl ⟨by rfl,?_⟩) ?_ ?_
             rotate_left
             ·intro w'
              go_simp
              with_reducible rfl
             rotate_left
             ·simp only [Act.put,QO,QP,QR,QH,QK]
              rfl
             refine QN (i := 2) (N := some 28) (v := ?_) (a' := ?_) #[true,false,true,false,false,false,false,false,false,false,false,false] rfl rfl (QL HT_.out (by kernel_rfl)) (fun _ _ _ h => h) (Or.inl ⟨by rfl,?_⟩) ?_ ?_
             rotate_left
             ·intro w'
              go_simp
              with_reducible rfl
             rotate_left
             ·simp only [Act.put,QO,QP,QR,QH,QK]
              rfl
             refine QN (i := 4) (N := some 30) (v := ?_) (a' := ?_) #[true,false,true,false,true,false,false,false,false,false,false,false] rfl rfl (QL HT_.out (by kernel_rfl)) (fun _ _ _ h => h) (Or.inl ⟨by rfl,?_⟩) ?_ ?_
             rotate_left
             ·intro w'
              go_simp
              with_reducible rfl
             rotate_left
             ·simp only [Act.put,QO,QP,QR,QH,QK]
              rfl
             refine QN (i := 10) (N := some 36) (v := ?_) (a' := ?_) #[true,false,true,false,true,false,false,false,false,false,true,false] rfl rfl (QL HT_.out (by kernel_rfl)) (fun _ _ _ h => h) (Or.inl ⟨by rfl,?_⟩) ?_ ?_
             rotate_left
             ·intro w'
              go_simp
              with_reducible rfl
             rotate_left
             ·simp only [Act.put,QO,QP,QR,QH,QK]
              rfl
             refine take_ (i := 1) (N := some 27) (v := ?_) (a' := ?_) #[true,true,true,false,true,false,false,false,false,false,true,false] rfl rfl (take_ofW HT_.out HW_.out (by kernel_rfl)) (fun _ _ _ h => h) (Or.inl ⟨by rfl,?_⟩) hHeld ?_ ?_
             rotate_left
             ·rintro w' ⟨s0,s1,s2,s3,s4,s5,s6,s7,s8,s9,s10,s11,s12,s13,s14⟩
              go_simp
              with_reducible rfl
             rotate_left
             ·simp only [Act.put,QO,QP,QR,QH,QK]
              rfl
             refine take_ (i := 3) (N := some 29) (v := ?_) (a' := ?_) #[true,true,true,true,true,false,false,false,false,false,true,false] rfl rfl (take_ofW HT_.out HW_.out (by kernel_rfl)) (fun _ _ _ h => h) (Or.inl ⟨by rfl,?_⟩) hHeld ?_ ?_
             rotate_left
             ·rintro w' ⟨s0,s1,s2,s3,s4,s5,s6,s7,s8,s9,s10,s11,s12,s13,s14⟩
              go_simp
              with_reducible rfl
             rotate_left
             ·simp only [Act.put,QO,QP,QR,QH,QK]
              rfl
             refine take_ (i := 5) (N := some 31) (v := ?_) (a' := ?_) #[true,true,true,true,true,true,false,false,false,false,true,false] rfl rfl (take_ofW HT_.out HW_.out (by kernel_rfl)) (fun _ _ _ h => h) (Or.inl ⟨by rfl,?_⟩) hHeld ?_ ?_
             rotate_left
             ·rintro w' ⟨s0,s1,s2,s3,s4,s5,s6,s7,s8,s9,s10,s11,s12,s13,s14⟩
              go_simp
              with_reducible rfl
             rotate_left
             ·simp only [Act.put,QO,QP,QR,QH,QK]
              rfl
             refine QN (i := 6) (N := some 32) (v := ?_) (a' := ?_) #[true,true,true,true,true,true,true,false,false,false,true,false] rfl rfl (QL HT_.out (by kernel_rfl)) (fun _ _ _ h => h) (Or.inl ⟨by rfl,?_⟩) ?_ ?_
             rotate_left
             ·intro w'
              go_simp
              with_reducible rfl
             rotate_left
             ·simp only [Act.put,QO,QP,QR,QH,QK]
              rfl
             refine QN (i := 7) (N := some 33) (v := ?_) (a' := ?_) #[true,true,true,true,true,true,true,true,false,false,true,false] rfl rfl (QL HT_.out (by kernel_rfl)) (fun _ _ _ h => h) (Or.inl ⟨by rfl,?_⟩) ?_ ?_
             rotate_left
             ·intro w'
              go_simp
              with_reducible rfl
             rotate_left
             ·simp only [Act.put,QO,QP,QR,QH,QK]
              rfl
             refine QN (i := 8) (N := some 34) (v := ?_) (a' := ?_) #[true,true,true,true,true,true,true,true,true,false,true,false] rfl rfl (QL HT_.out (by kernel_rfl)) (fun _ _ _ h => h) (Or.inl ⟨by rfl,?_⟩) ?_ ?_
             rotate_left
             ·intro w'
              go_simp
              with_reducible rfl
             rotate_left
             ·simp only [Act.put,QO,QP,QR,QH,QK]
              rfl
             refine take_ (i := 9) (N := some 35) (v := ?_) (a' := ?_) #[true,true,true,true,true,true,true,true,true,true,true,false] rfl rfl (take_ofW HT_.out HW_.out (by kernel_rfl)) (fun _ _ _ h => h) (Or.inl ⟨by rfl,?_⟩) hHeld ?_ ?_
             rotate_left
             ·rintro w' ⟨s0,s1,s2,s3,s4,s5,s6,s7,s8,s9,s10,s11,s12,s13,s14⟩
              go_simp
              with_reducible rfl
             rotate_left
             ·simp only [Act.put,QO,QP,QR,QH,QK]
              rfl
             refine one_ (i := 11) (N := some 37) #[true,true,true,true,true,true,true,true,true,true,true,true] rfl rfl (one_of HT_.out (by kernel_rfl)) (by decide) (fun K hK => ?_)
             refine goes_ Try.func33 (by kernel_rfl) rfl #[.agg #[.int .i64 a0_0,.int .i64 a0_1,.bool a0_2,.bool a0_3,.slice A0_4 l0_4.length c0_4,.slice A0_5 l0_5.length c0_5,.int .i64 a0_6,.int .i64 a0_7],.int .i64 (rd l0_10 (ji25)),.int .i64 (rd t473 x22_2)] (by rfl) rfl rfl (by (try simp only [List.map_toArray,List.map_cons,List.map_nil]); first | done | (simp only [hji25]; rfl) | rfl | (simp only [List.length_drop,List.length_take]; rfl)) ?_
             with_reducible refine (impl_FitsOn.calls k2 a0_0 a0_1 a0_2 a0_3 _ _ l0_4 _ _ l0_5 a0_6 a0_7 (rd l0_10 (ji25)) (rd t473 x22_2) t478 _ ?side1 ?side2 ?side3 ?side4 A28.out).mono ?_
             (case side1 => repeat (first | exact (Kd.C_below HR0_4.out HB.out) | (with_reducible refine Kd.C_alloc ?_ _) | (with_reducible refine Kd.C_drewN ?_ _) | (with_reducible refine Kd.C_drew ?_)))
             (case side2 => exact HC0_4.out)
             (case side3 => repeat (first | exact (Kd.C_below HR0_5.out HB.out) | (with_reducible refine Kd.C_alloc ?_ _) | (with_reducible refine Kd.C_drewN ?_ _) | (with_reducible refine Kd.C_drew ?_)))
             (case side4 => exact HC0_5.out)
             rintro e w32 ⟨rfl,hb⟩
             refine ⟨_,rfl,?_⟩
             have n0_ := QS (Kd.R_below (by (with_reducible repeat (first | apply QI | apply QJ | apply QG)); exact HO_3.out) hb)
             have n1_ := QS (Kd.R_below (by (with_reducible repeat (first | apply QI | apply QJ | apply QG)); exact HO_20.out) hb)
             have n2_ := QS (blk_below (g := gb466) (o := .cells #[.int .i64 a0_0,.int .i64 a0_1,.bool a0_2,.bool a0_3,.slice A0_4 l0_4.length c0_4,.slice A0_5 l0_5.length c0_5,.int .i64 a0_6,.int .i64 a0_7,.slice (some ad472) l0_8.length c0_8,.slice A0_9 l0_9.length c0_9,.slice (some ad477) l0_10.length c0_10,.int .i64 a0_11,.int .i64 a0_12,.int .i64 a0_13] 32 (0,0)) (by (with_reducible repeat (first | refine blk_drewN ?_ _ | refine blk_drew ?_ | refine blk_alloc ?_ _)); exact BK466.out) hb)
             have n3_ := QS (below_step (by repeat (first | (with_reducible first | exact HB.out | apply QE | apply QB | apply QC | refine QM ?_ GE466.out) | exact HB.out)) hb)
             clear HO_3
             clear HO_20
             clear BK466
             clear HB
             revert n0_ n1_ n2_ n3_
             intro HO_3 HO_20 BK466 HB
             (try clear hb)
             (try clear hb2)
             (try clear hk)
             (try clear hi)
             refine hK.out _ _ ⟨(QD BK466.out 0).trans rfl,(QD BK466.out 1).trans rfl,(QD BK466.out 2).trans rfl,(QD BK466.out 3).trans rfl,(QD BK466.out 4).trans rfl,(QD BK466.out 5).trans rfl,(QD BK466.out 6).trans rfl,(QD BK466.out 7).trans rfl,(QD BK466.out 8).trans rfl,(QD BK466.out 9).trans rfl,(QD BK466.out 10).trans rfl,(QD BK466.out 11).trans rfl,(QD BK466.out 12).trans rfl,(QD BK466.out 13).trans rfl,((HB.out.cell (World.block_lt_of_cell? w _ hw477_0)).trans hw477_0)⟩ (fun hHeld => ?_)
             clear hK K
             refine norm_ (a' := ?_) ?_ ?_
             rotate_left
             ·show Act.put _ (some 37) _ = _
              simp only [Act.put,QO,QP,QR,QH,QK]
              rfl
             refine done_ (done_of HT_.out (by kernel_rfl)) ?_
             by_cases c29 : t478 = true
             ·subst c29
              rw [if_pos rfl] at H
              by_cases c30 : x3_2.length < 17592186044416
              ·rw [if_pos c30] at H
               have LMc30 := QS c30
               clear c30
               obtain ⟨y479,hy479⟩ : ∃ y_ : List Int,y_ = (x3_2 ++ [rd t473 x22_2]) := ⟨_,rfl⟩
               replace H : (impl_Playable.l0 k2 y479 t473 (t473.length : Int) (wrap64 (x22_2 + 1)) a0_0 a0_1 a0_2 a0_3 l0_4 l0_5 a0_6 a0_7 l0_8 l0_9 l0_10 a0_11 a0_12 a0_13) = some r := by first | (rw [hy479]; with_reducible exact H) | (have H2_ := (Option.bind_some _ _).symm.trans H; rw [hy479]; with_reducible exact H2_) | (have H2_ := (Option.bind_some _ _).symm.trans H; with_reducible exact H2_) | with_reducible exact H | (rw [hy479]; exact H) | exact H
               have Ny479 := QS hy479
               clear hy479
               have H' := QS H
               clear H
               try go_wp2_with (first | ((with_reducible refine gate_builtin (b := .append) (xs := #[.tmp 38,.tmp 40]) rfl ?_); at_builtin; refine Kd.R_append (Kd.int .i64) (w0 := w) w.heap.size rfl (.tmp 38) (.tmp 40) 22 3 (.int .i64 0) 8 rfl Try.underlying22 info3 rfl (by decide) (by omega) u3 x3_2 (rd t473 x22_2) [.int .i64 (rd t473 x22_2)] (fun k_ => some k_ ≠ (.slice (some ad476) t473.length co21 : Value).ownBlock) (fun _ => False) rfl rfl ?aP (fun _ hk => hk.elim) ?aF ?aO ?aB ?aS ?aL ?_; (case aP => exact rfl); (case aB => exact (by repeat (first | (with_reducible first | exact HB.out | apply QE | apply QB | apply QC | refine QM ?_ GE466.out) | exact HB.out))); (case aF => exact (fun k_ hk => Kd.fresh' (Kd.R_lt (by (with_reducible repeat (first | apply QI | apply QJ | apply QG)); exact HO_20.out)) k_ hk)); (case aO => exact (by (with_reducible repeat (first | apply QI | apply QJ | apply QG)); exact HO_3.out)); (case aS => exact (below_size (by repeat (first | (with_reducible first | exact HB.out | apply QE | apply QB | apply QC | refine QM ?_ GE466.out) | exact HB.out)))); (case aL => have := LMc30.out; omega); intro v480 w33 ho hb hg hat; rw [← Ny479.out] at ho; have n0_ := QS (Kd.R_after (ok := (fun _ => True)) (by (with_reducible repeat (first | apply QI | apply QJ | apply QG)); exact Kd.R_mono HO_20.out (fun _ hk => ⟨trivial,hk⟩)) hg hat); have n1_ := QS (blk_grown (g := gb466) (o := .cells #[.int .i64 a0_0,.int .i64 a0_1,.bool a0_2,.bool a0_3,.slice A0_4 l0_4.length c0_4,.slice A0_5 l0_5.length c0_5,.int .i64 a0_6,.int .i64 a0_7,.slice (some ad472) l0_8.length c0_8,.slice A0_9 l0_9.length c0_9,.slice (some ad477) l0_10.length c0_10,.int .i64 a0_11,.int .i64 a0_12,.int .i64 a0_13] 32 (0,0)) (by (with_reducible repeat (first | refine blk_drewN ?_ _ | refine blk_drew ?_ | refine blk_alloc ?_ _)); exact BK466.out) hg (Kd.R_ne HO_3.out BK466.out (by decide))); have n2_ := QS (hb); have n3_ := QS (ho); clear HO_20; clear BK466; clear HB; clear HO_3; revert n0_ n1_ n2_ n3_; intro HO_20 BK466 HB HO481; clear ho hb hg hat))
               go_roundg k2
               case measure => have := HJ1.out; have := HK2.out; omega
               case rel => exact ⟨(y479),(wrap64 (x22_2 + 1)),(by first | rfl | (simp; done) | (simp [*]; done)),H',⟨by have := HJ1.out; have := HK2.out; omega⟩,⟨by (with_reducible repeat (first | apply QI | apply QJ | apply QG)); exact HO481.out⟩,⟨by (with_reducible repeat (first | apply QI | apply QJ | apply QG)); exact Kd.R_mono HO_20.out (by first | exact fun k_ hk => hk.2 | exact fun k_ hk => hk)⟩,⟨by (with_reducible repeat (first | refine blk_drewN ?_ _ | refine blk_drew ?_ | refine blk_alloc ?_ _)); exact BK466.out⟩,⟨by repeat (first | (with_reducible first | exact HB.out | apply QE | apply QB | apply QC | refine QM ?_ GE466.out) | exact HB.out)⟩⟩
              ·rw [if_neg c30] at H
               exact absurd H (by simp)
             ·replace c29 := Bool.eq_false_iff.mpr c29
              subst c29
              rw [if_neg (show ¬ (false = true) by decide)] at H
              have H' := QS H
              clear H
              try go_wp2
              go_roundg k2
              case measure => have := HJ1.out; have := HK2.out; omega
              case rel => exact ⟨(x3_2),(wrap64 (x22_2 + 1)),(by first | rfl | (simp; done) | (simp [*]; done)),H',⟨by have := HJ1.out; have := HK2.out; omega⟩,⟨by (with_reducible repeat (first | apply QI | apply QJ | apply QG)); exact HO_3.out⟩,⟨by (with_reducible repeat (first | apply QI | apply QJ | apply QG)); exact HO_20.out⟩,⟨by (with_reducible repeat (first | refine blk_drewN ?_ _ | refine blk_drew ?_ | refine blk_alloc ?_ _)); exact BK466.out⟩,⟨by repeat (first | (with_reducible first | exact HB.out | apply QE | apply QB | apply QC | refine QM ?_ GE466.out) | exact HB.out)⟩⟩
            ·rw [if_neg c27] at H
             exact absurd H (by simp)
           ·rw [if_neg c26] at H
            exact absurd H (by simp)
          ·rw [if_neg c24] at H
           exact absurd H (by simp)
         ·rw [if_neg c23] at H
          exact absurd H (by simp)
        ·rw [if_neg c22] at H
         have c22b0 : decide (x22_2 < (t473.length : Int)) = false := decide_eq_false c22
         clear c22
         obtain rfl := Option.some.inj H
         go_wp2
         go_ret
         exact ⟨_,by first | rfl | (simp [errW_none,errW_some] <;> rfl) | (simp [*,errW_none,errW_some] <;> rfl),by (with_reducible repeat (first | apply QI | apply QJ | apply QG)); exact Kd.R_mono HO_3.out (fun _ hk => trivial),by repeat (first | (with_reducible first | exact HB.out | apply QE | apply QB | apply QC | refine QM ?_ GE466.out) | exact HB.out)⟩
     ·rw [if_neg c15] at H
      exact absurd H (by simp)
    ·rw [if_neg c14] at H
     exact absurd H (by simp)

/-! ### impl_SuitCounts: function 20 -/
def impl_SuitCounts.l0 : Nat → List Int → List Int → Int → Int → Option (List Int)
 | 0,_,_,_,_ => none
 | k + 1,x3,x7,x8,x9 => if x9 < x8 then (if 0 ≤ x9 then (if x9 < (x7.length : Int) then ((impl_IsCard.f (rd x7 x9)).bind fun t486 => (if t486 = true then ((impl_SuitOf.f (rd x7 x9)).bind fun t487 => (if 0 ≤ t487 then (if t487 < (x3.length : Int) then (impl_SuitCounts.l0 k (x3.set (t487 : Int).toNat (wrap64 ((rd x3 t487) + 1))) x7 x8 (wrap64 (x9 + 1))) else (none)) else (none))) else (impl_SuitCounts.l0 k x3 x7 x8 (wrap64 (x9 + 1))))) else (none)) else (none)) else (some x3)
def impl_SuitCounts.f (k : Nat) (l0 : List Int) : Option (List Int) := if 4 ≤ 35184372088832 then (impl_SuitCounts.l0 k (List.replicate 4 0) l0 (l0.length : Int) 0) else (none)
theorem impl_SuitCounts.mono_l : ∀ k, (∀ y0 y1 y2 y3, LeO (impl_SuitCounts.l0 k y0 y1 y2 y3) (impl_SuitCounts.l0 (k + 1) y0 y1 y2 y3))
 | 0 => fun _ _ _ _ r h => by simp [impl_SuitCounts.l0] at h
 | k + 1 => by
  have ih0 := impl_SuitCounts.mono_l k
  ·intro y0 y1 y2 y3
   unfold impl_SuitCounts.l0
   repeat' first
   | (with_reducible exact ih0 _ _ _ _)
   | (with_reducible exact LeO.refl _)
   | (with_reducible exact LeO.none _)
   | (with_reducible refine LeO.ite ?_ ?_)
   | (with_reducible refine LeO.bind ?_ (fun _ => ?_))
   | exact ih0 _ _ _ _
   | exact LeO.none _
   | refine LeO.ite ?_ ?_
   | refine LeO.bind ?_ (fun _ => ?_)
theorem impl_SuitCounts.mono : ∀ a0 k, LeO (impl_SuitCounts.f k a0) (impl_SuitCounts.f (k + 1) a0) := by
 intro a0 k
 have ih0 := impl_SuitCounts.mono_l k
 unfold impl_SuitCounts.f
 repeat' first
   | (with_reducible exact ih0 _ _ _ _)
   | (with_reducible exact LeO.refl _)
   | (with_reducible exact LeO.none _)
   | (with_reducible refine LeO.ite ?_ ?_)
   | (with_reducible refine LeO.bind ?_ (fun _ => ?_))
   | exact ih0 _ _ _ _
   | exact LeO.none _
   | refine LeO.ite ?_ ?_
   | refine LeO.bind ?_ (fun _ => ?_)
set_option maxHeartbeats 8000000 in
set_option maxRecDepth 100000 in
theorem impl_SuitCounts.calls (k : Nat) (A0 : Option Addr) (c0 : Nat) (l0 : List Int) (r : List Int) (w : World) (hr0 : Kd.C (Kd.int .i64) w A0 l0.length l0) (hc0 : l0.length ≤ c0) (h : impl_SuitCounts.f k l0 = some r) :
  Calls Try.prog 20 #[.slice A0 l0.length c0] w fun e w' => ∃ v0_ : Value,e = .returned (v0_) ∧ Kd.R (Kd.int .i64) 3 w' w.heap.size (fun _ => True) v0_ r ∧ Below w.heap.size w w' := by
 have HR0 := QS hr0
 have HC0 := QS hc0
 clear hr0 hc0
 have HB := QS (Below.refl w.heap.size w)
 have H : (if 4 ≤ 35184372088832 then (impl_SuitCounts.l0 k (List.replicate 4 0) l0 (l0.length : Int) 0) else (none)) = some r := h
 clear h
 by_cases c2 : 4 ≤ 35184372088832
 ·rw [if_pos c2] at H
  have c2b0 := eq_true c2
  have c2b1 : decide (4 ≤ 35184372088832) = true := decide_eq_true c2
  clear c2
  obtain ⟨y482,hy482⟩ : ∃ y_ : List Int,y_ = (List.replicate 4 0) := ⟨_,rfl⟩
  replace H : (impl_SuitCounts.l0 k y482 l0 (l0.length : Int) 0) = some r := by first | (rw [hy482]; with_reducible exact H) | (have H2_ := (Option.bind_some _ _).symm.trans H; rw [hy482]; with_reducible exact H2_) | (have H2_ := (Option.bind_some _ _).symm.trans H; with_reducible exact H2_) | with_reducible exact H | (rw [hy482]; exact H) | exact H
  have Ny482 := QS hy482
  clear hy482
  have H' := QS H
  clear H
  go_enter Try.func20,Try.ntmps20
  go_wp2_with (first | ((with_reducible refine gate_dst (N := 6) rfl ?_); refine Kd.R_make (Kd.int .i64) _ 3 rfl (N := 6) rfl 22 _ _ rfl 4 rfl rfl Try.underlying22 (.int .i64 0) 8 info3 rfl (by decide) (by omega) 0 (ok := fun _ => True) (okp := fun _ => True) rfl (fun _ hk => hk) trivial (by omega) (by omega) (Below.refl _ _) (Nat.le_refl _) ?_; intro v483 w3 ho4 hb hg_ hnew_; clear hg_ hnew_; (first | rw [← Ny482.out] at ho4 | (simp only [Int.reduceToNat] at ho4; rw [← Ny482.out] at ho4)); have n0_ := QS (Kd.R_lower ho4 (below_size (by repeat (first | (with_reducible first | exact HB.out | apply QE | apply QB | apply QC) | exact HB.out)))); have n1_ := QS (below_step (by repeat (first | (with_reducible first | exact HB.out | apply QE | apply QB | apply QC) | exact HB.out)) hb); clear HB; revert n0_ n1_; intro HO484 HB; clear hb ho4))
  go_loopg [9] k (fun kq v9 w' => ∃ (x3_1 : List Int) (x9_1 : Int),v9 = .int .i64 x9_1 ∧ Aside0 (impl_SuitCounts.l0 kq x3_1 l0 (l0.length : Int) x9_1 = some r) ∧ Aside0 (kq ≤ k) ∧ Aside0 (Kd.R (Kd.int .i64) 3 w' w.heap.size (fun _ => True) v483 x3_1) ∧ Aside0 (Below w.heap.size w w'))
  case atStart => exact ⟨(y482),(0),(by first | rfl | (simp; done) | (simp [*]; done)),H',⟨Nat.le_refl _⟩,⟨by (with_reducible repeat (first | apply QI | apply QJ | apply QG)); exact HO484.out⟩,⟨by repeat (first | (with_reducible first | exact HB.out | apply QE | apply QB | apply QC) | exact HB.out)⟩⟩
  case round =>
   clear H'
   try clear c2
   try clear c2b0
   try clear c2b1
   try clear p2
   obtain ⟨x3_1,x9_1,rfl,HA,HK1,HO_3,HB⟩ := hrel
   cases gk with
   | zero => exact absurd HA.out (by simp [impl_SuitCounts.l0])
   | succ k1 =>
    have H := HA.out
    clear HA
    simp only [impl_SuitCounts.l0] at H
    by_cases c5 : x9_1 < (l0.length : Int)
    ·rw [if_pos c5] at H
     have c5b0 : decide (x9_1 < (l0.length : Int)) = true := decide_eq_true c5
     clear c5
     by_cases c6 : 0 ≤ x9_1
     ·rw [if_pos c6] at H
      have c6b0 : decide (0 ≤ x9_1) = true := decide_eq_true c6
      clear c6
      by_cases c7 : x9_1 < (l0.length : Int)
      ·rw [if_pos c7] at H
       have c7b0 : decide (x9_1 < (l0.length : Int)) = true := decide_eq_true c7
       clear c7
       replace H := QT.mp H
       obtain ⟨t486,A80,H⟩ := H
       have A8 := QS A80
       clear A80
       by_cases c9 : t486 = true
       ·subst c9
        rw [if_pos rfl] at H
        replace H := QT.mp H
        obtain ⟨t487,A100,H⟩ := H
        have A10 := QS A100
        clear A100
        by_cases c11 : 0 ≤ t487
        ·rw [if_pos c11] at H
         have c11b0 : decide (0 ≤ t487) = true := decide_eq_true c11
         clear c11
         by_cases c12 : t487 < (x3_1.length : Int)
         ·rw [if_pos c12] at H
          have c12b0 : decide (t487 < (x3_1.length : Int)) = true := decide_eq_true c12
          clear c12
          obtain ⟨y489,hy489⟩ : ∃ y_ : List Int,y_ = (x3_1.set (t487 : Int).toNat (wrap64 ((rd x3_1 t487) + 1))) := ⟨_,rfl⟩
          replace H : (impl_SuitCounts.l0 k1 y489 l0 (l0.length : Int) (wrap64 (x9_1 + 1))) = some r := by first | (rw [hy489]; with_reducible exact H) | (have H2_ := (Option.bind_some _ _).symm.trans H; rw [hy489]; with_reducible exact H2_) | (have H2_ := (Option.bind_some _ _).symm.trans H; with_reducible exact H2_) | with_reducible exact H | (rw [hy489]; exact H) | exact H
          have Ny489 := QS hy489
          clear hy489
          have H' := QS H
          clear H
          have p485 : 0 ≤ (x9_1 : Int) := of_decide_eq_true (by first | (with_reducible assumption) | assumption)
          have q485 : x9_1 < (l0.length : Int) := of_decide_eq_true (by first | (with_reducible assumption) | assumption)
          obtain ⟨ad485,e485,hx485_0⟩ := Kd.at_int HR0.out x9_1 p485 q485
          cases e485
          replace hx485_0 := (HB.out.cell (World.block_lt_of_cell? w _ hx485_0)).trans hx485_0
          replace p485 := eq_true p485
          replace q485 := eq_true q485
          go_wp2_with (first | ((with_reducible refine gate_callee (f := 34) rfl ?_); refine goesL_ (some 14) rfl rfl Try.func34 (by kernel_rfl) rfl #[.int .i64 (rd l0 x9_1)] rfl (by (try simp only [List.map_toArray,List.map_cons,List.map_nil]); first | done | rfl | (simp only [List.length_drop,List.length_take]; rfl)) ?_; (with_reducible refine (impl_IsCard.calls (rd l0 x9_1) true _ A8.out).mono ?_); rintro e w' ⟨rfl,⟨nd,rfl⟩⟩; refine ⟨_,rfl,?_⟩; (try (rw [drewN_self wr]; generalize hq_ : World.drewN wr _ = wr; have n0_ : Aside0 (Kd.R (Kd.int .i64) 3 wr w.heap.size (fun _ => True) v483 x3_1) := ⟨by rw [← hq_]; exact (by (with_reducible repeat (first | apply QI | apply QJ | apply QG)); exact HO_3.out)⟩; have n1_ : Aside0 (Below w.heap.size w wr) := ⟨by rw [← hq_]; exact (by repeat (first | (with_reducible first | exact HB.out | apply QE | apply QB | apply QC) | exact HB.out))⟩; clear HO_3 HB hq_; revert n0_ n1_; intro HO_3 HB))) | ((with_reducible refine gate_callee (f := 21) rfl ?_); refine goesL_ (some 17) rfl rfl Try.func21 (by kernel_rfl) rfl #[.int .i64 (rd l0 x9_1)] rfl (by (try simp only [List.map_toArray,List.map_cons,List.map_nil]); first | done | rfl | (simp only [List.length_drop,List.length_take]; rfl)) ?_; (with_reducible refine (impl_SuitOf.calls (rd l0 x9_1) t487 _ A10.out).mono ?_); rintro e w' ⟨rfl,⟨nd,rfl⟩⟩; refine ⟨_,rfl,?_⟩; (try (rw [drewN_self wr]; generalize hq_ : World.drewN wr _ = wr; have n0_ : Aside0 (Kd.R (Kd.int .i64) 3 wr w.heap.size (fun _ => True) v483 x3_1) := ⟨by rw [← hq_]; exact (by (with_reducible repeat (first | apply QI | apply QJ | apply QG)); exact HO_3.out)⟩; have n1_ : Aside0 (Below w.heap.size w wr) := ⟨by rw [← hq_]; exact (by repeat (first | (with_reducible first | exact HB.out | apply QE | apply QB | apply QC) | exact HB.out))⟩; clear HO_3 HB hq_; revert n0_ n1_; intro HO_3 HB)); obtain ⟨Ao14,co14,eo14⟩ := Kd.R_slice HO_3.out; subst eo14; have p488 : 0 ≤ (t487 : Int) := of_decide_eq_true (by first | (with_reducible assumption) | assumption); have q488 : t487 < (x3_1.length : Int) := of_decide_eq_true (by first | (with_reducible assumption) | assumption); obtain ⟨ad488,e488,hx488_0⟩ := Kd.at_int (Kd.R_reads' HO_3.out).2.2 t487 p488 q488; cases e488; replace p488 := eq_true p488; replace q488 := eq_true q488; have p13 : 0 ≤ (t487 : Int) := of_decide_eq_true (by first | (with_reducible assumption) | assumption); have q13 : (t487 : Int) < ((x3_1.length : Int) : Int) := of_decide_eq_true (by first | (with_reducible assumption) | assumption); obtain ⟨go13,co13,eo13,gb13,gl13,cl13,HG13⟩ := Kd.R_form HO_3.out (by omega); (first | cases eo13 | (injection eo13 with ea_ en_ ec_; (first | subst ea_ | (injection ea_ with ea_; subst ea_)); subst ec_; clear en_)); have GB13 := QS gb13; have GG13 := QS HG13; clear gb13 gl13 HG13; (first | simp only [add_plain] at hx488_0 | skip); obtain ⟨hx13_0,hf13_0⟩ := Kd.R_celln 0 HO_3.out (t487 : Int) p13 q13; replace p13 := eq_true p13; replace q13 := eq_true q13; obtain ⟨hy15_,hz15_⟩ := Kd.R_celln 0 HO_3.out (t487 : Int) (of_decide_eq_true (by first | (with_reducible assumption) | assumption)) (of_decide_eq_true (by first | (with_reducible assumption) | assumption)); have HP15 := Kd.R_putg HO_3.out (t487 : Int) (wrap64 ((rd x3_1 t487) + 1))) | ((with_reducible refine gate_store (t := 3) (p := 21) rfl ?_); refine store_event (t := 3) (p := 21) (v := ?vo_w16) (w1 := (wr.setCell ⟨go13,(t487 : Int).toNat,none⟩ (.int .i64 (wrap64 ((rd x3_1 t487) + 1))))) ?hg ?ho ?hn ?hr ?_; (case ho => rfl); (case hg => rfl); (case hn => rfl); (case hr => first | (go_simp; done) | (go_simp; rfl)); intro w16 hw; have hg : wr.grownBy w16 (some go13) := (by rw [hw]; exact HP15.2); have hp_ : Kd.R (Kd.int .i64) 3 w16 w.heap.size (fun _ => True) (.slice (some ⟨go13,0,none⟩) x3_1.length co14) y489 := (by rw [hw,Ny489.out]; exact HP15.1); clear HP15; have n0_ := QS (hp_); have n1_ := QS ((by rw [hw]; exact QM (HB.out) GB13.out : Below w.heap.size w w16)); clear HO_3; clear HB; revert n0_ n1_; intro HO_3 HB; clear hg hw hp_))
          go_roundg k1
          case measure => have := HK1.out; omega
          case rel => exact ⟨(y489),(wrap64 (x9_1 + 1)),(by first | rfl | (simp; done) | (simp [*]; done)),H',⟨by have := HK1.out; omega⟩,⟨by (with_reducible repeat (first | apply QI | apply QJ | apply QG)); exact HO_3.out⟩,⟨by repeat (first | (with_reducible first | exact HB.out | apply QE | apply QB | apply QC) | exact HB.out)⟩⟩
         ·rw [if_neg c12] at H
          exact absurd H (by simp)
        ·rw [if_neg c11] at H
         exact absurd H (by simp)
       ·replace c9 := Bool.eq_false_iff.mpr c9
        subst c9
        rw [if_neg (show ¬ (false = true) by decide)] at H
        have H' := QS H
        clear H
        have p485 : 0 ≤ (x9_1 : Int) := of_decide_eq_true (by first | (with_reducible assumption) | assumption)
        have q485 : x9_1 < (l0.length : Int) := of_decide_eq_true (by first | (with_reducible assumption) | assumption)
        obtain ⟨ad485,e485,hx485_0⟩ := Kd.at_int HR0.out x9_1 p485 q485
        cases e485
        replace hx485_0 := (HB.out.cell (World.block_lt_of_cell? w _ hx485_0)).trans hx485_0
        replace p485 := eq_true p485
        replace q485 := eq_true q485
        go_wp2_with (first | ((with_reducible refine gate_callee (f := 34) rfl ?_); refine goesL_ (some 14) rfl rfl Try.func34 (by kernel_rfl) rfl #[.int .i64 (rd l0 x9_1)] rfl (by (try simp only [List.map_toArray,List.map_cons,List.map_nil]); first | done | rfl | (simp only [List.length_drop,List.length_take]; rfl)) ?_; (with_reducible refine (impl_IsCard.calls (rd l0 x9_1) false _ A8.out).mono ?_); rintro e w' ⟨rfl,⟨nd,rfl⟩⟩; refine ⟨_,rfl,?_⟩))
        go_roundg k1
        case measure => have := HK1.out; omega
        case rel => exact ⟨(x3_1),(wrap64 (x9_1 + 1)),(by first | rfl | (simp; done) | (simp [*]; done)),H',⟨by have := HK1.out; omega⟩,⟨by (with_reducible repeat (first | apply QI | apply QJ | apply QG)); exact HO_3.out⟩,⟨by repeat (first | (with_reducible first | exact HB.out | apply QE | apply QB | apply QC) | exact HB.out)⟩⟩
      ·rw [if_neg c7] at H
       exact absurd H (by simp)
     ·rw [if_neg c6] at H
      exact absurd H (by simp)
    ·rw [if_neg c5] at H
     have c5b0 : decide (x9_1 < (l0.length : Int)) = false := decide_eq_false c5
     clear c5
     obtain rfl := Option.some.inj H
     go_wp2
     go_ret
     exact ⟨_,by first | rfl | (simp [errW_none,errW_some] <;> rfl) | (simp [*,errW_none,errW_some] <;> rfl),by (with_reducible repeat (first | apply QI | apply QJ | apply QG)); exact HO_3.out,by repeat (first | (with_reducible first | exact HB.out | apply QE | apply QB | apply QC) | exact HB.out)⟩
 ·rw [if_neg c2] at H
  exact absurd H (by simp)

end Go.Proofs.Ytdfmobcocaijpaa.QFnExactChoiceOf
