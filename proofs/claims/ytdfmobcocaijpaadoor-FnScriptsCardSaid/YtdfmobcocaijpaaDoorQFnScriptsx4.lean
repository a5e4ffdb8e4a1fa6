/- What a call of each Go function that FnScripts reaches comes to, as a Lean function: texts of the kit's print, turned by wip/remake.py. No condition beyond what each names. -/
import Derived.Test.YtdfmobcocaijpaaDoorQFnScriptsx3
namespace Go.Proofs.YtdfmobcocaijpaaDoor.QFnScripts
open Go.RowKit Go.Proofs.YtdfmobcocaijpaaDoorW.PrintWords Go.Proofs.YtdfmobcocaijpaaDoorW.PrintLast Go.Proofs.YtdfmobcocaijpaaDoorW.PrintMore
open Go.Proofs.YtdfmobcocaijpaaDoorW.PrintWords renaming pw_below_drewN → QB, below_drew1 → QC, below_alloc → QD, blk_drewN → QE, blk_alloc → QF, blk_drew → QI, below_set → QK, blk_put → QO, blk_frozen → QR, blk_below → QS, gate_callee → QT, below_step → QU, below_size → QV, blk_cell → QW
open Go.Proofs.YtdfmobcocaijpaaDoorW.PrintWords.Kd renaming R_alloc → QG, R_drewN → QH, R_drew → QJ, R_below → QL, R_types → QM, R_mono → QN, R_reads' → QP
open Go.Proofs.YtdfmobcocaijpaaDoorW.PrintMore renaming far_r → QX
open Go.Proofs.YtdfmobcocaijpaaDoorW.PrintWords.Aside0 renaming mk → QY
open Option renaming bind_eq_some_iff → QZ
attribute [local go_sem] max2_int min2_int max_two min_two max_three min_three max_four min_four   -- for this text's walks alone
set_option linter.unusedVariables false
set_option linter.unusedSimpArgs false

/-! ### impl_ParseRules: function 8 -/
def impl_ParseRules.l0 : Nat → ByteArray → List ByteArray → List ByteArray → List ByteArray → Int → Int → Option (Int × Int × Bool × Bool × List Int × List Int × Int × Int × Bool)
 | 0,_,_,_,_,_,_ => none
 | k + 1,x0,x5,x6,x22,x23,x24 => if x24 < x23 then (if 0 ≤ x24 then (if x24 < (x22.length : Int) then (if x24 < (x5.length : Int) then ((impl_ValueAfter.f (rdOf ByteArray.empty x22 x24) (rdOf ByteArray.empty x5 x24)).bind fun bt452 => (if bt452.2 = true then (if x6.length < 8796093022208 then (impl_ParseRules.l0 k x0 x5 (x6 ++ [bt452.1]) x22 x23 (wrap64 (x24 + 1))) else (none)) else (some (0,0,false,false,([] : List Int),([] : List Int),0,0,false)))) else (none)) else (none)) else (none)) else (if 2 < (x6.length : Int) then (if 0 < (x6.length : Int) then ((impl_ParseInt.f (rdOf ByteArray.empty x6 0)).bind fun bt461 => (if 1 < (x6.length : Int) then ((impl_ParseInt.f (rdOf ByteArray.empty x6 1)).bind fun bt464 => (if 3 < (x6.length : Int) then ((impl_ParsePattern.f k (rdOf ByteArray.empty x6 3)).bind fun bt467 => (if 4 < (x6.length : Int) then ((impl_ParsePattern.f k (rdOf ByteArray.empty x6 4)).bind fun bt472 => (if 5 < (x6.length : Int) then ((impl_ParseInt.f (rdOf ByteArray.empty x6 5)).bind fun bt477 => (if 6 < (x6.length : Int) then ((impl_ParseInt.f (rdOf ByteArray.empty x6 6)).bind fun bt480 => ((impl_IsRules.f k bt461.1 bt464.1 ((rdOf ByteArray.empty x6 2).toList != ([114,97,110,107] : List UInt8)) ((rdOf ByteArray.empty x6 2).toList != ([115,117,105,116] : List UInt8)) bt467.1 bt472.1 bt477.1 bt480.1).bind fun t482 => (if t482 = true then ((impl_RulesText.f k bt461.1 bt464.1 ((rdOf ByteArray.empty x6 2).toList != ([114,97,110,107] : List UInt8)) ((rdOf ByteArray.empty x6 2).toList != ([115,117,105,116] : List UInt8)) bt467.1 bt472.1 bt477.1 bt480.1).bind fun t483 => (if t483.toList = x0.toList then (some (bt461.1,bt464.1,((rdOf ByteArray.empty x6 2).toList != ([114,97,110,107] : List UInt8)),((rdOf ByteArray.empty x6 2).toList != ([115,117,105,116] : List UInt8)),bt467.1,bt472.1,bt477.1,bt480.1,true)) else (some (0,0,false,false,([] : List Int),([] : List Int),0,0,false)))) else (some (0,0,false,false,([] : List Int),([] : List Int),0,0,false))))) else (none))) else (none))) else (none))) else (none))) else (none))) else (none)) else (none))
def impl_ParseRules.f (k : Nat) (a0 : ByteArray) : Option (Int × Int × Bool × Bool × List Int × List Int × Int × Int × Bool) := (impl_SplitWords.f k a0 32).bind fun t441 => ((some (([(⟨#[112, 108, 97, 121, 101, 114, 115]⟩ : ByteArray), (⟨#[101, 97, 99, 104]⟩ : ByteArray), (⟨#[109, 97, 116, 99, 104]⟩ : ByteArray), (⟨#[119, 105, 108, 100]⟩ : ByteArray), (⟨#[115, 107, 105, 112]⟩ : ByteArray), (⟨#[116, 97, 107, 101]⟩ : ByteArray), (⟨#[108, 105, 109, 105, 116]⟩ : ByteArray)] : List ByteArray) : List ByteArray)).bind fun y444 => (if (t441.length : Int) = (y444.length : Int) then (impl_ParseRules.l0 k a0 y444 (([] : List ByteArray)) t441 (t441.length : Int) 0) else (some (0, 0, false, false, ([] : List Int), ([] : List Int), 0, 0, false))))
theorem impl_ParseRules.mono_l : ∀ k, (∀ y0 y1 y2 y3 y4 y5, LeO (impl_ParseRules.l0 k y0 y1 y2 y3 y4 y5) (impl_ParseRules.l0 (k + 1) y0 y1 y2 y3 y4 y5))
 | 0 => fun _ _ _ _ _ _ r h => by simp [impl_ParseRules.l0] at h
 | k + 1 => by
  have ih0 := impl_ParseRules.mono_l k
  ·intro y0 y1 y2 y3 y4 y5
   unfold impl_ParseRules.l0
   repeat' first
   | (with_reducible exact ih0 _ _ _ _ _ _)
   | (with_reducible exact impl_IsRules.mono _ _ _ _ _ _ _ _ _)
   | (with_reducible exact impl_ParsePattern.mono _ _)
   | (with_reducible exact impl_RulesText.mono _ _ _ _ _ _ _ _ _)
   | (with_reducible exact impl_SplitWords.mono _ _ _)
   | (with_reducible exact LeO.refl _)
   | (with_reducible exact LeO.none _)
   | (with_reducible refine LeO.ite ?_ ?_)
   | (with_reducible refine LeO.bind ?_ (fun _ => ?_))
   | exact ih0 _ _ _ _ _ _
   | exact impl_IsRules.mono _ _ _ _ _ _ _ _ _
   | exact impl_ParsePattern.mono _ _
   | exact impl_RulesText.mono _ _ _ _ _ _ _ _ _
   | exact impl_SplitWords.mono _ _ _
   | exact LeO.none _
   | refine LeO.ite ?_ ?_
   | refine LeO.bind ?_ (fun _ => ?_)
theorem impl_ParseRules.mono : ∀ a0 k, LeO (impl_ParseRules.f k a0) (impl_ParseRules.f (k + 1) a0) := by
 intro a0 k
 have ih0 := impl_ParseRules.mono_l k
 unfold impl_ParseRules.f
 repeat' first
   | (with_reducible exact ih0 _ _ _ _ _ _)
   | (with_reducible exact impl_IsRules.mono _ _ _ _ _ _ _ _ _)
   | (with_reducible exact impl_ParsePattern.mono _ _)
   | (with_reducible exact impl_RulesText.mono _ _ _ _ _ _ _ _ _)
   | (with_reducible exact impl_SplitWords.mono _ _ _)
   | (with_reducible exact LeO.refl _)
   | (with_reducible exact LeO.none _)
   | (with_reducible refine LeO.ite ?_ ?_)
   | (with_reducible refine LeO.bind ?_ (fun _ => ?_))
   | exact ih0 _ _ _ _ _ _
   | exact impl_IsRules.mono _ _ _ _ _ _ _ _ _
   | exact impl_ParsePattern.mono _ _
   | exact impl_RulesText.mono _ _ _ _ _ _ _ _ _
   | exact impl_SplitWords.mono _ _ _
   | exact LeO.none _
   | refine LeO.ite ?_ ?_
   | refine LeO.bind ?_ (fun _ => ?_)
def impl_ParseRules.T14 : Bool × List (List Nat × List Nat) := (true, [([], []), ([0], [0]), ([1], [1]), ([2], [2]), ([], []), ([4], [4]), ([5], [5]), ([6], [6]), ([3, 7], [3, 7]), ([], []), ([9, 8, 0, 1, 2, 3, 4, 5, 6, 7, 8, 9], [8, 9])])
def impl_ParseRules.B14 : List Nat := [0, 1, 3, 7, 0, 16, 48, 112, 255, 0, 1023]
theorem impl_ParseRules.tab14 : rtab .any (opsOf Tryd.f8 14) = impl_ParseRules.T14 := by kernel_rfl
theorem impl_ParseRules.bits14 : waitsOk impl_ParseRules.T14.2 impl_ParseRules.B14 = true := by kernel_rfl
set_option maxHeartbeats 8000000 in
set_option maxRecDepth 100000 in
theorem impl_ParseRules.calls (k : Nat) (a0 : ByteArray) (r1 : Int) (r2 : Int) (r3 : Bool) (r4 : Bool) (r5 : List Int) (r6 : List Int) (r7 : Int) (r8 : Int) (r9 : Bool) (w : World) (ht : LaidE w) (h : impl_ParseRules.f k a0 = some (r1, r2, r3, r4, r5, r6, r7, r8, r9)) :
  Calls Tryd.prog 8 #[.string a0] w fun e w' => ∃ v4_ v5_ : Value,e = .returned (.tuple #[.agg #[.int .i64 r1,.int .i64 r2,.bool r3,.bool r4,v4_,v5_,.int .i64 r7,.int .i64 r8],.bool r9]) ∧ Kd.R (Kd.int .i64) 3 w' w.heap.size (fun k_ => some k_ ≠ (v5_ : Value).ownBlock) v4_ r5 ∧ Kd.R (Kd.int .i64) 3 w' w.heap.size (fun k_ => some k_ ≠ (v4_ : Value).ownBlock) v5_ r6 ∧ Below w.heap.size w w' := by
 have HTAB := QY ht
 clear ht
 have hu26 := Tryd.underlying26
 have HB := QY (Below.refl w.heap.size w)
 have H : ((impl_SplitWords.f k a0 32).bind fun t441 => ((some (([(⟨#[112,108,97,121,101,114,115]⟩ : ByteArray),(⟨#[101,97,99,104]⟩ : ByteArray),(⟨#[109,97,116,99,104]⟩ : ByteArray),(⟨#[119,105,108,100]⟩ : ByteArray),(⟨#[115,107,105,112]⟩ : ByteArray),(⟨#[116,97,107,101]⟩ : ByteArray),(⟨#[108,105,109,105,116]⟩ : ByteArray)] : List ByteArray) : List ByteArray)).bind fun y444 => (if (t441.length : Int) = (y444.length : Int) then (impl_ParseRules.l0 k a0 y444 (([] : List ByteArray)) t441 (t441.length : Int) 0) else (some (0,0,false,false,([] : List Int),([] : List Int),0,0,false))))) = some (r1,r2,r3,r4,r5,r6,r7,r8,r9) := h
 clear h
 replace H := QZ.mp H
 obtain ⟨t441,A20,H⟩ := H
 replace H : ((some (([(⟨#[112,108,97,121,101,114,115]⟩ : ByteArray),(⟨#[101,97,99,104]⟩ : ByteArray),(⟨#[109,97,116,99,104]⟩ : ByteArray),(⟨#[119,105,108,100]⟩ : ByteArray),(⟨#[115,107,105,112]⟩ : ByteArray),(⟨#[116,97,107,101]⟩ : ByteArray),(⟨#[108,105,109,105,116]⟩ : ByteArray)] : List ByteArray) : List ByteArray)).bind fun y444 => (if (t441.length : Int) = (y444.length : Int) then (impl_ParseRules.l0 k a0 y444 (([] : List ByteArray)) t441 (t441.length : Int) 0) else (some (0,0,false,false,([] : List Int),([] : List Int),0,0,false)))) = some (r1,r2,r3,r4,r5,r6,r7,r8,r9) := H
 have A2 := QY A20
 clear A20
 obtain ⟨y444,hy444⟩ : ∃ y_ : List ByteArray,y_ = (([(⟨#[112,108,97,121,101,114,115]⟩ : ByteArray),(⟨#[101,97,99,104]⟩ : ByteArray),(⟨#[109,97,116,99,104]⟩ : ByteArray),(⟨#[119,105,108,100]⟩ : ByteArray),(⟨#[115,107,105,112]⟩ : ByteArray),(⟨#[116,97,107,101]⟩ : ByteArray),(⟨#[108,105,109,105,116]⟩ : ByteArray)] : List ByteArray)) := ⟨_,rfl⟩
 replace H : (if (t441.length : Int) = (y444.length : Int) then (impl_ParseRules.l0 k a0 y444 (([] : List ByteArray)) t441 (t441.length : Int) 0) else (some (0,0,false,false,([] : List Int),([] : List Int),0,0,false))) = some (r1,r2,r3,r4,r5,r6,r7,r8,r9) := by first | (rw [hy444]; with_reducible exact H) | (have H2_ := (Option.bind_some _ _).symm.trans H; rw [hy444]; with_reducible exact H2_) | (have H2_ := (Option.bind_some _ _).symm.trans H; with_reducible exact H2_) | with_reducible exact H | (rw [hy444]; exact H) | exact H
 have Ny444 := QY hy444
 clear hy444
 go_enter Tryd.func8,Tryd.ntmps8
 go_wp2_with (first | ((with_reducible refine gate_dst (N := 2) rfl ?_); refine box_event ?hg (N := 2) ?hd (cs := #[.int .i64 0,.int .i64 0,.bool false,.bool false,.slice none 0 0,.slice none 0 0,.int .i64 0,.int .i64 0]) (t := 26) ?hr ?_; (case hd => rfl); (case hg => rfl); (case hr => first | (go_simp; done) | (go_simp; rfl)); intro gb440 hg w4 hbox hb; have n0_ := QY (QU (by repeat (first | (with_reducible first | exact HB.out | apply QD | apply QB | apply QC) | exact HB.out)) hb); have n1_ := QY (hbox); have n2_ := QY ((by rw [hg]; exact (QV (by repeat (first | (with_reducible first | exact HB.out | apply QD | apply QB | apply QC) | exact HB.out))) : w.heap.size ≤ gb440)); have n3_ := QY ((by rw [hg]; exact (QV (by repeat (first | (with_reducible first | exact HB.out | apply QD | apply QB | apply QC) | exact HB.out))) : w.heap.size ≤ gb440)); clear HB; revert n0_ n1_ n2_ n3_; intro HB BK440 GW440 GE440; clear hb hbox hg) | ((with_reducible refine QT (f := 15) rfl ?_); refine goesL_ (some 13) rfl rfl Tryd.func15 (by kernel_rfl) rfl #[.string a0,.int .u8 32] rfl (by (try simp only [List.map_toArray,List.map_cons,List.map_nil]); first | done | rfl | (simp only [List.length_drop,List.length_take]; rfl)) ?_; (with_reducible refine (impl_SplitWords.calls k a0 32 t441 _ A2.out).mono ?_); rintro e w5 ⟨v442,rfl,ho0,hb⟩; refine ⟨_,rfl,?_⟩; have n0_ := QY (Kd.R_lower ho0 (QV (by repeat (first | (with_reducible first | exact HB.out | apply QD | apply QB | apply QC | refine QK ?_ GE440.out) | exact HB.out)))); have n1_ := QY (QS (g := gb440) (o := .cells #[.int .i64 0,.int .i64 0,.bool false,.bool false,.slice none 0 0,.slice none 0 0,.int .i64 0,.int .i64 0] 26 (0,0)) (by (with_reducible repeat (first | refine QE ?_ _ | refine QI ?_ | refine QF ?_ _)); exact BK440.out) hb); have n2_ := QY (QU (by repeat (first | (with_reducible first | exact HB.out | apply QD | apply QB | apply QC | refine QK ?_ GE440.out) | exact HB.out)) hb); clear BK440; clear HB; revert n0_ n1_ n2_; intro HO443 BK440 HB; (try clear hb); (try clear hk); (try clear ho0); refine Aside0.out ?_))
 refine QY ?_
 by_cases c3 : (t441.length : Int) = (y444.length : Int)
 ·rw [if_pos c3] at H
  have c3b0 : ((t441.length : Int) == (y444.length : Int)) = true := beq_iff_eq.mpr c3
  have c3b1 : ((t441.length : Int) != (y444.length : Int)) = false := bne_eq_false_iff_eq.mpr c3
  have c3b2 : (t441.length == y444.length) = true := by first | simpa using c3 | (simp at c3 ⊢; omega)
  clear c3
  obtain ⟨y447,hy447⟩ : ∃ y_ : List ByteArray,y_ = (([] : List ByteArray)) := ⟨_,rfl⟩
  replace H : (impl_ParseRules.l0 k a0 y444 y447 t441 (t441.length : Int) 0) = some (r1,r2,r3,r4,r5,r6,r7,r8,r9) := by first | (rw [hy447]; with_reducible exact H) | (have H2_ := (Option.bind_some _ _).symm.trans H; rw [hy447]; with_reducible exact H2_) | (have H2_ := (Option.bind_some _ _).symm.trans H; with_reducible exact H2_) | with_reducible exact H | (rw [hy447]; exact H) | exact H
  have Ny447 := QY hy447
  clear hy447
  have H' := QY H
  clear H
  (try simp only [c3b0,c3b1,c3b2])
  go_wp2_with (first | ((with_reducible refine gate_dst (N := 14) rfl ?_); refine Kd.R_lit Kd.string _ 9 ?hg (N := 14) ?hd (xs := ([(⟨#[112,108,97,121,101,114,115]⟩ : ByteArray),(⟨#[101,97,99,104]⟩ : ByteArray),(⟨#[109,97,116,99,104]⟩ : ByteArray),(⟨#[119,105,108,100]⟩ : ByteArray),(⟨#[115,107,105,112]⟩ : ByteArray),(⟨#[116,97,107,101]⟩ : ByteArray),(⟨#[108,105,109,105,116]⟩ : ByteArray)] : List ByteArray)) (inner := [.string (⟨#[112,108,97,121,101,114,115]⟩ : ByteArray),.string (⟨#[101,97,99,104]⟩ : ByteArray),.string (⟨#[109,97,116,99,104]⟩ : ByteArray),.string (⟨#[119,105,108,100]⟩ : ByteArray),.string (⟨#[115,107,105,112]⟩ : ByteArray),.string (⟨#[116,97,107,101]⟩ : ByteArray),.string (⟨#[108,105,109,105,116]⟩ : ByteArray)]) (ok := fun _ => True) (okp := fun _ => True) ?hr ?hp (fun _ hk => hk) trivial (Below.refl _ _) (Nat.le_refl _) (by simp) ?_; (case hd => rfl); (case hg => rfl); (case hr => first | (go_simp; done) | (go_simp; rfl)); (case hp => exact (Reps.one (show Kd.M Kd.string _ _ _ (⟨#[112,108,97,121,101,114,115]⟩ : ByteArray) [.string (⟨#[112,108,97,121,101,114,115]⟩ : ByteArray)] from rfl) (Reps.one (show Kd.M Kd.string _ _ _ (⟨#[101,97,99,104]⟩ : ByteArray) [.string (⟨#[101,97,99,104]⟩ : ByteArray)] from rfl) (Reps.one (show Kd.M Kd.string _ _ _ (⟨#[109,97,116,99,104]⟩ : ByteArray) [.string (⟨#[109,97,116,99,104]⟩ : ByteArray)] from rfl) (Reps.one (show Kd.M Kd.string _ _ _ (⟨#[119,105,108,100]⟩ : ByteArray) [.string (⟨#[119,105,108,100]⟩ : ByteArray)] from rfl) (Reps.one (show Kd.M Kd.string _ _ _ (⟨#[115,107,105,112]⟩ : ByteArray) [.string (⟨#[115,107,105,112]⟩ : ByteArray)] from rfl) (Reps.one (show Kd.M Kd.string _ _ _ (⟨#[116,97,107,101]⟩ : ByteArray) [.string (⟨#[116,97,107,101]⟩ : ByteArray)] from rfl) (Reps.one (show Kd.M Kd.string _ _ _ (⟨#[108,105,109,105,116]⟩ : ByteArray) [.string (⟨#[108,105,109,105,116]⟩ : ByteArray)] from rfl) (Reps.none _ _))))))))); intro v445 w6 ho7 hb hg_ hnew_; clear hg_ hnew_; (first | rw [← Ny444.out] at ho7 | (simp only [Int.reduceToNat] at ho7; rw [← Ny444.out] at ho7)); have n0_ := QY (Kd.R_elder' (by (with_reducible repeat (first | apply QG | apply QH | apply QJ)); exact HO443.out) (Kd.R_base ho7) hb); have n1_ := QY (Kd.R_lower (Kd.R_new' ho7 (Kd.R_lt (by (with_reducible repeat (first | apply QG | apply QH | apply QJ)); exact HO443.out))) (QV (by repeat (first | (with_reducible first | exact HB.out | apply QD | apply QB | apply QC | refine QK ?_ GE440.out) | exact HB.out)))); have n2_ := QY (QS (g := gb440) (o := .cells #[.int .i64 0,.int .i64 0,.bool false,.bool false,.slice none 0 0,.slice none 0 0,.int .i64 0,.int .i64 0] 26 (0,0)) (by (with_reducible repeat (first | refine QE ?_ _ | refine QI ?_ | refine QF ?_ _)); exact BK440.out) hb); have n3_ := QY (QU (by repeat (first | (with_reducible first | exact HB.out | apply QD | apply QB | apply QC | refine QK ?_ GE440.out) | exact HB.out)) hb); clear HO443; clear BK440; clear HB; revert n0_ n1_ n2_ n3_; intro HO443 HO446 BK440 HB; clear hb ho7; obtain ⟨Ao8,co8,eo8⟩ := Kd.R_slice HO443.out; subst eo8; obtain ⟨Ao9,co9,eo9⟩ := Kd.R_slice HO446.out; subst eo9) | ((with_reducible refine gate_dst (N := 21) rfl ?_); refine Kd.R_lit Kd.string _ 9 ?hg (N := 21) ?hd (xs := ([] : List ByteArray)) (inner := []) (ok := fun _ => True) (okp := fun _ => True) ?hr ?hp (fun _ hk => hk) trivial (Below.refl _ _) (Nat.le_refl _) (by simp) ?_; (case hd => rfl); (case hg => rfl); (case hr => first | (go_simp; done) | (go_simp; rfl)); (case hp => exact (Reps.none _ _)); intro v448 w10 ho11 hb hg_ hnew_; clear hg_ hnew_; (first | rw [← Ny447.out] at ho11 | (simp only [Int.reduceToNat] at ho11; rw [← Ny447.out] at ho11)); have n0_ := QY (Kd.R_elder' (by (with_reducible repeat (first | apply QG | apply QH | apply QJ)); exact HO443.out) (Kd.R_base ho11) hb); have n1_ := QY (Kd.R_elder' (by (with_reducible repeat (first | apply QG | apply QH | apply QJ)); exact HO446.out) (Kd.R_base ho11) hb); have n2_ := QY (Kd.R_lower (Kd.R_new' (Kd.R_new' ho11 (Kd.R_lt (by (with_reducible repeat (first | apply QG | apply QH | apply QJ)); exact HO443.out))) (Kd.R_lt (by (with_reducible repeat (first | apply QG | apply QH | apply QJ)); exact HO446.out))) (QV (by repeat (first | (with_reducible first | exact HB.out | apply QD | apply QB | apply QC | refine QK ?_ GE440.out) | exact HB.out)))); have n3_ := QY (QS (g := gb440) (o := .cells #[.int .i64 0,.int .i64 0,.bool false,.bool false,.slice none 0 0,.slice none 0 0,.int .i64 0,.int .i64 0] 26 (0,0)) (by (with_reducible repeat (first | refine QE ?_ _ | refine QI ?_ | refine QF ?_ _)); exact BK440.out) hb); have n4_ := QY (QU (by repeat (first | (with_reducible first | exact HB.out | apply QD | apply QB | apply QC | refine QK ?_ GE440.out) | exact HB.out)) hb); clear HO443; clear HO446; clear BK440; clear HB; revert n0_ n1_ n2_ n3_ n4_; intro HO443 HO446 HO449 BK440 HB; clear hb ho11))
  go_loopg [6,24] k (fun kq v6 v24 w' => ∃ (x6_1 : List ByteArray) (x24_1 : Int) (x441000_1 : Int) (x441001_1 : Int) (x441002_1 : Bool) (x441003_1 : Bool) (x441006_1 : Int) (x441007_1 : Int),v24 = .int .i64 x24_1 ∧ Aside0 (impl_ParseRules.l0 kq a0 y444 x6_1 t441 (t441.length : Int) x24_1 = some (r1,r2,r3,r4,r5,r6,r7,r8,r9)) ∧ Aside0 (kq ≤ k) ∧ Aside0 (Kd.R Kd.string 9 w' w.heap.size (fun k_ => some k_ ≠ (v6 : Value).ownBlock ∧ some k_ ≠ ((.slice Ao8 t441.length co8) : Value).ownBlock) (.slice Ao9 y444.length co9) y444) ∧ Aside0 (Kd.R Kd.string 9 w' w.heap.size (fun k_ => some k_ ≠ ((.slice Ao9 y444.length co9) : Value).ownBlock ∧ some k_ ≠ ((.slice Ao8 t441.length co8) : Value).ownBlock) v6 x6_1) ∧ Aside0 (Kd.R Kd.string 9 w' w.heap.size (fun k_ => some k_ ≠ ((.slice Ao9 y444.length co9) : Value).ownBlock ∧ some k_ ≠ (v6 : Value).ownBlock) (.slice Ao8 t441.length co8) t441) ∧ Aside0 (w'.heap[gb440]? = some (.cells #[.int .i64 x441000_1,.int .i64 x441001_1,.bool x441002_1,.bool x441003_1,(.slice none 0 0),(.slice none 0 0),.int .i64 x441006_1,.int .i64 x441007_1] 26 (0,0))) ∧ Aside0 (Below w.heap.size w w'))
  case atStart => exact ⟨(y447),(0),(0),(0),(false),(false),(0),(0),(by first | rfl | (simp; done) | (simp [*]; done)),H',⟨Nat.le_refl _⟩,⟨by (with_reducible repeat (first | apply QG | apply QH | apply QJ)); exact QN HO446.out (fun _ hk => ⟨hk.2,hk.1.2⟩)⟩,⟨by (with_reducible repeat (first | apply QG | apply QH | apply QJ)); exact QN HO449.out (fun _ hk => ⟨hk.2,hk.1.2⟩)⟩,⟨by (with_reducible repeat (first | apply QG | apply QH | apply QJ)); exact QN HO443.out (fun _ hk => ⟨hk.1.2,hk.2⟩)⟩,⟨by (with_reducible repeat (first | refine QE ?_ _ | refine QI ?_ | refine QF ?_ _)); exact BK440.out⟩,⟨by repeat (first | (with_reducible first | exact HB.out | apply QD | apply QB | apply QC | refine QK ?_ GE440.out) | exact HB.out)⟩⟩
  case round =>
   clear H'
   try clear c3
   try clear c3b0
   try clear c3b1
   try clear c3b2
   obtain ⟨x6_1,x24_1,x441000_1,x441001_1,x441002_1,x441003_1,x441006_1,x441007_1,rfl,HA,HK1,HO_5,HO_6,HO_22,BK440,HB⟩ := hrel
   cases gk with
   | zero => exact absurd HA.out (by simp [impl_ParseRules.l0])
   | succ k1 =>
    have H := HA.out
    clear HA
    simp only [impl_ParseRules.l0] at H
    by_cases c12 : x24_1 < (t441.length : Int)
    ·rw [if_pos c12] at H
     have c12b0 : decide (x24_1 < (t441.length : Int)) = true := decide_eq_true c12
     clear c12
     by_cases c13 : 0 ≤ x24_1
     ·rw [if_pos c13] at H
      have c13b0 : decide (0 ≤ x24_1) = true := decide_eq_true c13
      clear c13
      by_cases c14 : x24_1 < (t441.length : Int)
      ·rw [if_pos c14] at H
       have c14b0 : decide (x24_1 < (t441.length : Int)) = true := decide_eq_true c14
       clear c14
       by_cases c15 : x24_1 < (y444.length : Int)
       ·rw [if_pos c15] at H
        have c15b0 : decide (x24_1 < (y444.length : Int)) = true := decide_eq_true c15
        clear c15
        replace H := QZ.mp H
        obtain ⟨⟨t452,t453⟩,A160,H⟩ := H
        replace H : (if t453 = true then (if x6_1.length < 8796093022208 then (impl_ParseRules.l0 k1 a0 y444 (x6_1 ++ [t452]) t441 (t441.length : Int) (wrap64 (x24_1 + 1))) else (none)) else (some (0,0,false,false,([] : List Int),([] : List Int),0,0,false))) = some (r1,r2,r3,r4,r5,r6,r7,r8,r9) := H
        have A16 := QY A160
        clear A160
        have p450 : 0 ≤ (x24_1 : Int) := of_decide_eq_true (by first | (with_reducible assumption) | assumption)
        have q450 : x24_1 < (t441.length : Int) := of_decide_eq_true (by first | (with_reducible assumption) | assumption)
        obtain ⟨ad450,e450,hx450_0⟩ := Kd.at_string (QP HO_22.out).2.2 x24_1 p450 q450
        cases e450
        replace p450 := eq_true p450
        replace q450 := eq_true q450
        have p451 : 0 ≤ (x24_1 : Int) := of_decide_eq_true (by first | (with_reducible assumption) | assumption)
        have q451 : x24_1 < (y444.length : Int) := of_decide_eq_true (by first | (with_reducible assumption) | assumption)
        obtain ⟨ad451,e451,hx451_0⟩ := Kd.at_string (QP HO_5.out).2.2 x24_1 p451 q451
        cases e451
        replace p451 := eq_true p451
        replace q451 := eq_true q451
        by_cases c17 : t453 = true
        ·subst c17
         have H1 : (if x6_1.length < 8796093022208 then (impl_ParseRules.l0 k1 a0 y444 (x6_1 ++ [t452]) t441 (t441.length : Int) (wrap64 (x24_1 + 1))) else (none)) = some (r1,r2,r3,r4,r5,r6,r7,r8,r9) := by rw [if_pos rfl] at H; exact H
         clear H
         have H := H1
         clear H1
         by_cases c18 : x6_1.length < 8796093022208
         ·rw [if_pos c18] at H
          have LMc18 := QY c18
          clear c18
          obtain ⟨y454,hy454⟩ : ∃ y_ : List ByteArray,y_ = (x6_1 ++ [t452]) := ⟨_,rfl⟩
          replace H : (impl_ParseRules.l0 k1 a0 y444 y454 t441 (t441.length : Int) (wrap64 (x24_1 + 1))) = some (r1,r2,r3,r4,r5,r6,r7,r8,r9) := by first | (rw [hy454]; with_reducible exact H) | (have H2_ := (Option.bind_some _ _).symm.trans H; rw [hy454]; with_reducible exact H2_) | (have H2_ := (Option.bind_some _ _).symm.trans H; with_reducible exact H2_) | with_reducible exact H | (rw [hy454]; exact H) | exact H
          have Ny454 := QY hy454
          clear hy454
          have H' := QY H
          clear H
          go_wp2_with (first | ((with_reducible refine QT (f := 17) rfl ?_); refine goesL_ (some 35) rfl rfl Tryd.func17 (by kernel_rfl) rfl #[.string (rdOf ByteArray.empty t441 x24_1),.string (rdOf ByteArray.empty y444 x24_1)] rfl (by (try simp only [List.map_toArray,List.map_cons,List.map_nil]); first | done | rfl | (simp only [List.length_drop,List.length_take]; rfl)) ?_; (with_reducible refine (impl_ValueAfter.calls (rdOf ByteArray.empty t441 x24_1) (rdOf ByteArray.empty y444 x24_1) t452 true _ A16.out).mono ?_); rintro e w' ⟨rfl,⟨nd,rfl⟩⟩; refine ⟨_,rfl,?_⟩; refine Aside0.out ?_))
          refine QY ?_
          go_wp2_with (first | ((with_reducible refine gate_builtin (b := .append) (xs := #[.tmp 41,.tmp 43]) rfl ?_); at_builtin; refine Kd.R_append Kd.string (w0 := w) w.heap.size rfl (.tmp 41) (.tmp 43) 36 9 (.string ⟨#[]⟩) 16 rfl Tryd.underlying36 info9 rfl (by decide) (by omega) u6 x6_1 t452 [.string t452] (fun k_ => some k_ ≠ (.slice (some ad451) y444.length co9 : Value).ownBlock ∧ some k_ ≠ (.slice (some ad450) t441.length co8 : Value).ownBlock) (fun _ => False) rfl rfl ?aP (fun _ hk => hk.elim) ?aF ?aO ?aB ?aS ?aL ?_; (case aP => exact rfl); (case aB => exact (by repeat (first | (with_reducible first | exact HB.out | apply QD | apply QB | apply QC | refine QK ?_ GE440.out) | exact HB.out))); (case aF => exact (fun k_ hk => ⟨Kd.fresh' (Kd.R_lt (by (with_reducible repeat (first | apply QG | apply QH | apply QJ)); exact HO_5.out)) k_ hk,Kd.fresh' (Kd.R_lt (by (with_reducible repeat (first | apply QG | apply QH | apply QJ)); exact HO_22.out)) k_ hk⟩)); (case aO => exact (by (with_reducible repeat (first | apply QG | apply QH | apply QJ)); exact HO_6.out)); (case aS => exact (QV (by repeat (first | (with_reducible first | exact HB.out | apply QD | apply QB | apply QC | refine QK ?_ GE440.out) | exact HB.out)))); (case aL => have := LMc18.out; omega); intro v455 w19 ho hb hg hat; rw [← Ny454.out] at ho; have n0_ := QY (Kd.R_after (ok := (fun k_ => some k_ ≠ (.slice (some ad450) t441.length co8 : Value).ownBlock)) (by (with_reducible repeat (first | apply QG | apply QH | apply QJ)); exact QN HO_5.out (fun _ hk => ⟨hk.2,hk.1⟩)) hg hat); have n1_ := QY (Kd.R_after (ok := (fun k_ => some k_ ≠ (.slice (some ad451) y444.length co9 : Value).ownBlock)) (by (with_reducible repeat (first | apply QG | apply QH | apply QJ)); exact HO_22.out) hg hat); have n2_ := QY (blk_grown (g := gb440) (o := .cells #[.int .i64 x441000_1,.int .i64 x441001_1,.bool x441002_1,.bool x441003_1,.slice none 0 0,.slice none 0 0,.int .i64 x441006_1,.int .i64 x441007_1] 26 (0,0)) (by (with_reducible repeat (first | refine QE ?_ _ | refine QI ?_ | refine QF ?_ _)); exact BK440.out) hg (Kd.R_ne HO_6.out BK440.out (by decide))); have n3_ := QY (hb); have n4_ := QY (ho); clear HO_5; clear HO_22; clear BK440; clear HB; clear HO_6; revert n0_ n1_ n2_ n3_ n4_; intro HO_5 HO_22 BK440 HB HO456; clear ho hb hg hat))
          go_roundg k1
          case measure => have := HK1.out; omega
          case rel => exact ⟨(y454),(wrap64 (x24_1 + 1)),(x441000_1),(x441001_1),(x441002_1),(x441003_1),(x441006_1),(x441007_1),(by first | rfl | (simp; done) | (simp [*]; done)),H',⟨by have := HK1.out; omega⟩,⟨by (with_reducible repeat (first | apply QG | apply QH | apply QJ)); exact QN HO_5.out (fun _ hk => ⟨hk.2,hk.1⟩)⟩,⟨by (with_reducible repeat (first | apply QG | apply QH | apply QJ)); exact HO456.out⟩,⟨by (with_reducible repeat (first | apply QG | apply QH | apply QJ)); exact HO_22.out⟩,⟨by (with_reducible repeat (first | refine QE ?_ _ | refine QI ?_ | refine QF ?_ _)); exact BK440.out⟩,⟨by repeat (first | (with_reducible first | exact HB.out | apply QD | apply QB | apply QC | refine QK ?_ GE440.out) | exact HB.out)⟩⟩
         ·rw [if_neg c18] at H
          exact absurd H (by simp)
        ·replace c17 := Bool.eq_false_iff.mpr c17
         subst c17
         have H1 : (some (0,0,false,false,([] : List Int),([] : List Int),0,0,false)) = some (r1,r2,r3,r4,r5,r6,r7,r8,r9) := by rw [if_neg (show ¬ (false = true) by decide)] at H; exact H
         clear H
         have H := H1
         clear H1
         simp only [Option.some.injEq,Prod.mk.injEq] at H
         obtain ⟨rfl,rfl,rfl,rfl,rfl,rfl,rfl,rfl,rfl⟩ := H
         go_wp2_with (first | ((with_reducible refine QT (f := 17) rfl ?_); refine goesL_ (some 35) rfl rfl Tryd.func17 (by kernel_rfl) rfl #[.string (rdOf ByteArray.empty t441 x24_1),.string (rdOf ByteArray.empty y444 x24_1)] rfl (by (try simp only [List.map_toArray,List.map_cons,List.map_nil]); first | done | rfl | (simp only [List.length_drop,List.length_take]; rfl)) ?_; (with_reducible refine (impl_ValueAfter.calls (rdOf ByteArray.empty t441 x24_1) (rdOf ByteArray.empty y444 x24_1) t452 false _ A16.out).mono ?_); rintro e w' ⟨rfl,⟨nd,rfl⟩⟩; refine ⟨_,rfl,?_⟩; (try (rw [drewN_self wr]; generalize hq_ : World.drewN wr _ = wr; have n0_ : Aside0 (Kd.R Kd.string 9 wr w.heap.size (fun k_ => some k_ ≠ (.slice (some ad451) y444.length co9 : Value).ownBlock ∧ some k_ ≠ (u6 : Value).ownBlock) (.slice (some ad450) t441.length co8) t441) := ⟨by rw [← hq_]; exact (by (with_reducible repeat (first | apply QG | apply QH | apply QJ)); exact HO_22.out)⟩; have n1_ : Aside0 (Kd.R Kd.string 9 wr w.heap.size (fun k_ => some k_ ≠ (.slice (some ad450) t441.length co8 : Value).ownBlock ∧ some k_ ≠ (u6 : Value).ownBlock) (.slice (some ad451) y444.length co9) y444) := ⟨by rw [← hq_]; exact (by (with_reducible repeat (first | apply QG | apply QH | apply QJ)); exact QN HO_5.out (fun _ hk => ⟨hk.2,hk.1⟩))⟩; have n2_ : Aside0 (Kd.R Kd.string 9 wr w.heap.size (fun k_ => some k_ ≠ (.slice (some ad450) t441.length co8 : Value).ownBlock ∧ some k_ ≠ (.slice (some ad451) y444.length co9 : Value).ownBlock) u6 x6_1) := ⟨by rw [← hq_]; exact (by (with_reducible repeat (first | apply QG | apply QH | apply QJ)); exact QN HO_6.out (fun _ hk => ⟨hk.2,hk.1⟩))⟩; have n3_ : Aside0 (wr.heap[gb440]? = some (.cells #[.int .i64 x441000_1,.int .i64 x441001_1,.bool x441002_1,.bool x441003_1,.slice none 0 0,.slice none 0 0,.int .i64 x441006_1,.int .i64 x441007_1] 26 (0,0))) := ⟨by rw [← hq_]; exact (by (with_reducible repeat (first | refine QE ?_ _ | refine QI ?_ | refine QF ?_ _)); exact BK440.out)⟩; have n4_ : Aside0 (Below w.heap.size w wr) := ⟨by rw [← hq_]; exact (by repeat (first | (with_reducible first | exact HB.out | apply QD | apply QB | apply QC | refine QK ?_ GE440.out) | exact HB.out))⟩; clear HO_22 HO_5 HO_6 BK440 HB hq_; revert n0_ n1_ n2_ n3_ n4_; intro HO_22 HO_5 HO_6 BK440 HB)); refine Aside0.out ?_))
         refine QY ?_
         have hcz20 := fun i => QW BK440.out i
         have hfz20 := fun i => QR BK440.out i
         go_wp2_with fail
         refine bodyPost_ret (results_ct rfl _ _ gb440 26 #[.int .i64 0,.int .i64 0,.bool false,.bool false,.slice none 0 0,.slice none 0 0,.int .i64 0,.int .i64 0] (0,0) _ rfl (by (with_reducible repeat (first | refine QE ?_ _ | refine QI ?_ | refine QF ?_ _)); refine QO (cs := #[.int .i64 0,.int .i64 0,.bool false,.bool false,.slice none 0 0,.slice none 0 0,.int .i64 0,.int .i64 x441007_1]) ?_ 7 _ rfl; (with_reducible repeat (first | refine QE ?_ _ | refine QI ?_ | refine QF ?_ _)); refine QO (cs := #[.int .i64 0,.int .i64 0,.bool false,.bool false,.slice none 0 0,.slice none 0 0,.int .i64 x441006_1,.int .i64 x441007_1]) ?_ 6 _ rfl; (with_reducible repeat (first | refine QE ?_ _ | refine QI ?_ | refine QF ?_ _)); refine QO (cs := #[.int .i64 0,.int .i64 0,.bool false,.bool false,.slice none 0 0,.slice none 0 0,.int .i64 x441006_1,.int .i64 x441007_1]) ?_ 5 _ rfl; (with_reducible repeat (first | refine QE ?_ _ | refine QI ?_ | refine QF ?_ _)); refine QO (cs := #[.int .i64 0,.int .i64 0,.bool false,.bool false,.slice none 0 0,.slice none 0 0,.int .i64 x441006_1,.int .i64 x441007_1]) ?_ 4 _ rfl; (with_reducible repeat (first | refine QE ?_ _ | refine QI ?_ | refine QF ?_ _)); refine QO (cs := #[.int .i64 0,.int .i64 0,.bool false,.bool x441003_1,.slice none 0 0,.slice none 0 0,.int .i64 x441006_1,.int .i64 x441007_1]) ?_ 3 _ rfl; (with_reducible repeat (first | refine QE ?_ _ | refine QI ?_ | refine QF ?_ _)); refine QO (cs := #[.int .i64 0,.int .i64 0,.bool x441002_1,.bool x441003_1,.slice none 0 0,.slice none 0 0,.int .i64 x441006_1,.int .i64 x441007_1]) ?_ 2 _ rfl; (with_reducible repeat (first | refine QE ?_ _ | refine QI ?_ | refine QF ?_ _)); refine QO (cs := #[.int .i64 0,.int .i64 x441001_1,.bool x441002_1,.bool x441003_1,.slice none 0 0,.slice none 0 0,.int .i64 x441006_1,.int .i64 x441007_1]) ?_ 1 _ rfl; (with_reducible repeat (first | refine QE ?_ _ | refine QI ?_ | refine QF ?_ _)); refine QO (cs := #[.int .i64 x441000_1,.int .i64 x441001_1,.bool x441002_1,.bool x441003_1,.slice none 0 0,.slice none 0 0,.int .i64 x441006_1,.int .i64 x441007_1]) ?_ 0 _ rfl; (with_reducible repeat (first | refine QE ?_ _ | refine QI ?_ | refine QF ?_ _)); exact BK440.out) Tryd.underlying26 rfl (by kernel_rfl)) rfl ?_
         exact ⟨_,_,by first | rfl | (simp [errW_none,errW_some] <;> rfl) | (simp [*,errW_none,errW_some] <;> rfl),by first | exact Kd.R_nil _ _ _ _ _ | exact Kd.N_nil _ _ _ _ _ | exact Kd.V_nil _ _ _ _ _ | exact Kd.Q_nil _ _ _ _ _ | exact Kd.S_nil _ _ _ _ _,by first | exact Kd.R_nil _ _ _ _ _ | exact Kd.N_nil _ _ _ _ _ | exact Kd.V_nil _ _ _ _ _ | exact Kd.Q_nil _ _ _ _ _ | exact Kd.S_nil _ _ _ _ _,by repeat (first | (with_reducible first | exact HB.out | apply QD | apply QB | apply QC | refine QK ?_ GE440.out) | exact HB.out)⟩
       ·rw [if_neg c15] at H
        exact absurd H (by simp)
      ·rw [if_neg c14] at H
       exact absurd H (by simp)
     ·rw [if_neg c13] at H
      exact absurd H (by simp)
    ·rw [if_neg c12] at H
     have c12b0 : decide (x24_1 < (t441.length : Int)) = false := decide_eq_false c12
     clear c12
     by_cases c21 : 2 < (x6_1.length : Int)
     ·rw [if_pos c21] at H
      have c21b0 : decide (2 < (x6_1.length : Int)) = true := decide_eq_true c21
      have c21b1 : decide (2 < x6_1.length) = true := decide_eq_true (by omega)
      clear c21
      by_cases c22 : 0 < (x6_1.length : Int)
      ·rw [if_pos c22] at H
       have c22b0 : decide (0 < (x6_1.length : Int)) = true := decide_eq_true c22
       have c22b1 : decide (0 < x6_1.length) = true := decide_eq_true (by omega)
       clear c22
       replace H := QZ.mp H
       obtain ⟨⟨t461,t462⟩,A230,H⟩ := H
       replace H : (if 1 < (x6_1.length : Int) then ((impl_ParseInt.f (rdOf ByteArray.empty x6_1 1)).bind fun bt464 => (if 3 < (x6_1.length : Int) then ((impl_ParsePattern.f k1 (rdOf ByteArray.empty x6_1 3)).bind fun bt467 => (if 4 < (x6_1.length : Int) then ((impl_ParsePattern.f k1 (rdOf ByteArray.empty x6_1 4)).bind fun bt472 => (if 5 < (x6_1.length : Int) then ((impl_ParseInt.f (rdOf ByteArray.empty x6_1 5)).bind fun bt477 => (if 6 < (x6_1.length : Int) then ((impl_ParseInt.f (rdOf ByteArray.empty x6_1 6)).bind fun bt480 => ((impl_IsRules.f k1 t461 bt464.1 ((rdOf ByteArray.empty x6_1 2).toList != ([114,97,110,107] : List UInt8)) ((rdOf ByteArray.empty x6_1 2).toList != ([115,117,105,116] : List UInt8)) bt467.1 bt472.1 bt477.1 bt480.1).bind fun t482 => (if t482 = true then ((impl_RulesText.f k1 t461 bt464.1 ((rdOf ByteArray.empty x6_1 2).toList != ([114,97,110,107] : List UInt8)) ((rdOf ByteArray.empty x6_1 2).toList != ([115,117,105,116] : List UInt8)) bt467.1 bt472.1 bt477.1 bt480.1).bind fun t483 => (if t483.toList = a0.toList then (some (t461,bt464.1,((rdOf ByteArray.empty x6_1 2).toList != ([114,97,110,107] : List UInt8)),((rdOf ByteArray.empty x6_1 2).toList != ([115,117,105,116] : List UInt8)),bt467.1,bt472.1,bt477.1,bt480.1,true)) else (some (0,0,false,false,([] : List Int),([] : List Int),0,0,false)))) else (some (0,0,false,false,([] : List Int),([] : List Int),0,0,false))))) else (none))) else (none))) else (none))) else (none))) else (none)) = some (r1,r2,r3,r4,r5,r6,r7,r8,r9) := H
       have A23 := QY A230
       clear A230
       by_cases c24 : 1 < (x6_1.length : Int)
       ·rw [if_pos c24] at H
        have c24b0 : decide (1 < (x6_1.length : Int)) = true := decide_eq_true c24
        have c24b1 : decide (1 < x6_1.length) = true := decide_eq_true (by omega)
        clear c24
        replace H := QZ.mp H
        obtain ⟨⟨t464,t465⟩,A250,H⟩ := H
        replace H : (if 3 < (x6_1.length : Int) then ((impl_ParsePattern.f k1 (rdOf ByteArray.empty x6_1 3)).bind fun bt467 => (if 4 < (x6_1.length : Int) then ((impl_ParsePattern.f k1 (rdOf ByteArray.empty x6_1 4)).bind fun bt472 => (if 5 < (x6_1.length : Int) then ((impl_ParseInt.f (rdOf ByteArray.empty x6_1 5)).bind fun bt477 => (if 6 < (x6_1.length : Int) then ((impl_ParseInt.f (rdOf ByteArray.empty x6_1 6)).bind fun bt480 => ((impl_IsRules.f k1 t461 t464 ((rdOf ByteArray.empty x6_1 2).toList != ([114,97,110,107] : List UInt8)) ((rdOf ByteArray.empty x6_1 2).toList != ([115,117,105,116] : List UInt8)) bt467.1 bt472.1 bt477.1 bt480.1).bind fun t482 => (if t482 = true then ((impl_RulesText.f k1 t461 t464 ((rdOf ByteArray.empty x6_1 2).toList != ([114,97,110,107] : List UInt8)) ((rdOf ByteArray.empty x6_1 2).toList != ([115,117,105,116] : List UInt8)) bt467.1 bt472.1 bt477.1 bt480.1).bind fun t483 => (if t483.toList = a0.toList then (some (t461,t464,((rdOf ByteArray.empty x6_1 2).toList != ([114,97,110,107] : List UInt8)),((rdOf ByteArray.empty x6_1 2).toList != ([115,117,105,116] : List UInt8)),bt467.1,bt472.1,bt477.1,bt480.1,true)) else (some (0,0,false,false,([] : List Int),([] : List Int),0,0,false)))) else (some (0,0,false,false,([] : List Int),([] : List Int),0,0,false))))) else (none))) else (none))) else (none))) else (none)) = some (r1,r2,r3,r4,r5,r6,r7,r8,r9) := H
        have A25 := QY A250
        clear A250
        by_cases c26 : 3 < (x6_1.length : Int)
        ·rw [if_pos c26] at H
         have c26b0 : decide (3 < (x6_1.length : Int)) = true := decide_eq_true c26
         have c26b1 : decide (3 < x6_1.length) = true := decide_eq_true (by omega)
         clear c26
         replace H := QZ.mp H
         obtain ⟨⟨t467,t468⟩,A270,H⟩ := H
         replace H : (if 4 < (x6_1.length : Int) then ((impl_ParsePattern.f k1 (rdOf ByteArray.empty x6_1 4)).bind fun bt472 => (if 5 < (x6_1.length : Int) then ((impl_ParseInt.f (rdOf ByteArray.empty x6_1 5)).bind fun bt477 => (if 6 < (x6_1.length : Int) then ((impl_ParseInt.f (rdOf ByteArray.empty x6_1 6)).bind fun bt480 => ((impl_IsRules.f k1 t461 t464 ((rdOf ByteArray.empty x6_1 2).toList != ([114,97,110,107] : List UInt8)) ((rdOf ByteArray.empty x6_1 2).toList != ([115,117,105,116] : List UInt8)) t467 bt472.1 bt477.1 bt480.1).bind fun t482 => (if t482 = true then ((impl_RulesText.f k1 t461 t464 ((rdOf ByteArray.empty x6_1 2).toList != ([114,97,110,107] : List UInt8)) ((rdOf ByteArray.empty x6_1 2).toList != ([115,117,105,116] : List UInt8)) t467 bt472.1 bt477.1 bt480.1).bind fun t483 => (if t483.toList = a0.toList then (some (t461,t464,((rdOf ByteArray.empty x6_1 2).toList != ([114,97,110,107] : List UInt8)),((rdOf ByteArray.empty x6_1 2).toList != ([115,117,105,116] : List UInt8)),t467,bt472.1,bt477.1,bt480.1,true)) else (some (0,0,false,false,([] : List Int),([] : List Int),0,0,false)))) else (some (0,0,false,false,([] : List Int),([] : List Int),0,0,false))))) else (none))) else (none))) else (none)) = some (r1,r2,r3,r4,r5,r6,r7,r8,r9) := H
         have A27 := QY A270
         clear A270
         by_cases c28 : 4 < (x6_1.length : Int)
         ·rw [if_pos c28] at H
          have c28b0 : decide (4 < (x6_1.length : Int)) = true := decide_eq_true c28
          have c28b1 : decide (4 < x6_1.length) = true := decide_eq_true (by omega)
          clear c28
          replace H := QZ.mp H
          obtain ⟨⟨t472,t473⟩,A290,H⟩ := H
          replace H : (if 5 < (x6_1.length : Int) then ((impl_ParseInt.f (rdOf ByteArray.empty x6_1 5)).bind fun bt477 => (if 6 < (x6_1.length : Int) then ((impl_ParseInt.f (rdOf ByteArray.empty x6_1 6)).bind fun bt480 => ((impl_IsRules.f k1 t461 t464 ((rdOf ByteArray.empty x6_1 2).toList != ([114,97,110,107] : List UInt8)) ((rdOf ByteArray.empty x6_1 2).toList != ([115,117,105,116] : List UInt8)) t467 t472 bt477.1 bt480.1).bind fun t482 => (if t482 = true then ((impl_RulesText.f k1 t461 t464 ((rdOf ByteArray.empty x6_1 2).toList != ([114,97,110,107] : List UInt8)) ((rdOf ByteArray.empty x6_1 2).toList != ([115,117,105,116] : List UInt8)) t467 t472 bt477.1 bt480.1).bind fun t483 => (if t483.toList = a0.toList then (some (t461,t464,((rdOf ByteArray.empty x6_1 2).toList != ([114,97,110,107] : List UInt8)),((rdOf ByteArray.empty x6_1 2).toList != ([115,117,105,116] : List UInt8)),t467,t472,bt477.1,bt480.1,true)) else (some (0,0,false,false,([] : List Int),([] : List Int),0,0,false)))) else (some (0,0,false,false,([] : List Int),([] : List Int),0,0,false))))) else (none))) else (none)) = some (r1,r2,r3,r4,r5,r6,r7,r8,r9) := H
          have A29 := QY A290
          clear A290
          by_cases c30 : 5 < (x6_1.length : Int)
          ·rw [if_pos c30] at H
           have c30b0 : decide (5 < (x6_1.length : Int)) = true := decide_eq_true c30
           have c30b1 : decide (5 < x6_1.length) = true := decide_eq_true (by omega)
           clear c30
           replace H := QZ.mp H
           obtain ⟨⟨t477,t478⟩,A310,H⟩ := H
           replace H : (if 6 < (x6_1.length : Int) then ((impl_ParseInt.f (rdOf ByteArray.empty x6_1 6)).bind fun bt480 => ((impl_IsRules.f k1 t461 t464 ((rdOf ByteArray.empty x6_1 2).toList != ([114,97,110,107] : List UInt8)) ((rdOf ByteArray.empty x6_1 2).toList != ([115,117,105,116] : List UInt8)) t467 t472 t477 bt480.1).bind fun t482 => (if t482 = true then ((impl_RulesText.f k1 t461 t464 ((rdOf ByteArray.empty x6_1 2).toList != ([114,97,110,107] : List UInt8)) ((rdOf ByteArray.empty x6_1 2).toList != ([115,117,105,116] : List UInt8)) t467 t472 t477 bt480.1).bind fun t483 => (if t483.toList = a0.toList then (some (t461,t464,((rdOf ByteArray.empty x6_1 2).toList != ([114,97,110,107] : List UInt8)),((rdOf ByteArray.empty x6_1 2).toList != ([115,117,105,116] : List UInt8)),t467,t472,t477,bt480.1,true)) else (some (0,0,false,false,([] : List Int),([] : List Int),0,0,false)))) else (some (0,0,false,false,([] : List Int),([] : List Int),0,0,false))))) else (none)) = some (r1,r2,r3,r4,r5,r6,r7,r8,r9) := H
           have A31 := QY A310
           clear A310
           by_cases c32 : 6 < (x6_1.length : Int)
           ·rw [if_pos c32] at H
            have c32b0 : decide (6 < (x6_1.length : Int)) = true := decide_eq_true c32
            have c32b1 : decide (6 < x6_1.length) = true := decide_eq_true (by omega)
            clear c32
            replace H := QZ.mp H
            obtain ⟨⟨t480,t481⟩,A330,H⟩ := H
            replace H : ((impl_IsRules.f k1 t461 t464 ((rdOf ByteArray.empty x6_1 2).toList != ([114,97,110,107] : List UInt8)) ((rdOf ByteArray.empty x6_1 2).toList != ([115,117,105,116] : List UInt8)) t467 t472 t477 t480).bind fun t482 => (if t482 = true then ((impl_RulesText.f k1 t461 t464 ((rdOf ByteArray.empty x6_1 2).toList != ([114,97,110,107] : List UInt8)) ((rdOf ByteArray.empty x6_1 2).toList != ([115,117,105,116] : List UInt8)) t467 t472 t477 t480).bind fun t483 => (if t483.toList = a0.toList then (some (t461,t464,((rdOf ByteArray.empty x6_1 2).toList != ([114,97,110,107] : List UInt8)),((rdOf ByteArray.empty x6_1 2).toList != ([115,117,105,116] : List UInt8)),t467,t472,t477,t480,true)) else (some (0,0,false,false,([] : List Int),([] : List Int),0,0,false)))) else (some (0,0,false,false,([] : List Int),([] : List Int),0,0,false)))) = some (r1,r2,r3,r4,r5,r6,r7,r8,r9) := H
            have A33 := QY A330
            clear A330
            replace H := QZ.mp H
            obtain ⟨t482,A340,H⟩ := H
            replace H : (if t482 = true then ((impl_RulesText.f k1 t461 t464 ((rdOf ByteArray.empty x6_1 2).toList != ([114,97,110,107] : List UInt8)) ((rdOf ByteArray.empty x6_1 2).toList != ([115,117,105,116] : List UInt8)) t467 t472 t477 t480).bind fun t483 => (if t483.toList = a0.toList then (some (t461,t464,((rdOf ByteArray.empty x6_1 2).toList != ([114,97,110,107] : List UInt8)),((rdOf ByteArray.empty x6_1 2).toList != ([115,117,105,116] : List UInt8)),t467,t472,t477,t480,true)) else (some (0,0,false,false,([] : List Int),([] : List Int),0,0,false)))) else (some (0,0,false,false,([] : List Int),([] : List Int),0,0,false))) = some (r1,r2,r3,r4,r5,r6,r7,r8,r9) := H
            have A34 := QY A340
            clear A340
            try go_wp2
            have n0_ := QY (QJ HO_5.out)
            have n1_ := QY (QJ HO_6.out)
            have n2_ := QY (QJ HO_22.out)
            have n3_ := QY (QI BK440.out)
            have n4_ := QY (QC HB.out)
            clear HO_5
            clear HO_6
            clear HO_22
            clear BK440
            clear HB
            revert n0_ n1_ n2_ n3_ n4_
            intro HO_5 HO_6 HO_22 BK440 HB
            obtain ⟨Ao39,co39,eo39⟩ := Kd.R_slice HO_6.out
            (first | subst eo39 | (injection eo39 with f1_ f2_ f3_; have f4_ := f1_.symm; have f5_ := f3_.symm; clear f1_ f2_ f3_; subst f4_; subst f5_))
            have p457 : 0 ≤ (2 : Int) := (by omega)
            have q457 : 2 < (x6_1.length : Int) := of_decide_eq_true (by first | (with_reducible assumption) | assumption)
            obtain ⟨ad457,e457,hx457_0⟩ := Kd.at_string (QP HO_6.out).2.2 2 p457 q457
            cases e457
            (try simp only [show (2 : Int).toNat = 2 from rfl,Nat.reduceMul,Nat.reduceEqDiff,Go.Addr.add,↓reduceIte] at hx457_0)
            have qi457 : (2 < x6_1.length) = True := eq_true (by omega)
            (try rw [show ((2 : Int)).toNat = 2 from rfl] at hx457_0)
            replace p457 := eq_true p457
            replace q457 := eq_true q457
            have p458 : 0 ≤ (2 : Int) := (by omega)
            have q458 : 2 < (x6_1.length : Int) := of_decide_eq_true (by first | (with_reducible assumption) | assumption)
            obtain ⟨ad458,e458,hx458_0⟩ := Kd.at_string (QP HO_6.out).2.2 2 p458 q458
            obtain rfl : ad457 = ad458 := (by injection e458)
            (try simp only [show (2 : Int).toNat = 2 from rfl,Nat.reduceMul,Nat.reduceEqDiff,Go.Addr.add,↓reduceIte] at hx458_0)
            have qi458 : (2 < x6_1.length) = True := eq_true (by omega)
            (try rw [show ((2 : Int)).toNat = 2 from rfl] at hx458_0)
            replace p458 := eq_true p458
            replace q458 := eq_true q458
            refine start_ (n := 11) (S := fun w' => w'.cell? ⟨ad457.block,ad457.off + 2,none⟩ = some (.string (rdOf ByteArray.empty x6_1 2)) ∧ w'.cell? ⟨ad457.block,ad457.off + 2,none⟩ = some (.string (rdOf ByteArray.empty x6_1 2))) (ds := []) #[false,false,false,false,false,false,false,false,false,false,false] (by kernel_rfl) rfl rfl ⟨hx457_0,hx458_0⟩ (fun hHeld => ?_); refine with_tabW impl_ParseRules.tab14 impl_ParseRules.bits14 (fun HT_ HW_ => ?_)
            generalize wr.drew = w38 at HO_5 HO_6 HO_22 BK440 HB hx457_0 hx458_0 hHeld ⊢
            refine pure_ (i := 0) (N := some 46) (v := ?_) (a' := ?_) #[true,false,false,false,false,false,false,false,false,false,false] rfl rfl (any_of HT_.out (by kernel_rfl)) (fun _ _ _ h => h) (Or.inl ⟨by rfl,?_⟩) ?_ ?_
            rotate_left
            ·intro w'
             go_simp
             with_reducible rfl
            rotate_left
            ·simp only [Act.put,List.setIfInBounds_toArray,List.set_cons_zero,List.set_cons_succ,i64_w,i32_w]
             rfl
            refine pure_ (i := 1) (N := some 47) (v := ?_) (a' := ?_) #[true,true,false,false,false,false,false,false,false,false,false] rfl rfl (any_of HT_.out (by kernel_rfl)) (fun _ _ _ h => h) (Or.inl ⟨by rfl,?_⟩) ?_ ?_
            rotate_left
            ·intro w'
             go_simp
             with_reducible rfl
            rotate_left
            ·simp only [Act.put,List.setIfInBounds_toArray,List.set_cons_zero,List.set_cons_succ,i64_w,i32_w]
             rfl
            refine pure_ (i := 4) (N := some 50) (v := ?_) (a' := ?_) #[true,true,false,false,true,false,false,false,false,false,false] rfl rfl (any_of HT_.out (by kernel_rfl)) (fun _ _ _ h => h) (Or.inl ⟨by rfl,?_⟩) ?_ ?_
            rotate_left
            ·intro w'
             go_simp
             with_reducible rfl
            rotate_left
            ·simp only [Act.put,List.setIfInBounds_toArray,List.set_cons_zero,List.set_cons_succ,i64_w,i32_w]
             rfl
            refine pure_ (i := 5) (N := some 51) (v := ?_) (a' := ?_) #[true,true,false,false,true,true,false,false,false,false,false] rfl rfl (any_of HT_.out (by kernel_rfl)) (fun _ _ _ h => h) (Or.inl ⟨by rfl,?_⟩) ?_ ?_
            rotate_left
            ·intro w'
             go_simp
             with_reducible rfl
            rotate_left
            ·simp only [Act.put,List.setIfInBounds_toArray,List.set_cons_zero,List.set_cons_succ,i64_w,i32_w]
             rfl
            refine take_ (i := 2) (N := some 48) (v := ?_) (a' := ?_) #[true,true,true,false,true,true,false,false,false,false,false] rfl rfl (take_ofW HT_.out HW_.out (by kernel_rfl)) (fun _ _ _ h => h) (Or.inl ⟨by rfl,?_⟩) hHeld ?_ ?_
            rotate_left
            ·rintro w' ⟨s0,s1⟩
             go_simp
             with_reducible rfl
            rotate_left
            ·simp only [Act.put,List.setIfInBounds_toArray,List.set_cons_zero,List.set_cons_succ,i64_w,i32_w]
             rfl
            refine pure_ (i := 3) (N := some 49) (v := ?_) (a' := ?_) #[true,true,true,true,true,true,false,false,false,false,false] rfl rfl (any_of HT_.out (by kernel_rfl)) (fun _ _ _ h => h) (Or.inl ⟨by rfl,?_⟩) ?_ ?_
            rotate_left
            ·intro w'
             go_simp
             with_reducible rfl
            rotate_left
            ·simp only [Act.put,List.setIfInBounds_toArray,List.set_cons_zero,List.set_cons_succ,i64_w,i32_w]
             rfl
            refine take_ (i := 6) (N := some 52) (v := ?_) (a' := ?_) #[true,true,true,true,true,true,true,false,false,false,false] rfl rfl (take_ofW HT_.out HW_.out (by kernel_rfl)) (fun _ _ _ h => h) (Or.inl ⟨by rfl,?_⟩) hHeld ?_ ?_
            rotate_left
            ·rintro w' ⟨s0,s1⟩
             go_simp
             with_reducible rfl
            rotate_left
            ·simp only [Act.put,List.setIfInBounds_toArray,List.set_cons_zero,List.set_cons_succ,i64_w,i32_w]
             rfl
            refine pure_ (i := 7) (N := some 53) (v := ?_) (a' := ?_) #[true,true,true,true,true,true,true,true,false,false,false] rfl rfl (any_of HT_.out (by kernel_rfl)) (fun _ _ _ h => h) (Or.inl ⟨by rfl,?_⟩) ?_ ?_
            rotate_left
            ·intro w'
             go_simp
             with_reducible rfl
            rotate_left
            ·simp only [Act.put,List.setIfInBounds_toArray,List.set_cons_zero,List.set_cons_succ,i64_w,i32_w]
             rfl
            refine pure_ (i := 8) (N := some 54) (v := ?_) (a' := ?_) #[true,true,true,true,true,true,true,true,true,false,false] rfl rfl (any_of HT_.out (by kernel_rfl)) (fun _ _ _ h => h) (Or.inl ⟨by rfl,?_⟩) ?_ ?_
            rotate_left
            ·intro w'
             go_simp
             with_reducible rfl
            rotate_left
            ·simp only [Act.put,List.setIfInBounds_toArray,List.set_cons_zero,List.set_cons_succ,i64_w,i32_w]
             rfl
            refine one_ (i := 9) (N := some 11) #[true,true,true,true,true,true,true,true,true,true,false] rfl rfl (one_of HT_.out (by kernel_rfl)) (by decide) (fun K hK => ?_)
            refine box_step ?hg (N := 11) ?hd (cs := #[.int .i64 0,.int .i64 0,.bool false,.bool false,.slice none 0 0,.slice none 0 0,.int .i64 0,.int .i64 0]) (t := 26) ?hr ?_; (case hd => rfl); (case hg => rfl); (case hr => first | (go_simp; done) | (go_simp; rfl))
            intro gb459 hg w40 hbox hb
            have HS0_ := (hb.cell (World.block_lt_of_cell? _ _ (hHeld.1))).trans (hHeld.1)
            have HS1_ := (hb.cell (World.block_lt_of_cell? _ _ (hHeld.2))).trans (hHeld.2)
            have n0_ := QY (QL (by (with_reducible repeat (first | apply QG | apply QH | apply QJ)); exact HO_5.out) hb)
            have n1_ := QY (QL (by (with_reducible repeat (first | apply QG | apply QH | apply QJ)); exact HO_6.out) hb)
            have n2_ := QY (QL (by (with_reducible repeat (first | apply QG | apply QH | apply QJ)); exact HO_22.out) hb)
            have n3_ := QY (QS (g := gb440) (o := .cells #[.int .i64 x441000_1,.int .i64 x441001_1,.bool x441002_1,.bool x441003_1,.slice none 0 0,.slice none 0 0,.int .i64 x441006_1,.int .i64 x441007_1] 26 (0,0)) (by (with_reducible repeat (first | refine QE ?_ _ | refine QI ?_ | refine QF ?_ _)); exact BK440.out) hb)
            have n4_ := QY (QU (by repeat (first | (with_reducible first | exact HB.out | apply QD | apply QB | apply QC | refine QK ?_ GE440.out) | exact HB.out)) hb)
            have n5_ := QY (hbox)
            have n6_ := QY ((by rw [hg]; exact (QV (by repeat (first | (with_reducible first | exact HB.out | apply QD | apply QB | apply QC | refine QK ?_ GE440.out) | exact HB.out))) : w.heap.size ≤ gb459))
            have n7_ := QY ((by rw [hg]; exact (QV (by repeat (first | (with_reducible first | exact HB.out | apply QD | apply QB | apply QC | refine QK ?_ GE440.out) | exact HB.out))) : w.heap.size ≤ gb459))
            have n8_ := QY ((by rw [hg]; exact Nat.ne_of_lt (blk_lt (g := gb440) (o := .cells #[.int .i64 x441000_1,.int .i64 x441001_1,.bool x441002_1,.bool x441003_1,.slice none 0 0,.slice none 0 0,.int .i64 x441006_1,.int .i64 x441007_1] 26 (0,0)) (by (with_reducible repeat (first | refine QE ?_ _ | refine QI ?_ | refine QF ?_ _)); exact BK440.out)) : gb440 ≠ gb459))
            have n9_ := QY ((by rw [hg]; exact Nat.ne_of_gt (blk_lt (g := gb440) (o := .cells #[.int .i64 x441000_1,.int .i64 x441001_1,.bool x441002_1,.bool x441003_1,.slice none 0 0,.slice none 0 0,.int .i64 x441006_1,.int .i64 x441007_1] 26 (0,0)) (by (with_reducible repeat (first | refine QE ?_ _ | refine QI ?_ | refine QF ?_ _)); exact BK440.out)) : gb459 ≠ gb440))
            clear HO_5
            clear HO_6
            clear HO_22
            clear BK440
            clear HB
            revert n0_ n1_ n2_ n3_ n4_ n5_ n6_ n7_ n8_ n9_
            intro HO_5 HO_6 HO_22 BK440 HB BK459 GW459 GE459 NB440_459 NB459_440
            clear hb hbox hg
            refine hK.out _ _ ⟨HS0_,HS1_⟩ (fun hHeld => ?_)
            clear hK K
            refine norm_ (a' := ?_) ?_ ?_
            rotate_left
            ·show Act.put _ (some 11) _ = _
             simp only [Act.put,List.setIfInBounds_toArray,List.set_cons_zero,List.set_cons_succ,i64_w,i32_w]
             rfl
            refine one_ (i := 10) (N := none) #[true,true,true,true,true,true,true,true,true,true,true] rfl rfl (one_of HT_.out (by kernel_rfl)) (by decide) (fun K hK => ?_)
            have hs41 : w40.cell? ⟨gb459,0,none⟩ = some (.int .i64 0) := (QW BK459.out 0).trans rfl
            have hfs41 := QR BK459.out 0
            have hns41_0 := NB440_459.out
            have hms41_0 := NB459_440.out
            have hs42 : w40.cell? ⟨gb459,1,none⟩ = some (.int .i64 0) := (QW BK459.out 1).trans rfl
            have hfs42 := QR BK459.out 1
            have hns42_0 := NB440_459.out
            have hms42_0 := NB459_440.out
            have hs43 : w40.cell? ⟨gb459,2,none⟩ = some (.bool false) := (QW BK459.out 2).trans rfl
            have hfs43 := QR BK459.out 2
            have hns43_0 := NB440_459.out
            have hms43_0 := NB459_440.out
            have hs44 : w40.cell? ⟨gb459,3,none⟩ = some (.bool false) := (QW BK459.out 3).trans rfl
            have hfs44 := QR BK459.out 3
            have hns44_0 := NB440_459.out
            have hms44_0 := NB459_440.out
            have hs45 : w40.cell? ⟨gb459,4,none⟩ = some (.slice none 0 0) := (QW BK459.out 4).trans rfl
            have hfs45 := QR BK459.out 4
            have hns45_0 := NB440_459.out
            have hms45_0 := NB459_440.out
            have hs46 : w40.cell? ⟨gb459,5,none⟩ = some (.slice none 0 0) := (QW BK459.out 5).trans rfl
            have hfs46 := QR BK459.out 5
            have hns46_0 := NB440_459.out
            have hms46_0 := NB459_440.out
            have hs47 : w40.cell? ⟨gb459,6,none⟩ = some (.int .i64 0) := (QW BK459.out 6).trans rfl
            have hfs47 := QR BK459.out 6
            have hns47_0 := NB440_459.out
            have hms47_0 := NB459_440.out
            have hs48 : w40.cell? ⟨gb459,7,none⟩ = some (.int .i64 0) := (QW BK459.out 7).trans rfl
            have hfs48 := QR BK459.out 7
            have hns48_0 := NB440_459.out
            have hms48_0 := NB459_440.out
            refine skip_ (w1 := ?_) (by rfl) rfl ?_ ?_
            rotate_left
            ·go_simp
             rfl
            refine hK.out _ _ ⟨(cell_far8 (by have ne_ := Kd.own_blk (Kd.R_ne HO_6.out BK459.out (by decide)); exact ne_) _ _ _ _ _ _ _ _).trans hHeld.1,(cell_far8 (by have ne_ := Kd.own_blk (Kd.R_ne HO_6.out BK459.out (by decide)); exact ne_) _ _ _ _ _ _ _ _).trans hHeld.2⟩ (fun hHeld => ?_)
            clear hK K
            refine done_ (done_of HT_.out (by kernel_rfl)) ?_
            have s0_ := QY (R_far8 (QM HO_5.out BK459.out (by decide)) (.int .i64 0) (.int .i64 0) (.bool (!((rdOf ByteArray.empty x6_1 2).toList == ([114,97,110,107] : List UInt8)))) (.bool (!((rdOf ByteArray.empty x6_1 2).toList == ([115,117,105,116] : List UInt8)))) (.slice none 0 0) (.slice none 0 0) (.int .i64 0) (.int .i64 0))
            have s1_ := QY (R_far8 (QM HO_6.out BK459.out (by decide)) (.int .i64 0) (.int .i64 0) (.bool (!((rdOf ByteArray.empty x6_1 2).toList == ([114,97,110,107] : List UInt8)))) (.bool (!((rdOf ByteArray.empty x6_1 2).toList == ([115,117,105,116] : List UInt8)))) (.slice none 0 0) (.slice none 0 0) (.int .i64 0) (.int .i64 0))
            have s2_ := QY (R_far8 (QM HO_22.out BK459.out (by decide)) (.int .i64 0) (.int .i64 0) (.bool (!((rdOf ByteArray.empty x6_1 2).toList == ([114,97,110,107] : List UInt8)))) (.bool (!((rdOf ByteArray.empty x6_1 2).toList == ([115,117,105,116] : List UInt8)))) (.slice none 0 0) (.slice none 0 0) (.int .i64 0) (.int .i64 0))
            have s3_ := QY (blk_far8 BK440.out NB440_459.out (.int .i64 0) (.int .i64 0) (.bool (!((rdOf ByteArray.empty x6_1 2).toList == ([114,97,110,107] : List UInt8)))) (.bool (!((rdOf ByteArray.empty x6_1 2).toList == ([115,117,105,116] : List UInt8)))) (.slice none 0 0) (.slice none 0 0) (.int .i64 0) (.int .i64 0))
            have s4_ := QY (blk_put8 BK459.out (.int .i64 0) (.int .i64 0) (.bool (!((rdOf ByteArray.empty x6_1 2).toList == ([114,97,110,107] : List UInt8)))) (.bool (!((rdOf ByteArray.empty x6_1 2).toList == ([115,117,105,116] : List UInt8)))) (.slice none 0 0) (.slice none 0 0) (.int .i64 0) (.int .i64 0))
            have s5_ := QY (below_set8 HB.out GE459.out (.int .i64 0) (.int .i64 0) (.bool (!((rdOf ByteArray.empty x6_1 2).toList == ([114,97,110,107] : List UInt8)))) (.bool (!((rdOf ByteArray.empty x6_1 2).toList == ([115,117,105,116] : List UInt8)))) (.slice none 0 0) (.slice none 0 0) (.int .i64 0) (.int .i64 0))
            generalize World.setCell _ ⟨gb459,7,none⟩ _ = ws_ at s0_ s1_ s2_ s3_ s4_ s5_ ⊢
            clear HO_5 HO_6 HO_22 BK440 BK459 HB
            have HO_5 := s0_
            have HO_6 := s1_
            have HO_22 := s2_
            have BK440 := s3_
            have BK459 : Aside0 (ws_.heap[gb459]? = some (.cells #[.int .i64 0,.int .i64 0,.bool ((rdOf ByteArray.empty x6_1 2).toList != ([114,97,110,107] : List UInt8)),.bool ((rdOf ByteArray.empty x6_1 2).toList != ([115,117,105,116] : List UInt8)),.slice none 0 0,.slice none 0 0,.int .i64 0,.int .i64 0] 26 (0,0))) := s4_
            have HB := s5_
            clear s0_ s1_ s2_ s3_ s4_ s5_
            have p460 : 0 ≤ (0 : Int) := (by omega)
            have q460 : 0 < (x6_1.length : Int) := of_decide_eq_true (by first | (with_reducible assumption) | assumption)
            obtain ⟨ad460,e460,hx460_0⟩ := Kd.at_string (QP HO_6.out).2.2 0 p460 q460
            obtain rfl : ad457 = ad460 := (by injection e460)
            have qi460 : (0 < x6_1.length) = True := eq_true (by omega)
            (try rw [show ((0 : Int)).toNat = 0 from rfl] at hx460_0)
            (try rw [Addr.add_zero'] at hx460_0)
            replace p460 := eq_true p460
            replace q460 := eq_true q460
            try go_wp2_with (first | ((with_reducible refine QT (f := 26) rfl ?_); refine goesL_ (some 59) rfl rfl Tryd.func26 (by kernel_rfl) rfl #[.string (rdOf ByteArray.empty x6_1 0)] rfl (by (try simp only [List.map_toArray,List.map_cons,List.map_nil]); first | done | rfl | (simp only [List.length_drop,List.length_take]; rfl)) ?_; (with_reducible refine (impl_ParseInt.calls (rdOf ByteArray.empty x6_1 0) t461 t462 _ ?ht_ A23.out).mono ?_); (case ht_ => exact HTAB.out.at (by repeat (first | (with_reducible first | exact HB.out | apply QD | apply QB | apply QC | refine QK ?_ GE440.out | refine QK ?_ GE459.out) | exact HB.out))); rintro e w49 ⟨rfl,hb⟩; refine ⟨_,rfl,?_⟩; have n0_ := QY (QL (by (with_reducible repeat (first | apply QG | apply QH | apply QJ)); exact HO_5.out) hb); have n1_ := QY (QL (by (with_reducible repeat (first | apply QG | apply QH | apply QJ)); exact HO_6.out) hb); have n2_ := QY (QL (by (with_reducible repeat (first | apply QG | apply QH | apply QJ)); exact HO_22.out) hb); have n3_ := QY (QS (g := gb440) (o := .cells #[.int .i64 x441000_1,.int .i64 x441001_1,.bool x441002_1,.bool x441003_1,.slice none 0 0,.slice none 0 0,.int .i64 x441006_1,.int .i64 x441007_1] 26 (0,0)) (by (with_reducible repeat (first | refine QE ?_ _ | refine QI ?_ | refine QF ?_ _)); exact BK440.out) hb); have n4_ := QY (QS (g := gb459) (o := .cells #[.int .i64 0,.int .i64 0,.bool ((rdOf ByteArray.empty x6_1 2).toList != ([114,97,110,107] : List UInt8)),.bool ((rdOf ByteArray.empty x6_1 2).toList != ([115,117,105,116] : List UInt8)),.slice none 0 0,.slice none 0 0,.int .i64 0,.int .i64 0] 26 (0,0)) (by (with_reducible repeat (first | refine QE ?_ _ | refine QI ?_ | refine QF ?_ _)); exact BK459.out) hb); have n5_ := QY (QU (by repeat (first | (with_reducible first | exact HB.out | apply QD | apply QB | apply QC | refine QK ?_ GE440.out | refine QK ?_ GE459.out) | exact HB.out)) hb); clear HO_5; clear HO_6; clear HO_22; clear BK440; clear BK459; clear HB; revert n0_ n1_ n2_ n3_ n4_ n5_; intro HO_5 HO_6 HO_22 BK440 BK459 HB; (try clear hb); (try clear hk); (try clear hi); have hnb50 := NB459_440.out; have hnc50 := NB440_459.out; have hcz51 := fun i => QW BK459.out i; have hfz51 := fun i => QR BK459.out i; have p463 : 0 ≤ (1 : Int) := (by omega); have q463 : 1 < (x6_1.length : Int) := of_decide_eq_true (by first | (with_reducible assumption) | assumption); obtain ⟨ad463,e463,hx463_0⟩ := Kd.at_string (QP HO_6.out).2.2 1 p463 q463; obtain rfl : ad457 = ad463 := (by injection e463); (try simp only [show (1 : Int).toNat = 1 from rfl,Nat.reduceMul,Nat.reduceEqDiff,Go.Addr.add,↓reduceIte] at hx463_0); have qi463 : (1 < x6_1.length) = True := eq_true (by omega); (try rw [show ((1 : Int)).toNat = 1 from rfl] at hx463_0); have hn463_0 : ad457.block ≠ gb459 := Kd.own_blk (Kd.R_ne HO_6.out BK459.out (by decide)); replace hx463_0 := (cell_far (p := ⟨gb459,0,none⟩) (by first | (rw [add_block]; exact hn463_0) | (show (Addr.add _ _).block ≠ _; rw [add_block]; exact hn463_0) | exact hn463_0) (.int .i64 t461)).trans hx463_0; clear hn463_0; replace p463 := eq_true p463; replace q463 := eq_true q463; refine Aside0.out ?_))
            refine QY ?_
            try go_wp2_with (first | ((with_reducible refine QT (f := 26) rfl ?_); refine goesL_ (some 67) rfl rfl Tryd.func26 (by kernel_rfl) rfl #[.string (rdOf ByteArray.empty x6_1 1)] rfl (by (try simp only [List.map_toArray,List.map_cons,List.map_nil]); first | done | rfl | (simp only [List.length_drop,List.length_take]; rfl)) ?_; (with_reducible refine (impl_ParseInt.calls (rdOf ByteArray.empty x6_1 1) t464 t465 _ ?ht_ A25.out).mono ?_); (case ht_ => exact HTAB.out.at (by repeat (first | (with_reducible first | exact HB.out | apply QD | apply QB | apply QC | refine QK ?_ GE440.out | refine QK ?_ GE459.out) | exact HB.out))); rintro e w52 ⟨rfl,hb⟩; refine ⟨_,rfl,?_⟩; have n0_ := QY (QL (by (with_reducible repeat (first | apply QG | apply QH | apply QJ)); exact (QN (QX (QM HO_5.out BK459.out (by decide))) (fun _ h_ => h_.1))) hb); have n1_ := QY (QL (by (with_reducible repeat (first | apply QG | apply QH | apply QJ)); exact (QN (QX (QM HO_6.out BK459.out (by decide))) (fun _ h_ => h_.1))) hb); have n2_ := QY (QL (by (with_reducible repeat (first | apply QG | apply QH | apply QJ)); exact (QN (QX (QM HO_22.out BK459.out (by decide))) (fun _ h_ => h_.1))) hb); have n3_ := QY (QS (g := gb440) (o := .cells #[.int .i64 x441000_1,.int .i64 x441001_1,.bool x441002_1,.bool x441003_1,.slice none 0 0,.slice none 0 0,.int .i64 x441006_1,.int .i64 x441007_1] 26 (0,0)) (by (with_reducible repeat (first | refine QE ?_ _ | refine QI ?_ | refine QF ?_ _)); refine blk_far ?_ NB440_459.out _; (with_reducible repeat (first | refine QE ?_ _ | refine QI ?_ | refine QF ?_ _)); exact BK440.out) hb); have n4_ := QY (QS (g := gb459) (o := .cells #[.int .i64 t461,.int .i64 0,.bool ((rdOf ByteArray.empty x6_1 2).toList != ([114,97,110,107] : List UInt8)),.bool ((rdOf ByteArray.empty x6_1 2).toList != ([115,117,105,116] : List UInt8)),.slice none 0 0,.slice none 0 0,.int .i64 0,.int .i64 0] 26 (0,0)) (by (with_reducible repeat (first | refine QE ?_ _ | refine QI ?_ | refine QF ?_ _)); refine QO (cs := #[.int .i64 0,.int .i64 0,.bool ((rdOf ByteArray.empty x6_1 2).toList != ([114,97,110,107] : List UInt8)),.bool ((rdOf ByteArray.empty x6_1 2).toList != ([115,117,105,116] : List UInt8)),.slice none 0 0,.slice none 0 0,.int .i64 0,.int .i64 0]) ?_ 0 _ rfl; (with_reducible repeat (first | refine QE ?_ _ | refine QI ?_ | refine QF ?_ _)); exact BK459.out) hb); have n5_ := QY (QU (by repeat (first | (with_reducible first | exact HB.out | apply QD | apply QB | apply QC | refine QK ?_ GE440.out | refine QK ?_ GE459.out) | exact HB.out)) hb); clear HO_5; clear HO_6; clear HO_22; clear BK440; clear BK459; clear HB; revert n0_ n1_ n2_ n3_ n4_ n5_; intro HO_5 HO_6 HO_22 BK440 BK459 HB; (try clear hb); (try clear hk); (try clear hi); have hcz53 := fun i => QW BK459.out i; have hfz53 := fun i => QR BK459.out i; have p466 : 0 ≤ (3 : Int) := (by omega); have q466 : 3 < (x6_1.length : Int) := of_decide_eq_true (by first | (with_reducible assumption) | assumption); obtain ⟨ad466,e466,hx466_0⟩ := Kd.at_string (QP HO_6.out).2.2 3 p466 q466; obtain rfl : ad457 = ad466 := (by injection e466); (try simp only [show (3 : Int).toNat = 3 from rfl,Nat.reduceMul,Nat.reduceEqDiff,Go.Addr.add,↓reduceIte] at hx466_0); have qi466 : (3 < x6_1.length) = True := eq_true (by omega); (try rw [show ((3 : Int)).toNat = 3 from rfl] at hx466_0); have hn466_0 : ad457.block ≠ gb459 := Kd.own_blk (Kd.R_ne HO_6.out BK459.out (by decide)); replace hx466_0 := (cell_far (p := ⟨gb459,1,none⟩) (by first | (rw [add_block]; exact hn466_0) | (show (Addr.add _ _).block ≠ _; rw [add_block]; exact hn466_0) | exact hn466_0) (.int .i64 t464)).trans hx466_0; clear hn466_0; replace p466 := eq_true p466; replace q466 := eq_true q466; refine Aside0.out ?_))
            refine QY ?_
            try go_wp2_with (first | ((with_reducible refine QT (f := 27) rfl ?_); refine goesL_ (some 75) rfl rfl Tryd.func27 (by kernel_rfl) rfl #[.string (rdOf ByteArray.empty x6_1 3)] rfl (by (try simp only [List.map_toArray,List.map_cons,List.map_nil]); first | done | rfl | (simp only [List.length_drop,List.length_take]; rfl)) ?_; (with_reducible refine (impl_ParsePattern.calls k1 (rdOf ByteArray.empty x6_1 3) t467 t468 _ A27.out).mono ?_); rintro e w54 ⟨v469,rfl,ho0,hb⟩; refine ⟨_,rfl,?_⟩; have n0_ := QY (QL (by (with_reducible repeat (first | apply QG | apply QH | apply QJ)); exact (QN (QX (QM HO_5.out BK459.out (by decide))) (fun _ h_ => h_.1))) hb); have n1_ := QY (QL (by (with_reducible repeat (first | apply QG | apply QH | apply QJ)); exact (QN (QX (QM HO_6.out BK459.out (by decide))) (fun _ h_ => h_.1))) hb); have n2_ := QY (QL (by (with_reducible repeat (first | apply QG | apply QH | apply QJ)); exact (QN (QX (QM HO_22.out BK459.out (by decide))) (fun _ h_ => h_.1))) hb); have n3_ := QY (Kd.R_lower ho0 (QV (by repeat (first | (with_reducible first | exact HB.out | apply QD | apply QB | apply QC | refine QK ?_ GE440.out | refine QK ?_ GE459.out) | exact HB.out)))); have n4_ := QY (QS (g := gb440) (o := .cells #[.int .i64 x441000_1,.int .i64 x441001_1,.bool x441002_1,.bool x441003_1,.slice none 0 0,.slice none 0 0,.int .i64 x441006_1,.int .i64 x441007_1] 26 (0,0)) (by (with_reducible repeat (first | refine QE ?_ _ | refine QI ?_ | refine QF ?_ _)); refine blk_far ?_ NB440_459.out _; (with_reducible repeat (first | refine QE ?_ _ | refine QI ?_ | refine QF ?_ _)); exact BK440.out) hb); have n5_ := QY (QS (g := gb459) (o := .cells #[.int .i64 t461,.int .i64 t464,.bool ((rdOf ByteArray.empty x6_1 2).toList != ([114,97,110,107] : List UInt8)),.bool ((rdOf ByteArray.empty x6_1 2).toList != ([115,117,105,116] : List UInt8)),.slice none 0 0,.slice none 0 0,.int .i64 0,.int .i64 0] 26 (0,0)) (by (with_reducible repeat (first | refine QE ?_ _ | refine QI ?_ | refine QF ?_ _)); refine QO (cs := #[.int .i64 t461,.int .i64 0,.bool ((rdOf ByteArray.empty x6_1 2).toList != ([114,97,110,107] : List UInt8)),.bool ((rdOf ByteArray.empty x6_1 2).toList != ([115,117,105,116] : List UInt8)),.slice none 0 0,.slice none 0 0,.int .i64 0,.int .i64 0]) ?_ 1 _ rfl; (with_reducible repeat (first | refine QE ?_ _ | refine QI ?_ | refine QF ?_ _)); exact BK459.out) hb); have n6_ := QY (QU (by repeat (first | (with_reducible first | exact HB.out | apply QD | apply QB | apply QC | refine QK ?_ GE440.out | refine QK ?_ GE459.out) | exact HB.out)) hb); clear HO_5; clear HO_6; clear HO_22; clear BK440; clear BK459; clear HB; revert n0_ n1_ n2_ n3_ n4_ n5_ n6_; intro HO_5 HO_6 HO_22 HO470 BK440 BK459 HB; (try clear hb); (try clear hk); (try clear ho0); obtain ⟨Ao55,co55,eo55⟩ := Kd.R_slice HO470.out; subst eo55; have hcz56 := fun i => QW BK459.out i; have hfz56 := fun i => QR BK459.out i; have p471 : 0 ≤ (4 : Int) := (by omega); have q471 : 4 < (x6_1.length : Int) := of_decide_eq_true (by first | (with_reducible assumption) | assumption); obtain ⟨ad471,e471,hx471_0⟩ := Kd.at_string (QP HO_6.out).2.2 4 p471 q471; obtain rfl : ad457 = ad471 := (by injection e471); (try simp only [show (4 : Int).toNat = 4 from rfl,Nat.reduceMul,Nat.reduceEqDiff,Go.Addr.add,↓reduceIte] at hx471_0); have qi471 : (4 < x6_1.length) = True := eq_true (by omega); (try rw [show ((4 : Int)).toNat = 4 from rfl] at hx471_0); have hn471_0 : ad457.block ≠ gb459 := Kd.own_blk (Kd.R_ne HO_6.out BK459.out (by decide)); replace hx471_0 := (cell_far (p := ⟨gb459,4,none⟩) (by first | (rw [add_block]; exact hn471_0) | (show (Addr.add _ _).block ≠ _; rw [add_block]; exact hn471_0) | exact hn471_0) (.slice Ao55 t467.length co55)).trans hx471_0; clear hn471_0; replace p471 := eq_true p471; replace q471 := eq_true q471; refine Aside0.out ?_))
            refine QY ?_
            try go_wp2_with (first | ((with_reducible refine QT (f := 27) rfl ?_); refine goesL_ (some 83) rfl rfl Tryd.func27 (by kernel_rfl) rfl #[.string (rdOf ByteArray.empty x6_1 4)] rfl (by (try simp only [List.map_toArray,List.map_cons,List.map_nil]); first | done | rfl | (simp only [List.length_drop,List.length_take]; rfl)) ?_; (with_reducible refine (impl_ParsePattern.calls k1 (rdOf ByteArray.empty x6_1 4) t472 t473 _ A29.out).mono ?_); rintro e w57 ⟨v474,rfl,ho0,hb⟩; refine ⟨_,rfl,?_⟩; have n0_ := QY (QL (by (with_reducible repeat (first | apply QG | apply QH | apply QJ)); exact (QN (QX (QM HO_5.out BK459.out (by decide))) (fun _ h_ => h_.1))) hb); have n1_ := QY (QL (by (with_reducible repeat (first | apply QG | apply QH | apply QJ)); exact (QN (QX (QM HO_6.out BK459.out (by decide))) (fun _ h_ => h_.1))) hb); have n2_ := QY (QL (by (with_reducible repeat (first | apply QG | apply QH | apply QJ)); exact (QN (QX (QM HO_22.out BK459.out (by decide))) (fun _ h_ => h_.1))) hb); have n3_ := QY (Kd.R_elder' (by (with_reducible repeat (first | apply QG | apply QH | apply QJ)); exact (QN (QX (QM HO470.out BK459.out (by decide))) (fun _ h_ => h_.1))) (Kd.R_base ho0) hb); have n4_ := QY (Kd.R_lower (Kd.R_new' ho0 (Kd.R_lt (by (with_reducible repeat (first | apply QG | apply QH | apply QJ)); exact (QN (QX (QM HO470.out BK459.out (by decide))) (fun _ h_ => h_.1))))) (QV (by repeat (first | (with_reducible first | exact HB.out | apply QD | apply QB | apply QC | refine QK ?_ GE440.out | refine QK ?_ GE459.out) | exact HB.out)))); have n5_ := QY (QS (g := gb440) (o := .cells #[.int .i64 x441000_1,.int .i64 x441001_1,.bool x441002_1,.bool x441003_1,.slice none 0 0,.slice none 0 0,.int .i64 x441006_1,.int .i64 x441007_1] 26 (0,0)) (by (with_reducible repeat (first | refine QE ?_ _ | refine QI ?_ | refine QF ?_ _)); refine blk_far ?_ NB440_459.out _; (with_reducible repeat (first | refine QE ?_ _ | refine QI ?_ | refine QF ?_ _)); exact BK440.out) hb); have n6_ := QY (QS (g := gb459) (o := .cells #[.int .i64 t461,.int .i64 t464,.bool ((rdOf ByteArray.empty x6_1 2).toList != ([114,97,110,107] : List UInt8)),.bool ((rdOf ByteArray.empty x6_1 2).toList != ([115,117,105,116] : List UInt8)),.slice Ao55 t467.length co55,.slice none 0 0,.int .i64 0,.int .i64 0] 26 (0,0)) (by (with_reducible repeat (first | refine QE ?_ _ | refine QI ?_ | refine QF ?_ _)); refine QO (cs := #[.int .i64 t461,.int .i64 t464,.bool ((rdOf ByteArray.empty x6_1 2).toList != ([114,97,110,107] : List UInt8)),.bool ((rdOf ByteArray.empty x6_1 2).toList != ([115,117,105,116] : List UInt8)),.slice none 0 0,.slice none 0 0,.int .i64 0,.int .i64 0]) ?_ 4 _ rfl; (with_reducible repeat (first | refine QE ?_ _ | refine QI ?_ | refine QF ?_ _)); exact BK459.out) hb); have n7_ := QY (QU (by repeat (first | (with_reducible first | exact HB.out | apply QD | apply QB | apply QC | refine QK ?_ GE440.out | refine QK ?_ GE459.out) | exact HB.out)) hb); clear HO_5; clear HO_6; clear HO_22; clear HO470; clear BK440; clear BK459; clear HB; revert n0_ n1_ n2_ n3_ n4_ n5_ n6_ n7_; intro HO_5 HO_6 HO_22 HO470 HO475 BK440 BK459 HB; (try clear hb); (try clear hk); (try clear ho0); obtain ⟨Ao58,co58,eo58⟩ := Kd.R_slice HO475.out; subst eo58; have hcz59 := fun i => QW BK459.out i; have hfz59 := fun i => QR BK459.out i; have p476 : 0 ≤ (5 : Int) := (by omega); have q476 : 5 < (x6_1.length : Int) := of_decide_eq_true (by first | (with_reducible assumption) | assumption); obtain ⟨ad476,e476,hx476_0⟩ := Kd.at_string (QP HO_6.out).2.2 5 p476 q476; obtain rfl : ad457 = ad476 := (by injection e476); (try simp only [show (5 : Int).toNat = 5 from rfl,Nat.reduceMul,Nat.reduceEqDiff,Go.Addr.add,↓reduceIte] at hx476_0); have qi476 : (5 < x6_1.length) = True := eq_true (by omega); (try rw [show ((5 : Int)).toNat = 5 from rfl] at hx476_0); have hn476_0 : ad457.block ≠ gb459 := Kd.own_blk (Kd.R_ne HO_6.out BK459.out (by decide)); replace hx476_0 := (cell_far (p := ⟨gb459,5,none⟩) (by first | (rw [add_block]; exact hn476_0) | (show (Addr.add _ _).block ≠ _; rw [add_block]; exact hn476_0) | exact hn476_0) (.slice Ao58 t472.length co58)).trans hx476_0; clear hn476_0; replace p476 := eq_true p476; replace q476 := eq_true q476; refine Aside0.out ?_))
            refine QY ?_
            try go_wp2_with (first | ((with_reducible refine QT (f := 26) rfl ?_); refine goesL_ (some 91) rfl rfl Tryd.func26 (by kernel_rfl) rfl #[.string (rdOf ByteArray.empty x6_1 5)] rfl (by (try simp only [List.map_toArray,List.map_cons,List.map_nil]); first | done | rfl | (simp only [List.length_drop,List.length_take]; rfl)) ?_; (with_reducible refine (impl_ParseInt.calls (rdOf ByteArray.empty x6_1 5) t477 t478 _ ?ht_ A31.out).mono ?_); (case ht_ => exact HTAB.out.at (by repeat (first | (with_reducible first | exact HB.out | apply QD | apply QB | apply QC | refine QK ?_ GE440.out | refine QK ?_ GE459.out) | exact HB.out))); rintro e w60 ⟨rfl,hb⟩; refine ⟨_,rfl,?_⟩; have n0_ := QY (QL (by (with_reducible repeat (first | apply QG | apply QH | apply QJ)); exact (QN (QX (QM HO_5.out BK459.out (by decide))) (fun _ h_ => h_.1))) hb); have n1_ := QY (QL (by (with_reducible repeat (first | apply QG | apply QH | apply QJ)); exact (QN (QX (QM HO_6.out BK459.out (by decide))) (fun _ h_ => h_.1))) hb); have n2_ := QY (QL (by (with_reducible repeat (first | apply QG | apply QH | apply QJ)); exact (QN (QX (QM HO_22.out BK459.out (by decide))) (fun _ h_ => h_.1))) hb); have n3_ := QY (QL (by (with_reducible repeat (first | apply QG | apply QH | apply QJ)); exact (QN (QX (QM HO470.out BK459.out (by decide))) (fun _ h_ => h_.1))) hb); have n4_ := QY (QL (by (with_reducible repeat (first | apply QG | apply QH | apply QJ)); exact (QN (QX (QM HO475.out BK459.out (by decide))) (fun _ h_ => h_.1))) hb); have n5_ := QY (QS (g := gb440) (o := .cells #[.int .i64 x441000_1,.int .i64 x441001_1,.bool x441002_1,.bool x441003_1,.slice none 0 0,.slice none 0 0,.int .i64 x441006_1,.int .i64 x441007_1] 26 (0,0)) (by (with_reducible repeat (first | refine QE ?_ _ | refine QI ?_ | refine QF ?_ _)); refine blk_far ?_ NB440_459.out _; (with_reducible repeat (first | refine QE ?_ _ | refine QI ?_ | refine QF ?_ _)); exact BK440.out) hb); have n6_ := QY (QS (g := gb459) (o := .cells #[.int .i64 t461,.int .i64 t464,.bool ((rdOf ByteArray.empty x6_1 2).toList != ([114,97,110,107] : List UInt8)),.bool ((rdOf ByteArray.empty x6_1 2).toList != ([115,117,105,116] : List UInt8)),.slice Ao55 t467.length co55,.slice Ao58 t472.length co58,.int .i64 0,.int .i64 0] 26 (0,0)) (by (with_reducible repeat (first | refine QE ?_ _ | refine QI ?_ | refine QF ?_ _)); refine QO (cs := #[.int .i64 t461,.int .i64 t464,.bool ((rdOf ByteArray.empty x6_1 2).toList != ([114,97,110,107] : List UInt8)),.bool ((rdOf ByteArray.empty x6_1 2).toList != ([115,117,105,116] : List UInt8)),.slice Ao55 t467.length co55,.slice none 0 0,.int .i64 0,.int .i64 0]) ?_ 5 _ rfl; (with_reducible repeat (first | refine QE ?_ _ | refine QI ?_ | refine QF ?_ _)); exact BK459.out) hb); have n7_ := QY (QU (by repeat (first | (with_reducible first | exact HB.out | apply QD | apply QB | apply QC | refine QK ?_ GE440.out | refine QK ?_ GE459.out) | exact HB.out)) hb); clear HO_5; clear HO_6; clear HO_22; clear HO470; clear HO475; clear BK440; clear BK459; clear HB; revert n0_ n1_ n2_ n3_ n4_ n5_ n6_ n7_; intro HO_5 HO_6 HO_22 HO470 HO475 BK440 BK459 HB; (try clear hb); (try clear hk); (try clear hi); have hcz61 := fun i => QW BK459.out i; have hfz61 := fun i => QR BK459.out i; have p479 : 0 ≤ (6 : Int) := (by omega); have q479 : 6 < (x6_1.length : Int) := of_decide_eq_true (by first | (with_reducible assumption) | assumption); obtain ⟨ad479,e479,hx479_0⟩ := Kd.at_string (QP HO_6.out).2.2 6 p479 q479; obtain rfl : ad457 = ad479 := (by injection e479); (try simp only [show (6 : Int).toNat = 6 from rfl,Nat.reduceMul,Nat.reduceEqDiff,Go.Addr.add,↓reduceIte] at hx479_0); have qi479 : (6 < x6_1.length) = True := eq_true (by omega); (try rw [show ((6 : Int)).toNat = 6 from rfl] at hx479_0); have hn479_0 : ad457.block ≠ gb459 := Kd.own_blk (Kd.R_ne HO_6.out BK459.out (by decide)); replace hx479_0 := (cell_far (p := ⟨gb459,6,none⟩) (by first | (rw [add_block]; exact hn479_0) | (show (Addr.add _ _).block ≠ _; rw [add_block]; exact hn479_0) | exact hn479_0) (.int .i64 t477)).trans hx479_0; clear hn479_0; replace p479 := eq_true p479; replace q479 := eq_true q479; refine Aside0.out ?_))
            refine QY ?_
            try go_wp2_with (first | ((with_reducible refine QT (f := 26) rfl ?_); refine goesL_ (some 99) rfl rfl Tryd.func26 (by kernel_rfl) rfl #[.string (rdOf ByteArray.empty x6_1 6)] rfl (by (try simp only [List.map_toArray,List.map_cons,List.map_nil]); first | done | rfl | (simp only [List.length_drop,List.length_take]; rfl)) ?_; (with_reducible refine (impl_ParseInt.calls (rdOf ByteArray.empty x6_1 6) t480 t481 _ ?ht_ A33.out).mono ?_); (case ht_ => exact HTAB.out.at (by repeat (first | (with_reducible first | exact HB.out | apply QD | apply QB | apply QC | refine QK ?_ GE440.out | refine QK ?_ GE459.out) | exact HB.out))); rintro e w62 ⟨rfl,hb⟩; refine ⟨_,rfl,?_⟩; have n0_ := QY (QL (by (with_reducible repeat (first | apply QG | apply QH | apply QJ)); exact (QN (QX (QM HO_5.out BK459.out (by decide))) (fun _ h_ => h_.1))) hb); have n1_ := QY (QL (by (with_reducible repeat (first | apply QG | apply QH | apply QJ)); exact (QN (QX (QM HO_6.out BK459.out (by decide))) (fun _ h_ => h_.1))) hb); have n2_ := QY (QL (by (with_reducible repeat (first | apply QG | apply QH | apply QJ)); exact (QN (QX (QM HO_22.out BK459.out (by decide))) (fun _ h_ => h_.1))) hb); have n3_ := QY (QL (by (with_reducible repeat (first | apply QG | apply QH | apply QJ)); exact (QN (QX (QM HO470.out BK459.out (by decide))) (fun _ h_ => h_.1))) hb); have n4_ := QY (QL (by (with_reducible repeat (first | apply QG | apply QH | apply QJ)); exact (QN (QX (QM HO475.out BK459.out (by decide))) (fun _ h_ => h_.1))) hb); have n5_ := QY (QS (g := gb440) (o := .cells #[.int .i64 x441000_1,.int .i64 x441001_1,.bool x441002_1,.bool x441003_1,.slice none 0 0,.slice none 0 0,.int .i64 x441006_1,.int .i64 x441007_1] 26 (0,0)) (by (with_reducible repeat (first | refine QE ?_ _ | refine QI ?_ | refine QF ?_ _)); refine blk_far ?_ NB440_459.out _; (with_reducible repeat (first | refine QE ?_ _ | refine QI ?_ | refine QF ?_ _)); exact BK440.out) hb); have n6_ := QY (QS (g := gb459) (o := .cells #[.int .i64 t461,.int .i64 t464,.bool ((rdOf ByteArray.empty x6_1 2).toList != ([114,97,110,107] : List UInt8)),.bool ((rdOf ByteArray.empty x6_1 2).toList != ([115,117,105,116] : List UInt8)),.slice Ao55 t467.length co55,.slice Ao58 t472.length co58,.int .i64 t477,.int .i64 0] 26 (0,0)) (by (with_reducible repeat (first | refine QE ?_ _ | refine QI ?_ | refine QF ?_ _)); refine QO (cs := #[.int .i64 t461,.int .i64 t464,.bool ((rdOf ByteArray.empty x6_1 2).toList != ([114,97,110,107] : List UInt8)),.bool ((rdOf ByteArray.empty x6_1 2).toList != ([115,117,105,116] : List UInt8)),.slice Ao55 t467.length co55,.slice Ao58 t472.length co58,.int .i64 0,.int .i64 0]) ?_ 6 _ rfl; (with_reducible repeat (first | refine QE ?_ _ | refine QI ?_ | refine QF ?_ _)); exact BK459.out) hb); have n7_ := QY (QU (by repeat (first | (with_reducible first | exact HB.out | apply QD | apply QB | apply QC | refine QK ?_ GE440.out | refine QK ?_ GE459.out) | exact HB.out)) hb); clear HO_5; clear HO_6; clear HO_22; clear HO470; clear HO475; clear BK440; clear BK459; clear HB; revert n0_ n1_ n2_ n3_ n4_ n5_ n6_ n7_; intro HO_5 HO_6 HO_22 HO470 HO475 BK440 BK459 HB; (try clear hb); (try clear hk); (try clear hi); refine Aside0.out ?_))
            refine QY ?_
            have hcz63 := fun i => QW BK459.out i
            have hfz63 := fun i => QR BK459.out i
            by_cases c35 : t482 = true
            ·subst c35
             have H1 : ((impl_RulesText.f k1 t461 t464 ((rdOf ByteArray.empty x6_1 2).toList != ([114,97,110,107] : List UInt8)) ((rdOf ByteArray.empty x6_1 2).toList != ([115,117,105,116] : List UInt8)) t467 t472 t477 t480).bind fun t483 => (if t483.toList = a0.toList then (some (t461,t464,((rdOf ByteArray.empty x6_1 2).toList != ([114,97,110,107] : List UInt8)),((rdOf ByteArray.empty x6_1 2).toList != ([115,117,105,116] : List UInt8)),t467,t472,t477,t480,true)) else (some (0,0,false,false,([] : List Int),([] : List Int),0,0,false)))) = some (r1,r2,r3,r4,r5,r6,r7,r8,r9) := by rw [if_pos rfl] at H; exact H
             clear H
             have H := H1
             clear H1
             replace H := QZ.mp H
             obtain ⟨t483,A360,H⟩ := H
             replace H : (if t483.toList = a0.toList then (some (t461,t464,((rdOf ByteArray.empty x6_1 2).toList != ([114,97,110,107] : List UInt8)),((rdOf ByteArray.empty x6_1 2).toList != ([115,117,105,116] : List UInt8)),t467,t472,t477,t480,true)) else (some (0,0,false,false,([] : List Int),([] : List Int),0,0,false))) = some (r1,r2,r3,r4,r5,r6,r7,r8,r9) := H
             have A36 := QY A360
             clear A360
             try go_wp2_with (first | ((with_reducible refine QT (f := 10) rfl ?_); refine goesL_ (some 104) rfl rfl Tryd.func10 (by kernel_rfl) rfl #[.agg #[.int .i64 t461,.int .i64 t464,.bool ((rdOf ByteArray.empty x6_1 2).toList != ([114,97,110,107] : List UInt8)),.bool ((rdOf ByteArray.empty x6_1 2).toList != ([115,117,105,116] : List UInt8)),.slice Ao55 t467.length co55,.slice Ao58 t472.length co58,.int .i64 t477,.int .i64 t480]] rfl (by (try simp only [List.map_toArray,List.map_cons,List.map_nil]); first | done | rfl | (simp only [List.length_drop,List.length_take]; rfl)) ?_; (with_reducible refine (impl_IsRules.calls k1 t461 t464 ((rdOf ByteArray.empty x6_1 2).toList != ([114,97,110,107] : List UInt8)) ((rdOf ByteArray.empty x6_1 2).toList != ([115,117,105,116] : List UInt8)) _ _ t467 _ _ t472 t477 t480 true _ ?side1 ?side2 ?side3 ?side4 A34.out).mono ?_); (case side1 => refine (QP (e := 3) (base := w.heap.size) (ok := fun k_ => (True ∧ some k_ ≠ (.slice Ao58 t472.length co58 : Value).ownBlock)) (n := t467.length) (c := co55) ?_).2.2; exact (by (with_reducible repeat (first | apply QG | apply QH | apply QJ)); exact (QN (QX (QM HO470.out BK459.out (by decide))) (fun _ h_ => h_.1)))); (case side2 => exact (QP HO470.out).2.1); (case side3 => refine (QP (e := 3) (base := w.heap.size) (ok := fun k_ => (True ∧ some k_ ≠ (.slice Ao55 t467.length co55 : Value).ownBlock)) (n := t472.length) (c := co58) ?_).2.2; exact (by (with_reducible repeat (first | apply QG | apply QH | apply QJ)); exact (QN (QX (QM HO475.out BK459.out (by decide))) (fun _ h_ => h_.1)))); (case side4 => exact (QP HO475.out).2.1); rintro e w64 ⟨rfl,hb⟩; refine ⟨_,rfl,?_⟩; have n0_ := QY (QL (by (with_reducible repeat (first | apply QG | apply QH | apply QJ)); exact (QN (QX (QM HO_5.out BK459.out (by decide))) (fun _ h_ => h_.1))) hb); have n1_ := QY (QL (by (with_reducible repeat (first | apply QG | apply QH | apply QJ)); exact (QN (QX (QM HO_6.out BK459.out (by decide))) (fun _ h_ => h_.1))) hb); have n2_ := QY (QL (by (with_reducible repeat (first | apply QG | apply QH | apply QJ)); exact (QN (QX (QM HO_22.out BK459.out (by decide))) (fun _ h_ => h_.1))) hb); have n3_ := QY (QL (by (with_reducible repeat (first | apply QG | apply QH | apply QJ)); exact (QN (QX (QM HO470.out BK459.out (by decide))) (fun _ h_ => h_.1))) hb); have n4_ := QY (QL (by (with_reducible repeat (first | apply QG | apply QH | apply QJ)); exact (QN (QX (QM HO475.out BK459.out (by decide))) (fun _ h_ => h_.1))) hb); have n5_ := QY (QS (g := gb440) (o := .cells #[.int .i64 x441000_1,.int .i64 x441001_1,.bool x441002_1,.bool x441003_1,.slice none 0 0,.slice none 0 0,.int .i64 x441006_1,.int .i64 x441007_1] 26 (0,0)) (by (with_reducible repeat (first | refine QE ?_ _ | refine QI ?_ | refine QF ?_ _)); refine blk_far ?_ NB440_459.out _; (with_reducible repeat (first | refine QE ?_ _ | refine QI ?_ | refine QF ?_ _)); exact BK440.out) hb); have n6_ := QY (QS (g := gb459) (o := .cells #[.int .i64 t461,.int .i64 t464,.bool ((rdOf ByteArray.empty x6_1 2).toList != ([114,97,110,107] : List UInt8)),.bool ((rdOf ByteArray.empty x6_1 2).toList != ([115,117,105,116] : List UInt8)),.slice Ao55 t467.length co55,.slice Ao58 t472.length co58,.int .i64 t477,.int .i64 t480] 26 (0,0)) (by (with_reducible repeat (first | refine QE ?_ _ | refine QI ?_ | refine QF ?_ _)); refine QO (cs := #[.int .i64 t461,.int .i64 t464,.bool ((rdOf ByteArray.empty x6_1 2).toList != ([114,97,110,107] : List UInt8)),.bool ((rdOf ByteArray.empty x6_1 2).toList != ([115,117,105,116] : List UInt8)),.slice Ao55 t467.length co55,.slice Ao58 t472.length co58,.int .i64 t477,.int .i64 0]) ?_ 7 _ rfl; (with_reducible repeat (first | refine QE ?_ _ | refine QI ?_ | refine QF ?_ _)); exact BK459.out) hb); have n7_ := QY (QU (by repeat (first | (with_reducible first | exact HB.out | apply QD | apply QB | apply QC | refine QK ?_ GE440.out | refine QK ?_ GE459.out) | exact HB.out)) hb); clear HO_5; clear HO_6; clear HO_22; clear HO470; clear HO475; clear BK440; clear BK459; clear HB; revert n0_ n1_ n2_ n3_ n4_ n5_ n6_ n7_; intro HO_5 HO_6 HO_22 HO470 HO475 BK440 BK459 HB; (try clear hb); (try clear hk); (try clear hi); refine Aside0.out ?_))
             refine QY ?_
             have hcz65 := fun i => QW BK459.out i
             have hfz65 := fun i => QR BK459.out i
             by_cases c37 : t483.toList = a0.toList
             ·rw [if_pos c37] at H
              have c37b0 : (t483.toList == a0.toList) = true := beq_iff_eq.mpr c37
              have c37b1 : (t483.toList != a0.toList) = false := bne_eq_false_iff_eq.mpr c37
              clear c37
              simp only [Option.some.injEq,Prod.mk.injEq] at H
              obtain ⟨rfl,rfl,rfl,rfl,rfl,rfl,rfl,rfl,rfl⟩ := H
              (try simp only [c37b0,c37b1])
              try go_wp2_with (first | (go_at_call 9; (with_reducible refine (impl_RulesText.calls k1 t461 t464 ((rdOf ByteArray.empty x6_1 2).toList != ([114,97,110,107] : List UInt8)) ((rdOf ByteArray.empty x6_1 2).toList != ([115,117,105,116] : List UInt8)) _ _ t467 _ _ t472 t477 t480 t483 _ ?ht_ ?side1 ?side2 ?side3 ?side4 A36.out).mono ?_); (case ht_ => exact (HTAB.out.at (by repeat (first | (with_reducible first | exact HB.out | apply QD | apply QB | apply QC | refine QK ?_ GE440.out | refine QK ?_ GE459.out) | exact HB.out))).1); (case side1 => repeat (first | exact (QP HO470.out).2.2 | (with_reducible refine Kd.C_alloc ?_ _) | (with_reducible refine Kd.C_drewN ?_ _) | (with_reducible refine Kd.C_drew ?_))); (case side2 => exact (QP HO470.out).2.1); (case side3 => repeat (first | exact (QP HO475.out).2.2 | (with_reducible refine Kd.C_alloc ?_ _) | (with_reducible refine Kd.C_drewN ?_ _) | (with_reducible refine Kd.C_drew ?_))); (case side4 => exact (QP HO475.out).2.1); rintro e w66 ⟨rfl,hb⟩; have n0_ := QY (QL (by (with_reducible repeat (first | apply QG | apply QH | apply QJ)); exact HO_5.out) hb); have n1_ := QY (QL (by (with_reducible repeat (first | apply QG | apply QH | apply QJ)); exact HO_6.out) hb); have n2_ := QY (QL (by (with_reducible repeat (first | apply QG | apply QH | apply QJ)); exact HO_22.out) hb); have n3_ := QY (QL (by (with_reducible repeat (first | apply QG | apply QH | apply QJ)); exact HO470.out) hb); have n4_ := QY (QL (by (with_reducible repeat (first | apply QG | apply QH | apply QJ)); exact HO475.out) hb); have n5_ := QY (QS (g := gb440) (o := .cells #[.int .i64 x441000_1,.int .i64 x441001_1,.bool x441002_1,.bool x441003_1,.slice none 0 0,.slice none 0 0,.int .i64 x441006_1,.int .i64 x441007_1] 26 (0,0)) (by (with_reducible repeat (first | refine QE ?_ _ | refine QI ?_ | refine QF ?_ _)); exact BK440.out) hb); have n6_ := QY (QS (g := gb459) (o := .cells #[.int .i64 t461,.int .i64 t464,.bool ((rdOf ByteArray.empty x6_1 2).toList != ([114,97,110,107] : List UInt8)),.bool ((rdOf ByteArray.empty x6_1 2).toList != ([115,117,105,116] : List UInt8)),.slice Ao55 t467.length co55,.slice Ao58 t472.length co58,.int .i64 t477,.int .i64 t480] 26 (0,0)) (by (with_reducible repeat (first | refine QE ?_ _ | refine QI ?_ | refine QF ?_ _)); exact BK459.out) hb); have n7_ := QY (QU (by repeat (first | (with_reducible first | exact HB.out | apply QD | apply QB | apply QC | refine QK ?_ GE440.out | refine QK ?_ GE459.out) | exact HB.out)) hb); clear HO_5; clear HO_6; clear HO_22; clear HO470; clear HO475; clear BK440; clear BK459; clear HB; revert n0_ n1_ n2_ n3_ n4_ n5_ n6_ n7_; intro HO_5 HO_6 HO_22 HO470 HO475 BK440 BK459 HB; (try clear hb); (try clear hk); (try clear hi); refine Aside0.out ?_))
              refine QY ?_
              have hcz67 := fun i => QW BK459.out i
              have hfz67 := fun i => QR BK459.out i
              have hcz68 := fun i => QW BK440.out i
              have hfz68 := fun i => QR BK440.out i
              try go_wp2_with fail
              refine bodyPost_ret (results_ct rfl _ _ gb440 26 #[.int .i64 t461,.int .i64 t464,.bool ((rdOf ByteArray.empty x6_1 2).toList != ([114,97,110,107] : List UInt8)),.bool ((rdOf ByteArray.empty x6_1 2).toList != ([115,117,105,116] : List UInt8)),.slice Ao55 t467.length co55,.slice Ao58 t472.length co58,.int .i64 t477,.int .i64 t480] (0,0) _ rfl (by (with_reducible repeat (first | refine QE ?_ _ | refine QI ?_ | refine QF ?_ _)); refine QO (cs := #[.int .i64 t461,.int .i64 t464,.bool ((rdOf ByteArray.empty x6_1 2).toList != ([114,97,110,107] : List UInt8)),.bool ((rdOf ByteArray.empty x6_1 2).toList != ([115,117,105,116] : List UInt8)),.slice Ao55 t467.length co55,.slice Ao58 t472.length co58,.int .i64 t477,.int .i64 x441007_1]) ?_ 7 _ rfl; (with_reducible repeat (first | refine QE ?_ _ | refine QI ?_ | refine QF ?_ _)); refine QO (cs := #[.int .i64 t461,.int .i64 t464,.bool ((rdOf ByteArray.empty x6_1 2).toList != ([114,97,110,107] : List UInt8)),.bool ((rdOf ByteArray.empty x6_1 2).toList != ([115,117,105,116] : List UInt8)),.slice Ao55 t467.length co55,.slice Ao58 t472.length co58,.int .i64 x441006_1,.int .i64 x441007_1]) ?_ 6 _ rfl; (with_reducible repeat (first | refine QE ?_ _ | refine QI ?_ | refine QF ?_ _)); refine QO (cs := #[.int .i64 t461,.int .i64 t464,.bool ((rdOf ByteArray.empty x6_1 2).toList != ([114,97,110,107] : List UInt8)),.bool ((rdOf ByteArray.empty x6_1 2).toList != ([115,117,105,116] : List UInt8)),.slice Ao55 t467.length co55,.slice none 0 0,.int .i64 x441006_1,.int .i64 x441007_1]) ?_ 5 _ rfl; (with_reducible repeat (first | refine QE ?_ _ | refine QI ?_ | refine QF ?_ _)); refine QO (cs := #[.int .i64 t461,.int .i64 t464,.bool ((rdOf ByteArray.empty x6_1 2).toList != ([114,97,110,107] : List UInt8)),.bool ((rdOf ByteArray.empty x6_1 2).toList != ([115,117,105,116] : List UInt8)),.slice none 0 0,.slice none 0 0,.int .i64 x441006_1,.int .i64 x441007_1]) ?_ 4 _ rfl; (with_reducible repeat (first | refine QE ?_ _ | refine QI ?_ | refine QF ?_ _)); refine QO (cs := #[.int .i64 t461,.int .i64 t464,.bool ((rdOf ByteArray.empty x6_1 2).toList != ([114,97,110,107] : List UInt8)),.bool x441003_1,.slice none 0 0,.slice none 0 0,.int .i64 x441006_1,.int .i64 x441007_1]) ?_ 3 _ rfl; (with_reducible repeat (first | refine QE ?_ _ | refine QI ?_ | refine QF ?_ _)); refine QO (cs := #[.int .i64 t461,.int .i64 t464,.bool x441002_1,.bool x441003_1,.slice none 0 0,.slice none 0 0,.int .i64 x441006_1,.int .i64 x441007_1]) ?_ 2 _ rfl; (with_reducible repeat (first | refine QE ?_ _ | refine QI ?_ | refine QF ?_ _)); refine QO (cs := #[.int .i64 t461,.int .i64 x441001_1,.bool x441002_1,.bool x441003_1,.slice none 0 0,.slice none 0 0,.int .i64 x441006_1,.int .i64 x441007_1]) ?_ 1 _ rfl; (with_reducible repeat (first | refine QE ?_ _ | refine QI ?_ | refine QF ?_ _)); refine QO (cs := #[.int .i64 x441000_1,.int .i64 x441001_1,.bool x441002_1,.bool x441003_1,.slice none 0 0,.slice none 0 0,.int .i64 x441006_1,.int .i64 x441007_1]) ?_ 0 _ rfl; (with_reducible repeat (first | refine QE ?_ _ | refine QI ?_ | refine QF ?_ _)); exact BK440.out) Tryd.underlying26 rfl (by kernel_rfl)) rfl ?_
              exact ⟨_,_,by first | rfl | (simp [errW_none,errW_some] <;> rfl) | (simp [*,errW_none,errW_some] <;> rfl),by (with_reducible repeat (first | apply QG | apply QH | apply QJ)); exact QN (QX (QX (QX (QX (QX (QX (QX (QX (QM HO470.out BK440.out (by decide)))))))))) (fun _ hk => hk.1.2),by (with_reducible repeat (first | apply QG | apply QH | apply QJ)); exact QN (QX (QX (QX (QX (QX (QX (QX (QX (QM HO475.out BK440.out (by decide)))))))))) (fun _ hk => hk.1.2),by repeat (first | (with_reducible first | exact HB.out | apply QD | apply QB | apply QC | refine QK ?_ GE440.out | refine QK ?_ GE459.out) | exact HB.out)⟩
             ·rw [if_neg c37] at H
              have c37b0 : (t483.toList == a0.toList) = false := beq_eq_false_iff_ne.mpr c37
              have c37b1 : (t483.toList != a0.toList) = true := bne_iff_ne.mpr c37
              simp only [Option.some.injEq,Prod.mk.injEq] at H
              obtain ⟨rfl,rfl,rfl,rfl,rfl,rfl,rfl,rfl,rfl⟩ := H
              (try simp only [c37b0,c37b1])
              try go_wp2_with (first | (go_at_call 9; (with_reducible refine (impl_RulesText.calls k1 t461 t464 ((rdOf ByteArray.empty x6_1 2).toList != ([114,97,110,107] : List UInt8)) ((rdOf ByteArray.empty x6_1 2).toList != ([115,117,105,116] : List UInt8)) _ _ t467 _ _ t472 t477 t480 t483 _ ?ht_ ?side1 ?side2 ?side3 ?side4 A36.out).mono ?_); (case ht_ => exact (HTAB.out.at (by repeat (first | (with_reducible first | exact HB.out | apply QD | apply QB | apply QC | refine QK ?_ GE440.out | refine QK ?_ GE459.out) | exact HB.out))).1); (case side1 => repeat (first | exact (QP HO470.out).2.2 | (with_reducible refine Kd.C_alloc ?_ _) | (with_reducible refine Kd.C_drewN ?_ _) | (with_reducible refine Kd.C_drew ?_))); (case side2 => exact (QP HO470.out).2.1); (case side3 => repeat (first | exact (QP HO475.out).2.2 | (with_reducible refine Kd.C_alloc ?_ _) | (with_reducible refine Kd.C_drewN ?_ _) | (with_reducible refine Kd.C_drew ?_))); (case side4 => exact (QP HO475.out).2.1); rintro e w97 ⟨rfl,hb⟩; have n0_ := QY (QL (by (with_reducible repeat (first | apply QG | apply QH | apply QJ)); exact HO_5.out) hb); have n1_ := QY (QL (by (with_reducible repeat (first | apply QG | apply QH | apply QJ)); exact HO_6.out) hb); have n2_ := QY (QL (by (with_reducible repeat (first | apply QG | apply QH | apply QJ)); exact HO_22.out) hb); have n3_ := QY (QL (by (with_reducible repeat (first | apply QG | apply QH | apply QJ)); exact HO470.out) hb); have n4_ := QY (QL (by (with_reducible repeat (first | apply QG | apply QH | apply QJ)); exact HO475.out) hb); have n5_ := QY (QS (g := gb440) (o := .cells #[.int .i64 x441000_1,.int .i64 x441001_1,.bool x441002_1,.bool x441003_1,.slice none 0 0,.slice none 0 0,.int .i64 x441006_1,.int .i64 x441007_1] 26 (0,0)) (by (with_reducible repeat (first | refine QE ?_ _ | refine QI ?_ | refine QF ?_ _)); exact BK440.out) hb); have n6_ := QY (QS (g := gb459) (o := .cells #[.int .i64 t461,.int .i64 t464,.bool ((rdOf ByteArray.empty x6_1 2).toList != ([114,97,110,107] : List UInt8)),.bool ((rdOf ByteArray.empty x6_1 2).toList != ([115,117,105,116] : List UInt8)),.slice Ao55 t467.length co55,.slice Ao58 t472.length co58,.int .i64 t477,.int .i64 t480] 26 (0,0)) (by (with_reducible repeat (first | refine QE ?_ _ | refine QI ?_ | refine QF ?_ _)); exact BK459.out) hb); have n7_ := QY (QU (by repeat (first | (with_reducible first | exact HB.out | apply QD | apply QB | apply QC | refine QK ?_ GE440.out | refine QK ?_ GE459.out) | exact HB.out)) hb); clear HO_5; clear HO_6; clear HO_22; clear HO470; clear HO475; clear BK440; clear BK459; clear HB; revert n0_ n1_ n2_ n3_ n4_ n5_ n6_ n7_; intro HO_5 HO_6 HO_22 HO470 HO475 BK440 BK459 HB; (try clear hb); (try clear hk); (try clear hi); refine Aside0.out ?_))
              refine QY ?_
              have hcz98 := fun i => QW BK440.out i
              have hfz98 := fun i => QR BK440.out i
              try go_wp2_with fail
              refine bodyPost_ret (results_ct rfl _ _ gb440 26 #[.int .i64 0,.int .i64 0,.bool false,.bool false,.slice none 0 0,.slice none 0 0,.int .i64 0,.int .i64 0] (0,0) _ rfl (by (with_reducible repeat (first | refine QE ?_ _ | refine QI ?_ | refine QF ?_ _)); refine QO (cs := #[.int .i64 0,.int .i64 0,.bool false,.bool false,.slice none 0 0,.slice none 0 0,.int .i64 0,.int .i64 x441007_1]) ?_ 7 _ rfl; (with_reducible repeat (first | refine QE ?_ _ | refine QI ?_ | refine QF ?_ _)); refine QO (cs := #[.int .i64 0,.int .i64 0,.bool false,.bool false,.slice none 0 0,.slice none 0 0,.int .i64 x441006_1,.int .i64 x441007_1]) ?_ 6 _ rfl; (with_reducible repeat (first | refine QE ?_ _ | refine QI ?_ | refine QF ?_ _)); refine QO (cs := #[.int .i64 0,.int .i64 0,.bool false,.bool false,.slice none 0 0,.slice none 0 0,.int .i64 x441006_1,.int .i64 x441007_1]) ?_ 5 _ rfl; (with_reducible repeat (first | refine QE ?_ _ | refine QI ?_ | refine QF ?_ _)); refine QO (cs := #[.int .i64 0,.int .i64 0,.bool false,.bool false,.slice none 0 0,.slice none 0 0,.int .i64 x441006_1,.int .i64 x441007_1]) ?_ 4 _ rfl; (with_reducible repeat (first | refine QE ?_ _ | refine QI ?_ | refine QF ?_ _)); refine QO (cs := #[.int .i64 0,.int .i64 0,.bool false,.bool x441003_1,.slice none 0 0,.slice none 0 0,.int .i64 x441006_1,.int .i64 x441007_1]) ?_ 3 _ rfl; (with_reducible repeat (first | refine QE ?_ _ | refine QI ?_ | refine QF ?_ _)); refine QO (cs := #[.int .i64 0,.int .i64 0,.bool x441002_1,.bool x441003_1,.slice none 0 0,.slice none 0 0,.int .i64 x441006_1,.int .i64 x441007_1]) ?_ 2 _ rfl; (with_reducible repeat (first | refine QE ?_ _ | refine QI ?_ | refine QF ?_ _)); refine QO (cs := #[.int .i64 0,.int .i64 x441001_1,.bool x441002_1,.bool x441003_1,.slice none 0 0,.slice none 0 0,.int .i64 x441006_1,.int .i64 x441007_1]) ?_ 1 _ rfl; (with_reducible repeat (first | refine QE ?_ _ | refine QI ?_ | refine QF ?_ _)); refine QO (cs := #[.int .i64 x441000_1,.int .i64 x441001_1,.bool x441002_1,.bool x441003_1,.slice none 0 0,.slice none 0 0,.int .i64 x441006_1,.int .i64 x441007_1]) ?_ 0 _ rfl; (with_reducible repeat (first | refine QE ?_ _ | refine QI ?_ | refine QF ?_ _)); exact BK440.out) Tryd.underlying26 rfl (by kernel_rfl)) rfl ?_
              exact ⟨_,_,by first | rfl | (simp [errW_none,errW_some] <;> rfl) | (simp [*,errW_none,errW_some] <;> rfl),by first | exact Kd.R_nil _ _ _ _ _ | exact Kd.N_nil _ _ _ _ _ | exact Kd.V_nil _ _ _ _ _ | exact Kd.Q_nil _ _ _ _ _ | exact Kd.S_nil _ _ _ _ _,by first | exact Kd.R_nil _ _ _ _ _ | exact Kd.N_nil _ _ _ _ _ | exact Kd.V_nil _ _ _ _ _ | exact Kd.Q_nil _ _ _ _ _ | exact Kd.S_nil _ _ _ _ _,by repeat (first | (with_reducible first | exact HB.out | apply QD | apply QB | apply QC | refine QK ?_ GE440.out | refine QK ?_ GE459.out) | exact HB.out)⟩
            ·replace c35 := Bool.eq_false_iff.mpr c35
             subst c35
             have H1 : (some (0,0,false,false,([] : List Int),([] : List Int),0,0,false)) = some (r1,r2,r3,r4,r5,r6,r7,r8,r9) := by rw [if_neg (show ¬ (false = true) by decide)] at H; exact H
             clear H
             have H := H1
             clear H1
             simp only [Option.some.injEq,Prod.mk.injEq] at H
             obtain ⟨rfl,rfl,rfl,rfl,rfl,rfl,rfl,rfl,rfl⟩ := H
             try go_wp2_with (first | ((with_reducible refine QT (f := 10) rfl ?_); refine goesL_ (some 104) rfl rfl Tryd.func10 (by kernel_rfl) rfl #[.agg #[.int .i64 t461,.int .i64 t464,.bool ((rdOf ByteArray.empty x6_1 2).toList != ([114,97,110,107] : List UInt8)),.bool ((rdOf ByteArray.empty x6_1 2).toList != ([115,117,105,116] : List UInt8)),.slice Ao55 t467.length co55,.slice Ao58 t472.length co58,.int .i64 t477,.int .i64 t480]] rfl (by (try simp only [List.map_toArray,List.map_cons,List.map_nil]); first | done | rfl | (simp only [List.length_drop,List.length_take]; rfl)) ?_; (with_reducible refine (impl_IsRules.calls k1 t461 t464 ((rdOf ByteArray.empty x6_1 2).toList != ([114,97,110,107] : List UInt8)) ((rdOf ByteArray.empty x6_1 2).toList != ([115,117,105,116] : List UInt8)) _ _ t467 _ _ t472 t477 t480 false _ ?side1 ?side2 ?side3 ?side4 A34.out).mono ?_); (case side1 => refine (QP (e := 3) (base := w.heap.size) (ok := fun k_ => (True ∧ some k_ ≠ (.slice Ao58 t472.length co58 : Value).ownBlock)) (n := t467.length) (c := co55) ?_).2.2; exact (by (with_reducible repeat (first | apply QG | apply QH | apply QJ)); exact (QN (QX (QM HO470.out BK459.out (by decide))) (fun _ h_ => h_.1)))); (case side2 => exact (QP HO470.out).2.1); (case side3 => refine (QP (e := 3) (base := w.heap.size) (ok := fun k_ => (True ∧ some k_ ≠ (.slice Ao55 t467.length co55 : Value).ownBlock)) (n := t472.length) (c := co58) ?_).2.2; exact (by (with_reducible repeat (first | apply QG | apply QH | apply QJ)); exact (QN (QX (QM HO475.out BK459.out (by decide))) (fun _ h_ => h_.1)))); (case side4 => exact (QP HO475.out).2.1); rintro e w125 ⟨rfl,hb⟩; refine ⟨_,rfl,?_⟩; have n0_ := QY (QL (by (with_reducible repeat (first | apply QG | apply QH | apply QJ)); exact (QN (QX (QM HO_5.out BK459.out (by decide))) (fun _ h_ => h_.1))) hb); have n1_ := QY (QL (by (with_reducible repeat (first | apply QG | apply QH | apply QJ)); exact (QN (QX (QM HO_6.out BK459.out (by decide))) (fun _ h_ => h_.1))) hb); have n2_ := QY (QL (by (with_reducible repeat (first | apply QG | apply QH | apply QJ)); exact (QN (QX (QM HO_22.out BK459.out (by decide))) (fun _ h_ => h_.1))) hb); have n3_ := QY (QL (by (with_reducible repeat (first | apply QG | apply QH | apply QJ)); exact (QN (QX (QM HO470.out BK459.out (by decide))) (fun _ h_ => h_.1))) hb); have n4_ := QY (QL (by (with_reducible repeat (first | apply QG | apply QH | apply QJ)); exact (QN (QX (QM HO475.out BK459.out (by decide))) (fun _ h_ => h_.1))) hb); have n5_ := QY (QS (g := gb440) (o := .cells #[.int .i64 x441000_1,.int .i64 x441001_1,.bool x441002_1,.bool x441003_1,.slice none 0 0,.slice none 0 0,.int .i64 x441006_1,.int .i64 x441007_1] 26 (0,0)) (by (with_reducible repeat (first | refine QE ?_ _ | refine QI ?_ | refine QF ?_ _)); refine blk_far ?_ NB440_459.out _; (with_reducible repeat (first | refine QE ?_ _ | refine QI ?_ | refine QF ?_ _)); exact BK440.out) hb); have n6_ := QY (QS (g := gb459) (o := .cells #[.int .i64 t461,.int .i64 t464,.bool ((rdOf ByteArray.empty x6_1 2).toList != ([114,97,110,107] : List UInt8)),.bool ((rdOf ByteArray.empty x6_1 2).toList != ([115,117,105,116] : List UInt8)),.slice Ao55 t467.length co55,.slice Ao58 t472.length co58,.int .i64 t477,.int .i64 t480] 26 (0,0)) (by (with_reducible repeat (first | refine QE ?_ _ | refine QI ?_ | refine QF ?_ _)); refine QO (cs := #[.int .i64 t461,.int .i64 t464,.bool ((rdOf ByteArray.empty x6_1 2).toList != ([114,97,110,107] : List UInt8)),.bool ((rdOf ByteArray.empty x6_1 2).toList != ([115,117,105,116] : List UInt8)),.slice Ao55 t467.length co55,.slice Ao58 t472.length co58,.int .i64 t477,.int .i64 0]) ?_ 7 _ rfl; (with_reducible repeat (first | refine QE ?_ _ | refine QI ?_ | refine QF ?_ _)); exact BK459.out) hb); have n7_ := QY (QU (by repeat (first | (with_reducible first | exact HB.out | apply QD | apply QB | apply QC | refine QK ?_ GE440.out | refine QK ?_ GE459.out) | exact HB.out)) hb); clear HO_5; clear HO_6; clear HO_22; clear HO470; clear HO475; clear BK440; clear BK459; clear HB; revert n0_ n1_ n2_ n3_ n4_ n5_ n6_ n7_; intro HO_5 HO_6 HO_22 HO470 HO475 BK440 BK459 HB; (try clear hb); (try clear hk); (try clear hi); refine Aside0.out ?_))
             refine QY ?_
             have hcz126 := fun i => QW BK440.out i
             have hfz126 := fun i => QR BK440.out i
             try go_wp2_with fail
             refine bodyPost_ret (results_ct rfl _ _ gb440 26 #[.int .i64 0,.int .i64 0,.bool false,.bool false,.slice none 0 0,.slice none 0 0,.int .i64 0,.int .i64 0] (0,0) _ rfl (by (with_reducible repeat (first | refine QE ?_ _ | refine QI ?_ | refine QF ?_ _)); refine QO (cs := #[.int .i64 0,.int .i64 0,.bool false,.bool false,.slice none 0 0,.slice none 0 0,.int .i64 0,.int .i64 x441007_1]) ?_ 7 _ rfl; (with_reducible repeat (first | refine QE ?_ _ | refine QI ?_ | refine QF ?_ _)); refine QO (cs := #[.int .i64 0,.int .i64 0,.bool false,.bool false,.slice none 0 0,.slice none 0 0,.int .i64 x441006_1,.int .i64 x441007_1]) ?_ 6 _ rfl; (with_reducible repeat (first | refine QE ?_ _ | refine QI ?_ | refine QF ?_ _)); refine QO (cs := #[.int .i64 0,.int .i64 0,.bool false,.bool false,.slice none 0 0,.slice none 0 0,.int .i64 x441006_1,.int .i64 x441007_1]) ?_ 5 _ rfl; (with_reducible repeat (first | refine QE ?_ _ | refine QI ?_ | refine QF ?_ _)); refine QO (cs := #[.int .i64 0,.int .i64 0,.bool false,.bool false,.slice none 0 0,.slice none 0 0,.int .i64 x441006_1,.int .i64 x441007_1]) ?_ 4 _ rfl; (with_reducible repeat (first | refine QE ?_ _ | refine QI ?_ | refine QF ?_ _)); refine QO (cs := #[.int .i64 0,.int .i64 0,.bool false,.bool x441003_1,.slice none 0 0,.slice none 0 0,.int .i64 x441006_1,.int .i64 x441007_1]) ?_ 3 _ rfl; (with_reducible repeat (first | refine QE ?_ _ | refine QI ?_ | refine QF ?_ _)); refine QO (cs := #[.int .i64 0,.int .i64 0,.bool x441002_1,.bool x441003_1,.slice none 0 0,.slice none 0 0,.int .i64 x441006_1,.int .i64 x441007_1]) ?_ 2 _ rfl; (with_reducible repeat (first | refine QE ?_ _ | refine QI ?_ | refine QF ?_ _)); refine QO (cs := #[.int .i64 0,.int .i64 x441001_1,.bool x441002_1,.bool x441003_1,.slice none 0 0,.slice none 0 0,.int .i64 x441006_1,.int .i64 x441007_1]) ?_ 1 _ rfl; (with_reducible repeat (first | refine QE ?_ _ | refine QI ?_ | refine QF ?_ _)); refine QO (cs := #[.int .i64 x441000_1,.int .i64 x441001_1,.bool x441002_1,.bool x441003_1,.slice none 0 0,.slice none 0 0,.int .i64 x441006_1,.int .i64 x441007_1]) ?_ 0 _ rfl; (with_reducible repeat (first | refine QE ?_ _ | refine QI ?_ | refine QF ?_ _)); exact BK440.out) Tryd.underlying26 rfl (by kernel_rfl)) rfl ?_
             exact ⟨_,_,by first | rfl | (simp [errW_none,errW_some] <;> rfl) | (simp [*,errW_none,errW_some] <;> rfl),by first | exact Kd.R_nil _ _ _ _ _ | exact Kd.N_nil _ _ _ _ _ | exact Kd.V_nil _ _ _ _ _ | exact Kd.Q_nil _ _ _ _ _ | exact Kd.S_nil _ _ _ _ _,by first | exact Kd.R_nil _ _ _ _ _ | exact Kd.N_nil _ _ _ _ _ | exact Kd.V_nil _ _ _ _ _ | exact Kd.Q_nil _ _ _ _ _ | exact Kd.S_nil _ _ _ _ _,by repeat (first | (with_reducible first | exact HB.out | apply QD | apply QB | apply QC | refine QK ?_ GE440.out | refine QK ?_ GE459.out) | exact HB.out)⟩
           ·rw [if_neg c32] at H
            exact absurd H (by simp)
          ·rw [if_neg c30] at H
           exact absurd H (by simp)
         ·rw [if_neg c28] at H
          exact absurd H (by simp)
        ·rw [if_neg c26] at H
         exact absurd H (by simp)
       ·rw [if_neg c24] at H
        exact absurd H (by simp)
      ·rw [if_neg c22] at H
       exact absurd H (by simp)
     ·rw [if_neg c21] at H
      exact absurd H (by simp)
 ·rw [if_neg c3] at H
  have c3b0 : ((t441.length : Int) == (y444.length : Int)) = false := beq_eq_false_iff_ne.mpr c3
  have c3b1 : ((t441.length : Int) != (y444.length : Int)) = true := bne_iff_ne.mpr c3
  have c3b2 : (t441.length == y444.length) = false := by first | simpa using c3 | (simp at c3 ⊢; omega)
  simp only [Option.some.injEq,Prod.mk.injEq] at H
  obtain ⟨rfl,rfl,rfl,rfl,rfl,rfl,rfl,rfl,rfl⟩ := H
  (try simp only [c3b0,c3b1,c3b2])
  go_wp2_with (first | ((with_reducible refine gate_dst (N := 14) rfl ?_); refine Kd.R_lit Kd.string _ 9 ?hg (N := 14) ?hd (xs := ([(⟨#[112,108,97,121,101,114,115]⟩ : ByteArray),(⟨#[101,97,99,104]⟩ : ByteArray),(⟨#[109,97,116,99,104]⟩ : ByteArray),(⟨#[119,105,108,100]⟩ : ByteArray),(⟨#[115,107,105,112]⟩ : ByteArray),(⟨#[116,97,107,101]⟩ : ByteArray),(⟨#[108,105,109,105,116]⟩ : ByteArray)] : List ByteArray)) (inner := [.string (⟨#[112,108,97,121,101,114,115]⟩ : ByteArray),.string (⟨#[101,97,99,104]⟩ : ByteArray),.string (⟨#[109,97,116,99,104]⟩ : ByteArray),.string (⟨#[119,105,108,100]⟩ : ByteArray),.string (⟨#[115,107,105,112]⟩ : ByteArray),.string (⟨#[116,97,107,101]⟩ : ByteArray),.string (⟨#[108,105,109,105,116]⟩ : ByteArray)]) (ok := fun _ => True) (okp := fun _ => True) ?hr ?hp (fun _ hk => hk) trivial (Below.refl _ _) (Nat.le_refl _) (by simp) ?_; (case hd => rfl); (case hg => rfl); (case hr => first | (go_simp; done) | (go_simp; rfl)); (case hp => exact (Reps.one (show Kd.M Kd.string _ _ _ (⟨#[112,108,97,121,101,114,115]⟩ : ByteArray) [.string (⟨#[112,108,97,121,101,114,115]⟩ : ByteArray)] from rfl) (Reps.one (show Kd.M Kd.string _ _ _ (⟨#[101,97,99,104]⟩ : ByteArray) [.string (⟨#[101,97,99,104]⟩ : ByteArray)] from rfl) (Reps.one (show Kd.M Kd.string _ _ _ (⟨#[109,97,116,99,104]⟩ : ByteArray) [.string (⟨#[109,97,116,99,104]⟩ : ByteArray)] from rfl) (Reps.one (show Kd.M Kd.string _ _ _ (⟨#[119,105,108,100]⟩ : ByteArray) [.string (⟨#[119,105,108,100]⟩ : ByteArray)] from rfl) (Reps.one (show Kd.M Kd.string _ _ _ (⟨#[115,107,105,112]⟩ : ByteArray) [.string (⟨#[115,107,105,112]⟩ : ByteArray)] from rfl) (Reps.one (show Kd.M Kd.string _ _ _ (⟨#[116,97,107,101]⟩ : ByteArray) [.string (⟨#[116,97,107,101]⟩ : ByteArray)] from rfl) (Reps.one (show Kd.M Kd.string _ _ _ (⟨#[108,105,109,105,116]⟩ : ByteArray) [.string (⟨#[108,105,109,105,116]⟩ : ByteArray)] from rfl) (Reps.none _ _))))))))); intro v445 w129 ho130 hb hg_ hnew_; clear hg_ hnew_; (first | rw [← Ny444.out] at ho130 | (simp only [Int.reduceToNat] at ho130; rw [← Ny444.out] at ho130)); have n0_ := QY (Kd.R_elder' (by (with_reducible repeat (first | apply QG | apply QH | apply QJ)); exact HO443.out) (Kd.R_base ho130) hb); have n1_ := QY (Kd.R_lower (Kd.R_new' ho130 (Kd.R_lt (by (with_reducible repeat (first | apply QG | apply QH | apply QJ)); exact HO443.out))) (QV (by repeat (first | (with_reducible first | exact HB.out | apply QD | apply QB | apply QC | refine QK ?_ GE440.out) | exact HB.out)))); have n2_ := QY (QS (g := gb440) (o := .cells #[.int .i64 0,.int .i64 0,.bool false,.bool false,.slice none 0 0,.slice none 0 0,.int .i64 0,.int .i64 0] 26 (0,0)) (by (with_reducible repeat (first | refine QE ?_ _ | refine QI ?_ | refine QF ?_ _)); exact BK440.out) hb); have n3_ := QY (QU (by repeat (first | (with_reducible first | exact HB.out | apply QD | apply QB | apply QC | refine QK ?_ GE440.out) | exact HB.out)) hb); clear HO443; clear BK440; clear HB; revert n0_ n1_ n2_ n3_; intro HO443 HO446 BK440 HB; clear hb ho130; obtain ⟨Ao131,co131,eo131⟩ := Kd.R_slice HO443.out; subst eo131; obtain ⟨Ao132,co132,eo132⟩ := Kd.R_slice HO446.out; subst eo132; have hcz133 := fun i => QW BK440.out i; have hfz133 := fun i => QR BK440.out i))
  refine bodyPost_ret (results_ct rfl _ _ gb440 26 #[.int .i64 0,.int .i64 0,.bool false,.bool false,.slice none 0 0,.slice none 0 0,.int .i64 0,.int .i64 0] (0,0) _ rfl (by (with_reducible repeat (first | refine QE ?_ _ | refine QI ?_ | refine QF ?_ _)); refine QO (cs := #[.int .i64 0,.int .i64 0,.bool false,.bool false,.slice none 0 0,.slice none 0 0,.int .i64 0,.int .i64 0]) ?_ 7 _ rfl; (with_reducible repeat (first | refine QE ?_ _ | refine QI ?_ | refine QF ?_ _)); refine QO (cs := #[.int .i64 0,.int .i64 0,.bool false,.bool false,.slice none 0 0,.slice none 0 0,.int .i64 0,.int .i64 0]) ?_ 6 _ rfl; (with_reducible repeat (first | refine QE ?_ _ | refine QI ?_ | refine QF ?_ _)); refine QO (cs := #[.int .i64 0,.int .i64 0,.bool false,.bool false,.slice none 0 0,.slice none 0 0,.int .i64 0,.int .i64 0]) ?_ 5 _ rfl; (with_reducible repeat (first | refine QE ?_ _ | refine QI ?_ | refine QF ?_ _)); refine QO (cs := #[.int .i64 0,.int .i64 0,.bool false,.bool false,.slice none 0 0,.slice none 0 0,.int .i64 0,.int .i64 0]) ?_ 4 _ rfl; (with_reducible repeat (first | refine QE ?_ _ | refine QI ?_ | refine QF ?_ _)); refine QO (cs := #[.int .i64 0,.int .i64 0,.bool false,.bool false,.slice none 0 0,.slice none 0 0,.int .i64 0,.int .i64 0]) ?_ 3 _ rfl; (with_reducible repeat (first | refine QE ?_ _ | refine QI ?_ | refine QF ?_ _)); refine QO (cs := #[.int .i64 0,.int .i64 0,.bool false,.bool false,.slice none 0 0,.slice none 0 0,.int .i64 0,.int .i64 0]) ?_ 2 _ rfl; (with_reducible repeat (first | refine QE ?_ _ | refine QI ?_ | refine QF ?_ _)); refine QO (cs := #[.int .i64 0,.int .i64 0,.bool false,.bool false,.slice none 0 0,.slice none 0 0,.int .i64 0,.int .i64 0]) ?_ 1 _ rfl; (with_reducible repeat (first | refine QE ?_ _ | refine QI ?_ | refine QF ?_ _)); refine QO (cs := #[.int .i64 0,.int .i64 0,.bool false,.bool false,.slice none 0 0,.slice none 0 0,.int .i64 0,.int .i64 0]) ?_ 0 _ rfl; (with_reducible repeat (first | refine QE ?_ _ | refine QI ?_ | refine QF ?_ _)); exact BK440.out) Tryd.underlying26 rfl (by kernel_rfl)) rfl ?_
  exact ⟨_,_,by first | rfl | (simp [errW_none,errW_some] <;> rfl) | (simp [*,errW_none,errW_some] <;> rfl),by first | exact Kd.R_nil _ _ _ _ _ | exact Kd.N_nil _ _ _ _ _ | exact Kd.V_nil _ _ _ _ _ | exact Kd.Q_nil _ _ _ _ _ | exact Kd.S_nil _ _ _ _ _,by first | exact Kd.R_nil _ _ _ _ _ | exact Kd.N_nil _ _ _ _ _ | exact Kd.V_nil _ _ _ _ _ | exact Kd.Q_nil _ _ _ _ _ | exact Kd.S_nil _ _ _ _ _,by repeat (first | (with_reducible first | exact HB.out | apply QD | apply QB | apply QC | refine QK ?_ GE440.out) | exact HB.out)⟩

/-! ### impl_EqualInts: function 33 -/
def impl_EqualInts.l0 : Nat → List Int → List Int → Int → Int → Option (Bool)
 | 0,_,_,_,_ => none
 | k + 1,x0,x1,x12,x13 => if x13 < x12 then (if 0 ≤ x13 then (if x13 < (x0.length : Int) then (if x13 < (x1.length : Int) then (if (rd x0 x13) = (rd x1 x13) then (impl_EqualInts.l0 k x0 x1 x12 (wrap64 (x13 + 1))) else (some false)) else (none)) else (none)) else (none)) else (some true)
def impl_EqualInts.f (k : Nat) (l0 : List Int) (l1 : List Int) : Option (Bool) := if (l0.length : Int) = (l1.length : Int) then (impl_EqualInts.l0 k l0 l1 (l0.length : Int) 0) else (some false)
theorem impl_EqualInts.mono_l : ∀ k, (∀ y0 y1 y2 y3, LeO (impl_EqualInts.l0 k y0 y1 y2 y3) (impl_EqualInts.l0 (k + 1) y0 y1 y2 y3))
 | 0 => fun _ _ _ _ r h => by simp [impl_EqualInts.l0] at h
 | k + 1 => by
  have ih0 := impl_EqualInts.mono_l k
  ·intro y0 y1 y2 y3
   unfold impl_EqualInts.l0
   repeat' first
   | (with_reducible exact ih0 _ _ _ _)
   | (with_reducible exact LeO.refl _)
   | (with_reducible exact LeO.none _)
   | (with_reducible refine LeO.ite ?_ ?_)
   | (with_reducible refine LeO.bind ?_ (fun _ => ?_))
   | exact ih0 _ _ _ _
   | exact LeO.none _
   | refine LeO.ite ?_ ?_
   | refine LeO.bind ?_ (fun _ => ?_)
theorem impl_EqualInts.mono : ∀ a0 a1 k, LeO (impl_EqualInts.f k a0 a1) (impl_EqualInts.f (k + 1) a0 a1) := by
 intro a0 a1 k
 have ih0 := impl_EqualInts.mono_l k
 unfold impl_EqualInts.f
 repeat' first
   | (with_reducible exact ih0 _ _ _ _)
   | (with_reducible exact LeO.refl _)
   | (with_reducible exact LeO.none _)
   | (with_reducible refine LeO.ite ?_ ?_)
   | (with_reducible refine LeO.bind ?_ (fun _ => ?_))
   | exact ih0 _ _ _ _
   | exact LeO.none _
   | refine LeO.ite ?_ ?_
   | refine LeO.bind ?_ (fun _ => ?_)
set_option maxHeartbeats 8000000 in
set_option maxRecDepth 100000 in
theorem impl_EqualInts.calls (k : Nat) (A0 : Option Addr) (c0 : Nat) (l0 : List Int) (A1 : Option Addr) (c1 : Nat) (l1 : List Int) (r : Bool) (w : World) (hr0 : Kd.C (Kd.int .i64) w A0 l0.length l0) (hc0 : l0.length ≤ c0) (hr1 : Kd.C (Kd.int .i64) w A1 l1.length l1) (hc1 : l1.length ≤ c1) (h : impl_EqualInts.f k l0 l1 = some r) :
  Calls Tryd.prog 33 #[.slice A0 l0.length c0,.slice A1 l1.length c1] w fun e w' => e = .returned (.bool r) ∧ Drawn0 w w' := by
 have HR0 := QY hr0
 have HC0 := QY hc0
 clear hr0 hc0
 have HR1 := QY hr1
 have HC1 := QY hc1
 clear hr1 hc1
 have H : (if (l0.length : Int) = (l1.length : Int) then (impl_EqualInts.l0 k l0 l1 (l0.length : Int) 0) else (some false)) = some r := h
 clear h
 by_cases c3 : (l0.length : Int) = (l1.length : Int)
 ·rw [if_pos c3] at H
  have c3b0 : ((l0.length : Int) == (l1.length : Int)) = true := beq_iff_eq.mpr c3
  have c3b1 : ((l0.length : Int) != (l1.length : Int)) = false := bne_eq_false_iff_eq.mpr c3
  have c3b2 : (l0.length == l1.length) = true := by first | simpa using c3 | (simp at c3 ⊢; omega)
  clear c3
  have H' := QY H
  clear H
  go_enter Tryd.func33,Tryd.ntmps33
  go_wp2
  repeat (go_quiet (fail); try go_wp2)
  go_loopg [13] k (fun kq v13 w' => ∃ (x13_1 : Int),v13 = .int .i64 x13_1 ∧ Aside0 (impl_EqualInts.l0 kq l0 l1 (l0.length : Int) x13_1 = some r) ∧ Aside0 (kq ≤ k) ∧ Drawn0 w w')
  case atStart => exact ⟨(0),(by first | rfl | (simp; done) | (simp [*]; done)),H',⟨Nat.le_refl _⟩,by repeat (first | exact Drawn0.refl _ | apply Drawn0.step)⟩
  case round =>
   clear H'
   try clear c1
   try clear c3
   try clear c3b0
   try clear c3b1
   try clear c3b2
   obtain ⟨x13_1,rfl,HA,HK1,⟨m1,rfl⟩⟩ := hrel
   cases gk with
   | zero => exact absurd HA.out (by simp [impl_EqualInts.l0])
   | succ k1 =>
    have H := HA.out
    clear HA
    simp only [impl_EqualInts.l0] at H
    by_cases c4 : x13_1 < (l0.length : Int)
    ·rw [if_pos c4] at H
     have c4b0 : decide (x13_1 < (l0.length : Int)) = true := decide_eq_true c4
     clear c4
     by_cases c5 : 0 ≤ x13_1
     ·rw [if_pos c5] at H
      have c5b0 : decide (0 ≤ x13_1) = true := decide_eq_true c5
      clear c5
      by_cases c6 : x13_1 < (l0.length : Int)
      ·rw [if_pos c6] at H
       have c6b0 : decide (x13_1 < (l0.length : Int)) = true := decide_eq_true c6
       clear c6
       by_cases c7 : x13_1 < (l1.length : Int)
       ·rw [if_pos c7] at H
        have c7b0 : decide (x13_1 < (l1.length : Int)) = true := decide_eq_true c7
        clear c7
        by_cases c8 : (rd l0 x13_1) = (rd l1 x13_1)
        ·rw [if_pos c8] at H
         have c8b0 : ((rd l0 x13_1) == (rd l1 x13_1)) = true := beq_iff_eq.mpr c8
         have c8b1 : ((rd l0 x13_1) != (rd l1 x13_1)) = false := bne_eq_false_iff_eq.mpr c8
         clear c8
         have H' := QY H
         clear H
         have p484 : 0 ≤ (x13_1 : Int) := of_decide_eq_true (by first | (with_reducible assumption) | assumption)
         have q484 : x13_1 < (l0.length : Int) := of_decide_eq_true (by first | (with_reducible assumption) | assumption)
         obtain ⟨ad484,e484,hx484_0⟩ := Kd.at_int HR0.out x13_1 p484 q484
         cases e484
         replace p484 := eq_true p484
         replace q484 := eq_true q484
         have p485 : 0 ≤ (x13_1 : Int) := of_decide_eq_true (by first | (with_reducible assumption) | assumption)
         have q485 : x13_1 < (l1.length : Int) := of_decide_eq_true (by first | (with_reducible assumption) | assumption)
         obtain ⟨ad485,e485,hx485_0⟩ := Kd.at_int HR1.out x13_1 p485 q485
         cases e485
         replace p485 := eq_true p485
         replace q485 := eq_true q485
         go_wp2
         repeat (go_quiet (fail); try go_wp2)
         go_roundg k1
         case measure => have := HK1.out; omega
         case rel => exact ⟨(wrap64 (x13_1 + 1)),(by first | rfl | (simp; done) | (simp [*]; done)),H',⟨by have := HK1.out; omega⟩,by repeat (first | exact Drawn0.refl _ | apply Drawn0.step)⟩
        ·rw [if_neg c8] at H
         have c8b0 : ((rd l0 x13_1) == (rd l1 x13_1)) = false := beq_eq_false_iff_ne.mpr c8
         have c8b1 : ((rd l0 x13_1) != (rd l1 x13_1)) = true := bne_iff_ne.mpr c8
         obtain rfl := Option.some.inj H
         have p484 : 0 ≤ (x13_1 : Int) := of_decide_eq_true (by first | (with_reducible assumption) | assumption)
         have q484 : x13_1 < (l0.length : Int) := of_decide_eq_true (by first | (with_reducible assumption) | assumption)
         obtain ⟨ad484,e484,hx484_0⟩ := Kd.at_int HR0.out x13_1 p484 q484
         cases e484
         replace p484 := eq_true p484
         replace q484 := eq_true q484
         have p485 : 0 ≤ (x13_1 : Int) := of_decide_eq_true (by first | (with_reducible assumption) | assumption)
         have q485 : x13_1 < (l1.length : Int) := of_decide_eq_true (by first | (with_reducible assumption) | assumption)
         obtain ⟨ad485,e485,hx485_0⟩ := Kd.at_int HR1.out x13_1 p485 q485
         cases e485
         replace p485 := eq_true p485
         replace q485 := eq_true q485
         go_wp2
         repeat (go_quiet (fail); try go_wp2)
         go_ret
         exact ⟨by first | rfl | (simp; done) | (simp [*]; done),by repeat (first | exact Drawn0.refl _ | apply Drawn0.step)⟩
       ·rw [if_neg c7] at H
        exact absurd H (by simp)
      ·rw [if_neg c6] at H
       exact absurd H (by simp)
     ·rw [if_neg c5] at H
      exact absurd H (by simp)
    ·rw [if_neg c4] at H
     have c4b0 : decide (x13_1 < (l0.length : Int)) = false := decide_eq_false c4
     clear c4
     obtain rfl := Option.some.inj H
     go_wp2
     repeat (go_quiet (fail); try go_wp2)
     go_ret
     exact ⟨by first | rfl | (simp; done) | (simp [*]; done),by repeat (first | exact Drawn0.refl _ | apply Drawn0.step)⟩
 ·rw [if_neg c3] at H
  have c3b0 : ((l0.length : Int) == (l1.length : Int)) = false := beq_eq_false_iff_ne.mpr c3
  have c3b1 : ((l0.length : Int) != (l1.length : Int)) = true := bne_iff_ne.mpr c3
  have c3b2 : (l0.length == l1.length) = false := by first | simpa using c3 | (simp at c3 ⊢; omega)
  obtain rfl := Option.some.inj H
  go_enter Tryd.func33,Tryd.ntmps33
  go_wp2
  repeat (go_quiet (fail); try go_wp2)
  go_ret
  exact ⟨by first | rfl | (simp; done) | (simp [*]; done),by repeat (first | exact Drawn0.refl _ | apply Drawn0.step)⟩

/-! ### impl_EqualRules: function 11 -/
def impl_EqualRules.f (k : Nat) (a0_0 : Int) (a0_1 : Int) (a0_2 : Bool) (a0_3 : Bool) (l0_4 : List Int) (l0_5 : List Int) (a0_6 : Int) (a0_7 : Int) (a1_0 : Int) (a1_1 : Int) (a1_2 : Bool) (a1_3 : Bool) (l1_4 : List Int) (l1_5 : List Int) (a1_6 : Int) (a1_7 : Int) : Option (Bool) := if a0_0 = a1_0 then (if a0_1 = a1_1 then (if (a0_2 == a1_2) = true then (if (a0_3 == a1_3) = true then (if a0_6 = a1_6 then (if a0_7 = a1_7 then ((impl_EqualInts.f k l0_4 l1_4).bind fun t488 => (if t488 = true then ((impl_EqualInts.f k l0_5 l1_5).bind fun t489 => (some t489)) else (some false))) else (some false)) else (some false)) else (some false)) else (some false)) else (some false)) else (some false)
theorem impl_EqualRules.mono : ∀ a0 a1 a2 a3 a4 a5 a6 a7 a8 a9 a10 a11 a12 a13 a14 a15 k, LeO (impl_EqualRules.f k a0 a1 a2 a3 a4 a5 a6 a7 a8 a9 a10 a11 a12 a13 a14 a15) (impl_EqualRules.f (k + 1) a0 a1 a2 a3 a4 a5 a6 a7 a8 a9 a10 a11 a12 a13 a14 a15) := by
 intro a0 a1 a2 a3 a4 a5 a6 a7 a8 a9 a10 a11 a12 a13 a14 a15 k
 unfold impl_EqualRules.f
 repeat' first
   | (with_reducible exact impl_EqualInts.mono _ _ _)
   | (with_reducible exact LeO.refl _)
   | (with_reducible exact LeO.none _)
   | (with_reducible refine LeO.ite ?_ ?_)
   | (with_reducible refine LeO.bind ?_ (fun _ => ?_))
   | exact impl_EqualInts.mono _ _ _
   | exact LeO.none _
   | refine LeO.ite ?_ ?_
   | refine LeO.bind ?_ (fun _ => ?_)
set_option maxHeartbeats 8000000 in
set_option maxRecDepth 100000 in
theorem impl_EqualRules.calls (k : Nat) (a0_0 : Int) (a0_1 : Int) (a0_2 : Bool) (a0_3 : Bool) (A0_4 : Option Addr) (c0_4 : Nat) (l0_4 : List Int) (A0_5 : Option Addr) (c0_5 : Nat) (l0_5 : List Int) (a0_6 : Int) (a0_7 : Int) (a1_0 : Int) (a1_1 : Int) (a1_2 : Bool) (a1_3 : Bool) (A1_4 : Option Addr) (c1_4 : Nat) (l1_4 : List Int) (A1_5 : Option Addr) (c1_5 : Nat) (l1_5 : List Int) (a1_6 : Int) (a1_7 : Int) (r : Bool) (w : World) (hr0_4 : Kd.C (Kd.int .i64) w A0_4 l0_4.length l0_4) (hc0_4 : l0_4.length ≤ c0_4) (hr0_5 : Kd.C (Kd.int .i64) w A0_5 l0_5.length l0_5) (hc0_5 : l0_5.length ≤ c0_5) (hr1_4 : Kd.C (Kd.int .i64) w A1_4 l1_4.length l1_4) (hc1_4 : l1_4.length ≤ c1_4) (hr1_5 : Kd.C (Kd.int .i64) w A1_5 l1_5.length l1_5) (hc1_5 : l1_5.length ≤ c1_5) (h : impl_EqualRules.f k a0_0 a0_1 a0_2 a0_3 l0_4 l0_5 a0_6 a0_7 a1_0 a1_1 a1_2 a1_3 l1_4 l1_5 a1_6 a1_7 = some r) :
  Calls Tryd.prog 11 #[.agg #[.int .i64 a0_0,.int .i64 a0_1,.bool a0_2,.bool a0_3,.slice A0_4 l0_4.length c0_4,.slice A0_5 l0_5.length c0_5,.int .i64 a0_6,.int .i64 a0_7],.agg #[.int .i64 a1_0,.int .i64 a1_1,.bool a1_2,.bool a1_3,.slice A1_4 l1_4.length c1_4,.slice A1_5 l1_5.length c1_5,.int .i64 a1_6,.int .i64 a1_7]] w fun e w' => e = .returned (.bool r) ∧ Below w.heap.size w w' := by
 have hu26 := Tryd.underlying26
 have HR0_4 := QY hr0_4
 have HC0_4 := QY hc0_4
 clear hr0_4 hc0_4
 have HR0_5 := QY hr0_5
 have HC0_5 := QY hc0_5
 clear hr0_5 hc0_5
 have HR1_4 := QY hr1_4
 have HC1_4 := QY hc1_4
 clear hr1_4 hc1_4
 have HR1_5 := QY hr1_5
 have HC1_5 := QY hc1_5
 clear hr1_5 hc1_5
 have HB := QY (Below.refl w.heap.size w)
 have H : (if a0_0 = a1_0 then (if a0_1 = a1_1 then (if (a0_2 == a1_2) = true then (if (a0_3 == a1_3) = true then (if a0_6 = a1_6 then (if a0_7 = a1_7 then ((impl_EqualInts.f k l0_4 l1_4).bind fun t488 => (if t488 = true then ((impl_EqualInts.f k l0_5 l1_5).bind fun t489 => (some t489)) else (some false))) else (some false)) else (some false)) else (some false)) else (some false)) else (some false)) else (some false)) = some r := h
 clear h
 by_cases c3 : a0_0 = a1_0
 rotate_left
 rw [if_neg c3] at H
 have c3b0 : (a0_0 == a1_0) = false := beq_eq_false_iff_ne.mpr c3
 have c3b1 : (a0_0 != a1_0) = true := bne_iff_ne.mpr c3
 obtain rfl := Option.some.inj H
 rotate_right
 rw [if_pos c3] at H
 have c3b0 : (a0_0 == a1_0) = true := beq_iff_eq.mpr c3
 have c3b1 : (a0_0 != a1_0) = false := bne_eq_false_iff_eq.mpr c3
 clear c3
 by_cases c4 : a0_1 = a1_1
 rotate_left
 rw [if_neg c4] at H
 have c4b0 : (a0_1 == a1_1) = false := beq_eq_false_iff_ne.mpr c4
 have c4b1 : (a0_1 != a1_1) = true := bne_iff_ne.mpr c4
 obtain rfl := Option.some.inj H
 rotate_right
 rw [if_pos c4] at H
 have c4b0 : (a0_1 == a1_1) = true := beq_iff_eq.mpr c4
 have c4b1 : (a0_1 != a1_1) = false := bne_eq_false_iff_eq.mpr c4
 clear c4
 by_cases c5 : (a0_2 == a1_2) = true
 rotate_left
 rw [if_neg c5] at H
 have c5b0 : (a0_2 == a1_2) = false := by simpa using c5
 (try (have c5b1 : decide (a0_2 = a1_2) = false := by simpa using c5))
 (try (have c5b2 : (a0_2 == a1_2) = false := by simpa using c5))
 (try (have c5b3 : ¬ (a0_2 = a1_2) := by simpa using c5))
 clear c5
 obtain rfl := Option.some.inj H
 rotate_right
 rw [if_pos c5] at H
 have c5b0 : (a0_2 == a1_2) = true := c5
 (try (have c5b1 : decide (a0_2 = a1_2) = true := by simpa using c5))
 (try (have c5b2 : (a0_2 == a1_2) = true := by simpa using c5))
 clear c5
 by_cases c6 : (a0_3 == a1_3) = true
 rotate_left
 rw [if_neg c6] at H
 have c6b0 : (a0_3 == a1_3) = false := by simpa using c6
 (try (have c6b1 : decide (a0_3 = a1_3) = false := by simpa using c6))
 (try (have c6b2 : (a0_3 == a1_3) = false := by simpa using c6))
 (try (have c6b3 : ¬ (a0_3 = a1_3) := by simpa using c6))
 clear c6
 obtain rfl := Option.some.inj H
 rotate_right
 rw [if_pos c6] at H
 have c6b0 : (a0_3 == a1_3) = true := c6
 (try (have c6b1 : decide (a0_3 = a1_3) = true := by simpa using c6))
 (try (have c6b2 : (a0_3 == a1_3) = true := by simpa using c6))
 clear c6
 by_cases c7 : a0_6 = a1_6
 rotate_left
 rw [if_neg c7] at H
 have c7b0 : (a0_6 == a1_6) = false := beq_eq_false_iff_ne.mpr c7
 have c7b1 : (a0_6 != a1_6) = true := bne_iff_ne.mpr c7
 obtain rfl := Option.some.inj H
 rotate_right
 rw [if_pos c7] at H
 have c7b0 : (a0_6 == a1_6) = true := beq_iff_eq.mpr c7
 have c7b1 : (a0_6 != a1_6) = false := bne_eq_false_iff_eq.mpr c7
 clear c7
 by_cases c8 : a0_7 = a1_7
 rotate_left
 rw [if_neg c8] at H
 have c8b0 : (a0_7 == a1_7) = false := beq_eq_false_iff_ne.mpr c8
 have c8b1 : (a0_7 != a1_7) = true := bne_iff_ne.mpr c8
 obtain rfl := Option.some.inj H
 rotate_right
 rw [if_pos c8] at H
 have c8b0 : (a0_7 == a1_7) = true := beq_iff_eq.mpr c8
 have c8b1 : (a0_7 != a1_7) = false := bne_eq_false_iff_eq.mpr c8
 clear c8
 replace H := QZ.mp H
 obtain ⟨t488,A90,H⟩ := H
 have A9 := QY A90
 clear A90
 by_cases c10 : t488 = true
 rotate_left
 replace c10 := Bool.eq_false_iff.mpr c10
 subst c10
 rw [if_neg (show ¬ (false = true) by decide)] at H
 obtain rfl := Option.some.inj H
 rotate_right
 subst c10
 rw [if_pos rfl] at H
 replace H := QZ.mp H
 obtain ⟨t489,A110,H⟩ := H
 have A11 := QY A110
 clear A110
 obtain rfl := Option.some.inj H
 all_goals
  go_enter Tryd.func11,Tryd.ntmps11
  go_wp2_with (first | ((with_reducible refine gate_dst (N := 2) rfl ?_); refine box_event ?hg (N := 2) ?hd (cs := #[.int .i64 a0_0,.int .i64 a0_1,.bool a0_2,.bool a0_3,.slice A0_4 l0_4.length c0_4,.slice A0_5 l0_5.length c0_5,.int .i64 a0_6,.int .i64 a0_7]) (t := 26) ?hr ?_; (case hd => rfl); (case hg => rfl); (case hr => first | (go_simp; done) | (go_simp; rfl)); intro gb486 hg w12 hbox hb; have n0_ := QY (QU (by repeat (first | (with_reducible first | exact HB.out | apply QD | apply QB | apply QC) | exact HB.out)) hb); have n1_ := QY (hbox); have n2_ := QY ((by rw [hg]; exact (QV (by repeat (first | (with_reducible first | exact HB.out | apply QD | apply QB | apply QC) | exact HB.out))) : w.heap.size ≤ gb486)); have n3_ := QY ((by rw [hg]; exact (QV (by repeat (first | (with_reducible first | exact HB.out | apply QD | apply QB | apply QC) | exact HB.out))) : w.heap.size ≤ gb486)); clear HB; revert n0_ n1_ n2_ n3_; intro HB BK486 GW486 GE486; clear hb hbox hg) | ((with_reducible refine gate_dst (N := 3) rfl ?_); refine box_event ?hg (N := 3) ?hd (cs := #[.int .i64 a1_0,.int .i64 a1_1,.bool a1_2,.bool a1_3,.slice A1_4 l1_4.length c1_4,.slice A1_5 l1_5.length c1_5,.int .i64 a1_6,.int .i64 a1_7]) (t := 26) ?hr ?_; (case hd => rfl); (case hg => rfl); (case hr => first | (go_simp; done) | (go_simp; rfl)); intro gb487 hg w13 hbox hb; have n0_ := QY (QS (g := gb486) (o := _) (by (with_reducible repeat (first | refine QE ?_ _ | refine QI ?_ | refine QF ?_ _)); exact BK486.out) hb); have n1_ := QY (QU (by repeat (first | (with_reducible first | exact HB.out | apply QD | apply QB | apply QC | refine QK ?_ GE486.out) | exact HB.out)) hb); have n2_ := QY (hbox); have n3_ := QY ((by rw [hg]; exact (QV (by repeat (first | (with_reducible first | exact HB.out | apply QD | apply QB | apply QC | refine QK ?_ GE486.out) | exact HB.out))) : w.heap.size ≤ gb487)); have n4_ := QY ((by rw [hg]; exact (QV (by repeat (first | (with_reducible first | exact HB.out | apply QD | apply QB | apply QC | refine QK ?_ GE486.out) | exact HB.out))) : w.heap.size ≤ gb487)); have n5_ := QY ((by rw [hg]; exact Nat.ne_of_lt (blk_lt (g := gb486) (o := _) (by (with_reducible repeat (first | refine QE ?_ _ | refine QI ?_ | refine QF ?_ _)); exact BK486.out)) : gb486 ≠ gb487)); have n6_ := QY ((by rw [hg]; exact Nat.ne_of_gt (blk_lt (g := gb486) (o := _) (by (with_reducible repeat (first | refine QE ?_ _ | refine QI ?_ | refine QF ?_ _)); exact BK486.out)) : gb487 ≠ gb486)); clear BK486; clear HB; revert n0_ n1_ n2_ n3_ n4_ n5_ n6_; intro BK486 HB BK487 GW487 GE487 NB486_487 NB487_486; clear hb hbox hg; have hnb14 := NB486_487.out; have hnc14 := NB487_486.out; have hcz15 := fun i => QW BK486.out i; have hfz15 := fun i => QR BK486.out i; have hcz16 := fun i => QW BK487.out i; have hfz16 := fun i => QR BK487.out i) | (go_at_call 33; (with_reducible refine (impl_EqualInts.calls k _ _ l0_4 _ _ l1_4 _ _ ?side1 ?side2 ?side3 ?side4 A9.out).mono ?_); (case side1 => repeat (first | exact (Kd.C_below HR0_4.out HB.out) | (with_reducible refine Kd.C_alloc ?_ _) | (with_reducible refine Kd.C_drewN ?_ _) | (with_reducible refine Kd.C_drew ?_))); (case side2 => exact HC0_4.out); (case side3 => repeat (first | exact (Kd.C_below HR1_4.out HB.out) | (with_reducible refine Kd.C_alloc ?_ _) | (with_reducible refine Kd.C_drewN ?_ _) | (with_reducible refine Kd.C_drew ?_))); (case side4 => exact HC1_4.out); rintro e w' ⟨rfl,⟨nd,rfl⟩⟩) | (go_at_call 33; (with_reducible refine (impl_EqualInts.calls k _ _ l0_5 _ _ l1_5 t489 _ ?side1 ?side2 ?side3 ?side4 A11.out).mono ?_); (case side1 => repeat (first | exact (Kd.C_below HR0_5.out (by repeat (first | (with_reducible first | exact HB.out | apply QD | apply QB | apply QC | refine QK ?_ GE486.out | refine QK ?_ GE487.out) | exact HB.out))) | (with_reducible refine Kd.C_alloc ?_ _) | (with_reducible refine Kd.C_drewN ?_ _) | (with_reducible refine Kd.C_drew ?_))); (case side2 => exact HC0_5.out); (case side3 => repeat (first | exact (Kd.C_below HR1_5.out (by repeat (first | (with_reducible first | exact HB.out | apply QD | apply QB | apply QC | refine QK ?_ GE486.out | refine QK ?_ GE487.out) | exact HB.out))) | (with_reducible refine Kd.C_alloc ?_ _) | (with_reducible refine Kd.C_drewN ?_ _) | (with_reducible refine Kd.C_drew ?_))); (case side4 => exact HC1_5.out); rintro e w' ⟨rfl,⟨nd,rfl⟩⟩))
  go_ret
  exact ⟨by first | rfl | (simp [errW_none,errW_some] <;> rfl) | (simp [*,errW_none,errW_some] <;> rfl),by repeat (first | (with_reducible first | exact HB.out | apply QD | apply QB | apply QC | refine QK ?_ GE486.out | refine QK ?_ GE487.out) | exact HB.out)⟩

/-! ### spec_l1In: function 66 -/
def spec_l1In.f (a0 : Int) (a1 : Int) (a2 : Int) : Option (Bool) := if a0 ≥ a1 then (some (decide (a0 ≤ a2))) else (some false)
set_option maxHeartbeats 8000000 in
set_option maxRecDepth 100000 in
theorem spec_l1In.calls (a0 : Int) (a1 : Int) (a2 : Int) (r : Bool) (w : World) (h : spec_l1In.f a0 a1 a2 = some r) :
  Calls Tryd.prog 66 #[.int .i64 a0,.int .i64 a1,.int .i64 a2] w fun e w' => e = .returned (.bool r) ∧ Drawn0 w w' := by
 have H : (if a0 ≥ a1 then (some (decide (a0 ≤ a2))) else (some false)) = some r := h
 clear h
 by_cases c4 : a0 ≥ a1
 ·rw [if_pos c4] at H
  have c4b0 : decide (a1 ≤ a0) = true := decide_eq_true c4
  clear c4
  obtain rfl := Option.some.inj H
  go_enter Tryd.func66,Tryd.ntmps66
  go_wp2
  go_ret
  exact ⟨by first | rfl | (simp; done) | (simp [*]; done),by repeat (first | exact Drawn0.refl _ | apply Drawn0.step)⟩
 ·rw [if_neg c4] at H
  have c4b0 : decide (a1 ≤ a0) = false := decide_eq_false c4
  clear c4
  obtain rfl := Option.some.inj H
  go_enter Tryd.func66,Tryd.ntmps66
  go_wp2
  go_ret
  exact ⟨by first | rfl | (simp; done) | (simp [*]; done),by repeat (first | exact Drawn0.refl _ | apply Drawn0.step)⟩

/-! ### spec_l8Leaf: function 96 -/
def spec_l8Leaf.f (a0 : Int) : Option (Bool) := (spec_l1In.f a0 100 103).bind fun t490 => (if t490 = true then (some true) else ((spec_l1In.f a0 200 212).bind fun t491 => (if t491 = true then (some true) else ((spec_l1In.f a0 300 312).bind fun t492 => (if t492 = true then (some true) else (some (a0 == 400)))))))
set_option maxHeartbeats 8000000 in
set_option maxRecDepth 100000 in
theorem spec_l8Leaf.calls (a0 : Int) (r : Bool) (w : World) (h : spec_l8Leaf.f a0 = some r) :
  Calls Tryd.prog 96 #[.int .i64 a0] w fun e w' => e = .returned (.bool r) ∧ Drawn0 w w' := by
 have H : ((spec_l1In.f a0 100 103).bind fun t490 => (if t490 = true then (some true) else ((spec_l1In.f a0 200 212).bind fun t491 => (if t491 = true then (some true) else ((spec_l1In.f a0 300 312).bind fun t492 => (if t492 = true then (some true) else (some (a0 == 400)))))))) = some r := h
 clear h
 replace H := QZ.mp H
 obtain ⟨t490,A20,H⟩ := H
 have A2 := QY A20
 clear A20
 by_cases c3 : t490 = true
 ·subst c3
  rw [if_pos rfl] at H
  obtain rfl := Option.some.inj H
  go_enter Tryd.func96,Tryd.ntmps96
  go_wp2_with (first | ((with_reducible refine QT (f := 66) rfl ?_); refine goesL_ (some 4) rfl rfl Tryd.func66 (by kernel_rfl) rfl #[.int .i64 a0,.int .i64 100,.int .i64 103] rfl (by (try simp only [List.map_toArray,List.map_cons,List.map_nil]); first | done | rfl | (simp only [List.length_drop,List.length_take]; rfl)) ?_; (with_reducible refine (spec_l1In.calls a0 100 103 true _ A2.out).mono ?_); rintro e w' ⟨rfl,⟨nd,rfl⟩⟩; refine ⟨_,rfl,?_⟩))
  go_ret
  exact ⟨by first | rfl | (simp; done) | (simp [*]; done),by repeat (first | exact Drawn0.refl _ | apply Drawn0.step)⟩
 ·replace c3 := Bool.eq_false_iff.mpr c3
  subst c3
  rw [if_neg (show ¬ (false = true) by decide)] at H
  replace H := QZ.mp H
  obtain ⟨t491,A40,H⟩ := H
  have A4 := QY A40
  clear A40
  by_cases c5 : t491 = true
  ·subst c5
   rw [if_pos rfl] at H
   obtain rfl := Option.some.inj H
   go_enter Tryd.func96,Tryd.ntmps96
   go_wp2_with (first | ((with_reducible refine QT (f := 66) rfl ?_); refine goesL_ (some 4) rfl rfl Tryd.func66 (by kernel_rfl) rfl #[.int .i64 a0,.int .i64 100,.int .i64 103] rfl (by (try simp only [List.map_toArray,List.map_cons,List.map_nil]); first | done | rfl | (simp only [List.length_drop,List.length_take]; rfl)) ?_; (with_reducible refine (spec_l1In.calls a0 100 103 false _ A2.out).mono ?_); rintro e w' ⟨rfl,⟨nd,rfl⟩⟩; refine ⟨_,rfl,?_⟩) | (go_at_call 66; (with_reducible refine (spec_l1In.calls a0 200 212 true _ A4.out).mono ?_); rintro e w' ⟨rfl,⟨nd,rfl⟩⟩))
   go_ret
   exact ⟨by first | rfl | (simp; done) | (simp [*]; done),by repeat (first | exact Drawn0.refl _ | apply Drawn0.step)⟩
  ·replace c5 := Bool.eq_false_iff.mpr c5
   subst c5
   rw [if_neg (show ¬ (false = true) by decide)] at H
   replace H := QZ.mp H
   obtain ⟨t492,A60,H⟩ := H
   have A6 := QY A60
   clear A60
   by_cases c7 : t492 = true
   ·subst c7
    rw [if_pos rfl] at H
    obtain rfl := Option.some.inj H
    go_enter Tryd.func96,Tryd.ntmps96
    go_wp2_with (first | ((with_reducible refine QT (f := 66) rfl ?_); refine goesL_ (some 4) rfl rfl Tryd.func66 (by kernel_rfl) rfl #[.int .i64 a0,.int .i64 100,.int .i64 103] rfl (by (try simp only [List.map_toArray,List.map_cons,List.map_nil]); first | done | rfl | (simp only [List.length_drop,List.length_take]; rfl)) ?_; (with_reducible refine (spec_l1In.calls a0 100 103 false _ A2.out).mono ?_); rintro e w' ⟨rfl,⟨nd,rfl⟩⟩; refine ⟨_,rfl,?_⟩) | (go_at_call 66; (with_reducible refine (spec_l1In.calls a0 200 212 false _ A4.out).mono ?_); rintro e w' ⟨rfl,⟨nd,rfl⟩⟩) | (go_at_call 66; (with_reducible refine (spec_l1In.calls a0 300 312 true _ A6.out).mono ?_); rintro e w' ⟨rfl,⟨nd,rfl⟩⟩))
    go_ret
    exact ⟨by first | rfl | (simp; done) | (simp [*]; done),by repeat (first | exact Drawn0.refl _ | apply Drawn0.step)⟩
   ·replace c7 := Bool.eq_false_iff.mpr c7
    subst c7
    rw [if_neg (show ¬ (false = true) by decide)] at H
    obtain rfl := Option.some.inj H
    go_enter Tryd.func96,Tryd.ntmps96
    go_wp2_with (first | ((with_reducible refine QT (f := 66) rfl ?_); refine goesL_ (some 4) rfl rfl Tryd.func66 (by kernel_rfl) rfl #[.int .i64 a0,.int .i64 100,.int .i64 103] rfl (by (try simp only [List.map_toArray,List.map_cons,List.map_nil]); first | done | rfl | (simp only [List.length_drop,List.length_take]; rfl)) ?_; (with_reducible refine (spec_l1In.calls a0 100 103 false _ A2.out).mono ?_); rintro e w' ⟨rfl,⟨nd,rfl⟩⟩; refine ⟨_,rfl,?_⟩) | (go_at_call 66; (with_reducible refine (spec_l1In.calls a0 200 212 false _ A4.out).mono ?_); rintro e w' ⟨rfl,⟨nd,rfl⟩⟩) | (go_at_call 66; (with_reducible refine (spec_l1In.calls a0 300 312 false _ A6.out).mono ?_); rintro e w' ⟨rfl,⟨nd,rfl⟩⟩))
    go_ret
    exact ⟨by first | rfl | (simp; done) | (simp [*]; done),by repeat (first | exact Drawn0.refl _ | apply Drawn0.step)⟩

/-! ### spec_IsPattern: function 84 -/
mutual
def spec_IsPattern.l0 : Nat → List Int → Int → Int → Option (Bool)
 | 0,_,_,_ => none
 | k + 1,x0,x3,x4 => if x4 < (x0.length : Int) then (if 0 ≤ x4 then ((spec_l8Leaf.f (rd x0 x4)).bind fun t494 => (if t494 = true then (spec_IsPattern.l0 k x0 (wrap64 (x3 + 1)) (wrap64 (x4 + 1))) else (if (rd x0 x4) = (-1) then (spec_IsPattern.j1 k x0 x3 x4 (decide (x3 ≥ 1))) else (spec_IsPattern.j1 k x0 x3 x4 false)))) else (none)) else (if x3 = 1 then (some (decide ((x0.length : Int) ≤ 20))) else (some false))
def spec_IsPattern.j1 : Nat → List Int → Int → Int → Bool → Option (Bool)
 | 0,_,_,_,_ => none
 | k + 1,x0,x3,x4,x19 => if x19 = true then (spec_IsPattern.l0 k x0 x3 (wrap64 (x4 + 1))) else (if 0 ≤ x4 then (if x4 < (x0.length : Int) then (if (rd x0 x4) = (-2) then (if x3 ≥ 2 then (spec_IsPattern.l0 k x0 (wrap64 (x3 - 1)) (wrap64 (x4 + 1))) else (some false)) else (if (rd x0 x4) = (-3) then (if x3 ≥ 2 then (spec_IsPattern.l0 k x0 (wrap64 (x3 - 1)) (wrap64 (x4 + 1))) else (some false)) else (some false))) else (none)) else (none))
end
def spec_IsPattern.f (k : Nat) (l0 : List Int) : Option (Bool) := spec_IsPattern.l0 k l0 0 0
theorem spec_IsPattern.mono_l : ∀ k, (∀ y0 y1 y2, LeO (spec_IsPattern.l0 k y0 y1 y2) (spec_IsPattern.l0 (k + 1) y0 y1 y2)) ∧ (∀ y0 y1 y2 y3, LeO (spec_IsPattern.j1 k y0 y1 y2 y3) (spec_IsPattern.j1 (k + 1) y0 y1 y2 y3))
 | 0 => ⟨fun _ _ _ r h => by simp [spec_IsPattern.l0] at h,fun _ _ _ _ r h => by simp [spec_IsPattern.j1] at h⟩
 | k + 1 => by
  obtain ⟨ih0,ih1⟩ := spec_IsPattern.mono_l k
  refine ⟨?_,?_⟩
  ·intro y0 y1 y2
   unfold spec_IsPattern.l0
   repeat' first
   | (with_reducible exact ih0 _ _ _)
   | (with_reducible exact ih1 _ _ _ _)
   | (with_reducible exact LeO.refl _)
   | (with_reducible exact LeO.none _)
   | (with_reducible refine LeO.ite ?_ ?_)
   | (with_reducible refine LeO.bind ?_ (fun _ => ?_))
   | exact ih0 _ _ _
   | exact ih1 _ _ _ _
   | exact LeO.none _
   | refine LeO.ite ?_ ?_
   | refine LeO.bind ?_ (fun _ => ?_)
  ·intro y0 y1 y2 y3
   unfold spec_IsPattern.j1
   repeat' first
   | (with_reducible exact ih0 _ _ _)
   | (with_reducible exact ih1 _ _ _ _)
   | (with_reducible exact LeO.refl _)
   | (with_reducible exact LeO.none _)
   | (with_reducible refine LeO.ite ?_ ?_)
   | (with_reducible refine LeO.bind ?_ (fun _ => ?_))
   | exact ih0 _ _ _
   | exact ih1 _ _ _ _
   | exact LeO.none _
   | refine LeO.ite ?_ ?_
   | refine LeO.bind ?_ (fun _ => ?_)
theorem spec_IsPattern.mono : ∀ a0 k, LeO (spec_IsPattern.f k a0) (spec_IsPattern.f (k + 1) a0) := by
 intro a0 k
 obtain ⟨ih0,ih1⟩ := spec_IsPattern.mono_l k
 unfold spec_IsPattern.f
 repeat' first
   | (with_reducible exact ih0 _ _ _)
   | (with_reducible exact ih1 _ _ _ _)
   | (with_reducible exact LeO.refl _)
   | (with_reducible exact LeO.none _)
   | (with_reducible refine LeO.ite ?_ ?_)
   | (with_reducible refine LeO.bind ?_ (fun _ => ?_))
   | exact ih0 _ _ _
   | exact ih1 _ _ _ _
   | exact LeO.none _
   | refine LeO.ite ?_ ?_
   | refine LeO.bind ?_ (fun _ => ?_)
set_option maxHeartbeats 8000000 in
set_option maxRecDepth 100000 in
theorem spec_IsPattern.calls (k : Nat) (A0 : Option Addr) (c0 : Nat) (l0 : List Int) (r : Bool) (w : World) (hr0 : Kd.C (Kd.int .i64) w A0 l0.length l0) (hc0 : l0.length ≤ c0) (h : spec_IsPattern.f k l0 = some r) :
  Calls Tryd.prog 84 #[.slice A0 l0.length c0] w fun e w' => e = .returned (.bool r) ∧ Drawn0 w w' := by
 have HR0 := QY hr0
 have HC0 := QY hc0
 clear hr0 hc0
 have H : (spec_IsPattern.l0 k l0 0 0) = some r := h
 clear h
 have H' := QY H
 clear H
 go_enter Tryd.func84,Tryd.ntmps84
 go_wp2
 go_loopg [3,4] k (fun kq v3 v4 w' => ∃ (x3_1 : Int) (x4_1 : Int),v3 = .int .i64 x3_1 ∧ v4 = .int .i64 x4_1 ∧ Aside0 (spec_IsPattern.l0 kq l0 x3_1 x4_1 = some r) ∧ Aside0 (kq ≤ k) ∧ Drawn0 w w')
 case atStart => exact ⟨(0),(0),(by first | rfl | (simp; done) | (simp [*]; done)),(by first | rfl | (simp; done) | (simp [*]; done)),H',⟨Nat.le_refl _⟩,by repeat (first | exact Drawn0.refl _ | apply Drawn0.step)⟩
 case round =>
  clear H'
  obtain ⟨x3_1,x4_1,rfl,rfl,HA,HK1,⟨m1,rfl⟩⟩ := hrel
  cases gk with
  | zero => exact absurd HA.out (by simp [spec_IsPattern.l0])
  | succ k1 =>
   have H := HA.out
   clear HA
   simp only [spec_IsPattern.l0] at H
   by_cases c2 : x4_1 < (l0.length : Int)
   ·rw [if_pos c2] at H
    have c2b0 : decide (x4_1 < (l0.length : Int)) = true := decide_eq_true c2
    clear c2
    by_cases c3 : 0 ≤ x4_1
    ·rw [if_pos c3] at H
     have c3b0 : decide (0 ≤ x4_1) = true := decide_eq_true c3
     clear c3
     replace H := QZ.mp H
     obtain ⟨t494,A40,H⟩ := H
     have A4 := QY A40
     clear A40
     by_cases c5 : t494 = true
     ·subst c5
      rw [if_pos rfl] at H
      have H' := QY H
      clear H
      have p493 : 0 ≤ (x4_1 : Int) := of_decide_eq_true (by first | (with_reducible assumption) | assumption)
      have q493 : x4_1 < (l0.length : Int) := of_decide_eq_true (by first | (with_reducible assumption) | assumption)
      obtain ⟨ad493,e493,hx493_0⟩ := Kd.at_int HR0.out x4_1 p493 q493
      cases e493
      replace p493 := eq_true p493
      replace q493 := eq_true q493
      go_wp2_with (first | ((with_reducible refine QT (f := 96) rfl ?_); refine goesL_ (some 16) rfl rfl Tryd.func96 (by kernel_rfl) rfl #[.int .i64 (rd l0 x4_1)] rfl (by (try simp only [List.map_toArray,List.map_cons,List.map_nil]); first | done | rfl | (simp only [List.length_drop,List.length_take]; rfl)) ?_; (with_reducible refine (spec_l8Leaf.calls (rd l0 x4_1) true _ A4.out).mono ?_); rintro e w' ⟨rfl,⟨nd,rfl⟩⟩; refine ⟨_,rfl,?_⟩))
      go_roundg k1
      case measure => have := HK1.out; omega
      case rel => exact ⟨(wrap64 (x3_1 + 1)),(wrap64 (x4_1 + 1)),(by first | rfl | (simp; done) | (simp [*]; done)),(by first | rfl | (simp; done) | (simp [*]; done)),H',⟨by have := HK1.out; omega⟩,by repeat (first | exact Drawn0.refl _ | apply Drawn0.step)⟩
     ·replace c5 := Bool.eq_false_iff.mpr c5
      subst c5
      rw [if_neg (show ¬ (false = true) by decide)] at H
      have HC6 := QY H
      clear H
      have p493 : 0 ≤ (x4_1 : Int) := of_decide_eq_true (by first | (with_reducible assumption) | assumption)
      have q493 : x4_1 < (l0.length : Int) := of_decide_eq_true (by first | (with_reducible assumption) | assumption)
      obtain ⟨ad493,e493,hx493_0⟩ := Kd.at_int HR0.out x4_1 p493 q493
      cases e493
      replace p493 := eq_true p493
      replace q493 := eq_true q493
      go_upto_region 8 with (first | ((with_reducible refine QT (f := 96) rfl ?_); refine goesL_ (some 16) rfl rfl Tryd.func96 (by kernel_rfl) rfl #[.int .i64 (rd l0 x4_1)] rfl (by (try simp only [List.map_toArray,List.map_cons,List.map_nil]); first | done | rfl | (simp only [List.length_drop,List.length_take]; rfl)) ?_; (with_reducible refine (spec_l8Leaf.calls (rd l0 x4_1) false _ A4.out).mono ?_); rintro e w' ⟨rfl,⟨nd,rfl⟩⟩; refine ⟨_,rfl,?_⟩))
      (try simp only [Act.put,List.setIfInBounds_toArray,List.set_cons_zero,List.set_cons_succ])
      go_cut [19] (fun v19 wc => ∃ (kq : Nat) (x19_5 : Bool),v19 = .bool x19_5 ∧ Aside0 (spec_IsPattern.j1 kq l0 x3_1 x4_1 x19_5 = some r) ∧ Aside0 (kq ≤ k1) ∧ Drawn0 w wc)
      case first =>
       have H := HC6.out
       clear HC6
       by_cases c7 : (rd l0 x4_1) = (-1)
       ·rw [if_pos c7] at H
        have c7b0 : ((rd l0 x4_1) == (-1)) = true := beq_iff_eq.mpr c7
        have c7b1 : ((rd l0 x4_1) != (-1)) = false := bne_eq_false_iff_eq.mpr c7
        clear c7
        (first | rw [c7b0] | (simp only [i64_w,i32_w]; rw [c7b0]) | skip)
        have H' := QY H
        clear H
        have p495 : 0 ≤ (x4_1 : Int) := of_decide_eq_true (by first | (with_reducible assumption) | assumption)
        have q495 : x4_1 < (l0.length : Int) := of_decide_eq_true (by first | (with_reducible assumption) | assumption)
        obtain ⟨ad495,e495,hx495_0⟩ := Kd.at_int HR0.out x4_1 p495 q495
        obtain rfl : ad493 = ad495 := (by injection e495)
        replace p495 := eq_true p495
        replace q495 := eq_true q495
        go_wp2
        go_meet
        case rel => exact ⟨_,(decide (x3_1 ≥ 1)),(by first | rfl | (simp; done) | (simp [*]; done)),H',⟨by have := HK1.out; first | omega | exact Nat.le_refl _⟩,by repeat (first | exact Drawn0.refl _ | apply Drawn0.step)⟩
       ·rw [if_neg c7] at H
        have c7b0 : ((rd l0 x4_1) == (-1)) = false := beq_eq_false_iff_ne.mpr c7
        have c7b1 : ((rd l0 x4_1) != (-1)) = true := bne_iff_ne.mpr c7
        (first | rw [c7b0] | (simp only [i64_w,i32_w]; rw [c7b0]) | skip)
        have H' := QY H
        clear H
        have p495 : 0 ≤ (x4_1 : Int) := of_decide_eq_true (by first | (with_reducible assumption) | assumption)
        have q495 : x4_1 < (l0.length : Int) := of_decide_eq_true (by first | (with_reducible assumption) | assumption)
        obtain ⟨ad495,e495,hx495_0⟩ := Kd.at_int HR0.out x4_1 p495 q495
        obtain rfl : ad493 = ad495 := (by injection e495)
        replace p495 := eq_true p495
        replace q495 := eq_true q495
        go_wp2
        go_meet
        case rel => exact ⟨_,(false),(by first | rfl | (simp; done) | (simp [*]; done)),H',⟨by have := HK1.out; first | omega | exact Nat.le_refl _⟩,by repeat (first | exact Drawn0.refl _ | apply Drawn0.step)⟩
      case rest =>
       clear HC6
       try clear c2
       try clear c2b0
       try clear c3
       try clear c3b0
       try clear c5
       try clear c7
       try clear c7b0
       try clear c7b1
       try clear hx493_0
       try clear hx495_0
       try clear p493
       try clear p495
       try clear q493
       try clear q495
       obtain ⟨kq,x19_5,rfl,HA,HJ5,⟨mc5,rfl⟩⟩ := hcut
       cases kq with
       | zero => exact absurd HA.out (by simp [spec_IsPattern.j1])
       | succ kj5 =>
        have H := HA.out
        clear HA
        simp only [spec_IsPattern.j1] at H
        by_cases c8 : x19_5 = true
        ·subst c8
         rw [if_pos rfl] at H
         have H' := QY H
         clear H
         go_wp2
         go_roundg kj5
         case measure => have := HK1.out; have := HJ5.out; omega
         case rel => exact ⟨(x3_1),(wrap64 (x4_1 + 1)),(by first | rfl | (simp; done) | (simp [*]; done)),(by first | rfl | (simp; done) | (simp [*]; done)),H',⟨by have := HK1.out; have := HJ5.out; omega⟩,by repeat (first | exact Drawn0.refl _ | apply Drawn0.step)⟩
        ·replace c8 := Bool.eq_false_iff.mpr c8
         subst c8
         rw [if_neg (show ¬ (false = true) by decide)] at H
         by_cases c9 : 0 ≤ x4_1
         ·rw [if_pos c9] at H
          have c9b0 : decide (0 ≤ x4_1) = true := decide_eq_true c9
          clear c9
          by_cases c10 : x4_1 < (l0.length : Int)
          ·rw [if_pos c10] at H
           have c10b0 : decide (x4_1 < (l0.length : Int)) = true := decide_eq_true c10
           clear c10
           by_cases c11 : (rd l0 x4_1) = (-2)
           ·rw [if_pos c11] at H
            have c11b0 : ((rd l0 x4_1) == (-2)) = true := beq_iff_eq.mpr c11
            have c11b1 : ((rd l0 x4_1) != (-2)) = false := bne_eq_false_iff_eq.mpr c11
            clear c11
            by_cases c12 : x3_1 ≥ 2
            ·rw [if_pos c12] at H
             have c12b0 : decide (2 ≤ x3_1) = true := decide_eq_true c12
             clear c12
             have H' := QY H
             clear H
             have p496 : 0 ≤ (x4_1 : Int) := of_decide_eq_true (by first | (with_reducible assumption) | assumption)
             have q496 : x4_1 < (l0.length : Int) := of_decide_eq_true (by first | (with_reducible assumption) | assumption)
             obtain ⟨ad496,e496,hx496_0⟩ := Kd.at_int HR0.out x4_1 p496 q496
             obtain rfl : ad493 = ad496 := (by injection e496)
             replace p496 := eq_true p496
             replace q496 := eq_true q496
             go_wp2
             go_roundg kj5
             case measure => have := HK1.out; have := HJ5.out; omega
             case rel => exact ⟨(wrap64 (x3_1 - 1)),(wrap64 (x4_1 + 1)),(by first | rfl | (simp; done) | (simp [*]; done)),(by first | rfl | (simp; done) | (simp [*]; done)),H',⟨by have := HK1.out; have := HJ5.out; omega⟩,by repeat (first | exact Drawn0.refl _ | apply Drawn0.step)⟩
            ·rw [if_neg c12] at H
             have c12b0 : decide (2 ≤ x3_1) = false := decide_eq_false c12
             clear c12
             obtain rfl := Option.some.inj H
             have p496 : 0 ≤ (x4_1 : Int) := of_decide_eq_true (by first | (with_reducible assumption) | assumption)
             have q496 : x4_1 < (l0.length : Int) := of_decide_eq_true (by first | (with_reducible assumption) | assumption)
             obtain ⟨ad496,e496,hx496_0⟩ := Kd.at_int HR0.out x4_1 p496 q496
             obtain rfl : ad493 = ad496 := (by injection e496)
             replace p496 := eq_true p496
             replace q496 := eq_true q496
             go_wp2
             go_ret
             exact ⟨by first | rfl | (simp; done) | (simp [*]; done),by repeat (first | exact Drawn0.refl _ | apply Drawn0.step)⟩
           ·rw [if_neg c11] at H
            have c11b0 : ((rd l0 x4_1) == (-2)) = false := beq_eq_false_iff_ne.mpr c11
            have c11b1 : ((rd l0 x4_1) != (-2)) = true := bne_iff_ne.mpr c11
            by_cases c13 : (rd l0 x4_1) = (-3)
            ·rw [if_pos c13] at H
             have c13b0 : ((rd l0 x4_1) == (-3)) = true := beq_iff_eq.mpr c13
             have c13b1 : ((rd l0 x4_1) != (-3)) = false := bne_eq_false_iff_eq.mpr c13
             clear c13
             by_cases c12 : x3_1 ≥ 2
             ·rw [if_pos c12] at H
              have c12b0 : decide (2 ≤ x3_1) = true := decide_eq_true c12
              clear c12
              have H' := QY H
              clear H
              have p496 : 0 ≤ (x4_1 : Int) := of_decide_eq_true (by first | (with_reducible assumption) | assumption)
              have q496 : x4_1 < (l0.length : Int) := of_decide_eq_true (by first | (with_reducible assumption) | assumption)
              obtain ⟨ad496,e496,hx496_0⟩ := Kd.at_int HR0.out x4_1 p496 q496
              obtain rfl : ad493 = ad496 := (by injection e496)
              replace p496 := eq_true p496
              replace q496 := eq_true q496
              have p497 : 0 ≤ (x4_1 : Int) := of_decide_eq_true (by first | (with_reducible assumption) | assumption)
              have q497 : x4_1 < (l0.length : Int) := of_decide_eq_true (by first | (with_reducible assumption) | assumption)
              obtain ⟨ad497,e497,hx497_0⟩ := Kd.at_int HR0.out x4_1 p497 q497
              obtain rfl : ad493 = ad497 := (by injection e497)
              replace p497 := eq_true p497
              replace q497 := eq_true q497
              go_wp2
              go_roundg kj5
              case measure => have := HK1.out; have := HJ5.out; omega
              case rel => exact ⟨(wrap64 (x3_1 - 1)),(wrap64 (x4_1 + 1)),(by first | rfl | (simp; done) | (simp [*]; done)),(by first | rfl | (simp; done) | (simp [*]; done)),H',⟨by have := HK1.out; have := HJ5.out; omega⟩,by repeat (first | exact Drawn0.refl _ | apply Drawn0.step)⟩
             ·rw [if_neg c12] at H
              have c12b0 : decide (2 ≤ x3_1) = false := decide_eq_false c12
              clear c12
              obtain rfl := Option.some.inj H
              have p496 : 0 ≤ (x4_1 : Int) := of_decide_eq_true (by first | (with_reducible assumption) | assumption)
              have q496 : x4_1 < (l0.length : Int) := of_decide_eq_true (by first | (with_reducible assumption) | assumption)
              obtain ⟨ad496,e496,hx496_0⟩ := Kd.at_int HR0.out x4_1 p496 q496
              obtain rfl : ad493 = ad496 := (by injection e496)
              replace p496 := eq_true p496
              replace q496 := eq_true q496
              have p497 : 0 ≤ (x4_1 : Int) := of_decide_eq_true (by first | (with_reducible assumption) | assumption)
              have q497 : x4_1 < (l0.length : Int) := of_decide_eq_true (by first | (with_reducible assumption) | assumption)
              obtain ⟨ad497,e497,hx497_0⟩ := Kd.at_int HR0.out x4_1 p497 q497
              obtain rfl : ad493 = ad497 := (by injection e497)
              replace p497 := eq_true p497
              replace q497 := eq_true q497
              go_wp2
              go_ret
              exact ⟨by first | rfl | (simp; done) | (simp [*]; done),by repeat (first | exact Drawn0.refl _ | apply Drawn0.step)⟩
            ·rw [if_neg c13] at H
             have c13b0 : ((rd l0 x4_1) == (-3)) = false := beq_eq_false_iff_ne.mpr c13
             have c13b1 : ((rd l0 x4_1) != (-3)) = true := bne_iff_ne.mpr c13
             obtain rfl := Option.some.inj H
             have p496 : 0 ≤ (x4_1 : Int) := of_decide_eq_true (by first | (with_reducible assumption) | assumption)
             have q496 : x4_1 < (l0.length : Int) := of_decide_eq_true (by first | (with_reducible assumption) | assumption)
             obtain ⟨ad496,e496,hx496_0⟩ := Kd.at_int HR0.out x4_1 p496 q496
             obtain rfl : ad493 = ad496 := (by injection e496)
             replace p496 := eq_true p496
             replace q496 := eq_true q496
             have p497 : 0 ≤ (x4_1 : Int) := of_decide_eq_true (by first | (with_reducible assumption) | assumption)
             have q497 : x4_1 < (l0.length : Int) := of_decide_eq_true (by first | (with_reducible assumption) | assumption)
             obtain ⟨ad497,e497,hx497_0⟩ := Kd.at_int HR0.out x4_1 p497 q497
             obtain rfl : ad493 = ad497 := (by injection e497)
             replace p497 := eq_true p497
             replace q497 := eq_true q497
             go_wp2
             go_ret
             exact ⟨by first | rfl | (simp; done) | (simp [*]; done),by repeat (first | exact Drawn0.refl _ | apply Drawn0.step)⟩
          ·rw [if_neg c10] at H
           exact absurd H (by simp)
         ·rw [if_neg c9] at H
          exact absurd H (by simp)
    ·rw [if_neg c3] at H
     exact absurd H (by simp)
   ·rw [if_neg c2] at H
    have c2b0 : decide (x4_1 < (l0.length : Int)) = false := decide_eq_false c2
    clear c2
    by_cases c15 : x3_1 = 1
    ·rw [if_pos c15] at H
     have c15b0 : (x3_1 == 1) = true := beq_iff_eq.mpr c15
     have c15b1 : (x3_1 != 1) = false := bne_eq_false_iff_eq.mpr c15
     clear c15
     obtain rfl := Option.some.inj H
     go_wp2
     go_ret
     exact ⟨by first | rfl | (simp; done) | (simp [*]; done),by repeat (first | exact Drawn0.refl _ | apply Drawn0.step)⟩
    ·rw [if_neg c15] at H
     have c15b0 : (x3_1 == 1) = false := beq_eq_false_iff_ne.mpr c15
     have c15b1 : (x3_1 != 1) = true := bne_iff_ne.mpr c15
     obtain rfl := Option.some.inj H
     go_wp2
     go_ret
     exact ⟨by first | rfl | (simp; done) | (simp [*]; done),by repeat (first | exact Drawn0.refl _ | apply Drawn0.step)⟩

/-! ### spec_l22Pattern: function 69 -/
def spec_l22Pattern.f (k : Nat) (l0 : List Int) : Option (Bool) := if (l0.length : Int) = 0 then (some true) else ((spec_IsPattern.f k l0).bind fun t498 => (some t498))
theorem spec_l22Pattern.mono : ∀ a0 k, LeO (spec_l22Pattern.f k a0) (spec_l22Pattern.f (k + 1) a0) := by
 intro a0 k
 unfold spec_l22Pattern.f
 repeat' first
   | (with_reducible exact spec_IsPattern.mono _ _)
   | (with_reducible exact LeO.refl _)
   | (with_reducible exact LeO.none _)
   | (with_reducible refine LeO.ite ?_ ?_)
   | (with_reducible refine LeO.bind ?_ (fun _ => ?_))
   | exact spec_IsPattern.mono _ _
   | exact LeO.none _
   | refine LeO.ite ?_ ?_
   | refine LeO.bind ?_ (fun _ => ?_)
set_option maxHeartbeats 8000000 in
set_option maxRecDepth 100000 in
theorem spec_l22Pattern.calls (k : Nat) (A0 : Option Addr) (c0 : Nat) (l0 : List Int) (r : Bool) (w : World) (hr0 : Kd.C (Kd.int .i64) w A0 l0.length l0) (hc0 : l0.length ≤ c0) (h : spec_l22Pattern.f k l0 = some r) :
  Calls Tryd.prog 69 #[.slice A0 l0.length c0] w fun e w' => e = .returned (.bool r) ∧ Drawn0 w w' := by
 have HR0 := QY hr0
 have HC0 := QY hc0
 clear hr0 hc0
 have H : (if (l0.length : Int) = 0 then (some true) else ((spec_IsPattern.f k l0).bind fun t498 => (some t498))) = some r := h
 clear h
 by_cases c2 : (l0.length : Int) = 0
 ·rw [if_pos c2] at H
  have c2b0 : ((l0.length : Int) == 0) = true := beq_iff_eq.mpr c2
  have c2b1 : ((l0.length : Int) != 0) = false := bne_eq_false_iff_eq.mpr c2
  clear c2
  obtain rfl := Option.some.inj H
  go_enter Tryd.func69,Tryd.ntmps69
  go_wp2
  go_ret
  exact ⟨by first | rfl | (simp; done) | (simp [*]; done),by repeat (first | exact Drawn0.refl _ | apply Drawn0.step)⟩
 ·rw [if_neg c2] at H
  have c2b0 : ((l0.length : Int) == 0) = false := beq_eq_false_iff_ne.mpr c2
  have c2b1 : ((l0.length : Int) != 0) = true := bne_iff_ne.mpr c2
  have c2b2 : ¬ (l0 = []) := fun h_ => c2 (by rw [h_]; rfl)
  replace H := QZ.mp H
  obtain ⟨t498,A30,H⟩ := H
  have A3 := QY A30
  clear A30
  obtain rfl := Option.some.inj H
  go_enter Tryd.func69,Tryd.ntmps69
  go_wp2_with (first | (go_at_call 84; (with_reducible refine (spec_IsPattern.calls k _ _ l0 t498 _ ?side1 ?side2 A3.out).mono ?_); (case side1 => repeat (first | exact HR0.out | (with_reducible refine Kd.C_alloc ?_ _) | (with_reducible refine Kd.C_drewN ?_ _) | (with_reducible refine Kd.C_drew ?_))); (case side2 => exact HC0.out); rintro e w' ⟨rfl,⟨nd,rfl⟩⟩))
  go_ret
  exact ⟨by first | rfl | (simp; done) | (simp [*]; done),by repeat (first | exact Drawn0.refl _ | apply Drawn0.step)⟩

/-! ### spec_IsRules: function 48 -/
def spec_IsRules.f (k : Nat) (a0_0 : Int) (a0_1 : Int) (a0_2 : Bool) (a0_3 : Bool) (l0_4 : List Int) (l0_5 : List Int) (a0_6 : Int) (a0_7 : Int) : Option (Bool) := (spec_l1In.f a0_0 2 6).bind fun t500 => (if t500 = true then ((spec_l1In.f a0_1 1 8).bind fun t501 => (if t501 = true then (if a0_2 = true then ((spec_l22Pattern.f k l0_4).bind fun t502 => (if t502 = true then ((spec_l22Pattern.f k l0_5).bind fun t503 => (if t503 = true then ((spec_l1In.f a0_6 1 4).bind fun t504 => (if t504 = true then ((spec_l1In.f a0_7 1 400).bind fun t505 => (some t505)) else (some false))) else (some false))) else (some false))) else (if a0_3 = true then ((spec_l22Pattern.f k l0_4).bind fun t506 => (if t506 = true then ((spec_l22Pattern.f k l0_5).bind fun t507 => (if t507 = true then ((spec_l1In.f a0_6 1 4).bind fun t508 => (if t508 = true then ((spec_l1In.f a0_7 1 400).bind fun t509 => (some t509)) else (some false))) else (some false))) else (some false))) else (some false))) else (some false))) else (some false))
theorem spec_IsRules.mono : ∀ a0 a1 a2 a3 a4 a5 a6 a7 k, LeO (spec_IsRules.f k a0 a1 a2 a3 a4 a5 a6 a7) (spec_IsRules.f (k + 1) a0 a1 a2 a3 a4 a5 a6 a7) := by
 intro a0 a1 a2 a3 a4 a5 a6 a7 k
 unfold spec_IsRules.f
 repeat' first
   | (with_reducible exact spec_l22Pattern.mono _ _)
   | (with_reducible exact LeO.refl _)
   | (with_reducible exact LeO.none _)
   | (with_reducible refine LeO.ite ?_ ?_)
   | (with_reducible refine LeO.bind ?_ (fun _ => ?_))
   | exact spec_l22Pattern.mono _ _
   | exact LeO.none _
   | refine LeO.ite ?_ ?_
   | refine LeO.bind ?_ (fun _ => ?_)
set_option maxHeartbeats 8000000 in
set_option maxRecDepth 100000 in
theorem spec_IsRules.calls (k : Nat) (a0_0 : Int) (a0_1 : Int) (a0_2 : Bool) (a0_3 : Bool) (A0_4 : Option Addr) (c0_4 : Nat) (l0_4 : List Int) (A0_5 : Option Addr) (c0_5 : Nat) (l0_5 : List Int) (a0_6 : Int) (a0_7 : Int) (r : Bool) (w : World) (hr0_4 : Kd.C (Kd.int .i64) w A0_4 l0_4.length l0_4) (hc0_4 : l0_4.length ≤ c0_4) (hr0_5 : Kd.C (Kd.int .i64) w A0_5 l0_5.length l0_5) (hc0_5 : l0_5.length ≤ c0_5) (h : spec_IsRules.f k a0_0 a0_1 a0_2 a0_3 l0_4 l0_5 a0_6 a0_7 = some r) :
  Calls Tryd.prog 48 #[.agg #[.int .i64 a0_0,.int .i64 a0_1,.bool a0_2,.bool a0_3,.slice A0_4 l0_4.length c0_4,.slice A0_5 l0_5.length c0_5,.int .i64 a0_6,.int .i64 a0_7]] w fun e w' => e = .returned (.bool r) ∧ Below w.heap.size w w' := by
 have hu26 := Tryd.underlying26
 have HR0_4 := QY hr0_4
 have HC0_4 := QY hc0_4
 clear hr0_4 hc0_4
 have HR0_5 := QY hr0_5
 have HC0_5 := QY hc0_5
 clear hr0_5 hc0_5
 have HB := QY (Below.refl w.heap.size w)
 have H : ((spec_l1In.f a0_0 2 6).bind fun t500 => (if t500 = true then ((spec_l1In.f a0_1 1 8).bind fun t501 => (if t501 = true then (if a0_2 = true then ((spec_l22Pattern.f k l0_4).bind fun t502 => (if t502 = true then ((spec_l22Pattern.f k l0_5).bind fun t503 => (if t503 = true then ((spec_l1In.f a0_6 1 4).bind fun t504 => (if t504 = true then ((spec_l1In.f a0_7 1 400).bind fun t505 => (some t505)) else (some false))) else (some false))) else (some false))) else (if a0_3 = true then ((spec_l22Pattern.f k l0_4).bind fun t506 => (if t506 = true then ((spec_l22Pattern.f k l0_5).bind fun t507 => (if t507 = true then ((spec_l1In.f a0_6 1 4).bind fun t508 => (if t508 = true then ((spec_l1In.f a0_7 1 400).bind fun t509 => (some t509)) else (some false))) else (some false))) else (some false))) else (some false))) else (some false))) else (some false))) = some r := h
 clear h
 replace H := QZ.mp H
 obtain ⟨t500,A20,H⟩ := H
 have A2 := QY A20
 clear A20
 by_cases c3 : t500 = true
 rotate_left
 replace c3 := Bool.eq_false_iff.mpr c3
 subst c3
 rw [if_neg (show ¬ (false = true) by decide)] at H
 obtain rfl := Option.some.inj H
 rotate_right
 subst c3
 rw [if_pos rfl] at H
 replace H := QZ.mp H
 obtain ⟨t501,A40,H⟩ := H
 have A4 := QY A40
 clear A40
 by_cases c5 : t501 = true
 rotate_left
 replace c5 := Bool.eq_false_iff.mpr c5
 subst c5
 rw [if_neg (show ¬ (false = true) by decide)] at H
 obtain rfl := Option.some.inj H
 rotate_right
 subst c5
 rw [if_pos rfl] at H
 by_cases c6 : a0_2 = true
 rotate_left
 replace c6 := Bool.eq_false_iff.mpr c6
 subst c6
 rw [if_neg (show ¬ (false = true) by decide)] at H
 by_cases c22 : a0_3 = true
 rotate_left
 replace c22 := Bool.eq_false_iff.mpr c22
 subst c22
 rw [if_neg (show ¬ (false = true) by decide)] at H
 obtain rfl := Option.some.inj H
 rotate_right
 subst c22
 rw [if_pos rfl] at H
 replace H := QZ.mp H
 obtain ⟨t502,A70,H⟩ := H
 have A7 := QY A70
 clear A70
 try (obtain rfl := Option.some.inj (A7.out.symm.trans A7.out))
 by_cases c8 : t502 = true
 rotate_left
 replace c8 := Bool.eq_false_iff.mpr c8
 subst c8
 rw [if_neg (show ¬ (false = true) by decide)] at H
 obtain rfl := Option.some.inj H
 rotate_right
 subst c8
 rw [if_pos rfl] at H
 replace H := QZ.mp H
 obtain ⟨t503,A90,H⟩ := H
 have A9 := QY A90
 clear A90
 try (obtain rfl := Option.some.inj (A9.out.symm.trans A9.out))
 by_cases c10 : t503 = true
 rotate_left
 replace c10 := Bool.eq_false_iff.mpr c10
 subst c10
 rw [if_neg (show ¬ (false = true) by decide)] at H
 obtain rfl := Option.some.inj H
 rotate_right
 subst c10
 rw [if_pos rfl] at H
 replace H := QZ.mp H
 obtain ⟨t504,A110,H⟩ := H
 have A11 := QY A110
 clear A110
 try (obtain rfl := Option.some.inj (A11.out.symm.trans A11.out))
 by_cases c12 : t504 = true
 rotate_left
 replace c12 := Bool.eq_false_iff.mpr c12
 subst c12
 rw [if_neg (show ¬ (false = true) by decide)] at H
 obtain rfl := Option.some.inj H
 rotate_right
 subst c12
 rw [if_pos rfl] at H
 replace H := QZ.mp H
 obtain ⟨t505,A130,H⟩ := H
 have A13 := QY A130
 clear A130
 try (obtain rfl := Option.some.inj (A13.out.symm.trans A13.out))
 obtain rfl := Option.some.inj H
 rotate_right
 subst c6
 rw [if_pos rfl] at H
 replace H := QZ.mp H
 obtain ⟨t502,A70,H⟩ := H
 have A7 := QY A70
 clear A70
 by_cases c8 : t502 = true
 rotate_left
 replace c8 := Bool.eq_false_iff.mpr c8
 subst c8
 rw [if_neg (show ¬ (false = true) by decide)] at H
 obtain rfl := Option.some.inj H
 rotate_right
 subst c8
 rw [if_pos rfl] at H
 replace H := QZ.mp H
 obtain ⟨t503,A90,H⟩ := H
 have A9 := QY A90
 clear A90
 by_cases c10 : t503 = true
 rotate_left
 replace c10 := Bool.eq_false_iff.mpr c10
 subst c10
 rw [if_neg (show ¬ (false = true) by decide)] at H
 obtain rfl := Option.some.inj H
 rotate_right
 subst c10
 rw [if_pos rfl] at H
 replace H := QZ.mp H
 obtain ⟨t504,A110,H⟩ := H
 have A11 := QY A110
 clear A110
 by_cases c12 : t504 = true
 rotate_left
 replace c12 := Bool.eq_false_iff.mpr c12
 subst c12
 rw [if_neg (show ¬ (false = true) by decide)] at H
 obtain rfl := Option.some.inj H
 rotate_right
 subst c12
 rw [if_pos rfl] at H
 replace H := QZ.mp H
 obtain ⟨t505,A130,H⟩ := H
 have A13 := QY A130
 clear A130
 obtain rfl := Option.some.inj H
 all_goals
  go_enter Tryd.func48,Tryd.ntmps48
  go_wp2_with (first | ((with_reducible refine gate_dst (N := 1) rfl ?_); refine box_event ?hg (N := 1) ?hd (cs := #[.int .i64 a0_0,.int .i64 a0_1,.bool _,.bool _,.slice A0_4 l0_4.length c0_4,.slice A0_5 l0_5.length c0_5,.int .i64 a0_6,.int .i64 a0_7]) (t := 26) ?hr ?_; (case hd => rfl); (case hg => rfl); (case hr => first | (go_simp; done) | (go_simp; rfl)); intro gb499 hg w30 hbox hb; have n0_ := QY (QU (by repeat (first | (with_reducible first | exact HB.out | apply QD | apply QB | apply QC) | exact HB.out)) hb); have n1_ := QY (hbox); have n2_ := QY ((by rw [hg]; exact (QV (by repeat (first | (with_reducible first | exact HB.out | apply QD | apply QB | apply QC) | exact HB.out))) : w.heap.size ≤ gb499)); have n3_ := QY ((by rw [hg]; exact (QV (by repeat (first | (with_reducible first | exact HB.out | apply QD | apply QB | apply QC) | exact HB.out))) : w.heap.size ≤ gb499)); clear HB; revert n0_ n1_ n2_ n3_; intro HB BK499 GW499 GE499; clear hb hbox hg; have hcz31 := fun i => QW BK499.out i; have hfz31 := fun i => QR BK499.out i) | ((with_reducible refine QT (f := 66) rfl ?_); refine goesL_ (some 5) rfl rfl Tryd.func66 (by kernel_rfl) rfl #[.int .i64 a0_0,.int .i64 2,.int .i64 6] rfl (by (try simp only [List.map_toArray,List.map_cons,List.map_nil]); first | done | rfl | (simp only [List.length_drop,List.length_take]; rfl)) ?_; (with_reducible refine (spec_l1In.calls a0_0 2 6 _ _ A2.out).mono ?_); rintro e w' ⟨rfl,⟨nd,rfl⟩⟩; refine ⟨_,rfl,?_⟩) | (go_at_call 66; (with_reducible refine (spec_l1In.calls a0_1 1 8 _ _ A4.out).mono ?_); rintro e w' ⟨rfl,⟨nd,rfl⟩⟩) | (go_at_call 69; (with_reducible refine (spec_l22Pattern.calls k _ _ l0_4 _ _ ?side1 ?side2 A7.out).mono ?_); (case side1 => repeat (first | exact (Kd.C_below HR0_4.out (by repeat (first | (with_reducible first | exact HB.out | apply QD | apply QB | apply QC | refine QK ?_ GE499.out) | exact HB.out))) | (with_reducible refine Kd.C_alloc ?_ _) | (with_reducible refine Kd.C_drewN ?_ _) | (with_reducible refine Kd.C_drew ?_))); (case side2 => exact HC0_4.out); rintro e w' ⟨rfl,⟨nd,rfl⟩⟩) | (go_at_call 69; (with_reducible refine (spec_l22Pattern.calls k _ _ l0_5 _ _ ?side1 ?side2 A9.out).mono ?_); (case side1 => repeat (first | exact (Kd.C_below HR0_5.out (by repeat (first | (with_reducible first | exact HB.out | apply QD | apply QB | apply QC | refine QK ?_ GE499.out) | exact HB.out))) | (with_reducible refine Kd.C_alloc ?_ _) | (with_reducible refine Kd.C_drewN ?_ _) | (with_reducible refine Kd.C_drew ?_))); (case side2 => exact HC0_5.out); rintro e w' ⟨rfl,⟨nd,rfl⟩⟩) | (go_at_call 66; (with_reducible refine (spec_l1In.calls a0_6 1 4 _ _ A11.out).mono ?_); rintro e w' ⟨rfl,⟨nd,rfl⟩⟩) | (go_at_call 66; (with_reducible refine (spec_l1In.calls a0_7 1 400 t505 _ A13.out).mono ?_); rintro e w' ⟨rfl,⟨nd,rfl⟩⟩))
  go_ret
  exact ⟨by first | rfl | (simp [errW_none,errW_some] <;> rfl) | (simp [*,errW_none,errW_some] <;> rfl),by repeat (first | (with_reducible first | exact HB.out | apply QD | apply QB | apply QC | refine QK ?_ GE499.out) | exact HB.out)⟩

/-! ### spec_FormatInt: function 49 -/
def spec_FormatInt.l0 : Nat → Int → ByteArray → Int → Option (ByteArray)
 | 0,_,_,_ => none
 | k + 1,x0,x3,x4 => if x4 = 0 then (if x0 < 0 then (if 1 + x3.size ≤ 9223372036854775807 then (some ((⟨#[45]⟩ : ByteArray) ++ x3)) else (none)) else (some x3)) else (if (Int.tmod x4 10) < 0 then ((some (([(wrap64 (48 + (wrap64 (-(Int.tmod x4 10))))) % 256] : List Int) : List Int)).bind fun y510 => (if (strOfNums y510).size + x3.size ≤ 9223372036854775807 then (spec_FormatInt.l0 k x0 ((strOfNums y510) ++ x3) (wrap64 (Int.tdiv x4 10))) else (none))) else ((some (([(wrap64 (48 + (Int.tmod x4 10))) % 256] : List Int) : List Int)).bind fun y513 => (if (strOfNums y513).size + x3.size ≤ 9223372036854775807 then (spec_FormatInt.l0 k x0 ((strOfNums y513) ++ x3) (wrap64 (Int.tdiv x4 10))) else (none))))
def spec_FormatInt.f (k : Nat) (a0 : Int) : Option (ByteArray) := if a0 = 0 then (some (⟨#[48]⟩ : ByteArray)) else (spec_FormatInt.l0 k a0 (⟨#[]⟩ : ByteArray) a0)
theorem spec_FormatInt.mono_l : ∀ k, (∀ y0 y1 y2, LeO (spec_FormatInt.l0 k y0 y1 y2) (spec_FormatInt.l0 (k + 1) y0 y1 y2))
 | 0 => fun _ _ _ r h => by simp [spec_FormatInt.l0] at h
 | k + 1 => by
  have ih0 := spec_FormatInt.mono_l k
  ·intro y0 y1 y2
   unfold spec_FormatInt.l0
   repeat' first
   | (with_reducible exact ih0 _ _ _)
   | (with_reducible exact LeO.refl _)
   | (with_reducible exact LeO.none _)
   | (with_reducible refine LeO.ite ?_ ?_)
   | (with_reducible refine LeO.bind ?_ (fun _ => ?_))
   | exact ih0 _ _ _
   | exact LeO.none _
   | refine LeO.ite ?_ ?_
   | refine LeO.bind ?_ (fun _ => ?_)
theorem spec_FormatInt.mono : ∀ a0 k, LeO (spec_FormatInt.f k a0) (spec_FormatInt.f (k + 1) a0) := by
 intro a0 k
 have ih0 := spec_FormatInt.mono_l k
 unfold spec_FormatInt.f
 repeat' first
   | (with_reducible exact ih0 _ _ _)
   | (with_reducible exact LeO.refl _)
   | (with_reducible exact LeO.none _)
   | (with_reducible refine LeO.ite ?_ ?_)
   | (with_reducible refine LeO.bind ?_ (fun _ => ?_))
   | exact ih0 _ _ _
   | exact LeO.none _
   | refine LeO.ite ?_ ?_
   | refine LeO.bind ?_ (fun _ => ?_)
set_option maxHeartbeats 8000000 in
set_option maxRecDepth 100000 in
theorem spec_FormatInt.calls (k : Nat) (a0 : Int) (r : ByteArray) (w : World) (h : spec_FormatInt.f k a0 = some r) :
  Calls Tryd.prog 49 #[.int .i64 a0] w fun e w' => e = .returned (.string r) ∧ Below w.heap.size w w' := by
 have HB := QY (Below.refl w.heap.size w)
 have H : (if a0 = 0 then (some (⟨#[48]⟩ : ByteArray)) else (spec_FormatInt.l0 k a0 (⟨#[]⟩ : ByteArray) a0)) = some r := h
 clear h
 by_cases c2 : a0 = 0
 ·rw [if_pos c2] at H
  have c2b0 : (a0 == 0) = true := beq_iff_eq.mpr c2
  have c2b1 : (a0 != 0) = false := bne_eq_false_iff_eq.mpr c2
  clear c2
  obtain rfl := Option.some.inj H
  go_enter Tryd.func49,Tryd.ntmps49
  go_wp2
  go_ret
  exact ⟨by first | rfl | (simp [errW_none,errW_some] <;> rfl) | (simp [*,errW_none,errW_some] <;> rfl),by repeat (first | (with_reducible first | exact HB.out | apply QD | apply QB | apply QC) | exact HB.out)⟩
 ·rw [if_neg c2] at H
  have c2b0 : (a0 == 0) = false := beq_eq_false_iff_ne.mpr c2
  have c2b1 : (a0 != 0) = true := bne_iff_ne.mpr c2
  have H' := QY H
  clear H
  go_enter Tryd.func49,Tryd.ntmps49
  go_wp2
  go_loopg [3,4] k (fun kq v3 v4 w' => ∃ (x3_1 : ByteArray) (x4_1 : Int),v3 = .string x3_1 ∧ v4 = .int .i64 x4_1 ∧ Aside0 (spec_FormatInt.l0 kq a0 x3_1 x4_1 = some r) ∧ Aside0 (kq ≤ k) ∧ Aside0 (Below w.heap.size w w'))
  case atStart => exact ⟨((⟨#[]⟩ : ByteArray)),(a0),(by first | rfl | (simp; done) | (simp [*]; done)),(by first | rfl | (simp; done) | (simp [*]; done)),H',⟨Nat.le_refl _⟩,⟨by repeat (first | (with_reducible first | exact HB.out | apply QD | apply QB | apply QC) | exact HB.out)⟩⟩
  case round =>
   clear H'
   try clear c2
   try clear c2b0
   try clear c2b1
   obtain ⟨x3_1,x4_1,rfl,rfl,HA,HK1,HB⟩ := hrel
   cases gk with
   | zero => exact absurd HA.out (by simp [spec_FormatInt.l0])
   | succ k1 =>
    have H := HA.out
    clear HA
    simp only [spec_FormatInt.l0] at H
    by_cases c3 : x4_1 = 0
    ·rw [if_pos c3] at H
     have c3b0 : (x4_1 == 0) = true := beq_iff_eq.mpr c3
     have c3b1 : (x4_1 != 0) = false := bne_eq_false_iff_eq.mpr c3
     clear c3
     by_cases c4 : a0 < 0
     ·rw [if_pos c4] at H
      have c4b0 : decide (a0 < 0) = true := decide_eq_true c4
      clear c4
      by_cases c5 : 1 + x3_1.size ≤ 9223372036854775807
      ·rw [if_pos c5] at H
       have c5b0 := eq_true c5
       have c5b1 : decide (1 + x3_1.size ≤ 9223372036854775807) = true := decide_eq_true c5
       try have c5b2 : (9223372036854775807 < 1 + x3_1.size) = False := eq_false (Nat.not_lt.2 c5)
       obtain rfl := Option.some.inj H
       go_wp2
       go_ret
       exact ⟨by first | rfl | (simp [errW_none,errW_some] <;> rfl) | (simp [*,errW_none,errW_some] <;> rfl),by repeat (first | (with_reducible first | exact HB.out | apply QD | apply QB | apply QC) | exact HB.out)⟩
      ·rw [if_neg c5] at H
       exact absurd H (by simp)
     ·rw [if_neg c4] at H
      have c4b0 : decide (a0 < 0) = false := decide_eq_false c4
      clear c4
      obtain rfl := Option.some.inj H
      go_wp2
      go_ret
      exact ⟨by first | rfl | (simp [errW_none,errW_some] <;> rfl) | (simp [*,errW_none,errW_some] <;> rfl),by repeat (first | (with_reducible first | exact HB.out | apply QD | apply QB | apply QC) | exact HB.out)⟩
    ·rw [if_neg c3] at H
     have c3b0 : (x4_1 == 0) = false := beq_eq_false_iff_ne.mpr c3
     have c3b1 : (x4_1 != 0) = true := bne_iff_ne.mpr c3
     by_cases c6 : (Int.tmod x4_1 10) < 0
     ·rw [if_pos c6] at H
      have c6b0 : decide ((Int.tmod x4_1 10) < 0) = true := decide_eq_true c6
      clear c6
      obtain ⟨y510,hy510⟩ : ∃ y_ : List Int,y_ = (([(wrap64 (48 + (wrap64 (-(Int.tmod x4_1 10))))) % 256] : List Int)) := ⟨_,rfl⟩
      replace H : (if (strOfNums y510).size + x3_1.size ≤ 9223372036854775807 then (spec_FormatInt.l0 k1 a0 ((strOfNums y510) ++ x3_1) (wrap64 (Int.tdiv x4_1 10))) else (none)) = some r := by first | (rw [hy510]; with_reducible exact H) | (have H2_ := (Option.bind_some _ _).symm.trans H; rw [hy510]; with_reducible exact H2_) | (have H2_ := (Option.bind_some _ _).symm.trans H; with_reducible exact H2_) | with_reducible exact H | (rw [hy510]; exact H) | exact H
      have Ny510 := QY hy510
      clear hy510
      by_cases c7 : (strOfNums y510).size + x3_1.size ≤ 9223372036854775807
      ·rw [if_pos c7] at H
       have c7b0 := eq_true c7
       have c7b1 : decide ((strOfNums y510).size + x3_1.size ≤ 9223372036854775807) = true := decide_eq_true c7
       try have c7b2 : (9223372036854775807 < (strOfNums y510).size + x3_1.size) = False := eq_false (Nat.not_lt.2 c7)
       have H' := QY H
       clear H
       go_wp2_with (first | ((with_reducible refine gate_dst (N := 22) rfl ?_); refine Kd.R_lit (Kd.int .u8) _ 5 ?hg (N := 22) ?hd (xs := ([(wrap64 (48 + (wrap64 (-(Int.tmod x4_1 10))))) % 256] : List Int)) (inner := [.int .u8 ((wrap64 (48 + (wrap64 (-(Int.tmod x4_1 10))))) % 256)]) (ok := fun _ => True) (okp := fun _ => True) ?hr ?hp (fun _ hk => hk) trivial (Below.refl _ _) (Nat.le_refl _) (by simp) ?_; (case hd => rfl); (case hg => rfl); (case hr => first | (go_simp; done) | (go_simp; rfl)); (case hp => exact (Reps.one (show Kd.M (Kd.int .u8) _ _ _ ((wrap64 (48 + (wrap64 (-(Int.tmod x4_1 10))))) % 256) [.int .u8 ((wrap64 (48 + (wrap64 (-(Int.tmod x4_1 10))))) % 256)] from rfl) (Reps.none _ _))); intro v511 w8 ho9 hb hg_ hnew_; clear hg_ hnew_; (first | rw [← Ny510.out] at ho9 | (simp only [Int.reduceToNat] at ho9; rw [← Ny510.out] at ho9)); have n0_ := QY (Kd.R_lower ho9 (QV (by repeat (first | (with_reducible first | exact HB.out | apply QD | apply QB | apply QC) | exact HB.out)))); have n1_ := QY (QU (by repeat (first | (with_reducible first | exact HB.out | apply QD | apply QB | apply QC) | exact HB.out)) hb); clear HB; revert n0_ n1_; intro HO512 HB; clear hb ho9; have hcv10 := own_string (P := Tryd.prog) Tryd.underlying22 Tryd.underlying5 Tryd.underlying9 (Kd.own_of_R HO512.out)))
       go_roundg k1
       case measure => have := HK1.out; omega
       case rel => exact ⟨((strOfNums y510) ++ x3_1),(wrap64 (Int.tdiv x4_1 10)),(by first | rfl | (simp; done) | (simp [*]; done)),(by first | rfl | (simp; done) | (simp [*]; done)),H',⟨by have := HK1.out; omega⟩,⟨by repeat (first | (with_reducible first | exact HB.out | apply QD | apply QB | apply QC) | exact HB.out)⟩⟩
      ·rw [if_neg c7] at H
       exact absurd H (by simp)
     ·rw [if_neg c6] at H
      have c6b0 : decide ((Int.tmod x4_1 10) < 0) = false := decide_eq_false c6
      clear c6
      obtain ⟨y513,hy513⟩ : ∃ y_ : List Int,y_ = (([(wrap64 (48 + (Int.tmod x4_1 10))) % 256] : List Int)) := ⟨_,rfl⟩
      replace H : (if (strOfNums y513).size + x3_1.size ≤ 9223372036854775807 then (spec_FormatInt.l0 k1 a0 ((strOfNums y513) ++ x3_1) (wrap64 (Int.tdiv x4_1 10))) else (none)) = some r := by first | (rw [hy513]; with_reducible exact H) | (have H2_ := (Option.bind_some _ _).symm.trans H; rw [hy513]; with_reducible exact H2_) | (have H2_ := (Option.bind_some _ _).symm.trans H; with_reducible exact H2_) | with_reducible exact H | (rw [hy513]; exact H) | exact H
      have Ny513 := QY hy513
      clear hy513
      by_cases c11 : (strOfNums y513).size + x3_1.size ≤ 9223372036854775807
      ·rw [if_pos c11] at H
       have c11b0 := eq_true c11
       have c11b1 : decide ((strOfNums y513).size + x3_1.size ≤ 9223372036854775807) = true := decide_eq_true c11
       try have c11b2 : (9223372036854775807 < (strOfNums y513).size + x3_1.size) = False := eq_false (Nat.not_lt.2 c11)
       have H' := QY H
       clear H
       go_wp2_with (first | ((with_reducible refine gate_dst (N := 22) rfl ?_); refine Kd.R_lit (Kd.int .u8) _ 5 ?hg (N := 22) ?hd (xs := ([(wrap64 (48 + (Int.tmod x4_1 10))) % 256] : List Int)) (inner := [.int .u8 ((wrap64 (48 + (Int.tmod x4_1 10))) % 256)]) (ok := fun _ => True) (okp := fun _ => True) ?hr ?hp (fun _ hk => hk) trivial (Below.refl _ _) (Nat.le_refl _) (by simp) ?_; (case hd => rfl); (case hg => rfl); (case hr => first | (go_simp; done) | (go_simp; rfl)); (case hp => exact (Reps.one (show Kd.M (Kd.int .u8) _ _ _ ((wrap64 (48 + (Int.tmod x4_1 10))) % 256) [.int .u8 ((wrap64 (48 + (Int.tmod x4_1 10))) % 256)] from rfl) (Reps.none _ _))); intro v514 w12 ho13 hb hg_ hnew_; clear hg_ hnew_; (first | rw [← Ny513.out] at ho13 | (simp only [Int.reduceToNat] at ho13; rw [← Ny513.out] at ho13)); have n0_ := QY (Kd.R_lower ho13 (QV (by repeat (first | (with_reducible first | exact HB.out | apply QD | apply QB | apply QC) | exact HB.out)))); have n1_ := QY (QU (by repeat (first | (with_reducible first | exact HB.out | apply QD | apply QB | apply QC) | exact HB.out)) hb); clear HB; revert n0_ n1_; intro HO515 HB; clear hb ho13; have hcv14 := own_string (P := Tryd.prog) Tryd.underlying22 Tryd.underlying5 Tryd.underlying9 (Kd.own_of_R HO515.out)))
       go_roundg k1
       case measure => have := HK1.out; omega
       case rel => exact ⟨((strOfNums y513) ++ x3_1),(wrap64 (Int.tdiv x4_1 10)),(by first | rfl | (simp; done) | (simp [*]; done)),(by first | rfl | (simp; done) | (simp [*]; done)),H',⟨by have := HK1.out; omega⟩,⟨by repeat (first | (with_reducible first | exact HB.out | apply QD | apply QB | apply QC) | exact HB.out)⟩⟩
      ·rw [if_neg c11] at H
       exact absurd H (by simp)

/-! ### spec_RulesWord: function 50 -/
def spec_RulesWord.j0 : Nat → Bool → Int → Int → Bool → Bool → List Int → List Int → Int → Int → Option (ByteArray)
 | 0,_,_,_,_,_,_,_,_,_ => none
 | k + 1,x3,x517000,x517001,x517002,x517003,x517004,x517005,x517006,x517007 => if x3 = true then (some (⟨#[98,111,116,104]⟩ : ByteArray)) else (if x517002 = true then (some (⟨#[115,117,105,116]⟩ : ByteArray)) else (if x517003 = true then (some (⟨#[114,97,110,107]⟩ : ByteArray)) else (some (⟨#[]⟩ : ByteArray))))
def spec_RulesWord.f (k : Nat) (a0_0 : Int) (a0_1 : Int) (a0_2 : Bool) (a0_3 : Bool) (l0_4 : List Int) (l0_5 : List Int) (a0_6 : Int) (a0_7 : Int) : Option (ByteArray) := if a0_2 = true then (spec_RulesWord.j0 k a0_3 a0_0 a0_1 a0_2 a0_3 l0_4 l0_5 a0_6 a0_7) else (spec_RulesWord.j0 k false a0_0 a0_1 a0_2 a0_3 l0_4 l0_5 a0_6 a0_7)
theorem spec_RulesWord.mono_l : ∀ k, (∀ y0 y1 y2 y3 y4 y5 y6 y7 y8, LeO (spec_RulesWord.j0 k y0 y1 y2 y3 y4 y5 y6 y7 y8) (spec_RulesWord.j0 (k + 1) y0 y1 y2 y3 y4 y5 y6 y7 y8))
 | 0 => fun _ _ _ _ _ _ _ _ _ r h => by simp [spec_RulesWord.j0] at h
 | k + 1 => by
  have ih0 := spec_RulesWord.mono_l k
  ·intro y0 y1 y2 y3 y4 y5 y6 y7 y8
   unfold spec_RulesWord.j0
   repeat' first
   | (with_reducible exact ih0 _ _ _ _ _ _ _ _ _)
   | (with_reducible exact LeO.refl _)
   | (with_reducible exact LeO.none _)
   | (with_reducible refine LeO.ite ?_ ?_)
   | (with_reducible refine LeO.bind ?_ (fun _ => ?_))
   | exact ih0 _ _ _ _ _ _ _ _ _
   | exact LeO.none _
   | refine LeO.ite ?_ ?_
   | refine LeO.bind ?_ (fun _ => ?_)
theorem spec_RulesWord.mono : ∀ a0 a1 a2 a3 a4 a5 a6 a7 k, LeO (spec_RulesWord.f k a0 a1 a2 a3 a4 a5 a6 a7) (spec_RulesWord.f (k + 1) a0 a1 a2 a3 a4 a5 a6 a7) := by
 intro a0 a1 a2 a3 a4 a5 a6 a7 k
 have ih0 := spec_RulesWord.mono_l k
 unfold spec_RulesWord.f
 repeat' first
   | (with_reducible exact ih0 _ _ _ _ _ _ _ _ _)
   | (with_reducible exact LeO.refl _)
   | (with_reducible exact LeO.none _)
   | (with_reducible refine LeO.ite ?_ ?_)
   | (with_reducible refine LeO.bind ?_ (fun _ => ?_))
   | exact ih0 _ _ _ _ _ _ _ _ _
   | exact LeO.none _
   | refine LeO.ite ?_ ?_
   | refine LeO.bind ?_ (fun _ => ?_)
set_option maxHeartbeats 8000000 in
set_option maxRecDepth 100000 in
theorem spec_RulesWord.calls (k : Nat) (a0_0 : Int) (a0_1 : Int) (a0_2 : Bool) (a0_3 : Bool) (A0_4 : Option Addr) (c0_4 : Nat) (l0_4 : List Int) (A0_5 : Option Addr) (c0_5 : Nat) (l0_5 : List Int) (a0_6 : Int) (a0_7 : Int) (r : ByteArray) (w : World) (hr0_4 : Kd.C (Kd.int .i64) w A0_4 l0_4.length l0_4) (hc0_4 : l0_4.length ≤ c0_4) (hr0_5 : Kd.C (Kd.int .i64) w A0_5 l0_5.length l0_5) (hc0_5 : l0_5.length ≤ c0_5) (h : spec_RulesWord.f k a0_0 a0_1 a0_2 a0_3 l0_4 l0_5 a0_6 a0_7 = some r) :
  Calls Tryd.prog 50 #[.agg #[.int .i64 a0_0,.int .i64 a0_1,.bool a0_2,.bool a0_3,.slice A0_4 l0_4.length c0_4,.slice A0_5 l0_5.length c0_5,.int .i64 a0_6,.int .i64 a0_7]] w fun e w' => e = .returned (.string r) ∧ Below w.heap.size w w' := by
 have hu26 := Tryd.underlying26
 have HR0_4 := QY hr0_4
 have HC0_4 := QY hc0_4
 clear hr0_4 hc0_4
 have HR0_5 := QY hr0_5
 have HC0_5 := QY hc0_5
 clear hr0_5 hc0_5
 have HB := QY (Below.refl w.heap.size w)
 have H : (if a0_2 = true then (spec_RulesWord.j0 k a0_3 a0_0 a0_1 a0_2 a0_3 l0_4 l0_5 a0_6 a0_7) else (spec_RulesWord.j0 k false a0_0 a0_1 a0_2 a0_3 l0_4 l0_5 a0_6 a0_7)) = some r := h
 clear h
 have HC2 := QY H
 clear H
 go_enter Tryd.func50,Tryd.ntmps50
 go_upto_region 1 with (first | ((with_reducible refine gate_dst (N := 1) rfl ?_); refine box_event ?hg (N := 1) ?hd (cs := #[.int .i64 a0_0,.int .i64 a0_1,.bool a0_2,.bool a0_3,.slice A0_4 l0_4.length c0_4,.slice A0_5 l0_5.length c0_5,.int .i64 a0_6,.int .i64 a0_7]) (t := 26) ?hr ?_; (case hd => rfl); (case hg => rfl); (case hr => first | (go_simp; done) | (go_simp; rfl)); intro gb516 hg w3 hbox hb; have n0_ := QY (QU (by repeat (first | (with_reducible first | exact HB.out | apply QD | apply QB | apply QC) | exact HB.out)) hb); have n1_ := QY (hbox); have n2_ := QY ((by rw [hg]; exact (QV (by repeat (first | (with_reducible first | exact HB.out | apply QD | apply QB | apply QC) | exact HB.out))) : w.heap.size ≤ gb516)); have n3_ := QY ((by rw [hg]; exact (QV (by repeat (first | (with_reducible first | exact HB.out | apply QD | apply QB | apply QC) | exact HB.out))) : w.heap.size ≤ gb516)); clear HB; revert n0_ n1_ n2_ n3_; intro HB BK516 GW516 GE516; clear hb hbox hg))
 (try simp only [Act.put,List.setIfInBounds_toArray,List.set_cons_zero,List.set_cons_succ])
 go_cut [3] (fun v3 wc => ∃ (kq : Nat) (x3_1 : Bool),v3 = .bool x3_1 ∧ Aside0 (spec_RulesWord.j0 kq x3_1 a0_0 a0_1 a0_2 a0_3 l0_4 l0_5 a0_6 a0_7 = some r) ∧ Aside0 (kq ≤ k) ∧ Aside0 (wc.heap[gb516]? = some (.cells #[.int .i64 a0_0,.int .i64 a0_1,.bool a0_2,.bool a0_3,(.slice A0_4 l0_4.length c0_4),(.slice A0_5 l0_5.length c0_5),.int .i64 a0_6,.int .i64 a0_7] 26 (0,0))) ∧ Aside0 (Below w.heap.size w wc))
 case first =>
  have H := HC2.out
  clear HC2
  by_cases c4 : a0_2 = true
  ·subst c4
   rw [if_pos rfl] at H
   have H' := QY H
   clear H
   have hcz5 := fun i => QW BK516.out i
   have hfz5 := fun i => QR BK516.out i
   go_wp2
   go_meet
   case rel => exact ⟨_,(a0_3),(by first | rfl | (simp; done) | (simp [*]; done)),H',⟨by first | omega | exact Nat.le_refl _⟩,⟨by (with_reducible repeat (first | refine QE ?_ _ | refine QI ?_ | refine QF ?_ _)); exact BK516.out⟩,⟨by repeat (first | (with_reducible first | exact HB.out | apply QD | apply QB | apply QC | refine QK ?_ GE516.out) | exact HB.out)⟩⟩
  ·replace c4 := Bool.eq_false_iff.mpr c4
   subst c4
   rw [if_neg (show ¬ (false = true) by decide)] at H
   have H' := QY H
   clear H
   have hcz6 := fun i => QW BK516.out i
   have hfz6 := fun i => QR BK516.out i
   go_wp2
   go_meet
   case rel => exact ⟨_,(false),(by first | rfl | (simp; done) | (simp [*]; done)),H',⟨by first | omega | exact Nat.le_refl _⟩,⟨by (with_reducible repeat (first | refine QE ?_ _ | refine QI ?_ | refine QF ?_ _)); exact BK516.out⟩,⟨by repeat (first | (with_reducible first | exact HB.out | apply QD | apply QB | apply QC | refine QK ?_ GE516.out) | exact HB.out)⟩⟩
 case rest =>
  clear HC2
  try clear c4
  try clear hcz5
  try clear hcz6
  try clear hfz5
  try clear hfz6
  obtain ⟨kq,x3_1,rfl,HA,HJ1,BK516,HB⟩ := hcut
  cases kq with
  | zero => exact absurd HA.out (by simp [spec_RulesWord.j0])
  | succ kj1 =>
   have H := HA.out
   clear HA
   simp only [spec_RulesWord.j0] at H
   by_cases c7 : x3_1 = true
   rotate_left
   replace c7 := Bool.eq_false_iff.mpr c7
   subst c7
   rw [if_neg (show ¬ (false = true) by decide)] at H
   by_cases c8 : a0_2 = true
   rotate_left
   replace c8 := Bool.eq_false_iff.mpr c8
   subst c8
   rw [if_neg (show ¬ (false = true) by decide)] at H
   by_cases c10 : a0_3 = true
   rotate_left
   replace c10 := Bool.eq_false_iff.mpr c10
   subst c10
   rw [if_neg (show ¬ (false = true) by decide)] at H
   obtain rfl := Option.some.inj H
   rotate_right
   subst c10
   rw [if_pos rfl] at H
   obtain rfl := Option.some.inj H
   rotate_right
   subst c8
   rw [if_pos rfl] at H
   obtain rfl := Option.some.inj H
   rotate_right
   ·subst c7
    rw [if_pos rfl] at H
    obtain rfl := Option.some.inj H
    go_wp2
    go_ret
    exact ⟨by first | rfl | (simp [errW_none,errW_some] <;> rfl) | (simp [*,errW_none,errW_some] <;> rfl),by repeat (first | (with_reducible first | exact HB.out | apply QD | apply QB | apply QC | refine QK ?_ GE516.out) | exact HB.out)⟩
   all_goals
    have hcz12 := fun i => QW BK516.out i
    have hfz12 := fun i => QR BK516.out i
    go_wp2
    go_ret
    exact ⟨by first | rfl | (simp [errW_none,errW_some] <;> rfl) | (simp [*,errW_none,errW_some] <;> rfl),by repeat (first | (with_reducible first | exact HB.out | apply QD | apply QB | apply QC | refine QK ?_ GE516.out) | exact HB.out)⟩

/-! ### spec_l9Rank: function 97 -/
def spec_l9Rank.f (a0 : Int) : Option (ByteArray) := if 0 ≤ a0 then (if a0 ≤ (wrap64 (a0 + 1)) then (if (wrap64 (a0 + 1)) ≤ 13 then (some ((⟨#[50, 51, 52, 53, 54, 55, 56, 57, 84, 74, 81, 75, 65]⟩ : ByteArray).extract (a0 : Int).toNat ((wrap64 (a0 + 1)) : Int).toNat)) else (none)) else (none)) else (none)
set_option maxHeartbeats 8000000 in
set_option maxRecDepth 100000 in
theorem spec_l9Rank.calls (a0 : Int) (r : ByteArray) (w : World) (h : spec_l9Rank.f a0 = some r) :
  Calls Tryd.prog 97 #[.int .i64 a0] w fun e w' => e = .returned (.string r) ∧ Drawn0 w w' := by
 have H : (if 0 ≤ a0 then (if a0 ≤ (wrap64 (a0 + 1)) then (if (wrap64 (a0 + 1)) ≤ 13 then (some ((⟨#[50,51,52,53,54,55,56,57,84,74,81,75,65]⟩ : ByteArray).extract (a0 : Int).toNat ((wrap64 (a0 + 1)) : Int).toNat)) else (none)) else (none)) else (none)) = some r := h
 clear h
 by_cases c2 : 0 ≤ a0
 ·rw [if_pos c2] at H
  have c2b0 := eq_true c2
  have c2b1 : decide (0 ≤ a0) = true := decide_eq_true c2
  clear c2
  by_cases c3 : a0 ≤ (wrap64 (a0 + 1))
  ·rw [if_pos c3] at H
   have c3b0 := eq_true c3
   have c3b1 : decide (a0 ≤ (wrap64 (a0 + 1))) = true := decide_eq_true c3
   by_cases c4 : (wrap64 (a0 + 1)) ≤ 13
   ·rw [if_pos c4] at H
    have c4b0 := eq_true c4
    have c4b1 : decide ((wrap64 (a0 + 1)) ≤ 13) = true := decide_eq_true c4
    obtain rfl := Option.some.inj H
    go_enter Tryd.func97,Tryd.ntmps97
    go_wp2
    go_ret
    exact ⟨by first | rfl | (simp; done) | (simp [*]; done),by repeat (first | exact Drawn0.refl _ | apply Drawn0.step)⟩
   ·rw [if_neg c4] at H
    exact absurd H (by simp)
  ·rw [if_neg c3] at H
   exact absurd H (by simp)
 ·rw [if_neg c2] at H
  exact absurd H (by simp)

/-! ### spec_l9Leaf: function 85 -/
def spec_l9Leaf.f (a0 : Int) : Option (ByteArray) := if a0 = 400 then (some (⟨#[114]⟩ : ByteArray)) else (if a0 ≥ 300 then ((spec_l9Rank.f (wrap64 (a0 - 300))).bind fun t517 => (if t517.size + 1 ≤ 9223372036854775807 then (some (t517 ++ (⟨#[43]⟩ : ByteArray))) else (none))) else (if a0 ≥ 200 then ((spec_l9Rank.f (wrap64 (a0 - 200))).bind fun t518 => (some t518)) else (if 0 ≤ (wrap64 (a0 - 100)) then (if (wrap64 (a0 - 100)) ≤ (wrap64 ((wrap64 (a0 - 100)) + 1)) then (if (wrap64 ((wrap64 (a0 - 100)) + 1)) ≤ 4 then (some ((⟨#[99, 100, 104, 115]⟩ : ByteArray).extract ((wrap64 (a0 - 100)) : Int).toNat ((wrap64 ((wrap64 (a0 - 100)) + 1)) : Int).toNat)) else (none)) else (none)) else (none))))
set_option maxHeartbeats 8000000 in
set_option maxRecDepth 100000 in
theorem spec_l9Leaf.calls (a0 : Int) (r : ByteArray) (w : World) (h : spec_l9Leaf.f a0 = some r) :
  Calls Tryd.prog 85 #[.int .i64 a0] w fun e w' => e = .returned (.string r) ∧ Drawn0 w w' := by
 have H : (if a0 = 400 then (some (⟨#[114]⟩ : ByteArray)) else (if a0 ≥ 300 then ((spec_l9Rank.f (wrap64 (a0 - 300))).bind fun t517 => (if t517.size + 1 ≤ 9223372036854775807 then (some (t517 ++ (⟨#[43]⟩ : ByteArray))) else (none))) else (if a0 ≥ 200 then ((spec_l9Rank.f (wrap64 (a0 - 200))).bind fun t518 => (some t518)) else (if 0 ≤ (wrap64 (a0 - 100)) then (if (wrap64 (a0 - 100)) ≤ (wrap64 ((wrap64 (a0 - 100)) + 1)) then (if (wrap64 ((wrap64 (a0 - 100)) + 1)) ≤ 4 then (some ((⟨#[99,100,104,115]⟩ : ByteArray).extract ((wrap64 (a0 - 100)) : Int).toNat ((wrap64 ((wrap64 (a0 - 100)) + 1)) : Int).toNat)) else (none)) else (none)) else (none))))) = some r := h
 clear h
 by_cases c2 : a0 = 400
 ·rw [if_pos c2] at H
  have c2b0 : (a0 == 400) = true := beq_iff_eq.mpr c2
  have c2b1 : (a0 != 400) = false := bne_eq_false_iff_eq.mpr c2
  clear c2
  obtain rfl := Option.some.inj H
  go_enter Tryd.func85,Tryd.ntmps85
  go_wp2
  go_ret
  exact ⟨by first | rfl | (simp; done) | (simp [*]; done),by repeat (first | exact Drawn0.refl _ | apply Drawn0.step)⟩
 ·rw [if_neg c2] at H
  have c2b0 : (a0 == 400) = false := beq_eq_false_iff_ne.mpr c2
  have c2b1 : (a0 != 400) = true := bne_iff_ne.mpr c2
  by_cases c3 : a0 ≥ 300
  ·rw [if_pos c3] at H
   have c3b0 : decide (300 ≤ a0) = true := decide_eq_true c3
   clear c3
   replace H := QZ.mp H
   obtain ⟨t517,A40,H⟩ := H
   have A4 := QY A40
   clear A40
   by_cases c5 : t517.size + 1 ≤ 9223372036854775807
   ·rw [if_pos c5] at H
    have c5b0 := eq_true c5
    have c5b1 : decide (t517.size + 1 ≤ 9223372036854775807) = true := decide_eq_true c5
    try have c5b2 : (9223372036854775807 < t517.size + 1) = False := eq_false (Nat.not_lt.2 c5)
    obtain rfl := Option.some.inj H
    go_enter Tryd.func85,Tryd.ntmps85
    go_wp2_with (first | ((with_reducible refine QT (f := 97) rfl ?_); refine goesL_ (some 11) rfl rfl Tryd.func97 (by kernel_rfl) rfl #[.int .i64 (wrap64 (a0 - 300))] rfl (by (try simp only [List.map_toArray,List.map_cons,List.map_nil]); first | done | rfl | (simp only [List.length_drop,List.length_take]; rfl)) ?_; (with_reducible refine (spec_l9Rank.calls (wrap64 (a0 - 300)) t517 _ A4.out).mono ?_); rintro e w' ⟨rfl,⟨nd,rfl⟩⟩; refine ⟨_,rfl,?_⟩))
    go_ret
    exact ⟨by first | rfl | (simp; done) | (simp [*]; done),by repeat (first | exact Drawn0.refl _ | apply Drawn0.step)⟩
   ·rw [if_neg c5] at H
    exact absurd H (by simp)
  ·rw [if_neg c3] at H
   have c3b0 : decide (300 ≤ a0) = false := decide_eq_false c3
   clear c3
   by_cases c6 : a0 ≥ 200
   ·rw [if_pos c6] at H
    have c6b0 : decide (200 ≤ a0) = true := decide_eq_true c6
    clear c6
    replace H := QZ.mp H
    obtain ⟨t518,A70,H⟩ := H
    have A7 := QY A70
    clear A70
    obtain rfl := Option.some.inj H
    go_enter Tryd.func85,Tryd.ntmps85
    go_wp2_with (first | ((with_reducible refine QT (f := 97) rfl ?_); refine goesL_ (some 18) rfl rfl Tryd.func97 (by kernel_rfl) rfl #[.int .i64 (wrap64 (a0 - 200))] rfl (by (try simp only [List.map_toArray,List.map_cons,List.map_nil]); first | done | rfl | (simp only [List.length_drop,List.length_take]; rfl)) ?_; (with_reducible refine (spec_l9Rank.calls (wrap64 (a0 - 200)) t518 _ A7.out).mono ?_); rintro e w' ⟨rfl,⟨nd,rfl⟩⟩; refine ⟨_,rfl,?_⟩))
    go_ret
    exact ⟨by first | rfl | (simp; done) | (simp [*]; done),by repeat (first | exact Drawn0.refl _ | apply Drawn0.step)⟩
   ·rw [if_neg c6] at H
    have c6b0 : decide (200 ≤ a0) = false := decide_eq_false c6
    clear c6
    obtain ⟨ji8,hji8⟩ : ∃ j_ : Int,(wrap64 (a0 - 100)) = j_ := ⟨_,rfl⟩
    replace H : (if 0 ≤ (ji8) then (if (ji8) ≤ (wrap64 ((ji8) + 1)) then (if (wrap64 ((ji8) + 1)) ≤ 4 then (some ((⟨#[99,100,104,115]⟩ : ByteArray).extract ((ji8) : Int).toNat ((wrap64 ((ji8) + 1)) : Int).toNat)) else (none)) else (none)) else (none)) = some r := by first | (rw [hji8] at H; exact H) | (simp only [hji8] at H ⊢; exact H)
    have hji8w : (IntKind.i64.wrap (a0 - 100)) = ji8 := (i64_w _).trans hji8
    by_cases c9 : 0 ≤ (ji8)
    ·rw [if_pos c9] at H
     have c9b0 := eq_true c9
     have c9b1 : decide (0 ≤ (ji8)) = true := decide_eq_true c9
     clear c9
     by_cases c10 : (ji8) ≤ (wrap64 ((ji8) + 1))
     ·rw [if_pos c10] at H
      have c10b0 := eq_true c10
      have c10b1 : decide ((ji8) ≤ (wrap64 ((ji8) + 1))) = true := decide_eq_true c10
      by_cases c11 : (wrap64 ((ji8) + 1)) ≤ 4
      ·rw [if_pos c11] at H
       have c11b0 := eq_true c11
       have c11b1 : decide ((wrap64 ((ji8) + 1)) ≤ 4) = true := decide_eq_true c11
       obtain rfl := Option.some.inj H
       go_enter Tryd.func85,Tryd.ntmps85
       go_wp2
       go_ret
       exact ⟨by first | rfl | (simp; done) | (simp only [← hji8] <;> (first | rfl | simp)) | (simp [*]; done),by repeat (first | exact Drawn0.refl _ | apply Drawn0.step)⟩
      ·rw [if_neg c11] at H
       exact absurd H (by simp)
     ·rw [if_neg c10] at H
      exact absurd H (by simp)
    ·rw [if_neg c9] at H
     exact absurd H (by simp)

end Go.Proofs.YtdfmobcocaijpaaDoor.QFnScripts
