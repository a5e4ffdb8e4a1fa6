/- What a call of each Go function that FnExactParseRules reaches comes to, as a Lean function: texts of the kit's print, turned by wip/remake.py. No condition beyond what each names. -/
import Derived.Test.YtdfmobcocaijpaaDoorQFnExactParseRulesx5
namespace Go.Proofs.YtdfmobcocaijpaaDoor.QFnExactParseRules
open Go.RowKit Go.Proofs.YtdfmobcocaijpaaDoorW.PrintWords Go.Proofs.YtdfmobcocaijpaaDoorW.PrintLast Go.Proofs.YtdfmobcocaijpaaDoorW.PrintMore
open Go.Proofs.YtdfmobcocaijpaaDoorW.PrintWords renaming blk_frozen → QB, pw_below_drewN → QC, blk_cell → QF, below_drew1 → QH, below_alloc → QI, blk_drewN → QJ, blk_alloc → QK, below_set → QL, blk_drew → QM, below_size → QR, blk_put → QT, below_step → QU, blk_below → QV
open Go.Proofs.YtdfmobcocaijpaaDoorW.PrintWords.Kd renaming R_alloc → QD, R_drewN → QE, R_drew → QG, R_types → QN, R_below → QO, R_mono → QP, R_reads' → QS
open Go.Proofs.YtdfmobcocaijpaaDoorW.PrintMore renaming far_r → QW
open List renaming setIfInBounds_toArray → QX, set_cons_zero → QY, set_cons_succ → QZ
open Go.Proofs.YtdfmobcocaijpaaDoorW.PrintWords.Aside0 renaming mk → Qa
attribute [local go_sem] max2_int min2_int max_two min_two max_three min_three max_four min_four   -- for this text's walks alone
set_option linter.unusedVariables false
set_option linter.unusedSimpArgs false

/-! ### spec_ParseRules: function 18 -/
def spec_ParseRules.l0 : Nat → ByteArray → List ByteArray → List ByteArray → List ByteArray → List Int → Int → Option (Int × Int × Bool × Bool × List Int × List Int × Int × Int × Bool)
 | 0,_,_,_,_,_,_ => none
 | k + 1,x0,x4,x5,x6,x7,x8 => if x8 < (x4.length : Int) then (if 0 ≤ x8 then (if x8 < (x5.length : Int) then ((spec_ValueAfter.f (rdOf ByteArray.empty x4 x8) (rdOf ByteArray.empty x5 x8)).bind fun bt429 => ((spec_ParseInt.f k bt429.1).bind fun bt431 => (if x6.length < 8796093022208 then (if x7.length < 17592186044416 then (spec_ParseRules.l0 k x0 x4 x5 (x6 ++ [bt429.1]) (x7 ++ [bt431.1]) (wrap64 (x8 + 1))) else (none)) else (none)))) else (none)) else (none)) else (if 0 < (x7.length : Int) then (if 1 < (x7.length : Int) then (if 2 < (x6.length : Int) then (if 5 < (x7.length : Int) then (if 6 < (x7.length : Int) then (if 3 < (x6.length : Int) then ((spec_ParsePattern.f k (rdOf ByteArray.empty x6 3)).bind fun bt447 => (if 4 < (x6.length : Int) then ((spec_ParsePattern.f k (rdOf ByteArray.empty x6 4)).bind fun bt452 => (if x0.toList = ([] : List UInt8) then (some (0,0,false,false,([] : List Int),([] : List Int),0,0,false)) else ((spec_RulesText.f k (rd x7 0) (rd x7 1) ((rdOf ByteArray.empty x6 2).toList == ([115,117,105,116] : List UInt8) || (rdOf ByteArray.empty x6 2).toList == ([98,111,116,104] : List UInt8)) ((rdOf ByteArray.empty x6 2).toList == ([114,97,110,107] : List UInt8) || (rdOf ByteArray.empty x6 2).toList == ([98,111,116,104] : List UInt8)) bt447.1 bt452.1 (rd x7 5) (rd x7 6)).bind fun t456 => (if t456.toList = x0.toList then (some (rd x7 0,rd x7 1,((rdOf ByteArray.empty x6 2).toList == ([115,117,105,116] : List UInt8) || (rdOf ByteArray.empty x6 2).toList == ([98,111,116,104] : List UInt8)),((rdOf ByteArray.empty x6 2).toList == ([114,97,110,107] : List UInt8) || (rdOf ByteArray.empty x6 2).toList == ([98,111,116,104] : List UInt8)),bt447.1,bt452.1,rd x7 5,rd x7 6,true)) else (some (0,0,false,false,([] : List Int),([] : List Int),0,0,false)))))) else (none))) else (none)) else (none)) else (none)) else (none)) else (none)) else (none))
def spec_ParseRules.f (k : Nat) (a0 : ByteArray) : Option (Int × Int × Bool × Bool × List Int × List Int × Int × Int × Bool) := (spec_SplitWords.f k a0 32).bind fun t415 => ((some (([(⟨#[112, 108, 97, 121, 101, 114, 115]⟩ : ByteArray), (⟨#[101, 97, 99, 104]⟩ : ByteArray), (⟨#[109, 97, 116, 99, 104]⟩ : ByteArray), (⟨#[119, 105, 108, 100]⟩ : ByteArray), (⟨#[115, 107, 105, 112]⟩ : ByteArray), (⟨#[116, 97, 107, 101]⟩ : ByteArray), (⟨#[108, 105, 109, 105, 116]⟩ : ByteArray)] : List ByteArray) : List ByteArray)).bind fun y418 => (if (t415.length : Int) = (y418.length : Int) then (spec_ParseRules.l0 k a0 t415 y418 (([] : List ByteArray)) (([] : List Int)) 0) else (some (0, 0, false, false, ([] : List Int), ([] : List Int), 0, 0, false))))
theorem spec_ParseRules.mono_l : ∀ k, (∀ y0 y1 y2 y3 y4 y5, LeO (spec_ParseRules.l0 k y0 y1 y2 y3 y4 y5) (spec_ParseRules.l0 (k + 1) y0 y1 y2 y3 y4 y5))
 | 0 => fun _ _ _ _ _ _ r h => by simp [spec_ParseRules.l0] at h
 | k + 1 => by
  have ih0 := spec_ParseRules.mono_l k
  ·intro y0 y1 y2 y3 y4 y5
   unfold spec_ParseRules.l0
   repeat' first
   | (with_reducible exact ih0 _ _ _ _ _ _)
   | (with_reducible exact spec_ParseInt.mono _ _)
   | (with_reducible exact spec_ParsePattern.mono _ _)
   | (with_reducible exact spec_RulesText.mono _ _ _ _ _ _ _ _ _)
   | (with_reducible exact spec_SplitWords.mono _ _ _)
   | (with_reducible exact LeO.refl _)
   | (with_reducible exact LeO.none _)
   | (with_reducible refine LeO.ite ?_ ?_)
   | (with_reducible refine LeO.bind ?_ (fun _ => ?_))
   | exact ih0 _ _ _ _ _ _
   | exact spec_ParseInt.mono _ _
   | exact spec_ParsePattern.mono _ _
   | exact spec_RulesText.mono _ _ _ _ _ _ _ _ _
   | exact spec_SplitWords.mono _ _ _
   | exact LeO.none _
   | refine LeO.ite ?_ ?_
   | refine LeO.bind ?_ (fun _ => ?_)
theorem spec_ParseRules.mono : ∀ a0 k, LeO (spec_ParseRules.f k a0) (spec_ParseRules.f (k + 1) a0) := by
 intro a0 k
 have ih0 := spec_ParseRules.mono_l k
 unfold spec_ParseRules.f
 repeat' first
   | (with_reducible exact ih0 _ _ _ _ _ _)
   | (with_reducible exact spec_ParseInt.mono _ _)
   | (with_reducible exact spec_ParsePattern.mono _ _)
   | (with_reducible exact spec_RulesText.mono _ _ _ _ _ _ _ _ _)
   | (with_reducible exact spec_SplitWords.mono _ _ _)
   | (with_reducible exact LeO.refl _)
   | (with_reducible exact LeO.none _)
   | (with_reducible refine LeO.ite ?_ ?_)
   | (with_reducible refine LeO.bind ?_ (fun _ => ?_))
   | exact ih0 _ _ _ _ _ _
   | exact spec_ParseInt.mono _ _
   | exact spec_ParsePattern.mono _ _
   | exact spec_RulesText.mono _ _ _ _ _ _ _ _ _
   | exact spec_SplitWords.mono _ _ _
   | exact LeO.none _
   | refine LeO.ite ?_ ?_
   | refine LeO.bind ?_ (fun _ => ?_)
def spec_ParseRules.T10 : Bool × List (List Nat × List Nat) := (true, [([], []), ([], []), ([0, 1], [0, 1]), ([2], [2]), ([], []), ([], []), ([4, 5], [4, 5]), ([6], [6]), ([3, 7], [3, 7]), ([8], [8]), ([9], [9]), ([9], [9]), ([10, 8, 0, 1, 2, 3, 4, 5, 6, 7, 8, 9, 10], [10]), ([11, 12, 0, 1, 2, 3, 4, 5, 6, 7, 8, 9, 10, 11, 12], [11])])
def spec_ParseRules.B10 : List Nat := [0, 0, 3, 7, 0, 0, 48, 112, 255, 511, 1023, 1023, 2047, 8191]
theorem spec_ParseRules.tab10 : rtab .any (opsOf Tryd.f18 10) = spec_ParseRules.T10 := by kernel_rfl
theorem spec_ParseRules.bits10 : waitsOk spec_ParseRules.T10.2 spec_ParseRules.B10 = true := by kernel_rfl
def spec_ParseRules.T14 : Bool × List (List Nat × List Nat) := (true, [([], []), ([0], [0]), ([1], [1]), ([], []), ([3], [3]), ([4], [4]), ([], []), ([6], [6]), ([7], [7]), ([8], [8]), ([9], [9]), ([10], [10]), ([11, 10], [10, 11]), ([12, 10], [10, 12]), ([13, 10], [10, 13]), ([10, 14], [10, 14]), ([], []), ([16], [16]), ([17], [17]), ([18], [18]), ([19, 10], [19]), ([20], [20]), ([21, 20], [20, 21]), ([22, 20], [20, 22]), ([23, 20], [20, 23]), ([20, 24], [20, 24]), ([], []), ([26], [26]), ([27], [27]), ([], []), ([29], [29]), ([30], [30]), ([2, 5, 15, 25, 28, 31], [2, 5, 15, 25, 28, 31]), ([], []), ([33, 32, 20, 0, 1, 2, 3, 4, 5, 6, 7, 8, 9, 10, 11, 12, 13, 14, 15, 16, 17, 18, 19, 20, 21, 22, 23, 24, 25, 26, 27, 28, 29, 30, 31, 32, 33], [32, 33])])
def spec_ParseRules.B14 : List Nat := [0, 1, 3, 0, 8, 24, 0, 64, 192, 448, 960, 1984, 4032, 8128, 16320, 32704, 0, 65536, 196608, 458752, 985024, 2033600, 4130752, 8325056, 16713664, 33490880, 0, 67108864, 201326592, 0, 536870912, 1610612736, 4294967295, 0, 17179869183]
theorem spec_ParseRules.tab14 : rtab .any (opsOf Tryd.f18 14) = spec_ParseRules.T14 := by kernel_rfl
theorem spec_ParseRules.bits14 : waitsOk spec_ParseRules.T14.2 spec_ParseRules.B14 = true := by kernel_rfl
set_option maxHeartbeats 8000000 in
set_option maxRecDepth 100000 in
theorem spec_ParseRules.calls (k : Nat) (a0 : ByteArray) (r1 : Int) (r2 : Int) (r3 : Bool) (r4 : Bool) (r5 : List Int) (r6 : List Int) (r7 : Int) (r8 : Int) (r9 : Bool) (w : World) (h : spec_ParseRules.f k a0 = some (r1, r2, r3, r4, r5, r6, r7, r8, r9)) :
  Calls Tryd.prog 18 #[.string a0] w fun e w' => ∃ v4_ v5_ : Value,e = .returned (.tuple #[.agg #[.int .i64 r1,.int .i64 r2,.bool r3,.bool r4,v4_,v5_,.int .i64 r7,.int .i64 r8],.bool r9]) ∧ Kd.R (Kd.int .i64) 3 w' w.heap.size (fun k_ => some k_ ≠ (v5_ : Value).ownBlock) v4_ r5 ∧ Kd.R (Kd.int .i64) 3 w' w.heap.size (fun k_ => some k_ ≠ (v4_ : Value).ownBlock) v5_ r6 ∧ Below w.heap.size w w' := by
 have hu26 := Tryd.underlying26
 have HB := Qa (Below.refl w.heap.size w)
 have H : ((spec_SplitWords.f k a0 32).bind fun t415 => ((some (([(⟨#[112,108,97,121,101,114,115]⟩ : ByteArray),(⟨#[101,97,99,104]⟩ : ByteArray),(⟨#[109,97,116,99,104]⟩ : ByteArray),(⟨#[119,105,108,100]⟩ : ByteArray),(⟨#[115,107,105,112]⟩ : ByteArray),(⟨#[116,97,107,101]⟩ : ByteArray),(⟨#[108,105,109,105,116]⟩ : ByteArray)] : List ByteArray) : List ByteArray)).bind fun y418 => (if (t415.length : Int) = (y418.length : Int) then (spec_ParseRules.l0 k a0 t415 y418 (([] : List ByteArray)) (([] : List Int)) 0) else (some (0,0,false,false,([] : List Int),([] : List Int),0,0,false))))) = some (r1,r2,r3,r4,r5,r6,r7,r8,r9) := h
 clear h
 replace H := Option.bind_eq_some_iff.mp H
 obtain ⟨t415,A20,H⟩ := H
 replace H : ((some (([(⟨#[112,108,97,121,101,114,115]⟩ : ByteArray),(⟨#[101,97,99,104]⟩ : ByteArray),(⟨#[109,97,116,99,104]⟩ : ByteArray),(⟨#[119,105,108,100]⟩ : ByteArray),(⟨#[115,107,105,112]⟩ : ByteArray),(⟨#[116,97,107,101]⟩ : ByteArray),(⟨#[108,105,109,105,116]⟩ : ByteArray)] : List ByteArray) : List ByteArray)).bind fun y418 => (if (t415.length : Int) = (y418.length : Int) then (spec_ParseRules.l0 k a0 t415 y418 (([] : List ByteArray)) (([] : List Int)) 0) else (some (0,0,false,false,([] : List Int),([] : List Int),0,0,false)))) = some (r1,r2,r3,r4,r5,r6,r7,r8,r9) := H
 have A2 := Qa A20
 clear A20
 obtain ⟨y418,hy418⟩ : ∃ y_ : List ByteArray,y_ = (([(⟨#[112,108,97,121,101,114,115]⟩ : ByteArray),(⟨#[101,97,99,104]⟩ : ByteArray),(⟨#[109,97,116,99,104]⟩ : ByteArray),(⟨#[119,105,108,100]⟩ : ByteArray),(⟨#[115,107,105,112]⟩ : ByteArray),(⟨#[116,97,107,101]⟩ : ByteArray),(⟨#[108,105,109,105,116]⟩ : ByteArray)] : List ByteArray)) := ⟨_,rfl⟩
 replace H : (if (t415.length : Int) = (y418.length : Int) then (spec_ParseRules.l0 k a0 t415 y418 (([] : List ByteArray)) (([] : List Int)) 0) else (some (0,0,false,false,([] : List Int),([] : List Int),0,0,false))) = some (r1,r2,r3,r4,r5,r6,r7,r8,r9) := by first | (rw [hy418]; with_reducible exact H) | (have H2_ := (Option.bind_some _ _).symm.trans H; rw [hy418]; with_reducible exact H2_) | (have H2_ := (Option.bind_some _ _).symm.trans H; with_reducible exact H2_) | with_reducible exact H | (rw [hy418]; exact H) | exact H
 have Ny418 := Qa hy418
 clear hy418
 by_cases c3 : (t415.length : Int) = (y418.length : Int)
 ·rw [if_pos c3] at H
  have c3b0 : ((t415.length : Int) == (y418.length : Int)) = true := beq_iff_eq.mpr c3
  have c3b1 : ((t415.length : Int) != (y418.length : Int)) = false := bne_eq_false_iff_eq.mpr c3
  have c3b2 : (t415.length == y418.length) = true := by first | simpa using c3 | (simp at c3 ⊢; omega)
  clear c3
  obtain ⟨y421,hy421⟩ : ∃ y_ : List ByteArray,y_ = (([] : List ByteArray)) := ⟨_,rfl⟩
  replace H : (spec_ParseRules.l0 k a0 t415 y418 y421 (([] : List Int)) 0) = some (r1,r2,r3,r4,r5,r6,r7,r8,r9) := by first | (rw [hy421]; with_reducible exact H) | (have H2_ := (Option.bind_some _ _).symm.trans H; rw [hy421]; with_reducible exact H2_) | (have H2_ := (Option.bind_some _ _).symm.trans H; with_reducible exact H2_) | with_reducible exact H | (rw [hy421]; exact H) | exact H
  have Ny421 := Qa hy421
  clear hy421
  obtain ⟨y424,hy424⟩ : ∃ y_ : List Int,y_ = (([] : List Int)) := ⟨_,rfl⟩
  replace H : (spec_ParseRules.l0 k a0 t415 y418 y421 y424 0) = some (r1,r2,r3,r4,r5,r6,r7,r8,r9) := by first | (rw [hy424]; with_reducible exact H) | (have H2_ := (Option.bind_some _ _).symm.trans H; rw [hy424]; with_reducible exact H2_) | (have H2_ := (Option.bind_some _ _).symm.trans H; with_reducible exact H2_) | with_reducible exact H | (rw [hy424]; exact H) | exact H
  have Ny424 := Qa hy424
  clear hy424
  have H' := Qa H
  clear H
  go_enter Tryd.func18,Tryd.ntmps18
  go_wp2_with (first | ((with_reducible refine gate_dst (N := 2) rfl ?_); refine box_event ?hg (N := 2) ?hd (cs := #[.int .i64 0,.int .i64 0,.bool false,.bool false,.slice none 0 0,.slice none 0 0,.int .i64 0,.int .i64 0]) (t := 26) ?hr ?_; (case hd => rfl); (case hg => rfl); (case hr => first | (go_simp; done) | (go_simp; rfl)); intro gb414 hg w4 hbox hb; have n0_ := Qa (QU (by repeat (first | (with_reducible first | exact HB.out | apply QI | apply QC | apply QH) | exact HB.out)) hb); have n1_ := Qa (hbox); have n2_ := Qa ((by rw [hg]; exact (QR (by repeat (first | (with_reducible first | exact HB.out | apply QI | apply QC | apply QH) | exact HB.out))) : w.heap.size ≤ gb414)); have n3_ := Qa ((by rw [hg]; exact (QR (by repeat (first | (with_reducible first | exact HB.out | apply QI | apply QC | apply QH) | exact HB.out))) : w.heap.size ≤ gb414)); clear HB; revert n0_ n1_ n2_ n3_; intro HB BK414 GW414 GE414; clear hb hbox hg) | ((with_reducible refine gate_callee (f := 40) rfl ?_); refine goesL_ (some 15) rfl rfl Tryd.func40 (by kernel_rfl) rfl #[.string a0,.int .u8 32] rfl (by (try simp only [List.map_toArray,List.map_cons,List.map_nil]); first | done | rfl | (simp only [List.length_drop,List.length_take]; rfl)) ?_; (with_reducible refine (spec_SplitWords.calls k a0 32 t415 _ A2.out).mono ?_); rintro e w5 ⟨v416,rfl,ho0,hb⟩; refine ⟨_,rfl,?_⟩; have n0_ := Qa (Kd.R_lower ho0 (QR (by repeat (first | (with_reducible first | exact HB.out | apply QI | apply QC | apply QH | refine QL ?_ GE414.out) | exact HB.out)))); have n1_ := Qa (QV (g := gb414) (o := .cells #[.int .i64 0,.int .i64 0,.bool false,.bool false,.slice none 0 0,.slice none 0 0,.int .i64 0,.int .i64 0] 26 (0,0)) (by (with_reducible repeat (first | refine QJ ?_ _ | refine QM ?_ | refine QK ?_ _)); exact BK414.out) hb); have n2_ := Qa (QU (by repeat (first | (with_reducible first | exact HB.out | apply QI | apply QC | apply QH | refine QL ?_ GE414.out) | exact HB.out)) hb); clear BK414; clear HB; revert n0_ n1_ n2_; intro HO417 BK414 HB; (try clear hb); (try clear hb2); (try clear hk); (try clear hi); (try clear ho0)) | ((with_reducible refine gate_dst (N := 16) rfl ?_); refine Kd.R_lit Kd.string _ 9 ?hg (N := 16) ?hd (xs := ([(⟨#[112,108,97,121,101,114,115]⟩ : ByteArray),(⟨#[101,97,99,104]⟩ : ByteArray),(⟨#[109,97,116,99,104]⟩ : ByteArray),(⟨#[119,105,108,100]⟩ : ByteArray),(⟨#[115,107,105,112]⟩ : ByteArray),(⟨#[116,97,107,101]⟩ : ByteArray),(⟨#[108,105,109,105,116]⟩ : ByteArray)] : List ByteArray)) (inner := [.string (⟨#[112,108,97,121,101,114,115]⟩ : ByteArray),.string (⟨#[101,97,99,104]⟩ : ByteArray),.string (⟨#[109,97,116,99,104]⟩ : ByteArray),.string (⟨#[119,105,108,100]⟩ : ByteArray),.string (⟨#[115,107,105,112]⟩ : ByteArray),.string (⟨#[116,97,107,101]⟩ : ByteArray),.string (⟨#[108,105,109,105,116]⟩ : ByteArray)]) (ok := fun _ => True) (okp := fun _ => True) ?hr ?hp (fun _ hk => hk) trivial (Below.refl _ _) (Nat.le_refl _) (by simp) ?_; (case hd => rfl); (case hg => rfl); (case hr => first | (go_simp; done) | (go_simp; rfl)); (case hp => exact (Reps.one (show Kd.M Kd.string _ _ _ (⟨#[112,108,97,121,101,114,115]⟩ : ByteArray) [.string (⟨#[112,108,97,121,101,114,115]⟩ : ByteArray)] from rfl) (Reps.one (show Kd.M Kd.string _ _ _ (⟨#[101,97,99,104]⟩ : ByteArray) [.string (⟨#[101,97,99,104]⟩ : ByteArray)] from rfl) (Reps.one (show Kd.M Kd.string _ _ _ (⟨#[109,97,116,99,104]⟩ : ByteArray) [.string (⟨#[109,97,116,99,104]⟩ : ByteArray)] from rfl) (Reps.one (show Kd.M Kd.string _ _ _ (⟨#[119,105,108,100]⟩ : ByteArray) [.string (⟨#[119,105,108,100]⟩ : ByteArray)] from rfl) (Reps.one (show Kd.M Kd.string _ _ _ (⟨#[115,107,105,112]⟩ : ByteArray) [.string (⟨#[115,107,105,112]⟩ : ByteArray)] from rfl) (Reps.one (show Kd.M Kd.string _ _ _ (⟨#[116,97,107,101]⟩ : ByteArray) [.string (⟨#[116,97,107,101]⟩ : ByteArray)] from rfl) (Reps.one (show Kd.M Kd.string _ _ _ (⟨#[108,105,109,105,116]⟩ : ByteArray) [.string (⟨#[108,105,109,105,116]⟩ : ByteArray)] from rfl) (Reps.none _ _))))))))); intro v419 w6 ho7 hb hg_ hnew_; clear hg_ hnew_; (first | rw [← Ny418.out] at ho7 | (simp only [Int.reduceToNat] at ho7; rw [← Ny418.out] at ho7)); have n0_ := Qa (Kd.R_elder' (by (with_reducible repeat (first | apply QD | apply QE | apply QG)); exact HO417.out) (Kd.R_base ho7) hb); have n1_ := Qa (Kd.R_lower (Kd.R_new' ho7 (Kd.R_lt (by (with_reducible repeat (first | apply QD | apply QE | apply QG)); exact HO417.out))) (QR (by repeat (first | (with_reducible first | exact HB.out | apply QI | apply QC | apply QH | refine QL ?_ GE414.out) | exact HB.out)))); have n2_ := Qa (QV (g := gb414) (o := .cells #[.int .i64 0,.int .i64 0,.bool false,.bool false,.slice none 0 0,.slice none 0 0,.int .i64 0,.int .i64 0] 26 (0,0)) (by (with_reducible repeat (first | refine QJ ?_ _ | refine QM ?_ | refine QK ?_ _)); exact BK414.out) hb); have n3_ := Qa (QU (by repeat (first | (with_reducible first | exact HB.out | apply QI | apply QC | apply QH | refine QL ?_ GE414.out) | exact HB.out)) hb); clear HO417; clear BK414; clear HB; revert n0_ n1_ n2_ n3_; intro HO417 HO420 BK414 HB; clear hb ho7; obtain ⟨Ao8,co8,eo8⟩ := Kd.R_slice HO417.out; subst eo8; obtain ⟨Ao9,co9,eo9⟩ := Kd.R_slice HO420.out; subst eo9) | ((with_reducible refine gate_dst (N := 23) rfl ?_); refine Kd.R_lit Kd.string _ 9 ?hg (N := 23) ?hd (xs := ([] : List ByteArray)) (inner := []) (ok := fun _ => True) (okp := fun _ => True) ?hr ?hp (fun _ hk => hk) trivial (Below.refl _ _) (Nat.le_refl _) (by simp) ?_; (case hd => rfl); (case hg => rfl); (case hr => first | (go_simp; done) | (go_simp; rfl)); (case hp => exact (Reps.none _ _)); intro v422 w10 ho11 hb hg_ hnew_; clear hg_ hnew_; (first | rw [← Ny421.out] at ho11 | (simp only [Int.reduceToNat] at ho11; rw [← Ny421.out] at ho11)); have n0_ := Qa (Kd.R_elder' (by (with_reducible repeat (first | apply QD | apply QE | apply QG)); exact HO417.out) (Kd.R_base ho11) hb); have n1_ := Qa (Kd.R_elder' (by (with_reducible repeat (first | apply QD | apply QE | apply QG)); exact HO420.out) (Kd.R_base ho11) hb); have n2_ := Qa (Kd.R_lower (Kd.R_new' (Kd.R_new' ho11 (Kd.R_lt (by (with_reducible repeat (first | apply QD | apply QE | apply QG)); exact HO417.out))) (Kd.R_lt (by (with_reducible repeat (first | apply QD | apply QE | apply QG)); exact HO420.out))) (QR (by repeat (first | (with_reducible first | exact HB.out | apply QI | apply QC | apply QH | refine QL ?_ GE414.out) | exact HB.out)))); have n3_ := Qa (QV (g := gb414) (o := .cells #[.int .i64 0,.int .i64 0,.bool false,.bool false,.slice none 0 0,.slice none 0 0,.int .i64 0,.int .i64 0] 26 (0,0)) (by (with_reducible repeat (first | refine QJ ?_ _ | refine QM ?_ | refine QK ?_ _)); exact BK414.out) hb); have n4_ := Qa (QU (by repeat (first | (with_reducible first | exact HB.out | apply QI | apply QC | apply QH | refine QL ?_ GE414.out) | exact HB.out)) hb); clear HO417; clear HO420; clear BK414; clear HB; revert n0_ n1_ n2_ n3_ n4_; intro HO417 HO420 HO423 BK414 HB; clear hb ho11) | ((with_reducible refine gate_dst (N := 24) rfl ?_); refine Kd.R_lit (Kd.int .i64) _ 3 ?hg (N := 24) ?hd (xs := ([] : List Int)) (inner := []) (ok := fun _ => True) (okp := fun _ => True) ?hr ?hp (fun _ hk => hk) trivial (Below.refl _ _) (Nat.le_refl _) (by simp) ?_; (case hd => rfl); (case hg => rfl); (case hr => first | (go_simp; done) | (go_simp; rfl)); (case hp => exact (Reps.none _ _)); intro v425 w12 ho13 hb hg_ hnew_; clear hg_ hnew_; (first | rw [← Ny424.out] at ho13 | (simp only [Int.reduceToNat] at ho13; rw [← Ny424.out] at ho13)); have n0_ := Qa (QO (by (with_reducible repeat (first | apply QD | apply QE | apply QG)); exact HO417.out) hb); have n1_ := Qa (QO (by (with_reducible repeat (first | apply QD | apply QE | apply QG)); exact HO420.out) hb); have n2_ := Qa (QO (by (with_reducible repeat (first | apply QD | apply QE | apply QG)); exact HO423.out) hb); have n3_ := Qa (Kd.R_lower ho13 (QR (by repeat (first | (with_reducible first | exact HB.out | apply QI | apply QC | apply QH | refine QL ?_ GE414.out) | exact HB.out)))); have n4_ := Qa (QV (g := gb414) (o := .cells #[.int .i64 0,.int .i64 0,.bool false,.bool false,.slice none 0 0,.slice none 0 0,.int .i64 0,.int .i64 0] 26 (0,0)) (by (with_reducible repeat (first | refine QJ ?_ _ | refine QM ?_ | refine QK ?_ _)); exact BK414.out) hb); have n5_ := Qa (QU (by repeat (first | (with_reducible first | exact HB.out | apply QI | apply QC | apply QH | refine QL ?_ GE414.out) | exact HB.out)) hb); clear HO417; clear HO420; clear HO423; clear BK414; clear HB; revert n0_ n1_ n2_ n3_ n4_ n5_; intro HO417 HO420 HO423 HO426 BK414 HB; clear hb ho13))
  go_loopg [6,7,8] k (fun kq v6 v7 v8 w' => ∃ (x6_1 : List ByteArray) (x7_1 : List Int) (x8_1 : Int),v8 = .int .i64 x8_1 ∧ Aside0 (spec_ParseRules.l0 kq a0 t415 y418 x6_1 x7_1 x8_1 = some (r1,r2,r3,r4,r5,r6,r7,r8,r9)) ∧ Aside0 (kq ≤ k) ∧ Aside0 (Kd.R Kd.string 9 w' w.heap.size (fun k_ => some k_ ≠ ((.slice Ao9 y418.length co9) : Value).ownBlock ∧ some k_ ≠ (v6 : Value).ownBlock) (.slice Ao8 t415.length co8) t415) ∧ Aside0 (Kd.R Kd.string 9 w' w.heap.size (fun k_ => some k_ ≠ ((.slice Ao8 t415.length co8) : Value).ownBlock ∧ some k_ ≠ (v6 : Value).ownBlock) (.slice Ao9 y418.length co9) y418) ∧ Aside0 (Kd.R Kd.string 9 w' w.heap.size (fun k_ => some k_ ≠ ((.slice Ao8 t415.length co8) : Value).ownBlock ∧ some k_ ≠ ((.slice Ao9 y418.length co9) : Value).ownBlock) v6 x6_1) ∧ Aside0 (Kd.R (Kd.int .i64) 3 w' w.heap.size (fun _ => True) v7 x7_1) ∧ Aside0 (w'.heap[gb414]? = some (.cells #[.int .i64 0,.int .i64 0,.bool false,.bool false,(.slice none 0 0),(.slice none 0 0),.int .i64 0,.int .i64 0] 26 (0,0))) ∧ Aside0 (Below w.heap.size w w'))
  case atStart => exact ⟨(y421),(y424),(0),(by first | rfl | (simp; done) | (simp [*]; done)),H',⟨Nat.le_refl _⟩,⟨by (with_reducible repeat (first | apply QD | apply QE | apply QG)); exact QP HO417.out (fun _ hk => ⟨hk.1.2,hk.2⟩)⟩,⟨by (with_reducible repeat (first | apply QD | apply QE | apply QG)); exact QP HO420.out (fun _ hk => ⟨hk.1.2,hk.2⟩)⟩,⟨by (with_reducible repeat (first | apply QD | apply QE | apply QG)); exact QP HO423.out (fun _ hk => ⟨hk.1.2,hk.2⟩)⟩,⟨by (with_reducible repeat (first | apply QD | apply QE | apply QG)); exact HO426.out⟩,⟨by (with_reducible repeat (first | refine QJ ?_ _ | refine QM ?_ | refine QK ?_ _)); exact BK414.out⟩,⟨by repeat (first | (with_reducible first | exact HB.out | apply QI | apply QC | apply QH | refine QL ?_ GE414.out) | exact HB.out)⟩⟩
  case round =>
   clear H'
   try clear c1
   try clear p2
   try clear c3
   try clear c3b0
   try clear c3b1
   try clear c3b2
   try clear c4
   obtain ⟨x6_1,x7_1,x8_1,rfl,HA,HK1,HO_4,HO_5,HO_6,HO_7,BK414,HB⟩ := hrel
   cases gk with
   | zero => exact absurd HA.out (by simp [spec_ParseRules.l0])
   | succ k1 =>
    have H := HA.out
    clear HA
    simp only [spec_ParseRules.l0] at H
    generalize hb2_ : ((rdOf ByteArray.empty x6_1 2).toList == ([115,117,105,116] : List UInt8) || (rdOf ByteArray.empty x6_1 2).toList == ([98,111,116,104] : List UInt8)) = b2_ at H
    generalize hb3_ : ((rdOf ByteArray.empty x6_1 2).toList == ([114,97,110,107] : List UInt8) || (rdOf ByteArray.empty x6_1 2).toList == ([98,111,116,104] : List UInt8)) = b3_ at H
    by_cases c14 : x8_1 < (t415.length : Int)
    ·rw [if_pos c14] at H
     have c14b0 : decide (x8_1 < (t415.length : Int)) = true := decide_eq_true c14
     clear c14
     by_cases c15 : 0 ≤ x8_1
     ·rw [if_pos c15] at H
      have c15b0 : decide (0 ≤ x8_1) = true := decide_eq_true c15
      clear c15
      by_cases c16 : x8_1 < (y418.length : Int)
      ·rw [if_pos c16] at H
       have c16b0 : decide (x8_1 < (y418.length : Int)) = true := decide_eq_true c16
       clear c16
       replace H := Option.bind_eq_some_iff.mp H
       obtain ⟨⟨t429,t430⟩,A170,H⟩ := H
       replace H : ((spec_ParseInt.f k1 t429).bind fun bt431 => (if x6_1.length < 8796093022208 then (if x7_1.length < 17592186044416 then (spec_ParseRules.l0 k1 a0 t415 y418 (x6_1 ++ [t429]) (x7_1 ++ [bt431.1]) (wrap64 (x8_1 + 1))) else (none)) else (none))) = some (r1,r2,r3,r4,r5,r6,r7,r8,r9) := H
       have A17 := Qa A170
       clear A170
       replace H := Option.bind_eq_some_iff.mp H
       obtain ⟨⟨t431,t432⟩,A180,H⟩ := H
       replace H : (if x6_1.length < 8796093022208 then (if x7_1.length < 17592186044416 then (spec_ParseRules.l0 k1 a0 t415 y418 (x6_1 ++ [t429]) (x7_1 ++ [t431]) (wrap64 (x8_1 + 1))) else (none)) else (none)) = some (r1,r2,r3,r4,r5,r6,r7,r8,r9) := H
       have A18 := Qa A180
       clear A180
       by_cases c19 : x6_1.length < 8796093022208
       ·rw [if_pos c19] at H
        have LMc19 := Qa c19
        clear c19
        obtain ⟨y433,hy433⟩ : ∃ y_ : List ByteArray,y_ = (x6_1 ++ [t429]) := ⟨_,rfl⟩
        replace H : (if x7_1.length < 17592186044416 then (spec_ParseRules.l0 k1 a0 t415 y418 y433 (x7_1 ++ [t431]) (wrap64 (x8_1 + 1))) else (none)) = some (r1,r2,r3,r4,r5,r6,r7,r8,r9) := by first | (rw [hy433]; with_reducible exact H) | (have H2_ := (Option.bind_some _ _).symm.trans H; rw [hy433]; with_reducible exact H2_) | (have H2_ := (Option.bind_some _ _).symm.trans H; with_reducible exact H2_) | with_reducible exact H | (rw [hy433]; exact H) | exact H
        have Ny433 := Qa hy433
        clear hy433
        by_cases c20 : x7_1.length < 17592186044416
        ·rw [if_pos c20] at H
         have LMc20 := Qa c20
         clear c20
         obtain ⟨y436,hy436⟩ : ∃ y_ : List Int,y_ = (x7_1 ++ [t431]) := ⟨_,rfl⟩
         replace H : (spec_ParseRules.l0 k1 a0 t415 y418 y433 y436 (wrap64 (x8_1 + 1))) = some (r1,r2,r3,r4,r5,r6,r7,r8,r9) := by first | (rw [hy436]; with_reducible exact H) | (have H2_ := (Option.bind_some _ _).symm.trans H; rw [hy436]; with_reducible exact H2_) | (have H2_ := (Option.bind_some _ _).symm.trans H; with_reducible exact H2_) | with_reducible exact H | (rw [hy436]; exact H) | exact H
         have Ny436 := Qa hy436
         clear hy436
         have H' := Qa H
         clear H
         try go_wp2
         have n0_ := Qa (QG HO_4.out)
         have n1_ := Qa (QG HO_5.out)
         have n2_ := Qa (QG HO_6.out)
         have n3_ := Qa (QG HO_7.out)
         have n4_ := Qa (QM BK414.out)
         have n5_ := Qa (QH HB.out)
         clear HO_4
         clear HO_5
         clear HO_6
         clear HO_7
         clear BK414
         clear HB
         revert n0_ n1_ n2_ n3_ n4_ n5_
         intro HO_4 HO_5 HO_6 HO_7 BK414 HB
         have p427 : 0 ≤ (x8_1 : Int) := of_decide_eq_true (by first | (with_reducible assumption) | assumption)
         have q427 : x8_1 < (t415.length : Int) := of_decide_eq_true (by first | (with_reducible assumption) | assumption)
         obtain ⟨ad427,e427,hx427_0⟩ := Kd.at_string (QS HO_4.out).2.2 x8_1 p427 q427
         cases e427
         replace p427 := eq_true p427
         replace q427 := eq_true q427
         have p428 : 0 ≤ (x8_1 : Int) := of_decide_eq_true (by first | (with_reducible assumption) | assumption)
         have q428 : x8_1 < (y418.length : Int) := of_decide_eq_true (by first | (with_reducible assumption) | assumption)
         obtain ⟨ad428,e428,hx428_0⟩ := Kd.at_string (QS HO_5.out).2.2 x8_1 p428 q428
         cases e428
         replace p428 := eq_true p428
         replace q428 := eq_true q428
         refine start_ (n := 14) (S := fun w' => w'.cell? (ad427.add (x8_1).toNat) = some (.string (rdOf ByteArray.empty t415 x8_1)) ∧ w'.cell? (ad428.add (x8_1).toNat) = some (.string (rdOf ByteArray.empty y418 x8_1))) (ds := []) #[false,false,false,false,false,false,false,false,false,false,false,false,false,false] (by kernel_rfl) rfl rfl ⟨hx427_0,hx428_0⟩ (fun hHeld => ?_); refine with_tabW spec_ParseRules.tab10 spec_ParseRules.bits10 (fun HT_ HW_ => ?_)
         generalize wr.drew = w21 at HO_4 HO_5 HO_6 HO_7 BK414 HB hx427_0 hx428_0 hHeld ⊢
         refine pure_ (i := 0) (N := some 32) (v := ?_) (a' := ?_) #[true,false,false,false,false,false,false,false,false,false,false,false,false,false] rfl rfl (any_of HT_.out (by kernel_rfl)) (fun _ _ _ h => h) (Or.inl ⟨by rfl,?_⟩) ?_ ?_
         rotate_left
         ·intro w'
          go_simp
          with_reducible rfl
         rotate_left
         ·simp only [Act.put,QX,QY,QZ,i64_w,i32_w]
          rfl
         refine pure_ (i := 1) (N := some 33) (v := ?_) (a' := ?_) #[true,true,false,false,false,false,false,false,false,false,false,false,false,false] rfl rfl (any_of HT_.out (by kernel_rfl)) (fun _ _ _ h => h) (Or.inl ⟨by rfl,?_⟩) ?_ ?_
         rotate_left
         ·intro w'
          go_simp
          with_reducible rfl
         rotate_left
         ·simp only [Act.put,QX,QY,QZ,i64_w,i32_w]
          rfl
         refine pure_ (i := 2) (N := some 34) (v := ?_) (a' := ?_) #[true,true,true,false,false,false,false,false,false,false,false,false,false,false] rfl rfl (any_of HT_.out (by kernel_rfl)) (fun _ _ _ h => h) (Or.inl ⟨by rfl,?_⟩) ?_ ?_
         rotate_left
         ·intro w'
          go_simp
          with_reducible rfl
         rotate_left
         ·simp only [Act.put,QX,QY,QZ,i64_w,i32_w]
          rfl
         refine pure_ (i := 4) (N := some 36) (v := ?_) (a' := ?_) #[true,true,true,false,true,false,false,false,false,false,false,false,false,false] rfl rfl (any_of HT_.out (by kernel_rfl)) (fun _ _ _ h => h) (Or.inl ⟨by rfl,?_⟩) ?_ ?_
         rotate_left
         ·intro w'
          go_simp
          with_reducible rfl
         rotate_left
         ·simp only [Act.put,QX,QY,QZ,i64_w,i32_w]
          rfl
         refine pure_ (i := 5) (N := some 37) (v := ?_) (a' := ?_) #[true,true,true,false,true,true,false,false,false,false,false,false,false,false] rfl rfl (any_of HT_.out (by kernel_rfl)) (fun _ _ _ h => h) (Or.inl ⟨by rfl,?_⟩) ?_ ?_
         rotate_left
         ·intro w'
          go_simp
          with_reducible rfl
         rotate_left
         ·simp only [Act.put,QX,QY,QZ,i64_w,i32_w]
          rfl
         refine pure_ (i := 6) (N := some 38) (v := ?_) (a' := ?_) #[true,true,true,false,true,true,true,false,false,false,false,false,false,false] rfl rfl (any_of HT_.out (by kernel_rfl)) (fun _ _ _ h => h) (Or.inl ⟨by rfl,?_⟩) ?_ ?_
         rotate_left
         ·intro w'
          go_simp
          with_reducible rfl
         rotate_left
         ·simp only [Act.put,QX,QY,QZ,i64_w,i32_w]
          rfl
         refine take_ (i := 3) (N := some 35) (v := ?_) (a' := ?_) #[true,true,true,true,true,true,true,false,false,false,false,false,false,false] rfl rfl (take_ofW HT_.out HW_.out (by kernel_rfl)) (fun _ _ _ h => h) (Or.inl ⟨by rfl,?_⟩) hHeld ?_ ?_
         rotate_left
         ·rintro w' ⟨s0,s1⟩
          go_simp
          with_reducible rfl
         rotate_left
         ·simp only [Act.put,QX,QY,QZ,i64_w,i32_w]
          rfl
         refine take_ (i := 7) (N := some 39) (v := ?_) (a' := ?_) #[true,true,true,true,true,true,true,true,false,false,false,false,false,false] rfl rfl (take_ofW HT_.out HW_.out (by kernel_rfl)) (fun _ _ _ h => h) (Or.inl ⟨by rfl,?_⟩) hHeld ?_ ?_
         rotate_left
         ·rintro w' ⟨s0,s1⟩
          go_simp
          with_reducible rfl
         rotate_left
         ·simp only [Act.put,QX,QY,QZ,i64_w,i32_w]
          rfl
         refine one_ (i := 8) (N := some 40) #[true,true,true,true,true,true,true,true,true,false,false,false,false,false] rfl rfl (one_of HT_.out (by kernel_rfl)) (by decide) (fun K hK => ?_)
         refine goes_ Tryd.func41 (by kernel_rfl) rfl #[.string (rdOf ByteArray.empty t415 x8_1),.string (rdOf ByteArray.empty y418 x8_1)] (by rfl) rfl rfl (by (try simp only [List.map_toArray,List.map_cons,List.map_nil]); first | done | rfl | (simp only [List.length_drop,List.length_take]; rfl)) ?_
         with_reducible refine (spec_ValueAfter.calls (rdOf ByteArray.empty t415 x8_1) (rdOf ByteArray.empty y418 x8_1) t429 t430 _ A17.out).mono ?_
         rintro e w' ⟨rfl,⟨nd,rfl⟩⟩
         refine ⟨_,rfl,?_⟩
         refine hK.out _ _ ⟨hHeld.1,hHeld.2⟩ (fun hHeld => ?_)
         clear hK K
         refine norm_ (a' := ?_) ?_ ?_
         rotate_left
         ·show Act.put _ (some 40) _ = _
          simp only [Act.put,QX,QY,QZ,i64_w,i32_w]
          rfl
         refine pure_ (i := 9) (N := some 31) (v := ?_) (a' := ?_) #[true,true,true,true,true,true,true,true,true,true,false,false,false,false] rfl rfl (any_of HT_.out (by kernel_rfl)) (fun _ _ _ h => h) (Or.inl ⟨by rfl,?_⟩) ?_ ?_
         rotate_left
         ·intro w'
          go_simp
          with_reducible rfl
         rotate_left
         ·simp only [Act.put,QX,QY,QZ,i64_w,i32_w]
          rfl
         refine pure_ (i := 10) (N := some 41) (v := ?_) (a' := ?_) #[true,true,true,true,true,true,true,true,true,true,true,false,false,false] rfl rfl (any_of HT_.out (by kernel_rfl)) (fun _ _ _ h => h) (Or.inl ⟨by rfl,?_⟩) ?_ ?_
         rotate_left
         ·intro w'
          go_simp
          with_reducible rfl
         rotate_left
         ·simp only [Act.put,QX,QY,QZ,i64_w,i32_w]
          rfl
         refine pure_ (i := 11) (N := some 42) (v := ?_) (a' := ?_) #[true,true,true,true,true,true,true,true,true,true,true,true,false,false] rfl rfl (any_of HT_.out (by kernel_rfl)) (fun _ _ _ h => h) (Or.inl ⟨by rfl,?_⟩) ?_ ?_
         rotate_left
         ·intro w'
          go_simp
          with_reducible rfl
         rotate_left
         ·simp only [Act.put,QX,QY,QZ,i64_w,i32_w]
          rfl
         refine pure_ (i := 12) (N := some 9) (v := ?_) (a' := ?_) #[true,true,true,true,true,true,true,true,true,true,true,true,true,false] rfl rfl (any_of HT_.out (by kernel_rfl)) (fun _ _ _ h => h) (Or.inl ⟨by rfl,?_⟩) ?_ ?_
         rotate_left
         ·intro w'
          go_simp
          with_reducible rfl
         rotate_left
         ·simp only [Act.put,QX,QY,QZ,i64_w,i32_w]
          rfl
         refine pure_ (i := 13) (N := some 10) (v := ?_) (a' := ?_) #[true,true,true,true,true,true,true,true,true,true,true,true,true,true] rfl rfl (any_of HT_.out (by kernel_rfl)) (fun _ _ _ h => h) (Or.inl ⟨by rfl,?_⟩) ?_ ?_
         rotate_left
         ·intro w'
          go_simp
          with_reducible rfl
         rotate_left
         ·simp only [Act.put,QX,QY,QZ,i64_w,i32_w]
          rfl
         refine done_ (done_of HT_.out (by kernel_rfl)) ?_
         try go_wp2_with (first | ((with_reducible refine gate_callee (f := 42) rfl ?_); refine goesL_ (some 45) rfl rfl Tryd.func42 (by kernel_rfl) rfl #[.string t429] rfl (by (try simp only [List.map_toArray,List.map_cons,List.map_nil]); first | done | rfl | (simp only [List.length_drop,List.length_take]; rfl)) ?_; (with_reducible refine (spec_ParseInt.calls k1 t429 t431 t432 _ A18.out).mono ?_); rintro e w22 ⟨rfl,hb⟩; refine ⟨_,rfl,?_⟩; have n0_ := Qa (QO (by (with_reducible repeat (first | apply QD | apply QE | apply QG)); exact HO_4.out) hb); have n1_ := Qa (QO (by (with_reducible repeat (first | apply QD | apply QE | apply QG)); exact HO_5.out) hb); have n2_ := Qa (QO (by (with_reducible repeat (first | apply QD | apply QE | apply QG)); exact HO_6.out) hb); have n3_ := Qa (QO (by (with_reducible repeat (first | apply QD | apply QE | apply QG)); exact HO_7.out) hb); have n4_ := Qa (QV (g := gb414) (o := .cells #[.int .i64 0,.int .i64 0,.bool false,.bool false,.slice none 0 0,.slice none 0 0,.int .i64 0,.int .i64 0] 26 (0,0)) (by (with_reducible repeat (first | refine QJ ?_ _ | refine QM ?_ | refine QK ?_ _)); exact BK414.out) hb); have n5_ := Qa (QU (by repeat (first | (with_reducible first | exact HB.out | apply QI | apply QC | apply QH | refine QL ?_ GE414.out) | exact HB.out)) hb); clear HO_4; clear HO_5; clear HO_6; clear HO_7; clear BK414; clear HB; revert n0_ n1_ n2_ n3_ n4_ n5_; intro HO_4 HO_5 HO_6 HO_7 BK414 HB; (try clear hb); (try clear hb2); (try clear hk); (try clear hi)) | ((with_reducible refine gate_builtin (b := .append) (xs := #[.tmp 48,.tmp 50]) rfl ?_); at_builtin; refine Kd.R_append Kd.string (w0 := w) w.heap.size rfl (.tmp 48) (.tmp 50) 36 9 (.string ⟨#[]⟩) 16 rfl Tryd.underlying36 info9 rfl (by decide) (by omega) u6 x6_1 t429 [.string t429] (fun k_ => some k_ ≠ (.slice (some ad427) t415.length co8 : Value).ownBlock ∧ some k_ ≠ (.slice (some ad428) y418.length co9 : Value).ownBlock) (fun _ => False) rfl rfl ?aP (fun _ hk => hk.elim) ?aF ?aO ?aB ?aS ?aL ?_; (case aP => exact rfl); (case aB => exact (by repeat (first | (with_reducible first | exact HB.out | apply QI | apply QC | apply QH | refine QL ?_ GE414.out) | exact HB.out))); (case aF => exact (fun k_ hk => ⟨Kd.fresh' (Kd.R_lt (by (with_reducible repeat (first | apply QD | apply QE | apply QG)); exact HO_4.out)) k_ hk,Kd.fresh' (Kd.R_lt (by (with_reducible repeat (first | apply QD | apply QE | apply QG)); exact HO_5.out)) k_ hk⟩)); (case aO => exact (by (with_reducible repeat (first | apply QD | apply QE | apply QG)); exact HO_6.out)); (case aS => exact (QR (by repeat (first | (with_reducible first | exact HB.out | apply QI | apply QC | apply QH | refine QL ?_ GE414.out) | exact HB.out)))); (case aL => have := LMc19.out; omega); intro v434 w23 ho hb hg hat; rw [← Ny433.out] at ho; have n0_ := Qa (Kd.R_after (ok := (fun k_ => some k_ ≠ (.slice (some ad428) y418.length co9 : Value).ownBlock)) (by (with_reducible repeat (first | apply QD | apply QE | apply QG)); exact HO_4.out) hg hat); have n1_ := Qa (Kd.R_after (ok := (fun k_ => some k_ ≠ (.slice (some ad427) t415.length co8 : Value).ownBlock)) (by (with_reducible repeat (first | apply QD | apply QE | apply QG)); exact HO_5.out) hg hat); have n2_ := Qa (Kd.R_over' (by (with_reducible repeat (first | apply QD | apply QE | apply QG)); exact HO_7.out) (Kd.R_typed (by (with_reducible repeat (first | apply QD | apply QE | apply QG)); exact HO_6.out)) (by decide) hg); have n3_ := Qa (blk_grown (g := gb414) (o := .cells #[.int .i64 0,.int .i64 0,.bool false,.bool false,.slice none 0 0,.slice none 0 0,.int .i64 0,.int .i64 0] 26 (0,0)) (by (with_reducible repeat (first | refine QJ ?_ _ | refine QM ?_ | refine QK ?_ _)); exact BK414.out) hg (Kd.R_ne HO_6.out BK414.out (by decide))); have n4_ := Qa (hb); have n5_ := Qa (ho); clear HO_4; clear HO_5; clear HO_7; clear BK414; clear HB; clear HO_6; revert n0_ n1_ n2_ n3_ n4_ n5_; intro HO_4 HO_5 HO_7 BK414 HB HO435; clear ho hb hg hat) | ((with_reducible refine gate_builtin (b := .append) (xs := #[.tmp 52,.tmp 54]) rfl ?_); at_builtin; refine Kd.R_append (Kd.int .i64) (w0 := w) w.heap.size rfl (.tmp 52) (.tmp 54) 24 3 (.int .i64 0) 8 rfl Tryd.underlying24 info3 rfl (by decide) (by omega) u7 x7_1 t431 [.int .i64 t431] (fun _ => True) (fun _ => False) rfl rfl ?aP (fun _ hk => hk.elim) ?aF ?aO ?aB ?aS ?aL ?_; (case aP => exact rfl); (case aB => exact (by repeat (first | (with_reducible first | exact HB.out | apply QI | apply QC | apply QH | refine QL ?_ GE414.out) | exact HB.out))); (case aF => exact (fun _ _ => trivial)); (case aO => exact (by (with_reducible repeat (first | apply QD | apply QE | apply QG)); exact HO_7.out)); (case aS => exact (QR (by repeat (first | (with_reducible first | exact HB.out | apply QI | apply QC | apply QH | refine QL ?_ GE414.out) | exact HB.out)))); (case aL => have := LMc20.out; omega); intro v437 w24 ho hb hg hat; rw [← Ny436.out] at ho; have n0_ := Qa (Kd.R_over' (by (with_reducible repeat (first | apply QD | apply QE | apply QG)); exact HO_4.out) (Kd.R_typed (by (with_reducible repeat (first | apply QD | apply QE | apply QG)); exact HO_7.out)) (by decide) hg); have n1_ := Qa (Kd.R_over' (by (with_reducible repeat (first | apply QD | apply QE | apply QG)); exact HO_5.out) (Kd.R_typed (by (with_reducible repeat (first | apply QD | apply QE | apply QG)); exact HO_7.out)) (by decide) hg); have n2_ := Qa (blk_grown (g := gb414) (o := .cells #[.int .i64 0,.int .i64 0,.bool false,.bool false,.slice none 0 0,.slice none 0 0,.int .i64 0,.int .i64 0] 26 (0,0)) (by (with_reducible repeat (first | refine QJ ?_ _ | refine QM ?_ | refine QK ?_ _)); exact BK414.out) hg (Kd.R_ne HO_7.out BK414.out (by decide))); have n3_ := Qa (Kd.R_over' (by (with_reducible repeat (first | apply QD | apply QE | apply QG)); exact HO435.out) (Kd.R_typed (by (with_reducible repeat (first | apply QD | apply QE | apply QG)); exact HO_7.out)) (by decide) hg); have n4_ := Qa (hb); have n5_ := Qa (ho); clear HO_4; clear HO_5; clear BK414; clear HO435; clear HB; clear HO_7; revert n0_ n1_ n2_ n3_ n4_ n5_; intro HO_4 HO_5 BK414 HO435 HB HO438; clear ho hb hg hat))
         go_roundg k1
         case measure => have := HK1.out; omega
         case rel => exact ⟨(y433),(y436),(wrap64 (x8_1 + 1)),(by first | rfl | (simp; done) | (simp [*]; done)),H',⟨by have := HK1.out; omega⟩,⟨by (with_reducible repeat (first | apply QD | apply QE | apply QG)); exact HO_4.out⟩,⟨by (with_reducible repeat (first | apply QD | apply QE | apply QG)); exact HO_5.out⟩,⟨by (with_reducible repeat (first | apply QD | apply QE | apply QG)); exact HO435.out⟩,⟨by (with_reducible repeat (first | apply QD | apply QE | apply QG)); exact HO438.out⟩,⟨by (with_reducible repeat (first | refine QJ ?_ _ | refine QM ?_ | refine QK ?_ _)); exact BK414.out⟩,⟨by repeat (first | (with_reducible first | exact HB.out | apply QI | apply QC | apply QH | refine QL ?_ GE414.out) | exact HB.out)⟩⟩
        ·rw [if_neg c20] at H
         exact absurd H (by simp)
       ·rw [if_neg c19] at H
        exact absurd H (by simp)
      ·rw [if_neg c16] at H
       exact absurd H (by simp)
     ·rw [if_neg c15] at H
      exact absurd H (by simp)
    ·rw [if_neg c14] at H
     have c14b0 : decide (x8_1 < (t415.length : Int)) = false := decide_eq_false c14
     clear c14
     by_cases c25 : 0 < (x7_1.length : Int)
     ·rw [if_pos c25] at H
      have c25b0 : decide (0 < (x7_1.length : Int)) = true := decide_eq_true c25
      have c25b1 : decide (0 < x7_1.length) = true := decide_eq_true (by omega)
      clear c25
      by_cases c26 : 1 < (x7_1.length : Int)
      ·rw [if_pos c26] at H
       have c26b0 : decide (1 < (x7_1.length : Int)) = true := decide_eq_true c26
       have c26b1 : decide (1 < x7_1.length) = true := decide_eq_true (by omega)
       clear c26
       by_cases c27 : 2 < (x6_1.length : Int)
       ·rw [if_pos c27] at H
        have c27b0 : decide (2 < (x6_1.length : Int)) = true := decide_eq_true c27
        have c27b1 : decide (2 < x6_1.length) = true := decide_eq_true (by omega)
        clear c27
        by_cases c28 : 5 < (x7_1.length : Int)
        ·rw [if_pos c28] at H
         have c28b0 : decide (5 < (x7_1.length : Int)) = true := decide_eq_true c28
         have c28b1 : decide (5 < x7_1.length) = true := decide_eq_true (by omega)
         clear c28
         by_cases c29 : 6 < (x7_1.length : Int)
         ·rw [if_pos c29] at H
          have c29b0 : decide (6 < (x7_1.length : Int)) = true := decide_eq_true c29
          have c29b1 : decide (6 < x7_1.length) = true := decide_eq_true (by omega)
          clear c29
          by_cases c30 : 3 < (x6_1.length : Int)
          ·rw [if_pos c30] at H
           have c30b0 : decide (3 < (x6_1.length : Int)) = true := decide_eq_true c30
           have c30b1 : decide (3 < x6_1.length) = true := decide_eq_true (by omega)
           clear c30
           replace H := Option.bind_eq_some_iff.mp H
           obtain ⟨⟨t447,t448⟩,A310,H⟩ := H
           replace H : (if 4 < (x6_1.length : Int) then ((spec_ParsePattern.f k1 (rdOf ByteArray.empty x6_1 4)).bind fun bt452 => (if a0.toList = ([] : List UInt8) then (some (0,0,false,false,([] : List Int),([] : List Int),0,0,false)) else ((spec_RulesText.f k1 (rd x7_1 0) (rd x7_1 1) b2_ b3_ t447 bt452.1 (rd x7_1 5) (rd x7_1 6)).bind fun t456 => (if t456.toList = a0.toList then (some (rd x7_1 0,rd x7_1 1,b2_,b3_,t447,bt452.1,rd x7_1 5,rd x7_1 6,true)) else (some (0,0,false,false,([] : List Int),([] : List Int),0,0,false)))))) else (none)) = some (r1,r2,r3,r4,r5,r6,r7,r8,r9) := H
           have A31 := Qa A310
           clear A310
           by_cases c32 : 4 < (x6_1.length : Int)
           ·rw [if_pos c32] at H
            have c32b0 : decide (4 < (x6_1.length : Int)) = true := decide_eq_true c32
            have c32b1 : decide (4 < x6_1.length) = true := decide_eq_true (by omega)
            clear c32
            replace H := Option.bind_eq_some_iff.mp H
            obtain ⟨⟨t452,t453⟩,A330,H⟩ := H
            replace H : (if a0.toList = ([] : List UInt8) then (some (0,0,false,false,([] : List Int),([] : List Int),0,0,false)) else ((spec_RulesText.f k1 (rd x7_1 0) (rd x7_1 1) b2_ b3_ t447 t452 (rd x7_1 5) (rd x7_1 6)).bind fun t456 => (if t456.toList = a0.toList then (some (rd x7_1 0,rd x7_1 1,b2_,b3_,t447,t452,rd x7_1 5,rd x7_1 6,true)) else (some (0,0,false,false,([] : List Int),([] : List Int),0,0,false))))) = some (r1,r2,r3,r4,r5,r6,r7,r8,r9) := H
            have A33 := Qa A330
            clear A330
            try go_wp2
            have n0_ := Qa (QG HO_4.out)
            have n1_ := Qa (QG HO_5.out)
            have n2_ := Qa (QG HO_6.out)
            have n3_ := Qa (QG HO_7.out)
            have n4_ := Qa (QM BK414.out)
            have n5_ := Qa (QH HB.out)
            clear HO_4
            clear HO_5
            clear HO_6
            clear HO_7
            clear BK414
            clear HB
            revert n0_ n1_ n2_ n3_ n4_ n5_
            intro HO_4 HO_5 HO_6 HO_7 BK414 HB
            obtain ⟨Ao36,co36,eo36⟩ := Kd.R_slice HO_7.out
            (first | subst eo36 | (injection eo36 with f1_ f2_ f3_; have f4_ := f1_.symm; have f5_ := f3_.symm; clear f1_ f2_ f3_; subst f4_; subst f5_))
            have p439 : 0 ≤ (0 : Int) := (by omega)
            have q439 : 0 < (x7_1.length : Int) := of_decide_eq_true (by first | (with_reducible assumption) | assumption)
            obtain ⟨ad439,e439,hx439_0⟩ := Kd.at_int (QS HO_7.out).2.2 0 p439 q439
            cases e439
            have qi439 : (0 < x7_1.length) = True := eq_true (by omega)
            (try rw [show ((0 : Int)).toNat = 0 from rfl] at hx439_0)
            (try rw [Addr.add_zero'] at hx439_0)
            replace p439 := eq_true p439
            replace q439 := eq_true q439
            have p440 : 0 ≤ (1 : Int) := (by omega)
            have q440 : 1 < (x7_1.length : Int) := of_decide_eq_true (by first | (with_reducible assumption) | assumption)
            obtain ⟨ad440,e440,hx440_0⟩ := Kd.at_int (QS HO_7.out).2.2 1 p440 q440
            obtain rfl : ad439 = ad440 := (by injection e440)
            (try simp only [show (1 : Int).toNat = 1 from rfl,Nat.reduceMul,Nat.reduceEqDiff,Go.Addr.add,↓reduceIte] at hx440_0)
            have qi440 : (1 < x7_1.length) = True := eq_true (by omega)
            (try rw [show ((1 : Int)).toNat = 1 from rfl] at hx440_0)
            replace p440 := eq_true p440
            replace q440 := eq_true q440
            obtain ⟨Ao37,co37,eo37⟩ := Kd.R_slice HO_6.out
            (first | subst eo37 | (injection eo37 with f1_ f2_ f3_; have f4_ := f1_.symm; have f5_ := f3_.symm; clear f1_ f2_ f3_; subst f4_; subst f5_))
            have p441 : 0 ≤ (2 : Int) := (by omega)
            have q441 : 2 < (x6_1.length : Int) := of_decide_eq_true (by first | (with_reducible assumption) | assumption)
            obtain ⟨ad441,e441,hx441_0⟩ := Kd.at_string (QS HO_6.out).2.2 2 p441 q441
            cases e441
            (try simp only [show (2 : Int).toNat = 2 from rfl,Nat.reduceMul,Nat.reduceEqDiff,Go.Addr.add,↓reduceIte] at hx441_0)
            have qi441 : (2 < x6_1.length) = True := eq_true (by omega)
            (try rw [show ((2 : Int)).toNat = 2 from rfl] at hx441_0)
            replace p441 := eq_true p441
            replace q441 := eq_true q441
            have p442 : 0 ≤ (2 : Int) := (by omega)
            have q442 : 2 < (x6_1.length : Int) := of_decide_eq_true (by first | (with_reducible assumption) | assumption)
            obtain ⟨ad442,e442,hx442_0⟩ := Kd.at_string (QS HO_6.out).2.2 2 p442 q442
            obtain rfl : ad441 = ad442 := (by injection e442)
            (try simp only [show (2 : Int).toNat = 2 from rfl,Nat.reduceMul,Nat.reduceEqDiff,Go.Addr.add,↓reduceIte] at hx442_0)
            have qi442 : (2 < x6_1.length) = True := eq_true (by omega)
            (try rw [show ((2 : Int)).toNat = 2 from rfl] at hx442_0)
            replace p442 := eq_true p442
            replace q442 := eq_true q442
            have p443 : 0 ≤ (5 : Int) := (by omega)
            have q443 : 5 < (x7_1.length : Int) := of_decide_eq_true (by first | (with_reducible assumption) | assumption)
            obtain ⟨ad443,e443,hx443_0⟩ := Kd.at_int (QS HO_7.out).2.2 5 p443 q443
            obtain rfl : ad439 = ad443 := (by injection e443)
            (try simp only [show (5 : Int).toNat = 5 from rfl,Nat.reduceMul,Nat.reduceEqDiff,Go.Addr.add,↓reduceIte] at hx443_0)
            have qi443 : (5 < x7_1.length) = True := eq_true (by omega)
            (try rw [show ((5 : Int)).toNat = 5 from rfl] at hx443_0)
            replace p443 := eq_true p443
            replace q443 := eq_true q443
            have p444 : 0 ≤ (6 : Int) := (by omega)
            have q444 : 6 < (x7_1.length : Int) := of_decide_eq_true (by first | (with_reducible assumption) | assumption)
            obtain ⟨ad444,e444,hx444_0⟩ := Kd.at_int (QS HO_7.out).2.2 6 p444 q444
            obtain rfl : ad439 = ad444 := (by injection e444)
            (try simp only [show (6 : Int).toNat = 6 from rfl,Nat.reduceMul,Nat.reduceEqDiff,Go.Addr.add,↓reduceIte] at hx444_0)
            have qi444 : (6 < x7_1.length) = True := eq_true (by omega)
            (try rw [show ((6 : Int)).toNat = 6 from rfl] at hx444_0)
            replace p444 := eq_true p444
            replace q444 := eq_true q444
            refine start_ (n := 35) (S := fun w' => w'.cell? ad439 = some (.int .i64 (rd x7_1 0)) ∧ w'.cell? ⟨ad439.block,ad439.off + 1,none⟩ = some (.int .i64 (rd x7_1 1)) ∧ w'.cell? ⟨ad441.block,ad441.off + 2,none⟩ = some (.string (rdOf ByteArray.empty x6_1 2)) ∧ w'.cell? ⟨ad441.block,ad441.off + 2,none⟩ = some (.string (rdOf ByteArray.empty x6_1 2)) ∧ w'.cell? ⟨ad439.block,ad439.off + 5,none⟩ = some (.int .i64 (rd x7_1 5)) ∧ w'.cell? ⟨ad439.block,ad439.off + 6,none⟩ = some (.int .i64 (rd x7_1 6))) (ds := []) (ab 35 0) (by kernel_rfl) rfl rfl ⟨hx439_0,hx440_0,hx441_0,hx442_0,hx443_0,hx444_0⟩ (fun hHeld => ?_); refine with_tabW spec_ParseRules.tab14 spec_ParseRules.bits14 (fun HT_ HW_ => ?_)
            generalize wr.drew = w35 at HO_4 HO_5 HO_6 HO_7 BK414 HB hx439_0 hx440_0 hx441_0 hx442_0 hx443_0 hx444_0 hHeld ⊢
            refine pure_ (i := 0) (N := some 56) (v := ?_) (a' := ?_) (ab 35 1) rfl rfl (any_of HT_.out (by kernel_rfl)) (fun _ _ _ h => h) (Or.inl ⟨by rfl,?_⟩) ?_ ?_
            rotate_left
            ·intro w'
             go_simp
             with_reducible rfl
            rotate_left
            ·simp only [Act.put,QX,QY,QZ,i64_w,i32_w]
             rfl
            refine pure_ (i := 1) (N := some 57) (v := ?_) (a' := ?_) (ab 35 3) rfl rfl (any_of HT_.out (by kernel_rfl)) (fun _ _ _ h => h) (Or.inl ⟨by rfl,?_⟩) ?_ ?_
            rotate_left
            ·intro w'
             go_simp
             with_reducible rfl
            rotate_left
            ·simp only [Act.put,QX,QY,QZ,i64_w,i32_w]
             rfl
            refine pure_ (i := 3) (N := some 59) (v := ?_) (a' := ?_) (ab 35 11) rfl rfl (any_of HT_.out (by kernel_rfl)) (fun _ _ _ h => h) (Or.inl ⟨by rfl,?_⟩) ?_ ?_
            rotate_left
            ·intro w'
             go_simp
             with_reducible rfl
            rotate_left
            ·simp only [Act.put,QX,QY,QZ,i64_w,i32_w]
             rfl
            refine pure_ (i := 4) (N := some 60) (v := ?_) (a' := ?_) (ab 35 27) rfl rfl (any_of HT_.out (by kernel_rfl)) (fun _ _ _ h => h) (Or.inl ⟨by rfl,?_⟩) ?_ ?_
            rotate_left
            ·intro w'
             go_simp
             with_reducible rfl
            rotate_left
            ·simp only [Act.put,QX,QY,QZ,i64_w,i32_w]
             rfl
            refine pure_ (i := 6) (N := some 62) (v := ?_) (a' := ?_) (ab 35 91) rfl rfl (any_of HT_.out (by kernel_rfl)) (fun _ _ _ h => h) (Or.inl ⟨by rfl,?_⟩) ?_ ?_
            rotate_left
            ·intro w'
             go_simp
             with_reducible rfl
            rotate_left
            ·simp only [Act.put,QX,QY,QZ,i64_w,i32_w]
             rfl
            refine pure_ (i := 7) (N := some 63) (v := ?_) (a' := ?_) (ab 35 219) rfl rfl (any_of HT_.out (by kernel_rfl)) (fun _ _ _ h => h) (Or.inl ⟨by rfl,?_⟩) ?_ ?_
            rotate_left
            ·intro w'
             go_simp
             with_reducible rfl
            rotate_left
            ·simp only [Act.put,QX,QY,QZ,i64_w,i32_w]
             rfl
            refine pure_ (i := 16) (N := some 72) (v := ?_) (a' := ?_) (ab 35 65755) rfl rfl (any_of HT_.out (by kernel_rfl)) (fun _ _ _ h => h) (Or.inl ⟨by rfl,?_⟩) ?_ ?_
            rotate_left
            ·intro w'
             go_simp
             with_reducible rfl
            rotate_left
            ·simp only [Act.put,QX,QY,QZ,i64_w,i32_w]
             rfl
            refine pure_ (i := 17) (N := some 73) (v := ?_) (a' := ?_) (ab 35 196827) rfl rfl (any_of HT_.out (by kernel_rfl)) (fun _ _ _ h => h) (Or.inl ⟨by rfl,?_⟩) ?_ ?_
            rotate_left
            ·intro w'
             go_simp
             with_reducible rfl
            rotate_left
            ·simp only [Act.put,QX,QY,QZ,i64_w,i32_w]
             rfl
            refine pure_ (i := 26) (N := some 82) (v := ?_) (a' := ?_) (ab 35 67305691) rfl rfl (any_of HT_.out (by kernel_rfl)) (fun _ _ _ h => h) (Or.inl ⟨by rfl,?_⟩) ?_ ?_
            rotate_left
            ·intro w'
             go_simp
             with_reducible rfl
            rotate_left
            ·simp only [Act.put,QX,QY,QZ,i64_w,i32_w]
             rfl
            refine pure_ (i := 27) (N := some 83) (v := ?_) (a' := ?_) (ab 35 201523419) rfl rfl (any_of HT_.out (by kernel_rfl)) (fun _ _ _ h => h) (Or.inl ⟨by rfl,?_⟩) ?_ ?_
            rotate_left
            ·intro w'
             go_simp
             with_reducible rfl
            rotate_left
            ·simp only [Act.put,QX,QY,QZ,i64_w,i32_w]
             rfl
            refine pure_ (i := 29) (N := some 85) (v := ?_) (a' := ?_) (ab 35 738394331) rfl rfl (any_of HT_.out (by kernel_rfl)) (fun _ _ _ h => h) (Or.inl ⟨by rfl,?_⟩) ?_ ?_
            rotate_left
            ·intro w'
             go_simp
             with_reducible rfl
            rotate_left
            ·simp only [Act.put,QX,QY,QZ,i64_w,i32_w]
             rfl
            refine pure_ (i := 30) (N := some 86) (v := ?_) (a' := ?_) (ab 35 1812136155) rfl rfl (any_of HT_.out (by kernel_rfl)) (fun _ _ _ h => h) (Or.inl ⟨by rfl,?_⟩) ?_ ?_
            rotate_left
            ·intro w'
             go_simp
             with_reducible rfl
            rotate_left
            ·simp only [Act.put,QX,QY,QZ,i64_w,i32_w]
             rfl
            refine take_ (i := 2) (N := some 58) (v := ?_) (a' := ?_) (ab 35 1812136159) rfl rfl (take_ofW HT_.out HW_.out (by kernel_rfl)) (fun _ _ _ h => h) (Or.inl ⟨by rfl,?_⟩) hHeld ?_ ?_
            rotate_left
            ·rintro w' ⟨s0,s1,s2,s3,s4,s5⟩
             go_simp
             with_reducible rfl
            rotate_left
            ·simp only [Act.put,QX,QY,QZ,i64_w,i32_w]
             rfl
            refine take_ (i := 5) (N := some 61) (v := ?_) (a' := ?_) (ab 35 1812136191) rfl rfl (take_ofW HT_.out HW_.out (by kernel_rfl)) (fun _ _ _ h => h) (Or.inl ⟨by rfl,?_⟩) hHeld ?_ ?_
            rotate_left
            ·rintro w' ⟨s0,s1,s2,s3,s4,s5⟩
             go_simp
             with_reducible rfl
            rotate_left
            ·simp only [Act.put,QX,QY,QZ,i64_w,i32_w]
             rfl
            refine take_ (i := 8) (N := some 64) (v := ?_) (a' := ?_) (ab 35 1812136447) rfl rfl (take_ofW HT_.out HW_.out (by kernel_rfl)) (fun _ _ _ h => h) (Or.inl ⟨by rfl,?_⟩) hHeld ?_ ?_
            rotate_left
            ·rintro w' ⟨s0,s1,s2,s3,s4,s5⟩
             go_simp
             with_reducible rfl
            rotate_left
            ·simp only [Act.put,QX,QY,QZ,i64_w,i32_w]
             rfl
            refine pure_ (i := 9) (N := some 65) (v := ?_) (a' := ?_) (ab 35 1812136959) rfl rfl (any_of HT_.out (by kernel_rfl)) (fun _ _ _ h => h) (Or.inl ⟨by rfl,?_⟩) ?_ ?_
            rotate_left
            ·intro w'
             go_simp
             with_reducible rfl
            rotate_left
            ·simp only [Act.put,QX,QY,QZ,i64_w,i32_w]
             rfl
            refine pure_ (i := 10) (N := some 66) (v := ?_) (a' := ?_) (ab 35 1812137983) rfl rfl (any_of HT_.out (by kernel_rfl)) (fun _ _ _ h => h) (Or.inl ⟨by rfl,?_⟩) ?_ ?_
            rotate_left
            ·intro w'
             go_simp
             with_reducible rfl
            rotate_left
            ·simp only [Act.put,QX,QY,QZ,i64_w,i32_w]
             rfl
            generalize hq1_ : ((rdOf ByteArray.empty x6_1 2).toList == ([115,117,105,116] : List UInt8)) = q1_
            refine pure_ (i := 11) (N := some 67) (v := bif q1_ then undef else .slice (some ad441) x6_1.length co37) (a' := ?_) (ab 35 1812140031) rfl rfl (any_of HT_.out (by kernel_rfl)) (fun _ _ _ h => h) ?_ ?_ ?_
            ·cases q1_
             ·refine Or.inl ⟨by rfl,?_⟩
              intro w'
              go_simp
              try with_reducible rfl
             ·exact Or.inr ⟨by rfl,rfl⟩
            rotate_left
            ·simp only [Act.put,QX,QY,QZ,i64_w,i32_w]
             rfl
            refine pure_ (i := 12) (N := some 68) (v := bif q1_ then undef else .pointer (some ⟨ad441.block,ad441.off + 2,none⟩)) (a' := ?_) (ab 35 1812144127) rfl rfl (any_of HT_.out (by kernel_rfl)) (fun _ _ _ h => h) ?_ ?_ ?_
            ·cases q1_
             ·refine Or.inl ⟨by rfl,?_⟩
              intro w'
              go_simp
              try with_reducible rfl
             ·exact Or.inr ⟨by rfl,rfl⟩
            rotate_left
            ·simp only [Act.put,QX,QY,QZ,i64_w,i32_w]
             rfl
            refine take_ (i := 13) (N := some 69) (v := bif q1_ then undef else .string (rdOf ByteArray.empty x6_1 2)) (a' := ?_) (ab 35 1812152319) rfl rfl (take_ofW HT_.out HW_.out (by kernel_rfl)) (fun _ _ _ h => h) ?_ hHeld ?_ ?_
            ·cases q1_
             ·refine Or.inl ⟨by rfl,?_⟩
              rintro w' ⟨s0,s1,s2,s3,s4,s5⟩
              go_simp
              try with_reducible rfl
             ·exact Or.inr ⟨by rfl,rfl⟩
            rotate_left
            ·simp only [Act.put,QX,QY,QZ,i64_w,i32_w]
             rfl
            refine pure_ (i := 14) (N := some 70) (v := bif q1_ then undef else .bool ((rdOf ByteArray.empty x6_1 2).toList == ([98,111,116,104] : List UInt8))) (a' := ?_) (ab 35 1812168703) rfl rfl (any_of HT_.out (by kernel_rfl)) (fun _ _ _ h => h) ?_ ?_ ?_
            ·cases q1_
             ·refine Or.inl ⟨by rfl,?_⟩
              intro w'
              go_simp
              try with_reducible rfl
             ·exact Or.inr ⟨by rfl,rfl⟩
            rotate_left
            ·simp only [Act.put,QX,QY,QZ,i64_w,i32_w]
             rfl
            have hc_ : (q1_ || (rdOf ByteArray.empty x6_1 2).toList == ([98,111,116,104] : List UInt8)) = b2_ := by rw [← hq1_]; exact hb2_
            refine pure_ (i := 15) (N := some 71) (v := .bool b2_) (a' := ?_) (ab 35 1812201471) rfl rfl (any_of HT_.out (by kernel_rfl)) (fun _ _ _ h => h) (Or.inl ⟨by rfl,by rw [← hc_]; clear hc_; cases q1_ <;> (intro w'; go_simp; try with_reducible rfl)⟩) ?_ ?_
            rotate_left
            ·simp only [Act.put,QX,QY,QZ,i64_w,i32_w]
             rfl
            clear hc_
            subst hq1_
            refine take_ (i := 18) (N := some 74) (v := ?_) (a' := ?_) (ab 35 1812463615) rfl rfl (take_ofW HT_.out HW_.out (by kernel_rfl)) (fun _ _ _ h => h) (Or.inl ⟨by rfl,?_⟩) hHeld ?_ ?_
            rotate_left
            ·rintro w' ⟨s0,s1,s2,s3,s4,s5⟩
             go_simp
             with_reducible rfl
            rotate_left
            ·simp only [Act.put,QX,QY,QZ,i64_w,i32_w]
             rfl
            refine pure_ (i := 19) (N := some 75) (v := ?_) (a' := ?_) (ab 35 1812987903) rfl rfl (any_of HT_.out (by kernel_rfl)) (fun _ _ _ h => h) (Or.inl ⟨by rfl,?_⟩) ?_ ?_
            rotate_left
            ·intro w'
             go_simp
             with_reducible rfl
            rotate_left
            ·simp only [Act.put,QX,QY,QZ,i64_w,i32_w]
             rfl
            refine pure_ (i := 20) (N := some 76) (v := ?_) (a' := ?_) (ab 35 1814036479) rfl rfl (any_of HT_.out (by kernel_rfl)) (fun _ _ _ h => h) (Or.inl ⟨by rfl,?_⟩) ?_ ?_
            rotate_left
            ·intro w'
             go_simp
             with_reducible rfl
            rotate_left
            ·simp only [Act.put,QX,QY,QZ,i64_w,i32_w]
             rfl
            generalize hq2_ : ((rdOf ByteArray.empty x6_1 2).toList == ([114,97,110,107] : List UInt8)) = q2_
            refine pure_ (i := 21) (N := some 77) (v := bif q2_ then undef else .slice (some ad441) x6_1.length co37) (a' := ?_) (ab 35 1816133631) rfl rfl (any_of HT_.out (by kernel_rfl)) (fun _ _ _ h => h) ?_ ?_ ?_
            ·cases q2_
             ·refine Or.inl ⟨by rfl,?_⟩
              intro w'
              go_simp
              try with_reducible rfl
             ·exact Or.inr ⟨by rfl,rfl⟩
            rotate_left
            ·simp only [Act.put,QX,QY,QZ,i64_w,i32_w]
             rfl
            refine pure_ (i := 22) (N := some 78) (v := bif q2_ then undef else .pointer (some ⟨ad441.block,ad441.off + 2,none⟩)) (a' := ?_) (ab 35 1820327935) rfl rfl (any_of HT_.out (by kernel_rfl)) (fun _ _ _ h => h) ?_ ?_ ?_
            ·cases q2_
             ·refine Or.inl ⟨by rfl,?_⟩
              intro w'
              go_simp
              try with_reducible rfl
             ·exact Or.inr ⟨by rfl,rfl⟩
            rotate_left
            ·simp only [Act.put,QX,QY,QZ,i64_w,i32_w]
             rfl
            refine take_ (i := 23) (N := some 79) (v := bif q2_ then undef else .string (rdOf ByteArray.empty x6_1 2)) (a' := ?_) (ab 35 1828716543) rfl rfl (take_ofW HT_.out HW_.out (by kernel_rfl)) (fun _ _ _ h => h) ?_ hHeld ?_ ?_
            ·cases q2_
             ·refine Or.inl ⟨by rfl,?_⟩
              rintro w' ⟨s0,s1,s2,s3,s4,s5⟩
              go_simp
              try with_reducible rfl
             ·exact Or.inr ⟨by rfl,rfl⟩
            rotate_left
            ·simp only [Act.put,QX,QY,QZ,i64_w,i32_w]
             rfl
            refine pure_ (i := 24) (N := some 80) (v := bif q2_ then undef else .bool ((rdOf ByteArray.empty x6_1 2).toList == ([98,111,116,104] : List UInt8))) (a' := ?_) (ab 35 1845493759) rfl rfl (any_of HT_.out (by kernel_rfl)) (fun _ _ _ h => h) ?_ ?_ ?_
            ·cases q2_
             ·refine Or.inl ⟨by rfl,?_⟩
              intro w'
              go_simp
              try with_reducible rfl
             ·exact Or.inr ⟨by rfl,rfl⟩
            rotate_left
            ·simp only [Act.put,QX,QY,QZ,i64_w,i32_w]
             rfl
            have hc_ : (q2_ || (rdOf ByteArray.empty x6_1 2).toList == ([98,111,116,104] : List UInt8)) = b3_ := by rw [← hq2_]; exact hb3_
            refine pure_ (i := 25) (N := some 81) (v := .bool b3_) (a' := ?_) (ab 35 1879048191) rfl rfl (any_of HT_.out (by kernel_rfl)) (fun _ _ _ h => h) (Or.inl ⟨by rfl,by rw [← hc_]; clear hc_; cases q2_ <;> (intro w'; go_simp; try with_reducible rfl)⟩) ?_ ?_
            rotate_left
            ·simp only [Act.put,QX,QY,QZ,i64_w,i32_w]
             rfl
            clear hc_
            subst hq2_
            refine take_ (i := 28) (N := some 84) (v := ?_) (a' := ?_) (ab 35 2147483647) rfl rfl (take_ofW HT_.out HW_.out (by kernel_rfl)) (fun _ _ _ h => h) (Or.inl ⟨by rfl,?_⟩) hHeld ?_ ?_
            rotate_left
            ·rintro w' ⟨s0,s1,s2,s3,s4,s5⟩
             go_simp
             with_reducible rfl
            rotate_left
            ·simp only [Act.put,QX,QY,QZ,i64_w,i32_w]
             rfl
            refine take_ (i := 31) (N := some 87) (v := ?_) (a' := ?_) (ab 35 4294967295) rfl rfl (take_ofW HT_.out HW_.out (by kernel_rfl)) (fun _ _ _ h => h) (Or.inl ⟨by rfl,?_⟩) hHeld ?_ ?_
            rotate_left
            ·rintro w' ⟨s0,s1,s2,s3,s4,s5⟩
             go_simp
             with_reducible rfl
            rotate_left
            ·simp only [Act.put,QX,QY,QZ,i64_w,i32_w]
             rfl
            refine pure_ (i := 32) (N := some 88) (v := ?_) (a' := ?_) (ab 35 8589934591) rfl rfl (any_of HT_.out (by kernel_rfl)) (fun _ _ _ h => h) (Or.inl ⟨by rfl,?_⟩) ?_ ?_
            rotate_left
            ·intro w'
             go_simp
             with_reducible rfl
            rotate_left
            ·simp only [Act.put,QX,QY,QZ,i64_w,i32_w]
             rfl
            refine one_ (i := 33) (N := some 13) (ab 35 17179869183) rfl rfl (one_of HT_.out (by kernel_rfl)) (by decide) (fun K hK => ?_)
            refine box_step ?hg (N := 13) ?hd (cs := #[.int .i64 0,.int .i64 0,.bool false,.bool false,.slice none 0 0,.slice none 0 0,.int .i64 0,.int .i64 0]) (t := 26) ?hr ?_; (case hd => rfl); (case hg => rfl); (case hr => first | (go_simp; done) | (go_simp; rfl))
            intro gb445 hg w38 hbox hb
            have HS0_ := (hb.cell (World.block_lt_of_cell? _ _ (hHeld.1))).trans (hHeld.1)
            have HS1_ := (hb.cell (World.block_lt_of_cell? _ _ (hHeld.2.1))).trans (hHeld.2.1)
            have HS2_ := (hb.cell (World.block_lt_of_cell? _ _ (hHeld.2.2.1))).trans (hHeld.2.2.1)
            have HS3_ := (hb.cell (World.block_lt_of_cell? _ _ (hHeld.2.2.2.1))).trans (hHeld.2.2.2.1)
            have HS4_ := (hb.cell (World.block_lt_of_cell? _ _ (hHeld.2.2.2.2.1))).trans (hHeld.2.2.2.2.1)
            have HS5_ := (hb.cell (World.block_lt_of_cell? _ _ (hHeld.2.2.2.2.2))).trans (hHeld.2.2.2.2.2)
            have n0_ := Qa (QO (by (with_reducible repeat (first | apply QD | apply QE | apply QG)); exact HO_4.out) hb)
            have n1_ := Qa (QO (by (with_reducible repeat (first | apply QD | apply QE | apply QG)); exact HO_5.out) hb)
            have n2_ := Qa (QO (by (with_reducible repeat (first | apply QD | apply QE | apply QG)); exact HO_6.out) hb)
            have n3_ := Qa (QO (by (with_reducible repeat (first | apply QD | apply QE | apply QG)); exact HO_7.out) hb)
            have n4_ := Qa (QV (g := gb414) (o := .cells #[.int .i64 0,.int .i64 0,.bool false,.bool false,.slice none 0 0,.slice none 0 0,.int .i64 0,.int .i64 0] 26 (0,0)) (by (with_reducible repeat (first | refine QJ ?_ _ | refine QM ?_ | refine QK ?_ _)); exact BK414.out) hb)
            have n5_ := Qa (QU (by repeat (first | (with_reducible first | exact HB.out | apply QI | apply QC | apply QH | refine QL ?_ GE414.out) | exact HB.out)) hb)
            have n6_ := Qa (hbox)
            have n7_ := Qa ((by rw [hg]; exact (QR (by repeat (first | (with_reducible first | exact HB.out | apply QI | apply QC | apply QH | refine QL ?_ GE414.out) | exact HB.out))) : w.heap.size ≤ gb445))
            have n8_ := Qa ((by rw [hg]; exact (QR (by repeat (first | (with_reducible first | exact HB.out | apply QI | apply QC | apply QH | refine QL ?_ GE414.out) | exact HB.out))) : w.heap.size ≤ gb445))
            have n9_ := Qa ((by rw [hg]; exact Nat.ne_of_lt (blk_lt (g := gb414) (o := .cells #[.int .i64 0,.int .i64 0,.bool false,.bool false,.slice none 0 0,.slice none 0 0,.int .i64 0,.int .i64 0] 26 (0,0)) (by (with_reducible repeat (first | refine QJ ?_ _ | refine QM ?_ | refine QK ?_ _)); exact BK414.out)) : gb414 ≠ gb445))
            have n10_ := Qa ((by rw [hg]; exact Nat.ne_of_gt (blk_lt (g := gb414) (o := .cells #[.int .i64 0,.int .i64 0,.bool false,.bool false,.slice none 0 0,.slice none 0 0,.int .i64 0,.int .i64 0] 26 (0,0)) (by (with_reducible repeat (first | refine QJ ?_ _ | refine QM ?_ | refine QK ?_ _)); exact BK414.out)) : gb445 ≠ gb414))
            clear HO_4
            clear HO_5
            clear HO_6
            clear HO_7
            clear BK414
            clear HB
            revert n0_ n1_ n2_ n3_ n4_ n5_ n6_ n7_ n8_ n9_ n10_
            intro HO_4 HO_5 HO_6 HO_7 BK414 HB BK445 GW445 GE445 NB414_445 NB445_414
            clear hb hbox hg
            refine hK.out _ _ ⟨HS0_,HS1_,HS2_,HS3_,HS4_,HS5_⟩ (fun hHeld => ?_)
            clear hK K
            refine norm_ (a' := ?_) ?_ ?_
            rotate_left
            ·show Act.put _ (some 13) _ = _
             simp only [Act.put,QX,QY,QZ,i64_w,i32_w]
             rfl
            refine one_ (i := 34) (N := none) (ab 35 34359738367) rfl rfl (one_of HT_.out (by kernel_rfl)) (by decide) (fun K hK => ?_)
            have hs39 : w38.cell? ⟨gb445,0,none⟩ = some (.int .i64 0) := (QF BK445.out 0).trans rfl
            have hfs39 := QB BK445.out 0
            have hns39_0 := NB414_445.out
            have hms39_0 := NB445_414.out
            have hs40 : w38.cell? ⟨gb445,1,none⟩ = some (.int .i64 0) := (QF BK445.out 1).trans rfl
            have hfs40 := QB BK445.out 1
            have hns40_0 := NB414_445.out
            have hms40_0 := NB445_414.out
            have hs41 : w38.cell? ⟨gb445,2,none⟩ = some (.bool false) := (QF BK445.out 2).trans rfl
            have hfs41 := QB BK445.out 2
            have hns41_0 := NB414_445.out
            have hms41_0 := NB445_414.out
            have hs42 : w38.cell? ⟨gb445,3,none⟩ = some (.bool false) := (QF BK445.out 3).trans rfl
            have hfs42 := QB BK445.out 3
            have hns42_0 := NB414_445.out
            have hms42_0 := NB445_414.out
            have hs43 : w38.cell? ⟨gb445,4,none⟩ = some (.slice none 0 0) := (QF BK445.out 4).trans rfl
            have hfs43 := QB BK445.out 4
            have hns43_0 := NB414_445.out
            have hms43_0 := NB445_414.out
            have hs44 : w38.cell? ⟨gb445,5,none⟩ = some (.slice none 0 0) := (QF BK445.out 5).trans rfl
            have hfs44 := QB BK445.out 5
            have hns44_0 := NB414_445.out
            have hms44_0 := NB445_414.out
            have hs45 : w38.cell? ⟨gb445,6,none⟩ = some (.int .i64 0) := (QF BK445.out 6).trans rfl
            have hfs45 := QB BK445.out 6
            have hns45_0 := NB414_445.out
            have hms45_0 := NB445_414.out
            have hs46 : w38.cell? ⟨gb445,7,none⟩ = some (.int .i64 0) := (QF BK445.out 7).trans rfl
            have hfs46 := QB BK445.out 7
            have hns46_0 := NB414_445.out
            have hms46_0 := NB445_414.out
            by_cases c34 : a0.toList = ([] : List UInt8)
            ·rw [if_pos c34] at H
             have c34b0 : (a0.toList == ([] : List UInt8)) = true := beq_iff_eq.mpr c34
             have c34b1 : (a0.toList != ([] : List UInt8)) = false := bne_eq_false_iff_eq.mpr c34
             clear c34
             simp only [Option.some.injEq,Prod.mk.injEq] at H
             obtain ⟨rfl,rfl,rfl,rfl,rfl,rfl,rfl,rfl,rfl⟩ := H
             refine skip_ (w1 := ?_) (by rfl) rfl ?_ ?_
             rotate_left
             ·go_simp
              rfl
             refine hK.out _ _ ⟨(cell_far8 (by have ne_ := Kd.own_blk (Kd.R_ne HO_7.out BK445.out (by decide)); exact ne_) _ _ _ _ _ _ _ _).trans hHeld.1,(cell_far8 (by have ne_ := Kd.own_blk (Kd.R_ne HO_7.out BK445.out (by decide)); exact ne_) _ _ _ _ _ _ _ _).trans hHeld.2.1,(cell_far8 (by have ne_ := Kd.own_blk (Kd.R_ne HO_6.out BK445.out (by decide)); exact ne_) _ _ _ _ _ _ _ _).trans hHeld.2.2.1,(cell_far8 (by have ne_ := Kd.own_blk (Kd.R_ne HO_6.out BK445.out (by decide)); exact ne_) _ _ _ _ _ _ _ _).trans hHeld.2.2.2.1,(cell_far8 (by have ne_ := Kd.own_blk (Kd.R_ne HO_7.out BK445.out (by decide)); exact ne_) _ _ _ _ _ _ _ _).trans hHeld.2.2.2.2.1,(cell_far8 (by have ne_ := Kd.own_blk (Kd.R_ne HO_7.out BK445.out (by decide)); exact ne_) _ _ _ _ _ _ _ _).trans hHeld.2.2.2.2.2⟩ (fun hHeld => ?_)
             clear hK K
             refine done_ (done_of HT_.out (by kernel_rfl)) ?_
             have s0_ := Qa (R_far8 (QN HO_4.out BK445.out (by decide)) (.int .i64 (rd x7_1 0)) (.int .i64 (rd x7_1 1)) (.bool b2_) (.bool b3_) (.slice none 0 0) (.slice none 0 0) (.int .i64 (rd x7_1 5)) (.int .i64 (rd x7_1 6)))
             have s1_ := Qa (R_far8 (QN HO_5.out BK445.out (by decide)) (.int .i64 (rd x7_1 0)) (.int .i64 (rd x7_1 1)) (.bool b2_) (.bool b3_) (.slice none 0 0) (.slice none 0 0) (.int .i64 (rd x7_1 5)) (.int .i64 (rd x7_1 6)))
             have s2_ := Qa (R_far8 (QN HO_6.out BK445.out (by decide)) (.int .i64 (rd x7_1 0)) (.int .i64 (rd x7_1 1)) (.bool b2_) (.bool b3_) (.slice none 0 0) (.slice none 0 0) (.int .i64 (rd x7_1 5)) (.int .i64 (rd x7_1 6)))
             have s3_ := Qa (R_far8 (QN HO_7.out BK445.out (by decide)) (.int .i64 (rd x7_1 0)) (.int .i64 (rd x7_1 1)) (.bool b2_) (.bool b3_) (.slice none 0 0) (.slice none 0 0) (.int .i64 (rd x7_1 5)) (.int .i64 (rd x7_1 6)))
             have s4_ := Qa (blk_far8 BK414.out NB414_445.out (.int .i64 (rd x7_1 0)) (.int .i64 (rd x7_1 1)) (.bool b2_) (.bool b3_) (.slice none 0 0) (.slice none 0 0) (.int .i64 (rd x7_1 5)) (.int .i64 (rd x7_1 6)))
             have s5_ := Qa (blk_put8 BK445.out (.int .i64 (rd x7_1 0)) (.int .i64 (rd x7_1 1)) (.bool b2_) (.bool b3_) (.slice none 0 0) (.slice none 0 0) (.int .i64 (rd x7_1 5)) (.int .i64 (rd x7_1 6)))
             have s6_ := Qa (below_set8 HB.out GE445.out (.int .i64 (rd x7_1 0)) (.int .i64 (rd x7_1 1)) (.bool b2_) (.bool b3_) (.slice none 0 0) (.slice none 0 0) (.int .i64 (rd x7_1 5)) (.int .i64 (rd x7_1 6)))
             generalize World.setCell _ ⟨gb445,7,none⟩ _ = ws_ at s0_ s1_ s2_ s3_ s4_ s5_ s6_ ⊢
             clear HO_4 HO_5 HO_6 HO_7 BK414 BK445 HB
             have HO_4 := s0_
             have HO_5 := s1_
             have HO_6 := s2_
             have HO_7 := s3_
             have BK414 := s4_
             have BK445 : Aside0 (ws_.heap[gb445]? = some (.cells #[.int .i64 (rd x7_1 0),.int .i64 (rd x7_1 1),.bool b2_,.bool b3_,.slice none 0 0,.slice none 0 0,.int .i64 (rd x7_1 5),.int .i64 (rd x7_1 6)] 26 (0,0))) := s5_
             have HB := s6_
             clear s0_ s1_ s2_ s3_ s4_ s5_ s6_
             have p446 : 0 ≤ (3 : Int) := (by omega)
             have q446 : 3 < (x6_1.length : Int) := of_decide_eq_true (by first | (with_reducible assumption) | assumption)
             obtain ⟨ad446,e446,hx446_0⟩ := Kd.at_string (QS HO_6.out).2.2 3 p446 q446
             obtain rfl : ad441 = ad446 := (by injection e446)
             (try simp only [show (3 : Int).toNat = 3 from rfl,Nat.reduceMul,Nat.reduceEqDiff,Go.Addr.add,↓reduceIte] at hx446_0)
             have qi446 : (3 < x6_1.length) = True := eq_true (by omega)
             (try rw [show ((3 : Int)).toNat = 3 from rfl] at hx446_0)
             replace p446 := eq_true p446
             replace q446 := eq_true q446
             try go_wp2_with (first | ((with_reducible refine gate_callee (f := 43) rfl ?_); refine goesL_ (some 93) rfl rfl Tryd.func43 (by kernel_rfl) rfl #[.string (rdOf ByteArray.empty x6_1 3)] rfl (by (try simp only [List.map_toArray,List.map_cons,List.map_nil]); first | done | rfl | (simp only [List.length_drop,List.length_take]; rfl)) ?_; (with_reducible refine (spec_ParsePattern.calls k1 (rdOf ByteArray.empty x6_1 3) t447 t448 _ A31.out).mono ?_); rintro e w47 ⟨v449,rfl,ho0,hb⟩; refine ⟨_,rfl,?_⟩; have n0_ := Qa (QO (by (with_reducible repeat (first | apply QD | apply QE | apply QG)); exact HO_4.out) hb); have n1_ := Qa (QO (by (with_reducible repeat (first | apply QD | apply QE | apply QG)); exact HO_5.out) hb); have n2_ := Qa (QO (by (with_reducible repeat (first | apply QD | apply QE | apply QG)); exact HO_6.out) hb); have n3_ := Qa (Kd.R_elder' (by (with_reducible repeat (first | apply QD | apply QE | apply QG)); exact HO_7.out) (Kd.R_base ho0) hb); have n4_ := Qa (Kd.R_lower (Kd.R_new' ho0 (Kd.R_lt (by (with_reducible repeat (first | apply QD | apply QE | apply QG)); exact HO_7.out))) (QR (by repeat (first | (with_reducible first | exact HB.out | apply QI | apply QC | apply QH | refine QL ?_ GE414.out | refine QL ?_ GE445.out) | exact HB.out)))); have n5_ := Qa (QV (g := gb414) (o := .cells #[.int .i64 0,.int .i64 0,.bool false,.bool false,.slice none 0 0,.slice none 0 0,.int .i64 0,.int .i64 0] 26 (0,0)) (by (with_reducible repeat (first | refine QJ ?_ _ | refine QM ?_ | refine QK ?_ _)); exact BK414.out) hb); have n6_ := Qa (QV (g := gb445) (o := .cells #[.int .i64 (rd x7_1 0),.int .i64 (rd x7_1 1),.bool b2_,.bool b3_,.slice none 0 0,.slice none 0 0,.int .i64 (rd x7_1 5),.int .i64 (rd x7_1 6)] 26 (0,0)) (by (with_reducible repeat (first | refine QJ ?_ _ | refine QM ?_ | refine QK ?_ _)); exact BK445.out) hb); have n7_ := Qa (QU (by repeat (first | (with_reducible first | exact HB.out | apply QI | apply QC | apply QH | refine QL ?_ GE414.out | refine QL ?_ GE445.out) | exact HB.out)) hb); clear HO_4; clear HO_5; clear HO_6; clear HO_7; clear BK414; clear BK445; clear HB; revert n0_ n1_ n2_ n3_ n4_ n5_ n6_ n7_; intro HO_4 HO_5 HO_6 HO_7 HO450 BK414 BK445 HB; (try clear hb); (try clear hb2); (try clear hk); (try clear hi); (try clear ho0); obtain ⟨Ao48,co48,eo48⟩ := Kd.R_slice HO450.out; subst eo48; have hnb49 := NB445_414.out; have hnc49 := NB414_445.out; have hcz50_0 : w47.cell? ⟨gb445,0,none⟩ = some (.int .i64 (rd x7_1 0)) := (QF BK445.out 0).trans rfl; have hcz50_1 : w47.cell? ⟨gb445,1,none⟩ = some (.int .i64 (rd x7_1 1)) := (QF BK445.out 1).trans rfl; have hcz50_2 : w47.cell? ⟨gb445,2,none⟩ = some (.bool b2_) := (QF BK445.out 2).trans rfl; have hcz50_3 : w47.cell? ⟨gb445,3,none⟩ = some (.bool b3_) := (QF BK445.out 3).trans rfl; have hcz50_4 : w47.cell? ⟨gb445,4,none⟩ = some (.slice none 0 0) := (QF BK445.out 4).trans rfl; have hcz50_5 : w47.cell? ⟨gb445,5,none⟩ = some (.slice none 0 0) := (QF BK445.out 5).trans rfl; have hcz50_6 : w47.cell? ⟨gb445,6,none⟩ = some (.int .i64 (rd x7_1 5)) := (QF BK445.out 6).trans rfl; have hcz50_7 : w47.cell? ⟨gb445,7,none⟩ = some (.int .i64 (rd x7_1 6)) := (QF BK445.out 7).trans rfl; have hfz50_0 := QB BK445.out 0; have hfz50_1 := QB BK445.out 1; have hfz50_2 := QB BK445.out 2; have hfz50_3 := QB BK445.out 3; have hfz50_4 := QB BK445.out 4; have hfz50_5 := QB BK445.out 5; have hfz50_6 := QB BK445.out 6; have hfz50_7 := QB BK445.out 7; have p451 : 0 ≤ (4 : Int) := (by omega); have q451 : 4 < (x6_1.length : Int) := of_decide_eq_true (by first | (with_reducible assumption) | assumption); obtain ⟨ad451,e451,hx451_0⟩ := Kd.at_string (QS HO_6.out).2.2 4 p451 q451; obtain rfl : ad441 = ad451 := (by injection e451); (try simp only [show (4 : Int).toNat = 4 from rfl,Nat.reduceMul,Nat.reduceEqDiff,Go.Addr.add,↓reduceIte] at hx451_0); have qi451 : (4 < x6_1.length) = True := eq_true (by omega); (try rw [show ((4 : Int)).toNat = 4 from rfl] at hx451_0); have hn451_0 : ad441.block ≠ gb445 := Kd.own_blk (Kd.R_ne HO_6.out BK445.out (by decide)); replace hx451_0 := (cell_far (p := ⟨gb445,4,none⟩) (by first | (rw [add_block]; exact hn451_0) | (show (Addr.add _ _).block ≠ _; rw [add_block]; exact hn451_0) | exact hn451_0) (.slice Ao48 t447.length co48)).trans hx451_0; clear hn451_0; replace p451 := eq_true p451; replace q451 := eq_true q451) | ((with_reducible refine gate_callee (f := 43) rfl ?_); refine goesL_ (some 101) rfl rfl Tryd.func43 (by kernel_rfl) rfl #[.string (rdOf ByteArray.empty x6_1 4)] rfl (by (try simp only [List.map_toArray,List.map_cons,List.map_nil]); first | done | rfl | (simp only [List.length_drop,List.length_take]; rfl)) ?_; (with_reducible refine (spec_ParsePattern.calls k1 (rdOf ByteArray.empty x6_1 4) t452 t453 _ A33.out).mono ?_); rintro e w51 ⟨v454,rfl,ho0,hb⟩; refine ⟨_,rfl,?_⟩; have n0_ := Qa (QO (by (with_reducible repeat (first | apply QD | apply QE | apply QG)); exact (QP (QW (QN HO_4.out BK445.out (by decide))) (fun _ h_ => h_.1))) hb); have n1_ := Qa (QO (by (with_reducible repeat (first | apply QD | apply QE | apply QG)); exact (QP (QW (QN HO_5.out BK445.out (by decide))) (fun _ h_ => h_.1))) hb); have n2_ := Qa (QO (by (with_reducible repeat (first | apply QD | apply QE | apply QG)); exact (QP (QW (QN HO_6.out BK445.out (by decide))) (fun _ h_ => h_.1))) hb); have n3_ := Qa (Kd.R_elder' (by (with_reducible repeat (first | apply QD | apply QE | apply QG)); exact (QP (QW (QN HO_7.out BK445.out (by decide))) (fun _ h_ => h_.1))) (Kd.R_base ho0) hb); have n4_ := Qa (Kd.R_elder' (by (with_reducible repeat (first | apply QD | apply QE | apply QG)); exact (QP (QW (QN HO450.out BK445.out (by decide))) (fun _ h_ => h_.1))) (Kd.R_base ho0) hb); have n5_ := Qa (Kd.R_lower (Kd.R_new' (Kd.R_new' ho0 (Kd.R_lt (by (with_reducible repeat (first | apply QD | apply QE | apply QG)); exact (QP (QW (QN HO_7.out BK445.out (by decide))) (fun _ h_ => h_.1))))) (Kd.R_lt (by (with_reducible repeat (first | apply QD | apply QE | apply QG)); exact (QP (QW (QN HO450.out BK445.out (by decide))) (fun _ h_ => h_.1))))) (QR (by repeat (first | (with_reducible first | exact HB.out | apply QI | apply QC | apply QH | refine QL ?_ GE414.out | refine QL ?_ GE445.out) | exact HB.out)))); have n6_ := Qa (QV (g := gb414) (o := .cells #[.int .i64 0,.int .i64 0,.bool false,.bool false,.slice none 0 0,.slice none 0 0,.int .i64 0,.int .i64 0] 26 (0,0)) (by (with_reducible repeat (first | refine QJ ?_ _ | refine QM ?_ | refine QK ?_ _)); refine blk_far ?_ NB414_445.out _; (with_reducible repeat (first | refine QJ ?_ _ | refine QM ?_ | refine QK ?_ _)); exact BK414.out) hb); have n7_ := Qa (QV (g := gb445) (o := .cells #[.int .i64 (rd x7_1 0),.int .i64 (rd x7_1 1),.bool b2_,.bool b3_,.slice Ao48 t447.length co48,.slice none 0 0,.int .i64 (rd x7_1 5),.int .i64 (rd x7_1 6)] 26 (0,0)) (by (with_reducible repeat (first | refine QJ ?_ _ | refine QM ?_ | refine QK ?_ _)); refine QT (cs := #[.int .i64 (rd x7_1 0),.int .i64 (rd x7_1 1),.bool b2_,.bool b3_,.slice none 0 0,.slice none 0 0,.int .i64 (rd x7_1 5),.int .i64 (rd x7_1 6)]) ?_ 4 _ rfl; (with_reducible repeat (first | refine QJ ?_ _ | refine QM ?_ | refine QK ?_ _)); exact BK445.out) hb); have n8_ := Qa (QU (by repeat (first | (with_reducible first | exact HB.out | apply QI | apply QC | apply QH | refine QL ?_ GE414.out | refine QL ?_ GE445.out) | exact HB.out)) hb); clear HO_4; clear HO_5; clear HO_6; clear HO_7; clear HO450; clear BK414; clear BK445; clear HB; revert n0_ n1_ n2_ n3_ n4_ n5_ n6_ n7_ n8_; intro HO_4 HO_5 HO_6 HO_7 HO450 HO455 BK414 BK445 HB; (try clear hb); (try clear hb2); (try clear hk); (try clear hi); (try clear ho0); obtain ⟨Ao52,co52,eo52⟩ := Kd.R_slice HO455.out; subst eo52; have hcz53_0 : w51.cell? ⟨gb445,0,none⟩ = some (.int .i64 (rd x7_1 0)) := (QF BK445.out 0).trans rfl; have hcz53_1 : w51.cell? ⟨gb445,1,none⟩ = some (.int .i64 (rd x7_1 1)) := (QF BK445.out 1).trans rfl; have hcz53_2 : w51.cell? ⟨gb445,2,none⟩ = some (.bool b2_) := (QF BK445.out 2).trans rfl; have hcz53_3 : w51.cell? ⟨gb445,3,none⟩ = some (.bool b3_) := (QF BK445.out 3).trans rfl; have hcz53_4 : w51.cell? ⟨gb445,4,none⟩ = some (.slice Ao48 t447.length co48) := (QF BK445.out 4).trans rfl; have hcz53_5 : w51.cell? ⟨gb445,5,none⟩ = some (.slice none 0 0) := (QF BK445.out 5).trans rfl; have hcz53_6 : w51.cell? ⟨gb445,6,none⟩ = some (.int .i64 (rd x7_1 5)) := (QF BK445.out 6).trans rfl; have hcz53_7 : w51.cell? ⟨gb445,7,none⟩ = some (.int .i64 (rd x7_1 6)) := (QF BK445.out 7).trans rfl; have hfz53_0 := QB BK445.out 0; have hfz53_1 := QB BK445.out 1; have hfz53_2 := QB BK445.out 2; have hfz53_3 := QB BK445.out 3; have hfz53_4 := QB BK445.out 4; have hfz53_5 := QB BK445.out 5; have hfz53_6 := QB BK445.out 6; have hfz53_7 := QB BK445.out 7; have hcz54_0 : w51.cell? ⟨gb414,0,none⟩ = some (.int .i64 0) := (QF BK414.out 0).trans rfl; have hcz54_1 : w51.cell? ⟨gb414,1,none⟩ = some (.int .i64 0) := (QF BK414.out 1).trans rfl; have hcz54_2 : w51.cell? ⟨gb414,2,none⟩ = some (.bool false) := (QF BK414.out 2).trans rfl; have hcz54_3 : w51.cell? ⟨gb414,3,none⟩ = some (.bool false) := (QF BK414.out 3).trans rfl; have hcz54_4 : w51.cell? ⟨gb414,4,none⟩ = some (.slice none 0 0) := (QF BK414.out 4).trans rfl; have hcz54_5 : w51.cell? ⟨gb414,5,none⟩ = some (.slice none 0 0) := (QF BK414.out 5).trans rfl; have hcz54_6 : w51.cell? ⟨gb414,6,none⟩ = some (.int .i64 0) := (QF BK414.out 6).trans rfl; have hcz54_7 : w51.cell? ⟨gb414,7,none⟩ = some (.int .i64 0) := (QF BK414.out 7).trans rfl; have hfz54_0 := QB BK414.out 0; have hfz54_1 := QB BK414.out 1; have hfz54_2 := QB BK414.out 2; have hfz54_3 := QB BK414.out 3; have hfz54_4 := QB BK414.out 4; have hfz54_5 := QB BK414.out 5; have hfz54_6 := QB BK414.out 6; have hfz54_7 := QB BK414.out 7))
             refine bodyPost_ret (results_ct rfl _ _ gb414 26 #[.int .i64 0,.int .i64 0,.bool false,.bool false,.slice none 0 0,.slice none 0 0,.int .i64 0,.int .i64 0] (0,0) _ rfl (by (with_reducible repeat (first | refine QJ ?_ _ | refine QM ?_ | refine QK ?_ _)); refine QT (cs := #[.int .i64 0,.int .i64 0,.bool false,.bool false,.slice none 0 0,.slice none 0 0,.int .i64 0,.int .i64 0]) ?_ 7 _ rfl; (with_reducible repeat (first | refine QJ ?_ _ | refine QM ?_ | refine QK ?_ _)); refine QT (cs := #[.int .i64 0,.int .i64 0,.bool false,.bool false,.slice none 0 0,.slice none 0 0,.int .i64 0,.int .i64 0]) ?_ 6 _ rfl; (with_reducible repeat (first | refine QJ ?_ _ | refine QM ?_ | refine QK ?_ _)); refine QT (cs := #[.int .i64 0,.int .i64 0,.bool false,.bool false,.slice none 0 0,.slice none 0 0,.int .i64 0,.int .i64 0]) ?_ 5 _ rfl; (with_reducible repeat (first | refine QJ ?_ _ | refine QM ?_ | refine QK ?_ _)); refine QT (cs := #[.int .i64 0,.int .i64 0,.bool false,.bool false,.slice none 0 0,.slice none 0 0,.int .i64 0,.int .i64 0]) ?_ 4 _ rfl; (with_reducible repeat (first | refine QJ ?_ _ | refine QM ?_ | refine QK ?_ _)); refine QT (cs := #[.int .i64 0,.int .i64 0,.bool false,.bool false,.slice none 0 0,.slice none 0 0,.int .i64 0,.int .i64 0]) ?_ 3 _ rfl; (with_reducible repeat (first | refine QJ ?_ _ | refine QM ?_ | refine QK ?_ _)); refine QT (cs := #[.int .i64 0,.int .i64 0,.bool false,.bool false,.slice none 0 0,.slice none 0 0,.int .i64 0,.int .i64 0]) ?_ 2 _ rfl; (with_reducible repeat (first | refine QJ ?_ _ | refine QM ?_ | refine QK ?_ _)); refine QT (cs := #[.int .i64 0,.int .i64 0,.bool false,.bool false,.slice none 0 0,.slice none 0 0,.int .i64 0,.int .i64 0]) ?_ 1 _ rfl; (with_reducible repeat (first | refine QJ ?_ _ | refine QM ?_ | refine QK ?_ _)); refine QT (cs := #[.int .i64 0,.int .i64 0,.bool false,.bool false,.slice none 0 0,.slice none 0 0,.int .i64 0,.int .i64 0]) ?_ 0 _ rfl; (with_reducible repeat (first | refine QJ ?_ _ | refine QM ?_ | refine QK ?_ _)); refine blk_far ?_ NB414_445.out _; (with_reducible repeat (first | refine QJ ?_ _ | refine QM ?_ | refine QK ?_ _)); exact BK414.out) Tryd.underlying26 rfl (by kernel_rfl)) rfl ?_
             exact ⟨_,_,by first | rfl | (simp [errW_none,errW_some] <;> rfl) | (simp [*,errW_none,errW_some] <;> rfl),by first | exact Kd.R_nil _ _ _ _ _ | exact Kd.N_nil _ _ _ _ _ | exact Kd.V_nil _ _ _ _ _ | exact Kd.Q_nil _ _ _ _ _ | exact Kd.S_nil _ _ _ _ _,by first | exact Kd.R_nil _ _ _ _ _ | exact Kd.N_nil _ _ _ _ _ | exact Kd.V_nil _ _ _ _ _ | exact Kd.Q_nil _ _ _ _ _ | exact Kd.S_nil _ _ _ _ _,by repeat (first | (with_reducible first | exact HB.out | apply QI | apply QC | apply QH | refine QL ?_ GE414.out | refine QL ?_ GE445.out) | exact HB.out)⟩
            ·rw [if_neg c34] at H
             have c34b0 : (a0.toList == ([] : List UInt8)) = false := beq_eq_false_iff_ne.mpr c34
             have c34b1 : (a0.toList != ([] : List UInt8)) = true := bne_iff_ne.mpr c34
             replace H := Option.bind_eq_some_iff.mp H
             obtain ⟨t456,A550,H⟩ := H
             replace H : (if t456.toList = a0.toList then (some (rd x7_1 0,rd x7_1 1,b2_,b3_,t447,t452,rd x7_1 5,rd x7_1 6,true)) else (some (0,0,false,false,([] : List Int),([] : List Int),0,0,false))) = some (r1,r2,r3,r4,r5,r6,r7,r8,r9) := H
             have A55 := Qa A550
             clear A550
             refine skip_ (w1 := ?_) (by rfl) rfl ?_ ?_
             rotate_left
             ·go_simp
              rfl
             refine hK.out _ _ ⟨(cell_far8 (by have ne_ := Kd.own_blk (Kd.R_ne HO_7.out BK445.out (by decide)); exact ne_) _ _ _ _ _ _ _ _).trans hHeld.1,(cell_far8 (by have ne_ := Kd.own_blk (Kd.R_ne HO_7.out BK445.out (by decide)); exact ne_) _ _ _ _ _ _ _ _).trans hHeld.2.1,(cell_far8 (by have ne_ := Kd.own_blk (Kd.R_ne HO_6.out BK445.out (by decide)); exact ne_) _ _ _ _ _ _ _ _).trans hHeld.2.2.1,(cell_far8 (by have ne_ := Kd.own_blk (Kd.R_ne HO_6.out BK445.out (by decide)); exact ne_) _ _ _ _ _ _ _ _).trans hHeld.2.2.2.1,(cell_far8 (by have ne_ := Kd.own_blk (Kd.R_ne HO_7.out BK445.out (by decide)); exact ne_) _ _ _ _ _ _ _ _).trans hHeld.2.2.2.2.1,(cell_far8 (by have ne_ := Kd.own_blk (Kd.R_ne HO_7.out BK445.out (by decide)); exact ne_) _ _ _ _ _ _ _ _).trans hHeld.2.2.2.2.2⟩ (fun hHeld => ?_)
             clear hK K
             refine done_ (done_of HT_.out (by kernel_rfl)) ?_
             have s0_ := Qa (R_far8 (QN HO_4.out BK445.out (by decide)) (.int .i64 (rd x7_1 0)) (.int .i64 (rd x7_1 1)) (.bool b2_) (.bool b3_) (.slice none 0 0) (.slice none 0 0) (.int .i64 (rd x7_1 5)) (.int .i64 (rd x7_1 6)))
             have s1_ := Qa (R_far8 (QN HO_5.out BK445.out (by decide)) (.int .i64 (rd x7_1 0)) (.int .i64 (rd x7_1 1)) (.bool b2_) (.bool b3_) (.slice none 0 0) (.slice none 0 0) (.int .i64 (rd x7_1 5)) (.int .i64 (rd x7_1 6)))
             have s2_ := Qa (R_far8 (QN HO_6.out BK445.out (by decide)) (.int .i64 (rd x7_1 0)) (.int .i64 (rd x7_1 1)) (.bool b2_) (.bool b3_) (.slice none 0 0) (.slice none 0 0) (.int .i64 (rd x7_1 5)) (.int .i64 (rd x7_1 6)))
             have s3_ := Qa (R_far8 (QN HO_7.out BK445.out (by decide)) (.int .i64 (rd x7_1 0)) (.int .i64 (rd x7_1 1)) (.bool b2_) (.bool b3_) (.slice none 0 0) (.slice none 0 0) (.int .i64 (rd x7_1 5)) (.int .i64 (rd x7_1 6)))
             have s4_ := Qa (blk_far8 BK414.out NB414_445.out (.int .i64 (rd x7_1 0)) (.int .i64 (rd x7_1 1)) (.bool b2_) (.bool b3_) (.slice none 0 0) (.slice none 0 0) (.int .i64 (rd x7_1 5)) (.int .i64 (rd x7_1 6)))
             have s5_ := Qa (blk_put8 BK445.out (.int .i64 (rd x7_1 0)) (.int .i64 (rd x7_1 1)) (.bool b2_) (.bool b3_) (.slice none 0 0) (.slice none 0 0) (.int .i64 (rd x7_1 5)) (.int .i64 (rd x7_1 6)))
             have s6_ := Qa (below_set8 HB.out GE445.out (.int .i64 (rd x7_1 0)) (.int .i64 (rd x7_1 1)) (.bool b2_) (.bool b3_) (.slice none 0 0) (.slice none 0 0) (.int .i64 (rd x7_1 5)) (.int .i64 (rd x7_1 6)))
             generalize World.setCell _ ⟨gb445,7,none⟩ _ = ws_ at s0_ s1_ s2_ s3_ s4_ s5_ s6_ ⊢
             clear HO_4 HO_5 HO_6 HO_7 BK414 BK445 HB
             have HO_4 := s0_
             have HO_5 := s1_
             have HO_6 := s2_
             have HO_7 := s3_
             have BK414 := s4_
             have BK445 : Aside0 (ws_.heap[gb445]? = some (.cells #[.int .i64 (rd x7_1 0),.int .i64 (rd x7_1 1),.bool b2_,.bool b3_,.slice none 0 0,.slice none 0 0,.int .i64 (rd x7_1 5),.int .i64 (rd x7_1 6)] 26 (0,0))) := s5_
             have HB := s6_
             clear s0_ s1_ s2_ s3_ s4_ s5_ s6_
             have p446 : 0 ≤ (3 : Int) := (by omega)
             have q446 : 3 < (x6_1.length : Int) := of_decide_eq_true (by first | (with_reducible assumption) | assumption)
             obtain ⟨ad446,e446,hx446_0⟩ := Kd.at_string (QS HO_6.out).2.2 3 p446 q446
             obtain rfl : ad441 = ad446 := (by injection e446)
             (try simp only [show (3 : Int).toNat = 3 from rfl,Nat.reduceMul,Nat.reduceEqDiff,Go.Addr.add,↓reduceIte] at hx446_0)
             have qi446 : (3 < x6_1.length) = True := eq_true (by omega)
             (try rw [show ((3 : Int)).toNat = 3 from rfl] at hx446_0)
             replace p446 := eq_true p446
             replace q446 := eq_true q446
             by_cases c56 : t456.toList = a0.toList
             ·rw [if_pos c56] at H
              have c56b0 : (t456.toList == a0.toList) = true := beq_iff_eq.mpr c56
              have c56b1 : (t456.toList != a0.toList) = false := bne_eq_false_iff_eq.mpr c56
              clear c56
              simp only [Option.some.injEq,Prod.mk.injEq] at H
              obtain ⟨rfl,rfl,rfl,rfl,rfl,rfl,rfl,rfl,rfl⟩ := H
              (try simp only [c56b0,c56b1])
              try go_wp2_with (first | ((with_reducible refine gate_callee (f := 43) rfl ?_); refine goesL_ (some 93) rfl rfl Tryd.func43 (by kernel_rfl) rfl #[.string (rdOf ByteArray.empty x6_1 3)] rfl (by (try simp only [List.map_toArray,List.map_cons,List.map_nil]); first | done | rfl | (simp only [List.length_drop,List.length_take]; rfl)) ?_; (with_reducible refine (spec_ParsePattern.calls k1 (rdOf ByteArray.empty x6_1 3) t447 t448 _ A31.out).mono ?_); rintro e w69 ⟨v449,rfl,ho0,hb⟩; refine ⟨_,rfl,?_⟩; have n0_ := Qa (QO (by (with_reducible repeat (first | apply QD | apply QE | apply QG)); exact HO_4.out) hb); have n1_ := Qa (QO (by (with_reducible repeat (first | apply QD | apply QE | apply QG)); exact HO_5.out) hb); have n2_ := Qa (QO (by (with_reducible repeat (first | apply QD | apply QE | apply QG)); exact HO_6.out) hb); have n3_ := Qa (Kd.R_elder' (by (with_reducible repeat (first | apply QD | apply QE | apply QG)); exact HO_7.out) (Kd.R_base ho0) hb); have n4_ := Qa (Kd.R_lower (Kd.R_new' ho0 (Kd.R_lt (by (with_reducible repeat (first | apply QD | apply QE | apply QG)); exact HO_7.out))) (QR (by repeat (first | (with_reducible first | exact HB.out | apply QI | apply QC | apply QH | refine QL ?_ GE414.out | refine QL ?_ GE445.out) | exact HB.out)))); have n5_ := Qa (QV (g := gb414) (o := .cells #[.int .i64 0,.int .i64 0,.bool false,.bool false,.slice none 0 0,.slice none 0 0,.int .i64 0,.int .i64 0] 26 (0,0)) (by (with_reducible repeat (first | refine QJ ?_ _ | refine QM ?_ | refine QK ?_ _)); exact BK414.out) hb); have n6_ := Qa (QV (g := gb445) (o := .cells #[.int .i64 (rd x7_1 0),.int .i64 (rd x7_1 1),.bool b2_,.bool b3_,.slice none 0 0,.slice none 0 0,.int .i64 (rd x7_1 5),.int .i64 (rd x7_1 6)] 26 (0,0)) (by (with_reducible repeat (first | refine QJ ?_ _ | refine QM ?_ | refine QK ?_ _)); exact BK445.out) hb); have n7_ := Qa (QU (by repeat (first | (with_reducible first | exact HB.out | apply QI | apply QC | apply QH | refine QL ?_ GE414.out | refine QL ?_ GE445.out) | exact HB.out)) hb); clear HO_4; clear HO_5; clear HO_6; clear HO_7; clear BK414; clear BK445; clear HB; revert n0_ n1_ n2_ n3_ n4_ n5_ n6_ n7_; intro HO_4 HO_5 HO_6 HO_7 HO450 BK414 BK445 HB; (try clear hb); (try clear hb2); (try clear hk); (try clear hi); (try clear ho0); obtain ⟨Ao70,co70,eo70⟩ := Kd.R_slice HO450.out; subst eo70; have hnb71 := NB445_414.out; have hnc71 := NB414_445.out; have hcz72_0 : w69.cell? ⟨gb445,0,none⟩ = some (.int .i64 (rd x7_1 0)) := (QF BK445.out 0).trans rfl; have hcz72_1 : w69.cell? ⟨gb445,1,none⟩ = some (.int .i64 (rd x7_1 1)) := (QF BK445.out 1).trans rfl; have hcz72_2 : w69.cell? ⟨gb445,2,none⟩ = some (.bool b2_) := (QF BK445.out 2).trans rfl; have hcz72_3 : w69.cell? ⟨gb445,3,none⟩ = some (.bool b3_) := (QF BK445.out 3).trans rfl; have hcz72_4 : w69.cell? ⟨gb445,4,none⟩ = some (.slice none 0 0) := (QF BK445.out 4).trans rfl; have hcz72_5 : w69.cell? ⟨gb445,5,none⟩ = some (.slice none 0 0) := (QF BK445.out 5).trans rfl; have hcz72_6 : w69.cell? ⟨gb445,6,none⟩ = some (.int .i64 (rd x7_1 5)) := (QF BK445.out 6).trans rfl; have hcz72_7 : w69.cell? ⟨gb445,7,none⟩ = some (.int .i64 (rd x7_1 6)) := (QF BK445.out 7).trans rfl; have hfz72_0 := QB BK445.out 0; have hfz72_1 := QB BK445.out 1; have hfz72_2 := QB BK445.out 2; have hfz72_3 := QB BK445.out 3; have hfz72_4 := QB BK445.out 4; have hfz72_5 := QB BK445.out 5; have hfz72_6 := QB BK445.out 6; have hfz72_7 := QB BK445.out 7; have p451 : 0 ≤ (4 : Int) := (by omega); have q451 : 4 < (x6_1.length : Int) := of_decide_eq_true (by first | (with_reducible assumption) | assumption); obtain ⟨ad451,e451,hx451_0⟩ := Kd.at_string (QS HO_6.out).2.2 4 p451 q451; obtain rfl : ad441 = ad451 := (by injection e451); (try simp only [show (4 : Int).toNat = 4 from rfl,Nat.reduceMul,Nat.reduceEqDiff,Go.Addr.add,↓reduceIte] at hx451_0); have qi451 : (4 < x6_1.length) = True := eq_true (by omega); (try rw [show ((4 : Int)).toNat = 4 from rfl] at hx451_0); have hn451_0 : ad441.block ≠ gb445 := Kd.own_blk (Kd.R_ne HO_6.out BK445.out (by decide)); replace hx451_0 := (cell_far (p := ⟨gb445,4,none⟩) (by first | (rw [add_block]; exact hn451_0) | (show (Addr.add _ _).block ≠ _; rw [add_block]; exact hn451_0) | exact hn451_0) (.slice Ao70 t447.length co70)).trans hx451_0; clear hn451_0; replace p451 := eq_true p451; replace q451 := eq_true q451) | ((with_reducible refine gate_callee (f := 43) rfl ?_); refine goesL_ (some 101) rfl rfl Tryd.func43 (by kernel_rfl) rfl #[.string (rdOf ByteArray.empty x6_1 4)] rfl (by (try simp only [List.map_toArray,List.map_cons,List.map_nil]); first | done | rfl | (simp only [List.length_drop,List.length_take]; rfl)) ?_; (with_reducible refine (spec_ParsePattern.calls k1 (rdOf ByteArray.empty x6_1 4) t452 t453 _ A33.out).mono ?_); rintro e w73 ⟨v454,rfl,ho0,hb⟩; refine ⟨_,rfl,?_⟩; have n0_ := Qa (QO (by (with_reducible repeat (first | apply QD | apply QE | apply QG)); exact (QP (QW (QN HO_4.out BK445.out (by decide))) (fun _ h_ => h_.1))) hb); have n1_ := Qa (QO (by (with_reducible repeat (first | apply QD | apply QE | apply QG)); exact (QP (QW (QN HO_5.out BK445.out (by decide))) (fun _ h_ => h_.1))) hb); have n2_ := Qa (QO (by (with_reducible repeat (first | apply QD | apply QE | apply QG)); exact (QP (QW (QN HO_6.out BK445.out (by decide))) (fun _ h_ => h_.1))) hb); have n3_ := Qa (Kd.R_elder' (by (with_reducible repeat (first | apply QD | apply QE | apply QG)); exact (QP (QW (QN HO_7.out BK445.out (by decide))) (fun _ h_ => h_.1))) (Kd.R_base ho0) hb); have n4_ := Qa (Kd.R_elder' (by (with_reducible repeat (first | apply QD | apply QE | apply QG)); exact (QP (QW (QN HO450.out BK445.out (by decide))) (fun _ h_ => h_.1))) (Kd.R_base ho0) hb); have n5_ := Qa (Kd.R_lower (Kd.R_new' (Kd.R_new' ho0 (Kd.R_lt (by (with_reducible repeat (first | apply QD | apply QE | apply QG)); exact (QP (QW (QN HO_7.out BK445.out (by decide))) (fun _ h_ => h_.1))))) (Kd.R_lt (by (with_reducible repeat (first | apply QD | apply QE | apply QG)); exact (QP (QW (QN HO450.out BK445.out (by decide))) (fun _ h_ => h_.1))))) (QR (by repeat (first | (with_reducible first | exact HB.out | apply QI | apply QC | apply QH | refine QL ?_ GE414.out | refine QL ?_ GE445.out) | exact HB.out)))); have n6_ := Qa (QV (g := gb414) (o := .cells #[.int .i64 0,.int .i64 0,.bool false,.bool false,.slice none 0 0,.slice none 0 0,.int .i64 0,.int .i64 0] 26 (0,0)) (by (with_reducible repeat (first | refine QJ ?_ _ | refine QM ?_ | refine QK ?_ _)); refine blk_far ?_ NB414_445.out _; (with_reducible repeat (first | refine QJ ?_ _ | refine QM ?_ | refine QK ?_ _)); exact BK414.out) hb); have n7_ := Qa (QV (g := gb445) (o := .cells #[.int .i64 (rd x7_1 0),.int .i64 (rd x7_1 1),.bool b2_,.bool b3_,.slice Ao70 t447.length co70,.slice none 0 0,.int .i64 (rd x7_1 5),.int .i64 (rd x7_1 6)] 26 (0,0)) (by (with_reducible repeat (first | refine QJ ?_ _ | refine QM ?_ | refine QK ?_ _)); refine QT (cs := #[.int .i64 (rd x7_1 0),.int .i64 (rd x7_1 1),.bool b2_,.bool b3_,.slice none 0 0,.slice none 0 0,.int .i64 (rd x7_1 5),.int .i64 (rd x7_1 6)]) ?_ 4 _ rfl; (with_reducible repeat (first | refine QJ ?_ _ | refine QM ?_ | refine QK ?_ _)); exact BK445.out) hb); have n8_ := Qa (QU (by repeat (first | (with_reducible first | exact HB.out | apply QI | apply QC | apply QH | refine QL ?_ GE414.out | refine QL ?_ GE445.out) | exact HB.out)) hb); clear HO_4; clear HO_5; clear HO_6; clear HO_7; clear HO450; clear BK414; clear BK445; clear HB; revert n0_ n1_ n2_ n3_ n4_ n5_ n6_ n7_ n8_; intro HO_4 HO_5 HO_6 HO_7 HO450 HO455 BK414 BK445 HB; (try clear hb); (try clear hb2); (try clear hk); (try clear hi); (try clear ho0); obtain ⟨Ao74,co74,eo74⟩ := Kd.R_slice HO455.out; subst eo74; have hcz75_0 : w73.cell? ⟨gb445,0,none⟩ = some (.int .i64 (rd x7_1 0)) := (QF BK445.out 0).trans rfl; have hcz75_1 : w73.cell? ⟨gb445,1,none⟩ = some (.int .i64 (rd x7_1 1)) := (QF BK445.out 1).trans rfl; have hcz75_2 : w73.cell? ⟨gb445,2,none⟩ = some (.bool b2_) := (QF BK445.out 2).trans rfl; have hcz75_3 : w73.cell? ⟨gb445,3,none⟩ = some (.bool b3_) := (QF BK445.out 3).trans rfl; have hcz75_4 : w73.cell? ⟨gb445,4,none⟩ = some (.slice Ao70 t447.length co70) := (QF BK445.out 4).trans rfl; have hcz75_5 : w73.cell? ⟨gb445,5,none⟩ = some (.slice none 0 0) := (QF BK445.out 5).trans rfl; have hcz75_6 : w73.cell? ⟨gb445,6,none⟩ = some (.int .i64 (rd x7_1 5)) := (QF BK445.out 6).trans rfl; have hcz75_7 : w73.cell? ⟨gb445,7,none⟩ = some (.int .i64 (rd x7_1 6)) := (QF BK445.out 7).trans rfl; have hfz75_0 := QB BK445.out 0; have hfz75_1 := QB BK445.out 1; have hfz75_2 := QB BK445.out 2; have hfz75_3 := QB BK445.out 3; have hfz75_4 := QB BK445.out 4; have hfz75_5 := QB BK445.out 5; have hfz75_6 := QB BK445.out 6; have hfz75_7 := QB BK445.out 7) | (go_at_call 23; (with_reducible refine (spec_RulesText.calls k1 (rd x7_1 0) (rd x7_1 1) b2_ b3_ _ _ t447 _ _ t452 (rd x7_1 5) (rd x7_1 6) t456 _ ?side1 ?side2 ?side3 ?side4 A55.out).mono ?_); (case side1 => refine (QS (e := 3) (base := w.heap.size) (ok := fun k_ => ((True ∧ some k_ ≠ (.slice (some ad439) x7_1.length co36 : Value).ownBlock) ∧ some k_ ≠ (.slice Ao74 t452.length co74 : Value).ownBlock)) (n := t447.length) (c := co70) ?_).2.2; exact (by (with_reducible repeat (first | apply QD | apply QE | apply QG)); exact (QP (QW (QN HO450.out BK445.out (by decide))) (fun _ h_ => h_.1)))); (case side2 => exact (QS HO450.out).2.1); (case side3 => refine (QS (e := 3) (base := w.heap.size) (ok := fun k_ => ((True ∧ some k_ ≠ (.slice (some ad439) x7_1.length co36 : Value).ownBlock) ∧ some k_ ≠ (.slice Ao70 t447.length co70 : Value).ownBlock)) (n := t452.length) (c := co74) ?_).2.2; exact (by (with_reducible repeat (first | apply QD | apply QE | apply QG)); exact (QP (QW (QN HO455.out BK445.out (by decide))) (fun _ h_ => h_.1)))); (case side4 => exact (QS HO455.out).2.1); rintro e w76 ⟨rfl,hb⟩; have n0_ := Qa (QO (by (with_reducible repeat (first | apply QD | apply QE | apply QG)); exact (QP (QW (QN HO_4.out BK445.out (by decide))) (fun _ h_ => h_.1))) hb); have n1_ := Qa (QO (by (with_reducible repeat (first | apply QD | apply QE | apply QG)); exact (QP (QW (QN HO_5.out BK445.out (by decide))) (fun _ h_ => h_.1))) hb); have n2_ := Qa (QO (by (with_reducible repeat (first | apply QD | apply QE | apply QG)); exact (QP (QW (QN HO_6.out BK445.out (by decide))) (fun _ h_ => h_.1))) hb); have n3_ := Qa (QO (by (with_reducible repeat (first | apply QD | apply QE | apply QG)); exact (QP (QW (QN HO_7.out BK445.out (by decide))) (fun _ h_ => h_.1))) hb); have n4_ := Qa (QO (by (with_reducible repeat (first | apply QD | apply QE | apply QG)); exact (QP (QW (QN HO450.out BK445.out (by decide))) (fun _ h_ => h_.1))) hb); have n5_ := Qa (QO (by (with_reducible repeat (first | apply QD | apply QE | apply QG)); exact (QP (QW (QN HO455.out BK445.out (by decide))) (fun _ h_ => h_.1))) hb); have n6_ := Qa (QV (g := gb414) (o := .cells #[.int .i64 0,.int .i64 0,.bool false,.bool false,.slice none 0 0,.slice none 0 0,.int .i64 0,.int .i64 0] 26 (0,0)) (by (with_reducible repeat (first | refine QJ ?_ _ | refine QM ?_ | refine QK ?_ _)); refine blk_far ?_ NB414_445.out _; (with_reducible repeat (first | refine QJ ?_ _ | refine QM ?_ | refine QK ?_ _)); exact BK414.out) hb); have n7_ := Qa (QV (g := gb445) (o := .cells #[.int .i64 (rd x7_1 0),.int .i64 (rd x7_1 1),.bool b2_,.bool b3_,.slice Ao70 t447.length co70,.slice Ao74 t452.length co74,.int .i64 (rd x7_1 5),.int .i64 (rd x7_1 6)] 26 (0,0)) (by (with_reducible repeat (first | refine QJ ?_ _ | refine QM ?_ | refine QK ?_ _)); refine QT (cs := #[.int .i64 (rd x7_1 0),.int .i64 (rd x7_1 1),.bool b2_,.bool b3_,.slice Ao70 t447.length co70,.slice none 0 0,.int .i64 (rd x7_1 5),.int .i64 (rd x7_1 6)]) ?_ 5 _ rfl; (with_reducible repeat (first | refine QJ ?_ _ | refine QM ?_ | refine QK ?_ _)); exact BK445.out) hb); have n8_ := Qa (QU (by repeat (first | (with_reducible first | exact HB.out | apply QI | apply QC | apply QH | refine QL ?_ GE414.out | refine QL ?_ GE445.out) | exact HB.out)) hb); clear HO_4; clear HO_5; clear HO_6; clear HO_7; clear HO450; clear HO455; clear BK414; clear BK445; clear HB; revert n0_ n1_ n2_ n3_ n4_ n5_ n6_ n7_ n8_; intro HO_4 HO_5 HO_6 HO_7 HO450 HO455 BK414 BK445 HB; (try clear hb); (try clear hb2); (try clear hk); (try clear hi); have hcz77_0 : w76.cell? ⟨gb445,0,none⟩ = some (.int .i64 (rd x7_1 0)) := (QF BK445.out 0).trans rfl; have hcz77_1 : w76.cell? ⟨gb445,1,none⟩ = some (.int .i64 (rd x7_1 1)) := (QF BK445.out 1).trans rfl; have hcz77_2 : w76.cell? ⟨gb445,2,none⟩ = some (.bool b2_) := (QF BK445.out 2).trans rfl; have hcz77_3 : w76.cell? ⟨gb445,3,none⟩ = some (.bool b3_) := (QF BK445.out 3).trans rfl; have hcz77_4 : w76.cell? ⟨gb445,4,none⟩ = some (.slice Ao70 t447.length co70) := (QF BK445.out 4).trans rfl; have hcz77_5 : w76.cell? ⟨gb445,5,none⟩ = some (.slice Ao74 t452.length co74) := (QF BK445.out 5).trans rfl; have hcz77_6 : w76.cell? ⟨gb445,6,none⟩ = some (.int .i64 (rd x7_1 5)) := (QF BK445.out 6).trans rfl; have hcz77_7 : w76.cell? ⟨gb445,7,none⟩ = some (.int .i64 (rd x7_1 6)) := (QF BK445.out 7).trans rfl; have hfz77_0 := QB BK445.out 0; have hfz77_1 := QB BK445.out 1; have hfz77_2 := QB BK445.out 2; have hfz77_3 := QB BK445.out 3; have hfz77_4 := QB BK445.out 4; have hfz77_5 := QB BK445.out 5; have hfz77_6 := QB BK445.out 6; have hfz77_7 := QB BK445.out 7; have hcz78_0 : w76.cell? ⟨gb414,0,none⟩ = some (.int .i64 0) := (QF BK414.out 0).trans rfl; have hcz78_1 : w76.cell? ⟨gb414,1,none⟩ = some (.int .i64 0) := (QF BK414.out 1).trans rfl; have hcz78_2 : w76.cell? ⟨gb414,2,none⟩ = some (.bool false) := (QF BK414.out 2).trans rfl; have hcz78_3 : w76.cell? ⟨gb414,3,none⟩ = some (.bool false) := (QF BK414.out 3).trans rfl; have hcz78_4 : w76.cell? ⟨gb414,4,none⟩ = some (.slice none 0 0) := (QF BK414.out 4).trans rfl; have hcz78_5 : w76.cell? ⟨gb414,5,none⟩ = some (.slice none 0 0) := (QF BK414.out 5).trans rfl; have hcz78_6 : w76.cell? ⟨gb414,6,none⟩ = some (.int .i64 0) := (QF BK414.out 6).trans rfl; have hcz78_7 : w76.cell? ⟨gb414,7,none⟩ = some (.int .i64 0) := (QF BK414.out 7).trans rfl; have hfz78_0 := QB BK414.out 0; have hfz78_1 := QB BK414.out 1; have hfz78_2 := QB BK414.out 2; have hfz78_3 := QB BK414.out 3; have hfz78_4 := QB BK414.out 4; have hfz78_5 := QB BK414.out 5; have hfz78_6 := QB BK414.out 6; have hfz78_7 := QB BK414.out 7))
              refine bodyPost_ret (results_ct rfl _ _ gb414 26 #[.int .i64 (rd x7_1 0),.int .i64 (rd x7_1 1),.bool b2_,.bool b3_,.slice Ao70 t447.length co70,.slice Ao74 t452.length co74,.int .i64 (rd x7_1 5),.int .i64 (rd x7_1 6)] (0,0) _ rfl (by (with_reducible repeat (first | refine QJ ?_ _ | refine QM ?_ | refine QK ?_ _)); refine QT (cs := #[.int .i64 (rd x7_1 0),.int .i64 (rd x7_1 1),.bool b2_,.bool b3_,.slice Ao70 t447.length co70,.slice Ao74 t452.length co74,.int .i64 (rd x7_1 5),.int .i64 0]) ?_ 7 _ rfl; (with_reducible repeat (first | refine QJ ?_ _ | refine QM ?_ | refine QK ?_ _)); refine QT (cs := #[.int .i64 (rd x7_1 0),.int .i64 (rd x7_1 1),.bool b2_,.bool b3_,.slice Ao70 t447.length co70,.slice Ao74 t452.length co74,.int .i64 0,.int .i64 0]) ?_ 6 _ rfl; (with_reducible repeat (first | refine QJ ?_ _ | refine QM ?_ | refine QK ?_ _)); refine QT (cs := #[.int .i64 (rd x7_1 0),.int .i64 (rd x7_1 1),.bool b2_,.bool b3_,.slice Ao70 t447.length co70,.slice none 0 0,.int .i64 0,.int .i64 0]) ?_ 5 _ rfl; (with_reducible repeat (first | refine QJ ?_ _ | refine QM ?_ | refine QK ?_ _)); refine QT (cs := #[.int .i64 (rd x7_1 0),.int .i64 (rd x7_1 1),.bool b2_,.bool b3_,.slice none 0 0,.slice none 0 0,.int .i64 0,.int .i64 0]) ?_ 4 _ rfl; (with_reducible repeat (first | refine QJ ?_ _ | refine QM ?_ | refine QK ?_ _)); refine QT (cs := #[.int .i64 (rd x7_1 0),.int .i64 (rd x7_1 1),.bool b2_,.bool false,.slice none 0 0,.slice none 0 0,.int .i64 0,.int .i64 0]) ?_ 3 _ rfl; (with_reducible repeat (first | refine QJ ?_ _ | refine QM ?_ | refine QK ?_ _)); refine QT (cs := #[.int .i64 (rd x7_1 0),.int .i64 (rd x7_1 1),.bool false,.bool false,.slice none 0 0,.slice none 0 0,.int .i64 0,.int .i64 0]) ?_ 2 _ rfl; (with_reducible repeat (first | refine QJ ?_ _ | refine QM ?_ | refine QK ?_ _)); refine QT (cs := #[.int .i64 (rd x7_1 0),.int .i64 0,.bool false,.bool false,.slice none 0 0,.slice none 0 0,.int .i64 0,.int .i64 0]) ?_ 1 _ rfl; (with_reducible repeat (first | refine QJ ?_ _ | refine QM ?_ | refine QK ?_ _)); refine QT (cs := #[.int .i64 0,.int .i64 0,.bool false,.bool false,.slice none 0 0,.slice none 0 0,.int .i64 0,.int .i64 0]) ?_ 0 _ rfl; (with_reducible repeat (first | refine QJ ?_ _ | refine QM ?_ | refine QK ?_ _)); exact BK414.out) Tryd.underlying26 rfl (by kernel_rfl)) rfl ?_
              exact ⟨_,_,by first | rfl | (simp [errW_none,errW_some] <;> rfl) | (simp [*,errW_none,errW_some] <;> rfl),by (with_reducible repeat (first | apply QD | apply QE | apply QG)); exact QP (QW (QW (QW (QW (QW (QW (QW (QW (QN HO450.out BK414.out (by decide)))))))))) (fun _ hk => hk.1.2),by (with_reducible repeat (first | apply QD | apply QE | apply QG)); exact QP (QW (QW (QW (QW (QW (QW (QW (QW (QN HO455.out BK414.out (by decide)))))))))) (fun _ hk => hk.1.2),by repeat (first | (with_reducible first | exact HB.out | apply QI | apply QC | apply QH | refine QL ?_ GE414.out | refine QL ?_ GE445.out) | exact HB.out)⟩
             ·rw [if_neg c56] at H
              have c56b0 : (t456.toList == a0.toList) = false := beq_eq_false_iff_ne.mpr c56
              have c56b1 : (t456.toList != a0.toList) = true := bne_iff_ne.mpr c56
              simp only [Option.some.injEq,Prod.mk.injEq] at H
              obtain ⟨rfl,rfl,rfl,rfl,rfl,rfl,rfl,rfl,rfl⟩ := H
              (try simp only [c56b0,c56b1])
              try go_wp2_with (first | ((with_reducible refine gate_callee (f := 43) rfl ?_); refine goesL_ (some 93) rfl rfl Tryd.func43 (by kernel_rfl) rfl #[.string (rdOf ByteArray.empty x6_1 3)] rfl (by (try simp only [List.map_toArray,List.map_cons,List.map_nil]); first | done | rfl | (simp only [List.length_drop,List.length_take]; rfl)) ?_; (with_reducible refine (spec_ParsePattern.calls k1 (rdOf ByteArray.empty x6_1 3) t447 t448 _ A31.out).mono ?_); rintro e w91 ⟨v449,rfl,ho0,hb⟩; refine ⟨_,rfl,?_⟩; have n0_ := Qa (QO (by (with_reducible repeat (first | apply QD | apply QE | apply QG)); exact HO_4.out) hb); have n1_ := Qa (QO (by (with_reducible repeat (first | apply QD | apply QE | apply QG)); exact HO_5.out) hb); have n2_ := Qa (QO (by (with_reducible repeat (first | apply QD | apply QE | apply QG)); exact HO_6.out) hb); have n3_ := Qa (Kd.R_elder' (by (with_reducible repeat (first | apply QD | apply QE | apply QG)); exact HO_7.out) (Kd.R_base ho0) hb); have n4_ := Qa (Kd.R_lower (Kd.R_new' ho0 (Kd.R_lt (by (with_reducible repeat (first | apply QD | apply QE | apply QG)); exact HO_7.out))) (QR (by repeat (first | (with_reducible first | exact HB.out | apply QI | apply QC | apply QH | refine QL ?_ GE414.out | refine QL ?_ GE445.out) | exact HB.out)))); have n5_ := Qa (QV (g := gb414) (o := .cells #[.int .i64 0,.int .i64 0,.bool false,.bool false,.slice none 0 0,.slice none 0 0,.int .i64 0,.int .i64 0] 26 (0,0)) (by (with_reducible repeat (first | refine QJ ?_ _ | refine QM ?_ | refine QK ?_ _)); exact BK414.out) hb); have n6_ := Qa (QV (g := gb445) (o := .cells #[.int .i64 (rd x7_1 0),.int .i64 (rd x7_1 1),.bool b2_,.bool b3_,.slice none 0 0,.slice none 0 0,.int .i64 (rd x7_1 5),.int .i64 (rd x7_1 6)] 26 (0,0)) (by (with_reducible repeat (first | refine QJ ?_ _ | refine QM ?_ | refine QK ?_ _)); exact BK445.out) hb); have n7_ := Qa (QU (by repeat (first | (with_reducible first | exact HB.out | apply QI | apply QC | apply QH | refine QL ?_ GE414.out | refine QL ?_ GE445.out) | exact HB.out)) hb); clear HO_4; clear HO_5; clear HO_6; clear HO_7; clear BK414; clear BK445; clear HB; revert n0_ n1_ n2_ n3_ n4_ n5_ n6_ n7_; intro HO_4 HO_5 HO_6 HO_7 HO450 BK414 BK445 HB; (try clear hb); (try clear hb2); (try clear hk); (try clear hi); (try clear ho0); obtain ⟨Ao92,co92,eo92⟩ := Kd.R_slice HO450.out; subst eo92; have hnb93 := NB445_414.out; have hnc93 := NB414_445.out; have hcz94_0 : w91.cell? ⟨gb445,0,none⟩ = some (.int .i64 (rd x7_1 0)) := (QF BK445.out 0).trans rfl; have hcz94_1 : w91.cell? ⟨gb445,1,none⟩ = some (.int .i64 (rd x7_1 1)) := (QF BK445.out 1).trans rfl; have hcz94_2 : w91.cell? ⟨gb445,2,none⟩ = some (.bool b2_) := (QF BK445.out 2).trans rfl; have hcz94_3 : w91.cell? ⟨gb445,3,none⟩ = some (.bool b3_) := (QF BK445.out 3).trans rfl; have hcz94_4 : w91.cell? ⟨gb445,4,none⟩ = some (.slice none 0 0) := (QF BK445.out 4).trans rfl; have hcz94_5 : w91.cell? ⟨gb445,5,none⟩ = some (.slice none 0 0) := (QF BK445.out 5).trans rfl; have hcz94_6 : w91.cell? ⟨gb445,6,none⟩ = some (.int .i64 (rd x7_1 5)) := (QF BK445.out 6).trans rfl; have hcz94_7 : w91.cell? ⟨gb445,7,none⟩ = some (.int .i64 (rd x7_1 6)) := (QF BK445.out 7).trans rfl; have hfz94_0 := QB BK445.out 0; have hfz94_1 := QB BK445.out 1; have hfz94_2 := QB BK445.out 2; have hfz94_3 := QB BK445.out 3; have hfz94_4 := QB BK445.out 4; have hfz94_5 := QB BK445.out 5; have hfz94_6 := QB BK445.out 6; have hfz94_7 := QB BK445.out 7; have p451 : 0 ≤ (4 : Int) := (by omega); have q451 : 4 < (x6_1.length : Int) := of_decide_eq_true (by first | (with_reducible assumption) | assumption); obtain ⟨ad451,e451,hx451_0⟩ := Kd.at_string (QS HO_6.out).2.2 4 p451 q451; obtain rfl : ad441 = ad451 := (by injection e451); (try simp only [show (4 : Int).toNat = 4 from rfl,Nat.reduceMul,Nat.reduceEqDiff,Go.Addr.add,↓reduceIte] at hx451_0); have qi451 : (4 < x6_1.length) = True := eq_true (by omega); (try rw [show ((4 : Int)).toNat = 4 from rfl] at hx451_0); have hn451_0 : ad441.block ≠ gb445 := Kd.own_blk (Kd.R_ne HO_6.out BK445.out (by decide)); replace hx451_0 := (cell_far (p := ⟨gb445,4,none⟩) (by first | (rw [add_block]; exact hn451_0) | (show (Addr.add _ _).block ≠ _; rw [add_block]; exact hn451_0) | exact hn451_0) (.slice Ao92 t447.length co92)).trans hx451_0; clear hn451_0; replace p451 := eq_true p451; replace q451 := eq_true q451) | ((with_reducible refine gate_callee (f := 43) rfl ?_); refine goesL_ (some 101) rfl rfl Tryd.func43 (by kernel_rfl) rfl #[.string (rdOf ByteArray.empty x6_1 4)] rfl (by (try simp only [List.map_toArray,List.map_cons,List.map_nil]); first | done | rfl | (simp only [List.length_drop,List.length_take]; rfl)) ?_; (with_reducible refine (spec_ParsePattern.calls k1 (rdOf ByteArray.empty x6_1 4) t452 t453 _ A33.out).mono ?_); rintro e w95 ⟨v454,rfl,ho0,hb⟩; refine ⟨_,rfl,?_⟩; have n0_ := Qa (QO (by (with_reducible repeat (first | apply QD | apply QE | apply QG)); exact (QP (QW (QN HO_4.out BK445.out (by decide))) (fun _ h_ => h_.1))) hb); have n1_ := Qa (QO (by (with_reducible repeat (first | apply QD | apply QE | apply QG)); exact (QP (QW (QN HO_5.out BK445.out (by decide))) (fun _ h_ => h_.1))) hb); have n2_ := Qa (QO (by (with_reducible repeat (first | apply QD | apply QE | apply QG)); exact (QP (QW (QN HO_6.out BK445.out (by decide))) (fun _ h_ => h_.1))) hb); have n3_ := Qa (Kd.R_elder' (by (with_reducible repeat (first | apply QD | apply QE | apply QG)); exact (QP (QW (QN HO_7.out BK445.out (by decide))) (fun _ h_ => h_.1))) (Kd.R_base ho0) hb); have n4_ := Qa (Kd.R_elder' (by (with_reducible repeat (first | apply QD | apply QE | apply QG)); exact (QP (QW (QN HO450.out BK445.out (by decide))) (fun _ h_ => h_.1))) (Kd.R_base ho0) hb); have n5_ := Qa (Kd.R_lower (Kd.R_new' (Kd.R_new' ho0 (Kd.R_lt (by (with_reducible repeat (first | apply QD | apply QE | apply QG)); exact (QP (QW (QN HO_7.out BK445.out (by decide))) (fun _ h_ => h_.1))))) (Kd.R_lt (by (with_reducible repeat (first | apply QD | apply QE | apply QG)); exact (QP (QW (QN HO450.out BK445.out (by decide))) (fun _ h_ => h_.1))))) (QR (by repeat (first | (with_reducible first | exact HB.out | apply QI | apply QC | apply QH | refine QL ?_ GE414.out | refine QL ?_ GE445.out) | exact HB.out)))); have n6_ := Qa (QV (g := gb414) (o := .cells #[.int .i64 0,.int .i64 0,.bool false,.bool false,.slice none 0 0,.slice none 0 0,.int .i64 0,.int .i64 0] 26 (0,0)) (by (with_reducible repeat (first | refine QJ ?_ _ | refine QM ?_ | refine QK ?_ _)); refine blk_far ?_ NB414_445.out _; (with_reducible repeat (first | refine QJ ?_ _ | refine QM ?_ | refine QK ?_ _)); exact BK414.out) hb); have n7_ := Qa (QV (g := gb445) (o := .cells #[.int .i64 (rd x7_1 0),.int .i64 (rd x7_1 1),.bool b2_,.bool b3_,.slice Ao92 t447.length co92,.slice none 0 0,.int .i64 (rd x7_1 5),.int .i64 (rd x7_1 6)] 26 (0,0)) (by (with_reducible repeat (first | refine QJ ?_ _ | refine QM ?_ | refine QK ?_ _)); refine QT (cs := #[.int .i64 (rd x7_1 0),.int .i64 (rd x7_1 1),.bool b2_,.bool b3_,.slice none 0 0,.slice none 0 0,.int .i64 (rd x7_1 5),.int .i64 (rd x7_1 6)]) ?_ 4 _ rfl; (with_reducible repeat (first | refine QJ ?_ _ | refine QM ?_ | refine QK ?_ _)); exact BK445.out) hb); have n8_ := Qa (QU (by repeat (first | (with_reducible first | exact HB.out | apply QI | apply QC | apply QH | refine QL ?_ GE414.out | refine QL ?_ GE445.out) | exact HB.out)) hb); clear HO_4; clear HO_5; clear HO_6; clear HO_7; clear HO450; clear BK414; clear BK445; clear HB; revert n0_ n1_ n2_ n3_ n4_ n5_ n6_ n7_ n8_; intro HO_4 HO_5 HO_6 HO_7 HO450 HO455 BK414 BK445 HB; (try clear hb); (try clear hb2); (try clear hk); (try clear hi); (try clear ho0); obtain ⟨Ao96,co96,eo96⟩ := Kd.R_slice HO455.out; subst eo96; have hcz97_0 : w95.cell? ⟨gb445,0,none⟩ = some (.int .i64 (rd x7_1 0)) := (QF BK445.out 0).trans rfl; have hcz97_1 : w95.cell? ⟨gb445,1,none⟩ = some (.int .i64 (rd x7_1 1)) := (QF BK445.out 1).trans rfl; have hcz97_2 : w95.cell? ⟨gb445,2,none⟩ = some (.bool b2_) := (QF BK445.out 2).trans rfl; have hcz97_3 : w95.cell? ⟨gb445,3,none⟩ = some (.bool b3_) := (QF BK445.out 3).trans rfl; have hcz97_4 : w95.cell? ⟨gb445,4,none⟩ = some (.slice Ao92 t447.length co92) := (QF BK445.out 4).trans rfl; have hcz97_5 : w95.cell? ⟨gb445,5,none⟩ = some (.slice none 0 0) := (QF BK445.out 5).trans rfl; have hcz97_6 : w95.cell? ⟨gb445,6,none⟩ = some (.int .i64 (rd x7_1 5)) := (QF BK445.out 6).trans rfl; have hcz97_7 : w95.cell? ⟨gb445,7,none⟩ = some (.int .i64 (rd x7_1 6)) := (QF BK445.out 7).trans rfl; have hfz97_0 := QB BK445.out 0; have hfz97_1 := QB BK445.out 1; have hfz97_2 := QB BK445.out 2; have hfz97_3 := QB BK445.out 3; have hfz97_4 := QB BK445.out 4; have hfz97_5 := QB BK445.out 5; have hfz97_6 := QB BK445.out 6; have hfz97_7 := QB BK445.out 7) | (go_at_call 23; (with_reducible refine (spec_RulesText.calls k1 (rd x7_1 0) (rd x7_1 1) b2_ b3_ _ _ t447 _ _ t452 (rd x7_1 5) (rd x7_1 6) t456 _ ?side1 ?side2 ?side3 ?side4 A55.out).mono ?_); (case side1 => refine (QS (e := 3) (base := w.heap.size) (ok := fun k_ => ((True ∧ some k_ ≠ (.slice (some ad439) x7_1.length co36 : Value).ownBlock) ∧ some k_ ≠ (.slice Ao96 t452.length co96 : Value).ownBlock)) (n := t447.length) (c := co92) ?_).2.2; exact (by (with_reducible repeat (first | apply QD | apply QE | apply QG)); exact (QP (QW (QN HO450.out BK445.out (by decide))) (fun _ h_ => h_.1)))); (case side2 => exact (QS HO450.out).2.1); (case side3 => refine (QS (e := 3) (base := w.heap.size) (ok := fun k_ => ((True ∧ some k_ ≠ (.slice (some ad439) x7_1.length co36 : Value).ownBlock) ∧ some k_ ≠ (.slice Ao92 t447.length co92 : Value).ownBlock)) (n := t452.length) (c := co96) ?_).2.2; exact (by (with_reducible repeat (first | apply QD | apply QE | apply QG)); exact (QP (QW (QN HO455.out BK445.out (by decide))) (fun _ h_ => h_.1)))); (case side4 => exact (QS HO455.out).2.1); rintro e w98 ⟨rfl,hb⟩; have n0_ := Qa (QO (by (with_reducible repeat (first | apply QD | apply QE | apply QG)); exact (QP (QW (QN HO_4.out BK445.out (by decide))) (fun _ h_ => h_.1))) hb); have n1_ := Qa (QO (by (with_reducible repeat (first | apply QD | apply QE | apply QG)); exact (QP (QW (QN HO_5.out BK445.out (by decide))) (fun _ h_ => h_.1))) hb); have n2_ := Qa (QO (by (with_reducible repeat (first | apply QD | apply QE | apply QG)); exact (QP (QW (QN HO_6.out BK445.out (by decide))) (fun _ h_ => h_.1))) hb); have n3_ := Qa (QO (by (with_reducible repeat (first | apply QD | apply QE | apply QG)); exact (QP (QW (QN HO_7.out BK445.out (by decide))) (fun _ h_ => h_.1))) hb); have n4_ := Qa (QO (by (with_reducible repeat (first | apply QD | apply QE | apply QG)); exact (QP (QW (QN HO450.out BK445.out (by decide))) (fun _ h_ => h_.1))) hb); have n5_ := Qa (QO (by (with_reducible repeat (first | apply QD | apply QE | apply QG)); exact (QP (QW (QN HO455.out BK445.out (by decide))) (fun _ h_ => h_.1))) hb); have n6_ := Qa (QV (g := gb414) (o := .cells #[.int .i64 0,.int .i64 0,.bool false,.bool false,.slice none 0 0,.slice none 0 0,.int .i64 0,.int .i64 0] 26 (0,0)) (by (with_reducible repeat (first | refine QJ ?_ _ | refine QM ?_ | refine QK ?_ _)); refine blk_far ?_ NB414_445.out _; (with_reducible repeat (first | refine QJ ?_ _ | refine QM ?_ | refine QK ?_ _)); exact BK414.out) hb); have n7_ := Qa (QV (g := gb445) (o := .cells #[.int .i64 (rd x7_1 0),.int .i64 (rd x7_1 1),.bool b2_,.bool b3_,.slice Ao92 t447.length co92,.slice Ao96 t452.length co96,.int .i64 (rd x7_1 5),.int .i64 (rd x7_1 6)] 26 (0,0)) (by (with_reducible repeat (first | refine QJ ?_ _ | refine QM ?_ | refine QK ?_ _)); refine QT (cs := #[.int .i64 (rd x7_1 0),.int .i64 (rd x7_1 1),.bool b2_,.bool b3_,.slice Ao92 t447.length co92,.slice none 0 0,.int .i64 (rd x7_1 5),.int .i64 (rd x7_1 6)]) ?_ 5 _ rfl; (with_reducible repeat (first | refine QJ ?_ _ | refine QM ?_ | refine QK ?_ _)); exact BK445.out) hb); have n8_ := Qa (QU (by repeat (first | (with_reducible first | exact HB.out | apply QI | apply QC | apply QH | refine QL ?_ GE414.out | refine QL ?_ GE445.out) | exact HB.out)) hb); clear HO_4; clear HO_5; clear HO_6; clear HO_7; clear HO450; clear HO455; clear BK414; clear BK445; clear HB; revert n0_ n1_ n2_ n3_ n4_ n5_ n6_ n7_ n8_; intro HO_4 HO_5 HO_6 HO_7 HO450 HO455 BK414 BK445 HB; (try clear hb); (try clear hb2); (try clear hk); (try clear hi); have hcz99_0 : w98.cell? ⟨gb414,0,none⟩ = some (.int .i64 0) := (QF BK414.out 0).trans rfl; have hcz99_1 : w98.cell? ⟨gb414,1,none⟩ = some (.int .i64 0) := (QF BK414.out 1).trans rfl; have hcz99_2 : w98.cell? ⟨gb414,2,none⟩ = some (.bool false) := (QF BK414.out 2).trans rfl; have hcz99_3 : w98.cell? ⟨gb414,3,none⟩ = some (.bool false) := (QF BK414.out 3).trans rfl; have hcz99_4 : w98.cell? ⟨gb414,4,none⟩ = some (.slice none 0 0) := (QF BK414.out 4).trans rfl; have hcz99_5 : w98.cell? ⟨gb414,5,none⟩ = some (.slice none 0 0) := (QF BK414.out 5).trans rfl; have hcz99_6 : w98.cell? ⟨gb414,6,none⟩ = some (.int .i64 0) := (QF BK414.out 6).trans rfl; have hcz99_7 : w98.cell? ⟨gb414,7,none⟩ = some (.int .i64 0) := (QF BK414.out 7).trans rfl; have hfz99_0 := QB BK414.out 0; have hfz99_1 := QB BK414.out 1; have hfz99_2 := QB BK414.out 2; have hfz99_3 := QB BK414.out 3; have hfz99_4 := QB BK414.out 4; have hfz99_5 := QB BK414.out 5; have hfz99_6 := QB BK414.out 6; have hfz99_7 := QB BK414.out 7))
              refine bodyPost_ret (results_ct rfl _ _ gb414 26 #[.int .i64 0,.int .i64 0,.bool false,.bool false,.slice none 0 0,.slice none 0 0,.int .i64 0,.int .i64 0] (0,0) _ rfl (by (with_reducible repeat (first | refine QJ ?_ _ | refine QM ?_ | refine QK ?_ _)); refine QT (cs := #[.int .i64 0,.int .i64 0,.bool false,.bool false,.slice none 0 0,.slice none 0 0,.int .i64 0,.int .i64 0]) ?_ 7 _ rfl; (with_reducible repeat (first | refine QJ ?_ _ | refine QM ?_ | refine QK ?_ _)); refine QT (cs := #[.int .i64 0,.int .i64 0,.bool false,.bool false,.slice none 0 0,.slice none 0 0,.int .i64 0,.int .i64 0]) ?_ 6 _ rfl; (with_reducible repeat (first | refine QJ ?_ _ | refine QM ?_ | refine QK ?_ _)); refine QT (cs := #[.int .i64 0,.int .i64 0,.bool false,.bool false,.slice none 0 0,.slice none 0 0,.int .i64 0,.int .i64 0]) ?_ 5 _ rfl; (with_reducible repeat (first | refine QJ ?_ _ | refine QM ?_ | refine QK ?_ _)); refine QT (cs := #[.int .i64 0,.int .i64 0,.bool false,.bool false,.slice none 0 0,.slice none 0 0,.int .i64 0,.int .i64 0]) ?_ 4 _ rfl; (with_reducible repeat (first | refine QJ ?_ _ | refine QM ?_ | refine QK ?_ _)); refine QT (cs := #[.int .i64 0,.int .i64 0,.bool false,.bool false,.slice none 0 0,.slice none 0 0,.int .i64 0,.int .i64 0]) ?_ 3 _ rfl; (with_reducible repeat (first | refine QJ ?_ _ | refine QM ?_ | refine QK ?_ _)); refine QT (cs := #[.int .i64 0,.int .i64 0,.bool false,.bool false,.slice none 0 0,.slice none 0 0,.int .i64 0,.int .i64 0]) ?_ 2 _ rfl; (with_reducible repeat (first | refine QJ ?_ _ | refine QM ?_ | refine QK ?_ _)); refine QT (cs := #[.int .i64 0,.int .i64 0,.bool false,.bool false,.slice none 0 0,.slice none 0 0,.int .i64 0,.int .i64 0]) ?_ 1 _ rfl; (with_reducible repeat (first | refine QJ ?_ _ | refine QM ?_ | refine QK ?_ _)); refine QT (cs := #[.int .i64 0,.int .i64 0,.bool false,.bool false,.slice none 0 0,.slice none 0 0,.int .i64 0,.int .i64 0]) ?_ 0 _ rfl; (with_reducible repeat (first | refine QJ ?_ _ | refine QM ?_ | refine QK ?_ _)); exact BK414.out) Tryd.underlying26 rfl (by kernel_rfl)) rfl ?_
              exact ⟨_,_,by first | rfl | (simp [errW_none,errW_some] <;> rfl) | (simp [*,errW_none,errW_some] <;> rfl),by first | exact Kd.R_nil _ _ _ _ _ | exact Kd.N_nil _ _ _ _ _ | exact Kd.V_nil _ _ _ _ _ | exact Kd.Q_nil _ _ _ _ _ | exact Kd.S_nil _ _ _ _ _,by first | exact Kd.R_nil _ _ _ _ _ | exact Kd.N_nil _ _ _ _ _ | exact Kd.V_nil _ _ _ _ _ | exact Kd.Q_nil _ _ _ _ _ | exact Kd.S_nil _ _ _ _ _,by repeat (first | (with_reducible first | exact HB.out | apply QI | apply QC | apply QH | refine QL ?_ GE414.out | refine QL ?_ GE445.out) | exact HB.out)⟩
           ·rw [if_neg c32] at H
            exact absurd H (by simp)
          ·rw [if_neg c30] at H
           exact absurd H (by simp)
         ·rw [if_neg c29] at H
          exact absurd H (by simp)
        ·rw [if_neg c28] at H
         exact absurd H (by simp)
       ·rw [if_neg c27] at H
        exact absurd H (by simp)
      ·rw [if_neg c26] at H
       exact absurd H (by simp)
     ·rw [if_neg c25] at H
      exact absurd H (by simp)
 ·rw [if_neg c3] at H
  have c3b0 : ((t415.length : Int) == (y418.length : Int)) = false := beq_eq_false_iff_ne.mpr c3
  have c3b1 : ((t415.length : Int) != (y418.length : Int)) = true := bne_iff_ne.mpr c3
  have c3b2 : (t415.length == y418.length) = false := by first | simpa using c3 | (simp at c3 ⊢; omega)
  simp only [Option.some.injEq,Prod.mk.injEq] at H
  obtain ⟨rfl,rfl,rfl,rfl,rfl,rfl,rfl,rfl,rfl⟩ := H
  go_enter Tryd.func18,Tryd.ntmps18
  go_wp2_with (first | ((with_reducible refine gate_dst (N := 2) rfl ?_); refine box_event ?hg (N := 2) ?hd (cs := #[.int .i64 0,.int .i64 0,.bool false,.bool false,.slice none 0 0,.slice none 0 0,.int .i64 0,.int .i64 0]) (t := 26) ?hr ?_; (case hd => rfl); (case hg => rfl); (case hr => first | (go_simp; done) | (go_simp; rfl)); intro gb414 hg w100 hbox hb; have n0_ := Qa (QU (by repeat (first | (with_reducible first | exact HB.out | apply QI | apply QC | apply QH) | exact HB.out)) hb); have n1_ := Qa (hbox); have n2_ := Qa ((by rw [hg]; exact (QR (by repeat (first | (with_reducible first | exact HB.out | apply QI | apply QC | apply QH) | exact HB.out))) : w.heap.size ≤ gb414)); have n3_ := Qa ((by rw [hg]; exact (QR (by repeat (first | (with_reducible first | exact HB.out | apply QI | apply QC | apply QH) | exact HB.out))) : w.heap.size ≤ gb414)); clear HB; revert n0_ n1_ n2_ n3_; intro HB BK414 GW414 GE414; clear hb hbox hg) | ((with_reducible refine gate_callee (f := 40) rfl ?_); refine goesL_ (some 15) rfl rfl Tryd.func40 (by kernel_rfl) rfl #[.string a0,.int .u8 32] rfl (by (try simp only [List.map_toArray,List.map_cons,List.map_nil]); first | done | rfl | (simp only [List.length_drop,List.length_take]; rfl)) ?_; (with_reducible refine (spec_SplitWords.calls k a0 32 t415 _ A2.out).mono ?_); rintro e w101 ⟨v416,rfl,ho0,hb⟩; refine ⟨_,rfl,?_⟩; have n0_ := Qa (Kd.R_lower ho0 (QR (by repeat (first | (with_reducible first | exact HB.out | apply QI | apply QC | apply QH | refine QL ?_ GE414.out) | exact HB.out)))); have n1_ := Qa (QV (g := gb414) (o := .cells #[.int .i64 0,.int .i64 0,.bool false,.bool false,.slice none 0 0,.slice none 0 0,.int .i64 0,.int .i64 0] 26 (0,0)) (by (with_reducible repeat (first | refine QJ ?_ _ | refine QM ?_ | refine QK ?_ _)); exact BK414.out) hb); have n2_ := Qa (QU (by repeat (first | (with_reducible first | exact HB.out | apply QI | apply QC | apply QH | refine QL ?_ GE414.out) | exact HB.out)) hb); clear BK414; clear HB; revert n0_ n1_ n2_; intro HO417 BK414 HB; (try clear hb); (try clear hb2); (try clear hk); (try clear hi); (try clear ho0)) | ((with_reducible refine gate_dst (N := 16) rfl ?_); refine Kd.R_lit Kd.string _ 9 ?hg (N := 16) ?hd (xs := ([(⟨#[112,108,97,121,101,114,115]⟩ : ByteArray),(⟨#[101,97,99,104]⟩ : ByteArray),(⟨#[109,97,116,99,104]⟩ : ByteArray),(⟨#[119,105,108,100]⟩ : ByteArray),(⟨#[115,107,105,112]⟩ : ByteArray),(⟨#[116,97,107,101]⟩ : ByteArray),(⟨#[108,105,109,105,116]⟩ : ByteArray)] : List ByteArray)) (inner := [.string (⟨#[112,108,97,121,101,114,115]⟩ : ByteArray),.string (⟨#[101,97,99,104]⟩ : ByteArray),.string (⟨#[109,97,116,99,104]⟩ : ByteArray),.string (⟨#[119,105,108,100]⟩ : ByteArray),.string (⟨#[115,107,105,112]⟩ : ByteArray),.string (⟨#[116,97,107,101]⟩ : ByteArray),.string (⟨#[108,105,109,105,116]⟩ : ByteArray)]) (ok := fun _ => True) (okp := fun _ => True) ?hr ?hp (fun _ hk => hk) trivial (Below.refl _ _) (Nat.le_refl _) (by simp) ?_; (case hd => rfl); (case hg => rfl); (case hr => first | (go_simp; done) | (go_simp; rfl)); (case hp => exact (Reps.one (show Kd.M Kd.string _ _ _ (⟨#[112,108,97,121,101,114,115]⟩ : ByteArray) [.string (⟨#[112,108,97,121,101,114,115]⟩ : ByteArray)] from rfl) (Reps.one (show Kd.M Kd.string _ _ _ (⟨#[101,97,99,104]⟩ : ByteArray) [.string (⟨#[101,97,99,104]⟩ : ByteArray)] from rfl) (Reps.one (show Kd.M Kd.string _ _ _ (⟨#[109,97,116,99,104]⟩ : ByteArray) [.string (⟨#[109,97,116,99,104]⟩ : ByteArray)] from rfl) (Reps.one (show Kd.M Kd.string _ _ _ (⟨#[119,105,108,100]⟩ : ByteArray) [.string (⟨#[119,105,108,100]⟩ : ByteArray)] from rfl) (Reps.one (show Kd.M Kd.string _ _ _ (⟨#[115,107,105,112]⟩ : ByteArray) [.string (⟨#[115,107,105,112]⟩ : ByteArray)] from rfl) (Reps.one (show Kd.M Kd.string _ _ _ (⟨#[116,97,107,101]⟩ : ByteArray) [.string (⟨#[116,97,107,101]⟩ : ByteArray)] from rfl) (Reps.one (show Kd.M Kd.string _ _ _ (⟨#[108,105,109,105,116]⟩ : ByteArray) [.string (⟨#[108,105,109,105,116]⟩ : ByteArray)] from rfl) (Reps.none _ _))))))))); intro v419 w102 ho103 hb hg_ hnew_; clear hg_ hnew_; (first | rw [← Ny418.out] at ho103 | (simp only [Int.reduceToNat] at ho103; rw [← Ny418.out] at ho103)); have n0_ := Qa (Kd.R_elder' (by (with_reducible repeat (first | apply QD | apply QE | apply QG)); exact HO417.out) (Kd.R_base ho103) hb); have n1_ := Qa (Kd.R_lower (Kd.R_new' ho103 (Kd.R_lt (by (with_reducible repeat (first | apply QD | apply QE | apply QG)); exact HO417.out))) (QR (by repeat (first | (with_reducible first | exact HB.out | apply QI | apply QC | apply QH | refine QL ?_ GE414.out) | exact HB.out)))); have n2_ := Qa (QV (g := gb414) (o := .cells #[.int .i64 0,.int .i64 0,.bool false,.bool false,.slice none 0 0,.slice none 0 0,.int .i64 0,.int .i64 0] 26 (0,0)) (by (with_reducible repeat (first | refine QJ ?_ _ | refine QM ?_ | refine QK ?_ _)); exact BK414.out) hb); have n3_ := Qa (QU (by repeat (first | (with_reducible first | exact HB.out | apply QI | apply QC | apply QH | refine QL ?_ GE414.out) | exact HB.out)) hb); clear HO417; clear BK414; clear HB; revert n0_ n1_ n2_ n3_; intro HO417 HO420 BK414 HB; clear hb ho103; obtain ⟨Ao104,co104,eo104⟩ := Kd.R_slice HO417.out; subst eo104; obtain ⟨Ao105,co105,eo105⟩ := Kd.R_slice HO420.out; subst eo105; have hcz106_0 : w102.cell? ⟨gb414,0,none⟩ = some (.int .i64 0) := (QF BK414.out 0).trans rfl; have hcz106_1 : w102.cell? ⟨gb414,1,none⟩ = some (.int .i64 0) := (QF BK414.out 1).trans rfl; have hcz106_2 : w102.cell? ⟨gb414,2,none⟩ = some (.bool false) := (QF BK414.out 2).trans rfl; have hcz106_3 : w102.cell? ⟨gb414,3,none⟩ = some (.bool false) := (QF BK414.out 3).trans rfl; have hcz106_4 : w102.cell? ⟨gb414,4,none⟩ = some (.slice none 0 0) := (QF BK414.out 4).trans rfl; have hcz106_5 : w102.cell? ⟨gb414,5,none⟩ = some (.slice none 0 0) := (QF BK414.out 5).trans rfl; have hcz106_6 : w102.cell? ⟨gb414,6,none⟩ = some (.int .i64 0) := (QF BK414.out 6).trans rfl; have hcz106_7 : w102.cell? ⟨gb414,7,none⟩ = some (.int .i64 0) := (QF BK414.out 7).trans rfl; have hfz106_0 := QB BK414.out 0; have hfz106_1 := QB BK414.out 1; have hfz106_2 := QB BK414.out 2; have hfz106_3 := QB BK414.out 3; have hfz106_4 := QB BK414.out 4; have hfz106_5 := QB BK414.out 5; have hfz106_6 := QB BK414.out 6; have hfz106_7 := QB BK414.out 7))
  refine bodyPost_ret (results_ct rfl _ _ gb414 26 #[.int .i64 0,.int .i64 0,.bool false,.bool false,.slice none 0 0,.slice none 0 0,.int .i64 0,.int .i64 0] (0,0) _ rfl (by (with_reducible repeat (first | refine QJ ?_ _ | refine QM ?_ | refine QK ?_ _)); refine QT (cs := #[.int .i64 0,.int .i64 0,.bool false,.bool false,.slice none 0 0,.slice none 0 0,.int .i64 0,.int .i64 0]) ?_ 7 _ rfl; (with_reducible repeat (first | refine QJ ?_ _ | refine QM ?_ | refine QK ?_ _)); refine QT (cs := #[.int .i64 0,.int .i64 0,.bool false,.bool false,.slice none 0 0,.slice none 0 0,.int .i64 0,.int .i64 0]) ?_ 6 _ rfl; (with_reducible repeat (first | refine QJ ?_ _ | refine QM ?_ | refine QK ?_ _)); refine QT (cs := #[.int .i64 0,.int .i64 0,.bool false,.bool false,.slice none 0 0,.slice none 0 0,.int .i64 0,.int .i64 0]) ?_ 5 _ rfl; (with_reducible repeat (first | refine QJ ?_ _ | refine QM ?_ | refine QK ?_ _)); refine QT (cs := #[.int .i64 0,.int .i64 0,.bool false,.bool false,.slice none 0 0,.slice none 0 0,.int .i64 0,.int .i64 0]) ?_ 4 _ rfl; (with_reducible repeat (first | refine QJ ?_ _ | refine QM ?_ | refine QK ?_ _)); refine QT (cs := #[.int .i64 0,.int .i64 0,.bool false,.bool false,.slice none 0 0,.slice none 0 0,.int .i64 0,.int .i64 0]) ?_ 3 _ rfl; (with_reducible repeat (first | refine QJ ?_ _ | refine QM ?_ | refine QK ?_ _)); refine QT (cs := #[.int .i64 0,.int .i64 0,.bool false,.bool false,.slice none 0 0,.slice none 0 0,.int .i64 0,.int .i64 0]) ?_ 2 _ rfl; (with_reducible repeat (first | refine QJ ?_ _ | refine QM ?_ | refine QK ?_ _)); refine QT (cs := #[.int .i64 0,.int .i64 0,.bool false,.bool false,.slice none 0 0,.slice none 0 0,.int .i64 0,.int .i64 0]) ?_ 1 _ rfl; (with_reducible repeat (first | refine QJ ?_ _ | refine QM ?_ | refine QK ?_ _)); refine QT (cs := #[.int .i64 0,.int .i64 0,.bool false,.bool false,.slice none 0 0,.slice none 0 0,.int .i64 0,.int .i64 0]) ?_ 0 _ rfl; (with_reducible repeat (first | refine QJ ?_ _ | refine QM ?_ | refine QK ?_ _)); exact BK414.out) Tryd.underlying26 rfl (by kernel_rfl)) rfl ?_
  exact ⟨_,_,by first | rfl | (simp [errW_none,errW_some] <;> rfl) | (simp [*,errW_none,errW_some] <;> rfl),by first | exact Kd.R_nil _ _ _ _ _ | exact Kd.N_nil _ _ _ _ _ | exact Kd.V_nil _ _ _ _ _ | exact Kd.Q_nil _ _ _ _ _ | exact Kd.S_nil _ _ _ _ _,by first | exact Kd.R_nil _ _ _ _ _ | exact Kd.N_nil _ _ _ _ _ | exact Kd.V_nil _ _ _ _ _ | exact Kd.Q_nil _ _ _ _ _ | exact Kd.S_nil _ _ _ _ _,by repeat (first | (with_reducible first | exact HB.out | apply QI | apply QC | apply QH | refine QL ?_ GE414.out) | exact HB.out)⟩

/-! ### laws_eqIntS: function 44 -/
def laws_eqIntS.l0 : Nat → List Int → List Int → Int → Option (Bool)
 | 0,_,_,_ => none
 | k + 1,x0,x1,x5 => if x5 < (x0.length : Int) then (if 0 ≤ x5 then (if x5 < (x1.length : Int) then (if (rd x0 x5) = (rd x1 x5) then (laws_eqIntS.l0 k x0 x1 (wrap64 (x5 + 1))) else (some false)) else (none)) else (none)) else (some true)
def laws_eqIntS.f (k : Nat) (l0 : List Int) (l1 : List Int) : Option (Bool) := if (l0.length : Int) = (l1.length : Int) then (laws_eqIntS.l0 k l0 l1 0) else (some false)
theorem laws_eqIntS.mono_l : ∀ k, (∀ y0 y1 y2, LeO (laws_eqIntS.l0 k y0 y1 y2) (laws_eqIntS.l0 (k + 1) y0 y1 y2))
 | 0 => fun _ _ _ r h => by simp [laws_eqIntS.l0] at h
 | k + 1 => by
  have ih0 := laws_eqIntS.mono_l k
  ·intro y0 y1 y2
   unfold laws_eqIntS.l0
   repeat' first
   | (with_reducible exact ih0 _ _ _)
   | (with_reducible exact LeO.refl _)
   | (with_reducible exact LeO.none _)
   | (with_reducible refine LeO.ite ?_ ?_)
   | (with_reducible refine LeO.bind ?_ (fun _ => ?_))
   | exact ih0 _ _ _
   | exact LeO.none _
   | refine LeO.ite ?_ ?_
   | refine LeO.bind ?_ (fun _ => ?_)
theorem laws_eqIntS.mono : ∀ a0 a1 k, LeO (laws_eqIntS.f k a0 a1) (laws_eqIntS.f (k + 1) a0 a1) := by
 intro a0 a1 k
 have ih0 := laws_eqIntS.mono_l k
 unfold laws_eqIntS.f
 repeat' first
   | (with_reducible exact ih0 _ _ _)
   | (with_reducible exact LeO.refl _)
   | (with_reducible exact LeO.none _)
   | (with_reducible refine LeO.ite ?_ ?_)
   | (with_reducible refine LeO.bind ?_ (fun _ => ?_))
   | exact ih0 _ _ _
   | exact LeO.none _
   | refine LeO.ite ?_ ?_
   | refine LeO.bind ?_ (fun _ => ?_)
set_option maxHeartbeats 8000000 in
set_option maxRecDepth 100000 in
theorem laws_eqIntS.calls (k : Nat) (A0 : Option Addr) (c0 : Nat) (l0 : List Int) (A1 : Option Addr) (c1 : Nat) (l1 : List Int) (r : Bool) (w : World) (hr0 : Kd.C (Kd.int .i64) w A0 l0.length l0) (hc0 : l0.length ≤ c0) (hr1 : Kd.C (Kd.int .i64) w A1 l1.length l1) (hc1 : l1.length ≤ c1) (h : laws_eqIntS.f k l0 l1 = some r) :
  Calls Tryd.prog 44 #[.slice A0 l0.length c0,.slice A1 l1.length c1] w fun e w' => e = .returned (.bool r) ∧ Drawn0 w w' := by
 have HR0 := Qa hr0
 have HC0 := Qa hc0
 clear hr0 hc0
 have HR1 := Qa hr1
 have HC1 := Qa hc1
 clear hr1 hc1
 have H : (if (l0.length : Int) = (l1.length : Int) then (laws_eqIntS.l0 k l0 l1 0) else (some false)) = some r := h
 clear h
 by_cases c3 : (l0.length : Int) = (l1.length : Int)
 ·rw [if_pos c3] at H
  have c3b0 : ((l0.length : Int) == (l1.length : Int)) = true := beq_iff_eq.mpr c3
  have c3b1 : ((l0.length : Int) != (l1.length : Int)) = false := bne_eq_false_iff_eq.mpr c3
  have c3b2 : (l0.length == l1.length) = true := by first | simpa using c3 | (simp at c3 ⊢; omega)
  clear c3
  have H' := Qa H
  clear H
  go_enter Tryd.func44,Tryd.ntmps44
  go_wp2
  repeat (go_quiet (fail); try go_wp2)
  go_loopg [5] k (fun kq v5 w' => ∃ (x5_1 : Int),v5 = .int .i64 x5_1 ∧ Aside0 (laws_eqIntS.l0 kq l0 l1 x5_1 = some r) ∧ Aside0 (kq ≤ k) ∧ Drawn0 w w')
  case atStart => exact ⟨(0),(by first | rfl | (simp; done) | (simp [*]; done)),H',⟨Nat.le_refl _⟩,by repeat (first | exact Drawn0.refl _ | apply Drawn0.step)⟩
  case round =>
   clear H'
   try clear c1
   try clear p2
   try clear c3
   try clear c3b0
   try clear c3b1
   try clear c3b2
   obtain ⟨x5_1,rfl,HA,HK1,⟨m1,rfl⟩⟩ := hrel
   cases gk with
   | zero => exact absurd HA.out (by simp [laws_eqIntS.l0])
   | succ k1 =>
    have H := HA.out
    clear HA
    simp only [laws_eqIntS.l0] at H
    by_cases c4 : x5_1 < (l0.length : Int)
    ·rw [if_pos c4] at H
     have c4b0 : decide (x5_1 < (l0.length : Int)) = true := decide_eq_true c4
     clear c4
     by_cases c5 : 0 ≤ x5_1
     ·rw [if_pos c5] at H
      have c5b0 : decide (0 ≤ x5_1) = true := decide_eq_true c5
      clear c5
      by_cases c6 : x5_1 < (l1.length : Int)
      ·rw [if_pos c6] at H
       have c6b0 : decide (x5_1 < (l1.length : Int)) = true := decide_eq_true c6
       clear c6
       by_cases c7 : (rd l0 x5_1) = (rd l1 x5_1)
       ·rw [if_pos c7] at H
        have c7b0 : ((rd l0 x5_1) == (rd l1 x5_1)) = true := beq_iff_eq.mpr c7
        have c7b1 : ((rd l0 x5_1) != (rd l1 x5_1)) = false := bne_eq_false_iff_eq.mpr c7
        clear c7
        have H' := Qa H
        clear H
        have p457 : 0 ≤ (x5_1 : Int) := of_decide_eq_true (by first | (with_reducible assumption) | assumption)
        have q457 : x5_1 < (l0.length : Int) := of_decide_eq_true (by first | (with_reducible assumption) | assumption)
        obtain ⟨ad457,e457,hx457_0⟩ := Kd.at_int HR0.out x5_1 p457 q457
        cases e457
        replace p457 := eq_true p457
        replace q457 := eq_true q457
        have p458 : 0 ≤ (x5_1 : Int) := of_decide_eq_true (by first | (with_reducible assumption) | assumption)
        have q458 : x5_1 < (l1.length : Int) := of_decide_eq_true (by first | (with_reducible assumption) | assumption)
        obtain ⟨ad458,e458,hx458_0⟩ := Kd.at_int HR1.out x5_1 p458 q458
        cases e458
        replace p458 := eq_true p458
        replace q458 := eq_true q458
        go_wp2
        repeat (go_quiet (fail); try go_wp2)
        go_roundg k1
        case measure => have := HK1.out; omega
        case rel => exact ⟨(wrap64 (x5_1 + 1)),(by first | rfl | (simp; done) | (simp [*]; done)),H',⟨by have := HK1.out; omega⟩,by repeat (first | exact Drawn0.refl _ | apply Drawn0.step)⟩
       ·rw [if_neg c7] at H
        have c7b0 : ((rd l0 x5_1) == (rd l1 x5_1)) = false := beq_eq_false_iff_ne.mpr c7
        have c7b1 : ((rd l0 x5_1) != (rd l1 x5_1)) = true := bne_iff_ne.mpr c7
        obtain rfl := Option.some.inj H
        have p457 : 0 ≤ (x5_1 : Int) := of_decide_eq_true (by first | (with_reducible assumption) | assumption)
        have q457 : x5_1 < (l0.length : Int) := of_decide_eq_true (by first | (with_reducible assumption) | assumption)
        obtain ⟨ad457,e457,hx457_0⟩ := Kd.at_int HR0.out x5_1 p457 q457
        cases e457
        replace p457 := eq_true p457
        replace q457 := eq_true q457
        have p458 : 0 ≤ (x5_1 : Int) := of_decide_eq_true (by first | (with_reducible assumption) | assumption)
        have q458 : x5_1 < (l1.length : Int) := of_decide_eq_true (by first | (with_reducible assumption) | assumption)
        obtain ⟨ad458,e458,hx458_0⟩ := Kd.at_int HR1.out x5_1 p458 q458
        cases e458
        replace p458 := eq_true p458
        replace q458 := eq_true q458
        go_wp2
        repeat (go_quiet (fail); try go_wp2)
        go_ret
        exact ⟨by first | rfl | (simp; done) | (simp [*]; done),by repeat (first | exact Drawn0.refl _ | apply Drawn0.step)⟩
      ·rw [if_neg c6] at H
       exact absurd H (by simp)
     ·rw [if_neg c5] at H
      exact absurd H (by simp)
    ·rw [if_neg c4] at H
     have c4b0 : decide (x5_1 < (l0.length : Int)) = false := decide_eq_false c4
     clear c4
     obtain rfl := Option.some.inj H
     go_wp2
     repeat (go_quiet (fail); try go_wp2)
     go_ret
     exact ⟨by first | rfl | (simp; done) | (simp [*]; done),by repeat (first | exact Drawn0.refl _ | apply Drawn0.step)⟩
 ·rw [if_neg c3] at H
  have c3b0 : ((l0.length : Int) == (l1.length : Int)) = false := beq_eq_false_iff_ne.mpr c3
  have c3b1 : ((l0.length : Int) != (l1.length : Int)) = true := bne_iff_ne.mpr c3
  have c3b2 : (l0.length == l1.length) = false := by first | simpa using c3 | (simp at c3 ⊢; omega)
  obtain rfl := Option.some.inj H
  go_enter Tryd.func44,Tryd.ntmps44
  go_wp2
  repeat (go_quiet (fail); try go_wp2)
  go_ret
  exact ⟨by first | rfl | (simp; done) | (simp [*]; done),by repeat (first | exact Drawn0.refl _ | apply Drawn0.step)⟩

/-! ### laws_eqRules: function 19 -/
def laws_eqRules.f (k : Nat) (a0_0 : Int) (a0_1 : Int) (a0_2 : Bool) (a0_3 : Bool) (l0_4 : List Int) (l0_5 : List Int) (a0_6 : Int) (a0_7 : Int) (a1_0 : Int) (a1_1 : Int) (a1_2 : Bool) (a1_3 : Bool) (l1_4 : List Int) (l1_5 : List Int) (a1_6 : Int) (a1_7 : Int) : Option (Bool) := if a0_0 = a1_0 then (if a0_1 = a1_1 then (if (a0_2 != a1_2) = true then (some false) else (if (a0_3 != a1_3) = true then (some false) else ((laws_eqIntS.f k l0_4 l1_4).bind fun t461 => (if t461 = true then ((laws_eqIntS.f k l0_5 l1_5).bind fun t462 => (if t462 = true then (if a0_6 = a1_6 then (if a0_7 = a1_7 then (some true) else (some false)) else (some false)) else (some false))) else (some false))))) else (some false)) else (some false)
theorem laws_eqRules.mono : ∀ a0 a1 a2 a3 a4 a5 a6 a7 a8 a9 a10 a11 a12 a13 a14 a15 k, LeO (laws_eqRules.f k a0 a1 a2 a3 a4 a5 a6 a7 a8 a9 a10 a11 a12 a13 a14 a15) (laws_eqRules.f (k + 1) a0 a1 a2 a3 a4 a5 a6 a7 a8 a9 a10 a11 a12 a13 a14 a15) := by
 intro a0 a1 a2 a3 a4 a5 a6 a7 a8 a9 a10 a11 a12 a13 a14 a15 k
 unfold laws_eqRules.f
 repeat' first
   | (with_reducible exact laws_eqIntS.mono _ _ _)
   | (with_reducible exact LeO.refl _)
   | (with_reducible exact LeO.none _)
   | (with_reducible refine LeO.ite ?_ ?_)
   | (with_reducible refine LeO.bind ?_ (fun _ => ?_))
   | exact laws_eqIntS.mono _ _ _
   | exact LeO.none _
   | refine LeO.ite ?_ ?_
   | refine LeO.bind ?_ (fun _ => ?_)
set_option maxHeartbeats 8000000 in
set_option maxRecDepth 100000 in
theorem laws_eqRules.calls (k : Nat) (a0_0 : Int) (a0_1 : Int) (a0_2 : Bool) (a0_3 : Bool) (A0_4 : Option Addr) (c0_4 : Nat) (l0_4 : List Int) (A0_5 : Option Addr) (c0_5 : Nat) (l0_5 : List Int) (a0_6 : Int) (a0_7 : Int) (a1_0 : Int) (a1_1 : Int) (a1_2 : Bool) (a1_3 : Bool) (A1_4 : Option Addr) (c1_4 : Nat) (l1_4 : List Int) (A1_5 : Option Addr) (c1_5 : Nat) (l1_5 : List Int) (a1_6 : Int) (a1_7 : Int) (r : Bool) (w : World) (hr0_4 : Kd.C (Kd.int .i64) w A0_4 l0_4.length l0_4) (hc0_4 : l0_4.length ≤ c0_4) (hr0_5 : Kd.C (Kd.int .i64) w A0_5 l0_5.length l0_5) (hc0_5 : l0_5.length ≤ c0_5) (hr1_4 : Kd.C (Kd.int .i64) w A1_4 l1_4.length l1_4) (hc1_4 : l1_4.length ≤ c1_4) (hr1_5 : Kd.C (Kd.int .i64) w A1_5 l1_5.length l1_5) (hc1_5 : l1_5.length ≤ c1_5) (h : laws_eqRules.f k a0_0 a0_1 a0_2 a0_3 l0_4 l0_5 a0_6 a0_7 a1_0 a1_1 a1_2 a1_3 l1_4 l1_5 a1_6 a1_7 = some r) :
  Calls Tryd.prog 19 #[.agg #[.int .i64 a0_0,.int .i64 a0_1,.bool a0_2,.bool a0_3,.slice A0_4 l0_4.length c0_4,.slice A0_5 l0_5.length c0_5,.int .i64 a0_6,.int .i64 a0_7],.agg #[.int .i64 a1_0,.int .i64 a1_1,.bool a1_2,.bool a1_3,.slice A1_4 l1_4.length c1_4,.slice A1_5 l1_5.length c1_5,.int .i64 a1_6,.int .i64 a1_7]] w fun e w' => e = .returned (.bool r) ∧ Below w.heap.size w w' := by
 have hu26 := Tryd.underlying26
 have HR0_4 := Qa hr0_4
 have HC0_4 := Qa hc0_4
 clear hr0_4 hc0_4
 have HR0_5 := Qa hr0_5
 have HC0_5 := Qa hc0_5
 clear hr0_5 hc0_5
 have HR1_4 := Qa hr1_4
 have HC1_4 := Qa hc1_4
 clear hr1_4 hc1_4
 have HR1_5 := Qa hr1_5
 have HC1_5 := Qa hc1_5
 clear hr1_5 hc1_5
 have HB := Qa (Below.refl w.heap.size w)
 have H : (if a0_0 = a1_0 then (if a0_1 = a1_1 then (if (a0_2 != a1_2) = true then (some false) else (if (a0_3 != a1_3) = true then (some false) else ((laws_eqIntS.f k l0_4 l1_4).bind fun t461 => (if t461 = true then ((laws_eqIntS.f k l0_5 l1_5).bind fun t462 => (if t462 = true then (if a0_6 = a1_6 then (if a0_7 = a1_7 then (some true) else (some false)) else (some false)) else (some false))) else (some false))))) else (some false)) else (some false)) = some r := h
 clear h
 by_cases c3 : a0_0 = a1_0
 rotate_left
 rw [if_neg c3] at H
 have c3b0 : (a0_0 == a1_0) = false := beq_eq_false_iff_ne.mpr c3
 have c3b1 : (a0_0 != a1_0) = true := bne_iff_ne.mpr c3
 obtain rfl := Option.some.inj H
 rotate_right
 rw [if_pos c3] at H
 have c3b0 : (a0_0 == a1_0) = true := beq_iff_eq.mpr c3
 have c3b1 : (a0_0 != a1_0) = false := bne_eq_false_iff_eq.mpr c3
 clear c3
 by_cases c4 : a0_1 = a1_1
 rotate_left
 rw [if_neg c4] at H
 have c4b0 : (a0_1 == a1_1) = false := beq_eq_false_iff_ne.mpr c4
 have c4b1 : (a0_1 != a1_1) = true := bne_iff_ne.mpr c4
 obtain rfl := Option.some.inj H
 rotate_right
 rw [if_pos c4] at H
 have c4b0 : (a0_1 == a1_1) = true := beq_iff_eq.mpr c4
 have c4b1 : (a0_1 != a1_1) = false := bne_eq_false_iff_eq.mpr c4
 clear c4
 by_cases c5 : (a0_2 != a1_2) = true
 rotate_left
 rw [if_neg c5] at H
 have c5b0 : (a0_2 != a1_2) = false := by simpa using c5
 (try (have c5b1 : decide (a0_2 = a1_2) = true := by simpa using c5))
 (try (have c5b2 : (a0_2 == a1_2) = true := by simpa using c5))
 clear c5
 by_cases c11 : (a0_3 != a1_3) = true
 rotate_left
 rw [if_neg c11] at H
 have c11b0 : (a0_3 != a1_3) = false := by simpa using c11
 (try (have c11b1 : decide (a0_3 = a1_3) = true := by simpa using c11))
 (try (have c11b2 : (a0_3 == a1_3) = true := by simpa using c11))
 clear c11
 replace H := Option.bind_eq_some_iff.mp H
 obtain ⟨t461,A170,H⟩ := H
 have A17 := Qa A170
 clear A170
 by_cases c18 : t461 = true
 rotate_left
 replace c18 := Bool.eq_false_iff.mpr c18
 subst c18
 rw [if_neg (show ¬ (false = true) by decide)] at H
 obtain rfl := Option.some.inj H
 rotate_right
 subst c18
 rw [if_pos rfl] at H
 replace H := Option.bind_eq_some_iff.mp H
 obtain ⟨t462,A190,H⟩ := H
 have A19 := Qa A190
 clear A190
 by_cases c20 : t462 = true
 rotate_left
 replace c20 := Bool.eq_false_iff.mpr c20
 subst c20
 rw [if_neg (show ¬ (false = true) by decide)] at H
 obtain rfl := Option.some.inj H
 rotate_right
 subst c20
 rw [if_pos rfl] at H
 by_cases c21 : a0_6 = a1_6
 rotate_left
 rw [if_neg c21] at H
 have c21b0 : (a0_6 == a1_6) = false := beq_eq_false_iff_ne.mpr c21
 have c21b1 : (a0_6 != a1_6) = true := bne_iff_ne.mpr c21
 obtain rfl := Option.some.inj H
 rotate_right
 rw [if_pos c21] at H
 have c21b0 : (a0_6 == a1_6) = true := beq_iff_eq.mpr c21
 have c21b1 : (a0_6 != a1_6) = false := bne_eq_false_iff_eq.mpr c21
 clear c21
 by_cases c22 : a0_7 = a1_7
 rotate_left
 rw [if_neg c22] at H
 have c22b0 : (a0_7 == a1_7) = false := beq_eq_false_iff_ne.mpr c22
 have c22b1 : (a0_7 != a1_7) = true := bne_iff_ne.mpr c22
 obtain rfl := Option.some.inj H
 rotate_right
 rw [if_pos c22] at H
 have c22b0 : (a0_7 == a1_7) = true := beq_iff_eq.mpr c22
 have c22b1 : (a0_7 != a1_7) = false := bne_eq_false_iff_eq.mpr c22
 clear c22
 obtain rfl := Option.some.inj H
 rotate_right
 rw [if_pos c11] at H
 have c11b0 : (a0_3 != a1_3) = true := c11
 (try (have c11b1 : decide (a0_3 = a1_3) = false := by simpa using c11))
 (try (have c11b2 : (a0_3 == a1_3) = false := by simpa using c11))
 (try (have c11b3 : ¬ (a0_3 = a1_3) := by simpa using c11))
 clear c11
 obtain rfl := Option.some.inj H
 rotate_right
 rw [if_pos c5] at H
 have c5b0 : (a0_2 != a1_2) = true := c5
 (try (have c5b1 : decide (a0_2 = a1_2) = false := by simpa using c5))
 (try (have c5b2 : (a0_2 == a1_2) = false := by simpa using c5))
 (try (have c5b3 : ¬ (a0_2 = a1_2) := by simpa using c5))
 clear c5
 obtain rfl := Option.some.inj H
 all_goals
  go_enter Tryd.func19,Tryd.ntmps19
  go_wp2_with (first | ((with_reducible refine gate_dst (N := 2) rfl ?_); refine box_event ?hg (N := 2) ?hd (cs := #[.int .i64 a0_0,.int .i64 a0_1,.bool a0_2,.bool a0_3,.slice A0_4 l0_4.length c0_4,.slice A0_5 l0_5.length c0_5,.int .i64 a0_6,.int .i64 a0_7]) (t := 26) ?hr ?_; (case hd => rfl); (case hg => rfl); (case hr => first | (go_simp; done) | (go_simp; rfl)); intro gb459 hg w38 hbox hb; have n0_ := Qa (QU (by repeat (first | (with_reducible first | exact HB.out | apply QI | apply QC | apply QH) | exact HB.out)) hb); have n1_ := Qa (hbox); have n2_ := Qa ((by rw [hg]; exact (QR (by repeat (first | (with_reducible first | exact HB.out | apply QI | apply QC | apply QH) | exact HB.out))) : w.heap.size ≤ gb459)); have n3_ := Qa ((by rw [hg]; exact (QR (by repeat (first | (with_reducible first | exact HB.out | apply QI | apply QC | apply QH) | exact HB.out))) : w.heap.size ≤ gb459)); clear HB; revert n0_ n1_ n2_ n3_; intro HB BK459 GW459 GE459; clear hb hbox hg) | ((with_reducible refine gate_dst (N := 3) rfl ?_); refine box_event ?hg (N := 3) ?hd (cs := #[.int .i64 a1_0,.int .i64 a1_1,.bool a1_2,.bool a1_3,.slice A1_4 l1_4.length c1_4,.slice A1_5 l1_5.length c1_5,.int .i64 a1_6,.int .i64 a1_7]) (t := 26) ?hr ?_; (case hd => rfl); (case hg => rfl); (case hr => first | (go_simp; done) | (go_simp; rfl)); intro gb460 hg w39 hbox hb; have n0_ := Qa (QV (g := gb459) (o := _) (by (with_reducible repeat (first | refine QJ ?_ _ | refine QM ?_ | refine QK ?_ _)); exact BK459.out) hb); have n1_ := Qa (QU (by repeat (first | (with_reducible first | exact HB.out | apply QI | apply QC | apply QH | refine QL ?_ GE459.out) | exact HB.out)) hb); have n2_ := Qa (hbox); have n3_ := Qa ((by rw [hg]; exact (QR (by repeat (first | (with_reducible first | exact HB.out | apply QI | apply QC | apply QH | refine QL ?_ GE459.out) | exact HB.out))) : w.heap.size ≤ gb460)); have n4_ := Qa ((by rw [hg]; exact (QR (by repeat (first | (with_reducible first | exact HB.out | apply QI | apply QC | apply QH | refine QL ?_ GE459.out) | exact HB.out))) : w.heap.size ≤ gb460)); have n5_ := Qa ((by rw [hg]; exact Nat.ne_of_lt (blk_lt (g := gb459) (o := _) (by (with_reducible repeat (first | refine QJ ?_ _ | refine QM ?_ | refine QK ?_ _)); exact BK459.out)) : gb459 ≠ gb460)); have n6_ := Qa ((by rw [hg]; exact Nat.ne_of_gt (blk_lt (g := gb459) (o := _) (by (with_reducible repeat (first | refine QJ ?_ _ | refine QM ?_ | refine QK ?_ _)); exact BK459.out)) : gb460 ≠ gb459)); clear BK459; clear HB; revert n0_ n1_ n2_ n3_ n4_ n5_ n6_; intro BK459 HB BK460 GW460 GE460 NB459_460 NB460_459; clear hb hbox hg; have hnb40 := NB459_460.out; have hnc40 := NB460_459.out; have hcz41_0 : w39.cell? ⟨gb459,0,none⟩ = some (.int .i64 a0_0) := (QF BK459.out 0).trans rfl; have hcz41_1 : w39.cell? ⟨gb459,1,none⟩ = some (.int .i64 a0_1) := (QF BK459.out 1).trans rfl; have hcz41_2 : w39.cell? ⟨gb459,2,none⟩ = some (.bool a0_2) := (QF BK459.out 2).trans rfl; have hcz41_3 : w39.cell? ⟨gb459,3,none⟩ = some (.bool a0_3) := (QF BK459.out 3).trans rfl; have hcz41_4 : w39.cell? ⟨gb459,4,none⟩ = some (.slice A0_4 l0_4.length c0_4) := (QF BK459.out 4).trans rfl; have hcz41_5 : w39.cell? ⟨gb459,5,none⟩ = some (.slice A0_5 l0_5.length c0_5) := (QF BK459.out 5).trans rfl; have hcz41_6 : w39.cell? ⟨gb459,6,none⟩ = some (.int .i64 a0_6) := (QF BK459.out 6).trans rfl; have hcz41_7 : w39.cell? ⟨gb459,7,none⟩ = some (.int .i64 a0_7) := (QF BK459.out 7).trans rfl; have hfz41_0 := QB BK459.out 0; have hfz41_1 := QB BK459.out 1; have hfz41_2 := QB BK459.out 2; have hfz41_3 := QB BK459.out 3; have hfz41_4 := QB BK459.out 4; have hfz41_5 := QB BK459.out 5; have hfz41_6 := QB BK459.out 6; have hfz41_7 := QB BK459.out 7; have hcz42_0 : w39.cell? ⟨gb460,0,none⟩ = some (.int .i64 a1_0) := (QF BK460.out 0).trans rfl; have hcz42_1 : w39.cell? ⟨gb460,1,none⟩ = some (.int .i64 a1_1) := (QF BK460.out 1).trans rfl; have hcz42_2 : w39.cell? ⟨gb460,2,none⟩ = some (.bool a1_2) := (QF BK460.out 2).trans rfl; have hcz42_3 : w39.cell? ⟨gb460,3,none⟩ = some (.bool a1_3) := (QF BK460.out 3).trans rfl; have hcz42_4 : w39.cell? ⟨gb460,4,none⟩ = some (.slice A1_4 l1_4.length c1_4) := (QF BK460.out 4).trans rfl; have hcz42_5 : w39.cell? ⟨gb460,5,none⟩ = some (.slice A1_5 l1_5.length c1_5) := (QF BK460.out 5).trans rfl; have hcz42_6 : w39.cell? ⟨gb460,6,none⟩ = some (.int .i64 a1_6) := (QF BK460.out 6).trans rfl; have hcz42_7 : w39.cell? ⟨gb460,7,none⟩ = some (.int .i64 a1_7) := (QF BK460.out 7).trans rfl; have hfz42_0 := QB BK460.out 0; have hfz42_1 := QB BK460.out 1; have hfz42_2 := QB BK460.out 2; have hfz42_3 := QB BK460.out 3; have hfz42_4 := QB BK460.out 4; have hfz42_5 := QB BK460.out 5; have hfz42_6 := QB BK460.out 6; have hfz42_7 := QB BK460.out 7) | ((with_reducible refine gate_callee (f := 44) rfl ?_); refine goesL_ (some 29) rfl rfl Tryd.func44 (by kernel_rfl) rfl #[.slice A0_4 l0_4.length c0_4,.slice A1_4 l1_4.length c1_4] rfl (by (try simp only [List.map_toArray,List.map_cons,List.map_nil]); first | done | rfl | (simp only [List.length_drop,List.length_take]; rfl)) ?_; (with_reducible refine (laws_eqIntS.calls k _ _ l0_4 _ _ l1_4 _ _ ?side1 ?side2 ?side3 ?side4 A17.out).mono ?_); (case side1 => repeat (first | exact (Kd.C_below HR0_4.out HB.out) | (with_reducible refine Kd.C_alloc ?_ _) | (with_reducible refine Kd.C_drewN ?_ _) | (with_reducible refine Kd.C_drew ?_))); (case side2 => exact HC0_4.out); (case side3 => repeat (first | exact (Kd.C_below HR1_4.out HB.out) | (with_reducible refine Kd.C_alloc ?_ _) | (with_reducible refine Kd.C_drewN ?_ _) | (with_reducible refine Kd.C_drew ?_))); (case side4 => exact HC1_4.out); rintro e w' ⟨rfl,⟨nd,rfl⟩⟩; refine ⟨_,rfl,?_⟩) | ((with_reducible refine gate_callee (f := 44) rfl ?_); refine goesL_ (some 35) rfl rfl Tryd.func44 (by kernel_rfl) rfl #[.slice A0_5 l0_5.length c0_5,.slice A1_5 l1_5.length c1_5] rfl (by (try simp only [List.map_toArray,List.map_cons,List.map_nil]); first | done | rfl | (simp only [List.length_drop,List.length_take]; rfl)) ?_; (with_reducible refine (laws_eqIntS.calls k _ _ l0_5 _ _ l1_5 _ _ ?side1 ?side2 ?side3 ?side4 A19.out).mono ?_); (case side1 => repeat (first | exact (Kd.C_below HR0_5.out (by repeat (first | (with_reducible first | exact HB.out | apply QI | apply QC | apply QH | refine QL ?_ GE459.out | refine QL ?_ GE460.out) | exact HB.out))) | (with_reducible refine Kd.C_alloc ?_ _) | (with_reducible refine Kd.C_drewN ?_ _) | (with_reducible refine Kd.C_drew ?_))); (case side2 => exact HC0_5.out); (case side3 => repeat (first | exact (Kd.C_below HR1_5.out (by repeat (first | (with_reducible first | exact HB.out | apply QI | apply QC | apply QH | refine QL ?_ GE459.out | refine QL ?_ GE460.out) | exact HB.out))) | (with_reducible refine Kd.C_alloc ?_ _) | (with_reducible refine Kd.C_drewN ?_ _) | (with_reducible refine Kd.C_drew ?_))); (case side4 => exact HC1_5.out); rintro e w' ⟨rfl,⟨nd,rfl⟩⟩; refine ⟨_,rfl,?_⟩))
  go_ret
  exact ⟨by first | rfl | (simp [errW_none,errW_some] <;> rfl) | (simp [*,errW_none,errW_some] <;> rfl),by repeat (first | (with_reducible first | exact HB.out | apply QI | apply QC | apply QH | refine QL ?_ GE459.out | refine QL ?_ GE460.out) | exact HB.out)⟩

/-! ### laws_markIntS: function 45 -/
def laws_markIntS.l0 : Nat → List Int → Int → Int → Option (Int × List Int)
 | 0,_,_,_ => none
 | k + 1,x0,x1,x5 => if x5 < (x0.length : Int) then (if 0 ≤ x5 then (laws_markIntS.l0 k (x0.set (x5 : Int).toNat x1) (wrap64 (x1 + 1)) (wrap64 (x5 + 1))) else (none)) else (some (x1,x0))
def laws_markIntS.f (k : Nat) (l0 : List Int) (a1 : Int) : Option (Int × List Int) := laws_markIntS.l0 k l0 a1 0
theorem laws_markIntS.mono_l : ∀ k, (∀ y0 y1 y2, LeO (laws_markIntS.l0 k y0 y1 y2) (laws_markIntS.l0 (k + 1) y0 y1 y2))
 | 0 => fun _ _ _ r h => by simp [laws_markIntS.l0] at h
 | k + 1 => by
  have ih0 := laws_markIntS.mono_l k
  ·intro y0 y1 y2
   unfold laws_markIntS.l0
   repeat' first
   | (with_reducible exact ih0 _ _ _)
   | (with_reducible exact LeO.refl _)
   | (with_reducible exact LeO.none _)
   | (with_reducible refine LeO.ite ?_ ?_)
   | (with_reducible refine LeO.bind ?_ (fun _ => ?_))
   | exact ih0 _ _ _
   | exact LeO.none _
   | refine LeO.ite ?_ ?_
   | refine LeO.bind ?_ (fun _ => ?_)
theorem laws_markIntS.mono : ∀ a0 a1 k, LeO (laws_markIntS.f k a0 a1) (laws_markIntS.f (k + 1) a0 a1) := by
 intro a0 a1 k
 have ih0 := laws_markIntS.mono_l k
 unfold laws_markIntS.f
 repeat' first
   | (with_reducible exact ih0 _ _ _)
   | (with_reducible exact LeO.refl _)
   | (with_reducible exact LeO.none _)
   | (with_reducible refine LeO.ite ?_ ?_)
   | (with_reducible refine LeO.bind ?_ (fun _ => ?_))
   | exact ih0 _ _ _
   | exact LeO.none _
   | refine LeO.ite ?_ ?_
   | refine LeO.bind ?_ (fun _ => ?_)
set_option maxHeartbeats 8000000 in
set_option maxRecDepth 100000 in
theorem laws_markIntS.calls (k : Nat) (P0_ : Nat → Prop) (u9000_ : Value) (l0 : List Int) (a1 : Int) (r1 : Int) (r2 : List Int) (w0 w : World) (hB : Below w0.heap.size w0 w) (ho0 : Kd.R (Kd.int .i64) 3 w w0.heap.size P0_ u9000_ l0) (h : laws_markIntS.f k l0 a1 = some (r1, r2)) :
  Calls Tryd.prog 45 #[u9000_,.int .i64 a1] w fun e w' => e = .returned (.int .i64 r1) ∧ Kd.R (Kd.int .i64) 3 w' w0.heap.size (fun k_ => (P0_ k_ ∨ w.heap.size ≤ k_)) u9000_ r2 ∧ Below w0.heap.size w0 w' ∧ Kept w w' (fun k_ => P0_ k_) := by
 have HO0 := Qa (show Kd.R (Kd.int .i64) 3 w w0.heap.size (fun k_ => (P0_ k_ ∨ w.heap.size ≤ k_)) u9000_ l0 from QP ho0 (fun k_ hk => (.inl hk)))
 have HK := Qa (Kept.refl w (fun k_ => P0_ k_))
 have HW0 := Qa hB.size
 have HB := Qa hB
 clear hB
 have H : (laws_markIntS.l0 k l0 a1 0) = some (r1,r2) := h
 clear h
 have H' := Qa H
 clear H
 go_enter Tryd.func45,Tryd.ntmps45
 go_wp2
 go_loopg [1,5] k (fun kq v1 v5 w' => ∃ (x0_1 : List Int) (x1_1 : Int) (x5_1 : Int),v1 = .int .i64 x1_1 ∧ v5 = .int .i64 x5_1 ∧ Aside0 (laws_markIntS.l0 kq x0_1 x1_1 x5_1 = some (r1,r2)) ∧ Aside0 (kq ≤ k) ∧ Aside0 (Kd.R (Kd.int .i64) 3 w' w0.heap.size (fun k_ => (P0_ k_ ∨ w.heap.size ≤ k_)) u9000_ x0_1) ∧ Aside0 (Kept w w' (fun k_ => P0_ k_)) ∧ Aside0 (Below w0.heap.size w0 w'))
 case atStart => exact ⟨(l0),(a1),(0),(by first | rfl | (simp; done) | (simp [*]; done)),(by first | rfl | (simp; done) | (simp [*]; done)),H',⟨Nat.le_refl _⟩,⟨by (with_reducible repeat (first | apply QD | apply QE | apply QG)); exact HO0.out⟩,⟨by repeat (first | (with_reducible first | exact HK.out | apply Kept.alloc | apply Kept.drewN | apply Kept.drew) | exact HK.out)⟩,⟨by repeat (first | (with_reducible first | exact HB.out | apply QI | apply QC | apply QH) | exact HB.out)⟩⟩
 case round =>
  clear H'
  try clear p2
  obtain ⟨x0_1,x1_1,x5_1,rfl,rfl,HA,HK1,HO_0,HK,HB⟩ := hrel
  cases gk with
  | zero => exact absurd HA.out (by simp [laws_markIntS.l0])
  | succ k1 =>
   have H := HA.out
   clear HA
   simp only [laws_markIntS.l0] at H
   by_cases c3 : x5_1 < (x0_1.length : Int)
   ·rw [if_pos c3] at H
    have c3b0 : decide (x5_1 < (x0_1.length : Int)) = true := decide_eq_true c3
    clear c3
    by_cases c4 : 0 ≤ x5_1
    ·rw [if_pos c4] at H
     have c4b0 : decide (0 ≤ x5_1) = true := decide_eq_true c4
     clear c4
     obtain ⟨y463,hy463⟩ : ∃ y_ : List Int,y_ = (x0_1.set (x5_1 : Int).toNat x1_1) := ⟨_,rfl⟩
     replace H : (laws_markIntS.l0 k1 y463 (wrap64 (x1_1 + 1)) (wrap64 (x5_1 + 1))) = some (r1,r2) := by first | (rw [hy463]; with_reducible exact H) | (have H2_ := (Option.bind_some _ _).symm.trans H; rw [hy463]; with_reducible exact H2_) | (have H2_ := (Option.bind_some _ _).symm.trans H; with_reducible exact H2_) | with_reducible exact H | (rw [hy463]; exact H) | exact H
     have Ny463 := Qa hy463
     clear hy463
     have H' := Qa H
     clear H
     obtain ⟨Ao6,co6,eo6⟩ := Kd.R_slice HO_0.out
     subst eo6
     have p5 : 0 ≤ (x5_1 : Int) := of_decide_eq_true (by first | (with_reducible assumption) | assumption)
     have q5 : (x5_1 : Int) < ((x0_1.length : Int) : Int) := of_decide_eq_true (by first | (with_reducible assumption) | assumption)
     obtain ⟨go5,co5,eo5,gb5,gl5,cl5,HG5⟩ := Kd.R_form HO_0.out (by omega)
     (first | cases eo5 | (injection eo5 with ea_ en_ ec_; (first | subst ea_ | (injection ea_ with ea_; subst ea_)); subst ec_; clear en_))
     have GB5 := Qa gb5
     have GG5 := Qa HG5
     clear gb5 gl5 HG5
     have HMgo5 := Qa (show (P0_ go5 ∨ w.heap.size ≤ go5) from (HO_0.out.1 _ rfl))
     obtain ⟨hx5_0,hf5_0⟩ := Kd.R_celln 0 HO_0.out (x5_1 : Int) p5 q5
     replace p5 := eq_true p5
     replace q5 := eq_true q5
     have HP7 := Kd.R_putg HO_0.out (x5_1 : Int) x1_1
     go_wp2_with (first | ((with_reducible refine gate_store (t := 3) (p := 15) rfl ?_); refine store_event (t := 3) (p := 15) (v := ?vo_w8) (w1 := (wr.setCell ⟨go5,(x5_1 : Int).toNat,none⟩ (.int .i64 x1_1))) ?hg ?ho ?hn ?hr ?_; (case ho => rfl); (case hg => rfl); (case hn => rfl); (case hr => first | (go_simp; done) | (go_simp; rfl)); intro w8 hw; have hg : wr.grownBy w8 (some go5) := (by rw [hw]; exact HP7.2); have hp_ : Kd.R (Kd.int .i64) 3 w8 w0.heap.size (fun k_ => (P0_ k_ ∨ w.heap.size ≤ k_)) (.slice (some ⟨go5,0,none⟩) x0_1.length co6) y463 := (by rw [hw,Ny463.out]; exact HP7.1); clear HP7; have n0_ := Qa (hp_); have n1_ := Qa ((by rw [hw]; exact QL (HB.out) GB5.out : Below w0.heap.size w0 w8)); have n2_ := Qa (Kept.of_grown (S := (fun k_ => P0_ k_)) hg (by repeat (first | (with_reducible first | exact HK.out | apply Kept.alloc | apply Kept.drewN | apply Kept.drew) | exact HK.out)) (fun k_ e_ => (HO_0.out.1 k_ e_))); clear HO_0; clear HB; clear HK; revert n0_ n1_ n2_; intro HO_0 HB HK; clear hg hw hp_))
     go_roundg k1
     case measure => have := HK1.out; omega
     case rel => exact ⟨(y463),(wrap64 (x1_1 + 1)),(wrap64 (x5_1 + 1)),(by first | rfl | (simp; done) | (simp [*]; done)),(by first | rfl | (simp; done) | (simp [*]; done)),H',⟨by have := HK1.out; omega⟩,⟨by (with_reducible repeat (first | apply QD | apply QE | apply QG)); exact HO_0.out⟩,⟨by repeat (first | (with_reducible first | exact HK.out | apply Kept.alloc | apply Kept.drewN | apply Kept.drew) | exact HK.out)⟩,⟨by repeat (first | (with_reducible first | exact HB.out | apply QI | apply QC | apply QH) | exact HB.out)⟩⟩
    ·rw [if_neg c4] at H
     exact absurd H (by simp)
   ·rw [if_neg c3] at H
    have c3b0 : decide (x5_1 < (x0_1.length : Int)) = false := decide_eq_false c3
    clear c3
    simp only [Option.some.injEq,Prod.mk.injEq] at H
    obtain ⟨rfl,rfl⟩ := H
    obtain ⟨Ao9,co9,eo9⟩ := Kd.R_slice HO_0.out
    subst eo9
    go_wp2
    go_ret
    exact ⟨by first | rfl | (simp [errW_none,errW_some] <;> rfl) | (simp [*,errW_none,errW_some] <;> rfl),by (with_reducible repeat (first | apply QD | apply QE | apply QG)); exact HO_0.out,by repeat (first | (with_reducible first | exact HB.out | apply QI | apply QC | apply QH) | exact HB.out),by repeat (first | (with_reducible first | exact HK.out | apply Kept.alloc | apply Kept.drewN | apply Kept.drew) | exact HK.out)⟩

/-! ### laws_markRules: function 20 -/
def laws_markRules.f (k : Nat) (a0_0 : Int) (a0_1 : Int) (a0_2 : Bool) (a0_3 : Bool) (l0_4 : List Int) (l0_5 : List Int) (a0_6 : Int) (a0_7 : Int) (a1 : Int) : Option (Int × List Int × List Int) := (laws_markIntS.f k l0_4 a1).bind fun bt465 => ((laws_markIntS.f k l0_5 bt465.1).bind fun bt467 => (some (bt467.1, bt465.2, bt467.2)))
theorem laws_markRules.mono : ∀ a0 a1 a2 a3 a4 a5 a6 a7 a8 k, LeO (laws_markRules.f k a0 a1 a2 a3 a4 a5 a6 a7 a8) (laws_markRules.f (k + 1) a0 a1 a2 a3 a4 a5 a6 a7 a8) := by
 intro a0 a1 a2 a3 a4 a5 a6 a7 a8 k
 unfold laws_markRules.f
 repeat' first
   | (with_reducible exact laws_markIntS.mono _ _ _)
   | (with_reducible exact LeO.refl _)
   | (with_reducible exact LeO.none _)
   | (with_reducible refine LeO.ite ?_ ?_)
   | (with_reducible refine LeO.bind ?_ (fun _ => ?_))
   | exact laws_markIntS.mono _ _ _
   | exact LeO.none _
   | refine LeO.ite ?_ ?_
   | refine LeO.bind ?_ (fun _ => ?_)
set_option maxHeartbeats 8000000 in
set_option maxRecDepth 100000 in
theorem laws_markRules.calls (k : Nat) (a0_0 : Int) (a0_1 : Int) (a0_2 : Bool) (a0_3 : Bool) (P0_4_ : Nat → Prop) (u9000_ : Value) (l0_4 : List Int) (P0_5_ : Nat → Prop) (u9001_ : Value) (l0_5 : List Int) (a0_6 : Int) (a0_7 : Int) (a1 : Int) (r1 : Int) (r2 : List Int) (r3 : List Int) (w0 w : World) (hB : Below w0.heap.size w0 w) (ho0_4 : Kd.R (Kd.int .i64) 3 w w0.heap.size P0_4_ u9000_ l0_4) (hp0_4_0_5 : ∀ k_, P0_4_ k_ → ¬ P0_5_ k_) (ho0_5 : Kd.R (Kd.int .i64) 3 w w0.heap.size P0_5_ u9001_ l0_5) (hp0_5_0_4 : ∀ k_, P0_5_ k_ → ¬ P0_4_ k_) (h : laws_markRules.f k a0_0 a0_1 a0_2 a0_3 l0_4 l0_5 a0_6 a0_7 a1 = some (r1, r2, r3)) :
  Calls Tryd.prog 20 #[.agg #[.int .i64 a0_0,.int .i64 a0_1,.bool a0_2,.bool a0_3,u9000_,u9001_,.int .i64 a0_6,.int .i64 a0_7],.int .i64 a1] w fun e w' => e = .returned (.int .i64 r1) ∧ Kd.R (Kd.int .i64) 3 w' w0.heap.size (fun k_ => ((P0_4_ k_ ∨ P0_5_ k_) ∨ w.heap.size ≤ k_)) u9000_ r2 ∧ Kd.R (Kd.int .i64) 3 w' w0.heap.size (fun k_ => ((P0_4_ k_ ∨ P0_5_ k_) ∨ w.heap.size ≤ k_)) u9001_ r3 ∧ Below w0.heap.size w0 w' ∧ Kept w w' (fun k_ => P0_4_ k_ ∨ P0_5_ k_) := by
 have hu26 := Tryd.underlying26
 have HO0_4 := Qa (show Kd.R (Kd.int .i64) 3 w w0.heap.size (fun k_ => ((P0_4_ k_ ∨ P0_5_ k_) ∨ w.heap.size ≤ k_) ∧ some k_ ≠ (u9001_ : Value).ownBlock) u9000_ l0_4 from QP ho0_4 (fun k_ hk => ⟨(.inl (.inl hk)),fun e_ => hp0_4_0_5 k_ hk (ho0_5.1 k_ e_.symm)⟩))
 have HO0_5 := Qa (show Kd.R (Kd.int .i64) 3 w w0.heap.size (fun k_ => ((P0_4_ k_ ∨ P0_5_ k_) ∨ w.heap.size ≤ k_) ∧ some k_ ≠ (u9000_ : Value).ownBlock) u9001_ l0_5 from QP ho0_5 (fun k_ hk => ⟨(.inl (.inr hk)),fun e_ => hp0_5_0_4 k_ hk (ho0_4.1 k_ e_.symm)⟩))
 have HK := Qa (Kept.refl w (fun k_ => P0_4_ k_ ∨ P0_5_ k_))
 have HW0 := Qa hB.size
 have HB := Qa hB
 clear hB
 have H : ((laws_markIntS.f k l0_4 a1).bind fun bt465 => ((laws_markIntS.f k l0_5 bt465.1).bind fun bt467 => (some (bt467.1,bt465.2,bt467.2)))) = some (r1,r2,r3) := h
 clear h
 replace H := Option.bind_eq_some_iff.mp H
 obtain ⟨⟨t465,t466⟩,A30,H⟩ := H
 replace H : ((laws_markIntS.f k l0_5 t465).bind fun bt467 => (some (bt467.1,t466,bt467.2))) = some (r1,r2,r3) := H
 have A3 := Qa A30
 clear A30
 replace H := Option.bind_eq_some_iff.mp H
 obtain ⟨⟨t467,t468⟩,A40,H⟩ := H
 replace H : (some (t467,t466,t468)) = some (r1,r2,r3) := H
 have A4 := Qa A40
 clear A40
 simp only [Option.some.injEq,Prod.mk.injEq] at H
 obtain ⟨rfl,rfl,rfl⟩ := H
 obtain ⟨Ao5,co5,eo5⟩ := Kd.R_slice HO0_4.out
 subst eo5
 obtain ⟨Ao6,co6,eo6⟩ := Kd.R_slice HO0_5.out
 subst eo6
 go_enter Tryd.func20,Tryd.ntmps20
 go_wp2_with (first | ((with_reducible refine gate_dst (N := 2) rfl ?_); refine box_event ?hg (N := 2) ?hd (cs := #[.int .i64 a0_0,.int .i64 a0_1,.bool a0_2,.bool a0_3,.slice Ao5 l0_4.length co5,.slice Ao6 l0_5.length co6,.int .i64 a0_6,.int .i64 a0_7]) (t := 26) ?hr ?_; (case hd => rfl); (case hg => rfl); (case hr => first | (go_simp; done) | (go_simp; rfl)); intro gb464 hg w7 hbox hb; have n0_ := Qa (QO (by (with_reducible repeat (first | apply QD | apply QE | apply QG)); exact HO0_4.out) hb); have n1_ := Qa (QO (by (with_reducible repeat (first | apply QD | apply QE | apply QG)); exact HO0_5.out) hb); have n2_ := Qa (Kept.below (S := (fun k_ => P0_4_ k_ ∨ P0_5_ k_)) (by repeat (first | (with_reducible first | exact HK.out | apply Kept.alloc | apply Kept.drewN | apply Kept.drew) | exact HK.out)) hb); have n3_ := Qa (QU (by repeat (first | (with_reducible first | exact HB.out | apply QI | apply QC | apply QH) | exact HB.out)) hb); have n4_ := Qa (hbox); have n5_ := Qa ((by rw [hg]; exact (by first | exact HK.out.1 | exact (show Kept w _ (fun k_ => P0_4_ k_ ∨ P0_5_ k_) from by repeat (first | (with_reducible first | exact HK.out | apply Kept.alloc | apply Kept.drewN | apply Kept.drew) | exact HK.out)).1) : w.heap.size ≤ gb464)); have n6_ := Qa ((by rw [hg]; exact (QR (by repeat (first | (with_reducible first | exact HB.out | apply QI | apply QC | apply QH) | exact HB.out))) : w0.heap.size ≤ gb464)); clear HO0_4; clear HO0_5; clear HK; clear HB; revert n0_ n1_ n2_ n3_ n4_ n5_ n6_; intro HO0_4 HO0_5 HK HB BK464 GW464 GE464; clear hb hbox hg; have hcz8_0 : w7.cell? ⟨gb464,0,none⟩ = some (.int .i64 a0_0) := (QF BK464.out 0).trans rfl; have hcz8_1 : w7.cell? ⟨gb464,1,none⟩ = some (.int .i64 a0_1) := (QF BK464.out 1).trans rfl; have hcz8_2 : w7.cell? ⟨gb464,2,none⟩ = some (.bool a0_2) := (QF BK464.out 2).trans rfl; have hcz8_3 : w7.cell? ⟨gb464,3,none⟩ = some (.bool a0_3) := (QF BK464.out 3).trans rfl; have hcz8_4 : w7.cell? ⟨gb464,4,none⟩ = some (.slice Ao5 l0_4.length co5) := (QF BK464.out 4).trans rfl; have hcz8_5 : w7.cell? ⟨gb464,5,none⟩ = some (.slice Ao6 l0_5.length co6) := (QF BK464.out 5).trans rfl; have hcz8_6 : w7.cell? ⟨gb464,6,none⟩ = some (.int .i64 a0_6) := (QF BK464.out 6).trans rfl; have hcz8_7 : w7.cell? ⟨gb464,7,none⟩ = some (.int .i64 a0_7) := (QF BK464.out 7).trans rfl; have hfz8_0 := QB BK464.out 0; have hfz8_1 := QB BK464.out 1; have hfz8_2 := QB BK464.out 2; have hfz8_3 := QB BK464.out 3; have hfz8_4 := QB BK464.out 4; have hfz8_5 := QB BK464.out 5; have hfz8_6 := QB BK464.out 6; have hfz8_7 := QB BK464.out 7) | ((with_reducible refine gate_callee (f := 45) rfl ?_); refine goesL_ (some 8) rfl rfl Tryd.func45 (by kernel_rfl) rfl #[.slice Ao5 l0_4.length co5,.int .i64 a1] rfl (by (try simp only [List.map_toArray,List.map_cons,List.map_nil]); first | done | rfl | (simp only [List.length_drop,List.length_take]; rfl)) ?_; (with_reducible refine (laws_markIntS.calls k (fun k_ => some k_ = (.slice Ao5 l0_4.length co5 : Value).ownBlock) (.slice Ao5 l0_4.length co5) l0_4 a1 t465 t466 w0 _ ?side1 ?side2 A3.out).mono ?_); (case side1 => repeat (first | (with_reducible first | exact HB.out | apply QI | apply QC | apply QH | refine QL ?_ GE464.out) | exact HB.out)); (case side2 => exact Kd.R_tight rfl HO0_4.out); rintro e w9 ⟨rfl,hy0,hb,hkp⟩; refine ⟨_,rfl,?_⟩; have n0_ := Qa (Kd.R_reok rfl hy0 (fun k_ e_ => HO0_4.out.1 k_ e_)); have n1_ := Qa (QP (ok' := fun k_ => ((P0_4_ k_ ∨ P0_5_ k_) ∨ w.heap.size ≤ k_) ∧ some k_ ≠ (.slice Ao5 l0_4.length co5 : Value).ownBlock) (Kd.R_keptB (HO0_5.out) hkp (fun k_ hk_ hs_ => (hk_.2) hs_)) (fun k_ hk_ => ⟨hk_.1.1,hk_.1.2⟩)); have n2_ := Qa (blk_kept (by (with_reducible repeat (first | refine QJ ?_ _ | refine QM ?_ | refine QK ?_ _)); exact BK464.out) hkp (fun hs_ => (fun e_ => (Kd.R_ne HO0_4.out BK464.out (by decide)) e_) hs_)); have n3_ := Qa (Kept.then_ (S := (fun k_ => P0_4_ k_ ∨ P0_5_ k_)) (by repeat (first | (with_reducible first | exact HK.out | apply Kept.alloc | apply Kept.drewN | apply Kept.drew | refine Kept.setCell ?_ (.inr GW464.out) _) | exact HK.out)) hkp (fun k_ hs_ => (fun e_ => (HO0_4.out.1 k_ e_.symm).1) hs_)); have n4_ := Qa (hb); clear HO0_4; clear HO0_5; clear BK464; clear HK; clear HB; revert n0_ n1_ n2_ n3_ n4_; intro HO0_4 HO0_5 BK464 HK HB; (try clear hb); (try clear hkp); (try clear hy0); have hcz10_0 : w9.cell? ⟨gb464,0,none⟩ = some (.int .i64 a0_0) := (QF BK464.out 0).trans rfl; have hcz10_1 : w9.cell? ⟨gb464,1,none⟩ = some (.int .i64 a0_1) := (QF BK464.out 1).trans rfl; have hcz10_2 : w9.cell? ⟨gb464,2,none⟩ = some (.bool a0_2) := (QF BK464.out 2).trans rfl; have hcz10_3 : w9.cell? ⟨gb464,3,none⟩ = some (.bool a0_3) := (QF BK464.out 3).trans rfl; have hcz10_4 : w9.cell? ⟨gb464,4,none⟩ = some (.slice Ao5 l0_4.length co5) := (QF BK464.out 4).trans rfl; have hcz10_5 : w9.cell? ⟨gb464,5,none⟩ = some (.slice Ao6 l0_5.length co6) := (QF BK464.out 5).trans rfl; have hcz10_6 : w9.cell? ⟨gb464,6,none⟩ = some (.int .i64 a0_6) := (QF BK464.out 6).trans rfl; have hcz10_7 : w9.cell? ⟨gb464,7,none⟩ = some (.int .i64 a0_7) := (QF BK464.out 7).trans rfl; have hfz10_0 := QB BK464.out 0; have hfz10_1 := QB BK464.out 1; have hfz10_2 := QB BK464.out 2; have hfz10_3 := QB BK464.out 3; have hfz10_4 := QB BK464.out 4; have hfz10_5 := QB BK464.out 5; have hfz10_6 := QB BK464.out 6; have hfz10_7 := QB BK464.out 7) | ((with_reducible refine gate_callee (f := 45) rfl ?_); refine goesL_ (some 12) rfl rfl Tryd.func45 (by kernel_rfl) rfl #[.slice Ao6 l0_5.length co6,.int .i64 t465] rfl (by (try simp only [List.map_toArray,List.map_cons,List.map_nil]); first | done | rfl | (simp only [List.length_drop,List.length_take]; rfl)) ?_; (with_reducible refine (laws_markIntS.calls k (fun k_ => some k_ = (.slice Ao6 l0_5.length co6 : Value).ownBlock) (.slice Ao6 l0_5.length co6) l0_5 t465 t467 t468 w0 _ ?side1 ?side2 A4.out).mono ?_); (case side1 => repeat (first | (with_reducible first | exact HB.out | apply QI | apply QC | apply QH | refine QL ?_ GE464.out) | exact HB.out)); (case side2 => exact Kd.R_tight rfl HO0_5.out); rintro e w11 ⟨rfl,hy0,hb,hkp⟩; refine ⟨_,rfl,?_⟩; have n0_ := Qa (QP (ok' := fun k_ => ((P0_4_ k_ ∨ P0_5_ k_) ∨ w.heap.size ≤ k_) ∧ some k_ ≠ (.slice Ao6 l0_5.length co6 : Value).ownBlock) (Kd.R_keptB (HO0_4.out) hkp (fun k_ hk_ hs_ => (hk_.2) hs_)) (fun k_ hk_ => ⟨hk_.1.1,hk_.1.2⟩)); have n1_ := Qa (Kd.R_reok rfl hy0 (fun k_ e_ => HO0_5.out.1 k_ e_)); have n2_ := Qa (blk_kept (by (with_reducible repeat (first | refine QJ ?_ _ | refine QM ?_ | refine QK ?_ _)); exact BK464.out) hkp (fun hs_ => (fun e_ => (Kd.R_ne HO0_5.out BK464.out (by decide)) e_) hs_)); have n3_ := Qa (Kept.then_ (S := (fun k_ => P0_4_ k_ ∨ P0_5_ k_)) (by repeat (first | (with_reducible first | exact HK.out | apply Kept.alloc | apply Kept.drewN | apply Kept.drew | refine Kept.setCell ?_ (.inr GW464.out) _) | exact HK.out)) hkp (fun k_ hs_ => (fun e_ => (HO0_5.out.1 k_ e_.symm).1) hs_)); have n4_ := Qa (hb); clear HO0_4; clear HO0_5; clear BK464; clear HK; clear HB; revert n0_ n1_ n2_ n3_ n4_; intro HO0_4 HO0_5 BK464 HK HB; (try clear hb); (try clear hkp); (try clear hy0)))
 go_ret
 exact ⟨by first | rfl | (simp [errW_none,errW_some] <;> rfl) | (simp [*,errW_none,errW_some] <;> rfl),by (with_reducible repeat (first | apply QD | apply QE | apply QG)); exact QP HO0_4.out (fun _ hk => hk.1),by (with_reducible repeat (first | apply QD | apply QE | apply QG)); exact QP HO0_5.out (fun _ hk => hk.1),by repeat (first | (with_reducible first | exact HB.out | apply QI | apply QC | apply QH | refine QL ?_ GE464.out) | exact HB.out),by repeat (first | (with_reducible first | exact HK.out | apply Kept.alloc | apply Kept.drewN | apply Kept.drew | refine Kept.setCell ?_ (.inr GW464.out) _) | exact HK.out)⟩

/-! ### laws_heldIntS: function 46 -/
def laws_heldIntS.l0 : Nat → List Int → Int → Int → Option (Int)
 | 0,_,_,_ => none
 | k + 1,x0,x1,x5 => if x5 < (x0.length : Int) then (if 0 ≤ x5 then (if (rd x0 x5) = x1 then (laws_heldIntS.l0 k x0 (wrap64 (x1 + 1)) (wrap64 (x5 + 1))) else (some (-1))) else (none)) else (some x1)
def laws_heldIntS.f (k : Nat) (l0 : List Int) (a1 : Int) : Option (Int) := laws_heldIntS.l0 k l0 a1 0
theorem laws_heldIntS.mono_l : ∀ k, (∀ y0 y1 y2, LeO (laws_heldIntS.l0 k y0 y1 y2) (laws_heldIntS.l0 (k + 1) y0 y1 y2))
 | 0 => fun _ _ _ r h => by simp [laws_heldIntS.l0] at h
 | k + 1 => by
  have ih0 := laws_heldIntS.mono_l k
  ·intro y0 y1 y2
   unfold laws_heldIntS.l0
   repeat' first
   | (with_reducible exact ih0 _ _ _)
   | (with_reducible exact LeO.refl _)
   | (with_reducible exact LeO.none _)
   | (with_reducible refine LeO.ite ?_ ?_)
   | (with_reducible refine LeO.bind ?_ (fun _ => ?_))
   | exact ih0 _ _ _
   | exact LeO.none _
   | refine LeO.ite ?_ ?_
   | refine LeO.bind ?_ (fun _ => ?_)
theorem laws_heldIntS.mono : ∀ a0 a1 k, LeO (laws_heldIntS.f k a0 a1) (laws_heldIntS.f (k + 1) a0 a1) := by
 intro a0 a1 k
 have ih0 := laws_heldIntS.mono_l k
 unfold laws_heldIntS.f
 repeat' first
   | (with_reducible exact ih0 _ _ _)
   | (with_reducible exact LeO.refl _)
   | (with_reducible exact LeO.none _)
   | (with_reducible refine LeO.ite ?_ ?_)
   | (with_reducible refine LeO.bind ?_ (fun _ => ?_))
   | exact ih0 _ _ _
   | exact LeO.none _
   | refine LeO.ite ?_ ?_
   | refine LeO.bind ?_ (fun _ => ?_)
set_option maxHeartbeats 8000000 in
set_option maxRecDepth 100000 in
theorem laws_heldIntS.calls (k : Nat) (A0 : Option Addr) (c0 : Nat) (l0 : List Int) (a1 : Int) (r : Int) (w : World) (hr0 : Kd.C (Kd.int .i64) w A0 l0.length l0) (hc0 : l0.length ≤ c0) (h : laws_heldIntS.f k l0 a1 = some r) :
  Calls Tryd.prog 46 #[.slice A0 l0.length c0,.int .i64 a1] w fun e w' => e = .returned (.int .i64 r) ∧ Drawn0 w w' := by
 have HR0 := Qa hr0
 have HC0 := Qa hc0
 clear hr0 hc0
 have H : (laws_heldIntS.l0 k l0 a1 0) = some r := h
 clear h
 have H' := Qa H
 clear H
 go_enter Tryd.func46,Tryd.ntmps46
 go_wp2
 go_loopg [1,5] k (fun kq v1 v5 w' => ∃ (x1_1 : Int) (x5_1 : Int),v1 = .int .i64 x1_1 ∧ v5 = .int .i64 x5_1 ∧ Aside0 (laws_heldIntS.l0 kq l0 x1_1 x5_1 = some r) ∧ Aside0 (kq ≤ k) ∧ Drawn0 w w')
 case atStart => exact ⟨(a1),(0),(by first | rfl | (simp; done) | (simp [*]; done)),(by first | rfl | (simp; done) | (simp [*]; done)),H',⟨Nat.le_refl _⟩,by repeat (first | exact Drawn0.refl _ | apply Drawn0.step)⟩
 case round =>
  clear H'
  try clear p2
  obtain ⟨x1_1,x5_1,rfl,rfl,HA,HK1,⟨m1,rfl⟩⟩ := hrel
  cases gk with
  | zero => exact absurd HA.out (by simp [laws_heldIntS.l0])
  | succ k1 =>
   have H := HA.out
   clear HA
   simp only [laws_heldIntS.l0] at H
   by_cases c3 : x5_1 < (l0.length : Int)
   ·rw [if_pos c3] at H
    have c3b0 : decide (x5_1 < (l0.length : Int)) = true := decide_eq_true c3
    clear c3
    by_cases c4 : 0 ≤ x5_1
    ·rw [if_pos c4] at H
     have c4b0 : decide (0 ≤ x5_1) = true := decide_eq_true c4
     clear c4
     by_cases c5 : (rd l0 x5_1) = x1_1
     ·rw [if_pos c5] at H
      have c5b0 : ((rd l0 x5_1) == x1_1) = true := beq_iff_eq.mpr c5
      have c5b1 : ((rd l0 x5_1) != x1_1) = false := bne_eq_false_iff_eq.mpr c5
      clear c5
      have H' := Qa H
      clear H
      have p469 : 0 ≤ (x5_1 : Int) := of_decide_eq_true (by first | (with_reducible assumption) | assumption)
      have q469 : x5_1 < (l0.length : Int) := of_decide_eq_true (by first | (with_reducible assumption) | assumption)
      obtain ⟨ad469,e469,hx469_0⟩ := Kd.at_int HR0.out x5_1 p469 q469
      cases e469
      replace p469 := eq_true p469
      replace q469 := eq_true q469
      go_wp2
      go_roundg k1
      case measure => have := HK1.out; omega
      case rel => exact ⟨(wrap64 (x1_1 + 1)),(wrap64 (x5_1 + 1)),(by first | rfl | (simp; done) | (simp [*]; done)),(by first | rfl | (simp; done) | (simp [*]; done)),H',⟨by have := HK1.out; omega⟩,by repeat (first | exact Drawn0.refl _ | apply Drawn0.step)⟩
     ·rw [if_neg c5] at H
      have c5b0 : ((rd l0 x5_1) == x1_1) = false := beq_eq_false_iff_ne.mpr c5
      have c5b1 : ((rd l0 x5_1) != x1_1) = true := bne_iff_ne.mpr c5
      obtain rfl := Option.some.inj H
      have p469 : 0 ≤ (x5_1 : Int) := of_decide_eq_true (by first | (with_reducible assumption) | assumption)
      have q469 : x5_1 < (l0.length : Int) := of_decide_eq_true (by first | (with_reducible assumption) | assumption)
      obtain ⟨ad469,e469,hx469_0⟩ := Kd.at_int HR0.out x5_1 p469 q469
      cases e469
      replace p469 := eq_true p469
      replace q469 := eq_true q469
      go_wp2
      go_ret
      exact ⟨by first | rfl | (simp; done) | (simp [*]; done),by repeat (first | exact Drawn0.refl _ | apply Drawn0.step)⟩
    ·rw [if_neg c4] at H
     exact absurd H (by simp)
   ·rw [if_neg c3] at H
    have c3b0 : decide (x5_1 < (l0.length : Int)) = false := decide_eq_false c3
    clear c3
    obtain rfl := Option.some.inj H
    go_wp2
    go_ret
    exact ⟨by first | rfl | (simp; done) | (simp [*]; done),by repeat (first | exact Drawn0.refl _ | apply Drawn0.step)⟩

/-! ### laws_heldRules: function 21 -/
def laws_heldRules.f (k : Nat) (a0_0 : Int) (a0_1 : Int) (a0_2 : Bool) (a0_3 : Bool) (l0_4 : List Int) (l0_5 : List Int) (a0_6 : Int) (a0_7 : Int) (a1 : Int) : Option (Int) := (laws_heldIntS.f k l0_4 a1).bind fun t471 => (if t471 < 0 then (some (-1)) else ((laws_heldIntS.f k l0_5 t471).bind fun t472 => (if t472 < 0 then (some (-1)) else (some t472))))
theorem laws_heldRules.mono : ∀ a0 a1 a2 a3 a4 a5 a6 a7 a8 k, LeO (laws_heldRules.f k a0 a1 a2 a3 a4 a5 a6 a7 a8) (laws_heldRules.f (k + 1) a0 a1 a2 a3 a4 a5 a6 a7 a8) := by
 intro a0 a1 a2 a3 a4 a5 a6 a7 a8 k
 unfold laws_heldRules.f
 repeat' first
   | (with_reducible exact laws_heldIntS.mono _ _ _)
   | (with_reducible exact LeO.refl _)
   | (with_reducible exact LeO.none _)
   | (with_reducible refine LeO.ite ?_ ?_)
   | (with_reducible refine LeO.bind ?_ (fun _ => ?_))
   | exact laws_heldIntS.mono _ _ _
   | exact LeO.none _
   | refine LeO.ite ?_ ?_
   | refine LeO.bind ?_ (fun _ => ?_)
set_option maxHeartbeats 8000000 in
set_option maxRecDepth 100000 in
theorem laws_heldRules.calls (k : Nat) (a0_0 : Int) (a0_1 : Int) (a0_2 : Bool) (a0_3 : Bool) (A0_4 : Option Addr) (c0_4 : Nat) (l0_4 : List Int) (A0_5 : Option Addr) (c0_5 : Nat) (l0_5 : List Int) (a0_6 : Int) (a0_7 : Int) (a1 : Int) (r : Int) (w : World) (hr0_4 : Kd.C (Kd.int .i64) w A0_4 l0_4.length l0_4) (hc0_4 : l0_4.length ≤ c0_4) (hr0_5 : Kd.C (Kd.int .i64) w A0_5 l0_5.length l0_5) (hc0_5 : l0_5.length ≤ c0_5) (h : laws_heldRules.f k a0_0 a0_1 a0_2 a0_3 l0_4 l0_5 a0_6 a0_7 a1 = some r) :
  Calls Tryd.prog 21 #[.agg #[.int .i64 a0_0,.int .i64 a0_1,.bool a0_2,.bool a0_3,.slice A0_4 l0_4.length c0_4,.slice A0_5 l0_5.length c0_5,.int .i64 a0_6,.int .i64 a0_7],.int .i64 a1] w fun e w' => e = .returned (.int .i64 r) ∧ Below w.heap.size w w' := by
 have hu26 := Tryd.underlying26
 have HR0_4 := Qa hr0_4
 have HC0_4 := Qa hc0_4
 clear hr0_4 hc0_4
 have HR0_5 := Qa hr0_5
 have HC0_5 := Qa hc0_5
 clear hr0_5 hc0_5
 have HB := Qa (Below.refl w.heap.size w)
 have H : ((laws_heldIntS.f k l0_4 a1).bind fun t471 => (if t471 < 0 then (some (-1)) else ((laws_heldIntS.f k l0_5 t471).bind fun t472 => (if t472 < 0 then (some (-1)) else (some t472))))) = some r := h
 clear h
 replace H := Option.bind_eq_some_iff.mp H
 obtain ⟨t471,A30,H⟩ := H
 have A3 := Qa A30
 clear A30
 by_cases c4 : t471 < 0
 rotate_left
 rw [if_neg c4] at H
 have c4b0 : decide (t471 < 0) = false := decide_eq_false c4
 clear c4
 replace H := Option.bind_eq_some_iff.mp H
 obtain ⟨t472,A70,H⟩ := H
 have A7 := Qa A70
 clear A70
 by_cases c8 : t472 < 0
 rotate_left
 rw [if_neg c8] at H
 have c8b0 : decide (t472 < 0) = false := decide_eq_false c8
 clear c8
 obtain rfl := Option.some.inj H
 rotate_right
 rw [if_pos c8] at H
 have c8b0 : decide (t472 < 0) = true := decide_eq_true c8
 clear c8
 obtain rfl := Option.some.inj H
 rotate_right
 rw [if_pos c4] at H
 have c4b0 : decide (t471 < 0) = true := decide_eq_true c4
 clear c4
 obtain rfl := Option.some.inj H
 all_goals
  go_enter Tryd.func21,Tryd.ntmps21
  go_wp2_with (first | ((with_reducible refine gate_dst (N := 2) rfl ?_); refine box_event ?hg (N := 2) ?hd (cs := #[.int .i64 a0_0,.int .i64 a0_1,.bool a0_2,.bool a0_3,.slice A0_4 l0_4.length c0_4,.slice A0_5 l0_5.length c0_5,.int .i64 a0_6,.int .i64 a0_7]) (t := 26) ?hr ?_; (case hd => rfl); (case hg => rfl); (case hr => first | (go_simp; done) | (go_simp; rfl)); intro gb470 hg w11 hbox hb; have n0_ := Qa (QU (by repeat (first | (with_reducible first | exact HB.out | apply QI | apply QC | apply QH) | exact HB.out)) hb); have n1_ := Qa (hbox); have n2_ := Qa ((by rw [hg]; exact (QR (by repeat (first | (with_reducible first | exact HB.out | apply QI | apply QC | apply QH) | exact HB.out))) : w.heap.size ≤ gb470)); have n3_ := Qa ((by rw [hg]; exact (QR (by repeat (first | (with_reducible first | exact HB.out | apply QI | apply QC | apply QH) | exact HB.out))) : w.heap.size ≤ gb470)); clear HB; revert n0_ n1_ n2_ n3_; intro HB BK470 GW470 GE470; clear hb hbox hg; have hcz12_0 : w11.cell? ⟨gb470,0,none⟩ = some (.int .i64 a0_0) := (QF BK470.out 0).trans rfl; have hcz12_1 : w11.cell? ⟨gb470,1,none⟩ = some (.int .i64 a0_1) := (QF BK470.out 1).trans rfl; have hcz12_2 : w11.cell? ⟨gb470,2,none⟩ = some (.bool a0_2) := (QF BK470.out 2).trans rfl; have hcz12_3 : w11.cell? ⟨gb470,3,none⟩ = some (.bool a0_3) := (QF BK470.out 3).trans rfl; have hcz12_4 : w11.cell? ⟨gb470,4,none⟩ = some (.slice A0_4 l0_4.length c0_4) := (QF BK470.out 4).trans rfl; have hcz12_5 : w11.cell? ⟨gb470,5,none⟩ = some (.slice A0_5 l0_5.length c0_5) := (QF BK470.out 5).trans rfl; have hcz12_6 : w11.cell? ⟨gb470,6,none⟩ = some (.int .i64 a0_6) := (QF BK470.out 6).trans rfl; have hcz12_7 : w11.cell? ⟨gb470,7,none⟩ = some (.int .i64 a0_7) := (QF BK470.out 7).trans rfl; have hfz12_0 := QB BK470.out 0; have hfz12_1 := QB BK470.out 1; have hfz12_2 := QB BK470.out 2; have hfz12_3 := QB BK470.out 3; have hfz12_4 := QB BK470.out 4; have hfz12_5 := QB BK470.out 5; have hfz12_6 := QB BK470.out 6; have hfz12_7 := QB BK470.out 7) | ((with_reducible refine gate_callee (f := 46) rfl ?_); refine goesL_ (some 8) rfl rfl Tryd.func46 (by kernel_rfl) rfl #[.slice A0_4 l0_4.length c0_4,.int .i64 a1] rfl (by (try simp only [List.map_toArray,List.map_cons,List.map_nil]); first | done | rfl | (simp only [List.length_drop,List.length_take]; rfl)) ?_; (with_reducible refine (laws_heldIntS.calls k _ _ l0_4 a1 t471 _ ?side1 ?side2 A3.out).mono ?_); (case side1 => repeat (first | exact (Kd.C_below HR0_4.out HB.out) | (with_reducible refine Kd.C_alloc ?_ _) | (with_reducible refine Kd.C_drewN ?_ _) | (with_reducible refine Kd.C_drew ?_))); (case side2 => exact HC0_4.out); rintro e w' ⟨rfl,⟨nd,rfl⟩⟩; refine ⟨_,rfl,?_⟩) | ((with_reducible refine gate_callee (f := 46) rfl ?_); refine goesL_ (some 14) rfl rfl Tryd.func46 (by kernel_rfl) rfl #[.slice A0_5 l0_5.length c0_5,.int .i64 t471] rfl (by (try simp only [List.map_toArray,List.map_cons,List.map_nil]); first | done | rfl | (simp only [List.length_drop,List.length_take]; rfl)) ?_; (with_reducible refine (laws_heldIntS.calls k _ _ l0_5 t471 t472 _ ?side1 ?side2 A7.out).mono ?_); (case side1 => repeat (first | exact (Kd.C_below HR0_5.out (by repeat (first | (with_reducible first | exact HB.out | apply QI | apply QC | apply QH | refine QL ?_ GE470.out) | exact HB.out))) | (with_reducible refine Kd.C_alloc ?_ _) | (with_reducible refine Kd.C_drewN ?_ _) | (with_reducible refine Kd.C_drew ?_))); (case side2 => exact HC0_5.out); rintro e w' ⟨rfl,⟨nd,rfl⟩⟩; refine ⟨_,rfl,?_⟩))
  go_ret
  exact ⟨by first | rfl | (simp [errW_none,errW_some] <;> rfl) | (simp [*,errW_none,errW_some] <;> rfl),by repeat (first | (with_reducible first | exact HB.out | apply QI | apply QC | apply QH | refine QL ?_ GE470.out) | exact HB.out)⟩

end Go.Proofs.YtdfmobcocaijpaaDoor.QFnExactParseRules
