/- What a call of each Go function that FnExactChoiceOf reaches comes to, as a Lean function: texts of the kit's print, turned by wip/remake.py. No condition beyond what each names. -/
import Derived.Test.YtdfmobcocaijpaaQFnExactChoiceOfx4
namespace Go.Proofs.Ytdfmobcocaijpaa.QFnExactChoiceOf
open Go.RowKit Go.Proofs.YtdfmobcocaijpaaW.PrintWords Go.Proofs.YtdfmobcocaijpaaW.PrintLast Go.Proofs.YtdfmobcocaijpaaW.PrintMore
open Go.Proofs.YtdfmobcocaijpaaW.PrintWords renaming blk_frozen → QB, pw_below_drewN → QC, blk_cell → QD, below_drew1 → QE, below_alloc → QF, below_set → QJ
open Go.Proofs.YtdfmobcocaijpaaW.PrintLast renaming i64_w → QG, i32_w → QH, any_of → QI, pure_ → QK
open Go.Proofs.YtdfmobcocaijpaaW.PrintWords.Kd renaming V_alloc → QL, V_drewN → QM, V_drew → QN, C_alloc → QO, C_drewN → QP
open List renaming setIfInBounds_toArray → QR, set_cons_zero → QS, set_cons_succ → QT
open Go.Proofs.YtdfmobcocaijpaaW.PrintWords.Aside0 renaming mk → QU
attribute [local go_sem] max2_int min2_int max_two min_two max_three min_three max_four min_four   -- for this text's walks alone
set_option linter.unusedVariables false
set_option linter.unusedSimpArgs false

/-! ### impl_IsGame: function 30 -/
def impl_IsGame.f (k : Nat) (a0_0 : Int) (a0_1 : Int) (a0_2 : Bool) (a0_3 : Bool) (l0_4 : List Int) (l0_5 : List Int) (a0_6 : Int) (a0_7 : Int) (l0_8 : List (List Int)) (l0_9 : List Int) (l0_10 : List Int) (a0_11 : Int) (a0_12 : Int) (a0_13 : Int) : Option (Bool) := (impl_IsRules.f k a0_0 a0_1 a0_2 a0_3 l0_4 l0_5 a0_6 a0_7).bind fun t377 => (if t377 = true then (if (l0_8.length : Int) = a0_0 then ((impl_copyRows.f k l0_8).bind fun t378 => ((some (([l0_9, l0_10] : List (List Int)) : List (List Int))).bind fun y381 => (if t378.length + y381.length < 5864062014805 then ((impl_isWhole.f k (t378 ++ y381)).bind fun t387 => (if t387 = true then (if (l0_10.length : Int) > 0 then ((impl_InRange.f a0_11 0 (wrap64 ((l0_8.length : Int) - 1))).bind fun t388 => (if t388 = true then ((impl_InRange.f a0_12 0 a0_7).bind fun t389 => (if t389 = true then ((impl_InRange.f a0_13 0 a0_12).bind fun t390 => (some t390)) else (some false))) else (some false))) else (some false)) else (some false))) else (none)))) else (some false)) else (some false))
theorem impl_IsGame.mono : ∀ a0 a1 a2 a3 a4 a5 a6 a7 a8 a9 a10 a11 a12 a13 k, LeO (impl_IsGame.f k a0 a1 a2 a3 a4 a5 a6 a7 a8 a9 a10 a11 a12 a13) (impl_IsGame.f (k + 1) a0 a1 a2 a3 a4 a5 a6 a7 a8 a9 a10 a11 a12 a13) := by
 intro a0 a1 a2 a3 a4 a5 a6 a7 a8 a9 a10 a11 a12 a13 k
 unfold impl_IsGame.f
 repeat' first
   | (with_reducible exact impl_IsRules.mono _ _ _ _ _ _ _ _ _)
   | (with_reducible exact impl_copyRows.mono _ _)
   | (with_reducible exact impl_isWhole.mono _ _)
   | (with_reducible exact LeO.refl _)
   | (with_reducible exact LeO.none _)
   | (with_reducible refine LeO.ite ?_ ?_)
   | (with_reducible refine LeO.bind ?_ (fun _ => ?_))
   | exact impl_IsRules.mono _ _ _ _ _ _ _ _ _
   | exact impl_copyRows.mono _ _
   | exact impl_isWhole.mono _ _
   | exact LeO.none _
   | refine LeO.ite ?_ ?_
   | refine LeO.bind ?_ (fun _ => ?_)
def impl_IsGame.T1 : Bool × List (List Nat × List Nat) := (true, [([], []), ([0], [0]), ([1], [1]), ([2, 2], [2]), ([3], [3]), ([4, 3], [3, 4]), ([5, 3], [3, 5]), ([3], [3]), ([7, 3], [3, 7]), ([8, 3], [3, 8]), ([6, 9, 3], [3, 6, 9]), ([3, 10], [3, 10]), ([11, 3], [11]), ([12], [12]), ([13, 12], [12, 13]), ([14, 12, 12], [12, 14]), ([12], [12]), ([16, 12], [12, 16]), ([12], [12]), ([18, 12], [12, 18]), ([17, 19, 12], [12, 17, 19]), ([15, 20, 15, 12], [12, 15, 20]), ([21, 21, 12], [12, 21]), ([12, 22], [12, 22]), ([23, 22], [23]), ([24], [24]), ([25, 24], [24, 25]), ([26, 24], [24, 26]), ([27, 24], [24, 27]), ([24, 28], [24, 28]), ([29, 24], [29]), ([30], [30]), ([31, 30], [30, 31]), ([30], [30]), ([33, 30], [30, 33]), ([34, 30], [30, 34]), ([35, 30], [30, 35]), ([32, 36, 30, 30], [30, 32, 36]), ([30, 37], [30, 37]), ([38, 37], [38]), ([39], [39]), ([40, 39], [39, 40]), ([39], [39]), ([42, 39], [39, 42]), ([43, 39], [39, 43]), ([41, 44, 39, 39], [39, 41, 44]), ([39, 45], [39, 45]), ([46, 45], [46]), ([47], [47]), ([48, 47], [47, 48]), ([47], [47]), ([50, 47], [47, 50]), ([49, 51, 47, 47], [47, 49, 51]), ([47, 52], [47, 52]), ([53, 52, 0, 1, 2, 3, 4, 5, 6, 7, 8, 9, 10, 11, 12, 13, 14, 15, 16, 17, 18, 19, 20, 21, 22, 23, 24, 25, 26, 27, 28, 29, 30, 31, 32, 33, 34, 35, 36, 37, 38, 39, 40, 41, 42, 43, 44, 45, 46, 47, 48, 49, 50, 51, 52, 53], [53])])
def impl_IsGame.B1 : List Nat := [0, 1, 3, 7, 15, 31, 63, 15, 143, 399, 1023, 2047, 4095, 8191, 16383, 32767, 8191, 73727, 8191, 270335, 991231, 2097151, 4194303, 8388607, 16777215, 33554431, 67108863, 134217727, 268435455, 536870911, 1073741823, 2147483647, 4294967295, 2147483647, 10737418239, 27917287423, 62277025791, 137438953471, 274877906943, 549755813887, 1099511627775, 2199023255551, 1099511627775, 5497558138879, 14293651161087, 35184372088831, 70368744177663, 140737488355327, 281474976710655, 562949953421311, 281474976710655, 1407374883553279, 4503599627370495, 9007199254740991, 18014398509481983]
theorem impl_IsGame.tab1 : rtab .any (opsOf Try.f30 1) = impl_IsGame.T1 := by kernel_rfl
theorem impl_IsGame.bits1 : waitsOk impl_IsGame.T1.2 impl_IsGame.B1 = true := by kernel_rfl
set_option maxHeartbeats 8000000 in
set_option maxRecDepth 100000 in
theorem impl_IsGame.calls (k : Nat) (a0_0 : Int) (a0_1 : Int) (a0_2 : Bool) (a0_3 : Bool) (A0_4 : Option Addr) (c0_4 : Nat) (l0_4 : List Int) (A0_5 : Option Addr) (c0_5 : Nat) (l0_5 : List Int) (a0_6 : Int) (a0_7 : Int) (A0_8 : Option Addr) (c0_8 : Nat) (l0_8 : List (List Int)) (P0_9_ : Nat → Prop) (A0_9 : Option Addr) (c0_9 : Nat) (l0_9 : List Int) (P0_10_ : Nat → Prop) (A0_10 : Option Addr) (c0_10 : Nat) (l0_10 : List Int) (a0_11 : Int) (a0_12 : Int) (a0_13 : Int) (r : Bool) (w : World) (hr0_4 : Kd.C (Kd.int .i64) w A0_4 l0_4.length l0_4) (hc0_4 : l0_4.length ≤ c0_4) (hr0_5 : Kd.C (Kd.int .i64) w A0_5 l0_5.length l0_5) (hc0_5 : l0_5.length ≤ c0_5) (hr0_8 : Kd.C (Kd.slice 3 (Kd.int .i64)) w A0_8 l0_8.length l0_8) (hc0_8 : l0_8.length ≤ c0_8) (hs0_9 : Kd.V (Kd.int .i64) 3 w w.heap.size (fun k_ => P0_9_ k_) (.slice A0_9 l0_9.length c0_9) l0_9) (hs0_10 : Kd.V (Kd.int .i64) 3 w w.heap.size (fun k_ => P0_10_ k_) (.slice A0_10 l0_10.length c0_10) l0_10) (h : impl_IsGame.f k a0_0 a0_1 a0_2 a0_3 l0_4 l0_5 a0_6 a0_7 l0_8 l0_9 l0_10 a0_11 a0_12 a0_13 = some r) :
  Calls Try.prog 30 #[.agg #[.int .i64 a0_0,.int .i64 a0_1,.bool a0_2,.bool a0_3,.slice A0_4 l0_4.length c0_4,.slice A0_5 l0_5.length c0_5,.int .i64 a0_6,.int .i64 a0_7,.slice A0_8 l0_8.length c0_8,.slice A0_9 l0_9.length c0_9,.slice A0_10 l0_10.length c0_10,.int .i64 a0_11,.int .i64 a0_12,.int .i64 a0_13]] w fun e w' => e = .returned (.bool r) ∧ Below w.heap.size w w' := by
 have hu32 := Try.underlying32
 have hu30 := Try.underlying30
 have HR0_4 := QU hr0_4
 have HC0_4 := QU hc0_4
 clear hr0_4 hc0_4
 have HR0_5 := QU hr0_5
 have HC0_5 := QU hc0_5
 clear hr0_5 hc0_5
 have HR0_8 := QU hr0_8
 have HC0_8 := QU hc0_8
 clear hr0_8 hc0_8
 have HO0_9 := QU (show Kd.V (Kd.int .i64) 3 w w.heap.size (fun k_ => ((P0_9_ k_ ∨ P0_10_ k_) ∨ w.heap.size ≤ k_)) (.slice A0_9 l0_9.length c0_9) l0_9 from Kd.V_mono hs0_9 (fun k_ hk => .inl (.inl hk)))
 have HO0_10 := QU (show Kd.V (Kd.int .i64) 3 w w.heap.size (fun k_ => ((P0_9_ k_ ∨ P0_10_ k_) ∨ w.heap.size ≤ k_)) (.slice A0_10 l0_10.length c0_10) l0_10 from Kd.V_mono hs0_10 (fun k_ hk => .inl (.inr hk)))
 have HB := QU (Below.refl w.heap.size w)
 have H : ((impl_IsRules.f k a0_0 a0_1 a0_2 a0_3 l0_4 l0_5 a0_6 a0_7).bind fun t377 => (if t377 = true then (if (l0_8.length : Int) = a0_0 then ((impl_copyRows.f k l0_8).bind fun t378 => ((some (([l0_9,l0_10] : List (List Int)) : List (List Int))).bind fun y381 => (if t378.length + y381.length < 5864062014805 then ((impl_isWhole.f k (t378 ++ y381)).bind fun t387 => (if t387 = true then (if (l0_10.length : Int) > 0 then ((impl_InRange.f a0_11 0 (wrap64 ((l0_8.length : Int) - 1))).bind fun t388 => (if t388 = true then ((impl_InRange.f a0_12 0 a0_7).bind fun t389 => (if t389 = true then ((impl_InRange.f a0_13 0 a0_12).bind fun t390 => (some t390)) else (some false))) else (some false))) else (some false)) else (some false))) else (none)))) else (some false)) else (some false))) = some r := h
 clear h
 replace H := Option.bind_eq_some_iff.mp H
 obtain ⟨t377,A20,H⟩ := H
 have A2 := QU A20
 clear A20
 go_enter Try.func30,Try.ntmps30
 try go_wp2_with (first | ((with_reducible refine gate_dst (N := 1) rfl ?_); (try (refine gate_guard (by rfl) ?_; dsimp only)); refine box_event ?hg (N := 1) ?hd (cs := #[.int .i64 a0_0,.int .i64 a0_1,.bool a0_2,.bool a0_3,.slice A0_4 l0_4.length c0_4,.slice A0_5 l0_5.length c0_5,.int .i64 a0_6,.int .i64 a0_7,.slice A0_8 l0_8.length c0_8,.slice A0_9 l0_9.length c0_9,.slice A0_10 l0_10.length c0_10,.int .i64 a0_11,.int .i64 a0_12,.int .i64 a0_13]) (t := 32) ?hr ?_; (case hd => rfl); (case hg => rfl); (case hr => first | (go_simp; done) | (go_simp; rfl)); intro gb376 hg w15 hbox hb; have n0_ := QU (Kd.V_below (Kd.V_elderB (by (with_reducible repeat (first | apply QL | apply QM | apply QN)); exact HO0_9.out) gb376 (Nat.le_of_eq hg.symm)) hb); have n1_ := QU (Kd.V_below (Kd.V_elderB (by (with_reducible repeat (first | apply QL | apply QM | apply QN)); exact HO0_10.out) gb376 (Nat.le_of_eq hg.symm)) hb); have n2_ := QU (below_step (by repeat (first | (with_reducible first | exact HB.out | apply QF | apply QC | apply QE) | exact HB.out)) hb); have n3_ := QU (hbox); have n4_ := QU ((by rw [hg]; exact (below_size (by repeat (first | (with_reducible first | exact HB.out | apply QF | apply QC | apply QE) | exact HB.out))) : w.heap.size ≤ gb376)); have n5_ := QU ((by rw [hg]; exact (below_size (by repeat (first | (with_reducible first | exact HB.out | apply QF | apply QC | apply QE) | exact HB.out))) : w.heap.size ≤ gb376)); clear HO0_9; clear HO0_10; clear HB; revert n0_ n1_ n2_ n3_ n4_ n5_; intro HO0_9 HO0_10 HB BK376 GW376 GE376; clear hb hbox hg))
 have n0_ := QU (QN HO0_9.out)
 have n1_ := QU (QN HO0_10.out)
 have n2_ := QU (blk_drew BK376.out)
 have n3_ := QU (QE HB.out)
 clear HO0_9
 clear HO0_10
 clear BK376
 clear HB
 revert n0_ n1_ n2_ n3_
 intro HO0_9 HO0_10 BK376 HB
 refine start_ (n := 55) (S := fun w' => w'.cell? ⟨gb376,0,none⟩ = some (.int .i64 a0_0) ∧ w'.cell? ⟨gb376,1,none⟩ = some (.int .i64 a0_1) ∧ w'.cell? ⟨gb376,2,none⟩ = some (.bool a0_2) ∧ w'.cell? ⟨gb376,3,none⟩ = some (.bool a0_3) ∧ w'.cell? ⟨gb376,4,none⟩ = some (.slice A0_4 l0_4.length c0_4) ∧ w'.cell? ⟨gb376,5,none⟩ = some (.slice A0_5 l0_5.length c0_5) ∧ w'.cell? ⟨gb376,6,none⟩ = some (.int .i64 a0_6) ∧ w'.cell? ⟨gb376,7,none⟩ = some (.int .i64 a0_7) ∧ w'.cell? ⟨gb376,8,none⟩ = some (.slice A0_8 l0_8.length c0_8) ∧ w'.cell? ⟨gb376,9,none⟩ = some (.slice A0_9 l0_9.length c0_9) ∧ w'.cell? ⟨gb376,10,none⟩ = some (.slice A0_10 l0_10.length c0_10) ∧ w'.cell? ⟨gb376,11,none⟩ = some (.int .i64 a0_11) ∧ w'.cell? ⟨gb376,12,none⟩ = some (.int .i64 a0_12) ∧ w'.cell? ⟨gb376,13,none⟩ = some (.int .i64 a0_13)) (ds := []) (ab 55 0) (by kernel_rfl) rfl rfl ⟨(QD BK376.out 0).trans rfl,(QD BK376.out 1).trans rfl,(QD BK376.out 2).trans rfl,(QD BK376.out 3).trans rfl,(QD BK376.out 4).trans rfl,(QD BK376.out 5).trans rfl,(QD BK376.out 6).trans rfl,(QD BK376.out 7).trans rfl,(QD BK376.out 8).trans rfl,(QD BK376.out 9).trans rfl,(QD BK376.out 10).trans rfl,(QD BK376.out 11).trans rfl,(QD BK376.out 12).trans rfl,(QD BK376.out 13).trans rfl⟩ (fun hHeld => ?_); refine with_tabW impl_IsGame.tab1 impl_IsGame.bits1 (fun HT_ HW_ => ?_)
 generalize w15.drew = w16 at HO0_9 HO0_10 BK376 HB hHeld ⊢
 refine QK (i := 0) (N := some 3) (v := ?_) (a' := ?_) (ab 55 1) rfl rfl (QI HT_.out (by kernel_rfl)) (fun _ _ _ h => h) (Or.inl ⟨by rfl,?_⟩) ?_ ?_
 rotate_left
 ·intro w'
  go_simp
  with_reducible rfl
 rotate_left
 ·simp only [Act.put,QR,QS,QT,QG,QH]
  rfl
 refine take_ (i := 1) (N := some 4) (v := ?_) (a' := ?_) (ab 55 3) rfl rfl (take_ofW HT_.out HW_.out (by kernel_rfl)) (fun _ _ _ h => h) (Or.inl ⟨by rfl,?_⟩) hHeld ?_ ?_
 rotate_left
 ·rintro w' ⟨s0,s1,s2,s3,s4,s5,s6,s7,s8,s9,s10,s11,s12,s13⟩
  go_simp
  with_reducible rfl
 rotate_left
 ·simp only [Act.put,QR,QS,QT,QG,QH]
  rfl
 refine one_ (i := 2) (N := some 5) (ab 55 7) rfl rfl (one_of HT_.out (by kernel_rfl)) (by decide) (fun K hK => ?_)
 refine goes_ Try.func41 (by kernel_rfl) rfl #[.agg #[.int .i64 a0_0,.int .i64 a0_1,.bool a0_2,.bool a0_3,.slice A0_4 l0_4.length c0_4,.slice A0_5 l0_5.length c0_5,.int .i64 a0_6,.int .i64 a0_7]] (by rfl) rfl rfl (by (try simp only [List.map_toArray,List.map_cons,List.map_nil]); first | done | rfl | (simp only [List.length_drop,List.length_take]; rfl)) ?_
 with_reducible refine (impl_IsRules.calls k a0_0 a0_1 a0_2 a0_3 _ _ l0_4 _ _ l0_5 a0_6 a0_7 t377 _ ?side1 ?side2 ?side3 ?side4 A2.out).mono ?_
 (case side1 => repeat (first | exact (Kd.C_below HR0_4.out HB.out) | (with_reducible refine QO ?_ _) | (with_reducible refine QP ?_ _) | (with_reducible refine Kd.C_drew ?_)))
 (case side2 => exact HC0_4.out)
 (case side3 => repeat (first | exact (Kd.C_below HR0_5.out HB.out) | (with_reducible refine QO ?_ _) | (with_reducible refine QP ?_ _) | (with_reducible refine Kd.C_drew ?_)))
 (case side4 => exact HC0_5.out)
 rintro e w17 ⟨rfl,hb⟩
 refine ⟨_,rfl,?_⟩
 have n0_ := QU (Kd.V_below (by (with_reducible repeat (first | apply QL | apply QM | apply QN)); exact HO0_9.out) hb)
 have n1_ := QU (Kd.V_below (by (with_reducible repeat (first | apply QL | apply QM | apply QN)); exact HO0_10.out) hb)
 have n2_ := QU (blk_below (g := gb376) (o := _) (by (with_reducible repeat (first | refine blk_drewN ?_ _ | refine blk_drew ?_ | refine blk_alloc ?_ _)); exact BK376.out) hb)
 have n3_ := QU (below_step (by repeat (first | (with_reducible first | exact HB.out | apply QF | apply QC | apply QE | refine QJ ?_ GE376.out) | exact HB.out)) hb)
 clear HO0_9
 clear HO0_10
 clear BK376
 clear HB
 revert n0_ n1_ n2_ n3_
 intro HO0_9 HO0_10 BK376 HB
 (try clear hb)
 (try clear hb2)
 (try clear hk)
 (try clear hi)
 refine hK.out _ _ (by (repeat' apply And.intro) <;> first | exact (QD BK376.out _).trans rfl) (fun hHeld => ?_)
 clear hK K
 refine norm_ (a' := ?_) ?_ ?_
 rotate_left
 ·show Act.put _ (some 5) _ = _
  simp only [Act.put,QR,QS,QT,QG,QH]
  rfl
 refine QK (i := 3) (N := some 6) (v := ?_) (a' := ?_) (ab 55 15) rfl rfl (QI HT_.out (by kernel_rfl)) (fun _ _ _ h => h) (Or.inl ⟨by rfl,?_⟩) ?_ ?_
 rotate_left
 ·intro w'
  go_simp
  with_reducible rfl
 rotate_left
 ·simp only [Act.put,QR,QS,QT,QG,QH]
  rfl
 by_cases c3 : t377 = true
 ·subst c3
  rw [if_pos rfl] at H
  refine QK (i := 4) (N := some 7) (v := ?_) (a' := ?_) (ab 55 31) rfl rfl (QI HT_.out (by kernel_rfl)) (fun _ _ _ h => h) (Or.inl ⟨by rfl,?_⟩) ?_ ?_
  rotate_left
  ·intro w'
   go_simp
   with_reducible rfl
  rotate_left
  ·simp only [Act.put,QR,QS,QT,QG,QH]
   rfl
  refine QK (i := 7) (N := some 10) (v := ?_) (a' := ?_) (ab 55 159) rfl rfl (QI HT_.out (by kernel_rfl)) (fun _ _ _ h => h) (Or.inl ⟨by rfl,?_⟩) ?_ ?_
  rotate_left
  ·intro w'
   go_simp
   with_reducible rfl
  rotate_left
  ·simp only [Act.put,QR,QS,QT,QG,QH]
   rfl
  refine QK (i := 8) (N := some 11) (v := ?_) (a' := ?_) (ab 55 415) rfl rfl (QI HT_.out (by kernel_rfl)) (fun _ _ _ h => h) (Or.inl ⟨by rfl,?_⟩) ?_ ?_
  rotate_left
  ·intro w'
   go_simp
   with_reducible rfl
  rotate_left
  ·simp only [Act.put,QR,QS,QT,QG,QH]
   rfl
  refine take_ (i := 5) (N := some 8) (v := ?_) (a' := ?_) (ab 55 447) rfl rfl (take_ofW HT_.out HW_.out (by kernel_rfl)) (fun _ _ _ h => h) (Or.inl ⟨by rfl,?_⟩) hHeld ?_ ?_
  rotate_left
  ·rintro w' ⟨s0,s1,s2,s3,s4,s5,s6,s7,s8,s9,s10,s11,s12,s13⟩
   go_simp
   with_reducible rfl
  rotate_left
  ·simp only [Act.put,QR,QS,QT,QG,QH]
   rfl
  refine QK (i := 6) (N := some 9) (v := ?_) (a' := ?_) (ab 55 511) rfl rfl (QI HT_.out (by kernel_rfl)) (fun _ _ _ h => h) (Or.inl ⟨by rfl,?_⟩) ?_ ?_
  rotate_left
  ·intro w'
   go_simp
   with_reducible rfl
  rotate_left
  ·simp only [Act.put,QR,QS,QT,QG,QH]
   rfl
  refine take_ (i := 9) (N := some 12) (v := ?_) (a' := ?_) (ab 55 1023) rfl rfl (take_ofW HT_.out HW_.out (by kernel_rfl)) (fun _ _ _ h => h) (Or.inl ⟨by rfl,?_⟩) hHeld ?_ ?_
  rotate_left
  ·rintro w' ⟨s0,s1,s2,s3,s4,s5,s6,s7,s8,s9,s10,s11,s12,s13⟩
   go_simp
   with_reducible rfl
  rotate_left
  ·simp only [Act.put,QR,QS,QT,QG,QH]
   rfl
  refine QK (i := 10) (N := some 13) (v := ?_) (a' := ?_) (ab 55 2047) rfl rfl (QI HT_.out (by kernel_rfl)) (fun _ _ _ h => h) (Or.inl ⟨by rfl,?_⟩) ?_ ?_
  rotate_left
  ·intro w'
   go_simp
   with_reducible rfl
  rotate_left
  ·simp only [Act.put,QR,QS,QT,QG,QH]
   rfl
  refine QK (i := 11) (N := some 14) (v := ?_) (a' := ?_) (ab 55 4095) rfl rfl (QI HT_.out (by kernel_rfl)) (fun _ _ _ h => h) (Or.inl ⟨by rfl,?_⟩) ?_ ?_
  rotate_left
  ·intro w'
   go_simp
   with_reducible rfl
  rotate_left
  ·simp only [Act.put,QR,QS,QT,QG,QH]
   rfl
  refine QK (i := 12) (N := some 15) (v := ?_) (a' := ?_) (ab 55 8191) rfl rfl (QI HT_.out (by kernel_rfl)) (fun _ _ _ h => h) (Or.inl ⟨by rfl,?_⟩) ?_ ?_
  rotate_left
  ·intro w'
   go_simp
   with_reducible rfl
  rotate_left
  ·simp only [Act.put,QR,QS,QT,QG,QH]
   rfl
  by_cases c4 : (l0_8.length : Int) = a0_0
  ·rw [if_pos c4] at H
   have c4b0 : ((l0_8.length : Int) == a0_0) = true := beq_iff_eq.mpr c4
   have c4b1 : ((l0_8.length : Int) != a0_0) = false := bne_eq_false_iff_eq.mpr c4
   clear c4
   replace H := Option.bind_eq_some_iff.mp H
   obtain ⟨t378,A50,H⟩ := H
   have A5 := QU A50
   clear A50
   obtain ⟨y381,hy381⟩ : ∃ y_ : List (List Int),y_ = (([l0_9,l0_10] : List (List Int))) := ⟨_,rfl⟩
   replace H : (if t378.length + y381.length < 5864062014805 then ((impl_isWhole.f k (t378 ++ y381)).bind fun t387 => (if t387 = true then (if (l0_10.length : Int) > 0 then ((impl_InRange.f a0_11 0 (wrap64 ((l0_8.length : Int) - 1))).bind fun t388 => (if t388 = true then ((impl_InRange.f a0_12 0 a0_7).bind fun t389 => (if t389 = true then ((impl_InRange.f a0_13 0 a0_12).bind fun t390 => (some t390)) else (some false))) else (some false))) else (some false)) else (some false))) else (none)) = some r := by first | (rw [hy381]; with_reducible exact H) | (have H2_ := (Option.bind_some _ _).symm.trans H; rw [hy381]; with_reducible exact H2_) | (have H2_ := (Option.bind_some _ _).symm.trans H; with_reducible exact H2_) | with_reducible exact H | (rw [hy381]; exact H) | exact H
   have Ny381 := QU hy381
   clear hy381
   (try simp only [c4b0,c4b1])
   by_cases c6 : t378.length + y381.length < 5864062014805
   ·rw [if_pos c6] at H
    have LMc6 := QU c6
    clear c6
    obtain ⟨y384,hy384⟩ : ∃ y_ : List (List Int),y_ = (t378 ++ y381) := ⟨_,rfl⟩
    replace H : ((impl_isWhole.f k y384).bind fun t387 => (if t387 = true then (if (l0_10.length : Int) > 0 then ((impl_InRange.f a0_11 0 (wrap64 ((l0_8.length : Int) - 1))).bind fun t388 => (if t388 = true then ((impl_InRange.f a0_12 0 a0_7).bind fun t389 => (if t389 = true then ((impl_InRange.f a0_13 0 a0_12).bind fun t390 => (some t390)) else (some false))) else (some false))) else (some false)) else (some false))) = some r := by first | (rw [hy384]; with_reducible exact H) | (have H2_ := (Option.bind_some _ _).symm.trans H; rw [hy384]; with_reducible exact H2_) | (have H2_ := (Option.bind_some _ _).symm.trans H; with_reducible exact H2_) | with_reducible exact H | (rw [hy384]; exact H) | exact H
    have Ny384 := QU hy384
    clear hy384
    replace H := Option.bind_eq_some_iff.mp H
    obtain ⟨t387,A70,H⟩ := H
    have A7 := QU A70
    clear A70
    refine QK (i := 13) (N := some 16) (v := ?_) (a' := ?_) (ab 55 16383) rfl rfl (QI HT_.out (by kernel_rfl)) (fun _ _ _ h => h) (Or.inl ⟨by rfl,?_⟩) ?_ ?_
    rotate_left
    ·intro w'
     go_simp
     with_reducible rfl
    rotate_left
    ·simp only [Act.put,QR,QS,QT,QG,QH]
     rfl
    refine QK (i := 16) (N := some 19) (v := ?_) (a' := ?_) (ab 55 81919) rfl rfl (QI HT_.out (by kernel_rfl)) (fun _ _ _ h => h) (Or.inl ⟨by rfl,?_⟩) ?_ ?_
    rotate_left
    ·intro w'
     go_simp
     with_reducible rfl
    rotate_left
    ·simp only [Act.put,QR,QS,QT,QG,QH]
     rfl
    refine QK (i := 18) (N := some 21) (v := ?_) (a' := ?_) (ab 55 344063) rfl rfl (QI HT_.out (by kernel_rfl)) (fun _ _ _ h => h) (Or.inl ⟨by rfl,?_⟩) ?_ ?_
    rotate_left
    ·intro w'
     go_simp
     with_reducible rfl
    rotate_left
    ·simp only [Act.put,QR,QS,QT,QG,QH]
     rfl
    refine take_ (i := 14) (N := some 17) (v := ?_) (a' := ?_) (ab 55 360447) rfl rfl (take_ofW HT_.out HW_.out (by kernel_rfl)) (fun _ _ _ h => h) (Or.inl ⟨by rfl,?_⟩) hHeld ?_ ?_
    rotate_left
    ·rintro w' ⟨s0,s1,s2,s3,s4,s5,s6,s7,s8,s9,s10,s11,s12,s13⟩
     go_simp
     with_reducible rfl
    rotate_left
    ·simp only [Act.put,QR,QS,QT,QG,QH]
     rfl
    refine take_ (i := 17) (N := some 20) (v := ?_) (a' := ?_) (ab 55 491519) rfl rfl (take_ofW HT_.out HW_.out (by kernel_rfl)) (fun _ _ _ h => h) (Or.inl ⟨by rfl,?_⟩) hHeld ?_ ?_
    rotate_left
    ·rintro w' ⟨s0,s1,s2,s3,s4,s5,s6,s7,s8,s9,s10,s11,s12,s13⟩
     go_simp
     with_reducible rfl
    rotate_left
    ·simp only [Act.put,QR,QS,QT,QG,QH]
     rfl
    refine take_ (i := 19) (N := some 22) (v := ?_) (a' := ?_) (ab 55 1015807) rfl rfl (take_ofW HT_.out HW_.out (by kernel_rfl)) (fun _ _ _ h => h) (Or.inl ⟨by rfl,?_⟩) hHeld ?_ ?_
    rotate_left
    ·rintro w' ⟨s0,s1,s2,s3,s4,s5,s6,s7,s8,s9,s10,s11,s12,s13⟩
     go_simp
     with_reducible rfl
    rotate_left
    ·simp only [Act.put,QR,QS,QT,QG,QH]
     rfl
    refine join_ (σ := Value × Value) 34 (ab 55 2097151) (fun s_ => [(18,s_.1),(23,s_.2)]) (fun s_ w' => (w'.cell? ⟨gb376,0,none⟩ = some (.int .i64 a0_0) ∧ w'.cell? ⟨gb376,1,none⟩ = some (.int .i64 a0_1) ∧ w'.cell? ⟨gb376,2,none⟩ = some (.bool a0_2) ∧ w'.cell? ⟨gb376,3,none⟩ = some (.bool a0_3) ∧ w'.cell? ⟨gb376,4,none⟩ = some (.slice A0_4 l0_4.length c0_4) ∧ w'.cell? ⟨gb376,5,none⟩ = some (.slice A0_5 l0_5.length c0_5) ∧ w'.cell? ⟨gb376,6,none⟩ = some (.int .i64 a0_6) ∧ w'.cell? ⟨gb376,7,none⟩ = some (.int .i64 a0_7) ∧ w'.cell? ⟨gb376,8,none⟩ = some (.slice A0_8 l0_8.length c0_8) ∧ w'.cell? ⟨gb376,9,none⟩ = some (.slice A0_9 l0_9.length c0_9) ∧ w'.cell? ⟨gb376,10,none⟩ = some (.slice A0_10 l0_10.length c0_10) ∧ w'.cell? ⟨gb376,11,none⟩ = some (.int .i64 a0_11) ∧ w'.cell? ⟨gb376,12,none⟩ = some (.int .i64 a0_12) ∧ w'.cell? ⟨gb376,13,none⟩ = some (.int .i64 a0_13)) ∧ (Kd.V (Kd.int .i64) 3 w' w.heap.size (fun k_ => ((P0_9_ k_ ∨ P0_10_ k_) ∨ w.heap.size ≤ k_) ∧ some k_ ≠ (s_.1 : Value).ownBlock ∧ some k_ ≠ (s_.2 : Value).ownBlock ∧ k_ ≠ gb376) (.slice A0_10 l0_10.length c0_10) l0_10) ∧ (Kd.V (Kd.int .i64) 3 w' w.heap.size (fun k_ => ((P0_9_ k_ ∨ P0_10_ k_) ∨ w.heap.size ≤ k_) ∧ some k_ ≠ (s_.1 : Value).ownBlock ∧ some k_ ≠ (s_.2 : Value).ownBlock ∧ k_ ≠ gb376) (.slice A0_9 l0_9.length c0_9) l0_9) ∧ (Kd.N (Kd.slice 3 (Kd.int .i64)) 22 w' w.heap.size (fun k_ => ((P0_9_ k_ ∨ P0_10_ k_) ∨ w.heap.size ≤ k_) ∧ some k_ ≠ (s_.2 : Value).ownBlock ∧ k_ ≠ gb376) s_.1 t378) ∧ (Kd.N (Kd.slice 3 (Kd.int .i64)) 22 w' w.heap.size (fun k_ => ((P0_9_ k_ ∨ P0_10_ k_) ∨ w.heap.size ≤ k_) ∧ some k_ ≠ (s_.1 : Value).ownBlock ∧ k_ ≠ gb376) s_.2 y381) ∧ (w'.heap[gb376]? = some (.cells #[.int .i64 a0_0,.int .i64 a0_1,.bool a0_2,.bool a0_3,.slice A0_4 l0_4.length c0_4,.slice A0_5 l0_5.length c0_5,.int .i64 a0_6,.int .i64 a0_7,.slice A0_8 l0_8.length c0_8,.slice A0_9 l0_9.length c0_9,.slice A0_10 l0_10.length c0_10,.int .i64 a0_11,.int .i64 a0_12,.int .i64 a0_13] 32 (0,0))) ∧ (Below w.heap.size w w')) ?_ ?_
    rotate_left
    ·intro hCont
     refine two_ (i := 15) (j := 20) (Ni := some 18) (Nj := some 23) (ab 55 1048575) (ab 55 2064383) rfl rfl rfl rfl (two_of HT_.out (by kernel_rfl)) (by decide) (by decide) (fun K hK => ?_) (fun K hK => ?_)
     ·skip
      refine goes_ Try.func43 (by kernel_rfl) rfl #[.slice A0_8 l0_8.length c0_8] (by rfl) rfl rfl (by (try simp only [List.map_toArray,List.map_cons,List.map_nil]); first | done | rfl | (simp only [List.length_drop,List.length_take]; rfl)) ?_
      with_reducible refine (impl_copyRows.calls k _ _ l0_8 t378 _ ?side1 ?side2 A5.out).mono ?_
      (case side1 => repeat (first | exact (Kd.C_below HR0_8.out HB.out) | (with_reducible refine QO ?_ _) | (with_reducible refine QP ?_ _) | (with_reducible refine Kd.C_drew ?_)))
      (case side2 => exact HC0_8.out)
      rintro e w18 ⟨v379,rfl,ho0,hb⟩
      refine ⟨_,rfl,?_⟩
      have n0_ := QU (Kd.V_elder' (by (with_reducible repeat (first | apply QL | apply QM | apply QN)); exact HO0_9.out) (Kd.S_base ho0) hb)
      have n1_ := QU (Kd.V_elder' (by (with_reducible repeat (first | apply QL | apply QM | apply QN)); exact HO0_10.out) (Kd.S_base ho0) hb)
      have n2_ := QU (Kd.N_lower (Kd.N_mono (ok' := fun k_ => ((P0_9_ k_ ∨ P0_10_ k_) ∨ w.heap.size ≤ k_) ∧ k_ ≠ gb376) (Kd.S_N (Kd.S_bound ho0)) (fun k_ hk_ => ⟨(.inr (Nat.le_trans (below_size (by repeat (first | (with_reducible first | exact HB.out | apply QF | apply QC | apply QE | refine QJ ?_ GE376.out) | exact HB.out))) hk_.2.1)),(Kd.freshB (g := gb376) (o := _) (by (with_reducible repeat (first | refine blk_drewN ?_ _ | refine blk_drew ?_ | refine blk_alloc ?_ _)); exact BK376.out) k_ hk_.2.1)⟩)) (below_size (by repeat (first | (with_reducible first | exact HB.out | apply QF | apply QC | apply QE | refine QJ ?_ GE376.out) | exact HB.out))))
      have n3_ := QU (blk_below (g := gb376) (o := _) (by (with_reducible repeat (first | refine blk_drewN ?_ _ | refine blk_drew ?_ | refine blk_alloc ?_ _)); exact BK376.out) hb)
      have n4_ := QU (below_step (by repeat (first | (with_reducible first | exact HB.out | apply QF | apply QC | apply QE | refine QJ ?_ GE376.out) | exact HB.out)) hb)
      clear HO0_9
      clear HO0_10
      clear BK376
      clear HB
      revert n0_ n1_ n2_ n3_ n4_
      intro HO0_9 HO0_10 HO380 BK376 HB
      (try clear hb)
      (try clear hb2)
      (try clear hk)
      (try clear hi)
      (try clear ho0)
      refine hK.out _ _ (by (repeat' apply And.intro) <;> first | exact (QD BK376.out _).trans rfl) (fun hHeld => ?_)
      clear hK K
      refine norm_ (a' := ?_) ?_ ?_
      rotate_left
      ·show Act.put _ (some 18) _ = _
       simp only [Act.put,QR,QS,QT,QG,QH]
       rfl
      refine one_ (i := 20) (N := some 23) (ab 55 2097151) rfl rfl (one_of HT_.out (by kernel_rfl)) (by decide) (fun K hK => ?_)
      refine Kd.N_lit_step (Kd.slice 3 (Kd.int .i64)) _ 22 ?hg (N' := 23) ?hd (xs := ([l0_9,l0_10] : List (List Int))) (inner := [.slice A0_9 l0_9.length c0_9,.slice A0_10 l0_10.length c0_10]) (ok := (fun k_ => ((P0_9_ k_ ∨ P0_10_ k_) ∨ w.heap.size ≤ k_) ∧ some k_ ≠ (v379 : Value).ownBlock ∧ k_ ≠ gb376)) (okp := (fun k_ => ((P0_9_ k_ ∨ P0_10_ k_) ∨ w.heap.size ≤ k_) ∧ some k_ ≠ (v379 : Value).ownBlock ∧ k_ ≠ gb376)) ?hr ?hp (fun _ hk => hk) ((show ∀ k_,w18.heap.size ≤ k_ → (fun k_ => ((P0_9_ k_ ∨ P0_10_ k_) ∨ w.heap.size ≤ k_) ∧ some k_ ≠ (v379 : Value).ownBlock ∧ k_ ≠ gb376) k_ from fun k_ hk => ⟨(.inr (Nat.le_trans (below_size (by repeat (first | (with_reducible first | exact HB.out | apply QF | apply QC | apply QE | refine QJ ?_ GE376.out) | exact HB.out))) hk)),Kd.fresh' (Kd.N_lt (by (with_reducible repeat (first | apply Kd.N_alloc | apply Kd.N_drewN | apply Kd.N_drew)); exact HO380.out)) k_ hk,Kd.freshB (g := gb376) (o := _) (by (with_reducible repeat (first | refine blk_drewN ?_ _ | refine blk_drew ?_ | refine blk_alloc ?_ _)); exact BK376.out) k_ hk⟩) _ (Nat.le_refl _)) (Below.refl _ _) (Nat.le_refl _) (by simp) ?_; (case hd => rfl); (case hg => rfl); (case hr => first | (go_simp; done) | (go_simp; rfl)); (case hp => exact (Reps.one (show Kd.FK (Kd.slice 3 (Kd.int .i64)) _ _ l0_9 [.slice A0_9 l0_9.length c0_9] from (Kd.FK_slice_mk (Kd.V_reads' (Kd.V_mono (ok' := (fun k_ => ((P0_9_ k_ ∨ P0_10_ k_) ∨ w.heap.size ≤ k_) ∧ some k_ ≠ (v379 : Value).ownBlock ∧ k_ ≠ gb376)) (HO0_9.out) (fun k_ hk => ⟨hk.1.1,⟨hk.2,hk.1.2⟩⟩))).2.1 (Kd.V_F (Kd.V_mono (ok' := (fun k_ => ((P0_9_ k_ ∨ P0_10_ k_) ∨ w.heap.size ≤ k_) ∧ some k_ ≠ (v379 : Value).ownBlock ∧ k_ ≠ gb376)) (HO0_9.out) (fun k_ hk => ⟨hk.1.1,⟨hk.2,hk.1.2⟩⟩))))) (Reps.one (show Kd.FK (Kd.slice 3 (Kd.int .i64)) _ _ l0_10 [.slice A0_10 l0_10.length c0_10] from (Kd.FK_slice_mk (Kd.V_reads' (Kd.V_mono (ok' := (fun k_ => ((P0_9_ k_ ∨ P0_10_ k_) ∨ w.heap.size ≤ k_) ∧ some k_ ≠ (v379 : Value).ownBlock ∧ k_ ≠ gb376)) (HO0_10.out) (fun k_ hk => ⟨hk.1.1,⟨hk.2,hk.1.2⟩⟩))).2.1 (Kd.V_F (Kd.V_mono (ok' := (fun k_ => ((P0_9_ k_ ∨ P0_10_ k_) ∨ w.heap.size ≤ k_) ∧ some k_ ≠ (v379 : Value).ownBlock ∧ k_ ≠ gb376)) (HO0_10.out) (fun k_ hk => ⟨hk.1.1,⟨hk.2,hk.1.2⟩⟩))))) (Reps.none _ _))))
      intro v382 w19 ho20 hb hg_ hnew_
      clear hg_ hnew_
      (first | rw [← Ny381.out] at ho20 | (simp only [Int.reduceToNat] at ho20; rw [← Ny381.out] at ho20))
      have n0_ := QU (Kd.V_elder' (by (with_reducible repeat (first | apply QL | apply QM | apply QN)); exact HO0_9.out) (Kd.N_base ho20) hb)
      have n1_ := QU (Kd.V_elder' (by (with_reducible repeat (first | apply QL | apply QM | apply QN)); exact HO0_10.out) (Kd.N_base ho20) hb)
      have n2_ := QU (Kd.N_elder' (by (with_reducible repeat (first | apply Kd.N_alloc | apply Kd.N_drewN | apply Kd.N_drew)); exact HO380.out) (Kd.N_base ho20) hb)
      have n3_ := QU (Kd.N_lower ho20 (below_size (by repeat (first | (with_reducible first | exact HB.out | apply QF | apply QC | apply QE | refine QJ ?_ GE376.out) | exact HB.out))))
      have n4_ := QU (blk_below (g := gb376) (o := _) (by (with_reducible repeat (first | refine blk_drewN ?_ _ | refine blk_drew ?_ | refine blk_alloc ?_ _)); exact BK376.out) hb)
      have n5_ := QU (below_step (by repeat (first | (with_reducible first | exact HB.out | apply QF | apply QC | apply QE | refine QJ ?_ GE376.out) | exact HB.out)) hb)
      clear HO0_9
      clear HO0_10
      clear HO380
      clear BK376
      clear HB
      revert n0_ n1_ n2_ n3_ n4_ n5_
      intro HO0_9 HO0_10 HO380 HO383 BK376 HB
      clear hb ho20
      refine hK.out _ _ (by (repeat' apply And.intro) <;> first | exact (QD BK376.out _).trans rfl) (fun hHeld => ?_)
      clear hK K
      refine norm_ (a' := ?_) ?_ ?_
      rotate_left
      ·show Act.put _ (some 23) _ = _
       simp only [Act.put,QR,QS,QT,QG,QH]
       rfl
      exact norm_ (by simp only [putAll,Act.put,QR,QS,QT]) (hCont (v379,v382) _ ⟨hHeld,(by (with_reducible repeat (first | apply QL | apply QM | apply QN)); exact Kd.V_mono HO0_10.out (fun _ hk => ⟨hk.1.1.1,⟨hk.1.2,⟨hk.2,hk.1.1.2⟩⟩⟩)),(by (with_reducible repeat (first | apply QL | apply QM | apply QN)); exact Kd.V_mono HO0_9.out (fun _ hk => ⟨hk.1.1.1,⟨hk.1.2,⟨hk.2,hk.1.1.2⟩⟩⟩)),(by (with_reducible repeat (first | apply Kd.N_alloc | apply Kd.N_drewN | apply Kd.N_drew)); exact Kd.N_mono HO380.out (fun _ hk => ⟨hk.1.1,⟨hk.2,hk.1.2⟩⟩)),(by (with_reducible repeat (first | apply Kd.N_alloc | apply Kd.N_drewN | apply Kd.N_drew)); exact HO383.out),(by (with_reducible repeat (first | refine blk_drewN ?_ _ | refine blk_drew ?_ | refine blk_alloc ?_ _)); exact BK376.out),(by repeat (first | (with_reducible first | exact HB.out | apply QF | apply QC | apply QE | refine QJ ?_ GE376.out) | exact HB.out))⟩)
     ·skip
      refine Kd.N_lit_step (Kd.slice 3 (Kd.int .i64)) _ 22 ?hg (N' := 23) ?hd (xs := ([l0_9,l0_10] : List (List Int))) (inner := [.slice A0_9 l0_9.length c0_9,.slice A0_10 l0_10.length c0_10]) (ok := (fun k_ => ((P0_9_ k_ ∨ P0_10_ k_) ∨ w.heap.size ≤ k_) ∧ k_ ≠ gb376)) (okp := (fun k_ => ((P0_9_ k_ ∨ P0_10_ k_) ∨ w.heap.size ≤ k_) ∧ k_ ≠ gb376)) ?hr ?hp (fun _ hk => hk) ((show ∀ k_,w17.heap.size ≤ k_ → (fun k_ => ((P0_9_ k_ ∨ P0_10_ k_) ∨ w.heap.size ≤ k_) ∧ k_ ≠ gb376) k_ from fun k_ hk => ⟨(.inr (Nat.le_trans (below_size (by repeat (first | (with_reducible first | exact HB.out | apply QF | apply QC | apply QE | refine QJ ?_ GE376.out) | exact HB.out))) hk)),Kd.freshB (g := gb376) (o := _) (by (with_reducible repeat (first | refine blk_drewN ?_ _ | refine blk_drew ?_ | refine blk_alloc ?_ _)); exact BK376.out) k_ hk⟩) _ (Nat.le_refl _)) (Below.refl _ _) (Nat.le_refl _) (by simp) ?_; (case hd => rfl); (case hg => rfl); (case hr => first | (go_simp; done) | (go_simp; rfl)); (case hp => exact (Reps.one (show Kd.FK (Kd.slice 3 (Kd.int .i64)) _ _ l0_9 [.slice A0_9 l0_9.length c0_9] from (Kd.FK_slice_mk (Kd.V_reads' (Kd.V_mono (ok' := (fun k_ => ((P0_9_ k_ ∨ P0_10_ k_) ∨ w.heap.size ≤ k_) ∧ k_ ≠ gb376)) (HO0_9.out) (fun k_ hk => ⟨hk.1,hk.2⟩))).2.1 (Kd.V_F (Kd.V_mono (ok' := (fun k_ => ((P0_9_ k_ ∨ P0_10_ k_) ∨ w.heap.size ≤ k_) ∧ k_ ≠ gb376)) (HO0_9.out) (fun k_ hk => ⟨hk.1,hk.2⟩))))) (Reps.one (show Kd.FK (Kd.slice 3 (Kd.int .i64)) _ _ l0_10 [.slice A0_10 l0_10.length c0_10] from (Kd.FK_slice_mk (Kd.V_reads' (Kd.V_mono (ok' := (fun k_ => ((P0_9_ k_ ∨ P0_10_ k_) ∨ w.heap.size ≤ k_) ∧ k_ ≠ gb376)) (HO0_10.out) (fun k_ hk => ⟨hk.1,hk.2⟩))).2.1 (Kd.V_F (Kd.V_mono (ok' := (fun k_ => ((P0_9_ k_ ∨ P0_10_ k_) ∨ w.heap.size ≤ k_) ∧ k_ ≠ gb376)) (HO0_10.out) (fun k_ hk => ⟨hk.1,hk.2⟩))))) (Reps.none _ _))))
      intro v382 w18 ho19 hb hg_ hnew_
      clear hg_ hnew_
      (first | rw [← Ny381.out] at ho19 | (simp only [Int.reduceToNat] at ho19; rw [← Ny381.out] at ho19))
      have n0_ := QU (Kd.V_elder' (by (with_reducible repeat (first | apply QL | apply QM | apply QN)); exact HO0_9.out) (Kd.N_base ho19) hb)
      have n1_ := QU (Kd.V_elder' (by (with_reducible repeat (first | apply QL | apply QM | apply QN)); exact HO0_10.out) (Kd.N_base ho19) hb)
      have n2_ := QU (Kd.N_lower ho19 (below_size (by repeat (first | (with_reducible first | exact HB.out | apply QF | apply QC | apply QE | refine QJ ?_ GE376.out) | exact HB.out))))
      have n3_ := QU (blk_below (g := gb376) (o := _) (by (with_reducible repeat (first | refine blk_drewN ?_ _ | refine blk_drew ?_ | refine blk_alloc ?_ _)); exact BK376.out) hb)
      have n4_ := QU (below_step (by repeat (first | (with_reducible first | exact HB.out | apply QF | apply QC | apply QE | refine QJ ?_ GE376.out) | exact HB.out)) hb)
      clear HO0_9
      clear HO0_10
      clear BK376
      clear HB
      revert n0_ n1_ n2_ n3_ n4_
      intro HO0_9 HO0_10 HO383 BK376 HB
      clear hb ho19
      refine hK.out _ _ (by (repeat' apply And.intro) <;> first | exact (QD BK376.out _).trans rfl) (fun hHeld => ?_)
      clear hK K
      refine norm_ (a' := ?_) ?_ ?_
      rotate_left
      ·show Act.put _ (some 23) _ = _
       simp only [Act.put,QR,QS,QT,QG,QH]
       rfl
      refine one_ (i := 15) (N := some 18) (ab 55 2097151) rfl rfl (one_of HT_.out (by kernel_rfl)) (by decide) (fun K hK => ?_)
      refine goes_ Try.func43 (by kernel_rfl) rfl #[.slice A0_8 l0_8.length c0_8] (by rfl) rfl rfl (by (try simp only [List.map_toArray,List.map_cons,List.map_nil]); first | done | rfl | (simp only [List.length_drop,List.length_take]; rfl)) ?_
      with_reducible refine (impl_copyRows.calls k _ _ l0_8 t378 _ ?side1 ?side2 A5.out).mono ?_
      (case side1 => repeat (first | exact (Kd.C_below HR0_8.out HB.out) | (with_reducible refine QO ?_ _) | (with_reducible refine QP ?_ _) | (with_reducible refine Kd.C_drew ?_)))
      (case side2 => exact HC0_8.out)
      rintro e w20 ⟨v379,rfl,ho0,hb⟩
      refine ⟨_,rfl,?_⟩
      have n0_ := QU (Kd.V_elder' (by (with_reducible repeat (first | apply QL | apply QM | apply QN)); exact HO0_9.out) (Kd.S_base ho0) hb)
      have n1_ := QU (Kd.V_elder' (by (with_reducible repeat (first | apply QL | apply QM | apply QN)); exact HO0_10.out) (Kd.S_base ho0) hb)
      have n2_ := QU (Kd.N_elder' (by (with_reducible repeat (first | apply Kd.N_alloc | apply Kd.N_drewN | apply Kd.N_drew)); exact HO383.out) (Kd.S_base ho0) hb)
      have n3_ := QU (Kd.N_lower (Kd.N_mono (ok' := fun k_ => ((P0_9_ k_ ∨ P0_10_ k_) ∨ w.heap.size ≤ k_) ∧ some k_ ≠ (v382 : Value).ownBlock ∧ k_ ≠ gb376) (Kd.S_N (Kd.S_bound ho0)) (fun k_ hk_ => ⟨(.inr (Nat.le_trans (below_size (by repeat (first | (with_reducible first | exact HB.out | apply QF | apply QC | apply QE | refine QJ ?_ GE376.out) | exact HB.out))) hk_.2.1)),(Kd.fresh' (Kd.N_lt (by (with_reducible repeat (first | apply Kd.N_alloc | apply Kd.N_drewN | apply Kd.N_drew)); exact HO383.out)) k_ hk_.2.1),(Kd.freshB (g := gb376) (o := _) (by (with_reducible repeat (first | refine blk_drewN ?_ _ | refine blk_drew ?_ | refine blk_alloc ?_ _)); exact BK376.out) k_ hk_.2.1)⟩)) (below_size (by repeat (first | (with_reducible first | exact HB.out | apply QF | apply QC | apply QE | refine QJ ?_ GE376.out) | exact HB.out))))
      have n4_ := QU (blk_below (g := gb376) (o := _) (by (with_reducible repeat (first | refine blk_drewN ?_ _ | refine blk_drew ?_ | refine blk_alloc ?_ _)); exact BK376.out) hb)
      have n5_ := QU (below_step (by repeat (first | (with_reducible first | exact HB.out | apply QF | apply QC | apply QE | refine QJ ?_ GE376.out) | exact HB.out)) hb)
      clear HO0_9
      clear HO0_10
      clear HO383
      clear BK376
      clear HB
      revert n0_ n1_ n2_ n3_ n4_ n5_
      intro HO0_9 HO0_10 HO383 HO380 BK376 HB
      (try clear hb)
      (try clear hb2)
      (try clear hk)
      (try clear hi)
      (try clear ho0)
      refine hK.out _ _ (by (repeat' apply And.intro) <;> first | exact (QD BK376.out _).trans rfl) (fun hHeld => ?_)
      clear hK K
      refine norm_ (a' := ?_) ?_ ?_
      rotate_left
      ·show Act.put _ (some 18) _ = _
       simp only [Act.put,QR,QS,QT,QG,QH]
       rfl
      exact norm_ (by simp only [putAll,Act.put,QR,QS,QT]) (hCont (v379,v382) _ ⟨hHeld,(by (with_reducible repeat (first | apply QL | apply QM | apply QN)); exact Kd.V_mono HO0_10.out (fun _ hk => ⟨hk.1.1.1,⟨hk.2,⟨hk.1.2,hk.1.1.2⟩⟩⟩)),(by (with_reducible repeat (first | apply QL | apply QM | apply QN)); exact Kd.V_mono HO0_9.out (fun _ hk => ⟨hk.1.1.1,⟨hk.2,⟨hk.1.2,hk.1.1.2⟩⟩⟩)),(by (with_reducible repeat (first | apply Kd.N_alloc | apply Kd.N_drewN | apply Kd.N_drew)); exact HO380.out),(by (with_reducible repeat (first | apply Kd.N_alloc | apply Kd.N_drewN | apply Kd.N_drew)); exact Kd.N_mono HO383.out (fun _ hk => ⟨hk.1.1,⟨hk.2,hk.1.2⟩⟩)),(by (with_reducible repeat (first | refine blk_drewN ?_ _ | refine blk_drew ?_ | refine blk_alloc ?_ _)); exact BK376.out),(by repeat (first | (with_reducible first | exact HB.out | apply QF | apply QC | apply QE | refine QJ ?_ GE376.out) | exact HB.out))⟩)
    rintro ⟨v379,v382⟩ w21 ⟨hS_,h0_,h1_,h2_,h3_,h4_,h5_⟩
    have n0_ : Aside0 (Kd.V (Kd.int .i64) 3 w21 w.heap.size (fun k_ => ((P0_9_ k_ ∨ P0_10_ k_) ∨ w.heap.size ≤ k_) ∧ some k_ ≠ (v379 : Value).ownBlock ∧ some k_ ≠ (v382 : Value).ownBlock ∧ k_ ≠ gb376) (.slice A0_10 l0_10.length c0_10) l0_10) := ⟨h0_⟩
    have n1_ : Aside0 (Kd.V (Kd.int .i64) 3 w21 w.heap.size (fun k_ => ((P0_9_ k_ ∨ P0_10_ k_) ∨ w.heap.size ≤ k_) ∧ some k_ ≠ (v379 : Value).ownBlock ∧ some k_ ≠ (v382 : Value).ownBlock ∧ k_ ≠ gb376) (.slice A0_9 l0_9.length c0_9) l0_9) := ⟨h1_⟩
    have n2_ : Aside0 (Kd.N (Kd.slice 3 (Kd.int .i64)) 22 w21 w.heap.size (fun k_ => ((P0_9_ k_ ∨ P0_10_ k_) ∨ w.heap.size ≤ k_) ∧ some k_ ≠ (v382 : Value).ownBlock ∧ k_ ≠ gb376) v379 t378) := ⟨h2_⟩
    have n3_ : Aside0 (Kd.N (Kd.slice 3 (Kd.int .i64)) 22 w21 w.heap.size (fun k_ => ((P0_9_ k_ ∨ P0_10_ k_) ∨ w.heap.size ≤ k_) ∧ some k_ ≠ (v379 : Value).ownBlock ∧ k_ ≠ gb376) v382 y381) := ⟨h3_⟩
    have n4_ : Aside0 (w21.heap[gb376]? = some (.cells #[.int .i64 a0_0,.int .i64 a0_1,.bool a0_2,.bool a0_3,.slice A0_4 l0_4.length c0_4,.slice A0_5 l0_5.length c0_5,.int .i64 a0_6,.int .i64 a0_7,.slice A0_8 l0_8.length c0_8,.slice A0_9 l0_9.length c0_9,.slice A0_10 l0_10.length c0_10,.int .i64 a0_11,.int .i64 a0_12,.int .i64 a0_13] 32 (0,0))) := ⟨h4_⟩
    have n5_ : Aside0 (Below w.heap.size w w21) := ⟨h5_⟩
    clear HO0_9
    clear HO0_10
    clear BK376
    clear HB
    clear h0_ h1_ h2_ h3_ h4_ h5_
    revert n0_ n1_ n2_ n3_ n4_ n5_
    intro HO0_10 HO0_9 HO380 HO383 BK376 HB
    have hHeld : w21.cell? ⟨gb376,0,none⟩ = some (.int .i64 a0_0) ∧ w21.cell? ⟨gb376,1,none⟩ = some (.int .i64 a0_1) ∧ w21.cell? ⟨gb376,2,none⟩ = some (.bool a0_2) ∧ w21.cell? ⟨gb376,3,none⟩ = some (.bool a0_3) ∧ w21.cell? ⟨gb376,4,none⟩ = some (.slice A0_4 l0_4.length c0_4) ∧ w21.cell? ⟨gb376,5,none⟩ = some (.slice A0_5 l0_5.length c0_5) ∧ w21.cell? ⟨gb376,6,none⟩ = some (.int .i64 a0_6) ∧ w21.cell? ⟨gb376,7,none⟩ = some (.int .i64 a0_7) ∧ w21.cell? ⟨gb376,8,none⟩ = some (.slice A0_8 l0_8.length c0_8) ∧ w21.cell? ⟨gb376,9,none⟩ = some (.slice A0_9 l0_9.length c0_9) ∧ w21.cell? ⟨gb376,10,none⟩ = some (.slice A0_10 l0_10.length c0_10) ∧ w21.cell? ⟨gb376,11,none⟩ = some (.int .i64 a0_11) ∧ w21.cell? ⟨gb376,12,none⟩ = some (.int .i64 a0_12) ∧ w21.cell? ⟨gb376,13,none⟩ = some (.int .i64 a0_13) := hS_
    obtain ⟨Ao23,co23,eo23⟩ := Kd.N_slice HO383.out
    (first | subst eo23 | (injection eo23 with f1_ f2_ f3_; have f4_ := f1_.symm; have f5_ := f3_.symm; clear f1_ f2_ f3_; subst f4_; subst f5_))
    refine norm_ (a' := ?_) ?_ ?_
    rotate_left
    ·simp only [putAll,Act.put,QR,QS,QT]
     rfl
    refine one_ (i := 21) (N := some 24) (ab 55 4194303) rfl rfl (one_of HT_.out (by kernel_rfl)) (by decide) (fun K hK => ?_)
    refine Kd.N_append_rows_step (Kd.slice 3 (Kd.int .i64)) (w0 := w) w.heap.size (by rfl) (.tmp 18) (.tmp 23) 25 22 (.slice none 0 0) 24 rfl Try.underlying25 info22 rfl (by decide) (by omega) v379 t378 y381 _ _ _ (fun k_ => ((P0_9_ k_ ∨ P0_10_ k_) ∨ w.heap.size ≤ k_) ∧ k_ ≠ gb376) (fun k_ => ((fun k_ => ((P0_9_ k_ ∨ P0_10_ k_) ∨ w.heap.size ≤ k_) ∧ k_ ≠ gb376)) k_ ∧ some k_ ≠ (v379 : Value).ownBlock) rfl rfl ?aO ?aR (fun _ hk => hk) ?aF ?aB ?aS ?aL ?_
    (case aR => exact (by skip; exact Kd.N_F (Kd.N_mono (ok' := (fun k_ => ((fun k_ => ((P0_9_ k_ ∨ P0_10_ k_) ∨ w.heap.size ≤ k_) ∧ k_ ≠ gb376)) k_ ∧ some k_ ≠ (v379 : Value).ownBlock)) (HO383.out) (fun k_ hk => ⟨⟨hk.1,hk.2.2⟩,hk.2.1⟩))))
    (case aB => exact (by repeat (first | (with_reducible first | exact HB.out | apply QF | apply QC | apply QE | refine QJ ?_ GE376.out) | exact HB.out)))
    (case aF => exact (fun k_ hk => ⟨(.inr (Nat.le_trans (below_size (by repeat (first | (with_reducible first | exact HB.out | apply QF | apply QC | apply QE | refine QJ ?_ GE376.out) | exact HB.out))) hk)),Kd.freshB (g := gb376) (o := _) (by (with_reducible repeat (first | refine blk_drewN ?_ _ | refine blk_drew ?_ | refine blk_alloc ?_ _)); exact BK376.out) k_ hk⟩))
    (case aO => exact (by (with_reducible repeat (first | apply Kd.N_alloc | apply Kd.N_drewN | apply Kd.N_drew)); exact Kd.N_mono HO380.out (fun _ hk => ⟨hk.1,hk.2.2⟩)))
    (case aS => exact (below_size (by repeat (first | (with_reducible first | exact HB.out | apply QF | apply QC | apply QE | refine QJ ?_ GE376.out) | exact HB.out))))
    (case aL => have := LMc6.out; omega)
    intro v385 w22 ho hb hg hat
    rw [← Ny384.out] at ho
    have n0_ := QU (Kd.V_afterv (ok := (fun k_ => ((P0_9_ k_ ∨ P0_10_ k_) ∨ w.heap.size ≤ k_) ∧ some k_ ≠ (.slice Ao23 y381.length co23 : Value).ownBlock ∧ k_ ≠ gb376)) (by (with_reducible repeat (first | apply QL | apply QM | apply QN)); exact Kd.V_mono HO0_9.out (fun _ hk => ⟨⟨hk.1,⟨hk.2.2.1,hk.2.2.2⟩⟩,hk.2.1⟩)) hg hat)
    have n1_ := QU (Kd.V_afterv (ok := (fun k_ => ((P0_9_ k_ ∨ P0_10_ k_) ∨ w.heap.size ≤ k_) ∧ some k_ ≠ (.slice Ao23 y381.length co23 : Value).ownBlock ∧ k_ ≠ gb376)) (by (with_reducible repeat (first | apply QL | apply QM | apply QN)); exact Kd.V_mono HO0_10.out (fun _ hk => ⟨⟨hk.1,⟨hk.2.2.1,hk.2.2.2⟩⟩,hk.2.1⟩)) hg hat)
    have n2_ := QU (blk_grown (g := gb376) (o := _) (by (with_reducible repeat (first | refine blk_drewN ?_ _ | refine blk_drew ?_ | refine blk_alloc ?_ _)); exact BK376.out) hg (Kd.N_ne HO380.out BK376.out (by decide)))
    have n3_ := QU (Kd.N_afterv (ok := (fun k_ => ((P0_9_ k_ ∨ P0_10_ k_) ∨ w.heap.size ≤ k_) ∧ k_ ≠ gb376)) (by (with_reducible repeat (first | apply Kd.N_alloc | apply Kd.N_drewN | apply Kd.N_drew)); exact Kd.N_mono HO383.out (fun _ hk => ⟨⟨hk.1,hk.2.2⟩,hk.2.1⟩)) hg hat)
    have n4_ := QU (hb)
    have n5_ := QU (ho)
    clear HO0_9
    clear HO0_10
    clear BK376
    clear HO383
    clear HB
    clear HO380
    revert n0_ n1_ n2_ n3_ n4_ n5_
    intro HO0_9 HO0_10 BK376 HO383 HB HO386
    clear ho hb hg hat
    obtain ⟨Ao24,co24,eo24⟩ := Kd.N_slice HO386.out
    (first | subst eo24 | (injection eo24 with f1_ f2_ f3_; have f4_ := f1_.symm; have f5_ := f3_.symm; clear f1_ f2_ f3_; subst f4_; subst f5_))
    refine hK.out _ _ (by (repeat' apply And.intro) <;> first | exact (QD BK376.out _).trans rfl) (fun hHeld => ?_)
    clear hK K
    refine norm_ (a' := ?_) ?_ ?_
    rotate_left
    ·show Act.put _ (some 24) _ = _
     simp only [Act.put,QR,QS,QT,QG,QH]
     rfl
    refine one_ (i := 22) (N := some 25) (ab 55 8388607) rfl rfl (one_of HT_.out (by kernel_rfl)) (by decide) (fun K hK => ?_)
    refine goes_ Try.func42 (by kernel_rfl) rfl #[.slice Ao24 y384.length co24] (by rfl) rfl rfl (by (try simp only [List.map_toArray,List.map_cons,List.map_nil]); first | done | rfl | (simp only [List.length_drop,List.length_take]; rfl)) ?_
    with_reducible refine (impl_isWhole.calls k _ _ y384 t387 _ ?side1 ?side2 A7.out).mono ?_
    (case side1 => repeat (first | exact (Kd.N_reads' HO386.out).2.2 | (with_reducible refine QO ?_ _) | (with_reducible refine QP ?_ _) | (with_reducible refine Kd.C_drew ?_)))
    (case side2 => exact (Kd.N_reads' HO386.out).2.1)
    rintro e w25 ⟨rfl,hb⟩
    refine ⟨_,rfl,?_⟩
    have n0_ := QU (Kd.V_below (by (with_reducible repeat (first | apply QL | apply QM | apply QN)); exact HO0_9.out) hb)
    have n1_ := QU (Kd.V_below (by (with_reducible repeat (first | apply QL | apply QM | apply QN)); exact HO0_10.out) hb)
    have n2_ := QU (Kd.N_below (by (with_reducible repeat (first | apply Kd.N_alloc | apply Kd.N_drewN | apply Kd.N_drew)); exact HO383.out) hb)
    have n3_ := QU (Kd.N_below (by (with_reducible repeat (first | apply Kd.N_alloc | apply Kd.N_drewN | apply Kd.N_drew)); exact HO386.out) hb)
    have n4_ := QU (blk_below (g := gb376) (o := _) (by (with_reducible repeat (first | refine blk_drewN ?_ _ | refine blk_drew ?_ | refine blk_alloc ?_ _)); exact BK376.out) hb)
    have n5_ := QU (below_step (by repeat (first | (with_reducible first | exact HB.out | apply QF | apply QC | apply QE | refine QJ ?_ GE376.out) | exact HB.out)) hb)
    clear HO0_9
    clear HO0_10
    clear HO383
    clear HO386
    clear BK376
    clear HB
    revert n0_ n1_ n2_ n3_ n4_ n5_
    intro HO0_9 HO0_10 HO383 HO386 BK376 HB
    (try clear hb)
    (try clear hb2)
    (try clear hk)
    (try clear hi)
    refine hK.out _ _ (by (repeat' apply And.intro) <;> first | exact (QD BK376.out _).trans rfl) (fun hHeld => ?_)
    clear hK K
    refine norm_ (a' := ?_) ?_ ?_
    rotate_left
    ·show Act.put _ (some 25) _ = _
     simp only [Act.put,QR,QS,QT,QG,QH]
     rfl
    refine QK (i := 23) (N := some 26) (v := ?_) (a' := ?_) (ab 55 16777215) rfl rfl (QI HT_.out (by kernel_rfl)) (fun _ _ _ h => h) (Or.inl ⟨by rfl,?_⟩) ?_ ?_
    rotate_left
    ·intro w'
     go_simp
     with_reducible rfl
    rotate_left
    ·simp only [Act.put,QR,QS,QT,QG,QH]
     rfl
    refine QK (i := 24) (N := some 27) (v := ?_) (a' := ?_) (ab 55 33554431) rfl rfl (QI HT_.out (by kernel_rfl)) (fun _ _ _ h => h) (Or.inl ⟨by rfl,?_⟩) ?_ ?_
    rotate_left
    ·intro w'
     go_simp
     with_reducible rfl
    rotate_left
    ·simp only [Act.put,QR,QS,QT,QG,QH]
     rfl
    by_cases c8 : t387 = true
    ·subst c8
     rw [if_pos rfl] at H
     refine QK (i := 25) (N := some 28) (v := ?_) (a' := ?_) (ab 55 67108863) rfl rfl (QI HT_.out (by kernel_rfl)) (fun _ _ _ h => h) (Or.inl ⟨by rfl,?_⟩) ?_ ?_
     rotate_left
     ·intro w'
      go_simp
      with_reducible rfl
     rotate_left
     ·simp only [Act.put,QR,QS,QT,QG,QH]
      rfl
     refine take_ (i := 26) (N := some 29) (v := ?_) (a' := ?_) (ab 55 134217727) rfl rfl (take_ofW HT_.out HW_.out (by kernel_rfl)) (fun _ _ _ h => h) (Or.inl ⟨by rfl,?_⟩) hHeld ?_ ?_
     rotate_left
     ·rintro w' ⟨s0,s1,s2,s3,s4,s5,s6,s7,s8,s9,s10,s11,s12,s13⟩
      go_simp
      with_reducible rfl
     rotate_left
     ·simp only [Act.put,QR,QS,QT,QG,QH]
      rfl
     refine QK (i := 27) (N := some 30) (v := ?_) (a' := ?_) (ab 55 268435455) rfl rfl (QI HT_.out (by kernel_rfl)) (fun _ _ _ h => h) (Or.inl ⟨by rfl,?_⟩) ?_ ?_
     rotate_left
     ·intro w'
      go_simp
      with_reducible rfl
     rotate_left
     ·simp only [Act.put,QR,QS,QT,QG,QH]
      rfl
     refine QK (i := 28) (N := some 31) (v := ?_) (a' := ?_) (ab 55 536870911) rfl rfl (QI HT_.out (by kernel_rfl)) (fun _ _ _ h => h) (Or.inl ⟨by rfl,?_⟩) ?_ ?_
     rotate_left
     ·intro w'
      go_simp
      with_reducible rfl
     rotate_left
     ·simp only [Act.put,QR,QS,QT,QG,QH]
      rfl
     refine QK (i := 29) (N := some 32) (v := ?_) (a' := ?_) (ab 55 1073741823) rfl rfl (QI HT_.out (by kernel_rfl)) (fun _ _ _ h => h) (Or.inl ⟨by rfl,?_⟩) ?_ ?_
     rotate_left
     ·intro w'
      go_simp
      with_reducible rfl
     rotate_left
     ·simp only [Act.put,QR,QS,QT,QG,QH]
      rfl
     refine QK (i := 30) (N := some 33) (v := ?_) (a' := ?_) (ab 55 2147483647) rfl rfl (QI HT_.out (by kernel_rfl)) (fun _ _ _ h => h) (Or.inl ⟨by rfl,?_⟩) ?_ ?_
     rotate_left
     ·intro w'
      go_simp
      with_reducible rfl
     rotate_left
     ·simp only [Act.put,QR,QS,QT,QG,QH]
      rfl
     by_cases c9 : (l0_10.length : Int) > 0
     ·rw [if_pos c9] at H
      have c9b0 : decide (0 < (l0_10.length : Int)) = true := decide_eq_true c9
      have c9b1 : decide (0 < l0_10.length) = true := decide_eq_true (by omega)
      clear c9
      replace H := Option.bind_eq_some_iff.mp H
      obtain ⟨t388,A100,H⟩ := H
      have A10 := QU A100
      clear A100
      (try simp only [c9b0,c9b1])
      refine QK (i := 31) (N := some 34) (v := ?_) (a' := ?_) (ab 55 4294967295) rfl rfl (QI HT_.out (by kernel_rfl)) (fun _ _ _ h => h) (Or.inl ⟨by rfl,?_⟩) ?_ ?_
      rotate_left
      ·intro w'
       go_simp
       with_reducible rfl
      rotate_left
      ·simp only [Act.put,QR,QS,QT,QG,QH]
       rfl
      refine QK (i := 33) (N := some 36) (v := ?_) (a' := ?_) (ab 55 12884901887) rfl rfl (QI HT_.out (by kernel_rfl)) (fun _ _ _ h => h) (Or.inl ⟨by rfl,?_⟩) ?_ ?_
      rotate_left
      ·intro w'
       go_simp
       with_reducible rfl
      rotate_left
      ·simp only [Act.put,QR,QS,QT,QG,QH]
       rfl
      refine take_ (i := 32) (N := some 35) (v := ?_) (a' := ?_) (ab 55 17179869183) rfl rfl (take_ofW HT_.out HW_.out (by kernel_rfl)) (fun _ _ _ h => h) (Or.inl ⟨by rfl,?_⟩) hHeld ?_ ?_
      rotate_left
      ·rintro w' ⟨s0,s1,s2,s3,s4,s5,s6,s7,s8,s9,s10,s11,s12,s13⟩
       go_simp
       with_reducible rfl
      rotate_left
      ·simp only [Act.put,QR,QS,QT,QG,QH]
       rfl
      refine take_ (i := 34) (N := some 37) (v := ?_) (a' := ?_) (ab 55 34359738367) rfl rfl (take_ofW HT_.out HW_.out (by kernel_rfl)) (fun _ _ _ h => h) (Or.inl ⟨by rfl,?_⟩) hHeld ?_ ?_
      rotate_left
      ·rintro w' ⟨s0,s1,s2,s3,s4,s5,s6,s7,s8,s9,s10,s11,s12,s13⟩
       go_simp
       with_reducible rfl
      rotate_left
      ·simp only [Act.put,QR,QS,QT,QG,QH]
       rfl
      refine QK (i := 35) (N := some 38) (v := ?_) (a' := ?_) (ab 55 68719476735) rfl rfl (QI HT_.out (by kernel_rfl)) (fun _ _ _ h => h) (Or.inl ⟨by rfl,?_⟩) ?_ ?_
      rotate_left
      ·intro w'
       go_simp
       with_reducible rfl
      rotate_left
      ·simp only [Act.put,QR,QS,QT,QG,QH]
       rfl
      refine QK (i := 36) (N := some 39) (v := ?_) (a' := ?_) (ab 55 137438953471) rfl rfl (QI HT_.out (by kernel_rfl)) (fun _ _ _ h => h) (Or.inl ⟨by rfl,?_⟩) ?_ ?_
      rotate_left
      ·intro w'
       go_simp
       with_reducible rfl
      rotate_left
      ·simp only [Act.put,QR,QS,QT,QG,QH]
       rfl
      refine one_ (i := 37) (N := some 40) (ab 55 274877906943) rfl rfl (one_of HT_.out (by kernel_rfl)) (by decide) (fun K hK => ?_)
      refine goes_ Try.func44 (by kernel_rfl) rfl #[.int .i64 a0_11,.int .i64 0,.int .i64 (wrap64 ((l0_8.length : Int) - 1))] (by rfl) rfl rfl (by (try simp only [List.map_toArray,List.map_cons,List.map_nil]); first | done | rfl | (simp only [List.length_drop,List.length_take]; rfl)) ?_
      with_reducible refine (impl_InRange.calls a0_11 0 (wrap64 ((l0_8.length : Int) - 1)) t388 _ A10.out).mono ?_
      rintro e w' ⟨rfl,⟨nd,rfl⟩⟩
      refine ⟨_,rfl,?_⟩
      refine hK.out _ _ (by (repeat' apply And.intro) <;> first | exact (QD BK376.out _).trans rfl) (fun hHeld => ?_)
      clear hK K
      refine norm_ (a' := ?_) ?_ ?_
      rotate_left
      ·show Act.put _ (some 40) _ = _
       simp only [Act.put,QR,QS,QT,QG,QH]
       rfl
      refine QK (i := 38) (N := some 41) (v := ?_) (a' := ?_) (ab 55 549755813887) rfl rfl (QI HT_.out (by kernel_rfl)) (fun _ _ _ h => h) (Or.inl ⟨by rfl,?_⟩) ?_ ?_
      rotate_left
      ·intro w'
       go_simp
       with_reducible rfl
      rotate_left
      ·simp only [Act.put,QR,QS,QT,QG,QH]
       rfl
      refine QK (i := 39) (N := some 42) (v := ?_) (a' := ?_) (ab 55 1099511627775) rfl rfl (QI HT_.out (by kernel_rfl)) (fun _ _ _ h => h) (Or.inl ⟨by rfl,?_⟩) ?_ ?_
      rotate_left
      ·intro w'
       go_simp
       with_reducible rfl
      rotate_left
      ·simp only [Act.put,QR,QS,QT,QG,QH]
       rfl
      by_cases c11 : t388 = true
      ·subst c11
       rw [if_pos rfl] at H
       replace H := Option.bind_eq_some_iff.mp H
       obtain ⟨t389,A120,H⟩ := H
       have A12 := QU A120
       clear A120
       refine QK (i := 40) (N := some 43) (v := ?_) (a' := ?_) (ab 55 2199023255551) rfl rfl (QI HT_.out (by kernel_rfl)) (fun _ _ _ h => h) (Or.inl ⟨by rfl,?_⟩) ?_ ?_
       rotate_left
       ·intro w'
        go_simp
        with_reducible rfl
       rotate_left
       ·simp only [Act.put,QR,QS,QT,QG,QH]
        rfl
       refine QK (i := 42) (N := some 45) (v := ?_) (a' := ?_) (ab 55 6597069766655) rfl rfl (QI HT_.out (by kernel_rfl)) (fun _ _ _ h => h) (Or.inl ⟨by rfl,?_⟩) ?_ ?_
       rotate_left
       ·intro w'
        go_simp
        with_reducible rfl
       rotate_left
       ·simp only [Act.put,QR,QS,QT,QG,QH]
        rfl
       refine QK (i := 43) (N := some 46) (v := ?_) (a' := ?_) (ab 55 15393162788863) rfl rfl (QI HT_.out (by kernel_rfl)) (fun _ _ _ h => h) (Or.inl ⟨by rfl,?_⟩) ?_ ?_
       rotate_left
       ·intro w'
        go_simp
        with_reducible rfl
       rotate_left
       ·simp only [Act.put,QR,QS,QT,QG,QH]
        rfl
       refine take_ (i := 41) (N := some 44) (v := ?_) (a' := ?_) (ab 55 17592186044415) rfl rfl (take_ofW HT_.out HW_.out (by kernel_rfl)) (fun _ _ _ h => h) (Or.inl ⟨by rfl,?_⟩) hHeld ?_ ?_
       rotate_left
       ·rintro w' ⟨s0,s1,s2,s3,s4,s5,s6,s7,s8,s9,s10,s11,s12,s13⟩
        go_simp
        with_reducible rfl
       rotate_left
       ·simp only [Act.put,QR,QS,QT,QG,QH]
        rfl
       refine take_ (i := 44) (N := some 47) (v := ?_) (a' := ?_) (ab 55 35184372088831) rfl rfl (take_ofW HT_.out HW_.out (by kernel_rfl)) (fun _ _ _ h => h) (Or.inl ⟨by rfl,?_⟩) hHeld ?_ ?_
       rotate_left
       ·rintro w' ⟨s0,s1,s2,s3,s4,s5,s6,s7,s8,s9,s10,s11,s12,s13⟩
        go_simp
        with_reducible rfl
       rotate_left
       ·simp only [Act.put,QR,QS,QT,QG,QH]
        rfl
       refine one_ (i := 45) (N := some 48) (ab 55 70368744177663) rfl rfl (one_of HT_.out (by kernel_rfl)) (by decide) (fun K hK => ?_)
       refine goes_ Try.func44 (by kernel_rfl) rfl #[.int .i64 a0_12,.int .i64 0,.int .i64 a0_7] (by rfl) rfl rfl (by (try simp only [List.map_toArray,List.map_cons,List.map_nil]); first | done | rfl | (simp only [List.length_drop,List.length_take]; rfl)) ?_
       with_reducible refine (impl_InRange.calls a0_12 0 a0_7 t389 _ A12.out).mono ?_
       rintro e w' ⟨rfl,⟨nd,rfl⟩⟩
       refine ⟨_,rfl,?_⟩
       refine hK.out _ _ (by (repeat' apply And.intro) <;> first | exact (QD BK376.out _).trans rfl) (fun hHeld => ?_)
       clear hK K
       refine norm_ (a' := ?_) ?_ ?_
       rotate_left
       ·show Act.put _ (some 48) _ = _
        simp only [Act.put,QR,QS,QT,QG,QH]
        rfl
       refine QK (i := 46) (N := some 49) (v := ?_) (a' := ?_) (ab 55 140737488355327) rfl rfl (QI HT_.out (by kernel_rfl)) (fun _ _ _ h => h) (Or.inl ⟨by rfl,?_⟩) ?_ ?_
       rotate_left
       ·intro w'
        go_simp
        with_reducible rfl
       rotate_left
       ·simp only [Act.put,QR,QS,QT,QG,QH]
        rfl
       refine QK (i := 47) (N := some 50) (v := ?_) (a' := ?_) (ab 55 281474976710655) rfl rfl (QI HT_.out (by kernel_rfl)) (fun _ _ _ h => h) (Or.inl ⟨by rfl,?_⟩) ?_ ?_
       rotate_left
       ·intro w'
        go_simp
        with_reducible rfl
       rotate_left
       ·simp only [Act.put,QR,QS,QT,QG,QH]
        rfl
       by_cases c13 : t389 = true
       ·subst c13
        rw [if_pos rfl] at H
        replace H := Option.bind_eq_some_iff.mp H
        obtain ⟨t390,A140,H⟩ := H
        have A14 := QU A140
        clear A140
        obtain rfl := Option.some.inj H
        refine QK (i := 48) (N := some 51) (v := ?_) (a' := ?_) (ab 55 562949953421311) rfl rfl (QI HT_.out (by kernel_rfl)) (fun _ _ _ h => h) (Or.inl ⟨by rfl,?_⟩) ?_ ?_
        rotate_left
        ·intro w'
         go_simp
         with_reducible rfl
        rotate_left
        ·simp only [Act.put,QR,QS,QT,QG,QH]
         rfl
        refine QK (i := 50) (N := some 53) (v := ?_) (a' := ?_) (ab 55 1688849860263935) rfl rfl (QI HT_.out (by kernel_rfl)) (fun _ _ _ h => h) (Or.inl ⟨by rfl,?_⟩) ?_ ?_
        rotate_left
        ·intro w'
         go_simp
         with_reducible rfl
        rotate_left
        ·simp only [Act.put,QR,QS,QT,QG,QH]
         rfl
        refine take_ (i := 49) (N := some 52) (v := ?_) (a' := ?_) (ab 55 2251799813685247) rfl rfl (take_ofW HT_.out HW_.out (by kernel_rfl)) (fun _ _ _ h => h) (Or.inl ⟨by rfl,?_⟩) hHeld ?_ ?_
        rotate_left
        ·rintro w' ⟨s0,s1,s2,s3,s4,s5,s6,s7,s8,s9,s10,s11,s12,s13⟩
         go_simp
         with_reducible rfl
        rotate_left
        ·simp only [Act.put,QR,QS,QT,QG,QH]
         rfl
        refine take_ (i := 51) (N := some 54) (v := ?_) (a' := ?_) (ab 55 4503599627370495) rfl rfl (take_ofW HT_.out HW_.out (by kernel_rfl)) (fun _ _ _ h => h) (Or.inl ⟨by rfl,?_⟩) hHeld ?_ ?_
        rotate_left
        ·rintro w' ⟨s0,s1,s2,s3,s4,s5,s6,s7,s8,s9,s10,s11,s12,s13⟩
         go_simp
         with_reducible rfl
        rotate_left
        ·simp only [Act.put,QR,QS,QT,QG,QH]
         rfl
        refine one_ (i := 52) (N := some 55) (ab 55 9007199254740991) rfl rfl (one_of HT_.out (by kernel_rfl)) (by decide) (fun K hK => ?_)
        refine goes_ Try.func44 (by kernel_rfl) rfl #[.int .i64 a0_13,.int .i64 0,.int .i64 a0_12] (by rfl) rfl rfl (by (try simp only [List.map_toArray,List.map_cons,List.map_nil]); first | done | rfl | (simp only [List.length_drop,List.length_take]; rfl)) ?_
        with_reducible refine (impl_InRange.calls a0_13 0 a0_12 t390 _ A14.out).mono ?_
        rintro e w' ⟨rfl,⟨nd,rfl⟩⟩
        refine ⟨_,rfl,?_⟩
        refine hK.out _ _ (by (repeat' apply And.intro) <;> first | exact (QD BK376.out _).trans rfl) (fun hHeld => ?_)
        clear hK K
        refine norm_ (a' := ?_) ?_ ?_
        rotate_left
        ·show Act.put _ (some 55) _ = _
         simp only [Act.put,QR,QS,QT,QG,QH]
         rfl
        refine QK (i := 53) (N := some 56) (v := ?_) (a' := ?_) (ab 55 18014398509481983) rfl rfl (QI HT_.out (by kernel_rfl)) (fun _ _ _ h => h) (Or.inl ⟨by rfl,?_⟩) ?_ ?_
        rotate_left
        ·intro w'
         go_simp
         with_reducible rfl
        rotate_left
        ·simp only [Act.put,QR,QS,QT,QG,QH]
         rfl
        refine QK (i := 54) (N := some 2) (v := ?_) (a' := ?_) (ab 55 36028797018963967) rfl rfl (QI HT_.out (by kernel_rfl)) (fun _ _ _ h => h) (Or.inl ⟨by rfl,?_⟩) ?_ ?_
        rotate_left
        ·intro w'
         go_simp
         with_reducible rfl
        rotate_left
        ·simp only [Act.put,QR,QS,QT,QG,QH]
         rfl
        refine done_ (done_of HT_.out (by kernel_rfl)) ?_
        try go_wp2
        go_ret
        exact ⟨by first | rfl | (simp [errW_none,errW_some] <;> rfl) | (simp [*,errW_none,errW_some] <;> rfl),by repeat (first | (with_reducible first | exact HB.out | apply QF | apply QC | apply QE | refine QJ ?_ GE376.out) | exact HB.out)⟩
       ·replace c13 := Bool.eq_false_iff.mpr c13
        subst c13
        rw [if_neg (show ¬ (false = true) by decide)] at H
        obtain rfl := Option.some.inj H
        refine skips_ HT_.out (fun _ _ _ _ h => h) (ab 55 9007199254740991) 2 [(48,51),(49,52),(50,53),(51,54),(52,55)] _ _ _ (by kernel_rfl) (by kernel_rfl) (by kernel_rfl) (a' := ?_) ?_ ?_
        rotate_left
        ·simp only [skA,Act.put,QR,QS,QT,QG,QH]
         rfl
        refine QK (i := 53) (N := some 56) (v := ?_) (a' := ?_) (ab 55 18014398509481983) rfl rfl (QI HT_.out (by kernel_rfl)) (fun _ _ _ h => h) (Or.inl ⟨by rfl,?_⟩) ?_ ?_
        rotate_left
        ·intro w'
         go_simp
         with_reducible rfl
        rotate_left
        ·simp only [Act.put,QR,QS,QT,QG,QH]
         rfl
        refine QK (i := 54) (N := some 2) (v := ?_) (a' := ?_) (ab 55 36028797018963967) rfl rfl (QI HT_.out (by kernel_rfl)) (fun _ _ _ h => h) (Or.inl ⟨by rfl,?_⟩) ?_ ?_
        rotate_left
        ·intro w'
         go_simp
         with_reducible rfl
        rotate_left
        ·simp only [Act.put,QR,QS,QT,QG,QH]
         rfl
        refine done_ (done_of HT_.out (by kernel_rfl)) ?_
        try go_wp2
        go_ret
        exact ⟨by first | rfl | (simp [errW_none,errW_some] <;> rfl) | (simp [*,errW_none,errW_some] <;> rfl),by repeat (first | (with_reducible first | exact HB.out | apply QF | apply QC | apply QE | refine QJ ?_ GE376.out) | exact HB.out)⟩
      ·replace c11 := Bool.eq_false_iff.mpr c11
       subst c11
       rw [if_neg (show ¬ (false = true) by decide)] at H
       obtain rfl := Option.some.inj H
       refine skips_ HT_.out (fun _ _ _ _ h => h) (ab 55 70368744177663) 9 [(40,43),(41,44),(42,45),(43,46),(44,47),(45,48)] _ _ _ (by kernel_rfl) (by kernel_rfl) (by kernel_rfl) (a' := ?_) ?_ ?_
       rotate_left
       ·simp only [skA,Act.put,QR,QS,QT,QG,QH]
        rfl
       refine QK (i := 46) (N := some 49) (v := ?_) (a' := ?_) (ab 55 140737488355327) rfl rfl (QI HT_.out (by kernel_rfl)) (fun _ _ _ h => h) (Or.inl ⟨by rfl,?_⟩) ?_ ?_
       rotate_left
       ·intro w'
        go_simp
        with_reducible rfl
       rotate_left
       ·simp only [Act.put,QR,QS,QT,QG,QH]
        rfl
       refine QK (i := 47) (N := some 50) (v := ?_) (a' := ?_) (ab 55 281474976710655) rfl rfl (QI HT_.out (by kernel_rfl)) (fun _ _ _ h => h) (Or.inl ⟨by rfl,?_⟩) ?_ ?_
       rotate_left
       ·intro w'
        go_simp
        with_reducible rfl
       rotate_left
       ·simp only [Act.put,QR,QS,QT,QG,QH]
        rfl
       refine skips_ HT_.out (fun _ _ _ _ h => h) (ab 55 9007199254740991) 2 [(48,51),(49,52),(50,53),(51,54),(52,55)] _ _ _ (by kernel_rfl) (by kernel_rfl) (by kernel_rfl) (a' := ?_) ?_ ?_
       rotate_left
       ·simp only [skA,Act.put,QR,QS,QT,QG,QH]
        rfl
       refine QK (i := 53) (N := some 56) (v := ?_) (a' := ?_) (ab 55 18014398509481983) rfl rfl (QI HT_.out (by kernel_rfl)) (fun _ _ _ h => h) (Or.inl ⟨by rfl,?_⟩) ?_ ?_
       rotate_left
       ·intro w'
        go_simp
        with_reducible rfl
       rotate_left
       ·simp only [Act.put,QR,QS,QT,QG,QH]
        rfl
       refine QK (i := 54) (N := some 2) (v := ?_) (a' := ?_) (ab 55 36028797018963967) rfl rfl (QI HT_.out (by kernel_rfl)) (fun _ _ _ h => h) (Or.inl ⟨by rfl,?_⟩) ?_ ?_
       rotate_left
       ·intro w'
        go_simp
        with_reducible rfl
       rotate_left
       ·simp only [Act.put,QR,QS,QT,QG,QH]
        rfl
       refine done_ (done_of HT_.out (by kernel_rfl)) ?_
       try go_wp2
       go_ret
       exact ⟨by first | rfl | (simp [errW_none,errW_some] <;> rfl) | (simp [*,errW_none,errW_some] <;> rfl),by repeat (first | (with_reducible first | exact HB.out | apply QF | apply QC | apply QE | refine QJ ?_ GE376.out) | exact HB.out)⟩
     ·rw [if_neg c9] at H
      have c9b0 : decide (0 < (l0_10.length : Int)) = false := decide_eq_false c9
      have c9b1 : decide (0 < l0_10.length) = false := decide_eq_false (by omega)
      clear c9
      obtain rfl := Option.some.inj H
      (try simp only [c9b0,c9b1])
      refine skips_ HT_.out (fun _ _ _ _ h => h) (ab 55 274877906943) 17 [(31,34),(32,35),(33,36),(34,37),(35,38),(36,39),(37,40)] _ _ _ (by kernel_rfl) (by kernel_rfl) (by kernel_rfl) (a' := ?_) ?_ ?_
      rotate_left
      ·simp only [skA,Act.put,QR,QS,QT,QG,QH]
       rfl
      refine QK (i := 38) (N := some 41) (v := ?_) (a' := ?_) (ab 55 549755813887) rfl rfl (QI HT_.out (by kernel_rfl)) (fun _ _ _ h => h) (Or.inl ⟨by rfl,?_⟩) ?_ ?_
      rotate_left
      ·intro w'
       go_simp
       with_reducible rfl
      rotate_left
      ·simp only [Act.put,QR,QS,QT,QG,QH]
       rfl
      refine QK (i := 39) (N := some 42) (v := ?_) (a' := ?_) (ab 55 1099511627775) rfl rfl (QI HT_.out (by kernel_rfl)) (fun _ _ _ h => h) (Or.inl ⟨by rfl,?_⟩) ?_ ?_
      rotate_left
      ·intro w'
       go_simp
       with_reducible rfl
      rotate_left
      ·simp only [Act.put,QR,QS,QT,QG,QH]
       rfl
      refine skips_ HT_.out (fun _ _ _ _ h => h) (ab 55 70368744177663) 9 [(40,43),(41,44),(42,45),(43,46),(44,47),(45,48)] _ _ _ (by kernel_rfl) (by kernel_rfl) (by kernel_rfl) (a' := ?_) ?_ ?_
      rotate_left
      ·simp only [skA,Act.put,QR,QS,QT,QG,QH]
       rfl
      refine QK (i := 46) (N := some 49) (v := ?_) (a' := ?_) (ab 55 140737488355327) rfl rfl (QI HT_.out (by kernel_rfl)) (fun _ _ _ h => h) (Or.inl ⟨by rfl,?_⟩) ?_ ?_
      rotate_left
      ·intro w'
       go_simp
       with_reducible rfl
      rotate_left
      ·simp only [Act.put,QR,QS,QT,QG,QH]
       rfl
      refine QK (i := 47) (N := some 50) (v := ?_) (a' := ?_) (ab 55 281474976710655) rfl rfl (QI HT_.out (by kernel_rfl)) (fun _ _ _ h => h) (Or.inl ⟨by rfl,?_⟩) ?_ ?_
      rotate_left
      ·intro w'
       go_simp
       with_reducible rfl
      rotate_left
      ·simp only [Act.put,QR,QS,QT,QG,QH]
       rfl
      refine skips_ HT_.out (fun _ _ _ _ h => h) (ab 55 9007199254740991) 2 [(48,51),(49,52),(50,53),(51,54),(52,55)] _ _ _ (by kernel_rfl) (by kernel_rfl) (by kernel_rfl) (a' := ?_) ?_ ?_
      rotate_left
      ·simp only [skA,Act.put,QR,QS,QT,QG,QH]
       rfl
      refine QK (i := 53) (N := some 56) (v := ?_) (a' := ?_) (ab 55 18014398509481983) rfl rfl (QI HT_.out (by kernel_rfl)) (fun _ _ _ h => h) (Or.inl ⟨by rfl,?_⟩) ?_ ?_
      rotate_left
      ·intro w'
       go_simp
       with_reducible rfl
      rotate_left
      ·simp only [Act.put,QR,QS,QT,QG,QH]
       rfl
      refine QK (i := 54) (N := some 2) (v := ?_) (a' := ?_) (ab 55 36028797018963967) rfl rfl (QI HT_.out (by kernel_rfl)) (fun _ _ _ h => h) (Or.inl ⟨by rfl,?_⟩) ?_ ?_
      rotate_left
      ·intro w'
       go_simp
       with_reducible rfl
      rotate_left
      ·simp only [Act.put,QR,QS,QT,QG,QH]
       rfl
      refine done_ (done_of HT_.out (by kernel_rfl)) ?_
      try go_wp2
      go_ret
      exact ⟨by first | rfl | (simp [errW_none,errW_some] <;> rfl) | (simp [*,errW_none,errW_some] <;> rfl),by repeat (first | (with_reducible first | exact HB.out | apply QF | apply QC | apply QE | refine QJ ?_ GE376.out) | exact HB.out)⟩
    ·replace c8 := Bool.eq_false_iff.mpr c8
     subst c8
     rw [if_neg (show ¬ (false = true) by decide)] at H
     obtain rfl := Option.some.inj H
     refine skips_ HT_.out (fun _ _ _ _ h => h) (ab 55 536870911) 26 [(25,28),(26,29),(27,30),(28,31)] _ _ _ (by kernel_rfl) (by kernel_rfl) (by kernel_rfl) (a' := ?_) ?_ ?_
     rotate_left
     ·simp only [skA,Act.put,QR,QS,QT,QG,QH]
      rfl
     refine QK (i := 29) (N := some 32) (v := ?_) (a' := ?_) (ab 55 1073741823) rfl rfl (QI HT_.out (by kernel_rfl)) (fun _ _ _ h => h) (Or.inl ⟨by rfl,?_⟩) ?_ ?_
     rotate_left
     ·intro w'
      go_simp
      with_reducible rfl
     rotate_left
     ·simp only [Act.put,QR,QS,QT,QG,QH]
      rfl
     refine QK (i := 30) (N := some 33) (v := ?_) (a' := ?_) (ab 55 2147483647) rfl rfl (QI HT_.out (by kernel_rfl)) (fun _ _ _ h => h) (Or.inl ⟨by rfl,?_⟩) ?_ ?_
     rotate_left
     ·intro w'
      go_simp
      with_reducible rfl
     rotate_left
     ·simp only [Act.put,QR,QS,QT,QG,QH]
      rfl
     refine skips_ HT_.out (fun _ _ _ _ h => h) (ab 55 274877906943) 17 [(31,34),(32,35),(33,36),(34,37),(35,38),(36,39),(37,40)] _ _ _ (by kernel_rfl) (by kernel_rfl) (by kernel_rfl) (a' := ?_) ?_ ?_
     rotate_left
     ·simp only [skA,Act.put,QR,QS,QT,QG,QH]
      rfl
     refine QK (i := 38) (N := some 41) (v := ?_) (a' := ?_) (ab 55 549755813887) rfl rfl (QI HT_.out (by kernel_rfl)) (fun _ _ _ h => h) (Or.inl ⟨by rfl,?_⟩) ?_ ?_
     rotate_left
     ·intro w'
      go_simp
      with_reducible rfl
     rotate_left
     ·simp only [Act.put,QR,QS,QT,QG,QH]
      rfl
     refine QK (i := 39) (N := some 42) (v := ?_) (a' := ?_) (ab 55 1099511627775) rfl rfl (QI HT_.out (by kernel_rfl)) (fun _ _ _ h => h) (Or.inl ⟨by rfl,?_⟩) ?_ ?_
     rotate_left
     ·intro w'
      go_simp
      with_reducible rfl
     rotate_left
     ·simp only [Act.put,QR,QS,QT,QG,QH]
      rfl
     refine skips_ HT_.out (fun _ _ _ _ h => h) (ab 55 70368744177663) 9 [(40,43),(41,44),(42,45),(43,46),(44,47),(45,48)] _ _ _ (by kernel_rfl) (by kernel_rfl) (by kernel_rfl) (a' := ?_) ?_ ?_
     rotate_left
     ·simp only [skA,Act.put,QR,QS,QT,QG,QH]
      rfl
     refine QK (i := 46) (N := some 49) (v := ?_) (a' := ?_) (ab 55 140737488355327) rfl rfl (QI HT_.out (by kernel_rfl)) (fun _ _ _ h => h) (Or.inl ⟨by rfl,?_⟩) ?_ ?_
     rotate_left
     ·intro w'
      go_simp
      with_reducible rfl
     rotate_left
     ·simp only [Act.put,QR,QS,QT,QG,QH]
      rfl
     refine QK (i := 47) (N := some 50) (v := ?_) (a' := ?_) (ab 55 281474976710655) rfl rfl (QI HT_.out (by kernel_rfl)) (fun _ _ _ h => h) (Or.inl ⟨by rfl,?_⟩) ?_ ?_
     rotate_left
     ·intro w'
      go_simp
      with_reducible rfl
     rotate_left
     ·simp only [Act.put,QR,QS,QT,QG,QH]
      rfl
     refine skips_ HT_.out (fun _ _ _ _ h => h) (ab 55 9007199254740991) 2 [(48,51),(49,52),(50,53),(51,54),(52,55)] _ _ _ (by kernel_rfl) (by kernel_rfl) (by kernel_rfl) (a' := ?_) ?_ ?_
     rotate_left
     ·simp only [skA,Act.put,QR,QS,QT,QG,QH]
      rfl
     refine QK (i := 53) (N := some 56) (v := ?_) (a' := ?_) (ab 55 18014398509481983) rfl rfl (QI HT_.out (by kernel_rfl)) (fun _ _ _ h => h) (Or.inl ⟨by rfl,?_⟩) ?_ ?_
     rotate_left
     ·intro w'
      go_simp
      with_reducible rfl
     rotate_left
     ·simp only [Act.put,QR,QS,QT,QG,QH]
      rfl
     refine QK (i := 54) (N := some 2) (v := ?_) (a' := ?_) (ab 55 36028797018963967) rfl rfl (QI HT_.out (by kernel_rfl)) (fun _ _ _ h => h) (Or.inl ⟨by rfl,?_⟩) ?_ ?_
     rotate_left
     ·intro w'
      go_simp
      with_reducible rfl
     rotate_left
     ·simp only [Act.put,QR,QS,QT,QG,QH]
      rfl
     refine done_ (done_of HT_.out (by kernel_rfl)) ?_
     try go_wp2
     go_ret
     exact ⟨by first | rfl | (simp [errW_none,errW_some] <;> rfl) | (simp [*,errW_none,errW_some] <;> rfl),by repeat (first | (with_reducible first | exact HB.out | apply QF | apply QC | apply QE | refine QJ ?_ GE376.out) | exact HB.out)⟩
   ·rw [if_neg c6] at H
    exact absurd H (by simp)
  ·rw [if_neg c4] at H
   have c4b0 : ((l0_8.length : Int) == a0_0) = false := beq_eq_false_iff_ne.mpr c4
   have c4b1 : ((l0_8.length : Int) != a0_0) = true := bne_iff_ne.mpr c4
   obtain rfl := Option.some.inj H
   (try simp only [c4b0,c4b1])
   refine skips_ HT_.out (fun _ _ _ _ h => h) (ab 55 8388607) 32 [(13,16),(14,17),(15,18),(16,19),(17,20),(18,21),(19,22),(20,23),(21,24),(22,25)] _ _ _ (by kernel_rfl) (by kernel_rfl) (by kernel_rfl) (a' := ?_) ?_ ?_
   rotate_left
   ·simp only [skA,Act.put,QR,QS,QT,QG,QH]
    rfl
   refine QK (i := 23) (N := some 26) (v := ?_) (a' := ?_) (ab 55 16777215) rfl rfl (QI HT_.out (by kernel_rfl)) (fun _ _ _ h => h) (Or.inl ⟨by rfl,?_⟩) ?_ ?_
   rotate_left
   ·intro w'
    go_simp
    with_reducible rfl
   rotate_left
   ·simp only [Act.put,QR,QS,QT,QG,QH]
    rfl
   refine QK (i := 24) (N := some 27) (v := ?_) (a' := ?_) (ab 55 33554431) rfl rfl (QI HT_.out (by kernel_rfl)) (fun _ _ _ h => h) (Or.inl ⟨by rfl,?_⟩) ?_ ?_
   rotate_left
   ·intro w'
    go_simp
    with_reducible rfl
   rotate_left
   ·simp only [Act.put,QR,QS,QT,QG,QH]
    rfl
   refine skips_ HT_.out (fun _ _ _ _ h => h) (ab 55 536870911) 26 [(25,28),(26,29),(27,30),(28,31)] _ _ _ (by kernel_rfl) (by kernel_rfl) (by kernel_rfl) (a' := ?_) ?_ ?_
   rotate_left
   ·simp only [skA,Act.put,QR,QS,QT,QG,QH]
    rfl
   refine QK (i := 29) (N := some 32) (v := ?_) (a' := ?_) (ab 55 1073741823) rfl rfl (QI HT_.out (by kernel_rfl)) (fun _ _ _ h => h) (Or.inl ⟨by rfl,?_⟩) ?_ ?_
   rotate_left
   ·intro w'
    go_simp
    with_reducible rfl
   rotate_left
   ·simp only [Act.put,QR,QS,QT,QG,QH]
    rfl
   refine QK (i := 30) (N := some 33) (v := ?_) (a' := ?_) (ab 55 2147483647) rfl rfl (QI HT_.out (by kernel_rfl)) (fun _ _ _ h => h) (Or.inl ⟨by rfl,?_⟩) ?_ ?_
   rotate_left
   ·intro w'
    go_simp
    with_reducible rfl
   rotate_left
   ·simp only [Act.put,QR,QS,QT,QG,QH]
    rfl
   refine skips_ HT_.out (fun _ _ _ _ h => h) (ab 55 274877906943) 17 [(31,34),(32,35),(33,36),(34,37),(35,38),(36,39),(37,40)] _ _ _ (by kernel_rfl) (by kernel_rfl) (by kernel_rfl) (a' := ?_) ?_ ?_
   rotate_left
   ·simp only [skA,Act.put,QR,QS,QT,QG,QH]
    rfl
   refine QK (i := 38) (N := some 41) (v := ?_) (a' := ?_) (ab 55 549755813887) rfl rfl (QI HT_.out (by kernel_rfl)) (fun _ _ _ h => h) (Or.inl ⟨by rfl,?_⟩) ?_ ?_
   rotate_left
   ·intro w'
    go_simp
    with_reducible rfl
   rotate_left
   ·simp only [Act.put,QR,QS,QT,QG,QH]
    rfl
   refine QK (i := 39) (N := some 42) (v := ?_) (a' := ?_) (ab 55 1099511627775) rfl rfl (QI HT_.out (by kernel_rfl)) (fun _ _ _ h => h) (Or.inl ⟨by rfl,?_⟩) ?_ ?_
   rotate_left
   ·intro w'
    go_simp
    with_reducible rfl
   rotate_left
   ·simp only [Act.put,QR,QS,QT,QG,QH]
    rfl
   refine skips_ HT_.out (fun _ _ _ _ h => h) (ab 55 70368744177663) 9 [(40,43),(41,44),(42,45),(43,46),(44,47),(45,48)] _ _ _ (by kernel_rfl) (by kernel_rfl) (by kernel_rfl) (a' := ?_) ?_ ?_
   rotate_left
   ·simp only [skA,Act.put,QR,QS,QT,QG,QH]
    rfl
   refine QK (i := 46) (N := some 49) (v := ?_) (a' := ?_) (ab 55 140737488355327) rfl rfl (QI HT_.out (by kernel_rfl)) (fun _ _ _ h => h) (Or.inl ⟨by rfl,?_⟩) ?_ ?_
   rotate_left
   ·intro w'
    go_simp
    with_reducible rfl
   rotate_left
   ·simp only [Act.put,QR,QS,QT,QG,QH]
    rfl
   refine QK (i := 47) (N := some 50) (v := ?_) (a' := ?_) (ab 55 281474976710655) rfl rfl (QI HT_.out (by kernel_rfl)) (fun _ _ _ h => h) (Or.inl ⟨by rfl,?_⟩) ?_ ?_
   rotate_left
   ·intro w'
    go_simp
    with_reducible rfl
   rotate_left
   ·simp only [Act.put,QR,QS,QT,QG,QH]
    rfl
   refine skips_ HT_.out (fun _ _ _ _ h => h) (ab 55 9007199254740991) 2 [(48,51),(49,52),(50,53),(51,54),(52,55)] _ _ _ (by kernel_rfl) (by kernel_rfl) (by kernel_rfl) (a' := ?_) ?_ ?_
   rotate_left
   ·simp only [skA,Act.put,QR,QS,QT,QG,QH]
    rfl
   refine QK (i := 53) (N := some 56) (v := ?_) (a' := ?_) (ab 55 18014398509481983) rfl rfl (QI HT_.out (by kernel_rfl)) (fun _ _ _ h => h) (Or.inl ⟨by rfl,?_⟩) ?_ ?_
   rotate_left
   ·intro w'
    go_simp
    with_reducible rfl
   rotate_left
   ·simp only [Act.put,QR,QS,QT,QG,QH]
    rfl
   refine QK (i := 54) (N := some 2) (v := ?_) (a' := ?_) (ab 55 36028797018963967) rfl rfl (QI HT_.out (by kernel_rfl)) (fun _ _ _ h => h) (Or.inl ⟨by rfl,?_⟩) ?_ ?_
   rotate_left
   ·intro w'
    go_simp
    with_reducible rfl
   rotate_left
   ·simp only [Act.put,QR,QS,QT,QG,QH]
    rfl
   refine done_ (done_of HT_.out (by kernel_rfl)) ?_
   try go_wp2
   go_ret
   exact ⟨by first | rfl | (simp [errW_none,errW_some] <;> rfl) | (simp [*,errW_none,errW_some] <;> rfl),by repeat (first | (with_reducible first | exact HB.out | apply QF | apply QC | apply QE | refine QJ ?_ GE376.out) | exact HB.out)⟩
 ·replace c3 := Bool.eq_false_iff.mpr c3
  subst c3
  rw [if_neg (show ¬ (false = true) by decide)] at H
  obtain rfl := Option.some.inj H
  refine skips_ HT_.out (fun _ _ _ _ h => h) (ab 55 2047) 44 [(4,7),(5,8),(6,9),(7,10),(8,11),(9,12),(10,13)] _ _ _ (by kernel_rfl) (by kernel_rfl) (by kernel_rfl) (a' := ?_) ?_ ?_
  rotate_left
  ·simp only [skA,Act.put,QR,QS,QT,QG,QH]
   rfl
  refine QK (i := 11) (N := some 14) (v := ?_) (a' := ?_) (ab 55 4095) rfl rfl (QI HT_.out (by kernel_rfl)) (fun _ _ _ h => h) (Or.inl ⟨by rfl,?_⟩) ?_ ?_
  rotate_left
  ·intro w'
   go_simp
   with_reducible rfl
  rotate_left
  ·simp only [Act.put,QR,QS,QT,QG,QH]
   rfl
  refine QK (i := 12) (N := some 15) (v := ?_) (a' := ?_) (ab 55 8191) rfl rfl (QI HT_.out (by kernel_rfl)) (fun _ _ _ h => h) (Or.inl ⟨by rfl,?_⟩) ?_ ?_
  rotate_left
  ·intro w'
   go_simp
   with_reducible rfl
  rotate_left
  ·simp only [Act.put,QR,QS,QT,QG,QH]
   rfl
  refine skips_ HT_.out (fun _ _ _ _ h => h) (ab 55 8388607) 32 [(13,16),(14,17),(15,18),(16,19),(17,20),(18,21),(19,22),(20,23),(21,24),(22,25)] _ _ _ (by kernel_rfl) (by kernel_rfl) (by kernel_rfl) (a' := ?_) ?_ ?_
  rotate_left
  ·simp only [skA,Act.put,QR,QS,QT,QG,QH]
   rfl
  refine QK (i := 23) (N := some 26) (v := ?_) (a' := ?_) (ab 55 16777215) rfl rfl (QI HT_.out (by kernel_rfl)) (fun _ _ _ h => h) (Or.inl ⟨by rfl,?_⟩) ?_ ?_
  rotate_left
  ·intro w'
   go_simp
   with_reducible rfl
  rotate_left
  ·simp only [Act.put,QR,QS,QT,QG,QH]
   rfl
  refine QK (i := 24) (N := some 27) (v := ?_) (a' := ?_) (ab 55 33554431) rfl rfl (QI HT_.out (by kernel_rfl)) (fun _ _ _ h => h) (Or.inl ⟨by rfl,?_⟩) ?_ ?_
  rotate_left
  ·intro w'
   go_simp
   with_reducible rfl
  rotate_left
  ·simp only [Act.put,QR,QS,QT,QG,QH]
   rfl
  refine skips_ HT_.out (fun _ _ _ _ h => h) (ab 55 536870911) 26 [(25,28),(26,29),(27,30),(28,31)] _ _ _ (by kernel_rfl) (by kernel_rfl) (by kernel_rfl) (a' := ?_) ?_ ?_
  rotate_left
  ·simp only [skA,Act.put,QR,QS,QT,QG,QH]
   rfl
  refine QK (i := 29) (N := some 32) (v := ?_) (a' := ?_) (ab 55 1073741823) rfl rfl (QI HT_.out (by kernel_rfl)) (fun _ _ _ h => h) (Or.inl ⟨by rfl,?_⟩) ?_ ?_
  rotate_left
  ·intro w'
   go_simp
   with_reducible rfl
  rotate_left
  ·simp only [Act.put,QR,QS,QT,QG,QH]
   rfl
  refine QK (i := 30) (N := some 33) (v := ?_) (a' := ?_) (ab 55 2147483647) rfl rfl (QI HT_.out (by kernel_rfl)) (fun _ _ _ h => h) (Or.inl ⟨by rfl,?_⟩) ?_ ?_
  rotate_left
  ·intro w'
   go_simp
   with_reducible rfl
  rotate_left
  ·simp only [Act.put,QR,QS,QT,QG,QH]
   rfl
  refine skips_ HT_.out (fun _ _ _ _ h => h) (ab 55 274877906943) 17 [(31,34),(32,35),(33,36),(34,37),(35,38),(36,39),(37,40)] _ _ _ (by kernel_rfl) (by kernel_rfl) (by kernel_rfl) (a' := ?_) ?_ ?_
  rotate_left
  ·simp only [skA,Act.put,QR,QS,QT,QG,QH]
   rfl
  refine QK (i := 38) (N := some 41) (v := ?_) (a' := ?_) (ab 55 549755813887) rfl rfl (QI HT_.out (by kernel_rfl)) (fun _ _ _ h => h) (Or.inl ⟨by rfl,?_⟩) ?_ ?_
  rotate_left
  ·intro w'
   go_simp
   with_reducible rfl
  rotate_left
  ·simp only [Act.put,QR,QS,QT,QG,QH]
   rfl
  refine QK (i := 39) (N := some 42) (v := ?_) (a' := ?_) (ab 55 1099511627775) rfl rfl (QI HT_.out (by kernel_rfl)) (fun _ _ _ h => h) (Or.inl ⟨by rfl,?_⟩) ?_ ?_
  rotate_left
  ·intro w'
   go_simp
   with_reducible rfl
  rotate_left
  ·simp only [Act.put,QR,QS,QT,QG,QH]
   rfl
  refine skips_ HT_.out (fun _ _ _ _ h => h) (ab 55 70368744177663) 9 [(40,43),(41,44),(42,45),(43,46),(44,47),(45,48)] _ _ _ (by kernel_rfl) (by kernel_rfl) (by kernel_rfl) (a' := ?_) ?_ ?_
  rotate_left
  ·simp only [skA,Act.put,QR,QS,QT,QG,QH]
   rfl
  refine QK (i := 46) (N := some 49) (v := ?_) (a' := ?_) (ab 55 140737488355327) rfl rfl (QI HT_.out (by kernel_rfl)) (fun _ _ _ h => h) (Or.inl ⟨by rfl,?_⟩) ?_ ?_
  rotate_left
  ·intro w'
   go_simp
   with_reducible rfl
  rotate_left
  ·simp only [Act.put,QR,QS,QT,QG,QH]
   rfl
  refine QK (i := 47) (N := some 50) (v := ?_) (a' := ?_) (ab 55 281474976710655) rfl rfl (QI HT_.out (by kernel_rfl)) (fun _ _ _ h => h) (Or.inl ⟨by rfl,?_⟩) ?_ ?_
  rotate_left
  ·intro w'
   go_simp
   with_reducible rfl
  rotate_left
  ·simp only [Act.put,QR,QS,QT,QG,QH]
   rfl
  refine skips_ HT_.out (fun _ _ _ _ h => h) (ab 55 9007199254740991) 2 [(48,51),(49,52),(50,53),(51,54),(52,55)] _ _ _ (by kernel_rfl) (by kernel_rfl) (by kernel_rfl) (a' := ?_) ?_ ?_
  rotate_left
  ·simp only [skA,Act.put,QR,QS,QT,QG,QH]
   rfl
  refine QK (i := 53) (N := some 56) (v := ?_) (a' := ?_) (ab 55 18014398509481983) rfl rfl (QI HT_.out (by kernel_rfl)) (fun _ _ _ h => h) (Or.inl ⟨by rfl,?_⟩) ?_ ?_
  rotate_left
  ·intro w'
   go_simp
   with_reducible rfl
  rotate_left
  ·simp only [Act.put,QR,QS,QT,QG,QH]
   rfl
  refine QK (i := 54) (N := some 2) (v := ?_) (a' := ?_) (ab 55 36028797018963967) rfl rfl (QI HT_.out (by kernel_rfl)) (fun _ _ _ h => h) (Or.inl ⟨by rfl,?_⟩) ?_ ?_
  rotate_left
  ·intro w'
   go_simp
   with_reducible rfl
  rotate_left
  ·simp only [Act.put,QR,QS,QT,QG,QH]
   rfl
  refine done_ (done_of HT_.out (by kernel_rfl)) ?_
  try go_wp2
  go_ret
  exact ⟨by first | rfl | (simp [errW_none,errW_some] <;> rfl) | (simp [*,errW_none,errW_some] <;> rfl),by repeat (first | (with_reducible first | exact HB.out | apply QF | apply QC | apply QE | refine QJ ?_ GE376.out) | exact HB.out)⟩

/-! ### impl_Winner: function 45 -/
def impl_Winner.l0 : Nat → List (List Int) → Int → Int → Option (Int)
 | 0,_,_,_ => none
 | k + 1,x9,x10,x11 => if x11 < x10 then (if 0 ≤ x11 then (if x11 < (x9.length : Int) then (if ((rd_L1 x9 x11).length : Int) = 0 then (some x11) else (impl_Winner.l0 k x9 x10 (wrap64 (x11 + 1)))) else (none)) else (none)) else (some (-1))
def impl_Winner.f (k : Nat) (a0_0 : Int) (a0_1 : Int) (a0_2 : Bool) (a0_3 : Bool) (l0_4 : List Int) (l0_5 : List Int) (a0_6 : Int) (a0_7 : Int) (l0_8 : List (List Int)) (l0_9 : List Int) (l0_10 : List Int) (a0_11 : Int) (a0_12 : Int) (a0_13 : Int) : Option (Int) := (impl_IsGame.f k a0_0 a0_1 a0_2 a0_3 l0_4 l0_5 a0_6 a0_7 l0_8 l0_9 l0_10 a0_11 a0_12 a0_13).bind fun t392 => (if t392 = true then (impl_Winner.l0 k l0_8 (l0_8.length : Int) 0) else (some (-1)))
theorem impl_Winner.mono_l : ∀ k, (∀ y0 y1 y2, LeO (impl_Winner.l0 k y0 y1 y2) (impl_Winner.l0 (k + 1) y0 y1 y2))
 | 0 => fun _ _ _ r h => by simp [impl_Winner.l0] at h
 | k + 1 => by
  have ih0 := impl_Winner.mono_l k
  ·intro y0 y1 y2
   unfold impl_Winner.l0
   repeat' first
   | (with_reducible exact ih0 _ _ _)
   | (with_reducible exact impl_IsGame.mono _ _ _ _ _ _ _ _ _ _ _ _ _ _ _)
   | (with_reducible exact LeO.refl _)
   | (with_reducible exact LeO.none _)
   | (with_reducible refine LeO.ite ?_ ?_)
   | (with_reducible refine LeO.bind ?_ (fun _ => ?_))
   | exact ih0 _ _ _
   | exact impl_IsGame.mono _ _ _ _ _ _ _ _ _ _ _ _ _ _ _
   | exact LeO.none _
   | refine LeO.ite ?_ ?_
   | refine LeO.bind ?_ (fun _ => ?_)
theorem impl_Winner.mono : ∀ a0 a1 a2 a3 a4 a5 a6 a7 a8 a9 a10 a11 a12 a13 k, LeO (impl_Winner.f k a0 a1 a2 a3 a4 a5 a6 a7 a8 a9 a10 a11 a12 a13) (impl_Winner.f (k + 1) a0 a1 a2 a3 a4 a5 a6 a7 a8 a9 a10 a11 a12 a13) := by
 intro a0 a1 a2 a3 a4 a5 a6 a7 a8 a9 a10 a11 a12 a13 k
 have ih0 := impl_Winner.mono_l k
 unfold impl_Winner.f
 repeat' first
   | (with_reducible exact ih0 _ _ _)
   | (with_reducible exact impl_IsGame.mono _ _ _ _ _ _ _ _ _ _ _ _ _ _ _)
   | (with_reducible exact LeO.refl _)
   | (with_reducible exact LeO.none _)
   | (with_reducible refine LeO.ite ?_ ?_)
   | (with_reducible refine LeO.bind ?_ (fun _ => ?_))
   | exact ih0 _ _ _
   | exact impl_IsGame.mono _ _ _ _ _ _ _ _ _ _ _ _ _ _ _
   | exact LeO.none _
   | refine LeO.ite ?_ ?_
   | refine LeO.bind ?_ (fun _ => ?_)
set_option maxHeartbeats 8000000 in
set_option maxRecDepth 100000 in
theorem impl_Winner.calls (k : Nat) (a0_0 : Int) (a0_1 : Int) (a0_2 : Bool) (a0_3 : Bool) (A0_4 : Option Addr) (c0_4 : Nat) (l0_4 : List Int) (A0_5 : Option Addr) (c0_5 : Nat) (l0_5 : List Int) (a0_6 : Int) (a0_7 : Int) (A0_8 : Option Addr) (c0_8 : Nat) (l0_8 : List (List Int)) (A0_9 : Option Addr) (c0_9 : Nat) (l0_9 : List Int) (A0_10 : Option Addr) (c0_10 : Nat) (l0_10 : List Int) (a0_11 : Int) (a0_12 : Int) (a0_13 : Int) (r : Int) (w : World) (hr0_4 : Kd.C (Kd.int .i64) w A0_4 l0_4.length l0_4) (hc0_4 : l0_4.length ≤ c0_4) (hr0_5 : Kd.C (Kd.int .i64) w A0_5 l0_5.length l0_5) (hc0_5 : l0_5.length ≤ c0_5) (hr0_8 : Kd.C (Kd.slice 3 (Kd.int .i64)) w A0_8 l0_8.length l0_8) (hc0_8 : l0_8.length ≤ c0_8) (hr0_9 : Kd.C (Kd.int .i64) w A0_9 l0_9.length l0_9) (hc0_9 : l0_9.length ≤ c0_9) (hr0_10 : Kd.C (Kd.int .i64) w A0_10 l0_10.length l0_10) (hc0_10 : l0_10.length ≤ c0_10) (h : impl_Winner.f k a0_0 a0_1 a0_2 a0_3 l0_4 l0_5 a0_6 a0_7 l0_8 l0_9 l0_10 a0_11 a0_12 a0_13 = some r) :
  Calls Try.prog 45 #[.agg #[.int .i64 a0_0,.int .i64 a0_1,.bool a0_2,.bool a0_3,.slice A0_4 l0_4.length c0_4,.slice A0_5 l0_5.length c0_5,.int .i64 a0_6,.int .i64 a0_7,.slice A0_8 l0_8.length c0_8,.slice A0_9 l0_9.length c0_9,.slice A0_10 l0_10.length c0_10,.int .i64 a0_11,.int .i64 a0_12,.int .i64 a0_13]] w fun e w' => e = .returned (.int .i64 r) ∧ Below w.heap.size w w' := by
 have hu32 := Try.underlying32
 have HR0_4 := QU hr0_4
 have HC0_4 := QU hc0_4
 clear hr0_4 hc0_4
 have HR0_5 := QU hr0_5
 have HC0_5 := QU hc0_5
 clear hr0_5 hc0_5
 have HR0_8 := QU hr0_8
 have HC0_8 := QU hc0_8
 clear hr0_8 hc0_8
 have HR0_9 := QU hr0_9
 have HC0_9 := QU hc0_9
 clear hr0_9 hc0_9
 have HR0_10 := QU hr0_10
 have HC0_10 := QU hc0_10
 clear hr0_10 hc0_10
 have HB := QU (Below.refl w.heap.size w)
 have H : ((impl_IsGame.f k a0_0 a0_1 a0_2 a0_3 l0_4 l0_5 a0_6 a0_7 l0_8 l0_9 l0_10 a0_11 a0_12 a0_13).bind fun t392 => (if t392 = true then (impl_Winner.l0 k l0_8 (l0_8.length : Int) 0) else (some (-1)))) = some r := h
 clear h
 replace H := Option.bind_eq_some_iff.mp H
 obtain ⟨t392,A20,H⟩ := H
 have A2 := QU A20
 clear A20
 by_cases c3 : t392 = true
 ·subst c3
  rw [if_pos rfl] at H
  have H' := QU H
  clear H
  go_enter Try.func45,Try.ntmps45
  go_wp2_with (first | ((with_reducible refine gate_dst (N := 1) rfl ?_); refine box_event ?hg (N := 1) ?hd (cs := #[.int .i64 a0_0,.int .i64 a0_1,.bool a0_2,.bool a0_3,.slice A0_4 l0_4.length c0_4,.slice A0_5 l0_5.length c0_5,.int .i64 a0_6,.int .i64 a0_7,.slice A0_8 l0_8.length c0_8,.slice A0_9 l0_9.length c0_9,.slice A0_10 l0_10.length c0_10,.int .i64 a0_11,.int .i64 a0_12,.int .i64 a0_13]) (t := 32) ?hr ?_; (case hd => rfl); (case hg => rfl); (case hr => first | (go_simp; done) | (go_simp; rfl)); intro gb391 hg w4 hbox hb; have n0_ := QU (below_step (by repeat (first | (with_reducible first | exact HB.out | apply QF | apply QC | apply QE) | exact HB.out)) hb); have n1_ := QU (hbox); have n2_ := QU ((by rw [hg]; exact (below_size (by repeat (first | (with_reducible first | exact HB.out | apply QF | apply QC | apply QE) | exact HB.out))) : w.heap.size ≤ gb391)); have n3_ := QU ((by rw [hg]; exact (below_size (by repeat (first | (with_reducible first | exact HB.out | apply QF | apply QC | apply QE) | exact HB.out))) : w.heap.size ≤ gb391)); clear HB; revert n0_ n1_ n2_ n3_; intro HB BK391 GW391 GE391; clear hb hbox hg; have hcz5_0 : w4.cell? ⟨gb391,0,none⟩ = some (.int .i64 a0_0) := (QD BK391.out 0).trans rfl; have hcz5_1 : w4.cell? ⟨gb391,1,none⟩ = some (.int .i64 a0_1) := (QD BK391.out 1).trans rfl; have hcz5_2 : w4.cell? ⟨gb391,2,none⟩ = some (.bool a0_2) := (QD BK391.out 2).trans rfl; have hcz5_3 : w4.cell? ⟨gb391,3,none⟩ = some (.bool a0_3) := (QD BK391.out 3).trans rfl; have hcz5_4 : w4.cell? ⟨gb391,4,none⟩ = some (.slice A0_4 l0_4.length c0_4) := (QD BK391.out 4).trans rfl; have hcz5_5 : w4.cell? ⟨gb391,5,none⟩ = some (.slice A0_5 l0_5.length c0_5) := (QD BK391.out 5).trans rfl; have hcz5_6 : w4.cell? ⟨gb391,6,none⟩ = some (.int .i64 a0_6) := (QD BK391.out 6).trans rfl; have hcz5_7 : w4.cell? ⟨gb391,7,none⟩ = some (.int .i64 a0_7) := (QD BK391.out 7).trans rfl; have hcz5_8 : w4.cell? ⟨gb391,8,none⟩ = some (.slice A0_8 l0_8.length c0_8) := (QD BK391.out 8).trans rfl; have hcz5_9 : w4.cell? ⟨gb391,9,none⟩ = some (.slice A0_9 l0_9.length c0_9) := (QD BK391.out 9).trans rfl; have hcz5_10 : w4.cell? ⟨gb391,10,none⟩ = some (.slice A0_10 l0_10.length c0_10) := (QD BK391.out 10).trans rfl; have hcz5_11 : w4.cell? ⟨gb391,11,none⟩ = some (.int .i64 a0_11) := (QD BK391.out 11).trans rfl; have hcz5_12 : w4.cell? ⟨gb391,12,none⟩ = some (.int .i64 a0_12) := (QD BK391.out 12).trans rfl; have hcz5_13 : w4.cell? ⟨gb391,13,none⟩ = some (.int .i64 a0_13) := (QD BK391.out 13).trans rfl; have hfz5_0 := QB BK391.out 0; have hfz5_1 := QB BK391.out 1; have hfz5_2 := QB BK391.out 2; have hfz5_3 := QB BK391.out 3; have hfz5_4 := QB BK391.out 4; have hfz5_5 := QB BK391.out 5; have hfz5_6 := QB BK391.out 6; have hfz5_7 := QB BK391.out 7; have hfz5_8 := QB BK391.out 8; have hfz5_9 := QB BK391.out 9; have hfz5_10 := QB BK391.out 10; have hfz5_11 := QB BK391.out 11; have hfz5_12 := QB BK391.out 12; have hfz5_13 := QB BK391.out 13) | ((with_reducible refine gate_callee (f := 30) rfl ?_); refine goesL_ (some 6) rfl rfl Try.func30 (by kernel_rfl) rfl #[.agg #[.int .i64 a0_0,.int .i64 a0_1,.bool a0_2,.bool a0_3,.slice A0_4 l0_4.length c0_4,.slice A0_5 l0_5.length c0_5,.int .i64 a0_6,.int .i64 a0_7,.slice A0_8 l0_8.length c0_8,.slice A0_9 l0_9.length c0_9,.slice A0_10 l0_10.length c0_10,.int .i64 a0_11,.int .i64 a0_12,.int .i64 a0_13]] rfl (by (try simp only [List.map_toArray,List.map_cons,List.map_nil]); first | done | rfl | (simp only [List.length_drop,List.length_take]; rfl)) ?_; (with_reducible refine (impl_IsGame.calls k a0_0 a0_1 a0_2 a0_3 _ _ l0_4 _ _ l0_5 a0_6 a0_7 _ _ l0_8 (fun k_ => k_ < w.heap.size) _ _ l0_9 (fun k_ => k_ < w.heap.size) _ _ l0_10 a0_11 a0_12 a0_13 true _ ?side1 ?side2 ?side3 ?side4 ?side5 ?side6 ?side7 ?side8 A2.out).mono ?_); (case side1 => repeat (first | exact (Kd.C_below HR0_4.out HB.out) | (with_reducible refine QO ?_ _) | (with_reducible refine QP ?_ _) | (with_reducible refine Kd.C_drew ?_))); (case side2 => exact HC0_4.out); (case side3 => repeat (first | exact (Kd.C_below HR0_5.out HB.out) | (with_reducible refine QO ?_ _) | (with_reducible refine QP ?_ _) | (with_reducible refine Kd.C_drew ?_))); (case side4 => exact HC0_5.out); (case side5 => repeat (first | exact (Kd.C_below HR0_8.out HB.out) | (with_reducible refine QO ?_ _) | (with_reducible refine QP ?_ _) | (with_reducible refine Kd.C_drew ?_))); (case side6 => exact HC0_8.out); (case side7 => exact Kd.V_mk HC0_9.out (Kd.F_below (Kd.C_F (Kd.heap_int .i64) HR0_9.out) (by repeat (first | (with_reducible first | exact HB.out | apply QF | apply QC | apply QE | refine QJ ?_ GE391.out) | exact HB.out)))); (case side8 => exact Kd.V_mk HC0_10.out (Kd.F_below (Kd.C_F (Kd.heap_int .i64) HR0_10.out) (by repeat (first | (with_reducible first | exact HB.out | apply QF | apply QC | apply QE | refine QJ ?_ GE391.out) | exact HB.out)))); rintro e w6 ⟨rfl,hb⟩; refine ⟨_,rfl,?_⟩; have n0_ := QU (blk_below (g := gb391) (o := _) (by (with_reducible repeat (first | refine blk_drewN ?_ _ | refine blk_drew ?_ | refine blk_alloc ?_ _)); exact BK391.out) hb); have n1_ := QU (below_step (by repeat (first | (with_reducible first | exact HB.out | apply QF | apply QC | apply QE | refine QJ ?_ GE391.out) | exact HB.out)) hb); clear BK391; clear HB; revert n0_ n1_; intro BK391 HB; (try clear hb); (try clear hb2); (try clear hk); (try clear hi); have hcz7_0 : w6.cell? ⟨gb391,0,none⟩ = some (.int .i64 a0_0) := (QD BK391.out 0).trans rfl; have hcz7_1 : w6.cell? ⟨gb391,1,none⟩ = some (.int .i64 a0_1) := (QD BK391.out 1).trans rfl; have hcz7_2 : w6.cell? ⟨gb391,2,none⟩ = some (.bool a0_2) := (QD BK391.out 2).trans rfl; have hcz7_3 : w6.cell? ⟨gb391,3,none⟩ = some (.bool a0_3) := (QD BK391.out 3).trans rfl; have hcz7_4 : w6.cell? ⟨gb391,4,none⟩ = some (.slice A0_4 l0_4.length c0_4) := (QD BK391.out 4).trans rfl; have hcz7_5 : w6.cell? ⟨gb391,5,none⟩ = some (.slice A0_5 l0_5.length c0_5) := (QD BK391.out 5).trans rfl; have hcz7_6 : w6.cell? ⟨gb391,6,none⟩ = some (.int .i64 a0_6) := (QD BK391.out 6).trans rfl; have hcz7_7 : w6.cell? ⟨gb391,7,none⟩ = some (.int .i64 a0_7) := (QD BK391.out 7).trans rfl; have hcz7_8 : w6.cell? ⟨gb391,8,none⟩ = some (.slice A0_8 l0_8.length c0_8) := (QD BK391.out 8).trans rfl; have hcz7_9 : w6.cell? ⟨gb391,9,none⟩ = some (.slice A0_9 l0_9.length c0_9) := (QD BK391.out 9).trans rfl; have hcz7_10 : w6.cell? ⟨gb391,10,none⟩ = some (.slice A0_10 l0_10.length c0_10) := (QD BK391.out 10).trans rfl; have hcz7_11 : w6.cell? ⟨gb391,11,none⟩ = some (.int .i64 a0_11) := (QD BK391.out 11).trans rfl; have hcz7_12 : w6.cell? ⟨gb391,12,none⟩ = some (.int .i64 a0_12) := (QD BK391.out 12).trans rfl; have hcz7_13 : w6.cell? ⟨gb391,13,none⟩ = some (.int .i64 a0_13) := (QD BK391.out 13).trans rfl; have hfz7_0 := QB BK391.out 0; have hfz7_1 := QB BK391.out 1; have hfz7_2 := QB BK391.out 2; have hfz7_3 := QB BK391.out 3; have hfz7_4 := QB BK391.out 4; have hfz7_5 := QB BK391.out 5; have hfz7_6 := QB BK391.out 6; have hfz7_7 := QB BK391.out 7; have hfz7_8 := QB BK391.out 8; have hfz7_9 := QB BK391.out 9; have hfz7_10 := QB BK391.out 10; have hfz7_11 := QB BK391.out 11; have hfz7_12 := QB BK391.out 12; have hfz7_13 := QB BK391.out 13))
  go_loopg [11] k (fun kq v11 w' => ∃ (x11_1 : Int),v11 = .int .i64 x11_1 ∧ Aside0 (impl_Winner.l0 kq l0_8 (l0_8.length : Int) x11_1 = some r) ∧ Aside0 (kq ≤ k) ∧ Aside0 (w'.heap[gb391]? = some (.cells #[.int .i64 a0_0,.int .i64 a0_1,.bool a0_2,.bool a0_3,(.slice A0_4 l0_4.length c0_4),(.slice A0_5 l0_5.length c0_5),.int .i64 a0_6,.int .i64 a0_7,(.slice A0_8 l0_8.length c0_8),(.slice A0_9 l0_9.length c0_9),(.slice A0_10 l0_10.length c0_10),.int .i64 a0_11,.int .i64 a0_12,.int .i64 a0_13] 32 (0,0))) ∧ Aside0 (Below w.heap.size w w'))
  case atStart => exact ⟨(0),(by first | rfl | (simp; done) | (simp [*]; done)),H',⟨Nat.le_refl _⟩,⟨by (with_reducible repeat (first | refine blk_drewN ?_ _ | refine blk_drew ?_ | refine blk_alloc ?_ _)); exact BK391.out⟩,⟨by repeat (first | (with_reducible first | exact HB.out | apply QF | apply QC | apply QE | refine QJ ?_ GE391.out) | exact HB.out)⟩⟩
  case round =>
   clear H'
   try clear p2
   try clear c3
   try clear c4
   try clear hcz5_0 hcz5_1 hcz5_10 hcz5_11 hcz5_12 hcz5_13 hcz5_2 hcz5_3 hcz5_4 hcz5_5 hcz5_6 hcz5_7 hcz5_8 hcz5_9
   try clear hcz7_0 hcz7_1 hcz7_10 hcz7_11 hcz7_12 hcz7_13 hcz7_2 hcz7_3 hcz7_4 hcz7_5 hcz7_6 hcz7_7 hcz7_8 hcz7_9
   try clear hfz5_0 hfz5_1 hfz5_10 hfz5_11 hfz5_12 hfz5_13 hfz5_2 hfz5_3 hfz5_4 hfz5_5 hfz5_6 hfz5_7 hfz5_8 hfz5_9
   try clear hfz7_0 hfz7_1 hfz7_10 hfz7_11 hfz7_12 hfz7_13 hfz7_2 hfz7_3 hfz7_4 hfz7_5 hfz7_6 hfz7_7 hfz7_8 hfz7_9
   obtain ⟨x11_1,rfl,HA,HK1,BK391,HB⟩ := hrel
   cases gk with
   | zero => exact absurd HA.out (by simp [impl_Winner.l0])
   | succ k1 =>
    have H := HA.out
    clear HA
    simp only [impl_Winner.l0] at H
    by_cases c8 : x11_1 < (l0_8.length : Int)
    ·rw [if_pos c8] at H
     have c8b0 : decide (x11_1 < (l0_8.length : Int)) = true := decide_eq_true c8
     clear c8
     by_cases c9 : 0 ≤ x11_1
     ·rw [if_pos c9] at H
      have c9b0 : decide (0 ≤ x11_1) = true := decide_eq_true c9
      clear c9
      by_cases c10 : x11_1 < (l0_8.length : Int)
      ·rw [if_pos c10] at H
       have c10b0 : decide (x11_1 < (l0_8.length : Int)) = true := decide_eq_true c10
       clear c10
       by_cases c11 : ((rd_L1 l0_8 x11_1).length : Int) = 0
       ·rw [if_pos c11] at H
        have c11b0 : (((rd_L1 l0_8 x11_1).length : Int) == 0) = true := beq_iff_eq.mpr c11
        have c11b1 : (((rd_L1 l0_8 x11_1).length : Int) != 0) = false := bne_eq_false_iff_eq.mpr c11
        clear c11
        obtain rfl := Option.some.inj H
        have p393 : 0 ≤ (x11_1 : Int) := of_decide_eq_true (by first | (with_reducible assumption) | assumption)
        have q393 : x11_1 < (l0_8.length : Int) := of_decide_eq_true (by first | (with_reducible assumption) | assumption)
        obtain ⟨ad393,A393_0,c393_0,e393,hx393_0,hl393_0,hi393_0⟩ := at_L1 HR0_8.out x11_1 p393 q393
        cases e393
        replace hx393_0 := (HB.out.cell (World.block_lt_of_cell? w _ hx393_0)).trans hx393_0
        have HR393_0 := QU hi393_0
        have HC393_0 := QU hl393_0
        clear hi393_0 hl393_0
        replace p393 := eq_true p393
        replace q393 := eq_true q393
        go_wp2
        go_ret
        exact ⟨by first | rfl | (simp [errW_none,errW_some] <;> rfl) | (simp [*,errW_none,errW_some] <;> rfl),by repeat (first | (with_reducible first | exact HB.out | apply QF | apply QC | apply QE | refine QJ ?_ GE391.out) | exact HB.out)⟩
       ·rw [if_neg c11] at H
        have c11b0 : (((rd_L1 l0_8 x11_1).length : Int) == 0) = false := beq_eq_false_iff_ne.mpr c11
        have c11b1 : (((rd_L1 l0_8 x11_1).length : Int) != 0) = true := bne_iff_ne.mpr c11
        have c11b2 : ¬ ((rd_L1 l0_8 x11_1) = []) := fun h_ => c11 (by rw [h_]; rfl)
        have H' := QU H
        clear H
        have p393 : 0 ≤ (x11_1 : Int) := of_decide_eq_true (by first | (with_reducible assumption) | assumption)
        have q393 : x11_1 < (l0_8.length : Int) := of_decide_eq_true (by first | (with_reducible assumption) | assumption)
        obtain ⟨ad393,A393_0,c393_0,e393,hx393_0,hl393_0,hi393_0⟩ := at_L1 HR0_8.out x11_1 p393 q393
        cases e393
        replace hx393_0 := (HB.out.cell (World.block_lt_of_cell? w _ hx393_0)).trans hx393_0
        have HR393_0 := QU hi393_0
        have HC393_0 := QU hl393_0
        clear hi393_0 hl393_0
        replace p393 := eq_true p393
        replace q393 := eq_true q393
        go_wp2
        go_roundg k1
        case measure => have := HK1.out; omega
        case rel => exact ⟨(wrap64 (x11_1 + 1)),(by first | rfl | (simp; done) | (simp [*]; done)),H',⟨by have := HK1.out; omega⟩,⟨by (with_reducible repeat (first | refine blk_drewN ?_ _ | refine blk_drew ?_ | refine blk_alloc ?_ _)); exact BK391.out⟩,⟨by repeat (first | (with_reducible first | exact HB.out | apply QF | apply QC | apply QE | refine QJ ?_ GE391.out) | exact HB.out)⟩⟩
      ·rw [if_neg c10] at H
       exact absurd H (by simp)
     ·rw [if_neg c9] at H
      exact absurd H (by simp)
    ·rw [if_neg c8] at H
     have c8b0 : decide (x11_1 < (l0_8.length : Int)) = false := decide_eq_false c8
     clear c8
     obtain rfl := Option.some.inj H
     go_wp2
     go_ret
     exact ⟨by first | rfl | (simp [errW_none,errW_some] <;> rfl) | (simp [*,errW_none,errW_some] <;> rfl),by repeat (first | (with_reducible first | exact HB.out | apply QF | apply QC | apply QE | refine QJ ?_ GE391.out) | exact HB.out)⟩
 ·replace c3 := Bool.eq_false_iff.mpr c3
  subst c3
  rw [if_neg (show ¬ (false = true) by decide)] at H
  obtain rfl := Option.some.inj H
  go_enter Try.func45,Try.ntmps45
  go_wp2_with (first | ((with_reducible refine gate_dst (N := 1) rfl ?_); refine box_event ?hg (N := 1) ?hd (cs := #[.int .i64 a0_0,.int .i64 a0_1,.bool a0_2,.bool a0_3,.slice A0_4 l0_4.length c0_4,.slice A0_5 l0_5.length c0_5,.int .i64 a0_6,.int .i64 a0_7,.slice A0_8 l0_8.length c0_8,.slice A0_9 l0_9.length c0_9,.slice A0_10 l0_10.length c0_10,.int .i64 a0_11,.int .i64 a0_12,.int .i64 a0_13]) (t := 32) ?hr ?_; (case hd => rfl); (case hg => rfl); (case hr => first | (go_simp; done) | (go_simp; rfl)); intro gb391 hg w12 hbox hb; have n0_ := QU (below_step (by repeat (first | (with_reducible first | exact HB.out | apply QF | apply QC | apply QE) | exact HB.out)) hb); have n1_ := QU (hbox); have n2_ := QU ((by rw [hg]; exact (below_size (by repeat (first | (with_reducible first | exact HB.out | apply QF | apply QC | apply QE) | exact HB.out))) : w.heap.size ≤ gb391)); have n3_ := QU ((by rw [hg]; exact (below_size (by repeat (first | (with_reducible first | exact HB.out | apply QF | apply QC | apply QE) | exact HB.out))) : w.heap.size ≤ gb391)); clear HB; revert n0_ n1_ n2_ n3_; intro HB BK391 GW391 GE391; clear hb hbox hg; have hcz13_0 : w12.cell? ⟨gb391,0,none⟩ = some (.int .i64 a0_0) := (QD BK391.out 0).trans rfl; have hcz13_1 : w12.cell? ⟨gb391,1,none⟩ = some (.int .i64 a0_1) := (QD BK391.out 1).trans rfl; have hcz13_2 : w12.cell? ⟨gb391,2,none⟩ = some (.bool a0_2) := (QD BK391.out 2).trans rfl; have hcz13_3 : w12.cell? ⟨gb391,3,none⟩ = some (.bool a0_3) := (QD BK391.out 3).trans rfl; have hcz13_4 : w12.cell? ⟨gb391,4,none⟩ = some (.slice A0_4 l0_4.length c0_4) := (QD BK391.out 4).trans rfl; have hcz13_5 : w12.cell? ⟨gb391,5,none⟩ = some (.slice A0_5 l0_5.length c0_5) := (QD BK391.out 5).trans rfl; have hcz13_6 : w12.cell? ⟨gb391,6,none⟩ = some (.int .i64 a0_6) := (QD BK391.out 6).trans rfl; have hcz13_7 : w12.cell? ⟨gb391,7,none⟩ = some (.int .i64 a0_7) := (QD BK391.out 7).trans rfl; have hcz13_8 : w12.cell? ⟨gb391,8,none⟩ = some (.slice A0_8 l0_8.length c0_8) := (QD BK391.out 8).trans rfl; have hcz13_9 : w12.cell? ⟨gb391,9,none⟩ = some (.slice A0_9 l0_9.length c0_9) := (QD BK391.out 9).trans rfl; have hcz13_10 : w12.cell? ⟨gb391,10,none⟩ = some (.slice A0_10 l0_10.length c0_10) := (QD BK391.out 10).trans rfl; have hcz13_11 : w12.cell? ⟨gb391,11,none⟩ = some (.int .i64 a0_11) := (QD BK391.out 11).trans rfl; have hcz13_12 : w12.cell? ⟨gb391,12,none⟩ = some (.int .i64 a0_12) := (QD BK391.out 12).trans rfl; have hcz13_13 : w12.cell? ⟨gb391,13,none⟩ = some (.int .i64 a0_13) := (QD BK391.out 13).trans rfl; have hfz13_0 := QB BK391.out 0; have hfz13_1 := QB BK391.out 1; have hfz13_2 := QB BK391.out 2; have hfz13_3 := QB BK391.out 3; have hfz13_4 := QB BK391.out 4; have hfz13_5 := QB BK391.out 5; have hfz13_6 := QB BK391.out 6; have hfz13_7 := QB BK391.out 7; have hfz13_8 := QB BK391.out 8; have hfz13_9 := QB BK391.out 9; have hfz13_10 := QB BK391.out 10; have hfz13_11 := QB BK391.out 11; have hfz13_12 := QB BK391.out 12; have hfz13_13 := QB BK391.out 13) | ((with_reducible refine gate_callee (f := 30) rfl ?_); refine goesL_ (some 6) rfl rfl Try.func30 (by kernel_rfl) rfl #[.agg #[.int .i64 a0_0,.int .i64 a0_1,.bool a0_2,.bool a0_3,.slice A0_4 l0_4.length c0_4,.slice A0_5 l0_5.length c0_5,.int .i64 a0_6,.int .i64 a0_7,.slice A0_8 l0_8.length c0_8,.slice A0_9 l0_9.length c0_9,.slice A0_10 l0_10.length c0_10,.int .i64 a0_11,.int .i64 a0_12,.int .i64 a0_13]] rfl (by (try simp only [List.map_toArray,List.map_cons,List.map_nil]); first | done | rfl | (simp only [List.length_drop,List.length_take]; rfl)) ?_; (with_reducible refine (impl_IsGame.calls k a0_0 a0_1 a0_2 a0_3 _ _ l0_4 _ _ l0_5 a0_6 a0_7 _ _ l0_8 (fun k_ => k_ < w.heap.size) _ _ l0_9 (fun k_ => k_ < w.heap.size) _ _ l0_10 a0_11 a0_12 a0_13 false _ ?side1 ?side2 ?side3 ?side4 ?side5 ?side6 ?side7 ?side8 A2.out).mono ?_); (case side1 => repeat (first | exact (Kd.C_below HR0_4.out HB.out) | (with_reducible refine QO ?_ _) | (with_reducible refine QP ?_ _) | (with_reducible refine Kd.C_drew ?_))); (case side2 => exact HC0_4.out); (case side3 => repeat (first | exact (Kd.C_below HR0_5.out HB.out) | (with_reducible refine QO ?_ _) | (with_reducible refine QP ?_ _) | (with_reducible refine Kd.C_drew ?_))); (case side4 => exact HC0_5.out); (case side5 => repeat (first | exact (Kd.C_below HR0_8.out HB.out) | (with_reducible refine QO ?_ _) | (with_reducible refine QP ?_ _) | (with_reducible refine Kd.C_drew ?_))); (case side6 => exact HC0_8.out); (case side7 => exact Kd.V_mk HC0_9.out (Kd.F_below (Kd.C_F (Kd.heap_int .i64) HR0_9.out) (by repeat (first | (with_reducible first | exact HB.out | apply QF | apply QC | apply QE | refine QJ ?_ GE391.out) | exact HB.out)))); (case side8 => exact Kd.V_mk HC0_10.out (Kd.F_below (Kd.C_F (Kd.heap_int .i64) HR0_10.out) (by repeat (first | (with_reducible first | exact HB.out | apply QF | apply QC | apply QE | refine QJ ?_ GE391.out) | exact HB.out)))); rintro e w14 ⟨rfl,hb⟩; refine ⟨_,rfl,?_⟩; have n0_ := QU (blk_below (g := gb391) (o := _) (by (with_reducible repeat (first | refine blk_drewN ?_ _ | refine blk_drew ?_ | refine blk_alloc ?_ _)); exact BK391.out) hb); have n1_ := QU (below_step (by repeat (first | (with_reducible first | exact HB.out | apply QF | apply QC | apply QE | refine QJ ?_ GE391.out) | exact HB.out)) hb); clear BK391; clear HB; revert n0_ n1_; intro BK391 HB; (try clear hb); (try clear hb2); (try clear hk); (try clear hi)))
  go_ret
  exact ⟨by first | rfl | (simp [errW_none,errW_some] <;> rfl) | (simp [*,errW_none,errW_some] <;> rfl),by repeat (first | (with_reducible first | exact HB.out | apply QF | apply QC | apply QE | refine QJ ?_ GE391.out) | exact HB.out)⟩

/-! ### impl_IsEnded: function 31 -/
def impl_IsEnded.f (k : Nat) (a0_0 : Int) (a0_1 : Int) (a0_2 : Bool) (a0_3 : Bool) (l0_4 : List Int) (l0_5 : List Int) (a0_6 : Int) (a0_7 : Int) (l0_8 : List (List Int)) (l0_9 : List Int) (l0_10 : List Int) (a0_11 : Int) (a0_12 : Int) (a0_13 : Int) : Option (Bool) := (impl_IsGame.f k a0_0 a0_1 a0_2 a0_3 l0_4 l0_5 a0_6 a0_7 l0_8 l0_9 l0_10 a0_11 a0_12 a0_13).bind fun t395 => (if t395 = true then ((impl_Winner.f k a0_0 a0_1 a0_2 a0_3 l0_4 l0_5 a0_6 a0_7 l0_8 l0_9 l0_10 a0_11 a0_12 a0_13).bind fun t396 => (if t396 ≥ 0 then (some true) else (if a0_12 = a0_7 then (some true) else (some (decide (a0_13 ≥ a0_0)))))) else (some false))
theorem impl_IsEnded.mono : ∀ a0 a1 a2 a3 a4 a5 a6 a7 a8 a9 a10 a11 a12 a13 k, LeO (impl_IsEnded.f k a0 a1 a2 a3 a4 a5 a6 a7 a8 a9 a10 a11 a12 a13) (impl_IsEnded.f (k + 1) a0 a1 a2 a3 a4 a5 a6 a7 a8 a9 a10 a11 a12 a13) := by
 intro a0 a1 a2 a3 a4 a5 a6 a7 a8 a9 a10 a11 a12 a13 k
 unfold impl_IsEnded.f
 repeat' first
   | (with_reducible exact impl_IsGame.mono _ _ _ _ _ _ _ _ _ _ _ _ _ _ _)
   | (with_reducible exact impl_Winner.mono _ _ _ _ _ _ _ _ _ _ _ _ _ _ _)
   | (with_reducible exact LeO.refl _)
   | (with_reducible exact LeO.none _)
   | (with_reducible refine LeO.ite ?_ ?_)
   | (with_reducible refine LeO.bind ?_ (fun _ => ?_))
   | exact impl_IsGame.mono _ _ _ _ _ _ _ _ _ _ _ _ _ _ _
   | exact impl_Winner.mono _ _ _ _ _ _ _ _ _ _ _ _ _ _ _
   | exact LeO.none _
   | refine LeO.ite ?_ ?_
   | refine LeO.bind ?_ (fun _ => ?_)
set_option maxHeartbeats 8000000 in
set_option maxRecDepth 100000 in
theorem impl_IsEnded.calls (k : Nat) (a0_0 : Int) (a0_1 : Int) (a0_2 : Bool) (a0_3 : Bool) (A0_4 : Option Addr) (c0_4 : Nat) (l0_4 : List Int) (A0_5 : Option Addr) (c0_5 : Nat) (l0_5 : List Int) (a0_6 : Int) (a0_7 : Int) (A0_8 : Option Addr) (c0_8 : Nat) (l0_8 : List (List Int)) (A0_9 : Option Addr) (c0_9 : Nat) (l0_9 : List Int) (A0_10 : Option Addr) (c0_10 : Nat) (l0_10 : List Int) (a0_11 : Int) (a0_12 : Int) (a0_13 : Int) (r : Bool) (w : World) (hr0_4 : Kd.C (Kd.int .i64) w A0_4 l0_4.length l0_4) (hc0_4 : l0_4.length ≤ c0_4) (hr0_5 : Kd.C (Kd.int .i64) w A0_5 l0_5.length l0_5) (hc0_5 : l0_5.length ≤ c0_5) (hr0_8 : Kd.C (Kd.slice 3 (Kd.int .i64)) w A0_8 l0_8.length l0_8) (hc0_8 : l0_8.length ≤ c0_8) (hr0_9 : Kd.C (Kd.int .i64) w A0_9 l0_9.length l0_9) (hc0_9 : l0_9.length ≤ c0_9) (hr0_10 : Kd.C (Kd.int .i64) w A0_10 l0_10.length l0_10) (hc0_10 : l0_10.length ≤ c0_10) (h : impl_IsEnded.f k a0_0 a0_1 a0_2 a0_3 l0_4 l0_5 a0_6 a0_7 l0_8 l0_9 l0_10 a0_11 a0_12 a0_13 = some r) :
  Calls Try.prog 31 #[.agg #[.int .i64 a0_0,.int .i64 a0_1,.bool a0_2,.bool a0_3,.slice A0_4 l0_4.length c0_4,.slice A0_5 l0_5.length c0_5,.int .i64 a0_6,.int .i64 a0_7,.slice A0_8 l0_8.length c0_8,.slice A0_9 l0_9.length c0_9,.slice A0_10 l0_10.length c0_10,.int .i64 a0_11,.int .i64 a0_12,.int .i64 a0_13]] w fun e w' => e = .returned (.bool r) ∧ Below w.heap.size w w' := by
 have hu32 := Try.underlying32
 have HR0_4 := QU hr0_4
 have HC0_4 := QU hc0_4
 clear hr0_4 hc0_4
 have HR0_5 := QU hr0_5
 have HC0_5 := QU hc0_5
 clear hr0_5 hc0_5
 have HR0_8 := QU hr0_8
 have HC0_8 := QU hc0_8
 clear hr0_8 hc0_8
 have HR0_9 := QU hr0_9
 have HC0_9 := QU hc0_9
 clear hr0_9 hc0_9
 have HR0_10 := QU hr0_10
 have HC0_10 := QU hc0_10
 clear hr0_10 hc0_10
 have HB := QU (Below.refl w.heap.size w)
 have H : ((impl_IsGame.f k a0_0 a0_1 a0_2 a0_3 l0_4 l0_5 a0_6 a0_7 l0_8 l0_9 l0_10 a0_11 a0_12 a0_13).bind fun t395 => (if t395 = true then ((impl_Winner.f k a0_0 a0_1 a0_2 a0_3 l0_4 l0_5 a0_6 a0_7 l0_8 l0_9 l0_10 a0_11 a0_12 a0_13).bind fun t396 => (if t396 ≥ 0 then (some true) else (if a0_12 = a0_7 then (some true) else (some (decide (a0_13 ≥ a0_0)))))) else (some false))) = some r := h
 clear h
 replace H := Option.bind_eq_some_iff.mp H
 obtain ⟨t395,A20,H⟩ := H
 have A2 := QU A20
 clear A20
 by_cases c3 : t395 = true
 rotate_left
 replace c3 := Bool.eq_false_iff.mpr c3
 subst c3
 rw [if_neg (show ¬ (false = true) by decide)] at H
 obtain rfl := Option.some.inj H
 rotate_right
 subst c3
 rw [if_pos rfl] at H
 replace H := Option.bind_eq_some_iff.mp H
 obtain ⟨t396,A40,H⟩ := H
 have A4 := QU A40
 clear A40
 by_cases c5 : t396 ≥ 0
 rotate_left
 rw [if_neg c5] at H
 have c5b0 : decide (0 ≤ t396) = false := decide_eq_false c5
 clear c5
 by_cases c11 : a0_12 = a0_7
 rotate_left
 rw [if_neg c11] at H
 have c11b0 : (a0_12 == a0_7) = false := beq_eq_false_iff_ne.mpr c11
 have c11b1 : (a0_12 != a0_7) = true := bne_iff_ne.mpr c11
 obtain rfl := Option.some.inj H
 rotate_right
 rw [if_pos c11] at H
 have c11b0 : (a0_12 == a0_7) = true := beq_iff_eq.mpr c11
 have c11b1 : (a0_12 != a0_7) = false := bne_eq_false_iff_eq.mpr c11
 clear c11
 obtain rfl := Option.some.inj H
 rotate_right
 rw [if_pos c5] at H
 have c5b0 : decide (0 ≤ t396) = true := decide_eq_true c5
 clear c5
 obtain rfl := Option.some.inj H
 all_goals
  go_enter Try.func31,Try.ntmps31
  go_wp2_with (first | ((with_reducible refine gate_dst (N := 1) rfl ?_); refine box_event ?hg (N := 1) ?hd (cs := #[.int .i64 a0_0,.int .i64 a0_1,.bool a0_2,.bool a0_3,.slice A0_4 l0_4.length c0_4,.slice A0_5 l0_5.length c0_5,.int .i64 a0_6,.int .i64 a0_7,.slice A0_8 l0_8.length c0_8,.slice A0_9 l0_9.length c0_9,.slice A0_10 l0_10.length c0_10,.int .i64 a0_11,.int .i64 a0_12,.int .i64 a0_13]) (t := 32) ?hr ?_; (case hd => rfl); (case hg => rfl); (case hr => first | (go_simp; done) | (go_simp; rfl)); intro gb394 hg w12 hbox hb; have n0_ := QU (below_step (by repeat (first | (with_reducible first | exact HB.out | apply QF | apply QC | apply QE) | exact HB.out)) hb); have n1_ := QU (hbox); have n2_ := QU ((by rw [hg]; exact (below_size (by repeat (first | (with_reducible first | exact HB.out | apply QF | apply QC | apply QE) | exact HB.out))) : w.heap.size ≤ gb394)); have n3_ := QU ((by rw [hg]; exact (below_size (by repeat (first | (with_reducible first | exact HB.out | apply QF | apply QC | apply QE) | exact HB.out))) : w.heap.size ≤ gb394)); clear HB; revert n0_ n1_ n2_ n3_; intro HB BK394 GW394 GE394; clear hb hbox hg; have hcz13_0 : w12.cell? ⟨gb394,0,none⟩ = some (.int .i64 a0_0) := (QD BK394.out 0).trans rfl; have hcz13_1 : w12.cell? ⟨gb394,1,none⟩ = some (.int .i64 a0_1) := (QD BK394.out 1).trans rfl; have hcz13_2 : w12.cell? ⟨gb394,2,none⟩ = some (.bool a0_2) := (QD BK394.out 2).trans rfl; have hcz13_3 : w12.cell? ⟨gb394,3,none⟩ = some (.bool a0_3) := (QD BK394.out 3).trans rfl; have hcz13_4 : w12.cell? ⟨gb394,4,none⟩ = some (.slice A0_4 l0_4.length c0_4) := (QD BK394.out 4).trans rfl; have hcz13_5 : w12.cell? ⟨gb394,5,none⟩ = some (.slice A0_5 l0_5.length c0_5) := (QD BK394.out 5).trans rfl; have hcz13_6 : w12.cell? ⟨gb394,6,none⟩ = some (.int .i64 a0_6) := (QD BK394.out 6).trans rfl; have hcz13_7 : w12.cell? ⟨gb394,7,none⟩ = some (.int .i64 a0_7) := (QD BK394.out 7).trans rfl; have hcz13_8 : w12.cell? ⟨gb394,8,none⟩ = some (.slice A0_8 l0_8.length c0_8) := (QD BK394.out 8).trans rfl; have hcz13_9 : w12.cell? ⟨gb394,9,none⟩ = some (.slice A0_9 l0_9.length c0_9) := (QD BK394.out 9).trans rfl; have hcz13_10 : w12.cell? ⟨gb394,10,none⟩ = some (.slice A0_10 l0_10.length c0_10) := (QD BK394.out 10).trans rfl; have hcz13_11 : w12.cell? ⟨gb394,11,none⟩ = some (.int .i64 a0_11) := (QD BK394.out 11).trans rfl; have hcz13_12 : w12.cell? ⟨gb394,12,none⟩ = some (.int .i64 a0_12) := (QD BK394.out 12).trans rfl; have hcz13_13 : w12.cell? ⟨gb394,13,none⟩ = some (.int .i64 a0_13) := (QD BK394.out 13).trans rfl; have hfz13_0 := QB BK394.out 0; have hfz13_1 := QB BK394.out 1; have hfz13_2 := QB BK394.out 2; have hfz13_3 := QB BK394.out 3; have hfz13_4 := QB BK394.out 4; have hfz13_5 := QB BK394.out 5; have hfz13_6 := QB BK394.out 6; have hfz13_7 := QB BK394.out 7; have hfz13_8 := QB BK394.out 8; have hfz13_9 := QB BK394.out 9; have hfz13_10 := QB BK394.out 10; have hfz13_11 := QB BK394.out 11; have hfz13_12 := QB BK394.out 12; have hfz13_13 := QB BK394.out 13) | ((with_reducible refine gate_callee (f := 30) rfl ?_); refine goesL_ (some 4) rfl rfl Try.func30 (by kernel_rfl) rfl #[.agg #[.int .i64 a0_0,.int .i64 a0_1,.bool a0_2,.bool a0_3,.slice A0_4 l0_4.length c0_4,.slice A0_5 l0_5.length c0_5,.int .i64 a0_6,.int .i64 a0_7,.slice A0_8 l0_8.length c0_8,.slice A0_9 l0_9.length c0_9,.slice A0_10 l0_10.length c0_10,.int .i64 a0_11,.int .i64 a0_12,.int .i64 a0_13]] rfl (by (try simp only [List.map_toArray,List.map_cons,List.map_nil]); first | done | rfl | (simp only [List.length_drop,List.length_take]; rfl)) ?_; (with_reducible refine (impl_IsGame.calls k a0_0 a0_1 a0_2 a0_3 _ _ l0_4 _ _ l0_5 a0_6 a0_7 _ _ l0_8 (fun k_ => k_ < w.heap.size) _ _ l0_9 (fun k_ => k_ < w.heap.size) _ _ l0_10 a0_11 a0_12 a0_13 _ _ ?side1 ?side2 ?side3 ?side4 ?side5 ?side6 ?side7 ?side8 A2.out).mono ?_); (case side1 => repeat (first | exact (Kd.C_below HR0_4.out HB.out) | (with_reducible refine QO ?_ _) | (with_reducible refine QP ?_ _) | (with_reducible refine Kd.C_drew ?_))); (case side2 => exact HC0_4.out); (case side3 => repeat (first | exact (Kd.C_below HR0_5.out HB.out) | (with_reducible refine QO ?_ _) | (with_reducible refine QP ?_ _) | (with_reducible refine Kd.C_drew ?_))); (case side4 => exact HC0_5.out); (case side5 => repeat (first | exact (Kd.C_below HR0_8.out HB.out) | (with_reducible refine QO ?_ _) | (with_reducible refine QP ?_ _) | (with_reducible refine Kd.C_drew ?_))); (case side6 => exact HC0_8.out); (case side7 => exact Kd.V_mk HC0_9.out (Kd.F_below (Kd.C_F (Kd.heap_int .i64) HR0_9.out) (by repeat (first | (with_reducible first | exact HB.out | apply QF | apply QC | apply QE | refine QJ ?_ GE394.out) | exact HB.out)))); (case side8 => exact Kd.V_mk HC0_10.out (Kd.F_below (Kd.C_F (Kd.heap_int .i64) HR0_10.out) (by repeat (first | (with_reducible first | exact HB.out | apply QF | apply QC | apply QE | refine QJ ?_ GE394.out) | exact HB.out)))); rintro e w14 ⟨rfl,hb⟩; refine ⟨_,rfl,?_⟩; have n0_ := QU (blk_below (g := gb394) (o := _) (by (with_reducible repeat (first | refine blk_drewN ?_ _ | refine blk_drew ?_ | refine blk_alloc ?_ _)); exact BK394.out) hb); have n1_ := QU (below_step (by repeat (first | (with_reducible first | exact HB.out | apply QF | apply QC | apply QE | refine QJ ?_ GE394.out) | exact HB.out)) hb); clear BK394; clear HB; revert n0_ n1_; intro BK394 HB; (try clear hb); (try clear hb2); (try clear hk); (try clear hi); have hcz15_0 : w14.cell? ⟨gb394,0,none⟩ = some (.int .i64 a0_0) := (QD BK394.out 0).trans rfl; have hcz15_1 : w14.cell? ⟨gb394,1,none⟩ = some (.int .i64 a0_1) := (QD BK394.out 1).trans rfl; have hcz15_2 : w14.cell? ⟨gb394,2,none⟩ = some (.bool a0_2) := (QD BK394.out 2).trans rfl; have hcz15_3 : w14.cell? ⟨gb394,3,none⟩ = some (.bool a0_3) := (QD BK394.out 3).trans rfl; have hcz15_4 : w14.cell? ⟨gb394,4,none⟩ = some (.slice A0_4 l0_4.length c0_4) := (QD BK394.out 4).trans rfl; have hcz15_5 : w14.cell? ⟨gb394,5,none⟩ = some (.slice A0_5 l0_5.length c0_5) := (QD BK394.out 5).trans rfl; have hcz15_6 : w14.cell? ⟨gb394,6,none⟩ = some (.int .i64 a0_6) := (QD BK394.out 6).trans rfl; have hcz15_7 : w14.cell? ⟨gb394,7,none⟩ = some (.int .i64 a0_7) := (QD BK394.out 7).trans rfl; have hcz15_8 : w14.cell? ⟨gb394,8,none⟩ = some (.slice A0_8 l0_8.length c0_8) := (QD BK394.out 8).trans rfl; have hcz15_9 : w14.cell? ⟨gb394,9,none⟩ = some (.slice A0_9 l0_9.length c0_9) := (QD BK394.out 9).trans rfl; have hcz15_10 : w14.cell? ⟨gb394,10,none⟩ = some (.slice A0_10 l0_10.length c0_10) := (QD BK394.out 10).trans rfl; have hcz15_11 : w14.cell? ⟨gb394,11,none⟩ = some (.int .i64 a0_11) := (QD BK394.out 11).trans rfl; have hcz15_12 : w14.cell? ⟨gb394,12,none⟩ = some (.int .i64 a0_12) := (QD BK394.out 12).trans rfl; have hcz15_13 : w14.cell? ⟨gb394,13,none⟩ = some (.int .i64 a0_13) := (QD BK394.out 13).trans rfl; have hfz15_0 := QB BK394.out 0; have hfz15_1 := QB BK394.out 1; have hfz15_2 := QB BK394.out 2; have hfz15_3 := QB BK394.out 3; have hfz15_4 := QB BK394.out 4; have hfz15_5 := QB BK394.out 5; have hfz15_6 := QB BK394.out 6; have hfz15_7 := QB BK394.out 7; have hfz15_8 := QB BK394.out 8; have hfz15_9 := QB BK394.out 9; have hfz15_10 := QB BK394.out 10; have hfz15_11 := QB BK394.out 11; have hfz15_12 := QB BK394.out 12; have hfz15_13 := QB BK394.out 13) | (go_at_call 45; (with_reducible refine (impl_Winner.calls k a0_0 a0_1 a0_2 a0_3 _ _ l0_4 _ _ l0_5 a0_6 a0_7 _ _ l0_8 _ _ l0_9 _ _ l0_10 a0_11 a0_12 a0_13 t396 _ ?side1 ?side2 ?side3 ?side4 ?side5 ?side6 ?side7 ?side8 ?side9 ?side10 A4.out).mono ?_); (case side1 => repeat (first | exact (Kd.C_below HR0_4.out HB.out) | (with_reducible refine QO ?_ _) | (with_reducible refine QP ?_ _) | (with_reducible refine Kd.C_drew ?_))); (case side2 => exact HC0_4.out); (case side3 => repeat (first | exact (Kd.C_below HR0_5.out HB.out) | (with_reducible refine QO ?_ _) | (with_reducible refine QP ?_ _) | (with_reducible refine Kd.C_drew ?_))); (case side4 => exact HC0_5.out); (case side5 => repeat (first | exact (Kd.C_below HR0_8.out HB.out) | (with_reducible refine QO ?_ _) | (with_reducible refine QP ?_ _) | (with_reducible refine Kd.C_drew ?_))); (case side6 => exact HC0_8.out); (case side7 => repeat (first | exact (Kd.C_below HR0_9.out HB.out) | (with_reducible refine QO ?_ _) | (with_reducible refine QP ?_ _) | (with_reducible refine Kd.C_drew ?_))); (case side8 => exact HC0_9.out); (case side9 => repeat (first | exact (Kd.C_below HR0_10.out HB.out) | (with_reducible refine QO ?_ _) | (with_reducible refine QP ?_ _) | (with_reducible refine Kd.C_drew ?_))); (case side10 => exact HC0_10.out); rintro e w16 ⟨rfl,hb⟩; have n0_ := QU (blk_below (g := gb394) (o := _) (by (with_reducible repeat (first | refine blk_drewN ?_ _ | refine blk_drew ?_ | refine blk_alloc ?_ _)); exact BK394.out) hb); have n1_ := QU (below_step (by repeat (first | (with_reducible first | exact HB.out | apply QF | apply QC | apply QE | refine QJ ?_ GE394.out) | exact HB.out)) hb); clear BK394; clear HB; revert n0_ n1_; intro BK394 HB; (try clear hb); (try clear hb2); (try clear hk); (try clear hi); have hcz17_0 : w16.cell? ⟨gb394,0,none⟩ = some (.int .i64 a0_0) := (QD BK394.out 0).trans rfl; have hcz17_1 : w16.cell? ⟨gb394,1,none⟩ = some (.int .i64 a0_1) := (QD BK394.out 1).trans rfl; have hcz17_2 : w16.cell? ⟨gb394,2,none⟩ = some (.bool a0_2) := (QD BK394.out 2).trans rfl; have hcz17_3 : w16.cell? ⟨gb394,3,none⟩ = some (.bool a0_3) := (QD BK394.out 3).trans rfl; have hcz17_4 : w16.cell? ⟨gb394,4,none⟩ = some (.slice A0_4 l0_4.length c0_4) := (QD BK394.out 4).trans rfl; have hcz17_5 : w16.cell? ⟨gb394,5,none⟩ = some (.slice A0_5 l0_5.length c0_5) := (QD BK394.out 5).trans rfl; have hcz17_6 : w16.cell? ⟨gb394,6,none⟩ = some (.int .i64 a0_6) := (QD BK394.out 6).trans rfl; have hcz17_7 : w16.cell? ⟨gb394,7,none⟩ = some (.int .i64 a0_7) := (QD BK394.out 7).trans rfl; have hcz17_8 : w16.cell? ⟨gb394,8,none⟩ = some (.slice A0_8 l0_8.length c0_8) := (QD BK394.out 8).trans rfl; have hcz17_9 : w16.cell? ⟨gb394,9,none⟩ = some (.slice A0_9 l0_9.length c0_9) := (QD BK394.out 9).trans rfl; have hcz17_10 : w16.cell? ⟨gb394,10,none⟩ = some (.slice A0_10 l0_10.length c0_10) := (QD BK394.out 10).trans rfl; have hcz17_11 : w16.cell? ⟨gb394,11,none⟩ = some (.int .i64 a0_11) := (QD BK394.out 11).trans rfl; have hcz17_12 : w16.cell? ⟨gb394,12,none⟩ = some (.int .i64 a0_12) := (QD BK394.out 12).trans rfl; have hcz17_13 : w16.cell? ⟨gb394,13,none⟩ = some (.int .i64 a0_13) := (QD BK394.out 13).trans rfl; have hfz17_0 := QB BK394.out 0; have hfz17_1 := QB BK394.out 1; have hfz17_2 := QB BK394.out 2; have hfz17_3 := QB BK394.out 3; have hfz17_4 := QB BK394.out 4; have hfz17_5 := QB BK394.out 5; have hfz17_6 := QB BK394.out 6; have hfz17_7 := QB BK394.out 7; have hfz17_8 := QB BK394.out 8; have hfz17_9 := QB BK394.out 9; have hfz17_10 := QB BK394.out 10; have hfz17_11 := QB BK394.out 11; have hfz17_12 := QB BK394.out 12; have hfz17_13 := QB BK394.out 13))
  go_ret
  exact ⟨by first | rfl | (simp [errW_none,errW_some] <;> rfl) | (simp [*,errW_none,errW_some] <;> rfl),by repeat (first | (with_reducible first | exact HB.out | apply QF | apply QC | apply QE | refine QJ ?_ GE394.out) | exact HB.out)⟩

/-! ### impl_Sorted: function 32 -/
-- impl.Sorted stands with spec.Sorted.

/-! ### impl_SuitOf: function 21 -/
def impl_SuitOf.f (a0 : Int) : Option (Int) := (impl_IsCard.f a0).bind fun t403 => (if t403 = true then (some (wrap64 (Int.tdiv a0 13))) else (some (-1)))
set_option maxHeartbeats 8000000 in
set_option maxRecDepth 100000 in
theorem impl_SuitOf.calls (a0 : Int) (r : Int) (w : World) (h : impl_SuitOf.f a0 = some r) :
  Calls Try.prog 21 #[.int .i64 a0] w fun e w' => e = .returned (.int .i64 r) ∧ Drawn0 w w' := by
 have H : ((impl_IsCard.f a0).bind fun t403 => (if t403 = true then (some (wrap64 (Int.tdiv a0 13))) else (some (-1)))) = some r := h
 clear h
 replace H := Option.bind_eq_some_iff.mp H
 obtain ⟨t403,A20,H⟩ := H
 have A2 := QU A20
 clear A20
 by_cases c3 : t403 = true
 ·subst c3
  rw [if_pos rfl] at H
  obtain rfl := Option.some.inj H
  go_enter Try.func21,Try.ntmps21
  go_wp2_with (first | ((with_reducible refine gate_callee (f := 34) rfl ?_); refine goesL_ (some 4) rfl rfl Try.func34 (by kernel_rfl) rfl #[.int .i64 a0] rfl (by (try simp only [List.map_toArray,List.map_cons,List.map_nil]); first | done | rfl | (simp only [List.length_drop,List.length_take]; rfl)) ?_; (with_reducible refine (impl_IsCard.calls a0 true _ A2.out).mono ?_); rintro e w' ⟨rfl,⟨nd,rfl⟩⟩; refine ⟨_,rfl,?_⟩))
  go_ret
  exact ⟨by first | rfl | (simp; done) | (simp [*]; done),by repeat (first | exact Drawn0.refl _ | apply Drawn0.step)⟩
 ·replace c3 := Bool.eq_false_iff.mpr c3
  subst c3
  rw [if_neg (show ¬ (false = true) by decide)] at H
  obtain rfl := Option.some.inj H
  go_enter Try.func21,Try.ntmps21
  go_wp2_with (first | ((with_reducible refine gate_callee (f := 34) rfl ?_); refine goesL_ (some 4) rfl rfl Try.func34 (by kernel_rfl) rfl #[.int .i64 a0] rfl (by (try simp only [List.map_toArray,List.map_cons,List.map_nil]); first | done | rfl | (simp only [List.length_drop,List.length_take]; rfl)) ?_; (with_reducible refine (impl_IsCard.calls a0 false _ A2.out).mono ?_); rintro e w' ⟨rfl,⟨nd,rfl⟩⟩; refine ⟨_,rfl,?_⟩))
  go_ret
  exact ⟨by first | rfl | (simp; done) | (simp [*]; done),by repeat (first | exact Drawn0.refl _ | apply Drawn0.step)⟩

/-! ### impl_RankOf: function 46 -/
def impl_RankOf.f (a0 : Int) : Option (Int) := (impl_IsCard.f a0).bind fun t404 => (if t404 = true then (some (Int.tmod a0 13)) else (some (-1)))
set_option maxHeartbeats 8000000 in
set_option maxRecDepth 100000 in
theorem impl_RankOf.calls (a0 : Int) (r : Int) (w : World) (h : impl_RankOf.f a0 = some r) :
  Calls Try.prog 46 #[.int .i64 a0] w fun e w' => e = .returned (.int .i64 r) ∧ Drawn0 w w' := by
 have H : ((impl_IsCard.f a0).bind fun t404 => (if t404 = true then (some (Int.tmod a0 13)) else (some (-1)))) = some r := h
 clear h
 replace H := Option.bind_eq_some_iff.mp H
 obtain ⟨t404,A20,H⟩ := H
 have A2 := QU A20
 clear A20
 by_cases c3 : t404 = true
 ·subst c3
  rw [if_pos rfl] at H
  obtain rfl := Option.some.inj H
  go_enter Try.func46,Try.ntmps46
  go_wp2_with (first | ((with_reducible refine gate_callee (f := 34) rfl ?_); refine goesL_ (some 4) rfl rfl Try.func34 (by kernel_rfl) rfl #[.int .i64 a0] rfl (by (try simp only [List.map_toArray,List.map_cons,List.map_nil]); first | done | rfl | (simp only [List.length_drop,List.length_take]; rfl)) ?_; (with_reducible refine (impl_IsCard.calls a0 true _ A2.out).mono ?_); rintro e w' ⟨rfl,⟨nd,rfl⟩⟩; refine ⟨_,rfl,?_⟩))
  go_ret
  exact ⟨by first | rfl | (simp; done) | (simp [*]; done),by repeat (first | exact Drawn0.refl _ | apply Drawn0.step)⟩
 ·replace c3 := Bool.eq_false_iff.mpr c3
  subst c3
  rw [if_neg (show ¬ (false = true) by decide)] at H
  obtain rfl := Option.some.inj H
  go_enter Try.func46,Try.ntmps46
  go_wp2_with (first | ((with_reducible refine gate_callee (f := 34) rfl ?_); refine goesL_ (some 4) rfl rfl Try.func34 (by kernel_rfl) rfl #[.int .i64 a0] rfl (by (try simp only [List.map_toArray,List.map_cons,List.map_nil]); first | done | rfl | (simp only [List.length_drop,List.length_take]; rfl)) ?_; (with_reducible refine (impl_IsCard.calls a0 false _ A2.out).mono ?_); rintro e w' ⟨rfl,⟨nd,rfl⟩⟩; refine ⟨_,rfl,?_⟩))
  go_ret
  exact ⟨by first | rfl | (simp; done) | (simp [*]; done),by repeat (first | exact Drawn0.refl _ | apply Drawn0.step)⟩

/-! ### impl_IsRed: function 62 -/
def impl_IsRed.f (a0 : Int) : Option (Bool) := (impl_SuitOf.f a0).bind fun t405 => (if t405 = 1 then (some true) else ((impl_SuitOf.f a0).bind fun t406 => (some (t406 == 2))))
set_option maxHeartbeats 8000000 in
set_option maxRecDepth 100000 in
theorem impl_IsRed.calls (a0 : Int) (r : Bool) (w : World) (h : impl_IsRed.f a0 = some r) :
  Calls Try.prog 62 #[.int .i64 a0] w fun e w' => e = .returned (.bool r) ∧ Drawn0 w w' := by
 have H : ((impl_SuitOf.f a0).bind fun t405 => (if t405 = 1 then (some true) else ((impl_SuitOf.f a0).bind fun t406 => (some (t406 == 2))))) = some r := h
 clear h
 replace H := Option.bind_eq_some_iff.mp H
 obtain ⟨t405,A20,H⟩ := H
 have A2 := QU A20
 clear A20
 by_cases c3 : t405 = 1
 ·rw [if_pos c3] at H
  have c3b0 : (t405 == 1) = true := beq_iff_eq.mpr c3
  have c3b1 : (t405 != 1) = false := bne_eq_false_iff_eq.mpr c3
  clear c3
  obtain rfl := Option.some.inj H
  go_enter Try.func62,Try.ntmps62
  go_wp2_with (first | ((with_reducible refine gate_callee (f := 21) rfl ?_); refine goesL_ (some 4) rfl rfl Try.func21 (by kernel_rfl) rfl #[.int .i64 a0] rfl (by (try simp only [List.map_toArray,List.map_cons,List.map_nil]); first | done | rfl | (simp only [List.length_drop,List.length_take]; rfl)) ?_; (with_reducible refine (impl_SuitOf.calls a0 t405 _ A2.out).mono ?_); rintro e w' ⟨rfl,⟨nd,rfl⟩⟩; refine ⟨_,rfl,?_⟩))
  go_ret
  exact ⟨by first | rfl | (simp; done) | (simp [*]; done),by repeat (first | exact Drawn0.refl _ | apply Drawn0.step)⟩
 ·rw [if_neg c3] at H
  have c3b0 : (t405 == 1) = false := beq_eq_false_iff_ne.mpr c3
  have c3b1 : (t405 != 1) = true := bne_iff_ne.mpr c3
  replace H := Option.bind_eq_some_iff.mp H
  obtain ⟨t406,A40,H⟩ := H
  have A4 := QU A40
  clear A40
  try (obtain rfl := Option.some.inj (A4.out.symm.trans A2.out))
  obtain rfl := Option.some.inj H
  go_enter Try.func62,Try.ntmps62
  go_wp2_with (first | ((with_reducible refine gate_callee (f := 21) rfl ?_); refine goesL_ (some 4) rfl rfl Try.func21 (by kernel_rfl) rfl #[.int .i64 a0] rfl (by (try simp only [List.map_toArray,List.map_cons,List.map_nil]); first | done | rfl | (simp only [List.length_drop,List.length_take]; rfl)) ?_; (with_reducible refine (impl_SuitOf.calls a0 t405 _ A2.out).mono ?_); rintro e w' ⟨rfl,⟨nd,rfl⟩⟩; refine ⟨_,rfl,?_⟩) | (go_at_call 21; (with_reducible refine (impl_SuitOf.calls a0 t406 _ A4.out).mono ?_); rintro e w' ⟨rfl,⟨nd,rfl⟩⟩))
  go_ret
  exact ⟨by first | rfl | (simp; done) | (simp [*]; done),by repeat (first | exact Drawn0.refl _ | apply Drawn0.step)⟩

/-! ### impl_asks: function 57 -/
def impl_asks.f (a0 : Int) (a1 : Int) : Option (Bool) := if a0 = 400 then ((impl_IsRed.f a1).bind fun t407 => (some t407)) else (if a0 ≥ 300 then ((impl_RankOf.f a1).bind fun t408 => (some (decide (t408 ≥ (wrap64 (a0 - 300)))))) else (if a0 ≥ 200 then ((impl_RankOf.f a1).bind fun t409 => (some (t409 == (wrap64 (a0 - 200))))) else ((impl_SuitOf.f a1).bind fun t410 => (some (t410 == (wrap64 (a0 - 100)))))))
set_option maxHeartbeats 8000000 in
set_option maxRecDepth 100000 in
theorem impl_asks.calls (a0 : Int) (a1 : Int) (r : Bool) (w : World) (h : impl_asks.f a0 a1 = some r) :
  Calls Try.prog 57 #[.int .i64 a0,.int .i64 a1] w fun e w' => e = .returned (.bool r) ∧ Drawn0 w w' := by
 have H : (if a0 = 400 then ((impl_IsRed.f a1).bind fun t407 => (some t407)) else (if a0 ≥ 300 then ((impl_RankOf.f a1).bind fun t408 => (some (decide (t408 ≥ (wrap64 (a0 - 300)))))) else (if a0 ≥ 200 then ((impl_RankOf.f a1).bind fun t409 => (some (t409 == (wrap64 (a0 - 200))))) else ((impl_SuitOf.f a1).bind fun t410 => (some (t410 == (wrap64 (a0 - 100)))))))) = some r := h
 clear h
 by_cases c3 : a0 = 400
 ·rw [if_pos c3] at H
  have c3b0 : (a0 == 400) = true := beq_iff_eq.mpr c3
  have c3b1 : (a0 != 400) = false := bne_eq_false_iff_eq.mpr c3
  clear c3
  replace H := Option.bind_eq_some_iff.mp H
  obtain ⟨t407,A40,H⟩ := H
  have A4 := QU A40
  clear A40
  obtain rfl := Option.some.inj H
  go_enter Try.func57,Try.ntmps57
  go_wp2_with (first | ((with_reducible refine gate_callee (f := 62) rfl ?_); refine goesL_ (some 9) rfl rfl Try.func62 (by kernel_rfl) rfl #[.int .i64 a1] rfl (by (try simp only [List.map_toArray,List.map_cons,List.map_nil]); first | done | rfl | (simp only [List.length_drop,List.length_take]; rfl)) ?_; (with_reducible refine (impl_IsRed.calls a1 t407 _ A4.out).mono ?_); rintro e w' ⟨rfl,⟨nd,rfl⟩⟩; refine ⟨_,rfl,?_⟩))
  go_ret
  exact ⟨by first | rfl | (simp; done) | (simp [*]; done),by repeat (first | exact Drawn0.refl _ | apply Drawn0.step)⟩
 ·rw [if_neg c3] at H
  have c3b0 : (a0 == 400) = false := beq_eq_false_iff_ne.mpr c3
  have c3b1 : (a0 != 400) = true := bne_iff_ne.mpr c3
  by_cases c5 : a0 ≥ 300
  ·rw [if_pos c5] at H
   have c5b0 : decide (300 ≤ a0) = true := decide_eq_true c5
   clear c5
   replace H := Option.bind_eq_some_iff.mp H
   obtain ⟨t408,A60,H⟩ := H
   have A6 := QU A60
   clear A60
   obtain rfl := Option.some.inj H
   go_enter Try.func57,Try.ntmps57
   go_wp2_with (first | ((with_reducible refine gate_callee (f := 46) rfl ?_); refine goesL_ (some 14) rfl rfl Try.func46 (by kernel_rfl) rfl #[.int .i64 a1] rfl (by (try simp only [List.map_toArray,List.map_cons,List.map_nil]); first | done | rfl | (simp only [List.length_drop,List.length_take]; rfl)) ?_; (with_reducible refine (impl_RankOf.calls a1 t408 _ A6.out).mono ?_); rintro e w' ⟨rfl,⟨nd,rfl⟩⟩; refine ⟨_,rfl,?_⟩))
   go_ret
   exact ⟨by first | rfl | (simp; done) | (simp [*]; done),by repeat (first | exact Drawn0.refl _ | apply Drawn0.step)⟩
  ·rw [if_neg c5] at H
   have c5b0 : decide (300 ≤ a0) = false := decide_eq_false c5
   clear c5
   by_cases c7 : a0 ≥ 200
   ·rw [if_pos c7] at H
    have c7b0 : decide (200 ≤ a0) = true := decide_eq_true c7
    clear c7
    replace H := Option.bind_eq_some_iff.mp H
    obtain ⟨t409,A80,H⟩ := H
    have A8 := QU A80
    clear A80
    try (obtain rfl := Option.some.inj (A8.out.symm.trans A6.out))
    obtain rfl := Option.some.inj H
    go_enter Try.func57,Try.ntmps57
    go_wp2_with (first | ((with_reducible refine gate_callee (f := 46) rfl ?_); refine goesL_ (some 22) rfl rfl Try.func46 (by kernel_rfl) rfl #[.int .i64 a1] rfl (by (try simp only [List.map_toArray,List.map_cons,List.map_nil]); first | done | rfl | (simp only [List.length_drop,List.length_take]; rfl)) ?_; (with_reducible refine (impl_RankOf.calls a1 t409 _ A8.out).mono ?_); rintro e w' ⟨rfl,⟨nd,rfl⟩⟩; refine ⟨_,rfl,?_⟩))
    go_ret
    exact ⟨by first | rfl | (simp; done) | (simp [*]; done),by repeat (first | exact Drawn0.refl _ | apply Drawn0.step)⟩
   ·rw [if_neg c7] at H
    have c7b0 : decide (200 ≤ a0) = false := decide_eq_false c7
    clear c7
    replace H := Option.bind_eq_some_iff.mp H
    obtain ⟨t410,A90,H⟩ := H
    have A9 := QU A90
    clear A90
    obtain rfl := Option.some.inj H
    go_enter Try.func57,Try.ntmps57
    go_wp2_with (first | ((with_reducible refine gate_callee (f := 21) rfl ?_); refine goesL_ (some 27) rfl rfl Try.func21 (by kernel_rfl) rfl #[.int .i64 a1] rfl (by (try simp only [List.map_toArray,List.map_cons,List.map_nil]); first | done | rfl | (simp only [List.length_drop,List.length_take]; rfl)) ?_; (with_reducible refine (impl_SuitOf.calls a1 t410 _ A9.out).mono ?_); rintro e w' ⟨rfl,⟨nd,rfl⟩⟩; refine ⟨_,rfl,?_⟩))
    go_ret
    exact ⟨by first | rfl | (simp; done) | (simp [*]; done),by repeat (first | exact Drawn0.refl _ | apply Drawn0.step)⟩

end Go.Proofs.Ytdfmobcocaijpaa.QFnExactChoiceOf
