/- What a call of each Go function that FnExactPlayable reaches comes to, as a Lean function: texts of the kit's print, turned by wip/remake.py. No condition beyond what each names. -/
import Derived.Test.YtkhgeockdjjhmaaQFnExactPlayablex4
namespace Go.Proofs.Ytkhgeockdjjhmaa.QFnExactPlayable
open Go.RowKit Go.Proofs.YtkhgeockdjjhmaaW.PrintWords Go.Proofs.YtkhgeockdjjhmaaW.PrintLast Go.Proofs.YtkhgeockdjjhmaaW.PrintMore
open Go.Proofs.YtkhgeockdjjhmaaW.PrintWords renaming blk_cell → QB, pw_below_drewN → QE, below_drew1 → QG, below_alloc → QH, below_set → QJ
open Go.Proofs.YtkhgeockdjjhmaaW.PrintLast renaming i64_w → QC, i32_w → QD, any_of → QF, pure_ → QI
open Go.Proofs.YtkhgeockdjjhmaaW.PrintWords.Kd renaming V_alloc → QK, V_drewN → QL, V_drew → QM
open List renaming setIfInBounds_toArray → QN, set_cons_zero → QO, set_cons_succ → QP
open Go.Proofs.YtkhgeockdjjhmaaW.PrintWords.Aside0 renaming mk → QR
attribute [local go_sem] max2_int min2_int max_two min_two max_three min_three max_four min_four   -- for this text's walks alone
set_option linter.unusedVariables false
set_option linter.unusedSimpArgs false

/-! ### impl_IsGame: function 46 -/
def impl_IsGame.f (k : Nat) (a0_0 : Int) (a0_1 : Int) (a0_2 : Bool) (a0_3 : Bool) (l0_4 : List Int) (l0_5 : List Int) (a0_6 : Int) (a0_7 : Int) (l0_8 : List (List Int)) (l0_9 : List Int) (l0_10 : List Int) (a0_11 : Int) (a0_12 : Int) (a0_13 : Int) : Option (Bool) := (impl_IsRules.f k a0_0 a0_1 a0_2 a0_3 l0_4 l0_5 a0_6 a0_7).bind fun t362 => (if t362 = true then (if (l0_8.length : Int) = a0_0 then ((impl_copyRows.f k l0_8).bind fun t363 => ((some (([l0_9, l0_10] : List (List Int)) : List (List Int))).bind fun y366 => (if t363.length + y366.length < 5864062014805 then ((impl_isWhole.f k (t363 ++ y366)).bind fun t372 => (if t372 = true then (if (l0_10.length : Int) > 0 then ((impl_InRange.f a0_11 0 (wrap64 ((l0_8.length : Int) - 1))).bind fun t373 => (if t373 = true then ((impl_InRange.f a0_12 0 a0_7).bind fun t374 => (if t374 = true then ((impl_InRange.f a0_13 0 a0_12).bind fun t375 => (some t375)) else (some false))) else (some false))) else (some false)) else (some false))) else (none)))) else (some false)) else (some false))
theorem impl_IsGame.mono : ∀ a0 a1 a2 a3 a4 a5 a6 a7 a8 a9 a10 a11 a12 a13 k, LeO (impl_IsGame.f k a0 a1 a2 a3 a4 a5 a6 a7 a8 a9 a10 a11 a12 a13) (impl_IsGame.f (k + 1) a0 a1 a2 a3 a4 a5 a6 a7 a8 a9 a10 a11 a12 a13) := by
 intro a0 a1 a2 a3 a4 a5 a6 a7 a8 a9 a10 a11 a12 a13 k
 unfold impl_IsGame.f
 repeat' first
   | (with_reducible exact impl_IsRules.mono _ _ _ _ _ _ _ _ _)
   | (with_reducible exact impl_copyRows.mono _ _)
   | (with_reducible exact impl_isWhole.mono _ _)
   | (with_reducible exact LeO.refl _)
   | (with_reducible exact LeO.none _)
   | (with_reducible refine LeO.ite ?_ ?_)
   | (with_reducible refine LeO.bind ?_ (fun _ => ?_))
   | exact impl_IsRules.mono _ _ _ _ _ _ _ _ _
   | exact impl_copyRows.mono _ _
   | exact impl_isWhole.mono _ _
   | exact LeO.none _
   | refine LeO.ite ?_ ?_
   | refine LeO.bind ?_ (fun _ => ?_)
def impl_IsGame.T1 : Bool × List (List Nat × List Nat) := (true, [([], []), ([0], [0]), ([1], [1]), ([2, 2], [2]), ([3], [3]), ([4, 3], [3, 4]), ([5, 3], [3, 5]), ([3], [3]), ([7, 3], [3, 7]), ([8, 3], [3, 8]), ([6, 9, 3], [3, 6, 9]), ([3, 10], [3, 10]), ([11, 3], [11]), ([12], [12]), ([13, 12], [12, 13]), ([14, 12, 12], [12, 14]), ([12], [12]), ([16, 12], [12, 16]), ([12], [12]), ([18, 12], [12, 18]), ([17, 19, 12], [12, 17, 19]), ([15, 20, 15, 12], [12, 15, 20]), ([21, 21, 12], [12, 21]), ([12, 22], [12, 22]), ([23, 22], [23]), ([24], [24]), ([25, 24], [24, 25]), ([26, 24], [24, 26]), ([27, 24], [24, 27]), ([24, 28], [24, 28]), ([29, 24], [29]), ([30], [30]), ([31, 30], [30, 31]), ([30], [30]), ([33, 30], [30, 33]), ([34, 30], [30, 34]), ([35, 30], [30, 35]), ([32, 36, 30, 30], [30, 32, 36]), ([30, 37], [30, 37]), ([38, 37], [38]), ([39], [39]), ([40, 39], [39, 40]), ([39], [39]), ([42, 39], [39, 42]), ([43, 39], [39, 43]), ([41, 44, 39, 39], [39, 41, 44]), ([39, 45], [39, 45]), ([46, 45], [46]), ([47], [47]), ([48, 47], [47, 48]), ([47], [47]), ([50, 47], [47, 50]), ([49, 51, 47, 47], [47, 49, 51]), ([47, 52], [47, 52]), ([53, 52, 0, 1, 2, 3, 4, 5, 6, 7, 8, 9, 10, 11, 12, 13, 14, 15, 16, 17, 18, 19, 20, 21, 22, 23, 24, 25, 26, 27, 28, 29, 30, 31, 32, 33, 34, 35, 36, 37, 38, 39, 40, 41, 42, 43, 44, 45, 46, 47, 48, 49, 50, 51, 52, 53], [53])])
def impl_IsGame.B1 : List Nat := [0, 1, 3, 7, 15, 31, 63, 15, 143, 399, 1023, 2047, 4095, 8191, 16383, 32767, 8191, 73727, 8191, 270335, 991231, 2097151, 4194303, 8388607, 16777215, 33554431, 67108863, 134217727, 268435455, 536870911, 1073741823, 2147483647, 4294967295, 2147483647, 10737418239, 27917287423, 62277025791, 137438953471, 274877906943, 549755813887, 1099511627775, 2199023255551, 1099511627775, 5497558138879, 14293651161087, 35184372088831, 70368744177663, 140737488355327, 281474976710655, 562949953421311, 281474976710655, 1407374883553279, 4503599627370495, 9007199254740991, 18014398509481983]
theorem impl_IsGame.tab1 : rtab .any (opsOf Try.f46 1) = impl_IsGame.T1 := by kernel_rfl
theorem impl_IsGame.bits1 : waitsOk impl_IsGame.T1.2 impl_IsGame.B1 = true := by kernel_rfl
set_option maxHeartbeats 8000000 in
set_option maxRecDepth 100000 in
theorem impl_IsGame.calls (k : Nat) (a0_0 : Int) (a0_1 : Int) (a0_2 : Bool) (a0_3 : Bool) (A0_4 : Option Addr) (c0_4 : Nat) (l0_4 : List Int) (A0_5 : Option Addr) (c0_5 : Nat) (l0_5 : List Int) (a0_6 : Int) (a0_7 : Int) (A0_8 : Option Addr) (c0_8 : Nat) (l0_8 : List (List Int)) (P0_9_ : Nat → Prop) (A0_9 : Option Addr) (c0_9 : Nat) (l0_9 : List Int) (P0_10_ : Nat → Prop) (A0_10 : Option Addr) (c0_10 : Nat) (l0_10 : List Int) (a0_11 : Int) (a0_12 : Int) (a0_13 : Int) (r : Bool) (w : World) (hr0_4 : Kd.C (Kd.int .i64) w A0_4 l0_4.length l0_4) (hc0_4 : l0_4.length ≤ c0_4) (hr0_5 : Kd.C (Kd.int .i64) w A0_5 l0_5.length l0_5) (hc0_5 : l0_5.length ≤ c0_5) (hr0_8 : Kd.C (Kd.slice 3 (Kd.int .i64)) w A0_8 l0_8.length l0_8) (hc0_8 : l0_8.length ≤ c0_8) (hs0_9 : Kd.V (Kd.int .i64) 3 w w.heap.size (fun k_ => P0_9_ k_) (.slice A0_9 l0_9.length c0_9) l0_9) (hs0_10 : Kd.V (Kd.int .i64) 3 w w.heap.size (fun k_ => P0_10_ k_) (.slice A0_10 l0_10.length c0_10) l0_10) (h : impl_IsGame.f k a0_0 a0_1 a0_2 a0_3 l0_4 l0_5 a0_6 a0_7 l0_8 l0_9 l0_10 a0_11 a0_12 a0_13 = some r) :
  Calls Try.prog 46 #[.agg #[.int .i64 a0_0, .int .i64 a0_1, .bool a0_2, .bool a0_3, .slice A0_4 l0_4.length c0_4, .slice A0_5 l0_5.length c0_5, .int .i64 a0_6, .int .i64 a0_7, .slice A0_8 l0_8.length c0_8, .slice A0_9 l0_9.length c0_9, .slice A0_10 l0_10.length c0_10, .int .i64 a0_11, .int .i64 a0_12, .int .i64 a0_13]] w fun e w' => e = .returned (.bool r) ∧ Below w.heap.size w w' := by
 have hu59 := Try.underlying59
 have hu41 := Try.underlying41
 have HR0_4 := QR hr0_4
 have HC0_4 := QR hc0_4
 clear hr0_4 hc0_4
 have HR0_5 := QR hr0_5
 have HC0_5 := QR hc0_5
 clear hr0_5 hc0_5
 have HR0_8 := QR hr0_8
 have HC0_8 := QR hc0_8
 clear hr0_8 hc0_8
 have HO0_9 := QR (show Kd.V (Kd.int .i64) 3 w w.heap.size (fun k_ => ((P0_9_ k_ ∨ P0_10_ k_) ∨ w.heap.size ≤ k_)) (.slice A0_9 l0_9.length c0_9) l0_9 from Kd.V_mono hs0_9 (fun k_ hk => .inl (.inl hk)))
 have HO0_10 := QR (show Kd.V (Kd.int .i64) 3 w w.heap.size (fun k_ => ((P0_9_ k_ ∨ P0_10_ k_) ∨ w.heap.size ≤ k_)) (.slice A0_10 l0_10.length c0_10) l0_10 from Kd.V_mono hs0_10 (fun k_ hk => .inl (.inr hk)))
 have HB := QR (Below.refl w.heap.size w)
 have H : ((impl_IsRules.f k a0_0 a0_1 a0_2 a0_3 l0_4 l0_5 a0_6 a0_7).bind fun t362 => (if t362 = true then (if (l0_8.length : Int) = a0_0 then ((impl_copyRows.f k l0_8).bind fun t363 => ((some (([l0_9, l0_10] : List (List Int)) : List (List Int))).bind fun y366 => (if t363.length + y366.length < 5864062014805 then ((impl_isWhole.f k (t363 ++ y366)).bind fun t372 => (if t372 = true then (if (l0_10.length : Int) > 0 then ((impl_InRange.f a0_11 0 (wrap64 ((l0_8.length : Int) - 1))).bind fun t373 => (if t373 = true then ((impl_InRange.f a0_12 0 a0_7).bind fun t374 => (if t374 = true then ((impl_InRange.f a0_13 0 a0_12).bind fun t375 => (some t375)) else (some false))) else (some false))) else (some false)) else (some false))) else (none)))) else (some false)) else (some false))) = some r := h
 clear h
 replace H := Option.bind_eq_some_iff.mp H
 obtain ⟨t362, A20, H⟩ := H
 have A2 := QR A20
 clear A20
 go_enter Try.func46, Try.ntmps46
 try go_wp2_with (first | ((with_reducible refine gate_dst (N := 1) rfl ?_); (try (refine gate_guard (by rfl) ?_; dsimp only)); refine box_event ?hg (N := 1) ?hd (cs := #[.int .i64 a0_0, .int .i64 a0_1, .bool a0_2, .bool a0_3, .slice A0_4 l0_4.length c0_4, .slice A0_5 l0_5.length c0_5, .int .i64 a0_6, .int .i64 a0_7, .slice A0_8 l0_8.length c0_8, .slice A0_9 l0_9.length c0_9, .slice A0_10 l0_10.length c0_10, .int .i64 a0_11, .int .i64 a0_12, .int .i64 a0_13]) (t := 59) ?hr ?_; (case hd => rfl); (case hg => rfl); (case hr => first | (go_simp; done) | (go_simp; rfl)); intro gb361 hg w15 hbox hb; have n0_ := QR (Kd.V_below (Kd.V_elderB (by (with_reducible repeat (first | apply QK | apply QL | apply QM)); exact HO0_9.out) gb361 (Nat.le_of_eq hg.symm)) hb); have n1_ := QR (Kd.V_below (Kd.V_elderB (by (with_reducible repeat (first | apply QK | apply QL | apply QM)); exact HO0_10.out) gb361 (Nat.le_of_eq hg.symm)) hb); have n2_ := QR (below_step (by repeat (first | (with_reducible first | exact HB.out | apply QH | apply QE | apply QG) | exact HB.out)) hb); have n3_ := QR (hbox); have n4_ := QR ((by rw [hg]; exact (below_size (by repeat (first | (with_reducible first | exact HB.out | apply QH | apply QE | apply QG) | exact HB.out))) : w.heap.size ≤ gb361)); have n5_ := QR ((by rw [hg]; exact (below_size (by repeat (first | (with_reducible first | exact HB.out | apply QH | apply QE | apply QG) | exact HB.out))) : w.heap.size ≤ gb361)); clear HO0_9; clear HO0_10; clear HB; have HO0_9 := n0_; have HO0_10 := n1_; have HB := n2_; have BK361 := n3_; have GW361 := n4_; have GE361 := n5_; clear n0_ n1_ n2_ n3_ n4_ n5_; clear hb hbox hg))
 have n0_ := QR (QM HO0_9.out)
 have n1_ := QR (QM HO0_10.out)
 have n2_ := QR (blk_drew BK361.out)
 have n3_ := QR (QG HB.out)
 clear HO0_9
 clear HO0_10
 clear BK361
 clear HB
 have HO0_9 := n0_
 have HO0_10 := n1_
 have BK361 := n2_
 have HB := n3_
 clear n0_ n1_ n2_ n3_
 refine start_ (n := 55) (S := fun w' => w'.cell? ⟨gb361, 0, none⟩ = some (.int .i64 a0_0) ∧ w'.cell? ⟨gb361, 1, none⟩ = some (.int .i64 a0_1) ∧ w'.cell? ⟨gb361, 2, none⟩ = some (.bool a0_2) ∧ w'.cell? ⟨gb361, 3, none⟩ = some (.bool a0_3) ∧ w'.cell? ⟨gb361, 4, none⟩ = some (.slice A0_4 l0_4.length c0_4) ∧ w'.cell? ⟨gb361, 5, none⟩ = some (.slice A0_5 l0_5.length c0_5) ∧ w'.cell? ⟨gb361, 6, none⟩ = some (.int .i64 a0_6) ∧ w'.cell? ⟨gb361, 7, none⟩ = some (.int .i64 a0_7) ∧ w'.cell? ⟨gb361, 8, none⟩ = some (.slice A0_8 l0_8.length c0_8) ∧ w'.cell? ⟨gb361, 9, none⟩ = some (.slice A0_9 l0_9.length c0_9) ∧ w'.cell? ⟨gb361, 10, none⟩ = some (.slice A0_10 l0_10.length c0_10) ∧ w'.cell? ⟨gb361, 11, none⟩ = some (.int .i64 a0_11) ∧ w'.cell? ⟨gb361, 12, none⟩ = some (.int .i64 a0_12) ∧ w'.cell? ⟨gb361, 13, none⟩ = some (.int .i64 a0_13)) (ds := []) (ab 55 0) (by kernel_rfl) rfl rfl ⟨(QB BK361.out 0).trans rfl, (QB BK361.out 1).trans rfl, (QB BK361.out 2).trans rfl, (QB BK361.out 3).trans rfl, (QB BK361.out 4).trans rfl, (QB BK361.out 5).trans rfl, (QB BK361.out 6).trans rfl, (QB BK361.out 7).trans rfl, (QB BK361.out 8).trans rfl, (QB BK361.out 9).trans rfl, (QB BK361.out 10).trans rfl, (QB BK361.out 11).trans rfl, (QB BK361.out 12).trans rfl, (QB BK361.out 13).trans rfl⟩ (fun hHeld => ?_); refine with_tabW impl_IsGame.tab1 impl_IsGame.bits1 (fun HT_ HW_ => ?_)
 generalize w15.drew = w16 at HO0_9 HO0_10 BK361 HB hHeld ⊢
 refine QI (i := 0) (N := some 3) (v := ?_) (a' := ?_) (ab 55 1) rfl rfl (QF HT_.out (by kernel_rfl)) (fun _ _ _ h => h) (Or.inl ⟨by rfl, ?_⟩) ?_ ?_
 rotate_left
 ·intro w'
  go_simp
  with_reducible rfl
 rotate_left
 ·simp only [Act.put, QN, QO, QP, QC, QD]
  rfl
 refine take_ (i := 1) (N := some 4) (v := ?_) (a' := ?_) (ab 55 3) rfl rfl (take_ofW HT_.out HW_.out (by kernel_rfl)) (fun _ _ _ h => h) (Or.inl ⟨by rfl, ?_⟩) hHeld ?_ ?_
 rotate_left
 ·rintro w' ⟨s0, s1, s2, s3, s4, s5, s6, s7, s8, s9, s10, s11, s12, s13⟩
  go_simp
  with_reducible rfl
 rotate_left
 ·simp only [Act.put, QN, QO, QP, QC, QD]
  rfl
 refine one_ (i := 2) (N := some 5) (ab 55 7) rfl rfl (one_of HT_.out (by kernel_rfl)) (by decide) (fun K hK => ?_)
 refine goes_ Try.func110 (by kernel_rfl) rfl #[.agg #[.int .i64 a0_0, .int .i64 a0_1, .bool a0_2, .bool a0_3, .slice A0_4 l0_4.length c0_4, .slice A0_5 l0_5.length c0_5, .int .i64 a0_6, .int .i64 a0_7]] (by rfl) rfl rfl (by (try simp only [List.map_toArray, List.map_cons, List.map_nil]); first | done | rfl | (simp only [List.length_drop, List.length_take]; rfl)) ?_
 with_reducible refine (impl_IsRules.calls k a0_0 a0_1 a0_2 a0_3 _ _ l0_4 _ _ l0_5 a0_6 a0_7 t362 _ ?side1 ?side2 ?side3 ?side4 A2.out).mono ?_
 (case side1 => repeat (first | exact (Kd.C_below HR0_4.out HB.out) | (with_reducible refine Kd.C_alloc ?_ _) | (with_reducible refine Kd.C_drewN ?_ _) | (with_reducible refine Kd.C_drew ?_)))
 (case side2 => exact HC0_4.out)
 (case side3 => repeat (first | exact (Kd.C_below HR0_5.out HB.out) | (with_reducible refine Kd.C_alloc ?_ _) | (with_reducible refine Kd.C_drewN ?_ _) | (with_reducible refine Kd.C_drew ?_)))
 (case side4 => exact HC0_5.out)
 rintro e w17 ⟨rfl, hb⟩
 refine ⟨_, rfl, ?_⟩
 have n0_ := QR (Kd.V_below (by (with_reducible repeat (first | apply QK | apply QL | apply QM)); exact HO0_9.out) hb)
 have n1_ := QR (Kd.V_below (by (with_reducible repeat (first | apply QK | apply QL | apply QM)); exact HO0_10.out) hb)
 have n2_ := QR (blk_below (g := gb361) (o := _) (by (with_reducible repeat (first | refine blk_drewN ?_ _ | refine blk_drew ?_ | refine blk_alloc ?_ _)); exact BK361.out) hb)
 have n3_ := QR (below_step (by repeat (first | (with_reducible first | exact HB.out | apply QH | apply QE | apply QG | refine QJ ?_ GE361.out) | exact HB.out)) hb)
 clear HO0_9
 clear HO0_10
 clear BK361
 clear HB
 have HO0_9 := n0_
 have HO0_10 := n1_
 have BK361 := n2_
 have HB := n3_
 clear n0_ n1_ n2_ n3_
 (try clear hb)
 (try clear hb2)
 (try clear hk)
 (try clear hi)
 refine hK.out _ _ ⟨(QB BK361.out 0).trans rfl, (QB BK361.out 1).trans rfl, (QB BK361.out 2).trans rfl, (QB BK361.out 3).trans rfl, (QB BK361.out 4).trans rfl, (QB BK361.out 5).trans rfl, (QB BK361.out 6).trans rfl, (QB BK361.out 7).trans rfl, (QB BK361.out 8).trans rfl, (QB BK361.out 9).trans rfl, (QB BK361.out 10).trans rfl, (QB BK361.out 11).trans rfl, (QB BK361.out 12).trans rfl, (QB BK361.out 13).trans rfl⟩ (fun hHeld => ?_)
 clear hK K
 refine norm_ (a' := ?_) ?_ ?_
 rotate_left
 ·show Act.put _ (some 5) _ = _
  simp only [Act.put, QN, QO, QP, QC, QD]
  rfl
 refine QI (i := 3) (N := some 6) (v := ?_) (a' := ?_) (ab 55 15) rfl rfl (QF HT_.out (by kernel_rfl)) (fun _ _ _ h => h) (Or.inl ⟨by rfl, ?_⟩) ?_ ?_
 rotate_left
 ·intro w'
  go_simp
  with_reducible rfl
 rotate_left
 ·simp only [Act.put, QN, QO, QP, QC, QD]
  rfl
 by_cases c3 : t362 = true
 ·subst c3
  rw [if_pos rfl] at H
  refine QI (i := 4) (N := some 7) (v := ?_) (a' := ?_) (ab 55 31) rfl rfl (QF HT_.out (by kernel_rfl)) (fun _ _ _ h => h) (Or.inl ⟨by rfl, ?_⟩) ?_ ?_
  rotate_left
  ·intro w'
   go_simp
   with_reducible rfl
  rotate_left
  ·simp only [Act.put, QN, QO, QP, QC, QD]
   rfl
  refine QI (i := 7) (N := some 10) (v := ?_) (a' := ?_) (ab 55 159) rfl rfl (QF HT_.out (by kernel_rfl)) (fun _ _ _ h => h) (Or.inl ⟨by rfl, ?_⟩) ?_ ?_
  rotate_left
  ·intro w'
   go_simp
   with_reducible rfl
  rotate_left
  ·simp only [Act.put, QN, QO, QP, QC, QD]
   rfl
  refine QI (i := 8) (N := some 11) (v := ?_) (a' := ?_) (ab 55 415) rfl rfl (QF HT_.out (by kernel_rfl)) (fun _ _ _ h => h) (Or.inl ⟨by rfl, ?_⟩) ?_ ?_
  rotate_left
  ·intro w'
   go_simp
   with_reducible rfl
  rotate_left
  ·simp only [Act.put, QN, QO, QP, QC, QD]
   rfl
  refine take_ (i := 5) (N := some 8) (v := ?_) (a' := ?_) (ab 55 447) rfl rfl (take_ofW HT_.out HW_.out (by kernel_rfl)) (fun _ _ _ h => h) (Or.inl ⟨by rfl, ?_⟩) hHeld ?_ ?_
  rotate_left
  ·rintro w' ⟨s0, s1, s2, s3, s4, s5, s6, s7, s8, s9, s10, s11, s12, s13⟩
   go_simp
   with_reducible rfl
  rotate_left
  ·simp only [Act.put, QN, QO, QP, QC, QD]
   rfl
  refine QI (i := 6) (N := some 9) (v := ?_) (a' := ?_) (ab 55 511) rfl rfl (QF HT_.out (by kernel_rfl)) (fun _ _ _ h => h) (Or.inl ⟨by rfl, ?_⟩) ?_ ?_
  rotate_left
  ·intro w'
   go_simp
   with_reducible rfl
  rotate_left
  ·simp only [Act.put, QN, QO, QP, QC, QD]
   rfl
  refine take_ (i := 9) (N := some 12) (v := ?_) (a' := ?_) (ab 55 1023) rfl rfl (take_ofW HT_.out HW_.out (by kernel_rfl)) (fun _ _ _ h => h) (Or.inl ⟨by rfl, ?_⟩) hHeld ?_ ?_
  rotate_left
  ·rintro w' ⟨s0, s1, s2, s3, s4, s5, s6, s7, s8, s9, s10, s11, s12, s13⟩
   go_simp
   with_reducible rfl
  rotate_left
  ·simp only [Act.put, QN, QO, QP, QC, QD]
   rfl
  refine QI (i := 10) (N := some 13) (v := ?_) (a' := ?_) (ab 55 2047) rfl rfl (QF HT_.out (by kernel_rfl)) (fun _ _ _ h => h) (Or.inl ⟨by rfl, ?_⟩) ?_ ?_
  rotate_left
  ·intro w'
   go_simp
   with_reducible rfl
  rotate_left
  ·simp only [Act.put, QN, QO, QP, QC, QD]
   rfl
  refine QI (i := 11) (N := some 14) (v := ?_) (a' := ?_) (ab 55 4095) rfl rfl (QF HT_.out (by kernel_rfl)) (fun _ _ _ h => h) (Or.inl ⟨by rfl, ?_⟩) ?_ ?_
  rotate_left
  ·intro w'
   go_simp
   with_reducible rfl
  rotate_left
  ·simp only [Act.put, QN, QO, QP, QC, QD]
   rfl
  refine QI (i := 12) (N := some 15) (v := ?_) (a' := ?_) (ab 55 8191) rfl rfl (QF HT_.out (by kernel_rfl)) (fun _ _ _ h => h) (Or.inl ⟨by rfl, ?_⟩) ?_ ?_
  rotate_left
  ·intro w'
   go_simp
   with_reducible rfl
  rotate_left
  ·simp only [Act.put, QN, QO, QP, QC, QD]
   rfl
  by_cases c4 : (l0_8.length : Int) = a0_0
  ·rw [if_pos c4] at H
   have c4b0 : ((l0_8.length : Int) == a0_0) = true := beq_iff_eq.mpr c4
   have c4b1 : ((l0_8.length : Int) != a0_0) = false := bne_eq_false_iff_eq.mpr c4
   clear c4
   replace H := Option.bind_eq_some_iff.mp H
   obtain ⟨t363, A50, H⟩ := H
   have A5 := QR A50
   clear A50
   obtain ⟨y366, hy366⟩ : ∃ y_ : List (List Int), y_ = (([l0_9, l0_10] : List (List Int))) := ⟨_, rfl⟩
   replace H : (if t363.length + y366.length < 5864062014805 then ((impl_isWhole.f k (t363 ++ y366)).bind fun t372 => (if t372 = true then (if (l0_10.length : Int) > 0 then ((impl_InRange.f a0_11 0 (wrap64 ((l0_8.length : Int) - 1))).bind fun t373 => (if t373 = true then ((impl_InRange.f a0_12 0 a0_7).bind fun t374 => (if t374 = true then ((impl_InRange.f a0_13 0 a0_12).bind fun t375 => (some t375)) else (some false))) else (some false))) else (some false)) else (some false))) else (none)) = some r := by first | (rw [hy366]; with_reducible exact H) | (have H2_ := (Option.bind_some _ _).symm.trans H; rw [hy366]; with_reducible exact H2_) | (have H2_ := (Option.bind_some _ _).symm.trans H; with_reducible exact H2_) | with_reducible exact H | (rw [hy366]; exact H) | exact H
   have Ny366 := QR hy366
   clear hy366
   (try simp only [c4b0, c4b1])
   by_cases c6 : t363.length + y366.length < 5864062014805
   ·rw [if_pos c6] at H
    have LMc6 := QR c6
    clear c6
    obtain ⟨y369, hy369⟩ : ∃ y_ : List (List Int), y_ = (t363 ++ y366) := ⟨_, rfl⟩
    replace H : ((impl_isWhole.f k y369).bind fun t372 => (if t372 = true then (if (l0_10.length : Int) > 0 then ((impl_InRange.f a0_11 0 (wrap64 ((l0_8.length : Int) - 1))).bind fun t373 => (if t373 = true then ((impl_InRange.f a0_12 0 a0_7).bind fun t374 => (if t374 = true then ((impl_InRange.f a0_13 0 a0_12).bind fun t375 => (some t375)) else (some false))) else (some false))) else (some false)) else (some false))) = some r := by first | (rw [hy369]; with_reducible exact H) | (have H2_ := (Option.bind_some _ _).symm.trans H; rw [hy369]; with_reducible exact H2_) | (have H2_ := (Option.bind_some _ _).symm.trans H; with_reducible exact H2_) | with_reducible exact H | (rw [hy369]; exact H) | exact H
    have Ny369 := QR hy369
    clear hy369
    replace H := Option.bind_eq_some_iff.mp H
    obtain ⟨t372, A70, H⟩ := H
    have A7 := QR A70
    clear A70
    refine QI (i := 13) (N := some 16) (v := ?_) (a' := ?_) (ab 55 16383) rfl rfl (QF HT_.out (by kernel_rfl)) (fun _ _ _ h => h) (Or.inl ⟨by rfl, ?_⟩) ?_ ?_
    rotate_left
    ·intro w'
     go_simp
     with_reducible rfl
    rotate_left
    ·simp only [Act.put, QN, QO, QP, QC, QD]
     rfl
    refine QI (i := 16) (N := some 19) (v := ?_) (a' := ?_) (ab 55 81919) rfl rfl (QF HT_.out (by kernel_rfl)) (fun _ _ _ h => h) (Or.inl ⟨by rfl, ?_⟩) ?_ ?_
    rotate_left
    ·intro w'
     go_simp
     with_reducible rfl
    rotate_left
    ·simp only [Act.put, QN, QO, QP, QC, QD]
     rfl
    refine QI (i := 18) (N := some 21) (v := ?_) (a' := ?_) (ab 55 344063) rfl rfl (QF HT_.out (by kernel_rfl)) (fun _ _ _ h => h) (Or.inl ⟨by rfl, ?_⟩) ?_ ?_
    rotate_left
    ·intro w'
     go_simp
     with_reducible rfl
    rotate_left
    ·simp only [Act.put, QN, QO, QP, QC, QD]
     rfl
    refine take_ (i := 14) (N := some 17) (v := ?_) (a' := ?_) (ab 55 360447) rfl rfl (take_ofW HT_.out HW_.out (by kernel_rfl)) (fun _ _ _ h => h) (Or.inl ⟨by rfl, ?_⟩) hHeld ?_ ?_
    rotate_left
    ·rintro w' ⟨s0, s1, s2, s3, s4, s5, s6, s7, s8, s9, s10, s11, s12, s13⟩
     go_simp
     with_reducible rfl
    rotate_left
    ·simp only [Act.put, QN, QO, QP, QC, QD]
     rfl
    refine take_ (i := 17) (N := some 20) (v := ?_) (a' := ?_) (ab 55 491519) rfl rfl (take_ofW HT_.out HW_.out (by kernel_rfl)) (fun _ _ _ h => h) (Or.inl ⟨by rfl, ?_⟩) hHeld ?_ ?_
    rotate_left
    ·rintro w' ⟨s0, s1, s2, s3, s4, s5, s6, s7, s8, s9, s10, s11, s12, s13⟩
     go_simp
     with_reducible rfl
    rotate_left
    ·simp only [Act.put, QN, QO, QP, QC, QD]
     rfl
    refine take_ (i := 19) (N := some 22) (v := ?_) (a' := ?_) (ab 55 1015807) rfl rfl (take_ofW HT_.out HW_.out (by kernel_rfl)) (fun _ _ _ h => h) (Or.inl ⟨by rfl, ?_⟩) hHeld ?_ ?_
    rotate_left
    ·rintro w' ⟨s0, s1, s2, s3, s4, s5, s6, s7, s8, s9, s10, s11, s12, s13⟩
     go_simp
     with_reducible rfl
    rotate_left
    ·simp only [Act.put, QN, QO, QP, QC, QD]
     rfl
    refine join_ (σ := Value × Value) 34 (ab 55 2097151) (fun s_ => [(18, s_.1), (23, s_.2)]) (fun s_ w' => (w'.cell? ⟨gb361, 0, none⟩ = some (.int .i64 a0_0) ∧ w'.cell? ⟨gb361, 1, none⟩ = some (.int .i64 a0_1) ∧ w'.cell? ⟨gb361, 2, none⟩ = some (.bool a0_2) ∧ w'.cell? ⟨gb361, 3, none⟩ = some (.bool a0_3) ∧ w'.cell? ⟨gb361, 4, none⟩ = some (.slice A0_4 l0_4.length c0_4) ∧ w'.cell? ⟨gb361, 5, none⟩ = some (.slice A0_5 l0_5.length c0_5) ∧ w'.cell? ⟨gb361, 6, none⟩ = some (.int .i64 a0_6) ∧ w'.cell? ⟨gb361, 7, none⟩ = some (.int .i64 a0_7) ∧ w'.cell? ⟨gb361, 8, none⟩ = some (.slice A0_8 l0_8.length c0_8) ∧ w'.cell? ⟨gb361, 9, none⟩ = some (.slice A0_9 l0_9.length c0_9) ∧ w'.cell? ⟨gb361, 10, none⟩ = some (.slice A0_10 l0_10.length c0_10) ∧ w'.cell? ⟨gb361, 11, none⟩ = some (.int .i64 a0_11) ∧ w'.cell? ⟨gb361, 12, none⟩ = some (.int .i64 a0_12) ∧ w'.cell? ⟨gb361, 13, none⟩ = some (.int .i64 a0_13)) ∧ (Kd.V (Kd.int .i64) 3 w' w.heap.size (fun k_ => ((P0_9_ k_ ∨ P0_10_ k_) ∨ w.heap.size ≤ k_) ∧ some k_ ≠ (s_.1 : Value).ownBlock ∧ some k_ ≠ (s_.2 : Value).ownBlock ∧ k_ ≠ gb361) (.slice A0_10 l0_10.length c0_10) l0_10) ∧ (Kd.V (Kd.int .i64) 3 w' w.heap.size (fun k_ => ((P0_9_ k_ ∨ P0_10_ k_) ∨ w.heap.size ≤ k_) ∧ some k_ ≠ (s_.1 : Value).ownBlock ∧ some k_ ≠ (s_.2 : Value).ownBlock ∧ k_ ≠ gb361) (.slice A0_9 l0_9.length c0_9) l0_9) ∧ (Kd.N (Kd.slice 3 (Kd.int .i64)) 24 w' w.heap.size (fun k_ => ((P0_9_ k_ ∨ P0_10_ k_) ∨ w.heap.size ≤ k_) ∧ some k_ ≠ (s_.2 : Value).ownBlock ∧ k_ ≠ gb361) s_.1 t363) ∧ (Kd.N (Kd.slice 3 (Kd.int .i64)) 24 w' w.heap.size (fun k_ => ((P0_9_ k_ ∨ P0_10_ k_) ∨ w.heap.size ≤ k_) ∧ some k_ ≠ (s_.1 : Value).ownBlock ∧ k_ ≠ gb361) s_.2 y366) ∧ (w'.heap[gb361]? = some (.cells #[.int .i64 a0_0, .int .i64 a0_1, .bool a0_2, .bool a0_3, .slice A0_4 l0_4.length c0_4, .slice A0_5 l0_5.length c0_5, .int .i64 a0_6, .int .i64 a0_7, .slice A0_8 l0_8.length c0_8, .slice A0_9 l0_9.length c0_9, .slice A0_10 l0_10.length c0_10, .int .i64 a0_11, .int .i64 a0_12, .int .i64 a0_13] 59 (0, 0))) ∧ (Below w.heap.size w w')) ?_ ?_
    rotate_left
    ·intro hCont
     refine two_ (i := 15) (j := 20) (Ni := some 18) (Nj := some 23) (ab 55 1048575) (ab 55 2064383) rfl rfl rfl rfl (two_of HT_.out (by kernel_rfl)) (by decide) (by decide) (fun K hK => ?_) (fun K hK => ?_)
     ·skip
      refine goes_ Try.func112 (by kernel_rfl) rfl #[.slice A0_8 l0_8.length c0_8] (by rfl) rfl rfl (by (try simp only [List.map_toArray, List.map_cons, List.map_nil]); first | done | rfl | (simp only [List.length_drop, List.length_take]; rfl)) ?_
      with_reducible refine (impl_copyRows.calls k _ _ l0_8 t363 _ ?side1 ?side2 A5.out).mono ?_
      (case side1 => repeat (first | exact (Kd.C_below HR0_8.out HB.out) | (with_reducible refine Kd.C_alloc ?_ _) | (with_reducible refine Kd.C_drewN ?_ _) | (with_reducible refine Kd.C_drew ?_)))
      (case side2 => exact HC0_8.out)
      rintro e w18 ⟨v364, rfl, ho0, hb⟩
      refine ⟨_, rfl, ?_⟩
      have n0_ := QR (Kd.V_elder' (by (with_reducible repeat (first | apply QK | apply QL | apply QM)); exact HO0_9.out) (Kd.S_base ho0) hb)
      have n1_ := QR (Kd.V_elder' (by (with_reducible repeat (first | apply QK | apply QL | apply QM)); exact HO0_10.out) (Kd.S_base ho0) hb)
      have n2_ := QR (Kd.N_lower (Kd.N_mono (ok' := fun k_ => ((P0_9_ k_ ∨ P0_10_ k_) ∨ w.heap.size ≤ k_) ∧ k_ ≠ gb361) (Kd.S_N (Kd.S_bound ho0)) (fun k_ hk_ => ⟨(.inr (Nat.le_trans (below_size (by repeat (first | (with_reducible first | exact HB.out | apply QH | apply QE | apply QG | refine QJ ?_ GE361.out) | exact HB.out))) hk_.2.1)), (Kd.freshB (g := gb361) (o := _) (by (with_reducible repeat (first | refine blk_drewN ?_ _ | refine blk_drew ?_ | refine blk_alloc ?_ _)); exact BK361.out) k_ hk_.2.1)⟩)) (below_size (by repeat (first | (with_reducible first | exact HB.out | apply QH | apply QE | apply QG | refine QJ ?_ GE361.out) | exact HB.out))))
      have n3_ := QR (blk_below (g := gb361) (o := _) (by (with_reducible repeat (first | refine blk_drewN ?_ _ | refine blk_drew ?_ | refine blk_alloc ?_ _)); exact BK361.out) hb)
      have n4_ := QR (below_step (by repeat (first | (with_reducible first | exact HB.out | apply QH | apply QE | apply QG | refine QJ ?_ GE361.out) | exact HB.out)) hb)
      clear HO0_9
      clear HO0_10
      clear BK361
      clear HB
      have HO0_9 := n0_
      have HO0_10 := n1_
      have HO365 := n2_
      have BK361 := n3_
      have HB := n4_
      clear n0_ n1_ n2_ n3_ n4_
      (try clear hb)
      (try clear hb2)
      (try clear hk)
      (try clear hi)
      (try clear ho0)
      refine hK.out _ _ ⟨(QB BK361.out 0).trans rfl, (QB BK361.out 1).trans rfl, (QB BK361.out 2).trans rfl, (QB BK361.out 3).trans rfl, (QB BK361.out 4).trans rfl, (QB BK361.out 5).trans rfl, (QB BK361.out 6).trans rfl, (QB BK361.out 7).trans rfl, (QB BK361.out 8).trans rfl, (QB BK361.out 9).trans rfl, (QB BK361.out 10).trans rfl, (QB BK361.out 11).trans rfl, (QB BK361.out 12).trans rfl, (QB BK361.out 13).trans rfl⟩ (fun hHeld => ?_)
      clear hK K
      refine norm_ (a' := ?_) ?_ ?_
      rotate_left
      ·show Act.put _ (some 18) _ = _
       simp only [Act.put, QN, QO, QP, QC, QD]
       rfl
      refine one_ (i := 20) (N := some 23) (ab 55 2097151) rfl rfl (one_of HT_.out (by kernel_rfl)) (by decide) (fun K hK => ?_)
      refine Kd.N_lit_step (Kd.slice 3 (Kd.int .i64)) _ 24 ?hg (N' := 23) ?hd (xs := ([l0_9, l0_10] : List (List Int))) (inner := [.slice A0_9 l0_9.length c0_9, .slice A0_10 l0_10.length c0_10]) (ok := (fun k_ => ((P0_9_ k_ ∨ P0_10_ k_) ∨ w.heap.size ≤ k_) ∧ some k_ ≠ (v364 : Value).ownBlock ∧ k_ ≠ gb361)) (okp := (fun k_ => ((P0_9_ k_ ∨ P0_10_ k_) ∨ w.heap.size ≤ k_) ∧ some k_ ≠ (v364 : Value).ownBlock ∧ k_ ≠ gb361)) ?hr ?hp (fun _ hk => hk) ((show ∀ k_, w18.heap.size ≤ k_ → (fun k_ => ((P0_9_ k_ ∨ P0_10_ k_) ∨ w.heap.size ≤ k_) ∧ some k_ ≠ (v364 : Value).ownBlock ∧ k_ ≠ gb361) k_ from fun k_ hk => ⟨(.inr (Nat.le_trans (below_size (by repeat (first | (with_reducible first | exact HB.out | apply QH | apply QE | apply QG | refine QJ ?_ GE361.out) | exact HB.out))) hk)), Kd.fresh' (Kd.N_lt (by (with_reducible repeat (first | apply Kd.N_alloc | apply Kd.N_drewN | apply Kd.N_drew)); exact HO365.out)) k_ hk, Kd.freshB (g := gb361) (o := _) (by (with_reducible repeat (first | refine blk_drewN ?_ _ | refine blk_drew ?_ | refine blk_alloc ?_ _)); exact BK361.out) k_ hk⟩) _ (Nat.le_refl _)) (Below.refl _ _) (Nat.le_refl _) (by simp) ?_; (case hd => rfl); (case hg => rfl); (case hr => first | (go_simp; done) | (go_simp; rfl)); (case hp => exact (Reps.one (show Kd.FK (Kd.slice 3 (Kd.int .i64)) _ _ l0_9 [.slice A0_9 l0_9.length c0_9] from (Kd.FK_slice_mk (Kd.V_reads' (Kd.V_mono (ok' := (fun k_ => ((P0_9_ k_ ∨ P0_10_ k_) ∨ w.heap.size ≤ k_) ∧ some k_ ≠ (v364 : Value).ownBlock ∧ k_ ≠ gb361)) (HO0_9.out) (fun k_ hk => ⟨hk.1.1, ⟨hk.2, hk.1.2⟩⟩))).2.1 (Kd.V_F (Kd.V_mono (ok' := (fun k_ => ((P0_9_ k_ ∨ P0_10_ k_) ∨ w.heap.size ≤ k_) ∧ some k_ ≠ (v364 : Value).ownBlock ∧ k_ ≠ gb361)) (HO0_9.out) (fun k_ hk => ⟨hk.1.1, ⟨hk.2, hk.1.2⟩⟩))))) (Reps.one (show Kd.FK (Kd.slice 3 (Kd.int .i64)) _ _ l0_10 [.slice A0_10 l0_10.length c0_10] from (Kd.FK_slice_mk (Kd.V_reads' (Kd.V_mono (ok' := (fun k_ => ((P0_9_ k_ ∨ P0_10_ k_) ∨ w.heap.size ≤ k_) ∧ some k_ ≠ (v364 : Value).ownBlock ∧ k_ ≠ gb361)) (HO0_10.out) (fun k_ hk => ⟨hk.1.1, ⟨hk.2, hk.1.2⟩⟩))).2.1 (Kd.V_F (Kd.V_mono (ok' := (fun k_ => ((P0_9_ k_ ∨ P0_10_ k_) ∨ w.heap.size ≤ k_) ∧ some k_ ≠ (v364 : Value).ownBlock ∧ k_ ≠ gb361)) (HO0_10.out) (fun k_ hk => ⟨hk.1.1, ⟨hk.2, hk.1.2⟩⟩))))) (Reps.none _ _))))
      intro v367 w19 ho20 hb hg_ hnew_
      clear hg_ hnew_
      (first | rw [← Ny366.out] at ho20 | (simp only [Int.reduceToNat] at ho20; rw [← Ny366.out] at ho20))
      have n0_ := QR (Kd.V_elder' (by (with_reducible repeat (first | apply QK | apply QL | apply QM)); exact HO0_9.out) (Kd.N_base ho20) hb)
      have n1_ := QR (Kd.V_elder' (by (with_reducible repeat (first | apply QK | apply QL | apply QM)); exact HO0_10.out) (Kd.N_base ho20) hb)
      have n2_ := QR (Kd.N_elder' (by (with_reducible repeat (first | apply Kd.N_alloc | apply Kd.N_drewN | apply Kd.N_drew)); exact HO365.out) (Kd.N_base ho20) hb)
      have n3_ := QR (Kd.N_lower ho20 (below_size (by repeat (first | (with_reducible first | exact HB.out | apply QH | apply QE | apply QG | refine QJ ?_ GE361.out) | exact HB.out))))
      have n4_ := QR (blk_below (g := gb361) (o := _) (by (with_reducible repeat (first | refine blk_drewN ?_ _ | refine blk_drew ?_ | refine blk_alloc ?_ _)); exact BK361.out) hb)
      have n5_ := QR (below_step (by repeat (first | (with_reducible first | exact HB.out | apply QH | apply QE | apply QG | refine QJ ?_ GE361.out) | exact HB.out)) hb)
      clear HO0_9
      clear HO0_10
      clear HO365
      clear BK361
      clear HB
      have HO0_9 := n0_
      have HO0_10 := n1_
      have HO365 := n2_
      have HO368 := n3_
      have BK361 := n4_
      have HB := n5_
      clear n0_ n1_ n2_ n3_ n4_ n5_
      clear hb ho20
      refine hK.out _ _ ⟨(QB BK361.out 0).trans rfl, (QB BK361.out 1).trans rfl, (QB BK361.out 2).trans rfl, (QB BK361.out 3).trans rfl, (QB BK361.out 4).trans rfl, (QB BK361.out 5).trans rfl, (QB BK361.out 6).trans rfl, (QB BK361.out 7).trans rfl, (QB BK361.out 8).trans rfl, (QB BK361.out 9).trans rfl, (QB BK361.out 10).trans rfl, (QB BK361.out 11).trans rfl, (QB BK361.out 12).trans rfl, (QB BK361.out 13).trans rfl⟩ (fun hHeld => ?_)
      clear hK K
      refine norm_ (a' := ?_) ?_ ?_
      rotate_left
      ·show Act.put _ (some 23) _ = _
       simp only [Act.put, QN, QO, QP, QC, QD]
       rfl
      exact norm_ (by simp only [putAll, Act.put, QN, QO, QP]) (hCont (v364, v367) _ ⟨hHeld, (by (with_reducible repeat (first | apply QK | apply QL | apply QM)); exact Kd.V_mono HO0_10.out (fun _ hk => ⟨hk.1.1.1, ⟨hk.1.2, ⟨hk.2, hk.1.1.2⟩⟩⟩)), (by (with_reducible repeat (first | apply QK | apply QL | apply QM)); exact Kd.V_mono HO0_9.out (fun _ hk => ⟨hk.1.1.1, ⟨hk.1.2, ⟨hk.2, hk.1.1.2⟩⟩⟩)), (by (with_reducible repeat (first | apply Kd.N_alloc | apply Kd.N_drewN | apply Kd.N_drew)); exact Kd.N_mono HO365.out (fun _ hk => ⟨hk.1.1, ⟨hk.2, hk.1.2⟩⟩)), (by (with_reducible repeat (first | apply Kd.N_alloc | apply Kd.N_drewN | apply Kd.N_drew)); exact HO368.out), (by (with_reducible repeat (first | refine blk_drewN ?_ _ | refine blk_drew ?_ | refine blk_alloc ?_ _)); exact BK361.out), (by repeat (first | (with_reducible first | exact HB.out | apply QH | apply QE | apply QG | refine QJ ?_ GE361.out) | exact HB.out))⟩)
     ·skip
      refine Kd.N_lit_step (Kd.slice 3 (Kd.int .i64)) _ 24 ?hg (N' := 23) ?hd (xs := ([l0_9, l0_10] : List (List Int))) (inner := [.slice A0_9 l0_9.length c0_9, .slice A0_10 l0_10.length c0_10]) (ok := (fun k_ => ((P0_9_ k_ ∨ P0_10_ k_) ∨ w.heap.size ≤ k_) ∧ k_ ≠ gb361)) (okp := (fun k_ => ((P0_9_ k_ ∨ P0_10_ k_) ∨ w.heap.size ≤ k_) ∧ k_ ≠ gb361)) ?hr ?hp (fun _ hk => hk) ((show ∀ k_, w17.heap.size ≤ k_ → (fun k_ => ((P0_9_ k_ ∨ P0_10_ k_) ∨ w.heap.size ≤ k_) ∧ k_ ≠ gb361) k_ from fun k_ hk => ⟨(.inr (Nat.le_trans (below_size (by repeat (first | (with_reducible first | exact HB.out | apply QH | apply QE | apply QG | refine QJ ?_ GE361.out) | exact HB.out))) hk)), Kd.freshB (g := gb361) (o := _) (by (with_reducible repeat (first | refine blk_drewN ?_ _ | refine blk_drew ?_ | refine blk_alloc ?_ _)); exact BK361.out) k_ hk⟩) _ (Nat.le_refl _)) (Below.refl _ _) (Nat.le_refl _) (by simp) ?_; (case hd => rfl); (case hg => rfl); (case hr => first | (go_simp; done) | (go_simp; rfl)); (case hp => exact (Reps.one (show Kd.FK (Kd.slice 3 (Kd.int .i64)) _ _ l0_9 [.slice A0_9 l0_9.length c0_9] from (Kd.FK_slice_mk (Kd.V_reads' (Kd.V_mono (ok' := (fun k_ => ((P0_9_ k_ ∨ P0_10_ k_) ∨ w.heap.size ≤ k_) ∧ k_ ≠ gb361)) (HO0_9.out) (fun k_ hk => ⟨hk.1, hk.2⟩))).2.1 (Kd.V_F (Kd.V_mono (ok' := (fun k_ => ((P0_9_ k_ ∨ P0_10_ k_) ∨ w.heap.size ≤ k_) ∧ k_ ≠ gb361)) (HO0_9.out) (fun k_ hk => ⟨hk.1, hk.2⟩))))) (Reps.one (show Kd.FK (Kd.slice 3 (Kd.int .i64)) _ _ l0_10 [.slice A0_10 l0_10.length c0_10] from (Kd.FK_slice_mk (Kd.V_reads' (Kd.V_mono (ok' := (fun k_ => ((P0_9_ k_ ∨ P0_10_ k_) ∨ w.heap.size ≤ k_) ∧ k_ ≠ gb361)) (HO0_10.out) (fun k_ hk => ⟨hk.1, hk.2⟩))).2.1 (Kd.V_F (Kd.V_mono (ok' := (fun k_ => ((P0_9_ k_ ∨ P0_10_ k_) ∨ w.heap.size ≤ k_) ∧ k_ ≠ gb361)) (HO0_10.out) (fun k_ hk => ⟨hk.1, hk.2⟩))))) (Reps.none _ _))))
      intro v367 w18 ho19 hb hg_ hnew_
      clear hg_ hnew_
      (first | rw [← Ny366.out] at ho19 | (simp only [Int.reduceToNat] at ho19; rw [← Ny366.out] at ho19))
      have n0_ := QR (Kd.V_elder' (by (with_reducible repeat (first | apply QK | apply QL | apply QM)); exact HO0_9.out) (Kd.N_base ho19) hb)
      have n1_ := QR (Kd.V_elder' (by (with_reducible repeat (first | apply QK | apply QL | apply QM)); exact HO0_10.out) (Kd.N_base ho19) hb)
      have n2_ := QR (Kd.N_lower ho19 (below_size (by repeat (first | (with_reducible first | exact HB.out | apply QH | apply QE | apply QG | refine QJ ?_ GE361.out) | exact HB.out))))
      have n3_ := QR (blk_below (g := gb361) (o := _) (by (with_reducible repeat (first | refine blk_drewN ?_ _ | refine blk_drew ?_ | refine blk_alloc ?_ _)); exact BK361.out) hb)
      have n4_ := QR (below_step (by repeat (first | (with_reducible first | exact HB.out | apply QH | apply QE | apply QG | refine QJ ?_ GE361.out) | exact HB.out)) hb)
      clear HO0_9
      clear HO0_10
      clear BK361
      clear HB
      have HO0_9 := n0_
      have HO0_10 := n1_
      have HO368 := n2_
      have BK361 := n3_
      have HB := n4_
      clear n0_ n1_ n2_ n3_ n4_
      clear hb ho19
      refine hK.out _ _ ⟨(QB BK361.out 0).trans rfl, (QB BK361.out 1).trans rfl, (QB BK361.out 2).trans rfl, (QB BK361.out 3).trans rfl, (QB BK361.out 4).trans rfl, (QB BK361.out 5).trans rfl, (QB BK361.out 6).trans rfl, (QB BK361.out 7).trans rfl, (QB BK361.out 8).trans rfl, (QB BK361.out 9).trans rfl, (QB BK361.out 10).trans rfl, (QB BK361.out 11).trans rfl, (QB BK361.out 12).trans rfl, (QB BK361.out 13).trans rfl⟩ (fun hHeld => ?_)
      clear hK K
      refine norm_ (a' := ?_) ?_ ?_
      rotate_left
      ·show Act.put _ (some 23) _ = _
       simp only [Act.put, QN, QO, QP, QC, QD]
       rfl
      refine one_ (i := 15) (N := some 18) (ab 55 2097151) rfl rfl (one_of HT_.out (by kernel_rfl)) (by decide) (fun K hK => ?_)
      refine goes_ Try.func112 (by kernel_rfl) rfl #[.slice A0_8 l0_8.length c0_8] (by rfl) rfl rfl (by (try simp only [List.map_toArray, List.map_cons, List.map_nil]); first | done | rfl | (simp only [List.length_drop, List.length_take]; rfl)) ?_
      with_reducible refine (impl_copyRows.calls k _ _ l0_8 t363 _ ?side1 ?side2 A5.out).mono ?_
      (case side1 => repeat (first | exact (Kd.C_below HR0_8.out HB.out) | (with_reducible refine Kd.C_alloc ?_ _) | (with_reducible refine Kd.C_drewN ?_ _) | (with_reducible refine Kd.C_drew ?_)))
      (case side2 => exact HC0_8.out)
      rintro e w20 ⟨v364, rfl, ho0, hb⟩
      refine ⟨_, rfl, ?_⟩
      have n0_ := QR (Kd.V_elder' (by (with_reducible repeat (first | apply QK | apply QL | apply QM)); exact HO0_9.out) (Kd.S_base ho0) hb)
      have n1_ := QR (Kd.V_elder' (by (with_reducible repeat (first | apply QK | apply QL | apply QM)); exact HO0_10.out) (Kd.S_base ho0) hb)
      have n2_ := QR (Kd.N_elder' (by (with_reducible repeat (first | apply Kd.N_alloc | apply Kd.N_drewN | apply Kd.N_drew)); exact HO368.out) (Kd.S_base ho0) hb)
      have n3_ := QR (Kd.N_lower (Kd.N_mono (ok' := fun k_ => ((P0_9_ k_ ∨ P0_10_ k_) ∨ w.heap.size ≤ k_) ∧ some k_ ≠ (v367 : Value).ownBlock ∧ k_ ≠ gb361) (Kd.S_N (Kd.S_bound ho0)) (fun k_ hk_ => ⟨(.inr (Nat.le_trans (below_size (by repeat (first | (with_reducible first | exact HB.out | apply QH | apply QE | apply QG | refine QJ ?_ GE361.out) | exact HB.out))) hk_.2.1)), (Kd.fresh' (Kd.N_lt (by (with_reducible repeat (first | apply Kd.N_alloc | apply Kd.N_drewN | apply Kd.N_drew)); exact HO368.out)) k_ hk_.2.1), (Kd.freshB (g := gb361) (o := _) (by (with_reducible repeat (first | refine blk_drewN ?_ _ | refine blk_drew ?_ | refine blk_alloc ?_ _)); exact BK361.out) k_ hk_.2.1)⟩)) (below_size (by repeat (first | (with_reducible first | exact HB.out | apply QH | apply QE | apply QG | refine QJ ?_ GE361.out) | exact HB.out))))
      have n4_ := QR (blk_below (g := gb361) (o := _) (by (with_reducible repeat (first | refine blk_drewN ?_ _ | refine blk_drew ?_ | refine blk_alloc ?_ _)); exact BK361.out) hb)
      have n5_ := QR (below_step (by repeat (first | (with_reducible first | exact HB.out | apply QH | apply QE | apply QG | refine QJ ?_ GE361.out) | exact HB.out)) hb)
      clear HO0_9
      clear HO0_10
      clear HO368
      clear BK361
      clear HB
      have HO0_9 := n0_
      have HO0_10 := n1_
      have HO368 := n2_
      have HO365 := n3_
      have BK361 := n4_
      have HB := n5_
      clear n0_ n1_ n2_ n3_ n4_ n5_
      (try clear hb)
      (try clear hb2)
      (try clear hk)
      (try clear hi)
      (try clear ho0)
      refine hK.out _ _ ⟨(QB BK361.out 0).trans rfl, (QB BK361.out 1).trans rfl, (QB BK361.out 2).trans rfl, (QB BK361.out 3).trans rfl, (QB BK361.out 4).trans rfl, (QB BK361.out 5).trans rfl, (QB BK361.out 6).trans rfl, (QB BK361.out 7).trans rfl, (QB BK361.out 8).trans rfl, (QB BK361.out 9).trans rfl, (QB BK361.out 10).trans rfl, (QB BK361.out 11).trans rfl, (QB BK361.out 12).trans rfl, (QB BK361.out 13).trans rfl⟩ (fun hHeld => ?_)
      clear hK K
      refine norm_ (a' := ?_) ?_ ?_
      rotate_left
      ·show Act.put _ (some 18) _ = _
       simp only [Act.put, QN, QO, QP, QC, QD]
       rfl
      exact norm_ (by simp only [putAll, Act.put, QN, QO, QP]) (hCont (v364, v367) _ ⟨hHeld, (by (with_reducible repeat (first | apply QK | apply QL | apply QM)); exact Kd.V_mono HO0_10.out (fun _ hk => ⟨hk.1.1.1, ⟨hk.2, ⟨hk.1.2, hk.1.1.2⟩⟩⟩)), (by (with_reducible repeat (first | apply QK | apply QL | apply QM)); exact Kd.V_mono HO0_9.out (fun _ hk => ⟨hk.1.1.1, ⟨hk.2, ⟨hk.1.2, hk.1.1.2⟩⟩⟩)), (by (with_reducible repeat (first | apply Kd.N_alloc | apply Kd.N_drewN | apply Kd.N_drew)); exact HO365.out), (by (with_reducible repeat (first | apply Kd.N_alloc | apply Kd.N_drewN | apply Kd.N_drew)); exact Kd.N_mono HO368.out (fun _ hk => ⟨hk.1.1, ⟨hk.2, hk.1.2⟩⟩)), (by (with_reducible repeat (first | refine blk_drewN ?_ _ | refine blk_drew ?_ | refine blk_alloc ?_ _)); exact BK361.out), (by repeat (first | (with_reducible first | exact HB.out | apply QH | apply QE | apply QG | refine QJ ?_ GE361.out) | exact HB.out))⟩)
    rintro ⟨v364, v367⟩ w21 ⟨hS_, h0_, h1_, h2_, h3_, h4_, h5_⟩
    have n0_ : Aside0 (Kd.V (Kd.int .i64) 3 w21 w.heap.size (fun k_ => ((P0_9_ k_ ∨ P0_10_ k_) ∨ w.heap.size ≤ k_) ∧ some k_ ≠ (v364 : Value).ownBlock ∧ some k_ ≠ (v367 : Value).ownBlock ∧ k_ ≠ gb361) (.slice A0_10 l0_10.length c0_10) l0_10) := ⟨h0_⟩
    have n1_ : Aside0 (Kd.V (Kd.int .i64) 3 w21 w.heap.size (fun k_ => ((P0_9_ k_ ∨ P0_10_ k_) ∨ w.heap.size ≤ k_) ∧ some k_ ≠ (v364 : Value).ownBlock ∧ some k_ ≠ (v367 : Value).ownBlock ∧ k_ ≠ gb361) (.slice A0_9 l0_9.length c0_9) l0_9) := ⟨h1_⟩
    have n2_ : Aside0 (Kd.N (Kd.slice 3 (Kd.int .i64)) 24 w21 w.heap.size (fun k_ => ((P0_9_ k_ ∨ P0_10_ k_) ∨ w.heap.size ≤ k_) ∧ some k_ ≠ (v367 : Value).ownBlock ∧ k_ ≠ gb361) v364 t363) := ⟨h2_⟩
    have n3_ : Aside0 (Kd.N (Kd.slice 3 (Kd.int .i64)) 24 w21 w.heap.size (fun k_ => ((P0_9_ k_ ∨ P0_10_ k_) ∨ w.heap.size ≤ k_) ∧ some k_ ≠ (v364 : Value).ownBlock ∧ k_ ≠ gb361) v367 y366) := ⟨h3_⟩
    have n4_ : Aside0 (w21.heap[gb361]? = some (.cells #[.int .i64 a0_0, .int .i64 a0_1, .bool a0_2, .bool a0_3, .slice A0_4 l0_4.length c0_4, .slice A0_5 l0_5.length c0_5, .int .i64 a0_6, .int .i64 a0_7, .slice A0_8 l0_8.length c0_8, .slice A0_9 l0_9.length c0_9, .slice A0_10 l0_10.length c0_10, .int .i64 a0_11, .int .i64 a0_12, .int .i64 a0_13] 59 (0, 0))) := ⟨h4_⟩
    have n5_ : Aside0 (Below w.heap.size w w21) := ⟨h5_⟩
    clear HO0_9
    clear HO0_10
    clear BK361
    clear HB
    clear h0_ h1_ h2_ h3_ h4_ h5_
    have HO0_10 := n0_
    have HO0_9 := n1_
    have HO365 := n2_
    have HO368 := n3_
    have BK361 := n4_
    have HB := n5_
    clear n0_ n1_ n2_ n3_ n4_ n5_
    have hHeld : w21.cell? ⟨gb361, 0, none⟩ = some (.int .i64 a0_0) ∧ w21.cell? ⟨gb361, 1, none⟩ = some (.int .i64 a0_1) ∧ w21.cell? ⟨gb361, 2, none⟩ = some (.bool a0_2) ∧ w21.cell? ⟨gb361, 3, none⟩ = some (.bool a0_3) ∧ w21.cell? ⟨gb361, 4, none⟩ = some (.slice A0_4 l0_4.length c0_4) ∧ w21.cell? ⟨gb361, 5, none⟩ = some (.slice A0_5 l0_5.length c0_5) ∧ w21.cell? ⟨gb361, 6, none⟩ = some (.int .i64 a0_6) ∧ w21.cell? ⟨gb361, 7, none⟩ = some (.int .i64 a0_7) ∧ w21.cell? ⟨gb361, 8, none⟩ = some (.slice A0_8 l0_8.length c0_8) ∧ w21.cell? ⟨gb361, 9, none⟩ = some (.slice A0_9 l0_9.length c0_9) ∧ w21.cell? ⟨gb361, 10, none⟩ = some (.slice A0_10 l0_10.length c0_10) ∧ w21.cell? ⟨gb361, 11, none⟩ = some (.int .i64 a0_11) ∧ w21.cell? ⟨gb361, 12, none⟩ = some (.int .i64 a0_12) ∧ w21.cell? ⟨gb361, 13, none⟩ = some (.int .i64 a0_13) := hS_
    obtain ⟨Ao23, co23, eo23⟩ := Kd.N_slice HO368.out
    (first | subst eo23 | (injection eo23 with f1_ f2_ f3_; have f4_ := f1_.symm; have f5_ := f3_.symm; clear f1_ f2_ f3_; subst f4_; subst f5_))
    refine norm_ (a' := ?_) ?_ ?_
    rotate_left
    ·simp only [putAll, Act.put, QN, QO, QP]
     rfl
    refine one_ (i := 21) (N := some 24) (ab 55 4194303) rfl rfl (one_of HT_.out (by kernel_rfl)) (by decide) (fun K hK => ?_)
    refine Kd.N_append_rows_step (Kd.slice 3 (Kd.int .i64)) (w0 := w) w.heap.size (by rfl) (.tmp 18) (.tmp 23) 53 24 (.slice none 0 0) 24 rfl Try.underlying53 info24 rfl (by decide) (by omega) v364 t363 y366 _ _ _ (fun k_ => ((P0_9_ k_ ∨ P0_10_ k_) ∨ w.heap.size ≤ k_) ∧ k_ ≠ gb361) (fun k_ => ((fun k_ => ((P0_9_ k_ ∨ P0_10_ k_) ∨ w.heap.size ≤ k_) ∧ k_ ≠ gb361)) k_ ∧ some k_ ≠ (v364 : Value).ownBlock) rfl rfl ?aO ?aR (fun _ hk => hk) ?aF ?aB ?aS ?aL ?_
    (case aR => exact (by skip; exact Kd.N_F (Kd.N_mono (ok' := (fun k_ => ((fun k_ => ((P0_9_ k_ ∨ P0_10_ k_) ∨ w.heap.size ≤ k_) ∧ k_ ≠ gb361)) k_ ∧ some k_ ≠ (v364 : Value).ownBlock)) (HO368.out) (fun k_ hk => ⟨⟨hk.1, hk.2.2⟩, hk.2.1⟩))))
    (case aB => exact (by repeat (first | (with_reducible first | exact HB.out | apply QH | apply QE | apply QG | refine QJ ?_ GE361.out) | exact HB.out)))
    (case aF => exact (fun k_ hk => ⟨(.inr (Nat.le_trans (below_size (by repeat (first | (with_reducible first | exact HB.out | apply QH | apply QE | apply QG | refine QJ ?_ GE361.out) | exact HB.out))) hk)), Kd.freshB (g := gb361) (o := _) (by (with_reducible repeat (first | refine blk_drewN ?_ _ | refine blk_drew ?_ | refine blk_alloc ?_ _)); exact BK361.out) k_ hk⟩))
    (case aO => exact (by (with_reducible repeat (first | apply Kd.N_alloc | apply Kd.N_drewN | apply Kd.N_drew)); exact Kd.N_mono HO365.out (fun _ hk => ⟨hk.1, hk.2.2⟩)))
    (case aS => exact (below_size (by repeat (first | (with_reducible first | exact HB.out | apply QH | apply QE | apply QG | refine QJ ?_ GE361.out) | exact HB.out))))
    (case aL => have := LMc6.out; omega)
    intro v370 w22 ho hb hg hat
    rw [← Ny369.out] at ho
    have n0_ := QR (Kd.V_afterv (ok := (fun k_ => ((P0_9_ k_ ∨ P0_10_ k_) ∨ w.heap.size ≤ k_) ∧ some k_ ≠ (.slice Ao23 y366.length co23 : Value).ownBlock ∧ k_ ≠ gb361)) (by (with_reducible repeat (first | apply QK | apply QL | apply QM)); exact Kd.V_mono HO0_9.out (fun _ hk => ⟨⟨hk.1, ⟨hk.2.2.1, hk.2.2.2⟩⟩, hk.2.1⟩)) hg hat)
    have n1_ := QR (Kd.V_afterv (ok := (fun k_ => ((P0_9_ k_ ∨ P0_10_ k_) ∨ w.heap.size ≤ k_) ∧ some k_ ≠ (.slice Ao23 y366.length co23 : Value).ownBlock ∧ k_ ≠ gb361)) (by (with_reducible repeat (first | apply QK | apply QL | apply QM)); exact Kd.V_mono HO0_10.out (fun _ hk => ⟨⟨hk.1, ⟨hk.2.2.1, hk.2.2.2⟩⟩, hk.2.1⟩)) hg hat)
    have n2_ := QR (blk_grown (g := gb361) (o := _) (by (with_reducible repeat (first | refine blk_drewN ?_ _ | refine blk_drew ?_ | refine blk_alloc ?_ _)); exact BK361.out) hg (Kd.N_ne HO365.out BK361.out (by decide)))
    have n3_ := QR (Kd.N_afterv (ok := (fun k_ => ((P0_9_ k_ ∨ P0_10_ k_) ∨ w.heap.size ≤ k_) ∧ k_ ≠ gb361)) (by (with_reducible repeat (first | apply Kd.N_alloc | apply Kd.N_drewN | apply Kd.N_drew)); exact Kd.N_mono HO368.out (fun _ hk => ⟨⟨hk.1, hk.2.2⟩, hk.2.1⟩)) hg hat)
    have n4_ := QR (hb)
    have n5_ := QR (ho)
    clear HO0_9
    clear HO0_10
    clear BK361
    clear HO368
    clear HB
    clear HO365
    have HO0_9 := n0_
    have HO0_10 := n1_
    have BK361 := n2_
    have HO368 := n3_
    have HB := n4_
    have HO371 := n5_
    clear n0_ n1_ n2_ n3_ n4_ n5_
    clear ho hb hg hat
    obtain ⟨Ao24, co24, eo24⟩ := Kd.N_slice HO371.out
    (first | subst eo24 | (injection eo24 with f1_ f2_ f3_; have f4_ := f1_.symm; have f5_ := f3_.symm; clear f1_ f2_ f3_; subst f4_; subst f5_))
    refine hK.out _ _ ⟨(QB BK361.out 0).trans rfl, (QB BK361.out 1).trans rfl, (QB BK361.out 2).trans rfl, (QB BK361.out 3).trans rfl, (QB BK361.out 4).trans rfl, (QB BK361.out 5).trans rfl, (QB BK361.out 6).trans rfl, (QB BK361.out 7).trans rfl, (QB BK361.out 8).trans rfl, (QB BK361.out 9).trans rfl, (QB BK361.out 10).trans rfl, (QB BK361.out 11).trans rfl, (QB BK361.out 12).trans rfl, (QB BK361.out 13).trans rfl⟩ (fun hHeld => ?_)
    clear hK K
    refine norm_ (a' := ?_) ?_ ?_
    rotate_left
    ·show Act.put _ (some 24) _ = _
     simp only [Act.put, QN, QO, QP, QC, QD]
     rfl
    refine one_ (i := 22) (N := some 25) (ab 55 8388607) rfl rfl (one_of HT_.out (by kernel_rfl)) (by decide) (fun K hK => ?_)
    refine goes_ Try.func111 (by kernel_rfl) rfl #[.slice Ao24 y369.length co24] (by rfl) rfl rfl (by (try simp only [List.map_toArray, List.map_cons, List.map_nil]); first | done | rfl | (simp only [List.length_drop, List.length_take]; rfl)) ?_
    with_reducible refine (impl_isWhole.calls k _ _ y369 t372 _ ?side1 ?side2 A7.out).mono ?_
    (case side1 => repeat (first | exact (Kd.N_reads' HO371.out).2.2 | (with_reducible refine Kd.C_alloc ?_ _) | (with_reducible refine Kd.C_drewN ?_ _) | (with_reducible refine Kd.C_drew ?_)))
    (case side2 => exact (Kd.N_reads' HO371.out).2.1)
    rintro e w25 ⟨rfl, hb⟩
    refine ⟨_, rfl, ?_⟩
    have n0_ := QR (Kd.V_below (by (with_reducible repeat (first | apply QK | apply QL | apply QM)); exact HO0_9.out) hb)
    have n1_ := QR (Kd.V_below (by (with_reducible repeat (first | apply QK | apply QL | apply QM)); exact HO0_10.out) hb)
    have n2_ := QR (Kd.N_below (by (with_reducible repeat (first | apply Kd.N_alloc | apply Kd.N_drewN | apply Kd.N_drew)); exact HO368.out) hb)
    have n3_ := QR (Kd.N_below (by (with_reducible repeat (first | apply Kd.N_alloc | apply Kd.N_drewN | apply Kd.N_drew)); exact HO371.out) hb)
    have n4_ := QR (blk_below (g := gb361) (o := _) (by (with_reducible repeat (first | refine blk_drewN ?_ _ | refine blk_drew ?_ | refine blk_alloc ?_ _)); exact BK361.out) hb)
    have n5_ := QR (below_step (by repeat (first | (with_reducible first | exact HB.out | apply QH | apply QE | apply QG | refine QJ ?_ GE361.out) | exact HB.out)) hb)
    clear HO0_9
    clear HO0_10
    clear HO368
    clear HO371
    clear BK361
    clear HB
    have HO0_9 := n0_
    have HO0_10 := n1_
    have HO368 := n2_
    have HO371 := n3_
    have BK361 := n4_
    have HB := n5_
    clear n0_ n1_ n2_ n3_ n4_ n5_
    (try clear hb)
    (try clear hb2)
    (try clear hk)
    (try clear hi)
    refine hK.out _ _ ⟨(QB BK361.out 0).trans rfl, (QB BK361.out 1).trans rfl, (QB BK361.out 2).trans rfl, (QB BK361.out 3).trans rfl, (QB BK361.out 4).trans rfl, (QB BK361.out 5).trans rfl, (QB BK361.out 6).trans rfl, (QB BK361.out 7).trans rfl, (QB BK361.out 8).trans rfl, (QB BK361.out 9).trans rfl, (QB BK361.out 10).trans rfl, (QB BK361.out 11).trans rfl, (QB BK361.out 12).trans rfl, (QB BK361.out 13).trans rfl⟩ (fun hHeld => ?_)
    clear hK K
    refine norm_ (a' := ?_) ?_ ?_
    rotate_left
    ·show Act.put _ (some 25) _ = _
     simp only [Act.put, QN, QO, QP, QC, QD]
     rfl
    refine QI (i := 23) (N := some 26) (v := ?_) (a' := ?_) (ab 55 16777215) rfl rfl (QF HT_.out (by kernel_rfl)) (fun _ _ _ h => h) (Or.inl ⟨by rfl, ?_⟩) ?_ ?_
    rotate_left
    ·intro w'
     go_simp
     with_reducible rfl
    rotate_left
    ·simp only [Act.put, QN, QO, QP, QC, QD]
     rfl
    refine QI (i := 24) (N := some 27) (v := ?_) (a' := ?_) (ab 55 33554431) rfl rfl (QF HT_.out (by kernel_rfl)) (fun _ _ _ h => h) (Or.inl ⟨by rfl, ?_⟩) ?_ ?_
    rotate_left
    ·intro w'
     go_simp
     with_reducible rfl
    rotate_left
    ·simp only [Act.put, QN, QO, QP, QC, QD]
     rfl
    by_cases c8 : t372 = true
    ·subst c8
     rw [if_pos rfl] at H
     refine QI (i := 25) (N := some 28) (v := ?_) (a' := ?_) (ab 55 67108863) rfl rfl (QF HT_.out (by kernel_rfl)) (fun _ _ _ h => h) (Or.inl ⟨by rfl, ?_⟩) ?_ ?_
     rotate_left
     ·intro w'
      go_simp
      with_reducible rfl
     rotate_left
     ·simp only [Act.put, QN, QO, QP, QC, QD]
      rfl
     refine take_ (i := 26) (N := some 29) (v := ?_) (a' := ?_) (ab 55 134217727) rfl rfl (take_ofW HT_.out HW_.out (by kernel_rfl)) (fun _ _ _ h => h) (Or.inl ⟨by rfl, ?_⟩) hHeld ?_ ?_
     rotate_left
     ·rintro w' ⟨s0, s1, s2, s3, s4, s5, s6, s7, s8, s9, s10, s11, s12, s13⟩
      go_simp
      with_reducible rfl
     rotate_left
     ·simp only [Act.put, QN, QO, QP, QC, QD]
      rfl
     refine QI (i := 27) (N := some 30) (v := ?_) (a' := ?_) (ab 55 268435455) rfl rfl (QF HT_.out (by kernel_rfl)) (fun _ _ _ h => h) (Or.inl ⟨by rfl, ?_⟩) ?_ ?_
     rotate_left
     ·intro w'
      go_simp
      with_reducible rfl
     rotate_left
     ·simp only [Act.put, QN, QO, QP, QC, QD]
      rfl
     refine QI (i := 28) (N := some 31) (v := ?_) (a' := ?_) (ab 55 536870911) rfl rfl (QF HT_.out (by kernel_rfl)) (fun _ _ _ h => h) (Or.inl ⟨by rfl, ?_⟩) ?_ ?_
     rotate_left
     ·intro w'
      go_simp
      with_reducible rfl
     rotate_left
     ·simp only [Act.put, QN, QO, QP, QC, QD]
      rfl
     refine QI (i := 29) (N := some 32) (v := ?_) (a' := ?_) (ab 55 1073741823) rfl rfl (QF HT_.out (by kernel_rfl)) (fun _ _ _ h => h) (Or.inl ⟨by rfl, ?_⟩) ?_ ?_
     rotate_left
     ·intro w'
      go_simp
      with_reducible rfl
     rotate_left
     ·simp only [Act.put, QN, QO, QP, QC, QD]
      rfl
     refine QI (i := 30) (N := some 33) (v := ?_) (a' := ?_) (ab 55 2147483647) rfl rfl (QF HT_.out (by kernel_rfl)) (fun _ _ _ h => h) (Or.inl ⟨by rfl, ?_⟩) ?_ ?_
     rotate_left
     ·intro w'
      go_simp
      with_reducible rfl
     rotate_left
     ·simp only [Act.put, QN, QO, QP, QC, QD]
      rfl
     by_cases c9 : (l0_10.length : Int) > 0
     ·rw [if_pos c9] at H
      have c9b0 : decide (0 < (l0_10.length : Int)) = true := decide_eq_true c9
      have c9b1 : decide (0 < l0_10.length) = true := decide_eq_true (by omega)
      clear c9
      replace H := Option.bind_eq_some_iff.mp H
      obtain ⟨t373, A100, H⟩ := H
      have A10 := QR A100
      clear A100
      (try simp only [c9b0, c9b1])
      refine QI (i := 31) (N := some 34) (v := ?_) (a' := ?_) (ab 55 4294967295) rfl rfl (QF HT_.out (by kernel_rfl)) (fun _ _ _ h => h) (Or.inl ⟨by rfl, ?_⟩) ?_ ?_
      rotate_left
      ·intro w'
       go_simp
       with_reducible rfl
      rotate_left
      ·simp only [Act.put, QN, QO, QP, QC, QD]
       rfl
      refine QI (i := 33) (N := some 36) (v := ?_) (a' := ?_) (ab 55 12884901887) rfl rfl (QF HT_.out (by kernel_rfl)) (fun _ _ _ h => h) (Or.inl ⟨by rfl, ?_⟩) ?_ ?_
      rotate_left
      ·intro w'
       go_simp
       with_reducible rfl
      rotate_left
      ·simp only [Act.put, QN, QO, QP, QC, QD]
       rfl
      refine take_ (i := 32) (N := some 35) (v := ?_) (a' := ?_) (ab 55 17179869183) rfl rfl (take_ofW HT_.out HW_.out (by kernel_rfl)) (fun _ _ _ h => h) (Or.inl ⟨by rfl, ?_⟩) hHeld ?_ ?_
      rotate_left
      ·rintro w' ⟨s0, s1, s2, s3, s4, s5, s6, s7, s8, s9, s10, s11, s12, s13⟩
       go_simp
       with_reducible rfl
      rotate_left
      ·simp only [Act.put, QN, QO, QP, QC, QD]
       rfl
      refine take_ (i := 34) (N := some 37) (v := ?_) (a' := ?_) (ab 55 34359738367) rfl rfl (take_ofW HT_.out HW_.out (by kernel_rfl)) (fun _ _ _ h => h) (Or.inl ⟨by rfl, ?_⟩) hHeld ?_ ?_
      rotate_left
      ·rintro w' ⟨s0, s1, s2, s3, s4, s5, s6, s7, s8, s9, s10, s11, s12, s13⟩
       go_simp
       with_reducible rfl
      rotate_left
      ·simp only [Act.put, QN, QO, QP, QC, QD]
       rfl
      refine QI (i := 35) (N := some 38) (v := ?_) (a' := ?_) (ab 55 68719476735) rfl rfl (QF HT_.out (by kernel_rfl)) (fun _ _ _ h => h) (Or.inl ⟨by rfl, ?_⟩) ?_ ?_
      rotate_left
      ·intro w'
       go_simp
       with_reducible rfl
      rotate_left
      ·simp only [Act.put, QN, QO, QP, QC, QD]
       rfl
      refine QI (i := 36) (N := some 39) (v := ?_) (a' := ?_) (ab 55 137438953471) rfl rfl (QF HT_.out (by kernel_rfl)) (fun _ _ _ h => h) (Or.inl ⟨by rfl, ?_⟩) ?_ ?_
      rotate_left
      ·intro w'
       go_simp
       with_reducible rfl
      rotate_left
      ·simp only [Act.put, QN, QO, QP, QC, QD]
       rfl
      refine one_ (i := 37) (N := some 40) (ab 55 274877906943) rfl rfl (one_of HT_.out (by kernel_rfl)) (by decide) (fun K hK => ?_)
      refine goes_ Try.func85 (by kernel_rfl) rfl #[.int .i64 a0_11, .int .i64 0, .int .i64 (wrap64 ((l0_8.length : Int) - 1))] (by rfl) rfl rfl (by (try simp only [List.map_toArray, List.map_cons, List.map_nil]); first | done | rfl | (simp only [List.length_drop, List.length_take]; rfl)) ?_
      with_reducible refine (impl_InRange.calls a0_11 0 (wrap64 ((l0_8.length : Int) - 1)) t373 _ A10.out).mono ?_
      rintro e w' ⟨rfl, ⟨nd, rfl⟩⟩
      refine ⟨_, rfl, ?_⟩
      refine hK.out _ _ ⟨(QB BK361.out 0).trans rfl, (QB BK361.out 1).trans rfl, (QB BK361.out 2).trans rfl, (QB BK361.out 3).trans rfl, (QB BK361.out 4).trans rfl, (QB BK361.out 5).trans rfl, (QB BK361.out 6).trans rfl, (QB BK361.out 7).trans rfl, (QB BK361.out 8).trans rfl, (QB BK361.out 9).trans rfl, (QB BK361.out 10).trans rfl, (QB BK361.out 11).trans rfl, (QB BK361.out 12).trans rfl, (QB BK361.out 13).trans rfl⟩ (fun hHeld => ?_)
      clear hK K
      refine norm_ (a' := ?_) ?_ ?_
      rotate_left
      ·show Act.put _ (some 40) _ = _
       simp only [Act.put, QN, QO, QP, QC, QD]
       rfl
      refine QI (i := 38) (N := some 41) (v := ?_) (a' := ?_) (ab 55 549755813887) rfl rfl (QF HT_.out (by kernel_rfl)) (fun _ _ _ h => h) (Or.inl ⟨by rfl, ?_⟩) ?_ ?_
      rotate_left
      ·intro w'
       go_simp
       with_reducible rfl
      rotate_left
      ·simp only [Act.put, QN, QO, QP, QC, QD]
       rfl
      refine QI (i := 39) (N := some 42) (v := ?_) (a' := ?_) (ab 55 1099511627775) rfl rfl (QF HT_.out (by kernel_rfl)) (fun _ _ _ h => h) (Or.inl ⟨by rfl, ?_⟩) ?_ ?_
      rotate_left
      ·intro w'
       go_simp
       with_reducible rfl
      rotate_left
      ·simp only [Act.put, QN, QO, QP, QC, QD]
       rfl
      by_cases c11 : t373 = true
      ·subst c11
       rw [if_pos rfl] at H
       replace H := Option.bind_eq_some_iff.mp H
       obtain ⟨t374, A120, H⟩ := H
       have A12 := QR A120
       clear A120
       refine QI (i := 40) (N := some 43) (v := ?_) (a' := ?_) (ab 55 2199023255551) rfl rfl (QF HT_.out (by kernel_rfl)) (fun _ _ _ h => h) (Or.inl ⟨by rfl, ?_⟩) ?_ ?_
       rotate_left
       ·intro w'
        go_simp
        with_reducible rfl
       rotate_left
       ·simp only [Act.put, QN, QO, QP, QC, QD]
        rfl
       refine QI (i := 42) (N := some 45) (v := ?_) (a' := ?_) (ab 55 6597069766655) rfl rfl (QF HT_.out (by kernel_rfl)) (fun _ _ _ h => h) (Or.inl ⟨by rfl, ?_⟩) ?_ ?_
       rotate_left
       ·intro w'
        go_simp
        with_reducible rfl
       rotate_left
       ·simp only [Act.put, QN, QO, QP, QC, QD]
        rfl
       refine QI (i := 43) (N := some 46) (v := ?_) (a' := ?_) (ab 55 15393162788863) rfl rfl (QF HT_.out (by kernel_rfl)) (fun _ _ _ h => h) (Or.inl ⟨by rfl, ?_⟩) ?_ ?_
       rotate_left
       ·intro w'
        go_simp
        with_reducible rfl
       rotate_left
       ·simp only [Act.put, QN, QO, QP, QC, QD]
        rfl
       refine take_ (i := 41) (N := some 44) (v := ?_) (a' := ?_) (ab 55 17592186044415) rfl rfl (take_ofW HT_.out HW_.out (by kernel_rfl)) (fun _ _ _ h => h) (Or.inl ⟨by rfl, ?_⟩) hHeld ?_ ?_
       rotate_left
       ·rintro w' ⟨s0, s1, s2, s3, s4, s5, s6, s7, s8, s9, s10, s11, s12, s13⟩
        go_simp
        with_reducible rfl
       rotate_left
       ·simp only [Act.put, QN, QO, QP, QC, QD]
        rfl
       refine take_ (i := 44) (N := some 47) (v := ?_) (a' := ?_) (ab 55 35184372088831) rfl rfl (take_ofW HT_.out HW_.out (by kernel_rfl)) (fun _ _ _ h => h) (Or.inl ⟨by rfl, ?_⟩) hHeld ?_ ?_
       rotate_left
       ·rintro w' ⟨s0, s1, s2, s3, s4, s5, s6, s7, s8, s9, s10, s11, s12, s13⟩
        go_simp
        with_reducible rfl
       rotate_left
       ·simp only [Act.put, QN, QO, QP, QC, QD]
        rfl
       refine one_ (i := 45) (N := some 48) (ab 55 70368744177663) rfl rfl (one_of HT_.out (by kernel_rfl)) (by decide) (fun K hK => ?_)
       refine goes_ Try.func85 (by kernel_rfl) rfl #[.int .i64 a0_12, .int .i64 0, .int .i64 a0_7] (by rfl) rfl rfl (by (try simp only [List.map_toArray, List.map_cons, List.map_nil]); first | done | rfl | (simp only [List.length_drop, List.length_take]; rfl)) ?_
       with_reducible refine (impl_InRange.calls a0_12 0 a0_7 t374 _ A12.out).mono ?_
       rintro e w' ⟨rfl, ⟨nd, rfl⟩⟩
       refine ⟨_, rfl, ?_⟩
       refine hK.out _ _ ⟨(QB BK361.out 0).trans rfl, (QB BK361.out 1).trans rfl, (QB BK361.out 2).trans rfl, (QB BK361.out 3).trans rfl, (QB BK361.out 4).trans rfl, (QB BK361.out 5).trans rfl, (QB BK361.out 6).trans rfl, (QB BK361.out 7).trans rfl, (QB BK361.out 8).trans rfl, (QB BK361.out 9).trans rfl, (QB BK361.out 10).trans rfl, (QB BK361.out 11).trans rfl, (QB BK361.out 12).trans rfl, (QB BK361.out 13).trans rfl⟩ (fun hHeld => ?_)
       clear hK K
       refine norm_ (a' := ?_) ?_ ?_
       rotate_left
       ·show Act.put _ (some 48) _ = _
        simp only [Act.put, QN, QO, QP, QC, QD]
        rfl
       refine QI (i := 46) (N := some 49) (v := ?_) (a' := ?_) (ab 55 140737488355327) rfl rfl (QF HT_.out (by kernel_rfl)) (fun _ _ _ h => h) (Or.inl ⟨by rfl, ?_⟩) ?_ ?_
       rotate_left
       ·intro w'
        go_simp
        with_reducible rfl
       rotate_left
       ·simp only [Act.put, QN, QO, QP, QC, QD]
        rfl
       refine QI (i := 47) (N := some 50) (v := ?_) (a' := ?_) (ab 55 281474976710655) rfl rfl (QF HT_.out (by kernel_rfl)) (fun _ _ _ h => h) (Or.inl ⟨by rfl, ?_⟩) ?_ ?_
       rotate_left
       ·intro w'
        go_simp
        with_reducible rfl
       rotate_left
       ·simp only [Act.put, QN, QO, QP, QC, QD]
        rfl
       by_cases c13 : t374 = true
       ·subst c13
        rw [if_pos rfl] at H
        replace H := Option.bind_eq_some_iff.mp H
        obtain ⟨t375, A140, H⟩ := H
        have A14 := QR A140
        clear A140
        obtain rfl := Option.some.inj H
        refine QI (i := 48) (N := some 51) (v := ?_) (a' := ?_) (ab 55 562949953421311) rfl rfl (QF HT_.out (by kernel_rfl)) (fun _ _ _ h => h) (Or.inl ⟨by rfl, ?_⟩) ?_ ?_
        rotate_left
        ·intro w'
         go_simp
         with_reducible rfl
        rotate_left
        ·simp only [Act.put, QN, QO, QP, QC, QD]
         rfl
        refine QI (i := 50) (N := some 53) (v := ?_) (a' := ?_) (ab 55 1688849860263935) rfl rfl (QF HT_.out (by kernel_rfl)) (fun _ _ _ h => h) (Or.inl ⟨by rfl, ?_⟩) ?_ ?_
        rotate_left
        ·intro w'
         go_simp
         with_reducible rfl
        rotate_left
        ·simp only [Act.put, QN, QO, QP, QC, QD]
         rfl
        refine take_ (i := 49) (N := some 52) (v := ?_) (a' := ?_) (ab 55 2251799813685247) rfl rfl (take_ofW HT_.out HW_.out (by kernel_rfl)) (fun _ _ _ h => h) (Or.inl ⟨by rfl, ?_⟩) hHeld ?_ ?_
        rotate_left
        ·rintro w' ⟨s0, s1, s2, s3, s4, s5, s6, s7, s8, s9, s10, s11, s12, s13⟩
         go_simp
         with_reducible rfl
        rotate_left
        ·simp only [Act.put, QN, QO, QP, QC, QD]
         rfl
        refine take_ (i := 51) (N := some 54) (v := ?_) (a' := ?_) (ab 55 4503599627370495) rfl rfl (take_ofW HT_.out HW_.out (by kernel_rfl)) (fun _ _ _ h => h) (Or.inl ⟨by rfl, ?_⟩) hHeld ?_ ?_
        rotate_left
        ·rintro w' ⟨s0, s1, s2, s3, s4, s5, s6, s7, s8, s9, s10, s11, s12, s13⟩
         go_simp
         with_reducible rfl
        rotate_left
        ·simp only [Act.put, QN, QO, QP, QC, QD]
         rfl
        refine one_ (i := 52) (N := some 55) (ab 55 9007199254740991) rfl rfl (one_of HT_.out (by kernel_rfl)) (by decide) (fun K hK => ?_)
        refine goes_ Try.func85 (by kernel_rfl) rfl #[.int .i64 a0_13, .int .i64 0, .int .i64 a0_12] (by rfl) rfl rfl (by (try simp only [List.map_toArray, List.map_cons, List.map_nil]); first | done | rfl | (simp only [List.length_drop, List.length_take]; rfl)) ?_
        with_reducible refine (impl_InRange.calls a0_13 0 a0_12 t375 _ A14.out).mono ?_
        rintro e w' ⟨rfl, ⟨nd, rfl⟩⟩
        refine ⟨_, rfl, ?_⟩
        refine hK.out _ _ ⟨(QB BK361.out 0).trans rfl, (QB BK361.out 1).trans rfl, (QB BK361.out 2).trans rfl, (QB BK361.out 3).trans rfl, (QB BK361.out 4).trans rfl, (QB BK361.out 5).trans rfl, (QB BK361.out 6).trans rfl, (QB BK361.out 7).trans rfl, (QB BK361.out 8).trans rfl, (QB BK361.out 9).trans rfl, (QB BK361.out 10).trans rfl, (QB BK361.out 11).trans rfl, (QB BK361.out 12).trans rfl, (QB BK361.out 13).trans rfl⟩ (fun hHeld => ?_)
        clear hK K
        refine norm_ (a' := ?_) ?_ ?_
        rotate_left
        ·show Act.put _ (some 55) _ = _
         simp only [Act.put, QN, QO, QP, QC, QD]
         rfl
        refine QI (i := 53) (N := some 56) (v := ?_) (a' := ?_) (ab 55 18014398509481983) rfl rfl (QF HT_.out (by kernel_rfl)) (fun _ _ _ h => h) (Or.inl ⟨by rfl, ?_⟩) ?_ ?_
        rotate_left
        ·intro w'
         go_simp
         with_reducible rfl
        rotate_left
        ·simp only [Act.put, QN, QO, QP, QC, QD]
         rfl
        refine QI (i := 54) (N := some 2) (v := ?_) (a' := ?_) (ab 55 36028797018963967) rfl rfl (QF HT_.out (by kernel_rfl)) (fun _ _ _ h => h) (Or.inl ⟨by rfl, ?_⟩) ?_ ?_
        rotate_left
        ·intro w'
         go_simp
         with_reducible rfl
        rotate_left
        ·simp only [Act.put, QN, QO, QP, QC, QD]
         rfl
        refine done_ (done_of HT_.out (by kernel_rfl)) ?_
        try go_wp2
        go_ret
        exact ⟨by first | rfl | (simp [errW_none, errW_some] <;> rfl) | (simp [*, errW_none, errW_some] <;> rfl), by repeat (first | (with_reducible first | exact HB.out | apply QH | apply QE | apply QG | refine QJ ?_ GE361.out) | exact HB.out)⟩
       ·replace c13 := Bool.eq_false_iff.mpr c13
        subst c13
        rw [if_neg (show ¬ (false = true) by decide)] at H
        obtain rfl := Option.some.inj H
        refine skips_ HT_.out (fun _ _ _ _ h => h) (ab 55 9007199254740991) 2 [(48, 51), (49, 52), (50, 53), (51, 54), (52, 55)] _ _ _ (by kernel_rfl) (by kernel_rfl) (by kernel_rfl) (a' := ?_) ?_ ?_
        rotate_left
        ·simp only [skA, Act.put, QN, QO, QP, QC, QD]
         rfl
        refine QI (i := 53) (N := some 56) (v := ?_) (a' := ?_) (ab 55 18014398509481983) rfl rfl (QF HT_.out (by kernel_rfl)) (fun _ _ _ h => h) (Or.inl ⟨by rfl, ?_⟩) ?_ ?_
        rotate_left
        ·intro w'
         go_simp
         with_reducible rfl
        rotate_left
        ·simp only [Act.put, QN, QO, QP, QC, QD]
         rfl
        refine QI (i := 54) (N := some 2) (v := ?_) (a' := ?_) (ab 55 36028797018963967) rfl rfl (QF HT_.out (by kernel_rfl)) (fun _ _ _ h => h) (Or.inl ⟨by rfl, ?_⟩) ?_ ?_
        rotate_left
        ·intro w'
         go_simp
         with_reducible rfl
        rotate_left
        ·simp only [Act.put, QN, QO, QP, QC, QD]
         rfl
        refine done_ (done_of HT_.out (by kernel_rfl)) ?_
        try go_wp2
        go_ret
        exact ⟨by first | rfl | (simp [errW_none, errW_some] <;> rfl) | (simp [*, errW_none, errW_some] <;> rfl), by repeat (first | (with_reducible first | exact HB.out | apply QH | apply QE | apply QG | refine QJ ?_ GE361.out) | exact HB.out)⟩
      ·replace c11 := Bool.eq_false_iff.mpr c11
       subst c11
       rw [if_neg (show ¬ (false = true) by decide)] at H
       obtain rfl := Option.some.inj H
       refine skips_ HT_.out (fun _ _ _ _ h => h) (ab 55 70368744177663) 9 [(40, 43), (41, 44), (42, 45), (43, 46), (44, 47), (45, 48)] _ _ _ (by kernel_rfl) (by kernel_rfl) (by kernel_rfl) (a' := ?_) ?_ ?_
       rotate_left
       ·simp only [skA, Act.put, QN, QO, QP, QC, QD]
        rfl
       refine QI (i := 46) (N := some 49) (v := ?_) (a' := ?_) (ab 55 140737488355327) rfl rfl (QF HT_.out (by kernel_rfl)) (fun _ _ _ h => h) (Or.inl ⟨by rfl, ?_⟩) ?_ ?_
       rotate_left
       ·intro w'
        go_simp
        with_reducible rfl
       rotate_left
       ·simp only [Act.put, QN, QO, QP, QC, QD]
        rfl
       refine QI (i := 47) (N := some 50) (v := ?_) (a' := ?_) (ab 55 281474976710655) rfl rfl (QF HT_.out (by kernel_rfl)) (fun _ _ _ h => h) (Or.inl ⟨by rfl, ?_⟩) ?_ ?_
       rotate_left
       ·intro w'
        go_simp
        with_reducible rfl
       rotate_left
       ·simp only [Act.put, QN, QO, QP, QC, QD]
        rfl
       refine skips_ HT_.out (fun _ _ _ _ h => h) (ab 55 9007199254740991) 2 [(48, 51), (49, 52), (50, 53), (51, 54), (52, 55)] _ _ _ (by kernel_rfl) (by kernel_rfl) (by kernel_rfl) (a' := ?_) ?_ ?_
       rotate_left
       ·simp only [skA, Act.put, QN, QO, QP, QC, QD]
        rfl
       refine QI (i := 53) (N := some 56) (v := ?_) (a' := ?_) (ab 55 18014398509481983) rfl rfl (QF HT_.out (by kernel_rfl)) (fun _ _ _ h => h) (Or.inl ⟨by rfl, ?_⟩) ?_ ?_
       rotate_left
       ·intro w'
        go_simp
        with_reducible rfl
       rotate_left
       ·simp only [Act.put, QN, QO, QP, QC, QD]
        rfl
       refine QI (i := 54) (N := some 2) (v := ?_) (a' := ?_) (ab 55 36028797018963967) rfl rfl (QF HT_.out (by kernel_rfl)) (fun _ _ _ h => h) (Or.inl ⟨by rfl, ?_⟩) ?_ ?_
       rotate_left
       ·intro w'
        go_simp
        with_reducible rfl
       rotate_left
       ·simp only [Act.put, QN, QO, QP, QC, QD]
        rfl
       refine done_ (done_of HT_.out (by kernel_rfl)) ?_
       try go_wp2
       go_ret
       exact ⟨by first | rfl | (simp [errW_none, errW_some] <;> rfl) | (simp [*, errW_none, errW_some] <;> rfl), by repeat (first | (with_reducible first | exact HB.out | apply QH | apply QE | apply QG | refine QJ ?_ GE361.out) | exact HB.out)⟩
     ·rw [if_neg c9] at H
      have c9b0 : decide (0 < (l0_10.length : Int)) = false := decide_eq_false c9
      have c9b1 : decide (0 < l0_10.length) = false := decide_eq_false (by omega)
      clear c9
      obtain rfl := Option.some.inj H
      (try simp only [c9b0, c9b1])
      refine skips_ HT_.out (fun _ _ _ _ h => h) (ab 55 274877906943) 17 [(31, 34), (32, 35), (33, 36), (34, 37), (35, 38), (36, 39), (37, 40)] _ _ _ (by kernel_rfl) (by kernel_rfl) (by kernel_rfl) (a' := ?_) ?_ ?_
      rotate_left
      ·simp only [skA, Act.put, QN, QO, QP, QC, QD]
       rfl
      refine QI (i := 38) (N := some 41) (v := ?_) (a' := ?_) (ab 55 549755813887) rfl rfl (QF HT_.out (by kernel_rfl)) (fun _ _ _ h => h) (Or.inl ⟨by rfl, ?_⟩) ?_ ?_
      rotate_left
      ·intro w'
       go_simp
       with_reducible rfl
      rotate_left
      ·simp only [Act.put, QN, QO, QP, QC, QD]
       rfl
      refine QI (i := 39) (N := some 42) (v := ?_) (a' := ?_) (ab 55 1099511627775) rfl rfl (QF HT_.out (by kernel_rfl)) (fun _ _ _ h => h) (Or.inl ⟨by rfl, ?_⟩) ?_ ?_
      rotate_left
      ·intro w'
       go_simp
       with_reducible rfl
      rotate_left
      ·simp only [Act.put, QN, QO, QP, QC, QD]
       rfl
      refine skips_ HT_.out (fun _ _ _ _ h => h) (ab 55 70368744177663) 9 [(40, 43), (41, 44), (42, 45), (43, 46), (44, 47), (45, 48)] _ _ _ (by kernel_rfl) (by kernel_rfl) (by kernel_rfl) (a' := ?_) ?_ ?_
      rotate_left
      ·simp only [skA, Act.put, QN, QO, QP, QC, QD]
       rfl
      refine QI (i := 46) (N := some 49) (v := ?_) (a' := ?_) (ab 55 140737488355327) rfl rfl (QF HT_.out (by kernel_rfl)) (fun _ _ _ h => h) (Or.inl ⟨by rfl, ?_⟩) ?_ ?_
      rotate_left
      ·intro w'
       go_simp
       with_reducible rfl
      rotate_left
      ·simp only [Act.put, QN, QO, QP, QC, QD]
       rfl
      refine QI (i := 47) (N := some 50) (v := ?_) (a' := ?_) (ab 55 281474976710655) rfl rfl (QF HT_.out (by kernel_rfl)) (fun _ _ _ h => h) (Or.inl ⟨by rfl, ?_⟩) ?_ ?_
      rotate_left
      ·intro w'
       go_simp
       with_reducible rfl
      rotate_left
      ·simp only [Act.put, QN, QO, QP, QC, QD]
       rfl
      refine skips_ HT_.out (fun _ _ _ _ h => h) (ab 55 9007199254740991) 2 [(48, 51), (49, 52), (50, 53), (51, 54), (52, 55)] _ _ _ (by kernel_rfl) (by kernel_rfl) (by kernel_rfl) (a' := ?_) ?_ ?_
      rotate_left
      ·simp only [skA, Act.put, QN, QO, QP, QC, QD]
       rfl
      refine QI (i := 53) (N := some 56) (v := ?_) (a' := ?_) (ab 55 18014398509481983) rfl rfl (QF HT_.out (by kernel_rfl)) (fun _ _ _ h => h) (Or.inl ⟨by rfl, ?_⟩) ?_ ?_
      rotate_left
      ·intro w'
       go_simp
       with_reducible rfl
      rotate_left
      ·simp only [Act.put, QN, QO, QP, QC, QD]
       rfl
      refine QI (i := 54) (N := some 2) (v := ?_) (a' := ?_) (ab 55 36028797018963967) rfl rfl (QF HT_.out (by kernel_rfl)) (fun _ _ _ h => h) (Or.inl ⟨by rfl, ?_⟩) ?_ ?_
      rotate_left
      ·intro w'
       go_simp
       with_reducible rfl
      rotate_left
      ·simp only [Act.put, QN, QO, QP, QC, QD]
       rfl
      refine done_ (done_of HT_.out (by kernel_rfl)) ?_
      try go_wp2
      go_ret
      exact ⟨by first | rfl | (simp [errW_none, errW_some] <;> rfl) | (simp [*, errW_none, errW_some] <;> rfl), by repeat (first | (with_reducible first | exact HB.out | apply QH | apply QE | apply QG | refine QJ ?_ GE361.out) | exact HB.out)⟩
    ·replace c8 := Bool.eq_false_iff.mpr c8
     subst c8
     rw [if_neg (show ¬ (false = true) by decide)] at H
     obtain rfl := Option.some.inj H
     refine skips_ HT_.out (fun _ _ _ _ h => h) (ab 55 536870911) 26 [(25, 28), (26, 29), (27, 30), (28, 31)] _ _ _ (by kernel_rfl) (by kernel_rfl) (by kernel_rfl) (a' := ?_) ?_ ?_
     rotate_left
     ·simp only [skA, Act.put, QN, QO, QP, QC, QD]
      rfl
     refine QI (i := 29) (N := some 32) (v := ?_) (a' := ?_) (ab 55 1073741823) rfl rfl (QF HT_.out (by kernel_rfl)) (fun _ _ _ h => h) (Or.inl ⟨by rfl, ?_⟩) ?_ ?_
     rotate_left
     ·intro w'
      go_simp
      with_reducible rfl
     rotate_left
     ·simp only [Act.put, QN, QO, QP, QC, QD]
      rfl
     refine QI (i := 30) (N := some 33) (v := ?_) (a' := ?_) (ab 55 2147483647) rfl rfl (QF HT_.out (by kernel_rfl)) (fun _ _ _ h => h) (Or.inl ⟨by rfl, ?_⟩) ?_ ?_
     rotate_left
     ·intro w'
      go_simp
      with_reducible rfl
     rotate_left
     ·simp only [Act.put, QN, QO, QP, QC, QD]
      rfl
     refine skips_ HT_.out (fun _ _ _ _ h => h) (ab 55 274877906943) 17 [(31, 34), (32, 35), (33, 36), (34, 37), (35, 38), (36, 39), (37, 40)] _ _ _ (by kernel_rfl) (by kernel_rfl) (by kernel_rfl) (a' := ?_) ?_ ?_
     rotate_left
     ·simp only [skA, Act.put, QN, QO, QP, QC, QD]
      rfl
     refine QI (i := 38) (N := some 41) (v := ?_) (a' := ?_) (ab 55 549755813887) rfl rfl (QF HT_.out (by kernel_rfl)) (fun _ _ _ h => h) (Or.inl ⟨by rfl, ?_⟩) ?_ ?_
     rotate_left
     ·intro w'
      go_simp
      with_reducible rfl
     rotate_left
     ·simp only [Act.put, QN, QO, QP, QC, QD]
      rfl
     refine QI (i := 39) (N := some 42) (v := ?_) (a' := ?_) (ab 55 1099511627775) rfl rfl (QF HT_.out (by kernel_rfl)) (fun _ _ _ h => h) (Or.inl ⟨by rfl, ?_⟩) ?_ ?_
     rotate_left
     ·intro w'
      go_simp
      with_reducible rfl
     rotate_left
     ·simp only [Act.put, QN, QO, QP, QC, QD]
      rfl
     refine skips_ HT_.out (fun _ _ _ _ h => h) (ab 55 70368744177663) 9 [(40, 43), (41, 44), (42, 45), (43, 46), (44, 47), (45, 48)] _ _ _ (by kernel_rfl) (by kernel_rfl) (by kernel_rfl) (a' := ?_) ?_ ?_
     rotate_left
     ·simp only [skA, Act.put, QN, QO, QP, QC, QD]
      rfl
     refine QI (i := 46) (N := some 49) (v := ?_) (a' := ?_) (ab 55 140737488355327) rfl rfl (QF HT_.out (by kernel_rfl)) (fun _ _ _ h => h) (Or.inl ⟨by rfl, ?_⟩) ?_ ?_
     rotate_left
     ·intro w'
      go_simp
      with_reducible rfl
     rotate_left
     ·simp only [Act.put, QN, QO, QP, QC, QD]
      rfl
     refine QI (i := 47) (N := some 50) (v := ?_) (a' := ?_) (ab 55 281474976710655) rfl rfl (QF HT_.out (by kernel_rfl)) (fun _ _ _ h => h) (Or.inl ⟨by rfl, ?_⟩) ?_ ?_
     rotate_left
     ·intro w'
      go_simp
      with_reducible rfl
     rotate_left
     ·simp only [Act.put, QN, QO, QP, QC, QD]
      rfl
     refine skips_ HT_.out (fun _ _ _ _ h => h) (ab 55 9007199254740991) 2 [(48, 51), (49, 52), (50, 53), (51, 54), (52, 55)] _ _ _ (by kernel_rfl) (by kernel_rfl) (by kernel_rfl) (a' := ?_) ?_ ?_
     rotate_left
     ·simp only [skA, Act.put, QN, QO, QP, QC, QD]
      rfl
     refine QI (i := 53) (N := some 56) (v := ?_) (a' := ?_) (ab 55 18014398509481983) rfl rfl (QF HT_.out (by kernel_rfl)) (fun _ _ _ h => h) (Or.inl ⟨by rfl, ?_⟩) ?_ ?_
     rotate_left
     ·intro w'
      go_simp
      with_reducible rfl
     rotate_left
     ·simp only [Act.put, QN, QO, QP, QC, QD]
      rfl
     refine QI (i := 54) (N := some 2) (v := ?_) (a' := ?_) (ab 55 36028797018963967) rfl rfl (QF HT_.out (by kernel_rfl)) (fun _ _ _ h => h) (Or.inl ⟨by rfl, ?_⟩) ?_ ?_
     rotate_left
     ·intro w'
      go_simp
      with_reducible rfl
     rotate_left
     ·simp only [Act.put, QN, QO, QP, QC, QD]
      rfl
     refine done_ (done_of HT_.out (by kernel_rfl)) ?_
     try go_wp2
     go_ret
     exact ⟨by first | rfl | (simp [errW_none, errW_some] <;> rfl) | (simp [*, errW_none, errW_some] <;> rfl), by repeat (first | (with_reducible first | exact HB.out | apply QH | apply QE | apply QG | refine QJ ?_ GE361.out) | exact HB.out)⟩
   ·rw [if_neg c6] at H
    exact absurd H (by simp)
  ·rw [if_neg c4] at H
   have c4b0 : ((l0_8.length : Int) == a0_0) = false := beq_eq_false_iff_ne.mpr c4
   have c4b1 : ((l0_8.length : Int) != a0_0) = true := bne_iff_ne.mpr c4
   obtain rfl := Option.some.inj H
   (try simp only [c4b0, c4b1])
   refine skips_ HT_.out (fun _ _ _ _ h => h) (ab 55 8388607) 32 [(13, 16), (14, 17), (15, 18), (16, 19), (17, 20), (18, 21), (19, 22), (20, 23), (21, 24), (22, 25)] _ _ _ (by kernel_rfl) (by kernel_rfl) (by kernel_rfl) (a' := ?_) ?_ ?_
   rotate_left
   ·simp only [skA, Act.put, QN, QO, QP, QC, QD]
    rfl
   refine QI (i := 23) (N := some 26) (v := ?_) (a' := ?_) (ab 55 16777215) rfl rfl (QF HT_.out (by kernel_rfl)) (fun _ _ _ h => h) (Or.inl ⟨by rfl, ?_⟩) ?_ ?_
   rotate_left
   ·intro w'
    go_simp
    with_reducible rfl
   rotate_left
   ·simp only [Act.put, QN, QO, QP, QC, QD]
    rfl
   refine QI (i := 24) (N := some 27) (v := ?_) (a' := ?_) (ab 55 33554431) rfl rfl (QF HT_.out (by kernel_rfl)) (fun _ _ _ h => h) (Or.inl ⟨by rfl, ?_⟩) ?_ ?_
   rotate_left
   ·intro w'
    go_simp
    with_reducible rfl
   rotate_left
   ·simp only [Act.put, QN, QO, QP, QC, QD]
    rfl
   refine skips_ HT_.out (fun _ _ _ _ h => h) (ab 55 536870911) 26 [(25, 28), (26, 29), (27, 30), (28, 31)] _ _ _ (by kernel_rfl) (by kernel_rfl) (by kernel_rfl) (a' := ?_) ?_ ?_
   rotate_left
   ·simp only [skA, Act.put, QN, QO, QP, QC, QD]
    rfl
   refine QI (i := 29) (N := some 32) (v := ?_) (a' := ?_) (ab 55 1073741823) rfl rfl (QF HT_.out (by kernel_rfl)) (fun _ _ _ h => h) (Or.inl ⟨by rfl, ?_⟩) ?_ ?_
   rotate_left
   ·intro w'
    go_simp
    with_reducible rfl
   rotate_left
   ·simp only [Act.put, QN, QO, QP, QC, QD]
    rfl
   refine QI (i := 30) (N := some 33) (v := ?_) (a' := ?_) (ab 55 2147483647) rfl rfl (QF HT_.out (by kernel_rfl)) (fun _ _ _ h => h) (Or.inl ⟨by rfl, ?_⟩) ?_ ?_
   rotate_left
   ·intro w'
    go_simp
    with_reducible rfl
   rotate_left
   ·simp only [Act.put, QN, QO, QP, QC, QD]
    rfl
   refine skips_ HT_.out (fun _ _ _ _ h => h) (ab 55 274877906943) 17 [(31, 34), (32, 35), (33, 36), (34, 37), (35, 38), (36, 39), (37, 40)] _ _ _ (by kernel_rfl) (by kernel_rfl) (by kernel_rfl) (a' := ?_) ?_ ?_
   rotate_left
   ·simp only [skA, Act.put, QN, QO, QP, QC, QD]
    rfl
   refine QI (i := 38) (N := some 41) (v := ?_) (a' := ?_) (ab 55 549755813887) rfl rfl (QF HT_.out (by kernel_rfl)) (fun _ _ _ h => h) (Or.inl ⟨by rfl, ?_⟩) ?_ ?_
   rotate_left
   ·intro w'
    go_simp
    with_reducible rfl
   rotate_left
   ·simp only [Act.put, QN, QO, QP, QC, QD]
    rfl
   refine QI (i := 39) (N := some 42) (v := ?_) (a' := ?_) (ab 55 1099511627775) rfl rfl (QF HT_.out (by kernel_rfl)) (fun _ _ _ h => h) (Or.inl ⟨by rfl, ?_⟩) ?_ ?_
   rotate_left
   ·intro w'
    go_simp
    with_reducible rfl
   rotate_left
   ·simp only [Act.put, QN, QO, QP, QC, QD]
    rfl
   refine skips_ HT_.out (fun _ _ _ _ h => h) (ab 55 70368744177663) 9 [(40, 43), (41, 44), (42, 45), (43, 46), (44, 47), (45, 48)] _ _ _ (by kernel_rfl) (by kernel_rfl) (by kernel_rfl) (a' := ?_) ?_ ?_
   rotate_left
   ·simp only [skA, Act.put, QN, QO, QP, QC, QD]
    rfl
   refine QI (i := 46) (N := some 49) (v := ?_) (a' := ?_) (ab 55 140737488355327) rfl rfl (QF HT_.out (by kernel_rfl)) (fun _ _ _ h => h) (Or.inl ⟨by rfl, ?_⟩) ?_ ?_
   rotate_left
   ·intro w'
    go_simp
    with_reducible rfl
   rotate_left
   ·simp only [Act.put, QN, QO, QP, QC, QD]
    rfl
   refine QI (i := 47) (N := some 50) (v := ?_) (a' := ?_) (ab 55 281474976710655) rfl rfl (QF HT_.out (by kernel_rfl)) (fun _ _ _ h => h) (Or.inl ⟨by rfl, ?_⟩) ?_ ?_
   rotate_left
   ·intro w'
    go_simp
    with_reducible rfl
   rotate_left
   ·simp only [Act.put, QN, QO, QP, QC, QD]
    rfl
   refine skips_ HT_.out (fun _ _ _ _ h => h) (ab 55 9007199254740991) 2 [(48, 51), (49, 52), (50, 53), (51, 54), (52, 55)] _ _ _ (by kernel_rfl) (by kernel_rfl) (by kernel_rfl) (a' := ?_) ?_ ?_
   rotate_left
   ·simp only [skA, Act.put, QN, QO, QP, QC, QD]
    rfl
   refine QI (i := 53) (N := some 56) (v := ?_) (a' := ?_) (ab 55 18014398509481983) rfl rfl (QF HT_.out (by kernel_rfl)) (fun _ _ _ h => h) (Or.inl ⟨by rfl, ?_⟩) ?_ ?_
   rotate_left
   ·intro w'
    go_simp
    with_reducible rfl
   rotate_left
   ·simp only [Act.put, QN, QO, QP, QC, QD]
    rfl
   refine QI (i := 54) (N := some 2) (v := ?_) (a' := ?_) (ab 55 36028797018963967) rfl rfl (QF HT_.out (by kernel_rfl)) (fun _ _ _ h => h) (Or.inl ⟨by rfl, ?_⟩) ?_ ?_
   rotate_left
   ·intro w'
    go_simp
    with_reducible rfl
   rotate_left
   ·simp only [Act.put, QN, QO, QP, QC, QD]
    rfl
   refine done_ (done_of HT_.out (by kernel_rfl)) ?_
   try go_wp2
   go_ret
   exact ⟨by first | rfl | (simp [errW_none, errW_some] <;> rfl) | (simp [*, errW_none, errW_some] <;> rfl), by repeat (first | (with_reducible first | exact HB.out | apply QH | apply QE | apply QG | refine QJ ?_ GE361.out) | exact HB.out)⟩
 ·replace c3 := Bool.eq_false_iff.mpr c3
  subst c3
  rw [if_neg (show ¬ (false = true) by decide)] at H
  obtain rfl := Option.some.inj H
  refine skips_ HT_.out (fun _ _ _ _ h => h) (ab 55 2047) 44 [(4, 7), (5, 8), (6, 9), (7, 10), (8, 11), (9, 12), (10, 13)] _ _ _ (by kernel_rfl) (by kernel_rfl) (by kernel_rfl) (a' := ?_) ?_ ?_
  rotate_left
  ·simp only [skA, Act.put, QN, QO, QP, QC, QD]
   rfl
  refine QI (i := 11) (N := some 14) (v := ?_) (a' := ?_) (ab 55 4095) rfl rfl (QF HT_.out (by kernel_rfl)) (fun _ _ _ h => h) (Or.inl ⟨by rfl, ?_⟩) ?_ ?_
  rotate_left
  ·intro w'
   go_simp
   with_reducible rfl
  rotate_left
  ·simp only [Act.put, QN, QO, QP, QC, QD]
   rfl
  refine QI (i := 12) (N := some 15) (v := ?_) (a' := ?_) (ab 55 8191) rfl rfl (QF HT_.out (by kernel_rfl)) (fun _ _ _ h => h) (Or.inl ⟨by rfl, ?_⟩) ?_ ?_
  rotate_left
  ·intro w'
   go_simp
   with_reducible rfl
  rotate_left
  ·simp only [Act.put, QN, QO, QP, QC, QD]
   rfl
  refine skips_ HT_.out (fun _ _ _ _ h => h) (ab 55 8388607) 32 [(13, 16), (14, 17), (15, 18), (16, 19), (17, 20), (18, 21), (19, 22), (20, 23), (21, 24), (22, 25)] _ _ _ (by kernel_rfl) (by kernel_rfl) (by kernel_rfl) (a' := ?_) ?_ ?_
  rotate_left
  ·simp only [skA, Act.put, QN, QO, QP, QC, QD]
   rfl
  refine QI (i := 23) (N := some 26) (v := ?_) (a' := ?_) (ab 55 16777215) rfl rfl (QF HT_.out (by kernel_rfl)) (fun _ _ _ h => h) (Or.inl ⟨by rfl, ?_⟩) ?_ ?_
  rotate_left
  ·intro w'
   go_simp
   with_reducible rfl
  rotate_left
  ·simp only [Act.put, QN, QO, QP, QC, QD]
   rfl
  refine QI (i := 24) (N := some 27) (v := ?_) (a' := ?_) (ab 55 33554431) rfl rfl (QF HT_.out (by kernel_rfl)) (fun _ _ _ h => h) (Or.inl ⟨by rfl, ?_⟩) ?_ ?_
  rotate_left
  ·intro w'
   go_simp
   with_reducible rfl
  rotate_left
  ·simp only [Act.put, QN, QO, QP, QC, QD]
   rfl
  refine skips_ HT_.out (fun _ _ _ _ h => h) (ab 55 536870911) 26 [(25, 28), (26, 29), (27, 30), (28, 31)] _ _ _ (by kernel_rfl) (by kernel_rfl) (by kernel_rfl) (a' := ?_) ?_ ?_
  rotate_left
  ·simp only [skA, Act.put, QN, QO, QP, QC, QD]
   rfl
  refine QI (i := 29) (N := some 32) (v := ?_) (a' := ?_) (ab 55 1073741823) rfl rfl (QF HT_.out (by kernel_rfl)) (fun _ _ _ h => h) (Or.inl ⟨by rfl, ?_⟩) ?_ ?_
  rotate_left
  ·intro w'
   go_simp
   with_reducible rfl
  rotate_left
  ·simp only [Act.put, QN, QO, QP, QC, QD]
   rfl
  refine QI (i := 30) (N := some 33) (v := ?_) (a' := ?_) (ab 55 2147483647) rfl rfl (QF HT_.out (by kernel_rfl)) (fun _ _ _ h => h) (Or.inl ⟨by rfl, ?_⟩) ?_ ?_
  rotate_left
  ·intro w'
   go_simp
   with_reducible rfl
  rotate_left
  ·simp only [Act.put, QN, QO, QP, QC, QD]
   rfl
  refine skips_ HT_.out (fun _ _ _ _ h => h) (ab 55 274877906943) 17 [(31, 34), (32, 35), (33, 36), (34, 37), (35, 38), (36, 39), (37, 40)] _ _ _ (by kernel_rfl) (by kernel_rfl) (by kernel_rfl) (a' := ?_) ?_ ?_
  rotate_left
  ·simp only [skA, Act.put, QN, QO, QP, QC, QD]
   rfl
  refine QI (i := 38) (N := some 41) (v := ?_) (a' := ?_) (ab 55 549755813887) rfl rfl (QF HT_.out (by kernel_rfl)) (fun _ _ _ h => h) (Or.inl ⟨by rfl, ?_⟩) ?_ ?_
  rotate_left
  ·intro w'
   go_simp
   with_reducible rfl
  rotate_left
  ·simp only [Act.put, QN, QO, QP, QC, QD]
   rfl
  refine QI (i := 39) (N := some 42) (v := ?_) (a' := ?_) (ab 55 1099511627775) rfl rfl (QF HT_.out (by kernel_rfl)) (fun _ _ _ h => h) (Or.inl ⟨by rfl, ?_⟩) ?_ ?_
  rotate_left
  ·intro w'
   go_simp
   with_reducible rfl
  rotate_left
  ·simp only [Act.put, QN, QO, QP, QC, QD]
   rfl
  refine skips_ HT_.out (fun _ _ _ _ h => h) (ab 55 70368744177663) 9 [(40, 43), (41, 44), (42, 45), (43, 46), (44, 47), (45, 48)] _ _ _ (by kernel_rfl) (by kernel_rfl) (by kernel_rfl) (a' := ?_) ?_ ?_
  rotate_left
  ·simp only [skA, Act.put, QN, QO, QP, QC, QD]
   rfl
  refine QI (i := 46) (N := some 49) (v := ?_) (a' := ?_) (ab 55 140737488355327) rfl rfl (QF HT_.out (by kernel_rfl)) (fun _ _ _ h => h) (Or.inl ⟨by rfl, ?_⟩) ?_ ?_
  rotate_left
  ·intro w'
   go_simp
   with_reducible rfl
  rotate_left
  ·simp only [Act.put, QN, QO, QP, QC, QD]
   rfl
  refine QI (i := 47) (N := some 50) (v := ?_) (a' := ?_) (ab 55 281474976710655) rfl rfl (QF HT_.out (by kernel_rfl)) (fun _ _ _ h => h) (Or.inl ⟨by rfl, ?_⟩) ?_ ?_
  rotate_left
  ·intro w'
   go_simp
   with_reducible rfl
  rotate_left
  ·simp only [Act.put, QN, QO, QP, QC, QD]
   rfl
  refine skips_ HT_.out (fun _ _ _ _ h => h) (ab 55 9007199254740991) 2 [(48, 51), (49, 52), (50, 53), (51, 54), (52, 55)] _ _ _ (by kernel_rfl) (by kernel_rfl) (by kernel_rfl) (a' := ?_) ?_ ?_
  rotate_left
  ·simp only [skA, Act.put, QN, QO, QP, QC, QD]
   rfl
  refine QI (i := 53) (N := some 56) (v := ?_) (a' := ?_) (ab 55 18014398509481983) rfl rfl (QF HT_.out (by kernel_rfl)) (fun _ _ _ h => h) (Or.inl ⟨by rfl, ?_⟩) ?_ ?_
  rotate_left
  ·intro w'
   go_simp
   with_reducible rfl
  rotate_left
  ·simp only [Act.put, QN, QO, QP, QC, QD]
   rfl
  refine QI (i := 54) (N := some 2) (v := ?_) (a' := ?_) (ab 55 36028797018963967) rfl rfl (QF HT_.out (by kernel_rfl)) (fun _ _ _ h => h) (Or.inl ⟨by rfl, ?_⟩) ?_ ?_
  rotate_left
  ·intro w'
   go_simp
   with_reducible rfl
  rotate_left
  ·simp only [Act.put, QN, QO, QP, QC, QD]
   rfl
  refine done_ (done_of HT_.out (by kernel_rfl)) ?_
  try go_wp2
  go_ret
  exact ⟨by first | rfl | (simp [errW_none, errW_some] <;> rfl) | (simp [*, errW_none, errW_some] <;> rfl), by repeat (first | (with_reducible first | exact HB.out | apply QH | apply QE | apply QG | refine QJ ?_ GE361.out) | exact HB.out)⟩

end Go.Proofs.Ytkhgeockdjjhmaa.QFnExactPlayable
