/- What a call of each Go function that FnScripts reaches comes to, as a Lean function: texts of the kit's print, turned by wip/remake.py. No condition beyond what each names. -/
import Derived.Test.YtdfmobcocaijpaaDoorQFnScriptsx1
namespace Go.Proofs.YtdfmobcocaijpaaDoor.QFnScripts
open Go.RowKit Go.Proofs.YtdfmobcocaijpaaDoorW.PrintWords Go.Proofs.YtdfmobcocaijpaaDoorW.PrintLast Go.Proofs.YtdfmobcocaijpaaDoorW.PrintMore
open Go.Proofs.YtdfmobcocaijpaaDoorW.PrintWords renaming blk_drewN → QB, blk_alloc → QC, blk_drew → QD, pw_below_drewN → QE, below_set → QF, below_alloc → QG, below_drew1 → QH, blk_put → QL, keep_far → QN, keep_drewN → QO, keep_alloc → QP, keep_drew → QT, gate_callee → QU, blk_frozen → QV
open Go.Proofs.YtdfmobcocaijpaaDoorW.PrintWords.Kd renaming R_alloc → QI, R_drewN → QJ, R_drew → QM, R_mono → QR, R_types → QS, Q_far → QW
open Go.Proofs.YtdfmobcocaijpaaDoorW.PrintMore renaming far_r → QK
open Go.Proofs.YtdfmobcocaijpaaDoorW.PrintWords.Aside0 renaming mk → QX
open Option renaming bind_eq_some_iff → QY
attribute [local go_sem] max2_int min2_int max_two min_two max_three min_three max_four min_four   -- for this text's walks alone
set_option linter.unusedVariables false
set_option linter.unusedSimpArgs false

/-! ### spec_l22Any: function 35 -/
def spec_l22Any.f (k : Nat) (s0_0 : List Int) (s0_1 : Int) (s0_2 : Int) : Option (Int × Int × Bool × Bool × List Int × List Int × Int × Int × Int × Int) := (spec_l22Draw.f k s0_0 s0_1 s0_2).bind fun bt233 => ((spec_l1Below.f s0_0 bt233.2.2.2.2.2.2.2.2.1 bt233.2.2.2.2.2.2.2.2.2 14).bind fun bt248 => (if bt248.1 = 0 then ((spec_l1Int.f s0_0 bt248.2.1 bt248.2.2 (([1, 6, 7] : List Int))).bind fun bt254 => (some (bt254.1, bt233.2.1, bt233.2.2.1, bt233.2.2.2.1, bt233.2.2.2.2.1, bt233.2.2.2.2.2.1, bt233.2.2.2.2.2.2.1, bt233.2.2.2.2.2.2.2.1, bt254.2.1, bt254.2.2))) else (if bt248.1 = 1 then ((spec_l1Int.f s0_0 bt248.2.1 bt248.2.2 (([0, 8, 9] : List Int))).bind fun bt260 => (some (bt233.1, bt260.1, bt233.2.2.1, bt233.2.2.2.1, bt233.2.2.2.2.1, bt233.2.2.2.2.2.1, bt233.2.2.2.2.2.2.1, bt233.2.2.2.2.2.2.2.1, bt260.2.1, bt260.2.2))) else (if bt248.1 = 2 then (some (bt233.1, bt233.2.1, bt233.2.2.1, false, bt233.2.2.2.2.1, bt233.2.2.2.2.2.1, bt233.2.2.2.2.2.2.1, bt233.2.2.2.2.2.2.2.1, bt248.2.1, bt248.2.2)) else (if bt248.1 = 3 then ((spec_l8Any.f k s0_0 bt248.2.1 bt248.2.2).bind fun bt263 => (some (bt233.1, bt233.2.1, bt233.2.2.1, bt233.2.2.2.1, bt263.1, bt233.2.2.2.2.2.1, bt233.2.2.2.2.2.2.1, bt233.2.2.2.2.2.2.2.1, bt263.2.1, bt263.2.2))) else (if bt248.1 = 4 then ((spec_l1Int.f s0_0 bt248.2.1 bt248.2.2 (([0, 4, 5] : List Int))).bind fun bt271 => (some (bt233.1, bt233.2.1, bt233.2.2.1, bt233.2.2.2.1, bt233.2.2.2.2.1, bt233.2.2.2.2.2.1, bt271.1, bt233.2.2.2.2.2.2.2.1, bt271.2.1, bt271.2.2))) else (if bt248.1 = 5 then ((spec_l1Int.f s0_0 bt248.2.1 bt248.2.2 (([0, 400, 401] : List Int))).bind fun bt277 => (some (bt233.1, bt233.2.1, bt233.2.2.1, bt233.2.2.2.1, bt233.2.2.2.2.1, bt233.2.2.2.2.2.1, bt233.2.2.2.2.2.2.1, bt277.1, bt277.2.1, bt277.2.2))) else (some (bt233.1, bt233.2.1, bt233.2.2.1, bt233.2.2.2.1, bt233.2.2.2.2.1, bt233.2.2.2.2.2.1, bt233.2.2.2.2.2.2.1, bt233.2.2.2.2.2.2.2.1, bt248.2.1, bt248.2.2)))))))))
theorem spec_l22Any.mono : ∀ a0 a1 a2 k, LeO (spec_l22Any.f k a0 a1 a2) (spec_l22Any.f (k + 1) a0 a1 a2) := by
 intro a0 a1 a2 k
 unfold spec_l22Any.f
 repeat' first
   | (with_reducible exact spec_l22Draw.mono _ _ _ _)
   | (with_reducible exact spec_l8Any.mono _ _ _ _)
   | (with_reducible exact LeO.refl _)
   | (with_reducible exact LeO.none _)
   | (with_reducible refine LeO.ite ?_ ?_)
   | (with_reducible refine LeO.bind ?_ (fun _ => ?_))
   | exact spec_l22Draw.mono _ _ _ _
   | exact spec_l8Any.mono _ _ _ _
   | exact LeO.none _
   | refine LeO.ite ?_ ?_
   | refine LeO.bind ?_ (fun _ => ?_)
set_option maxHeartbeats 8000000 in
set_option maxRecDepth 100000 in
theorem spec_l22Any.calls (k : Nat) (g : Nat) (s0_0 : List Int) (s0_1 : Int) (s0_2 : Int) (r1 : Int) (r2 : Int) (r3 : Bool) (r4 : Bool) (r5 : List Int) (r6 : List Int) (r7 : Int) (r8 : Int) (r9 : Int) (r10 : Int) (w0 w : World) (hI : IsS80 w0 w g s0_0 s0_1 s0_2) (hB : Below w0.heap.size w0 w) (h : spec_l22Any.f k s0_0 s0_1 s0_2 = some (r1, r2, r3, r4, r5, r6, r7, r8, r9, r10)) :
  Calls Tryd.prog 35 #[.pointer (some ⟨g,0,none⟩)] w fun e w' => ∃ v4_ v5_ : Value,e = .returned (.agg #[.int .i64 r1,.int .i64 r2,.bool r3,.bool r4,v4_,v5_,.int .i64 r7,.int .i64 r8]) ∧ Kd.Q (Kd.int .i64) 3 w' w.heap.size (fun k_ => some k_ ≠ (v5_ : Value).ownBlock) v4_ r5 ∧ Kd.R (Kd.int .i64) 3 w' w.heap.size (fun k_ => some k_ ≠ (v4_ : Value).ownBlock) v5_ r6 ∧ IsS80 w0 w' g s0_0 r9 r10 ∧ Below w0.heap.size w0 w' ∧ KeepBut w w' g none := by
 have hu26 := Tryd.underlying26
 have HI0 := QX hI
 have HK := QX (KeepBut.refl w g none)
 have HL := QX hB.size
 clear hI
 have HW0 := QX hB.size
 have HB := QX hB
 clear hB
 have H : ((spec_l22Draw.f k s0_0 s0_1 s0_2).bind fun bt233 => ((spec_l1Below.f s0_0 bt233.2.2.2.2.2.2.2.2.1 bt233.2.2.2.2.2.2.2.2.2 14).bind fun bt248 => (if bt248.1 = 0 then ((spec_l1Int.f s0_0 bt248.2.1 bt248.2.2 (([1,6,7] : List Int))).bind fun bt254 => (some (bt254.1,bt233.2.1,bt233.2.2.1,bt233.2.2.2.1,bt233.2.2.2.2.1,bt233.2.2.2.2.2.1,bt233.2.2.2.2.2.2.1,bt233.2.2.2.2.2.2.2.1,bt254.2.1,bt254.2.2))) else (if bt248.1 = 1 then ((spec_l1Int.f s0_0 bt248.2.1 bt248.2.2 (([0,8,9] : List Int))).bind fun bt260 => (some (bt233.1,bt260.1,bt233.2.2.1,bt233.2.2.2.1,bt233.2.2.2.2.1,bt233.2.2.2.2.2.1,bt233.2.2.2.2.2.2.1,bt233.2.2.2.2.2.2.2.1,bt260.2.1,bt260.2.2))) else (if bt248.1 = 2 then (some (bt233.1,bt233.2.1,bt233.2.2.1,false,bt233.2.2.2.2.1,bt233.2.2.2.2.2.1,bt233.2.2.2.2.2.2.1,bt233.2.2.2.2.2.2.2.1,bt248.2.1,bt248.2.2)) else (if bt248.1 = 3 then ((spec_l8Any.f k s0_0 bt248.2.1 bt248.2.2).bind fun bt263 => (some (bt233.1,bt233.2.1,bt233.2.2.1,bt233.2.2.2.1,bt263.1,bt233.2.2.2.2.2.1,bt233.2.2.2.2.2.2.1,bt233.2.2.2.2.2.2.2.1,bt263.2.1,bt263.2.2))) else (if bt248.1 = 4 then ((spec_l1Int.f s0_0 bt248.2.1 bt248.2.2 (([0,4,5] : List Int))).bind fun bt271 => (some (bt233.1,bt233.2.1,bt233.2.2.1,bt233.2.2.2.1,bt233.2.2.2.2.1,bt233.2.2.2.2.2.1,bt271.1,bt233.2.2.2.2.2.2.2.1,bt271.2.1,bt271.2.2))) else (if bt248.1 = 5 then ((spec_l1Int.f s0_0 bt248.2.1 bt248.2.2 (([0,400,401] : List Int))).bind fun bt277 => (some (bt233.1,bt233.2.1,bt233.2.2.1,bt233.2.2.2.1,bt233.2.2.2.2.1,bt233.2.2.2.2.2.1,bt233.2.2.2.2.2.2.1,bt277.1,bt277.2.1,bt277.2.2))) else (some (bt233.1,bt233.2.1,bt233.2.2.1,bt233.2.2.2.1,bt233.2.2.2.2.1,bt233.2.2.2.2.2.1,bt233.2.2.2.2.2.2.1,bt233.2.2.2.2.2.2.2.1,bt248.2.1,bt248.2.2)))))))))) = some (r1,r2,r3,r4,r5,r6,r7,r8,r9,r10) := h
 clear h
 replace H := QY.mp H
 obtain ⟨⟨t233,t234,t235,t236,t237,t240,t243,t244,t245,t246⟩,A20,H⟩ := H
 replace H : ((spec_l1Below.f s0_0 t245 t246 14).bind fun bt248 => (if bt248.1 = 0 then ((spec_l1Int.f s0_0 bt248.2.1 bt248.2.2 (([1,6,7] : List Int))).bind fun bt254 => (some (bt254.1,t234,t235,t236,t237,t240,t243,t244,bt254.2.1,bt254.2.2))) else (if bt248.1 = 1 then ((spec_l1Int.f s0_0 bt248.2.1 bt248.2.2 (([0,8,9] : List Int))).bind fun bt260 => (some (t233,bt260.1,t235,t236,t237,t240,t243,t244,bt260.2.1,bt260.2.2))) else (if bt248.1 = 2 then (some (t233,t234,t235,false,t237,t240,t243,t244,bt248.2.1,bt248.2.2)) else (if bt248.1 = 3 then ((spec_l8Any.f k s0_0 bt248.2.1 bt248.2.2).bind fun bt263 => (some (t233,t234,t235,t236,bt263.1,t240,t243,t244,bt263.2.1,bt263.2.2))) else (if bt248.1 = 4 then ((spec_l1Int.f s0_0 bt248.2.1 bt248.2.2 (([0,4,5] : List Int))).bind fun bt271 => (some (t233,t234,t235,t236,t237,t240,bt271.1,t244,bt271.2.1,bt271.2.2))) else (if bt248.1 = 5 then ((spec_l1Int.f s0_0 bt248.2.1 bt248.2.2 (([0,400,401] : List Int))).bind fun bt277 => (some (t233,t234,t235,t236,t237,t240,t243,bt277.1,bt277.2.1,bt277.2.2))) else (some (t233,t234,t235,t236,t237,t240,t243,t244,bt248.2.1,bt248.2.2))))))))) = some (r1,r2,r3,r4,r5,r6,r7,r8,r9,r10) := H
 have A2 := QX A20
 clear A20
 replace H := QY.mp H
 obtain ⟨⟨t248,t249,t250⟩,A30,H⟩ := H
 replace H : (if t248 = 0 then ((spec_l1Int.f s0_0 t249 t250 (([1,6,7] : List Int))).bind fun bt254 => (some (bt254.1,t234,t235,t236,t237,t240,t243,t244,bt254.2.1,bt254.2.2))) else (if t248 = 1 then ((spec_l1Int.f s0_0 t249 t250 (([0,8,9] : List Int))).bind fun bt260 => (some (t233,bt260.1,t235,t236,t237,t240,t243,t244,bt260.2.1,bt260.2.2))) else (if t248 = 2 then (some (t233,t234,t235,false,t237,t240,t243,t244,t249,t250)) else (if t248 = 3 then ((spec_l8Any.f k s0_0 t249 t250).bind fun bt263 => (some (t233,t234,t235,t236,bt263.1,t240,t243,t244,bt263.2.1,bt263.2.2))) else (if t248 = 4 then ((spec_l1Int.f s0_0 t249 t250 (([0,4,5] : List Int))).bind fun bt271 => (some (t233,t234,t235,t236,t237,t240,bt271.1,t244,bt271.2.1,bt271.2.2))) else (if t248 = 5 then ((spec_l1Int.f s0_0 t249 t250 (([0,400,401] : List Int))).bind fun bt277 => (some (t233,t234,t235,t236,t237,t240,t243,bt277.1,bt277.2.1,bt277.2.2))) else (some (t233,t234,t235,t236,t237,t240,t243,t244,t249,t250)))))))) = some (r1,r2,r3,r4,r5,r6,r7,r8,r9,r10) := H
 have A3 := QX A30
 clear A30
 go_enter Tryd.func35,Tryd.ntmps35
 go_wp2_with (first | ((with_reducible refine gate_dst (N := 2) rfl ?_); refine box_event ?hg (N := 2) ?hd (cs := #[.int .i64 0,.int .i64 0,.bool false,.bool false,.slice none 0 0,.slice none 0 0,.int .i64 0,.int .i64 0]) (t := 26) ?hr ?_; (case hd => rfl); (case hg => rfl); (case hr => first | (go_simp; done) | (go_simp; rfl)); intro gb232 hg w6 hbox hb; have n0_ := QX (IsS80.below (by repeat (first | (with_reducible first | exact HI0.out | apply IsS80.alloc | apply IsS80.drewN | apply IsS80.drew | apply IsS80.set_1 | apply IsS80.set_2) | exact HI0.out)) hb); have n1_ := QX (KeepBut.trans (by repeat (first | (with_reducible first | exact HK.out | apply KeepBut.set_ | apply QO | apply QT | apply QP) | exact HK.out)) (KeepBut.of_below hb g none) (.inl rfl)); have n2_ := QX (below_step (by repeat (first | (with_reducible first | exact HB.out | apply QG | apply QE | apply QH | refine QF ?_ (IsS80.ge HI0.out)) | exact HB.out)) hb); have n3_ := QX (hbox); have n4_ := QX ((by rw [hg]; exact (keep_size (w := w) (g := g) (row := none) (by repeat (first | (with_reducible first | exact HK.out | apply KeepBut.set_ | apply QO | apply QT | apply QP) | exact HK.out))) : w.heap.size ≤ gb232)); have n5_ := QX ((Nat.le_trans HW0.out (by rw [hg]; exact (keep_size (w := w) (g := g) (row := none) (by repeat (first | (with_reducible first | exact HK.out | apply KeepBut.set_ | apply QO | apply QT | apply QP) | exact HK.out))) : w.heap.size ≤ gb232) : w0.heap.size ≤ gb232)); have n6_ := QX ((by rw [hg]; exact Nat.ne_of_lt (IsS80.lt (show IsS80 w0 _ g s0_0 s0_1 s0_2 from by repeat (first | (with_reducible first | exact HI0.out | apply IsS80.alloc | apply IsS80.drewN | apply IsS80.drew | apply IsS80.set_1 | apply IsS80.set_2) | exact HI0.out))) : g ≠ gb232)); have n7_ := QX ((by rw [hg]; exact Nat.ne_of_gt (IsS80.lt (show IsS80 w0 _ g s0_0 s0_1 s0_2 from by repeat (first | (with_reducible first | exact HI0.out | apply IsS80.alloc | apply IsS80.drewN | apply IsS80.drew | apply IsS80.set_1 | apply IsS80.set_2) | exact HI0.out))) : gb232 ≠ g)); clear HI0; clear HK; clear HB; revert n0_ n1_ n2_ n3_ n4_ n5_ n6_ n7_; intro HI0 HK HB BK232 GW232 GE232 NB0_232 NB232_0; clear hb hbox hg) | ((with_reducible refine QU (f := 61) rfl ?_); refine goesL_ (some 5) rfl rfl Tryd.func61 (by kernel_rfl) rfl #[.pointer (some ⟨g,0,none⟩)] rfl (by (try simp only [List.map_toArray,List.map_cons,List.map_nil]); first | done | rfl | (simp only [List.length_drop,List.length_take]; rfl)) ?_; (with_reducible refine (spec_l22Draw.calls k g s0_0 s0_1 s0_2 t233 t234 t235 t236 t237 t240 t243 t244 t245 t246 w0 _ ?side1 ?side2 A2.out).mono ?_); (case side1 => repeat (first | (with_reducible first | exact HI0.out | apply IsS80.alloc | apply IsS80.drewN | apply IsS80.drew | apply IsS80.set_1 | apply IsS80.set_2 | refine IsS80.far ?_ NB0_232.out _) | exact HI0.out)); (case side2 => repeat (first | (with_reducible first | exact HB.out | apply QG | apply QE | apply QH | refine QF ?_ (IsS80.ge HI0.out) | refine QF ?_ GE232.out) | exact HB.out)); rintro e w7 ⟨v238,v241,rfl,ho0,ho1,hi,hb,hk⟩; refine ⟨_,rfl,?_⟩; have n0_ := QX (KeepBut.blk hk (g' := gb232) (o := .cells #[.int .i64 0,.int .i64 0,.bool false,.bool false,.slice none 0 0,.slice none 0 0,.int .i64 0,.int .i64 0] 26 (0,0)) (by (with_reducible repeat (first | refine QB ?_ _ | refine QD ?_ | refine QC ?_ _)); exact BK232.out) NB232_0.out (by simp)); have n1_ := QX (Kd.R_lower ho0 (keep_size (w := w) (g := g) (row := none) (by repeat (first | (with_reducible first | exact HK.out | apply KeepBut.set_ | apply QO | apply QT | apply QP | refine QN ?_ GW232.out _) | exact HK.out)))); have n2_ := QX (Kd.R_lower ho1 (keep_size (w := w) (g := g) (row := none) (by repeat (first | (with_reducible first | exact HK.out | apply KeepBut.set_ | apply QO | apply QT | apply QP | refine QN ?_ GW232.out _) | exact HK.out)))); have n3_ := QX (KeepBut.trans (by repeat (first | (with_reducible first | exact HK.out | apply KeepBut.set_ | apply QO | apply QT | apply QP | refine QN ?_ GW232.out _) | exact HK.out)) hk (.inl rfl)); have n4_ := QX (hb); have n5_ := QX (hi); clear BK232; clear HK; clear HB; clear HI0; revert n0_ n1_ n2_ n3_ n4_ n5_; intro BK232 HO239 HO242 HK HB HI0; (try clear hb); (try clear hk); (try clear hi); (try clear ho0); (try clear ho1); refine Aside0.out ?_))
 refine QX ?_
 go_wp2_with (first | ((with_reducible refine gate_dst (N := 3) rfl ?_); refine box_event ?hg (N := 3) ?hd (cs := #[.int .i64 0,.int .i64 0,.bool false,.bool false,.slice none 0 0,.slice none 0 0,.int .i64 0,.int .i64 0]) (t := 26) ?hr ?_; (case hd => rfl); (case hg => rfl); (case hr => first | (go_simp; done) | (go_simp; rfl)); intro gb247 hg w8 hbox hb; have n0_ := QX (Kd.R_below (by (with_reducible repeat (first | apply QI | apply QJ | apply QM)); exact HO239.out) hb); have n1_ := QX (Kd.R_below (by (with_reducible repeat (first | apply QI | apply QJ | apply QM)); exact HO242.out) hb); have n2_ := QX (IsS80.below (by repeat (first | (with_reducible first | exact HI0.out | apply IsS80.alloc | apply IsS80.drewN | apply IsS80.drew | apply IsS80.set_1 | apply IsS80.set_2 | refine IsS80.far ?_ NB0_232.out _) | exact HI0.out)) hb); have n3_ := QX (blk_below (g := gb232) (o := .cells #[.int .i64 0,.int .i64 0,.bool false,.bool false,.slice none 0 0,.slice none 0 0,.int .i64 0,.int .i64 0] 26 (0,0)) (by (with_reducible repeat (first | refine QB ?_ _ | refine QD ?_ | refine QC ?_ _)); exact BK232.out) hb); have n4_ := QX (KeepBut.trans (by repeat (first | (with_reducible first | exact HK.out | apply KeepBut.set_ | apply QO | apply QT | apply QP | refine QN ?_ GW232.out _) | exact HK.out)) (KeepBut.of_below hb g none) (.inl rfl)); have n5_ := QX (below_step (by repeat (first | (with_reducible first | exact HB.out | apply QG | apply QE | apply QH | refine QF ?_ (IsS80.ge HI0.out) | refine QF ?_ GE232.out) | exact HB.out)) hb); have n6_ := QX (hbox); have n7_ := QX ((by rw [hg]; exact (keep_size (w := w) (g := g) (row := none) (by repeat (first | (with_reducible first | exact HK.out | apply KeepBut.set_ | apply QO | apply QT | apply QP | refine QN ?_ GW232.out _) | exact HK.out))) : w.heap.size ≤ gb247)); have n8_ := QX ((Nat.le_trans HW0.out (by rw [hg]; exact (keep_size (w := w) (g := g) (row := none) (by repeat (first | (with_reducible first | exact HK.out | apply KeepBut.set_ | apply QO | apply QT | apply QP | refine QN ?_ GW232.out _) | exact HK.out))) : w.heap.size ≤ gb247) : w0.heap.size ≤ gb247)); have n9_ := QX ((by rw [hg]; exact Nat.ne_of_lt (blk_lt (g := gb232) (o := .cells #[.int .i64 0,.int .i64 0,.bool false,.bool false,.slice none 0 0,.slice none 0 0,.int .i64 0,.int .i64 0] 26 (0,0)) (by (with_reducible repeat (first | refine QB ?_ _ | refine QD ?_ | refine QC ?_ _)); exact BK232.out)) : gb232 ≠ gb247)); have n10_ := QX ((by rw [hg]; exact Nat.ne_of_gt (blk_lt (g := gb232) (o := .cells #[.int .i64 0,.int .i64 0,.bool false,.bool false,.slice none 0 0,.slice none 0 0,.int .i64 0,.int .i64 0] 26 (0,0)) (by (with_reducible repeat (first | refine QB ?_ _ | refine QD ?_ | refine QC ?_ _)); exact BK232.out)) : gb247 ≠ gb232)); have n11_ := QX ((by rw [hg]; exact Nat.ne_of_lt (IsS80.lt (show IsS80 w0 _ g s0_0 t245 t246 from by repeat (first | (with_reducible first | exact HI0.out | apply IsS80.alloc | apply IsS80.drewN | apply IsS80.drew | apply IsS80.set_1 | apply IsS80.set_2 | refine IsS80.far ?_ NB0_232.out _) | exact HI0.out))) : g ≠ gb247)); have n12_ := QX ((by rw [hg]; exact Nat.ne_of_gt (IsS80.lt (show IsS80 w0 _ g s0_0 t245 t246 from by repeat (first | (with_reducible first | exact HI0.out | apply IsS80.alloc | apply IsS80.drewN | apply IsS80.drew | apply IsS80.set_1 | apply IsS80.set_2 | refine IsS80.far ?_ NB0_232.out _) | exact HI0.out))) : gb247 ≠ g)); clear HO239; clear HO242; clear HI0; clear BK232; clear HK; clear HB; revert n0_ n1_ n2_ n3_ n4_ n5_ n6_ n7_ n8_ n9_ n10_ n11_ n12_; intro HO239 HO242 HI0 BK232 HK HB BK247 GW247 GE247 NB232_247 NB247_232 NB0_247 NB247_0; clear hb hbox hg; have hnb9 := NB247_232.out; have hnc9 := NB232_247.out; have hnb10 := NB247_0.out; have hnc10 := NB0_247.out; have hcz11 := fun i => blk_cell BK247.out i; have hfz11 := fun i => QV BK247.out i; obtain ⟨Ao12,co12,eo12⟩ := Kd.R_slice HO239.out; subst eo12; obtain ⟨Ao13,co13,eo13⟩ := Kd.R_slice HO242.out; subst eo13) | ((with_reducible refine QU (f := 38) rfl ?_); refine goesL_ (some 7) rfl rfl Tryd.func38 (by kernel_rfl) rfl #[.pointer (some ⟨g,0,none⟩),.int .i64 14] rfl (by (try simp only [List.map_toArray,List.map_cons,List.map_nil]); first | done | rfl | (simp only [List.length_drop,List.length_take]; rfl)) ?_; (with_reducible refine (spec_l1Below.calls g s0_0 t245 t246 14 t248 t249 t250 w0 _ ?side1 ?side2 A3.out).mono ?_); (case side1 => repeat (first | (with_reducible first | exact HI0.out | apply IsS80.alloc | apply IsS80.drewN | apply IsS80.drew | apply IsS80.set_1 | apply IsS80.set_2 | refine IsS80.far ?_ NB0_232.out _ | refine IsS80.far ?_ NB0_247.out _) | exact HI0.out)); (case side2 => repeat (first | (with_reducible first | exact HB.out | apply QG | apply QE | apply QH | refine QF ?_ (IsS80.ge HI0.out) | refine QF ?_ GE232.out | refine QF ?_ GE247.out) | exact HB.out)); rintro e w14 ⟨rfl,hi,hb,hk⟩; refine ⟨_,rfl,?_⟩; have n0_ := QX (KeepBut.blk hk (g' := gb232) (o := .cells #[.int .i64 0,.int .i64 0,.bool false,.bool false,.slice none 0 0,.slice none 0 0,.int .i64 0,.int .i64 0] 26 (0,0)) (by (with_reducible repeat (first | refine QB ?_ _ | refine QD ?_ | refine QC ?_ _)); refine blk_far ?_ NB232_247.out _; (with_reducible repeat (first | refine QB ?_ _ | refine QD ?_ | refine QC ?_ _)); refine blk_far ?_ NB232_247.out _; (with_reducible repeat (first | refine QB ?_ _ | refine QD ?_ | refine QC ?_ _)); refine blk_far ?_ NB232_247.out _; (with_reducible repeat (first | refine QB ?_ _ | refine QD ?_ | refine QC ?_ _)); refine blk_far ?_ NB232_247.out _; (with_reducible repeat (first | refine QB ?_ _ | refine QD ?_ | refine QC ?_ _)); refine blk_far ?_ NB232_247.out _; (with_reducible repeat (first | refine QB ?_ _ | refine QD ?_ | refine QC ?_ _)); refine blk_far ?_ NB232_247.out _; (with_reducible repeat (first | refine QB ?_ _ | refine QD ?_ | refine QC ?_ _)); refine blk_far ?_ NB232_247.out _; (with_reducible repeat (first | refine QB ?_ _ | refine QD ?_ | refine QC ?_ _)); refine blk_far ?_ NB232_247.out _; (with_reducible repeat (first | refine QB ?_ _ | refine QD ?_ | refine QC ?_ _)); exact BK232.out) NB232_0.out (by simp)); have n1_ := QX (QR (Kd.R_keep (IsS80.apart (show IsS80 w0 _ g s0_0 t245 t246 from by repeat (first | (with_reducible first | exact HI0.out | apply IsS80.alloc | apply IsS80.drewN | apply IsS80.drew | apply IsS80.set_1 | apply IsS80.set_2 | refine IsS80.far ?_ NB0_232.out _ | refine IsS80.far ?_ NB0_247.out _) | exact HI0.out)) (by (with_reducible repeat (first | apply QI | apply QJ | apply QM)); exact (QR (QK (QK (QK (QK (QK (QK (QK (QK (QS HO239.out BK247.out (by decide)))))))))) (fun _ h_ => h_.1))) (by decide)) hk (fun _ h => h.2)) (fun _ h => h.1)); have n2_ := QX (QR (Kd.R_keep (IsS80.apart (show IsS80 w0 _ g s0_0 t245 t246 from by repeat (first | (with_reducible first | exact HI0.out | apply IsS80.alloc | apply IsS80.drewN | apply IsS80.drew | apply IsS80.set_1 | apply IsS80.set_2 | refine IsS80.far ?_ NB0_232.out _ | refine IsS80.far ?_ NB0_247.out _) | exact HI0.out)) (by (with_reducible repeat (first | apply QI | apply QJ | apply QM)); exact (QR (QK (QK (QK (QK (QK (QK (QK (QK (QS HO242.out BK247.out (by decide)))))))))) (fun _ h_ => h_.1))) (by decide)) hk (fun _ h => h.2)) (fun _ h => h.1)); have n3_ := QX (KeepBut.blk hk (g' := gb247) (o := .cells #[.int .i64 t233,.int .i64 t234,.bool t235,.bool t236,.slice Ao12 t237.length co12,.slice Ao13 t240.length co13,.int .i64 t243,.int .i64 t244] 26 (0,0)) (by (with_reducible repeat (first | refine QB ?_ _ | refine QD ?_ | refine QC ?_ _)); refine QL (cs := #[.int .i64 t233,.int .i64 t234,.bool t235,.bool t236,.slice Ao12 t237.length co12,.slice Ao13 t240.length co13,.int .i64 t243,.int .i64 0]) ?_ 7 _ rfl; (with_reducible repeat (first | refine QB ?_ _ | refine QD ?_ | refine QC ?_ _)); refine QL (cs := #[.int .i64 t233,.int .i64 t234,.bool t235,.bool t236,.slice Ao12 t237.length co12,.slice Ao13 t240.length co13,.int .i64 0,.int .i64 0]) ?_ 6 _ rfl; (with_reducible repeat (first | refine QB ?_ _ | refine QD ?_ | refine QC ?_ _)); refine QL (cs := #[.int .i64 t233,.int .i64 t234,.bool t235,.bool t236,.slice Ao12 t237.length co12,.slice none 0 0,.int .i64 0,.int .i64 0]) ?_ 5 _ rfl; (with_reducible repeat (first | refine QB ?_ _ | refine QD ?_ | refine QC ?_ _)); refine QL (cs := #[.int .i64 t233,.int .i64 t234,.bool t235,.bool t236,.slice none 0 0,.slice none 0 0,.int .i64 0,.int .i64 0]) ?_ 4 _ rfl; (with_reducible repeat (first | refine QB ?_ _ | refine QD ?_ | refine QC ?_ _)); refine QL (cs := #[.int .i64 t233,.int .i64 t234,.bool t235,.bool false,.slice none 0 0,.slice none 0 0,.int .i64 0,.int .i64 0]) ?_ 3 _ rfl; (with_reducible repeat (first | refine QB ?_ _ | refine QD ?_ | refine QC ?_ _)); refine QL (cs := #[.int .i64 t233,.int .i64 t234,.bool false,.bool false,.slice none 0 0,.slice none 0 0,.int .i64 0,.int .i64 0]) ?_ 2 _ rfl; (with_reducible repeat (first | refine QB ?_ _ | refine QD ?_ | refine QC ?_ _)); refine QL (cs := #[.int .i64 t233,.int .i64 0,.bool false,.bool false,.slice none 0 0,.slice none 0 0,.int .i64 0,.int .i64 0]) ?_ 1 _ rfl; (with_reducible repeat (first | refine QB ?_ _ | refine QD ?_ | refine QC ?_ _)); refine QL (cs := #[.int .i64 0,.int .i64 0,.bool false,.bool false,.slice none 0 0,.slice none 0 0,.int .i64 0,.int .i64 0]) ?_ 0 _ rfl; (with_reducible repeat (first | refine QB ?_ _ | refine QD ?_ | refine QC ?_ _)); exact BK247.out) NB247_0.out (by simp)); have n4_ := QX (KeepBut.trans (by repeat (first | (with_reducible first | exact HK.out | apply KeepBut.set_ | apply QO | apply QT | apply QP | refine QN ?_ GW232.out _ | refine QN ?_ GW247.out _) | exact HK.out)) hk (.inl rfl)); have n5_ := QX (hb); have n6_ := QX (hi); clear BK232; clear HO239; clear HO242; clear BK247; clear HK; clear HB; clear HI0; revert n0_ n1_ n2_ n3_ n4_ n5_ n6_; intro BK232 HO239 HO242 BK247 HK HB HI0; (try clear hb); (try clear hk); (try clear hi); refine Aside0.out ?_))
 refine QX ?_
 by_cases c4 : t248 = 0
 ·rw [if_pos c4] at H
  have c4b0 : (t248 == 0) = true := beq_iff_eq.mpr c4
  have c4b1 : (t248 != 0) = false := bne_eq_false_iff_eq.mpr c4
  clear c4
  obtain ⟨y251,hy251⟩ : ∃ y_ : List Int,y_ = (([1,6,7] : List Int)) := ⟨_,rfl⟩
  replace H : ((spec_l1Int.f s0_0 t249 t250 y251).bind fun bt254 => (some (bt254.1,t234,t235,t236,t237,t240,t243,t244,bt254.2.1,bt254.2.2))) = some (r1,r2,r3,r4,r5,r6,r7,r8,r9,r10) := by first | (rw [hy251]; with_reducible exact H) | (have H2_ := (Option.bind_some _ _).symm.trans H; rw [hy251]; with_reducible exact H2_) | (have H2_ := (Option.bind_some _ _).symm.trans H; with_reducible exact H2_) | with_reducible exact H | (rw [hy251]; exact H) | exact H
  have Ny251 := QX hy251
  clear hy251
  replace H := QY.mp H
  obtain ⟨⟨t254,t255,t256⟩,A50,H⟩ := H
  replace H : (some (t254,t234,t235,t236,t237,t240,t243,t244,t255,t256)) = some (r1,r2,r3,r4,r5,r6,r7,r8,r9,r10) := H
  have A5 := QX A50
  clear A50
  simp only [Option.some.injEq,Prod.mk.injEq] at H
  obtain ⟨rfl,rfl,rfl,rfl,rfl,rfl,rfl,rfl,rfl,rfl⟩ := H
  go_wp2_with (first | ((with_reducible refine gate_dst (N := 11) rfl ?_); refine Kd.R_lit (Kd.int .i64) _ 3 ?hg (N := 11) ?hd (xs := ([1,6,7] : List Int)) (inner := [.int .i64 1,.int .i64 6,.int .i64 7]) (ok := fun _ => True) (okp := fun _ => True) ?hr ?hp (fun _ hk => hk) trivial (Below.refl _ _) (Nat.le_refl _) (by simp) ?_; (case hd => rfl); (case hg => rfl); (case hr => first | (go_simp; done) | (go_simp; rfl)); (case hp => exact (Reps.one (show Kd.M (Kd.int .i64) _ _ _ 1 [.int .i64 1] from rfl) (Reps.one (show Kd.M (Kd.int .i64) _ _ _ 6 [.int .i64 6] from rfl) (Reps.one (show Kd.M (Kd.int .i64) _ _ _ 7 [.int .i64 7] from rfl) (Reps.none _ _))))); intro v252 w15 ho16 hb hg_ hnew_; clear hg_ hnew_; (first | rw [← Ny251.out] at ho16 | (simp only [Int.reduceToNat] at ho16; rw [← Ny251.out] at ho16)); have n0_ := QX (Kd.R_elder' (by (with_reducible repeat (first | apply QI | apply QJ | apply QM)); exact HO239.out) (Kd.R_base ho16) hb); have n1_ := QX (Kd.R_elder' (by (with_reducible repeat (first | apply QI | apply QJ | apply QM)); exact HO242.out) (Kd.R_base ho16) hb); have n2_ := QX (Kd.R_lower (Kd.R_new' (Kd.R_new' ho16 (Kd.R_lt (by (with_reducible repeat (first | apply QI | apply QJ | apply QM)); exact HO239.out))) (Kd.R_lt (by (with_reducible repeat (first | apply QI | apply QJ | apply QM)); exact HO242.out))) (keep_size (w := w) (g := g) (row := none) (by repeat (first | (with_reducible first | exact HK.out | apply KeepBut.set_ | apply QO | apply QT | apply QP | refine QN ?_ GW232.out _ | refine QN ?_ GW247.out _) | exact HK.out)))); have n3_ := QX (IsS80.below (by repeat (first | (with_reducible first | exact HI0.out | apply IsS80.alloc | apply IsS80.drewN | apply IsS80.drew | apply IsS80.set_1 | apply IsS80.set_2 | refine IsS80.far ?_ NB0_232.out _ | refine IsS80.far ?_ NB0_247.out _) | exact HI0.out)) hb); have n4_ := QX (blk_below (g := gb232) (o := .cells #[.int .i64 0,.int .i64 0,.bool false,.bool false,.slice none 0 0,.slice none 0 0,.int .i64 0,.int .i64 0] 26 (0,0)) (by (with_reducible repeat (first | refine QB ?_ _ | refine QD ?_ | refine QC ?_ _)); exact BK232.out) hb); have n5_ := QX (blk_below (g := gb247) (o := .cells #[.int .i64 t233,.int .i64 t234,.bool t235,.bool t236,.slice Ao12 t237.length co12,.slice Ao13 t240.length co13,.int .i64 t243,.int .i64 t244] 26 (0,0)) (by (with_reducible repeat (first | refine QB ?_ _ | refine QD ?_ | refine QC ?_ _)); exact BK247.out) hb); have n6_ := QX (KeepBut.trans (by repeat (first | (with_reducible first | exact HK.out | apply KeepBut.set_ | apply QO | apply QT | apply QP | refine QN ?_ GW232.out _ | refine QN ?_ GW247.out _) | exact HK.out)) (KeepBut.of_below hb g none) (.inl rfl)); have n7_ := QX (below_step (by repeat (first | (with_reducible first | exact HB.out | apply QG | apply QE | apply QH | refine QF ?_ (IsS80.ge HI0.out) | refine QF ?_ GE232.out | refine QF ?_ GE247.out) | exact HB.out)) hb); clear HO239; clear HO242; clear HI0; clear BK232; clear BK247; clear HK; clear HB; revert n0_ n1_ n2_ n3_ n4_ n5_ n6_ n7_; intro HO239 HO242 HO253 HI0 BK232 BK247 HK HB; clear hb ho16; obtain ⟨Ao17,co17,eo17⟩ := Kd.R_slice HO253.out; subst eo17) | ((with_reducible refine QU (f := 62) rfl ?_); refine goesL_ (some 12) rfl rfl Tryd.func62 (by kernel_rfl) rfl #[.pointer (some ⟨g,0,none⟩),.slice Ao17 y251.length co17] rfl (by (try simp only [List.map_toArray,List.map_cons,List.map_nil]); first | done | rfl | (simp only [List.length_drop,List.length_take]; rfl)) ?_; (with_reducible refine (spec_l1Int.calls g s0_0 t249 t250 _ _ y251 t254 t255 t256 w0 _ ?side1 ?side2 ?side3 ?side4 ?side5 A5.out).mono ?_); (case side1 => repeat (first | (with_reducible first | exact HI0.out | apply IsS80.alloc | apply IsS80.drewN | apply IsS80.drew | apply IsS80.set_1 | apply IsS80.set_2 | refine IsS80.far ?_ NB0_232.out _ | refine IsS80.far ?_ NB0_247.out _) | exact HI0.out)); (case side2 => repeat (first | (with_reducible first | exact HB.out | apply QG | apply QE | apply QH | refine QF ?_ (IsS80.ge HI0.out) | refine QF ?_ GE232.out | refine QF ?_ GE247.out) | exact HB.out)); (case side3 => repeat (first | exact (Kd.R_reads' HO253.out).2.2 | (with_reducible refine Kd.C_alloc ?_ _) | (with_reducible refine Kd.C_drewN ?_ _) | (with_reducible refine Kd.C_drew ?_))); (case side4 => exact (Kd.R_reads' HO253.out).2.1); (case side5 => exact far_slice (IsS80.own_ne HI0.out HO253.out (by decide))); rintro e w18 ⟨rfl,hi,hb,hk⟩; refine ⟨_,rfl,?_⟩; have n0_ := QX (KeepBut.blk hk (g' := gb232) (o := .cells #[.int .i64 0,.int .i64 0,.bool false,.bool false,.slice none 0 0,.slice none 0 0,.int .i64 0,.int .i64 0] 26 (0,0)) (by (with_reducible repeat (first | refine QB ?_ _ | refine QD ?_ | refine QC ?_ _)); exact BK232.out) NB232_0.out (by simp)); have n1_ := QX (QR (Kd.R_keep (IsS80.apart (show IsS80 w0 _ g s0_0 t249 t250 from by repeat (first | (with_reducible first | exact HI0.out | apply IsS80.alloc | apply IsS80.drewN | apply IsS80.drew | apply IsS80.set_1 | apply IsS80.set_2 | refine IsS80.far ?_ NB0_232.out _ | refine IsS80.far ?_ NB0_247.out _) | exact HI0.out)) (by (with_reducible repeat (first | apply QI | apply QJ | apply QM)); exact HO239.out) (by decide)) hk (fun _ h => h.2)) (fun _ h => h.1)); have n2_ := QX (QR (Kd.R_keep (IsS80.apart (show IsS80 w0 _ g s0_0 t249 t250 from by repeat (first | (with_reducible first | exact HI0.out | apply IsS80.alloc | apply IsS80.drewN | apply IsS80.drew | apply IsS80.set_1 | apply IsS80.set_2 | refine IsS80.far ?_ NB0_232.out _ | refine IsS80.far ?_ NB0_247.out _) | exact HI0.out)) (by (with_reducible repeat (first | apply QI | apply QJ | apply QM)); exact HO242.out) (by decide)) hk (fun _ h => h.2)) (fun _ h => h.1)); have n3_ := QX (KeepBut.blk hk (g' := gb247) (o := .cells #[.int .i64 t233,.int .i64 t234,.bool t235,.bool t236,.slice Ao12 t237.length co12,.slice Ao13 t240.length co13,.int .i64 t243,.int .i64 t244] 26 (0,0)) (by (with_reducible repeat (first | refine QB ?_ _ | refine QD ?_ | refine QC ?_ _)); exact BK247.out) NB247_0.out (by simp)); have n4_ := QX (QR (Kd.R_keep (IsS80.apart (show IsS80 w0 _ g s0_0 t249 t250 from by repeat (first | (with_reducible first | exact HI0.out | apply IsS80.alloc | apply IsS80.drewN | apply IsS80.drew | apply IsS80.set_1 | apply IsS80.set_2 | refine IsS80.far ?_ NB0_232.out _ | refine IsS80.far ?_ NB0_247.out _) | exact HI0.out)) (by (with_reducible repeat (first | apply QI | apply QJ | apply QM)); exact HO253.out) (by decide)) hk (fun _ h => h.2)) (fun _ h => h.1)); have n5_ := QX (KeepBut.trans (by repeat (first | (with_reducible first | exact HK.out | apply KeepBut.set_ | apply QO | apply QT | apply QP | refine QN ?_ GW232.out _ | refine QN ?_ GW247.out _) | exact HK.out)) hk (.inl rfl)); have n6_ := QX (hb); have n7_ := QX (hi); clear BK232; clear HO239; clear HO242; clear BK247; clear HO253; clear HK; clear HB; clear HI0; revert n0_ n1_ n2_ n3_ n4_ n5_ n6_ n7_; intro BK232 HO239 HO242 BK247 HO253 HK HB HI0; (try clear hb); (try clear hk); (try clear hi); refine Aside0.out ?_))
  refine QX ?_
  have hcz19 := fun i => blk_cell BK247.out i
  have hfz19 := fun i => QV BK247.out i
  have hnb20 := NB232_0.out
  have hnc20 := NB0_232.out
  have hcz21 := fun i => blk_cell BK232.out i
  have hfz21 := fun i => QV BK232.out i
  go_wp2_with fail
  refine bodyPost_ret (results_cell_row rfl _ _ gb232 26 #[.int .i64 t254,.int .i64 t234,.bool t235,.bool t236,.slice Ao12 t237.length co12,.slice Ao13 t240.length co13,.int .i64 t243,.int .i64 t244] (0,0) _ rfl (by (with_reducible repeat (first | refine QB ?_ _ | refine QD ?_ | refine QC ?_ _)); refine QL (cs := #[.int .i64 t254,.int .i64 t234,.bool t235,.bool t236,.slice Ao12 t237.length co12,.slice Ao13 t240.length co13,.int .i64 t243,.int .i64 0]) ?_ 7 _ rfl; (with_reducible repeat (first | refine QB ?_ _ | refine QD ?_ | refine QC ?_ _)); refine QL (cs := #[.int .i64 t254,.int .i64 t234,.bool t235,.bool t236,.slice Ao12 t237.length co12,.slice Ao13 t240.length co13,.int .i64 0,.int .i64 0]) ?_ 6 _ rfl; (with_reducible repeat (first | refine QB ?_ _ | refine QD ?_ | refine QC ?_ _)); refine QL (cs := #[.int .i64 t254,.int .i64 t234,.bool t235,.bool t236,.slice Ao12 t237.length co12,.slice none 0 0,.int .i64 0,.int .i64 0]) ?_ 5 _ rfl; (with_reducible repeat (first | refine QB ?_ _ | refine QD ?_ | refine QC ?_ _)); refine QL (cs := #[.int .i64 t254,.int .i64 t234,.bool t235,.bool t236,.slice none 0 0,.slice none 0 0,.int .i64 0,.int .i64 0]) ?_ 4 _ rfl; (with_reducible repeat (first | refine QB ?_ _ | refine QD ?_ | refine QC ?_ _)); refine QL (cs := #[.int .i64 t254,.int .i64 t234,.bool t235,.bool false,.slice none 0 0,.slice none 0 0,.int .i64 0,.int .i64 0]) ?_ 3 _ rfl; (with_reducible repeat (first | refine QB ?_ _ | refine QD ?_ | refine QC ?_ _)); refine QL (cs := #[.int .i64 t254,.int .i64 t234,.bool false,.bool false,.slice none 0 0,.slice none 0 0,.int .i64 0,.int .i64 0]) ?_ 2 _ rfl; (with_reducible repeat (first | refine QB ?_ _ | refine QD ?_ | refine QC ?_ _)); refine QL (cs := #[.int .i64 t254,.int .i64 0,.bool false,.bool false,.slice none 0 0,.slice none 0 0,.int .i64 0,.int .i64 0]) ?_ 1 _ rfl; (with_reducible repeat (first | refine QB ?_ _ | refine QD ?_ | refine QC ?_ _)); refine QL (cs := #[.int .i64 0,.int .i64 0,.bool false,.bool false,.slice none 0 0,.slice none 0 0,.int .i64 0,.int .i64 0]) ?_ 0 _ rfl; (with_reducible repeat (first | refine QB ?_ _ | refine QD ?_ | refine QC ?_ _)); refine blk_far ?_ NB232_247.out _; (with_reducible repeat (first | refine QB ?_ _ | refine QD ?_ | refine QC ?_ _)); exact BK232.out) Tryd.underlying26 rfl (by kernel_rfl)) rfl ?_
  exact ⟨_,_,by first | rfl | (simp [errW_none,errW_some] <;> rfl) | (simp [*,errW_none,errW_some] <;> rfl),Kd.Q_of_R (by (with_reducible repeat (first | apply QI | apply QJ | apply QM)); exact QR (QK (QK (QK (QK (QK (QK (QK (QK (Kd.R_far (p := ⟨gb247,0,none⟩) (QS (QS HO239.out BK247.out (by decide)) BK232.out (by decide)) (fun _ hk => hk.1.2) (.int .i64 t254)))))))))) (fun _ hk => hk.1.1.1)),by (with_reducible repeat (first | apply QI | apply QJ | apply QM)); exact QR (QK (QK (QK (QK (QK (QK (QK (QK (Kd.R_far (p := ⟨gb247,0,none⟩) (QS (QS HO242.out BK247.out (by decide)) BK232.out (by decide)) (fun _ hk => hk.1.2) (.int .i64 t254)))))))))) (fun _ hk => hk.1.1.1),by repeat (first | (with_reducible first | exact HI0.out | apply IsS80.alloc | apply IsS80.drewN | apply IsS80.drew | apply IsS80.set_1 | apply IsS80.set_2 | refine IsS80.far ?_ NB0_232.out _ | refine IsS80.far ?_ NB0_247.out _) | exact HI0.out),by repeat (first | (with_reducible first | exact HB.out | apply QG | apply QE | apply QH | refine QF ?_ (IsS80.ge HI0.out) | refine QF ?_ GE232.out | refine QF ?_ GE247.out) | exact HB.out),by repeat (first | (with_reducible first | exact HK.out | apply KeepBut.set_ | apply QO | apply QT | apply QP | refine QN ?_ GW232.out _ | refine QN ?_ GW247.out _) | exact HK.out)⟩
 ·rw [if_neg c4] at H
  have c4b0 : (t248 == 0) = false := beq_eq_false_iff_ne.mpr c4
  have c4b1 : (t248 != 0) = true := bne_iff_ne.mpr c4
  by_cases c22 : t248 = 1
  ·rw [if_pos c22] at H
   have c22b0 : (t248 == 1) = true := beq_iff_eq.mpr c22
   have c22b1 : (t248 != 1) = false := bne_eq_false_iff_eq.mpr c22
   clear c22
   obtain ⟨y257,hy257⟩ : ∃ y_ : List Int,y_ = (([0,8,9] : List Int)) := ⟨_,rfl⟩
   replace H : ((spec_l1Int.f s0_0 t249 t250 y257).bind fun bt260 => (some (t233,bt260.1,t235,t236,t237,t240,t243,t244,bt260.2.1,bt260.2.2))) = some (r1,r2,r3,r4,r5,r6,r7,r8,r9,r10) := by first | (rw [hy257]; with_reducible exact H) | (have H2_ := (Option.bind_some _ _).symm.trans H; rw [hy257]; with_reducible exact H2_) | (have H2_ := (Option.bind_some _ _).symm.trans H; with_reducible exact H2_) | with_reducible exact H | (rw [hy257]; exact H) | exact H
   have Ny257 := QX hy257
   clear hy257
   replace H := QY.mp H
   obtain ⟨⟨t260,t261,t262⟩,A230,H⟩ := H
   replace H : (some (t233,t260,t235,t236,t237,t240,t243,t244,t261,t262)) = some (r1,r2,r3,r4,r5,r6,r7,r8,r9,r10) := H
   have A23 := QX A230
   clear A230
   simp only [Option.some.injEq,Prod.mk.injEq] at H
   obtain ⟨rfl,rfl,rfl,rfl,rfl,rfl,rfl,rfl,rfl,rfl⟩ := H
   go_wp2_with (first | ((with_reducible refine gate_dst (N := 17) rfl ?_); refine Kd.R_lit (Kd.int .i64) _ 3 ?hg (N := 17) ?hd (xs := ([0,8,9] : List Int)) (inner := [.int .i64 0,.int .i64 8,.int .i64 9]) (ok := fun _ => True) (okp := fun _ => True) ?hr ?hp (fun _ hk => hk) trivial (Below.refl _ _) (Nat.le_refl _) (by simp) ?_; (case hd => rfl); (case hg => rfl); (case hr => first | (go_simp; done) | (go_simp; rfl)); (case hp => exact (Reps.one (show Kd.M (Kd.int .i64) _ _ _ 0 [.int .i64 0] from rfl) (Reps.one (show Kd.M (Kd.int .i64) _ _ _ 8 [.int .i64 8] from rfl) (Reps.one (show Kd.M (Kd.int .i64) _ _ _ 9 [.int .i64 9] from rfl) (Reps.none _ _))))); intro v258 w33 ho34 hb hg_ hnew_; clear hg_ hnew_; (first | rw [← Ny257.out] at ho34 | (simp only [Int.reduceToNat] at ho34; rw [← Ny257.out] at ho34)); have n0_ := QX (Kd.R_elder' (by (with_reducible repeat (first | apply QI | apply QJ | apply QM)); exact HO239.out) (Kd.R_base ho34) hb); have n1_ := QX (Kd.R_elder' (by (with_reducible repeat (first | apply QI | apply QJ | apply QM)); exact HO242.out) (Kd.R_base ho34) hb); have n2_ := QX (Kd.R_lower (Kd.R_new' (Kd.R_new' ho34 (Kd.R_lt (by (with_reducible repeat (first | apply QI | apply QJ | apply QM)); exact HO239.out))) (Kd.R_lt (by (with_reducible repeat (first | apply QI | apply QJ | apply QM)); exact HO242.out))) (keep_size (w := w) (g := g) (row := none) (by repeat (first | (with_reducible first | exact HK.out | apply KeepBut.set_ | apply QO | apply QT | apply QP | refine QN ?_ GW232.out _ | refine QN ?_ GW247.out _) | exact HK.out)))); have n3_ := QX (IsS80.below (by repeat (first | (with_reducible first | exact HI0.out | apply IsS80.alloc | apply IsS80.drewN | apply IsS80.drew | apply IsS80.set_1 | apply IsS80.set_2 | refine IsS80.far ?_ NB0_232.out _ | refine IsS80.far ?_ NB0_247.out _) | exact HI0.out)) hb); have n4_ := QX (blk_below (g := gb232) (o := .cells #[.int .i64 0,.int .i64 0,.bool false,.bool false,.slice none 0 0,.slice none 0 0,.int .i64 0,.int .i64 0] 26 (0,0)) (by (with_reducible repeat (first | refine QB ?_ _ | refine QD ?_ | refine QC ?_ _)); exact BK232.out) hb); have n5_ := QX (blk_below (g := gb247) (o := .cells #[.int .i64 t233,.int .i64 t234,.bool t235,.bool t236,.slice Ao12 t237.length co12,.slice Ao13 t240.length co13,.int .i64 t243,.int .i64 t244] 26 (0,0)) (by (with_reducible repeat (first | refine QB ?_ _ | refine QD ?_ | refine QC ?_ _)); exact BK247.out) hb); have n6_ := QX (KeepBut.trans (by repeat (first | (with_reducible first | exact HK.out | apply KeepBut.set_ | apply QO | apply QT | apply QP | refine QN ?_ GW232.out _ | refine QN ?_ GW247.out _) | exact HK.out)) (KeepBut.of_below hb g none) (.inl rfl)); have n7_ := QX (below_step (by repeat (first | (with_reducible first | exact HB.out | apply QG | apply QE | apply QH | refine QF ?_ (IsS80.ge HI0.out) | refine QF ?_ GE232.out | refine QF ?_ GE247.out) | exact HB.out)) hb); clear HO239; clear HO242; clear HI0; clear BK232; clear BK247; clear HK; clear HB; revert n0_ n1_ n2_ n3_ n4_ n5_ n6_ n7_; intro HO239 HO242 HO259 HI0 BK232 BK247 HK HB; clear hb ho34; obtain ⟨Ao35,co35,eo35⟩ := Kd.R_slice HO259.out; subst eo35) | ((with_reducible refine QU (f := 62) rfl ?_); refine goesL_ (some 18) rfl rfl Tryd.func62 (by kernel_rfl) rfl #[.pointer (some ⟨g,0,none⟩),.slice Ao35 y257.length co35] rfl (by (try simp only [List.map_toArray,List.map_cons,List.map_nil]); first | done | rfl | (simp only [List.length_drop,List.length_take]; rfl)) ?_; (with_reducible refine (spec_l1Int.calls g s0_0 t249 t250 _ _ y257 t260 t261 t262 w0 _ ?side1 ?side2 ?side3 ?side4 ?side5 A23.out).mono ?_); (case side1 => repeat (first | (with_reducible first | exact HI0.out | apply IsS80.alloc | apply IsS80.drewN | apply IsS80.drew | apply IsS80.set_1 | apply IsS80.set_2 | refine IsS80.far ?_ NB0_232.out _ | refine IsS80.far ?_ NB0_247.out _) | exact HI0.out)); (case side2 => repeat (first | (with_reducible first | exact HB.out | apply QG | apply QE | apply QH | refine QF ?_ (IsS80.ge HI0.out) | refine QF ?_ GE232.out | refine QF ?_ GE247.out) | exact HB.out)); (case side3 => repeat (first | exact (Kd.R_reads' HO259.out).2.2 | (with_reducible refine Kd.C_alloc ?_ _) | (with_reducible refine Kd.C_drewN ?_ _) | (with_reducible refine Kd.C_drew ?_))); (case side4 => exact (Kd.R_reads' HO259.out).2.1); (case side5 => exact far_slice (IsS80.own_ne HI0.out HO259.out (by decide))); rintro e w36 ⟨rfl,hi,hb,hk⟩; refine ⟨_,rfl,?_⟩; have n0_ := QX (KeepBut.blk hk (g' := gb232) (o := .cells #[.int .i64 0,.int .i64 0,.bool false,.bool false,.slice none 0 0,.slice none 0 0,.int .i64 0,.int .i64 0] 26 (0,0)) (by (with_reducible repeat (first | refine QB ?_ _ | refine QD ?_ | refine QC ?_ _)); exact BK232.out) NB232_0.out (by simp)); have n1_ := QX (QR (Kd.R_keep (IsS80.apart (show IsS80 w0 _ g s0_0 t249 t250 from by repeat (first | (with_reducible first | exact HI0.out | apply IsS80.alloc | apply IsS80.drewN | apply IsS80.drew | apply IsS80.set_1 | apply IsS80.set_2 | refine IsS80.far ?_ NB0_232.out _ | refine IsS80.far ?_ NB0_247.out _) | exact HI0.out)) (by (with_reducible repeat (first | apply QI | apply QJ | apply QM)); exact HO239.out) (by decide)) hk (fun _ h => h.2)) (fun _ h => h.1)); have n2_ := QX (QR (Kd.R_keep (IsS80.apart (show IsS80 w0 _ g s0_0 t249 t250 from by repeat (first | (with_reducible first | exact HI0.out | apply IsS80.alloc | apply IsS80.drewN | apply IsS80.drew | apply IsS80.set_1 | apply IsS80.set_2 | refine IsS80.far ?_ NB0_232.out _ | refine IsS80.far ?_ NB0_247.out _) | exact HI0.out)) (by (with_reducible repeat (first | apply QI | apply QJ | apply QM)); exact HO242.out) (by decide)) hk (fun _ h => h.2)) (fun _ h => h.1)); have n3_ := QX (KeepBut.blk hk (g' := gb247) (o := .cells #[.int .i64 t233,.int .i64 t234,.bool t235,.bool t236,.slice Ao12 t237.length co12,.slice Ao13 t240.length co13,.int .i64 t243,.int .i64 t244] 26 (0,0)) (by (with_reducible repeat (first | refine QB ?_ _ | refine QD ?_ | refine QC ?_ _)); exact BK247.out) NB247_0.out (by simp)); have n4_ := QX (QR (Kd.R_keep (IsS80.apart (show IsS80 w0 _ g s0_0 t249 t250 from by repeat (first | (with_reducible first | exact HI0.out | apply IsS80.alloc | apply IsS80.drewN | apply IsS80.drew | apply IsS80.set_1 | apply IsS80.set_2 | refine IsS80.far ?_ NB0_232.out _ | refine IsS80.far ?_ NB0_247.out _) | exact HI0.out)) (by (with_reducible repeat (first | apply QI | apply QJ | apply QM)); exact HO259.out) (by decide)) hk (fun _ h => h.2)) (fun _ h => h.1)); have n5_ := QX (KeepBut.trans (by repeat (first | (with_reducible first | exact HK.out | apply KeepBut.set_ | apply QO | apply QT | apply QP | refine QN ?_ GW232.out _ | refine QN ?_ GW247.out _) | exact HK.out)) hk (.inl rfl)); have n6_ := QX (hb); have n7_ := QX (hi); clear BK232; clear HO239; clear HO242; clear BK247; clear HO259; clear HK; clear HB; clear HI0; revert n0_ n1_ n2_ n3_ n4_ n5_ n6_ n7_; intro BK232 HO239 HO242 BK247 HO259 HK HB HI0; (try clear hb); (try clear hk); (try clear hi); refine Aside0.out ?_))
   refine QX ?_
   have hcz37 := fun i => blk_cell BK247.out i
   have hfz37 := fun i => QV BK247.out i
   have hnb38 := NB232_0.out
   have hnc38 := NB0_232.out
   have hcz39 := fun i => blk_cell BK232.out i
   have hfz39 := fun i => QV BK232.out i
   go_wp2_with fail
   refine bodyPost_ret (results_cell_row rfl _ _ gb232 26 #[.int .i64 t233,.int .i64 t260,.bool t235,.bool t236,.slice Ao12 t237.length co12,.slice Ao13 t240.length co13,.int .i64 t243,.int .i64 t244] (0,0) _ rfl (by (with_reducible repeat (first | refine QB ?_ _ | refine QD ?_ | refine QC ?_ _)); refine QL (cs := #[.int .i64 t233,.int .i64 t260,.bool t235,.bool t236,.slice Ao12 t237.length co12,.slice Ao13 t240.length co13,.int .i64 t243,.int .i64 0]) ?_ 7 _ rfl; (with_reducible repeat (first | refine QB ?_ _ | refine QD ?_ | refine QC ?_ _)); refine QL (cs := #[.int .i64 t233,.int .i64 t260,.bool t235,.bool t236,.slice Ao12 t237.length co12,.slice Ao13 t240.length co13,.int .i64 0,.int .i64 0]) ?_ 6 _ rfl; (with_reducible repeat (first | refine QB ?_ _ | refine QD ?_ | refine QC ?_ _)); refine QL (cs := #[.int .i64 t233,.int .i64 t260,.bool t235,.bool t236,.slice Ao12 t237.length co12,.slice none 0 0,.int .i64 0,.int .i64 0]) ?_ 5 _ rfl; (with_reducible repeat (first | refine QB ?_ _ | refine QD ?_ | refine QC ?_ _)); refine QL (cs := #[.int .i64 t233,.int .i64 t260,.bool t235,.bool t236,.slice none 0 0,.slice none 0 0,.int .i64 0,.int .i64 0]) ?_ 4 _ rfl; (with_reducible repeat (first | refine QB ?_ _ | refine QD ?_ | refine QC ?_ _)); refine QL (cs := #[.int .i64 t233,.int .i64 t260,.bool t235,.bool false,.slice none 0 0,.slice none 0 0,.int .i64 0,.int .i64 0]) ?_ 3 _ rfl; (with_reducible repeat (first | refine QB ?_ _ | refine QD ?_ | refine QC ?_ _)); refine QL (cs := #[.int .i64 t233,.int .i64 t260,.bool false,.bool false,.slice none 0 0,.slice none 0 0,.int .i64 0,.int .i64 0]) ?_ 2 _ rfl; (with_reducible repeat (first | refine QB ?_ _ | refine QD ?_ | refine QC ?_ _)); refine QL (cs := #[.int .i64 t233,.int .i64 0,.bool false,.bool false,.slice none 0 0,.slice none 0 0,.int .i64 0,.int .i64 0]) ?_ 1 _ rfl; (with_reducible repeat (first | refine QB ?_ _ | refine QD ?_ | refine QC ?_ _)); refine QL (cs := #[.int .i64 0,.int .i64 0,.bool false,.bool false,.slice none 0 0,.slice none 0 0,.int .i64 0,.int .i64 0]) ?_ 0 _ rfl; (with_reducible repeat (first | refine QB ?_ _ | refine QD ?_ | refine QC ?_ _)); refine blk_far ?_ NB232_247.out _; (with_reducible repeat (first | refine QB ?_ _ | refine QD ?_ | refine QC ?_ _)); exact BK232.out) Tryd.underlying26 rfl (by kernel_rfl)) rfl ?_
   exact ⟨_,_,by first | rfl | (simp [errW_none,errW_some] <;> rfl) | (simp [*,errW_none,errW_some] <;> rfl),Kd.Q_of_R (by (with_reducible repeat (first | apply QI | apply QJ | apply QM)); exact QR (QK (QK (QK (QK (QK (QK (QK (QK (Kd.R_far (p := ⟨gb247,1,none⟩) (QS (QS HO239.out BK247.out (by decide)) BK232.out (by decide)) (fun _ hk => hk.1.2) (.int .i64 t260)))))))))) (fun _ hk => hk.1.1.1)),by (with_reducible repeat (first | apply QI | apply QJ | apply QM)); exact QR (QK (QK (QK (QK (QK (QK (QK (QK (Kd.R_far (p := ⟨gb247,1,none⟩) (QS (QS HO242.out BK247.out (by decide)) BK232.out (by decide)) (fun _ hk => hk.1.2) (.int .i64 t260)))))))))) (fun _ hk => hk.1.1.1),by repeat (first | (with_reducible first | exact HI0.out | apply IsS80.alloc | apply IsS80.drewN | apply IsS80.drew | apply IsS80.set_1 | apply IsS80.set_2 | refine IsS80.far ?_ NB0_232.out _ | refine IsS80.far ?_ NB0_247.out _) | exact HI0.out),by repeat (first | (with_reducible first | exact HB.out | apply QG | apply QE | apply QH | refine QF ?_ (IsS80.ge HI0.out) | refine QF ?_ GE232.out | refine QF ?_ GE247.out) | exact HB.out),by repeat (first | (with_reducible first | exact HK.out | apply KeepBut.set_ | apply QO | apply QT | apply QP | refine QN ?_ GW232.out _ | refine QN ?_ GW247.out _) | exact HK.out)⟩
  ·rw [if_neg c22] at H
   have c22b0 : (t248 == 1) = false := beq_eq_false_iff_ne.mpr c22
   have c22b1 : (t248 != 1) = true := bne_iff_ne.mpr c22
   by_cases c40 : t248 = 2
   ·rw [if_pos c40] at H
    have c40b0 : (t248 == 2) = true := beq_iff_eq.mpr c40
    have c40b1 : (t248 != 2) = false := bne_eq_false_iff_eq.mpr c40
    clear c40
    simp only [Option.some.injEq,Prod.mk.injEq] at H
    obtain ⟨rfl,rfl,rfl,rfl,rfl,rfl,rfl,rfl,rfl,rfl⟩ := H
    have hcz50 := fun i => blk_cell BK247.out i
    have hfz50 := fun i => QV BK247.out i
    have hnb51 := NB232_0.out
    have hnc51 := NB0_232.out
    have hcz52 := fun i => blk_cell BK232.out i
    have hfz52 := fun i => QV BK232.out i
    go_wp2_with fail
    refine bodyPost_ret (results_cell_row rfl _ _ gb232 26 #[.int .i64 t233,.int .i64 t234,.bool t235,.bool false,.slice Ao12 t237.length co12,.slice Ao13 t240.length co13,.int .i64 t243,.int .i64 t244] (0,0) _ rfl (by (with_reducible repeat (first | refine QB ?_ _ | refine QD ?_ | refine QC ?_ _)); refine QL (cs := #[.int .i64 t233,.int .i64 t234,.bool t235,.bool false,.slice Ao12 t237.length co12,.slice Ao13 t240.length co13,.int .i64 t243,.int .i64 0]) ?_ 7 _ rfl; (with_reducible repeat (first | refine QB ?_ _ | refine QD ?_ | refine QC ?_ _)); refine QL (cs := #[.int .i64 t233,.int .i64 t234,.bool t235,.bool false,.slice Ao12 t237.length co12,.slice Ao13 t240.length co13,.int .i64 0,.int .i64 0]) ?_ 6 _ rfl; (with_reducible repeat (first | refine QB ?_ _ | refine QD ?_ | refine QC ?_ _)); refine QL (cs := #[.int .i64 t233,.int .i64 t234,.bool t235,.bool false,.slice Ao12 t237.length co12,.slice none 0 0,.int .i64 0,.int .i64 0]) ?_ 5 _ rfl; (with_reducible repeat (first | refine QB ?_ _ | refine QD ?_ | refine QC ?_ _)); refine QL (cs := #[.int .i64 t233,.int .i64 t234,.bool t235,.bool false,.slice none 0 0,.slice none 0 0,.int .i64 0,.int .i64 0]) ?_ 4 _ rfl; (with_reducible repeat (first | refine QB ?_ _ | refine QD ?_ | refine QC ?_ _)); refine QL (cs := #[.int .i64 t233,.int .i64 t234,.bool t235,.bool false,.slice none 0 0,.slice none 0 0,.int .i64 0,.int .i64 0]) ?_ 3 _ rfl; (with_reducible repeat (first | refine QB ?_ _ | refine QD ?_ | refine QC ?_ _)); refine QL (cs := #[.int .i64 t233,.int .i64 t234,.bool false,.bool false,.slice none 0 0,.slice none 0 0,.int .i64 0,.int .i64 0]) ?_ 2 _ rfl; (with_reducible repeat (first | refine QB ?_ _ | refine QD ?_ | refine QC ?_ _)); refine QL (cs := #[.int .i64 t233,.int .i64 0,.bool false,.bool false,.slice none 0 0,.slice none 0 0,.int .i64 0,.int .i64 0]) ?_ 1 _ rfl; (with_reducible repeat (first | refine QB ?_ _ | refine QD ?_ | refine QC ?_ _)); refine QL (cs := #[.int .i64 0,.int .i64 0,.bool false,.bool false,.slice none 0 0,.slice none 0 0,.int .i64 0,.int .i64 0]) ?_ 0 _ rfl; (with_reducible repeat (first | refine QB ?_ _ | refine QD ?_ | refine QC ?_ _)); refine blk_far ?_ NB232_247.out _; (with_reducible repeat (first | refine QB ?_ _ | refine QD ?_ | refine QC ?_ _)); exact BK232.out) Tryd.underlying26 rfl (by kernel_rfl)) rfl ?_
    exact ⟨_,_,by first | rfl | (simp [errW_none,errW_some] <;> rfl) | (simp [*,errW_none,errW_some] <;> rfl),Kd.Q_of_R (by (with_reducible repeat (first | apply QI | apply QJ | apply QM)); exact QR (QK (QK (QK (QK (QK (QK (QK (QK (Kd.R_far (p := ⟨gb247,3,none⟩) (QS (QS HO239.out BK247.out (by decide)) BK232.out (by decide)) (fun _ hk => hk.1.2) (.bool false)))))))))) (fun _ hk => hk.1.1)),by (with_reducible repeat (first | apply QI | apply QJ | apply QM)); exact QR (QK (QK (QK (QK (QK (QK (QK (QK (Kd.R_far (p := ⟨gb247,3,none⟩) (QS (QS HO242.out BK247.out (by decide)) BK232.out (by decide)) (fun _ hk => hk.1.2) (.bool false)))))))))) (fun _ hk => hk.1.1),by repeat (first | (with_reducible first | exact HI0.out | apply IsS80.alloc | apply IsS80.drewN | apply IsS80.drew | apply IsS80.set_1 | apply IsS80.set_2 | refine IsS80.far ?_ NB0_232.out _ | refine IsS80.far ?_ NB0_247.out _) | exact HI0.out),by repeat (first | (with_reducible first | exact HB.out | apply QG | apply QE | apply QH | refine QF ?_ (IsS80.ge HI0.out) | refine QF ?_ GE232.out | refine QF ?_ GE247.out) | exact HB.out),by repeat (first | (with_reducible first | exact HK.out | apply KeepBut.set_ | apply QO | apply QT | apply QP | refine QN ?_ GW232.out _ | refine QN ?_ GW247.out _) | exact HK.out)⟩
   ·rw [if_neg c40] at H
    have c40b0 : (t248 == 2) = false := beq_eq_false_iff_ne.mpr c40
    have c40b1 : (t248 != 2) = true := bne_iff_ne.mpr c40
    by_cases c53 : t248 = 3
    ·rw [if_pos c53] at H
     have c53b0 : (t248 == 3) = true := beq_iff_eq.mpr c53
     have c53b1 : (t248 != 3) = false := bne_eq_false_iff_eq.mpr c53
     clear c53
     replace H := QY.mp H
     obtain ⟨⟨t263,t266,t267⟩,A540,H⟩ := H
     replace H : (some (t233,t234,t235,t236,t263,t240,t243,t244,t266,t267)) = some (r1,r2,r3,r4,r5,r6,r7,r8,r9,r10) := H
     have A54 := QX A540
     clear A540
     simp only [Option.some.injEq,Prod.mk.injEq] at H
     obtain ⟨rfl,rfl,rfl,rfl,rfl,rfl,rfl,rfl,rfl,rfl⟩ := H
     go_wp2_with (first | ((with_reducible refine QU (f := 63) rfl ?_); refine goesL_ (some 26) rfl rfl Tryd.func63 (by kernel_rfl) rfl #[.pointer (some ⟨g,0,none⟩)] rfl (by (try simp only [List.map_toArray,List.map_cons,List.map_nil]); first | done | rfl | (simp only [List.length_drop,List.length_take]; rfl)) ?_; (with_reducible refine (spec_l8Any.calls k g s0_0 t249 t250 t263 t266 t267 w0 _ ?side1 ?side2 A54.out).mono ?_); (case side1 => repeat (first | (with_reducible first | exact HI0.out | apply IsS80.alloc | apply IsS80.drewN | apply IsS80.drew | apply IsS80.set_1 | apply IsS80.set_2 | refine IsS80.far ?_ NB0_232.out _ | refine IsS80.far ?_ NB0_247.out _) | exact HI0.out)); (case side2 => repeat (first | (with_reducible first | exact HB.out | apply QG | apply QE | apply QH | refine QF ?_ (IsS80.ge HI0.out) | refine QF ?_ GE232.out | refine QF ?_ GE247.out) | exact HB.out)); rintro e w64 ⟨v264,rfl,ho0,hi,hb,hk⟩; refine ⟨_,rfl,?_⟩; have n0_ := QX (KeepBut.blk hk (g' := gb232) (o := .cells #[.int .i64 0,.int .i64 0,.bool false,.bool false,.slice none 0 0,.slice none 0 0,.int .i64 0,.int .i64 0] 26 (0,0)) (by (with_reducible repeat (first | refine QB ?_ _ | refine QD ?_ | refine QC ?_ _)); exact BK232.out) NB232_0.out (by simp)); have n1_ := QX (QR (Kd.R_told (Kd.R_oldK (IsS80.apart (show IsS80 w0 _ g s0_0 t249 t250 from by repeat (first | (with_reducible first | exact HI0.out | apply IsS80.alloc | apply IsS80.drewN | apply IsS80.drew | apply IsS80.set_1 | apply IsS80.set_2 | refine IsS80.far ?_ NB0_232.out _ | refine IsS80.far ?_ NB0_247.out _) | exact HI0.out)) (by (with_reducible repeat (first | apply QI | apply QJ | apply QM)); exact HO239.out) (by decide)) hk) (Kd.Q_base ho0)) (fun _ h_ => h_.1)); have n2_ := QX (QR (Kd.R_told (Kd.R_oldK (IsS80.apart (show IsS80 w0 _ g s0_0 t249 t250 from by repeat (first | (with_reducible first | exact HI0.out | apply IsS80.alloc | apply IsS80.drewN | apply IsS80.drew | apply IsS80.set_1 | apply IsS80.set_2 | refine IsS80.far ?_ NB0_232.out _ | refine IsS80.far ?_ NB0_247.out _) | exact HI0.out)) (by (with_reducible repeat (first | apply QI | apply QJ | apply QM)); exact HO242.out) (by decide)) hk) (Kd.Q_base ho0)) (fun _ h_ => h_.1)); have n3_ := QX (KeepBut.blk hk (g' := gb247) (o := .cells #[.int .i64 t233,.int .i64 t234,.bool t235,.bool t236,.slice Ao12 t237.length co12,.slice Ao13 t240.length co13,.int .i64 t243,.int .i64 t244] 26 (0,0)) (by (with_reducible repeat (first | refine QB ?_ _ | refine QD ?_ | refine QC ?_ _)); exact BK247.out) NB247_0.out (by simp)); have n4_ := QX (Kd.Q_lower (Kd.Q_new' (Kd.Q_new' ho0 (Kd.R_lt (by (with_reducible repeat (first | apply QI | apply QJ | apply QM)); exact HO239.out))) (Kd.R_lt (by (with_reducible repeat (first | apply QI | apply QJ | apply QM)); exact HO242.out))) (keep_size (w := w) (g := g) (row := none) (by repeat (first | (with_reducible first | exact HK.out | apply KeepBut.set_ | apply QO | apply QT | apply QP | refine QN ?_ GW232.out _ | refine QN ?_ GW247.out _) | exact HK.out)))); have n5_ := QX (KeepBut.trans (by repeat (first | (with_reducible first | exact HK.out | apply KeepBut.set_ | apply QO | apply QT | apply QP | refine QN ?_ GW232.out _ | refine QN ?_ GW247.out _) | exact HK.out)) hk (.inl rfl)); have n6_ := QX (hb); have n7_ := QX (hi); clear BK232; clear HO239; clear HO242; clear BK247; clear HK; clear HB; clear HI0; revert n0_ n1_ n2_ n3_ n4_ n5_ n6_ n7_; intro BK232 HO239 HO242 BK247 HO265 HK HB HI0; (try clear hb); (try clear hk); (try clear hi); (try clear ho0); obtain ⟨Ao65,co65,eo65,_⟩ := Kd.Q_slice HO265.out; refine Aside0.out ?_))
     refine QX ?_
     subst eo65
     have hcz66 := fun i => blk_cell BK247.out i
     have hfz66 := fun i => QV BK247.out i
     have hnb67 := NB232_0.out
     have hnc67 := NB0_232.out
     have hcz68 := fun i => blk_cell BK232.out i
     have hfz68 := fun i => QV BK232.out i
     go_wp2_with fail
     refine bodyPost_ret (results_cell_row rfl _ _ gb232 26 #[.int .i64 t233,.int .i64 t234,.bool t235,.bool t236,.slice Ao65 t263.length co65,.slice Ao13 t240.length co13,.int .i64 t243,.int .i64 t244] (0,0) _ rfl (by (with_reducible repeat (first | refine QB ?_ _ | refine QD ?_ | refine QC ?_ _)); refine QL (cs := #[.int .i64 t233,.int .i64 t234,.bool t235,.bool t236,.slice Ao65 t263.length co65,.slice Ao13 t240.length co13,.int .i64 t243,.int .i64 0]) ?_ 7 _ rfl; (with_reducible repeat (first | refine QB ?_ _ | refine QD ?_ | refine QC ?_ _)); refine QL (cs := #[.int .i64 t233,.int .i64 t234,.bool t235,.bool t236,.slice Ao65 t263.length co65,.slice Ao13 t240.length co13,.int .i64 0,.int .i64 0]) ?_ 6 _ rfl; (with_reducible repeat (first | refine QB ?_ _ | refine QD ?_ | refine QC ?_ _)); refine QL (cs := #[.int .i64 t233,.int .i64 t234,.bool t235,.bool t236,.slice Ao65 t263.length co65,.slice none 0 0,.int .i64 0,.int .i64 0]) ?_ 5 _ rfl; (with_reducible repeat (first | refine QB ?_ _ | refine QD ?_ | refine QC ?_ _)); refine QL (cs := #[.int .i64 t233,.int .i64 t234,.bool t235,.bool t236,.slice none 0 0,.slice none 0 0,.int .i64 0,.int .i64 0]) ?_ 4 _ rfl; (with_reducible repeat (first | refine QB ?_ _ | refine QD ?_ | refine QC ?_ _)); refine QL (cs := #[.int .i64 t233,.int .i64 t234,.bool t235,.bool false,.slice none 0 0,.slice none 0 0,.int .i64 0,.int .i64 0]) ?_ 3 _ rfl; (with_reducible repeat (first | refine QB ?_ _ | refine QD ?_ | refine QC ?_ _)); refine QL (cs := #[.int .i64 t233,.int .i64 t234,.bool false,.bool false,.slice none 0 0,.slice none 0 0,.int .i64 0,.int .i64 0]) ?_ 2 _ rfl; (with_reducible repeat (first | refine QB ?_ _ | refine QD ?_ | refine QC ?_ _)); refine QL (cs := #[.int .i64 t233,.int .i64 0,.bool false,.bool false,.slice none 0 0,.slice none 0 0,.int .i64 0,.int .i64 0]) ?_ 1 _ rfl; (with_reducible repeat (first | refine QB ?_ _ | refine QD ?_ | refine QC ?_ _)); refine QL (cs := #[.int .i64 0,.int .i64 0,.bool false,.bool false,.slice none 0 0,.slice none 0 0,.int .i64 0,.int .i64 0]) ?_ 0 _ rfl; (with_reducible repeat (first | refine QB ?_ _ | refine QD ?_ | refine QC ?_ _)); refine blk_far ?_ NB232_247.out _; (with_reducible repeat (first | refine QB ?_ _ | refine QD ?_ | refine QC ?_ _)); exact BK232.out) Tryd.underlying26 rfl (by kernel_rfl)) rfl ?_
     exact ⟨_,_,by first | rfl | (simp [errW_none,errW_some] <;> rfl) | (simp [*,errW_none,errW_some] <;> rfl),by (with_reducible repeat (first | apply Kd.Q_alloc | apply Kd.Q_drewN | apply Kd.Q_drew)); exact Kd.Q_mono (QW (p := ⟨gb232,7,none⟩) (QW (p := ⟨gb232,6,none⟩) (QW (p := ⟨gb232,5,none⟩) (QW (p := ⟨gb232,4,none⟩) (QW (p := ⟨gb232,3,none⟩) (QW (p := ⟨gb232,2,none⟩) (QW (p := ⟨gb232,1,none⟩) (QW (p := ⟨gb232,0,none⟩) (QW (p := ⟨gb247,4,none⟩) (Kd.Q_types (Kd.Q_types HO265.out BK247.out (by decide)) BK232.out (by decide)) (fun _ hk => hk.1.2) (.slice Ao65 t263.length co65)) (fun _ hk => hk.2) (.int .i64 t233)) (fun _ hk => hk.2) (.int .i64 t234)) (fun _ hk => hk.2) (.bool t235)) (fun _ hk => hk.2) (.bool t236)) (fun _ hk => hk.2) (.slice Ao65 t263.length co65)) (fun _ hk => hk.2) (.slice Ao13 t240.length co13)) (fun _ hk => hk.2) (.int .i64 t243)) (fun _ hk => hk.2) (.int .i64 t244)) (fun _ hk => hk.1.1.2),by (with_reducible repeat (first | apply QI | apply QJ | apply QM)); exact QR (QK (QK (QK (QK (QK (QK (QK (QK (Kd.R_far (p := ⟨gb247,4,none⟩) (QS (QS HO242.out BK247.out (by decide)) BK232.out (by decide)) (fun _ hk => hk.1.2) (.slice Ao65 t263.length co65)))))))))) (fun _ hk => hk.1.1.2),by repeat (first | (with_reducible first | exact HI0.out | apply IsS80.alloc | apply IsS80.drewN | apply IsS80.drew | apply IsS80.set_1 | apply IsS80.set_2 | refine IsS80.far ?_ NB0_232.out _ | refine IsS80.far ?_ NB0_247.out _) | exact HI0.out),by repeat (first | (with_reducible first | exact HB.out | apply QG | apply QE | apply QH | refine QF ?_ (IsS80.ge HI0.out) | refine QF ?_ GE232.out | refine QF ?_ GE247.out) | exact HB.out),by repeat (first | (with_reducible first | exact HK.out | apply KeepBut.set_ | apply QO | apply QT | apply QP | refine QN ?_ GW232.out _ | refine QN ?_ GW247.out _) | exact HK.out)⟩
    ·rw [if_neg c53] at H
     have c53b0 : (t248 == 3) = false := beq_eq_false_iff_ne.mpr c53
     have c53b1 : (t248 != 3) = true := bne_iff_ne.mpr c53
     by_cases c69 : t248 = 4
     ·rw [if_pos c69] at H
      have c69b0 : (t248 == 4) = true := beq_iff_eq.mpr c69
      have c69b1 : (t248 != 4) = false := bne_eq_false_iff_eq.mpr c69
      clear c69
      obtain ⟨y268,hy268⟩ : ∃ y_ : List Int,y_ = (([0,4,5] : List Int)) := ⟨_,rfl⟩
      replace H : ((spec_l1Int.f s0_0 t249 t250 y268).bind fun bt271 => (some (t233,t234,t235,t236,t237,t240,bt271.1,t244,bt271.2.1,bt271.2.2))) = some (r1,r2,r3,r4,r5,r6,r7,r8,r9,r10) := by first | (rw [hy268]; with_reducible exact H) | (have H2_ := (Option.bind_some _ _).symm.trans H; rw [hy268]; with_reducible exact H2_) | (have H2_ := (Option.bind_some _ _).symm.trans H; with_reducible exact H2_) | with_reducible exact H | (rw [hy268]; exact H) | exact H
      have Ny268 := QX hy268
      clear hy268
      replace H := QY.mp H
      obtain ⟨⟨t271,t272,t273⟩,A700,H⟩ := H
      replace H : (some (t233,t234,t235,t236,t237,t240,t271,t244,t272,t273)) = some (r1,r2,r3,r4,r5,r6,r7,r8,r9,r10) := H
      have A70 := QX A700
      clear A700
      simp only [Option.some.injEq,Prod.mk.injEq] at H
      obtain ⟨rfl,rfl,rfl,rfl,rfl,rfl,rfl,rfl,rfl,rfl⟩ := H
      go_wp2_with (first | ((with_reducible refine gate_dst (N := 31) rfl ?_); refine Kd.R_lit (Kd.int .i64) _ 3 ?hg (N := 31) ?hd (xs := ([0,4,5] : List Int)) (inner := [.int .i64 0,.int .i64 4,.int .i64 5]) (ok := fun _ => True) (okp := fun _ => True) ?hr ?hp (fun _ hk => hk) trivial (Below.refl _ _) (Nat.le_refl _) (by simp) ?_; (case hd => rfl); (case hg => rfl); (case hr => first | (go_simp; done) | (go_simp; rfl)); (case hp => exact (Reps.one (show Kd.M (Kd.int .i64) _ _ _ 0 [.int .i64 0] from rfl) (Reps.one (show Kd.M (Kd.int .i64) _ _ _ 4 [.int .i64 4] from rfl) (Reps.one (show Kd.M (Kd.int .i64) _ _ _ 5 [.int .i64 5] from rfl) (Reps.none _ _))))); intro v269 w80 ho81 hb hg_ hnew_; clear hg_ hnew_; (first | rw [← Ny268.out] at ho81 | (simp only [Int.reduceToNat] at ho81; rw [← Ny268.out] at ho81)); have n0_ := QX (Kd.R_elder' (by (with_reducible repeat (first | apply QI | apply QJ | apply QM)); exact HO239.out) (Kd.R_base ho81) hb); have n1_ := QX (Kd.R_elder' (by (with_reducible repeat (first | apply QI | apply QJ | apply QM)); exact HO242.out) (Kd.R_base ho81) hb); have n2_ := QX (Kd.R_lower (Kd.R_new' (Kd.R_new' ho81 (Kd.R_lt (by (with_reducible repeat (first | apply QI | apply QJ | apply QM)); exact HO239.out))) (Kd.R_lt (by (with_reducible repeat (first | apply QI | apply QJ | apply QM)); exact HO242.out))) (keep_size (w := w) (g := g) (row := none) (by repeat (first | (with_reducible first | exact HK.out | apply KeepBut.set_ | apply QO | apply QT | apply QP | refine QN ?_ GW232.out _ | refine QN ?_ GW247.out _) | exact HK.out)))); have n3_ := QX (IsS80.below (by repeat (first | (with_reducible first | exact HI0.out | apply IsS80.alloc | apply IsS80.drewN | apply IsS80.drew | apply IsS80.set_1 | apply IsS80.set_2 | refine IsS80.far ?_ NB0_232.out _ | refine IsS80.far ?_ NB0_247.out _) | exact HI0.out)) hb); have n4_ := QX (blk_below (g := gb232) (o := .cells #[.int .i64 0,.int .i64 0,.bool false,.bool false,.slice none 0 0,.slice none 0 0,.int .i64 0,.int .i64 0] 26 (0,0)) (by (with_reducible repeat (first | refine QB ?_ _ | refine QD ?_ | refine QC ?_ _)); exact BK232.out) hb); have n5_ := QX (blk_below (g := gb247) (o := .cells #[.int .i64 t233,.int .i64 t234,.bool t235,.bool t236,.slice Ao12 t237.length co12,.slice Ao13 t240.length co13,.int .i64 t243,.int .i64 t244] 26 (0,0)) (by (with_reducible repeat (first | refine QB ?_ _ | refine QD ?_ | refine QC ?_ _)); exact BK247.out) hb); have n6_ := QX (KeepBut.trans (by repeat (first | (with_reducible first | exact HK.out | apply KeepBut.set_ | apply QO | apply QT | apply QP | refine QN ?_ GW232.out _ | refine QN ?_ GW247.out _) | exact HK.out)) (KeepBut.of_below hb g none) (.inl rfl)); have n7_ := QX (below_step (by repeat (first | (with_reducible first | exact HB.out | apply QG | apply QE | apply QH | refine QF ?_ (IsS80.ge HI0.out) | refine QF ?_ GE232.out | refine QF ?_ GE247.out) | exact HB.out)) hb); clear HO239; clear HO242; clear HI0; clear BK232; clear BK247; clear HK; clear HB; revert n0_ n1_ n2_ n3_ n4_ n5_ n6_ n7_; intro HO239 HO242 HO270 HI0 BK232 BK247 HK HB; clear hb ho81; obtain ⟨Ao82,co82,eo82⟩ := Kd.R_slice HO270.out; subst eo82) | ((with_reducible refine QU (f := 62) rfl ?_); refine goesL_ (some 32) rfl rfl Tryd.func62 (by kernel_rfl) rfl #[.pointer (some ⟨g,0,none⟩),.slice Ao82 y268.length co82] rfl (by (try simp only [List.map_toArray,List.map_cons,List.map_nil]); first | done | rfl | (simp only [List.length_drop,List.length_take]; rfl)) ?_; (with_reducible refine (spec_l1Int.calls g s0_0 t249 t250 _ _ y268 t271 t272 t273 w0 _ ?side1 ?side2 ?side3 ?side4 ?side5 A70.out).mono ?_); (case side1 => repeat (first | (with_reducible first | exact HI0.out | apply IsS80.alloc | apply IsS80.drewN | apply IsS80.drew | apply IsS80.set_1 | apply IsS80.set_2 | refine IsS80.far ?_ NB0_232.out _ | refine IsS80.far ?_ NB0_247.out _) | exact HI0.out)); (case side2 => repeat (first | (with_reducible first | exact HB.out | apply QG | apply QE | apply QH | refine QF ?_ (IsS80.ge HI0.out) | refine QF ?_ GE232.out | refine QF ?_ GE247.out) | exact HB.out)); (case side3 => repeat (first | exact (Kd.R_reads' HO270.out).2.2 | (with_reducible refine Kd.C_alloc ?_ _) | (with_reducible refine Kd.C_drewN ?_ _) | (with_reducible refine Kd.C_drew ?_))); (case side4 => exact (Kd.R_reads' HO270.out).2.1); (case side5 => exact far_slice (IsS80.own_ne HI0.out HO270.out (by decide))); rintro e w83 ⟨rfl,hi,hb,hk⟩; refine ⟨_,rfl,?_⟩; have n0_ := QX (KeepBut.blk hk (g' := gb232) (o := .cells #[.int .i64 0,.int .i64 0,.bool false,.bool false,.slice none 0 0,.slice none 0 0,.int .i64 0,.int .i64 0] 26 (0,0)) (by (with_reducible repeat (first | refine QB ?_ _ | refine QD ?_ | refine QC ?_ _)); exact BK232.out) NB232_0.out (by simp)); have n1_ := QX (QR (Kd.R_keep (IsS80.apart (show IsS80 w0 _ g s0_0 t249 t250 from by repeat (first | (with_reducible first | exact HI0.out | apply IsS80.alloc | apply IsS80.drewN | apply IsS80.drew | apply IsS80.set_1 | apply IsS80.set_2 | refine IsS80.far ?_ NB0_232.out _ | refine IsS80.far ?_ NB0_247.out _) | exact HI0.out)) (by (with_reducible repeat (first | apply QI | apply QJ | apply QM)); exact HO239.out) (by decide)) hk (fun _ h => h.2)) (fun _ h => h.1)); have n2_ := QX (QR (Kd.R_keep (IsS80.apart (show IsS80 w0 _ g s0_0 t249 t250 from by repeat (first | (with_reducible first | exact HI0.out | apply IsS80.alloc | apply IsS80.drewN | apply IsS80.drew | apply IsS80.set_1 | apply IsS80.set_2 | refine IsS80.far ?_ NB0_232.out _ | refine IsS80.far ?_ NB0_247.out _) | exact HI0.out)) (by (with_reducible repeat (first | apply QI | apply QJ | apply QM)); exact HO242.out) (by decide)) hk (fun _ h => h.2)) (fun _ h => h.1)); have n3_ := QX (KeepBut.blk hk (g' := gb247) (o := .cells #[.int .i64 t233,.int .i64 t234,.bool t235,.bool t236,.slice Ao12 t237.length co12,.slice Ao13 t240.length co13,.int .i64 t243,.int .i64 t244] 26 (0,0)) (by (with_reducible repeat (first | refine QB ?_ _ | refine QD ?_ | refine QC ?_ _)); exact BK247.out) NB247_0.out (by simp)); have n4_ := QX (QR (Kd.R_keep (IsS80.apart (show IsS80 w0 _ g s0_0 t249 t250 from by repeat (first | (with_reducible first | exact HI0.out | apply IsS80.alloc | apply IsS80.drewN | apply IsS80.drew | apply IsS80.set_1 | apply IsS80.set_2 | refine IsS80.far ?_ NB0_232.out _ | refine IsS80.far ?_ NB0_247.out _) | exact HI0.out)) (by (with_reducible repeat (first | apply QI | apply QJ | apply QM)); exact HO270.out) (by decide)) hk (fun _ h => h.2)) (fun _ h => h.1)); have n5_ := QX (KeepBut.trans (by repeat (first | (with_reducible first | exact HK.out | apply KeepBut.set_ | apply QO | apply QT | apply QP | refine QN ?_ GW232.out _ | refine QN ?_ GW247.out _) | exact HK.out)) hk (.inl rfl)); have n6_ := QX (hb); have n7_ := QX (hi); clear BK232; clear HO239; clear HO242; clear BK247; clear HO270; clear HK; clear HB; clear HI0; revert n0_ n1_ n2_ n3_ n4_ n5_ n6_ n7_; intro BK232 HO239 HO242 BK247 HO270 HK HB HI0; (try clear hb); (try clear hk); (try clear hi); refine Aside0.out ?_))
      refine QX ?_
      have hcz84 := fun i => blk_cell BK247.out i
      have hfz84 := fun i => QV BK247.out i
      have hnb85 := NB232_0.out
      have hnc85 := NB0_232.out
      have hcz86 := fun i => blk_cell BK232.out i
      have hfz86 := fun i => QV BK232.out i
      go_wp2_with fail
      refine bodyPost_ret (results_cell_row rfl _ _ gb232 26 #[.int .i64 t233,.int .i64 t234,.bool t235,.bool t236,.slice Ao12 t237.length co12,.slice Ao13 t240.length co13,.int .i64 t271,.int .i64 t244] (0,0) _ rfl (by (with_reducible repeat (first | refine QB ?_ _ | refine QD ?_ | refine QC ?_ _)); refine QL (cs := #[.int .i64 t233,.int .i64 t234,.bool t235,.bool t236,.slice Ao12 t237.length co12,.slice Ao13 t240.length co13,.int .i64 t271,.int .i64 0]) ?_ 7 _ rfl; (with_reducible repeat (first | refine QB ?_ _ | refine QD ?_ | refine QC ?_ _)); refine QL (cs := #[.int .i64 t233,.int .i64 t234,.bool t235,.bool t236,.slice Ao12 t237.length co12,.slice Ao13 t240.length co13,.int .i64 0,.int .i64 0]) ?_ 6 _ rfl; (with_reducible repeat (first | refine QB ?_ _ | refine QD ?_ | refine QC ?_ _)); refine QL (cs := #[.int .i64 t233,.int .i64 t234,.bool t235,.bool t236,.slice Ao12 t237.length co12,.slice none 0 0,.int .i64 0,.int .i64 0]) ?_ 5 _ rfl; (with_reducible repeat (first | refine QB ?_ _ | refine QD ?_ | refine QC ?_ _)); refine QL (cs := #[.int .i64 t233,.int .i64 t234,.bool t235,.bool t236,.slice none 0 0,.slice none 0 0,.int .i64 0,.int .i64 0]) ?_ 4 _ rfl; (with_reducible repeat (first | refine QB ?_ _ | refine QD ?_ | refine QC ?_ _)); refine QL (cs := #[.int .i64 t233,.int .i64 t234,.bool t235,.bool false,.slice none 0 0,.slice none 0 0,.int .i64 0,.int .i64 0]) ?_ 3 _ rfl; (with_reducible repeat (first | refine QB ?_ _ | refine QD ?_ | refine QC ?_ _)); refine QL (cs := #[.int .i64 t233,.int .i64 t234,.bool false,.bool false,.slice none 0 0,.slice none 0 0,.int .i64 0,.int .i64 0]) ?_ 2 _ rfl; (with_reducible repeat (first | refine QB ?_ _ | refine QD ?_ | refine QC ?_ _)); refine QL (cs := #[.int .i64 t233,.int .i64 0,.bool false,.bool false,.slice none 0 0,.slice none 0 0,.int .i64 0,.int .i64 0]) ?_ 1 _ rfl; (with_reducible repeat (first | refine QB ?_ _ | refine QD ?_ | refine QC ?_ _)); refine QL (cs := #[.int .i64 0,.int .i64 0,.bool false,.bool false,.slice none 0 0,.slice none 0 0,.int .i64 0,.int .i64 0]) ?_ 0 _ rfl; (with_reducible repeat (first | refine QB ?_ _ | refine QD ?_ | refine QC ?_ _)); refine blk_far ?_ NB232_247.out _; (with_reducible repeat (first | refine QB ?_ _ | refine QD ?_ | refine QC ?_ _)); exact BK232.out) Tryd.underlying26 rfl (by kernel_rfl)) rfl ?_
      exact ⟨_,_,by first | rfl | (simp [errW_none,errW_some] <;> rfl) | (simp [*,errW_none,errW_some] <;> rfl),Kd.Q_of_R (by (with_reducible repeat (first | apply QI | apply QJ | apply QM)); exact QR (QK (QK (QK (QK (QK (QK (QK (QK (Kd.R_far (p := ⟨gb247,6,none⟩) (QS (QS HO239.out BK247.out (by decide)) BK232.out (by decide)) (fun _ hk => hk.1.2) (.int .i64 t271)))))))))) (fun _ hk => hk.1.1.1)),by (with_reducible repeat (first | apply QI | apply QJ | apply QM)); exact QR (QK (QK (QK (QK (QK (QK (QK (QK (Kd.R_far (p := ⟨gb247,6,none⟩) (QS (QS HO242.out BK247.out (by decide)) BK232.out (by decide)) (fun _ hk => hk.1.2) (.int .i64 t271)))))))))) (fun _ hk => hk.1.1.1),by repeat (first | (with_reducible first | exact HI0.out | apply IsS80.alloc | apply IsS80.drewN | apply IsS80.drew | apply IsS80.set_1 | apply IsS80.set_2 | refine IsS80.far ?_ NB0_232.out _ | refine IsS80.far ?_ NB0_247.out _) | exact HI0.out),by repeat (first | (with_reducible first | exact HB.out | apply QG | apply QE | apply QH | refine QF ?_ (IsS80.ge HI0.out) | refine QF ?_ GE232.out | refine QF ?_ GE247.out) | exact HB.out),by repeat (first | (with_reducible first | exact HK.out | apply KeepBut.set_ | apply QO | apply QT | apply QP | refine QN ?_ GW232.out _ | refine QN ?_ GW247.out _) | exact HK.out)⟩
     ·rw [if_neg c69] at H
      have c69b0 : (t248 == 4) = false := beq_eq_false_iff_ne.mpr c69
      have c69b1 : (t248 != 4) = true := bne_iff_ne.mpr c69
      by_cases c87 : t248 = 5
      ·rw [if_pos c87] at H
       have c87b0 : (t248 == 5) = true := beq_iff_eq.mpr c87
       have c87b1 : (t248 != 5) = false := bne_eq_false_iff_eq.mpr c87
       clear c87
       obtain ⟨y274,hy274⟩ : ∃ y_ : List Int,y_ = (([0,400,401] : List Int)) := ⟨_,rfl⟩
       replace H : ((spec_l1Int.f s0_0 t249 t250 y274).bind fun bt277 => (some (t233,t234,t235,t236,t237,t240,t243,bt277.1,bt277.2.1,bt277.2.2))) = some (r1,r2,r3,r4,r5,r6,r7,r8,r9,r10) := by first | (rw [hy274]; with_reducible exact H) | (have H2_ := (Option.bind_some _ _).symm.trans H; rw [hy274]; with_reducible exact H2_) | (have H2_ := (Option.bind_some _ _).symm.trans H; with_reducible exact H2_) | with_reducible exact H | (rw [hy274]; exact H) | exact H
       have Ny274 := QX hy274
       clear hy274
       replace H := QY.mp H
       obtain ⟨⟨t277,t278,t279⟩,A880,H⟩ := H
       replace H : (some (t233,t234,t235,t236,t237,t240,t243,t277,t278,t279)) = some (r1,r2,r3,r4,r5,r6,r7,r8,r9,r10) := H
       have A88 := QX A880
       clear A880
       simp only [Option.some.injEq,Prod.mk.injEq] at H
       obtain ⟨rfl,rfl,rfl,rfl,rfl,rfl,rfl,rfl,rfl,rfl⟩ := H
       go_wp2_with (first | ((with_reducible refine gate_dst (N := 37) rfl ?_); refine Kd.R_lit (Kd.int .i64) _ 3 ?hg (N := 37) ?hd (xs := ([0,400,401] : List Int)) (inner := [.int .i64 0,.int .i64 400,.int .i64 401]) (ok := fun _ => True) (okp := fun _ => True) ?hr ?hp (fun _ hk => hk) trivial (Below.refl _ _) (Nat.le_refl _) (by simp) ?_; (case hd => rfl); (case hg => rfl); (case hr => first | (go_simp; done) | (go_simp; rfl)); (case hp => exact (Reps.one (show Kd.M (Kd.int .i64) _ _ _ 0 [.int .i64 0] from rfl) (Reps.one (show Kd.M (Kd.int .i64) _ _ _ 400 [.int .i64 400] from rfl) (Reps.one (show Kd.M (Kd.int .i64) _ _ _ 401 [.int .i64 401] from rfl) (Reps.none _ _))))); intro v275 w98 ho99 hb hg_ hnew_; clear hg_ hnew_; (first | rw [← Ny274.out] at ho99 | (simp only [Int.reduceToNat] at ho99; rw [← Ny274.out] at ho99)); have n0_ := QX (Kd.R_elder' (by (with_reducible repeat (first | apply QI | apply QJ | apply QM)); exact HO239.out) (Kd.R_base ho99) hb); have n1_ := QX (Kd.R_elder' (by (with_reducible repeat (first | apply QI | apply QJ | apply QM)); exact HO242.out) (Kd.R_base ho99) hb); have n2_ := QX (Kd.R_lower (Kd.R_new' (Kd.R_new' ho99 (Kd.R_lt (by (with_reducible repeat (first | apply QI | apply QJ | apply QM)); exact HO239.out))) (Kd.R_lt (by (with_reducible repeat (first | apply QI | apply QJ | apply QM)); exact HO242.out))) (keep_size (w := w) (g := g) (row := none) (by repeat (first | (with_reducible first | exact HK.out | apply KeepBut.set_ | apply QO | apply QT | apply QP | refine QN ?_ GW232.out _ | refine QN ?_ GW247.out _) | exact HK.out)))); have n3_ := QX (IsS80.below (by repeat (first | (with_reducible first | exact HI0.out | apply IsS80.alloc | apply IsS80.drewN | apply IsS80.drew | apply IsS80.set_1 | apply IsS80.set_2 | refine IsS80.far ?_ NB0_232.out _ | refine IsS80.far ?_ NB0_247.out _) | exact HI0.out)) hb); have n4_ := QX (blk_below (g := gb232) (o := .cells #[.int .i64 0,.int .i64 0,.bool false,.bool false,.slice none 0 0,.slice none 0 0,.int .i64 0,.int .i64 0] 26 (0,0)) (by (with_reducible repeat (first | refine QB ?_ _ | refine QD ?_ | refine QC ?_ _)); exact BK232.out) hb); have n5_ := QX (blk_below (g := gb247) (o := .cells #[.int .i64 t233,.int .i64 t234,.bool t235,.bool t236,.slice Ao12 t237.length co12,.slice Ao13 t240.length co13,.int .i64 t243,.int .i64 t244] 26 (0,0)) (by (with_reducible repeat (first | refine QB ?_ _ | refine QD ?_ | refine QC ?_ _)); exact BK247.out) hb); have n6_ := QX (KeepBut.trans (by repeat (first | (with_reducible first | exact HK.out | apply KeepBut.set_ | apply QO | apply QT | apply QP | refine QN ?_ GW232.out _ | refine QN ?_ GW247.out _) | exact HK.out)) (KeepBut.of_below hb g none) (.inl rfl)); have n7_ := QX (below_step (by repeat (first | (with_reducible first | exact HB.out | apply QG | apply QE | apply QH | refine QF ?_ (IsS80.ge HI0.out) | refine QF ?_ GE232.out | refine QF ?_ GE247.out) | exact HB.out)) hb); clear HO239; clear HO242; clear HI0; clear BK232; clear BK247; clear HK; clear HB; revert n0_ n1_ n2_ n3_ n4_ n5_ n6_ n7_; intro HO239 HO242 HO276 HI0 BK232 BK247 HK HB; clear hb ho99; obtain ⟨Ao100,co100,eo100⟩ := Kd.R_slice HO276.out; subst eo100) | ((with_reducible refine QU (f := 62) rfl ?_); refine goesL_ (some 38) rfl rfl Tryd.func62 (by kernel_rfl) rfl #[.pointer (some ⟨g,0,none⟩),.slice Ao100 y274.length co100] rfl (by (try simp only [List.map_toArray,List.map_cons,List.map_nil]); first | done | rfl | (simp only [List.length_drop,List.length_take]; rfl)) ?_; (with_reducible refine (spec_l1Int.calls g s0_0 t249 t250 _ _ y274 t277 t278 t279 w0 _ ?side1 ?side2 ?side3 ?side4 ?side5 A88.out).mono ?_); (case side1 => repeat (first | (with_reducible first | exact HI0.out | apply IsS80.alloc | apply IsS80.drewN | apply IsS80.drew | apply IsS80.set_1 | apply IsS80.set_2 | refine IsS80.far ?_ NB0_232.out _ | refine IsS80.far ?_ NB0_247.out _) | exact HI0.out)); (case side2 => repeat (first | (with_reducible first | exact HB.out | apply QG | apply QE | apply QH | refine QF ?_ (IsS80.ge HI0.out) | refine QF ?_ GE232.out | refine QF ?_ GE247.out) | exact HB.out)); (case side3 => repeat (first | exact (Kd.R_reads' HO276.out).2.2 | (with_reducible refine Kd.C_alloc ?_ _) | (with_reducible refine Kd.C_drewN ?_ _) | (with_reducible refine Kd.C_drew ?_))); (case side4 => exact (Kd.R_reads' HO276.out).2.1); (case side5 => exact far_slice (IsS80.own_ne HI0.out HO276.out (by decide))); rintro e w101 ⟨rfl,hi,hb,hk⟩; refine ⟨_,rfl,?_⟩; have n0_ := QX (KeepBut.blk hk (g' := gb232) (o := .cells #[.int .i64 0,.int .i64 0,.bool false,.bool false,.slice none 0 0,.slice none 0 0,.int .i64 0,.int .i64 0] 26 (0,0)) (by (with_reducible repeat (first | refine QB ?_ _ | refine QD ?_ | refine QC ?_ _)); exact BK232.out) NB232_0.out (by simp)); have n1_ := QX (QR (Kd.R_keep (IsS80.apart (show IsS80 w0 _ g s0_0 t249 t250 from by repeat (first | (with_reducible first | exact HI0.out | apply IsS80.alloc | apply IsS80.drewN | apply IsS80.drew | apply IsS80.set_1 | apply IsS80.set_2 | refine IsS80.far ?_ NB0_232.out _ | refine IsS80.far ?_ NB0_247.out _) | exact HI0.out)) (by (with_reducible repeat (first | apply QI | apply QJ | apply QM)); exact HO239.out) (by decide)) hk (fun _ h => h.2)) (fun _ h => h.1)); have n2_ := QX (QR (Kd.R_keep (IsS80.apart (show IsS80 w0 _ g s0_0 t249 t250 from by repeat (first | (with_reducible first | exact HI0.out | apply IsS80.alloc | apply IsS80.drewN | apply IsS80.drew | apply IsS80.set_1 | apply IsS80.set_2 | refine IsS80.far ?_ NB0_232.out _ | refine IsS80.far ?_ NB0_247.out _) | exact HI0.out)) (by (with_reducible repeat (first | apply QI | apply QJ | apply QM)); exact HO242.out) (by decide)) hk (fun _ h => h.2)) (fun _ h => h.1)); have n3_ := QX (KeepBut.blk hk (g' := gb247) (o := .cells #[.int .i64 t233,.int .i64 t234,.bool t235,.bool t236,.slice Ao12 t237.length co12,.slice Ao13 t240.length co13,.int .i64 t243,.int .i64 t244] 26 (0,0)) (by (with_reducible repeat (first | refine QB ?_ _ | refine QD ?_ | refine QC ?_ _)); exact BK247.out) NB247_0.out (by simp)); have n4_ := QX (QR (Kd.R_keep (IsS80.apart (show IsS80 w0 _ g s0_0 t249 t250 from by repeat (first | (with_reducible first | exact HI0.out | apply IsS80.alloc | apply IsS80.drewN | apply IsS80.drew | apply IsS80.set_1 | apply IsS80.set_2 | refine IsS80.far ?_ NB0_232.out _ | refine IsS80.far ?_ NB0_247.out _) | exact HI0.out)) (by (with_reducible repeat (first | apply QI | apply QJ | apply QM)); exact HO276.out) (by decide)) hk (fun _ h => h.2)) (fun _ h => h.1)); have n5_ := QX (KeepBut.trans (by repeat (first | (with_reducible first | exact HK.out | apply KeepBut.set_ | apply QO | apply QT | apply QP | refine QN ?_ GW232.out _ | refine QN ?_ GW247.out _) | exact HK.out)) hk (.inl rfl)); have n6_ := QX (hb); have n7_ := QX (hi); clear BK232; clear HO239; clear HO242; clear BK247; clear HO276; clear HK; clear HB; clear HI0; revert n0_ n1_ n2_ n3_ n4_ n5_ n6_ n7_; intro BK232 HO239 HO242 BK247 HO276 HK HB HI0; (try clear hb); (try clear hk); (try clear hi); refine Aside0.out ?_))
       refine QX ?_
       have hcz102 := fun i => blk_cell BK247.out i
       have hfz102 := fun i => QV BK247.out i
       have hnb103 := NB232_0.out
       have hnc103 := NB0_232.out
       have hcz104 := fun i => blk_cell BK232.out i
       have hfz104 := fun i => QV BK232.out i
       go_wp2_with fail
       refine bodyPost_ret (results_cell_row rfl _ _ gb232 26 #[.int .i64 t233,.int .i64 t234,.bool t235,.bool t236,.slice Ao12 t237.length co12,.slice Ao13 t240.length co13,.int .i64 t243,.int .i64 t277] (0,0) _ rfl (by (with_reducible repeat (first | refine QB ?_ _ | refine QD ?_ | refine QC ?_ _)); refine QL (cs := #[.int .i64 t233,.int .i64 t234,.bool t235,.bool t236,.slice Ao12 t237.length co12,.slice Ao13 t240.length co13,.int .i64 t243,.int .i64 0]) ?_ 7 _ rfl; (with_reducible repeat (first | refine QB ?_ _ | refine QD ?_ | refine QC ?_ _)); refine QL (cs := #[.int .i64 t233,.int .i64 t234,.bool t235,.bool t236,.slice Ao12 t237.length co12,.slice Ao13 t240.length co13,.int .i64 0,.int .i64 0]) ?_ 6 _ rfl; (with_reducible repeat (first | refine QB ?_ _ | refine QD ?_ | refine QC ?_ _)); refine QL (cs := #[.int .i64 t233,.int .i64 t234,.bool t235,.bool t236,.slice Ao12 t237.length co12,.slice none 0 0,.int .i64 0,.int .i64 0]) ?_ 5 _ rfl; (with_reducible repeat (first | refine QB ?_ _ | refine QD ?_ | refine QC ?_ _)); refine QL (cs := #[.int .i64 t233,.int .i64 t234,.bool t235,.bool t236,.slice none 0 0,.slice none 0 0,.int .i64 0,.int .i64 0]) ?_ 4 _ rfl; (with_reducible repeat (first | refine QB ?_ _ | refine QD ?_ | refine QC ?_ _)); refine QL (cs := #[.int .i64 t233,.int .i64 t234,.bool t235,.bool false,.slice none 0 0,.slice none 0 0,.int .i64 0,.int .i64 0]) ?_ 3 _ rfl; (with_reducible repeat (first | refine QB ?_ _ | refine QD ?_ | refine QC ?_ _)); refine QL (cs := #[.int .i64 t233,.int .i64 t234,.bool false,.bool false,.slice none 0 0,.slice none 0 0,.int .i64 0,.int .i64 0]) ?_ 2 _ rfl; (with_reducible repeat (first | refine QB ?_ _ | refine QD ?_ | refine QC ?_ _)); refine QL (cs := #[.int .i64 t233,.int .i64 0,.bool false,.bool false,.slice none 0 0,.slice none 0 0,.int .i64 0,.int .i64 0]) ?_ 1 _ rfl; (with_reducible repeat (first | refine QB ?_ _ | refine QD ?_ | refine QC ?_ _)); refine QL (cs := #[.int .i64 0,.int .i64 0,.bool false,.bool false,.slice none 0 0,.slice none 0 0,.int .i64 0,.int .i64 0]) ?_ 0 _ rfl; (with_reducible repeat (first | refine QB ?_ _ | refine QD ?_ | refine QC ?_ _)); refine blk_far ?_ NB232_247.out _; (with_reducible repeat (first | refine QB ?_ _ | refine QD ?_ | refine QC ?_ _)); exact BK232.out) Tryd.underlying26 rfl (by kernel_rfl)) rfl ?_
       exact ⟨_,_,by first | rfl | (simp [errW_none,errW_some] <;> rfl) | (simp [*,errW_none,errW_some] <;> rfl),Kd.Q_of_R (by (with_reducible repeat (first | apply QI | apply QJ | apply QM)); exact QR (QK (QK (QK (QK (QK (QK (QK (QK (Kd.R_far (p := ⟨gb247,7,none⟩) (QS (QS HO239.out BK247.out (by decide)) BK232.out (by decide)) (fun _ hk => hk.1.2) (.int .i64 t277)))))))))) (fun _ hk => hk.1.1.1)),by (with_reducible repeat (first | apply QI | apply QJ | apply QM)); exact QR (QK (QK (QK (QK (QK (QK (QK (QK (Kd.R_far (p := ⟨gb247,7,none⟩) (QS (QS HO242.out BK247.out (by decide)) BK232.out (by decide)) (fun _ hk => hk.1.2) (.int .i64 t277)))))))))) (fun _ hk => hk.1.1.1),by repeat (first | (with_reducible first | exact HI0.out | apply IsS80.alloc | apply IsS80.drewN | apply IsS80.drew | apply IsS80.set_1 | apply IsS80.set_2 | refine IsS80.far ?_ NB0_232.out _ | refine IsS80.far ?_ NB0_247.out _) | exact HI0.out),by repeat (first | (with_reducible first | exact HB.out | apply QG | apply QE | apply QH | refine QF ?_ (IsS80.ge HI0.out) | refine QF ?_ GE232.out | refine QF ?_ GE247.out) | exact HB.out),by repeat (first | (with_reducible first | exact HK.out | apply KeepBut.set_ | apply QO | apply QT | apply QP | refine QN ?_ GW232.out _ | refine QN ?_ GW247.out _) | exact HK.out)⟩
      ·rw [if_neg c87] at H
       have c87b0 : (t248 == 5) = false := beq_eq_false_iff_ne.mpr c87
       have c87b1 : (t248 != 5) = true := bne_iff_ne.mpr c87
       simp only [Option.some.injEq,Prod.mk.injEq] at H
       obtain ⟨rfl,rfl,rfl,rfl,rfl,rfl,rfl,rfl,rfl,rfl⟩ := H
       have hcz114 := fun i => blk_cell BK247.out i
       have hfz114 := fun i => QV BK247.out i
       have hnb115 := NB232_0.out
       have hnc115 := NB0_232.out
       have hcz116 := fun i => blk_cell BK232.out i
       have hfz116 := fun i => QV BK232.out i
       go_wp2_with fail
       refine bodyPost_ret (results_cell_row rfl _ _ gb232 26 #[.int .i64 t233,.int .i64 t234,.bool t235,.bool t236,.slice Ao12 t237.length co12,.slice Ao13 t240.length co13,.int .i64 t243,.int .i64 t244] (0,0) _ rfl (by (with_reducible repeat (first | refine QB ?_ _ | refine QD ?_ | refine QC ?_ _)); refine QL (cs := #[.int .i64 t233,.int .i64 t234,.bool t235,.bool t236,.slice Ao12 t237.length co12,.slice Ao13 t240.length co13,.int .i64 t243,.int .i64 0]) ?_ 7 _ rfl; (with_reducible repeat (first | refine QB ?_ _ | refine QD ?_ | refine QC ?_ _)); refine QL (cs := #[.int .i64 t233,.int .i64 t234,.bool t235,.bool t236,.slice Ao12 t237.length co12,.slice Ao13 t240.length co13,.int .i64 0,.int .i64 0]) ?_ 6 _ rfl; (with_reducible repeat (first | refine QB ?_ _ | refine QD ?_ | refine QC ?_ _)); refine QL (cs := #[.int .i64 t233,.int .i64 t234,.bool t235,.bool t236,.slice Ao12 t237.length co12,.slice none 0 0,.int .i64 0,.int .i64 0]) ?_ 5 _ rfl; (with_reducible repeat (first | refine QB ?_ _ | refine QD ?_ | refine QC ?_ _)); refine QL (cs := #[.int .i64 t233,.int .i64 t234,.bool t235,.bool t236,.slice none 0 0,.slice none 0 0,.int .i64 0,.int .i64 0]) ?_ 4 _ rfl; (with_reducible repeat (first | refine QB ?_ _ | refine QD ?_ | refine QC ?_ _)); refine QL (cs := #[.int .i64 t233,.int .i64 t234,.bool t235,.bool false,.slice none 0 0,.slice none 0 0,.int .i64 0,.int .i64 0]) ?_ 3 _ rfl; (with_reducible repeat (first | refine QB ?_ _ | refine QD ?_ | refine QC ?_ _)); refine QL (cs := #[.int .i64 t233,.int .i64 t234,.bool false,.bool false,.slice none 0 0,.slice none 0 0,.int .i64 0,.int .i64 0]) ?_ 2 _ rfl; (with_reducible repeat (first | refine QB ?_ _ | refine QD ?_ | refine QC ?_ _)); refine QL (cs := #[.int .i64 t233,.int .i64 0,.bool false,.bool false,.slice none 0 0,.slice none 0 0,.int .i64 0,.int .i64 0]) ?_ 1 _ rfl; (with_reducible repeat (first | refine QB ?_ _ | refine QD ?_ | refine QC ?_ _)); refine QL (cs := #[.int .i64 0,.int .i64 0,.bool false,.bool false,.slice none 0 0,.slice none 0 0,.int .i64 0,.int .i64 0]) ?_ 0 _ rfl; (with_reducible repeat (first | refine QB ?_ _ | refine QD ?_ | refine QC ?_ _)); exact BK232.out) Tryd.underlying26 rfl (by kernel_rfl)) rfl ?_
       exact ⟨_,_,by first | rfl | (simp [errW_none,errW_some] <;> rfl) | (simp [*,errW_none,errW_some] <;> rfl),Kd.Q_of_R (by (with_reducible repeat (first | apply QI | apply QJ | apply QM)); exact QR (QK (QK (QK (QK (QK (QK (QK (QK (QS HO239.out BK232.out (by decide)))))))))) (fun _ hk => hk.1)),by (with_reducible repeat (first | apply QI | apply QJ | apply QM)); exact QR (QK (QK (QK (QK (QK (QK (QK (QK (QS HO242.out BK232.out (by decide)))))))))) (fun _ hk => hk.1),by repeat (first | (with_reducible first | exact HI0.out | apply IsS80.alloc | apply IsS80.drewN | apply IsS80.drew | apply IsS80.set_1 | apply IsS80.set_2 | refine IsS80.far ?_ NB0_232.out _ | refine IsS80.far ?_ NB0_247.out _) | exact HI0.out),by repeat (first | (with_reducible first | exact HB.out | apply QG | apply QE | apply QH | refine QF ?_ (IsS80.ge HI0.out) | refine QF ?_ GE232.out | refine QF ?_ GE247.out) | exact HB.out),by repeat (first | (with_reducible first | exact HK.out | apply KeepBut.set_ | apply QO | apply QT | apply QP | refine QN ?_ GW232.out _ | refine QN ?_ GW247.out _) | exact HK.out)⟩

/-! ### spec_DrawIsRules: function 25 -/
def spec_DrawIsRules.f (k : Nat) (l0 : List Int) : Option (Int × Int × Bool × Bool × List Int × List Int × Int × Int) := (spec_l1New.f k l0).bind fun bt281 => ((spec_l22Any.f k bt281.1 bt281.2.1 bt281.2.2).bind fun bt285 => (some (bt285.1, bt285.2.1, bt285.2.2.1, bt285.2.2.2.1, bt285.2.2.2.2.1, bt285.2.2.2.2.2.1, bt285.2.2.2.2.2.2.1, bt285.2.2.2.2.2.2.2.1)))
theorem spec_DrawIsRules.mono : ∀ a0 k, LeO (spec_DrawIsRules.f k a0) (spec_DrawIsRules.f (k + 1) a0) := by
 intro a0 k
 unfold spec_DrawIsRules.f
 repeat' first
   | (with_reducible exact spec_l1New.mono _ _)
   | (with_reducible exact spec_l22Any.mono _ _ _ _)
   | (with_reducible exact LeO.refl _)
   | (with_reducible exact LeO.none _)
   | (with_reducible refine LeO.ite ?_ ?_)
   | (with_reducible refine LeO.bind ?_ (fun _ => ?_))
   | exact spec_l1New.mono _ _
   | exact spec_l22Any.mono _ _ _ _
   | exact LeO.none _
   | refine LeO.ite ?_ ?_
   | refine LeO.bind ?_ (fun _ => ?_)
set_option maxHeartbeats 8000000 in
set_option maxRecDepth 100000 in
theorem spec_DrawIsRules.calls (k : Nat) (A0 : Option Addr) (c0 : Nat) (l0 : List Int) (r1 : Int) (r2 : Int) (r3 : Bool) (r4 : Bool) (r5 : List Int) (r6 : List Int) (r7 : Int) (r8 : Int) (w : World) (hr0 : Kd.C (Kd.int .u8) w A0 l0.length l0) (hc0 : l0.length ≤ c0) (h : spec_DrawIsRules.f k l0 = some (r1, r2, r3, r4, r5, r6, r7, r8)) :
  Calls Tryd.prog 25 #[.slice A0 l0.length c0] w fun e w' => ∃ v4_ v5_ : Value,e = .returned (.agg #[.int .i64 r1,.int .i64 r2,.bool r3,.bool r4,v4_,v5_,.int .i64 r7,.int .i64 r8]) ∧ Kd.Q (Kd.int .i64) 3 w' w.heap.size (fun k_ => some k_ ≠ (v5_ : Value).ownBlock) v4_ r5 ∧ Kd.R (Kd.int .i64) 3 w' w.heap.size (fun k_ => some k_ ≠ (v4_ : Value).ownBlock) v5_ r6 ∧ Below w.heap.size w w' := by
 have hu26 := Tryd.underlying26
 have HR0 := QX hr0
 have HC0 := QX hc0
 clear hr0 hc0
 have HB := QX (Below.refl w.heap.size w)
 have H : ((spec_l1New.f k l0).bind fun bt281 => ((spec_l22Any.f k bt281.1 bt281.2.1 bt281.2.2).bind fun bt285 => (some (bt285.1,bt285.2.1,bt285.2.2.1,bt285.2.2.2.1,bt285.2.2.2.2.1,bt285.2.2.2.2.2.1,bt285.2.2.2.2.2.2.1,bt285.2.2.2.2.2.2.2.1)))) = some (r1,r2,r3,r4,r5,r6,r7,r8) := h
 clear h
 replace H := QY.mp H
 obtain ⟨⟨t281,t282,t283⟩,A20,H⟩ := H
 replace H : ((spec_l22Any.f k t281 t282 t283).bind fun bt285 => (some (bt285.1,bt285.2.1,bt285.2.2.1,bt285.2.2.2.1,bt285.2.2.2.2.1,bt285.2.2.2.2.2.1,bt285.2.2.2.2.2.2.1,bt285.2.2.2.2.2.2.2.1))) = some (r1,r2,r3,r4,r5,r6,r7,r8) := H
 have A2 := QX A20
 clear A20
 replace H := QY.mp H
 obtain ⟨⟨t285,t286,t287,t288,t289,t292,t295,t296,t297,t298⟩,A30,H⟩ := H
 replace H : (some (t285,t286,t287,t288,t289,t292,t295,t296)) = some (r1,r2,r3,r4,r5,r6,r7,r8) := H
 have A3 := QX A30
 clear A30
 simp only [Option.some.injEq,Prod.mk.injEq] at H
 obtain ⟨rfl,rfl,rfl,rfl,rfl,rfl,rfl,rfl⟩ := H
 go_enter Tryd.func25,Tryd.ntmps25
 go_wp2_with (first | ((with_reducible refine gate_dst (N := 2) rfl ?_); refine box_event ?hg (N := 2) ?hd (cs := #[.int .i64 0,.int .i64 0,.bool false,.bool false,.slice none 0 0,.slice none 0 0,.int .i64 0,.int .i64 0]) (t := 26) ?hr ?_; (case hd => rfl); (case hg => rfl); (case hr => first | (go_simp; done) | (go_simp; rfl)); intro gb280 hg w4 hbox hb; have n0_ := QX (below_step (by repeat (first | (with_reducible first | exact HB.out | apply QG | apply QE | apply QH) | exact HB.out)) hb); have n1_ := QX (hbox); have n2_ := QX ((by rw [hg]; exact (below_size (by repeat (first | (with_reducible first | exact HB.out | apply QG | apply QE | apply QH) | exact HB.out))) : w.heap.size ≤ gb280)); have n3_ := QX ((by rw [hg]; exact (below_size (by repeat (first | (with_reducible first | exact HB.out | apply QG | apply QE | apply QH) | exact HB.out))) : w.heap.size ≤ gb280)); clear HB; revert n0_ n1_ n2_ n3_; intro HB BK280 GW280 GE280; clear hb hbox hg) | ((with_reducible refine QU (f := 34) rfl ?_); refine goesL_ (some 5) rfl rfl Tryd.func34 (by kernel_rfl) rfl #[.slice A0 l0.length c0] rfl (by (try simp only [List.map_toArray,List.map_cons,List.map_nil]); first | done | rfl | (simp only [List.length_drop,List.length_take]; rfl)) ?_; (with_reducible refine (spec_l1New.calls k _ _ l0 t281 t282 t283 w _ ?side1 ?side2 ?side3 A2.out).mono ?_); (case side1 => repeat (first | (with_reducible first | exact HB.out | apply QG | apply QE | apply QH | refine QF ?_ GE280.out) | exact HB.out)); (case side2 => exact HR0.out); (case side3 => exact HC0.out); rintro e w5 ⟨g284,rfl,hi,hb,hb2⟩; refine ⟨_,rfl,?_⟩; have n0_ := QX (blk_below (g := gb280) (o := .cells #[.int .i64 0,.int .i64 0,.bool false,.bool false,.slice none 0 0,.slice none 0 0,.int .i64 0,.int .i64 0] 26 (0,0)) (by (with_reducible repeat (first | refine QB ?_ _ | refine QD ?_ | refine QC ?_ _)); exact BK280.out) hb2); have n1_ := QX (hb); have n2_ := QX (hi); have n3_ := QX (IsS80.ne_blk hi (blk_below (g := gb280) (o := .cells #[.int .i64 0,.int .i64 0,.bool false,.bool false,.slice none 0 0,.slice none 0 0,.int .i64 0,.int .i64 0] 26 (0,0)) (by (with_reducible repeat (first | refine QB ?_ _ | refine QD ?_ | refine QC ?_ _)); exact BK280.out) hb2) (by decide)); have n4_ := QX (Ne.symm (IsS80.ne_blk hi (blk_below (g := gb280) (o := .cells #[.int .i64 0,.int .i64 0,.bool false,.bool false,.slice none 0 0,.slice none 0 0,.int .i64 0,.int .i64 0] 26 (0,0)) (by (with_reducible repeat (first | refine QB ?_ _ | refine QD ?_ | refine QC ?_ _)); exact BK280.out) hb2) (by decide))); clear BK280; clear HB; revert n0_ n1_ n2_ n3_ n4_; intro BK280 HB HI284 NB284_280 NB280_284; (try clear hb); (try clear hb2); (try clear hk); (try clear hi)) | ((with_reducible refine QU (f := 35) rfl ?_); refine goesL_ (some 7) rfl rfl Tryd.func35 (by kernel_rfl) rfl #[.pointer (some ⟨g284,0,none⟩)] rfl (by (try simp only [List.map_toArray,List.map_cons,List.map_nil]); first | done | rfl | (simp only [List.length_drop,List.length_take]; rfl)) ?_; (with_reducible refine (spec_l22Any.calls k g284 t281 t282 t283 t285 t286 t287 t288 t289 t292 t295 t296 t297 t298 w _ ?side1 ?side2 A3.out).mono ?_); (case side1 => repeat (first | (with_reducible first | exact HI284.out | apply IsS80.alloc | apply IsS80.drewN | apply IsS80.drew | apply IsS80.set_1 | apply IsS80.set_2 | refine IsS80.far ?_ NB284_280.out _) | exact HI284.out)); (case side2 => repeat (first | (with_reducible first | exact HB.out | apply QG | apply QE | apply QH | refine QF ?_ (IsS80.ge HI284.out) | refine QF ?_ GE280.out) | exact HB.out)); rintro e w6 ⟨v290,v293,rfl,ho0,ho1,hi,hb,hk⟩; refine ⟨_,rfl,?_⟩; have n0_ := QX (KeepBut.blk hk (g' := gb280) (o := .cells #[.int .i64 0,.int .i64 0,.bool false,.bool false,.slice none 0 0,.slice none 0 0,.int .i64 0,.int .i64 0] 26 (0,0)) (by (with_reducible repeat (first | refine QB ?_ _ | refine QD ?_ | refine QC ?_ _)); exact BK280.out) NB280_284.out (by simp)); have n1_ := QX (Kd.Q_lower ho0 (below_size (by repeat (first | (with_reducible first | exact HB.out | apply QG | apply QE | apply QH | refine QF ?_ (IsS80.ge HI284.out) | refine QF ?_ GE280.out) | exact HB.out)))); have n2_ := QX (Kd.R_lower ho1 (below_size (by repeat (first | (with_reducible first | exact HB.out | apply QG | apply QE | apply QH | refine QF ?_ (IsS80.ge HI284.out) | refine QF ?_ GE280.out) | exact HB.out)))); have n3_ := QX (hb); have n4_ := QX (hi); clear BK280; clear HB; clear HI284; revert n0_ n1_ n2_ n3_ n4_; intro BK280 HO291 HO294 HB HI284; (try clear hb); (try clear hb2); (try clear hk); (try clear hi); (try clear ho0); (try clear ho1); have hnb7 := NB280_284.out; have hnc7 := NB284_280.out; have hcz8 := fun i => blk_cell BK280.out i; have hfz8 := fun i => QV BK280.out i; obtain ⟨Ao9,co9,eo9,_⟩ := Kd.Q_slice HO291.out; subst eo9; obtain ⟨Ao10,co10,eo10⟩ := Kd.R_slice HO294.out; subst eo10))
 refine bodyPost_ret (results_cell_row rfl _ _ gb280 26 #[.int .i64 t285,.int .i64 t286,.bool t287,.bool t288,.slice Ao9 t289.length co9,.slice Ao10 t292.length co10,.int .i64 t295,.int .i64 t296] (0,0) _ rfl (by (with_reducible repeat (first | refine QB ?_ _ | refine QD ?_ | refine QC ?_ _)); refine QL (cs := #[.int .i64 t285,.int .i64 t286,.bool t287,.bool t288,.slice Ao9 t289.length co9,.slice Ao10 t292.length co10,.int .i64 t295,.int .i64 0]) ?_ 7 _ rfl; (with_reducible repeat (first | refine QB ?_ _ | refine QD ?_ | refine QC ?_ _)); refine QL (cs := #[.int .i64 t285,.int .i64 t286,.bool t287,.bool t288,.slice Ao9 t289.length co9,.slice Ao10 t292.length co10,.int .i64 0,.int .i64 0]) ?_ 6 _ rfl; (with_reducible repeat (first | refine QB ?_ _ | refine QD ?_ | refine QC ?_ _)); refine QL (cs := #[.int .i64 t285,.int .i64 t286,.bool t287,.bool t288,.slice Ao9 t289.length co9,.slice none 0 0,.int .i64 0,.int .i64 0]) ?_ 5 _ rfl; (with_reducible repeat (first | refine QB ?_ _ | refine QD ?_ | refine QC ?_ _)); refine QL (cs := #[.int .i64 t285,.int .i64 t286,.bool t287,.bool t288,.slice none 0 0,.slice none 0 0,.int .i64 0,.int .i64 0]) ?_ 4 _ rfl; (with_reducible repeat (first | refine QB ?_ _ | refine QD ?_ | refine QC ?_ _)); refine QL (cs := #[.int .i64 t285,.int .i64 t286,.bool t287,.bool false,.slice none 0 0,.slice none 0 0,.int .i64 0,.int .i64 0]) ?_ 3 _ rfl; (with_reducible repeat (first | refine QB ?_ _ | refine QD ?_ | refine QC ?_ _)); refine QL (cs := #[.int .i64 t285,.int .i64 t286,.bool false,.bool false,.slice none 0 0,.slice none 0 0,.int .i64 0,.int .i64 0]) ?_ 2 _ rfl; (with_reducible repeat (first | refine QB ?_ _ | refine QD ?_ | refine QC ?_ _)); refine QL (cs := #[.int .i64 t285,.int .i64 0,.bool false,.bool false,.slice none 0 0,.slice none 0 0,.int .i64 0,.int .i64 0]) ?_ 1 _ rfl; (with_reducible repeat (first | refine QB ?_ _ | refine QD ?_ | refine QC ?_ _)); refine QL (cs := #[.int .i64 0,.int .i64 0,.bool false,.bool false,.slice none 0 0,.slice none 0 0,.int .i64 0,.int .i64 0]) ?_ 0 _ rfl; (with_reducible repeat (first | refine QB ?_ _ | refine QD ?_ | refine QC ?_ _)); exact BK280.out) Tryd.underlying26 rfl (by kernel_rfl)) rfl ?_
 exact ⟨_,_,by first | rfl | (simp [errW_none,errW_some] <;> rfl) | (simp [*,errW_none,errW_some] <;> rfl),by (with_reducible repeat (first | apply Kd.Q_alloc | apply Kd.Q_drewN | apply Kd.Q_drew)); exact Kd.Q_mono (QW (p := ⟨gb280,7,none⟩) (QW (p := ⟨gb280,6,none⟩) (QW (p := ⟨gb280,5,none⟩) (QW (p := ⟨gb280,4,none⟩) (QW (p := ⟨gb280,3,none⟩) (QW (p := ⟨gb280,2,none⟩) (QW (p := ⟨gb280,1,none⟩) (QW (p := ⟨gb280,0,none⟩) (Kd.Q_types HO291.out BK280.out (by decide)) (fun _ hk => hk.2) (.int .i64 t285)) (fun _ hk => hk.2) (.int .i64 t286)) (fun _ hk => hk.2) (.bool t287)) (fun _ hk => hk.2) (.bool t288)) (fun _ hk => hk.2) (.slice Ao9 t289.length co9)) (fun _ hk => hk.2) (.slice Ao10 t292.length co10)) (fun _ hk => hk.2) (.int .i64 t295)) (fun _ hk => hk.2) (.int .i64 t296)) (fun _ hk => hk.1),by (with_reducible repeat (first | apply QI | apply QJ | apply QM)); exact QR (QK (QK (QK (QK (QK (QK (QK (QK (QS HO294.out BK280.out (by decide)))))))))) (fun _ hk => hk.1),by repeat (first | (with_reducible first | exact HB.out | apply QG | apply QE | apply QH | refine QF ?_ (IsS80.ge HI284.out) | refine QF ?_ GE280.out) | exact HB.out)⟩

/-! ### spec_DrawRulesText: function 7 -/
def spec_DrawRulesText.f (k : Nat) (l0 : List Int) : Option (Int × Int × Bool × Bool × List Int × List Int × Int × Int) := (spec_DrawIsRules.f k l0).bind fun bt300 => (some (bt300.1, bt300.2.1, bt300.2.2.1, bt300.2.2.2.1, bt300.2.2.2.2.1, bt300.2.2.2.2.2.1, bt300.2.2.2.2.2.2.1, bt300.2.2.2.2.2.2.2))
theorem spec_DrawRulesText.mono : ∀ a0 k, LeO (spec_DrawRulesText.f k a0) (spec_DrawRulesText.f (k + 1) a0) := by
 intro a0 k
 unfold spec_DrawRulesText.f
 repeat' first
   | (with_reducible exact spec_DrawIsRules.mono _ _)
   | (with_reducible exact LeO.refl _)
   | (with_reducible exact LeO.none _)
   | (with_reducible refine LeO.ite ?_ ?_)
   | (with_reducible refine LeO.bind ?_ (fun _ => ?_))
   | exact spec_DrawIsRules.mono _ _
   | exact LeO.none _
   | refine LeO.ite ?_ ?_
   | refine LeO.bind ?_ (fun _ => ?_)
set_option maxHeartbeats 8000000 in
set_option maxRecDepth 100000 in
theorem spec_DrawRulesText.calls (k : Nat) (A0 : Option Addr) (c0 : Nat) (l0 : List Int) (r1 : Int) (r2 : Int) (r3 : Bool) (r4 : Bool) (r5 : List Int) (r6 : List Int) (r7 : Int) (r8 : Int) (w : World) (hr0 : Kd.C (Kd.int .u8) w A0 l0.length l0) (hc0 : l0.length ≤ c0) (h : spec_DrawRulesText.f k l0 = some (r1, r2, r3, r4, r5, r6, r7, r8)) :
  Calls Tryd.prog 7 #[.slice A0 l0.length c0] w fun e w' => ∃ v4_ v5_ : Value,e = .returned (.agg #[.int .i64 r1,.int .i64 r2,.bool r3,.bool r4,v4_,v5_,.int .i64 r7,.int .i64 r8]) ∧ Kd.Q (Kd.int .i64) 3 w' w.heap.size (fun k_ => some k_ ≠ (v5_ : Value).ownBlock) v4_ r5 ∧ Kd.R (Kd.int .i64) 3 w' w.heap.size (fun k_ => some k_ ≠ (v4_ : Value).ownBlock) v5_ r6 ∧ Below w.heap.size w w' := by
 have hu26 := Tryd.underlying26
 have HR0 := QX hr0
 have HC0 := QX hc0
 clear hr0 hc0
 have HB := QX (Below.refl w.heap.size w)
 have H : ((spec_DrawIsRules.f k l0).bind fun bt300 => (some (bt300.1,bt300.2.1,bt300.2.2.1,bt300.2.2.2.1,bt300.2.2.2.2.1,bt300.2.2.2.2.2.1,bt300.2.2.2.2.2.2.1,bt300.2.2.2.2.2.2.2))) = some (r1,r2,r3,r4,r5,r6,r7,r8) := h
 clear h
 replace H := QY.mp H
 obtain ⟨⟨t300,t301,t302,t303,t304,t307,t310,t311⟩,A20,H⟩ := H
 replace H : (some (t300,t301,t302,t303,t304,t307,t310,t311)) = some (r1,r2,r3,r4,r5,r6,r7,r8) := H
 have A2 := QX A20
 clear A20
 simp only [Option.some.injEq,Prod.mk.injEq] at H
 obtain ⟨rfl,rfl,rfl,rfl,rfl,rfl,rfl,rfl⟩ := H
 go_enter Tryd.func7,Tryd.ntmps7
 go_wp2_with (first | ((with_reducible refine gate_dst (N := 2) rfl ?_); refine box_event ?hg (N := 2) ?hd (cs := #[.int .i64 0,.int .i64 0,.bool false,.bool false,.slice none 0 0,.slice none 0 0,.int .i64 0,.int .i64 0]) (t := 26) ?hr ?_; (case hd => rfl); (case hg => rfl); (case hr => first | (go_simp; done) | (go_simp; rfl)); intro gb299 hg w3 hbox hb; have n0_ := QX (below_step (by repeat (first | (with_reducible first | exact HB.out | apply QG | apply QE | apply QH) | exact HB.out)) hb); have n1_ := QX (hbox); have n2_ := QX ((by rw [hg]; exact (below_size (by repeat (first | (with_reducible first | exact HB.out | apply QG | apply QE | apply QH) | exact HB.out))) : w.heap.size ≤ gb299)); have n3_ := QX ((by rw [hg]; exact (below_size (by repeat (first | (with_reducible first | exact HB.out | apply QG | apply QE | apply QH) | exact HB.out))) : w.heap.size ≤ gb299)); clear HB; revert n0_ n1_ n2_ n3_; intro HB BK299 GW299 GE299; clear hb hbox hg) | ((with_reducible refine QU (f := 25) rfl ?_); refine goesL_ (some 4) rfl rfl Tryd.func25 (by kernel_rfl) rfl #[.slice A0 l0.length c0] rfl (by (try simp only [List.map_toArray,List.map_cons,List.map_nil]); first | done | rfl | (simp only [List.length_drop,List.length_take]; rfl)) ?_; (with_reducible refine (spec_DrawIsRules.calls k _ _ l0 t300 t301 t302 t303 t304 t307 t310 t311 _ ?side1 ?side2 A2.out).mono ?_); (case side1 => repeat (first | exact (Kd.C_below HR0.out HB.out) | (with_reducible refine Kd.C_alloc ?_ _) | (with_reducible refine Kd.C_drewN ?_ _) | (with_reducible refine Kd.C_drew ?_))); (case side2 => exact HC0.out); rintro e w4 ⟨v305,v308,rfl,ho0,ho1,hb⟩; refine ⟨_,rfl,?_⟩; have n0_ := QX (Kd.Q_lower ho0 (below_size (by repeat (first | (with_reducible first | exact HB.out | apply QG | apply QE | apply QH | refine QF ?_ GE299.out) | exact HB.out)))); have n1_ := QX (Kd.R_lower ho1 (below_size (by repeat (first | (with_reducible first | exact HB.out | apply QG | apply QE | apply QH | refine QF ?_ GE299.out) | exact HB.out)))); have n2_ := QX (blk_below (g := gb299) (o := .cells #[.int .i64 0,.int .i64 0,.bool false,.bool false,.slice none 0 0,.slice none 0 0,.int .i64 0,.int .i64 0] 26 (0,0)) (by (with_reducible repeat (first | refine QB ?_ _ | refine QD ?_ | refine QC ?_ _)); exact BK299.out) hb); have n3_ := QX (below_step (by repeat (first | (with_reducible first | exact HB.out | apply QG | apply QE | apply QH | refine QF ?_ GE299.out) | exact HB.out)) hb); clear BK299; clear HB; revert n0_ n1_ n2_ n3_; intro HO306 HO309 BK299 HB; (try clear hb); (try clear hk); (try clear ho0); (try clear ho1); have hcz5 := fun i => blk_cell BK299.out i; have hfz5 := fun i => QV BK299.out i; obtain ⟨Ao6,co6,eo6,_⟩ := Kd.Q_slice HO306.out; subst eo6; obtain ⟨Ao7,co7,eo7⟩ := Kd.R_slice HO309.out; subst eo7))
 refine bodyPost_ret (results_cell_row rfl _ _ gb299 26 #[.int .i64 t300,.int .i64 t301,.bool t302,.bool t303,.slice Ao6 t304.length co6,.slice Ao7 t307.length co7,.int .i64 t310,.int .i64 t311] (0,0) _ rfl (by (with_reducible repeat (first | refine QB ?_ _ | refine QD ?_ | refine QC ?_ _)); refine QL (cs := #[.int .i64 t300,.int .i64 t301,.bool t302,.bool t303,.slice Ao6 t304.length co6,.slice Ao7 t307.length co7,.int .i64 t310,.int .i64 0]) ?_ 7 _ rfl; (with_reducible repeat (first | refine QB ?_ _ | refine QD ?_ | refine QC ?_ _)); refine QL (cs := #[.int .i64 t300,.int .i64 t301,.bool t302,.bool t303,.slice Ao6 t304.length co6,.slice Ao7 t307.length co7,.int .i64 0,.int .i64 0]) ?_ 6 _ rfl; (with_reducible repeat (first | refine QB ?_ _ | refine QD ?_ | refine QC ?_ _)); refine QL (cs := #[.int .i64 t300,.int .i64 t301,.bool t302,.bool t303,.slice Ao6 t304.length co6,.slice none 0 0,.int .i64 0,.int .i64 0]) ?_ 5 _ rfl; (with_reducible repeat (first | refine QB ?_ _ | refine QD ?_ | refine QC ?_ _)); refine QL (cs := #[.int .i64 t300,.int .i64 t301,.bool t302,.bool t303,.slice none 0 0,.slice none 0 0,.int .i64 0,.int .i64 0]) ?_ 4 _ rfl; (with_reducible repeat (first | refine QB ?_ _ | refine QD ?_ | refine QC ?_ _)); refine QL (cs := #[.int .i64 t300,.int .i64 t301,.bool t302,.bool false,.slice none 0 0,.slice none 0 0,.int .i64 0,.int .i64 0]) ?_ 3 _ rfl; (with_reducible repeat (first | refine QB ?_ _ | refine QD ?_ | refine QC ?_ _)); refine QL (cs := #[.int .i64 t300,.int .i64 t301,.bool false,.bool false,.slice none 0 0,.slice none 0 0,.int .i64 0,.int .i64 0]) ?_ 2 _ rfl; (with_reducible repeat (first | refine QB ?_ _ | refine QD ?_ | refine QC ?_ _)); refine QL (cs := #[.int .i64 t300,.int .i64 0,.bool false,.bool false,.slice none 0 0,.slice none 0 0,.int .i64 0,.int .i64 0]) ?_ 1 _ rfl; (with_reducible repeat (first | refine QB ?_ _ | refine QD ?_ | refine QC ?_ _)); refine QL (cs := #[.int .i64 0,.int .i64 0,.bool false,.bool false,.slice none 0 0,.slice none 0 0,.int .i64 0,.int .i64 0]) ?_ 0 _ rfl; (with_reducible repeat (first | refine QB ?_ _ | refine QD ?_ | refine QC ?_ _)); exact BK299.out) Tryd.underlying26 rfl (by kernel_rfl)) rfl ?_
 exact ⟨_,_,by first | rfl | (simp [errW_none,errW_some] <;> rfl) | (simp [*,errW_none,errW_some] <;> rfl),by (with_reducible repeat (first | apply Kd.Q_alloc | apply Kd.Q_drewN | apply Kd.Q_drew)); exact Kd.Q_mono (QW (p := ⟨gb299,7,none⟩) (QW (p := ⟨gb299,6,none⟩) (QW (p := ⟨gb299,5,none⟩) (QW (p := ⟨gb299,4,none⟩) (QW (p := ⟨gb299,3,none⟩) (QW (p := ⟨gb299,2,none⟩) (QW (p := ⟨gb299,1,none⟩) (QW (p := ⟨gb299,0,none⟩) (Kd.Q_types HO306.out BK299.out (by decide)) (fun _ hk => hk.2) (.int .i64 t300)) (fun _ hk => hk.2) (.int .i64 t301)) (fun _ hk => hk.2) (.bool t302)) (fun _ hk => hk.2) (.bool t303)) (fun _ hk => hk.2) (.slice Ao6 t304.length co6)) (fun _ hk => hk.2) (.slice Ao7 t307.length co7)) (fun _ hk => hk.2) (.int .i64 t310)) (fun _ hk => hk.2) (.int .i64 t311)) (fun _ hk => hk.1),by (with_reducible repeat (first | apply QI | apply QJ | apply QM)); exact QR (QK (QK (QK (QK (QK (QK (QK (QK (QS HO309.out BK299.out (by decide)))))))))) (fun _ hk => hk.1),by repeat (first | (with_reducible first | exact HB.out | apply QG | apply QE | apply QH | refine QF ?_ GE299.out) | exact HB.out)⟩

/-! ### impl_InRange: function 31 -/
def impl_InRange.f (a0 : Int) (a1 : Int) (a2 : Int) : Option (Bool) := if a1 ≤ a0 then (some (decide (a0 ≤ a2))) else (some false)
set_option maxHeartbeats 8000000 in
set_option maxRecDepth 100000 in
theorem impl_InRange.calls (a0 : Int) (a1 : Int) (a2 : Int) (r : Bool) (w : World) (h : impl_InRange.f a0 a1 a2 = some r) :
  Calls Tryd.prog 31 #[.int .i64 a0,.int .i64 a1,.int .i64 a2] w fun e w' => e = .returned (.bool r) ∧ Drawn0 w w' := by
 have H : (if a1 ≤ a0 then (some (decide (a0 ≤ a2))) else (some false)) = some r := h
 clear h
 by_cases c4 : a1 ≤ a0
 ·rw [if_pos c4] at H
  have c4b0 : decide (a1 ≤ a0) = true := decide_eq_true c4
  clear c4
  obtain rfl := Option.some.inj H
  go_enter Tryd.func31,Tryd.ntmps31
  go_wp2
  go_ret
  exact ⟨by first | rfl | (simp; done) | (simp [*]; done),by repeat (first | exact Drawn0.refl _ | apply Drawn0.step)⟩
 ·rw [if_neg c4] at H
  have c4b0 : decide (a1 ≤ a0) = false := decide_eq_false c4
  clear c4
  obtain rfl := Option.some.inj H
  go_enter Tryd.func31,Tryd.ntmps31
  go_wp2
  go_ret
  exact ⟨by first | rfl | (simp; done) | (simp [*]; done),by repeat (first | exact Drawn0.refl _ | apply Drawn0.step)⟩

/-! ### impl_isTest: function 79 -/
def impl_isTest.f (a0 : Int) : Option (Bool) := (impl_InRange.f a0 100 103).bind fun t312 => (if t312 = true then (some true) else ((impl_InRange.f a0 200 212).bind fun t313 => (if t313 = true then (some true) else ((impl_InRange.f a0 300 312).bind fun t314 => (if t314 = true then (some true) else (some (a0 == 400)))))))
set_option maxHeartbeats 8000000 in
set_option maxRecDepth 100000 in
theorem impl_isTest.calls (a0 : Int) (r : Bool) (w : World) (h : impl_isTest.f a0 = some r) :
  Calls Tryd.prog 79 #[.int .i64 a0] w fun e w' => e = .returned (.bool r) ∧ Drawn0 w w' := by
 have H : ((impl_InRange.f a0 100 103).bind fun t312 => (if t312 = true then (some true) else ((impl_InRange.f a0 200 212).bind fun t313 => (if t313 = true then (some true) else ((impl_InRange.f a0 300 312).bind fun t314 => (if t314 = true then (some true) else (some (a0 == 400)))))))) = some r := h
 clear h
 replace H := QY.mp H
 obtain ⟨t312,A20,H⟩ := H
 have A2 := QX A20
 clear A20
 by_cases c3 : t312 = true
 ·subst c3
  rw [if_pos rfl] at H
  obtain rfl := Option.some.inj H
  go_enter Tryd.func79,Tryd.ntmps79
  go_wp2_with (first | ((with_reducible refine QU (f := 31) rfl ?_); refine goesL_ (some 4) rfl rfl Tryd.func31 (by kernel_rfl) rfl #[.int .i64 a0,.int .i64 100,.int .i64 103] rfl (by (try simp only [List.map_toArray,List.map_cons,List.map_nil]); first | done | rfl | (simp only [List.length_drop,List.length_take]; rfl)) ?_; (with_reducible refine (impl_InRange.calls a0 100 103 true _ A2.out).mono ?_); rintro e w' ⟨rfl,⟨nd,rfl⟩⟩; refine ⟨_,rfl,?_⟩))
  go_ret
  exact ⟨by first | rfl | (simp; done) | (simp [*]; done),by repeat (first | exact Drawn0.refl _ | apply Drawn0.step)⟩
 ·replace c3 := Bool.eq_false_iff.mpr c3
  subst c3
  rw [if_neg (show ¬ (false = true) by decide)] at H
  replace H := QY.mp H
  obtain ⟨t313,A40,H⟩ := H
  have A4 := QX A40
  clear A40
  by_cases c5 : t313 = true
  ·subst c5
   rw [if_pos rfl] at H
   obtain rfl := Option.some.inj H
   go_enter Tryd.func79,Tryd.ntmps79
   go_wp2_with (first | ((with_reducible refine QU (f := 31) rfl ?_); refine goesL_ (some 4) rfl rfl Tryd.func31 (by kernel_rfl) rfl #[.int .i64 a0,.int .i64 100,.int .i64 103] rfl (by (try simp only [List.map_toArray,List.map_cons,List.map_nil]); first | done | rfl | (simp only [List.length_drop,List.length_take]; rfl)) ?_; (with_reducible refine (impl_InRange.calls a0 100 103 false _ A2.out).mono ?_); rintro e w' ⟨rfl,⟨nd,rfl⟩⟩; refine ⟨_,rfl,?_⟩) | (go_at_call 31; (with_reducible refine (impl_InRange.calls a0 200 212 true _ A4.out).mono ?_); rintro e w' ⟨rfl,⟨nd,rfl⟩⟩))
   go_ret
   exact ⟨by first | rfl | (simp; done) | (simp [*]; done),by repeat (first | exact Drawn0.refl _ | apply Drawn0.step)⟩
  ·replace c5 := Bool.eq_false_iff.mpr c5
   subst c5
   rw [if_neg (show ¬ (false = true) by decide)] at H
   replace H := QY.mp H
   obtain ⟨t314,A60,H⟩ := H
   have A6 := QX A60
   clear A60
   by_cases c7 : t314 = true
   ·subst c7
    rw [if_pos rfl] at H
    obtain rfl := Option.some.inj H
    go_enter Tryd.func79,Tryd.ntmps79
    go_wp2_with (first | ((with_reducible refine QU (f := 31) rfl ?_); refine goesL_ (some 4) rfl rfl Tryd.func31 (by kernel_rfl) rfl #[.int .i64 a0,.int .i64 100,.int .i64 103] rfl (by (try simp only [List.map_toArray,List.map_cons,List.map_nil]); first | done | rfl | (simp only [List.length_drop,List.length_take]; rfl)) ?_; (with_reducible refine (impl_InRange.calls a0 100 103 false _ A2.out).mono ?_); rintro e w' ⟨rfl,⟨nd,rfl⟩⟩; refine ⟨_,rfl,?_⟩) | (go_at_call 31; (with_reducible refine (impl_InRange.calls a0 200 212 false _ A4.out).mono ?_); rintro e w' ⟨rfl,⟨nd,rfl⟩⟩) | (go_at_call 31; (with_reducible refine (impl_InRange.calls a0 300 312 true _ A6.out).mono ?_); rintro e w' ⟨rfl,⟨nd,rfl⟩⟩))
    go_ret
    exact ⟨by first | rfl | (simp; done) | (simp [*]; done),by repeat (first | exact Drawn0.refl _ | apply Drawn0.step)⟩
   ·replace c7 := Bool.eq_false_iff.mpr c7
    subst c7
    rw [if_neg (show ¬ (false = true) by decide)] at H
    obtain rfl := Option.some.inj H
    go_enter Tryd.func79,Tryd.ntmps79
    go_wp2_with (first | ((with_reducible refine QU (f := 31) rfl ?_); refine goesL_ (some 4) rfl rfl Tryd.func31 (by kernel_rfl) rfl #[.int .i64 a0,.int .i64 100,.int .i64 103] rfl (by (try simp only [List.map_toArray,List.map_cons,List.map_nil]); first | done | rfl | (simp only [List.length_drop,List.length_take]; rfl)) ?_; (with_reducible refine (impl_InRange.calls a0 100 103 false _ A2.out).mono ?_); rintro e w' ⟨rfl,⟨nd,rfl⟩⟩; refine ⟨_,rfl,?_⟩) | (go_at_call 31; (with_reducible refine (impl_InRange.calls a0 200 212 false _ A4.out).mono ?_); rintro e w' ⟨rfl,⟨nd,rfl⟩⟩) | (go_at_call 31; (with_reducible refine (impl_InRange.calls a0 300 312 false _ A6.out).mono ?_); rintro e w' ⟨rfl,⟨nd,rfl⟩⟩))
    go_ret
    exact ⟨by first | rfl | (simp; done) | (simp [*]; done),by repeat (first | exact Drawn0.refl _ | apply Drawn0.step)⟩

/-! ### impl_IsPattern: function 60 -/
mutual
def impl_IsPattern.l0 : Nat → List Int → Int → List Int → Int → Int → Option (Bool)
 | 0,_,_,_,_,_ => none
 | k + 1,x0,x3,x6,x7,x8 => if x8 < x7 then (if 0 ≤ x8 then (if x8 < (x6.length : Int) then ((impl_isTest.f (rd x6 x8)).bind fun t317 => (if t317 = true then (impl_IsPattern.l0 k x0 (wrap64 (x3 + 1)) x6 x7 (wrap64 (x8 + 1))) else (if (rd x6 x8) = (-1) then (impl_IsPattern.j1 k x0 x3 (rd x6 x8) x6 x7 x8 (decide (x3 ≥ 1))) else (impl_IsPattern.j1 k x0 x3 (rd x6 x8) x6 x7 x8 false)))) else (none)) else (none)) else ((impl_InRange.f (x0.length : Int) 1 20).bind fun t315 => (if t315 = true then (some (x3 == 1)) else (some false)))
def impl_IsPattern.j1 : Nat → List Int → Int → Int → List Int → Int → Int → Bool → Option (Bool)
 | 0,_,_,_,_,_,_,_ => none
 | k + 1,x0,x3,x5,x6,x7,x8,x17 => if x17 = true then (impl_IsPattern.l0 k x0 x3 x6 x7 (wrap64 (x8 + 1))) else (if x5 = (-2) then (if x3 ≥ 2 then (impl_IsPattern.l0 k x0 (wrap64 (x3 - 1)) x6 x7 (wrap64 (x8 + 1))) else (some false)) else (if x5 = (-3) then (if x3 ≥ 2 then (impl_IsPattern.l0 k x0 (wrap64 (x3 - 1)) x6 x7 (wrap64 (x8 + 1))) else (some false)) else (some false)))
end
def impl_IsPattern.f (k : Nat) (l0 : List Int) : Option (Bool) := impl_IsPattern.l0 k l0 0 l0 (l0.length : Int) 0
theorem impl_IsPattern.mono_l : ∀ k, (∀ y0 y1 y2 y3 y4, LeO (impl_IsPattern.l0 k y0 y1 y2 y3 y4) (impl_IsPattern.l0 (k + 1) y0 y1 y2 y3 y4)) ∧ (∀ y0 y1 y2 y3 y4 y5 y6, LeO (impl_IsPattern.j1 k y0 y1 y2 y3 y4 y5 y6) (impl_IsPattern.j1 (k + 1) y0 y1 y2 y3 y4 y5 y6))
 | 0 => ⟨fun _ _ _ _ _ r h => by simp [impl_IsPattern.l0] at h,fun _ _ _ _ _ _ _ r h => by simp [impl_IsPattern.j1] at h⟩
 | k + 1 => by
  obtain ⟨ih0,ih1⟩ := impl_IsPattern.mono_l k
  refine ⟨?_,?_⟩
  ·intro y0 y1 y2 y3 y4
   unfold impl_IsPattern.l0
   repeat' first
   | (with_reducible exact ih0 _ _ _ _ _)
   | (with_reducible exact ih1 _ _ _ _ _ _ _)
   | (with_reducible exact LeO.refl _)
   | (with_reducible exact LeO.none _)
   | (with_reducible refine LeO.ite ?_ ?_)
   | (with_reducible refine LeO.bind ?_ (fun _ => ?_))
   | exact ih0 _ _ _ _ _
   | exact ih1 _ _ _ _ _ _ _
   | exact LeO.none _
   | refine LeO.ite ?_ ?_
   | refine LeO.bind ?_ (fun _ => ?_)
  ·intro y0 y1 y2 y3 y4 y5 y6
   unfold impl_IsPattern.j1
   repeat' first
   | (with_reducible exact ih0 _ _ _ _ _)
   | (with_reducible exact ih1 _ _ _ _ _ _ _)
   | (with_reducible exact LeO.refl _)
   | (with_reducible exact LeO.none _)
   | (with_reducible refine LeO.ite ?_ ?_)
   | (with_reducible refine LeO.bind ?_ (fun _ => ?_))
   | exact ih0 _ _ _ _ _
   | exact ih1 _ _ _ _ _ _ _
   | exact LeO.none _
   | refine LeO.ite ?_ ?_
   | refine LeO.bind ?_ (fun _ => ?_)
theorem impl_IsPattern.mono : ∀ a0 k, LeO (impl_IsPattern.f k a0) (impl_IsPattern.f (k + 1) a0) := by
 intro a0 k
 obtain ⟨ih0,ih1⟩ := impl_IsPattern.mono_l k
 unfold impl_IsPattern.f
 repeat' first
   | (with_reducible exact ih0 _ _ _ _ _)
   | (with_reducible exact ih1 _ _ _ _ _ _ _)
   | (with_reducible exact LeO.refl _)
   | (with_reducible exact LeO.none _)
   | (with_reducible refine LeO.ite ?_ ?_)
   | (with_reducible refine LeO.bind ?_ (fun _ => ?_))
   | exact ih0 _ _ _ _ _
   | exact ih1 _ _ _ _ _ _ _
   | exact LeO.none _
   | refine LeO.ite ?_ ?_
   | refine LeO.bind ?_ (fun _ => ?_)
set_option maxHeartbeats 8000000 in
set_option maxRecDepth 100000 in
theorem impl_IsPattern.calls (k : Nat) (A0 : Option Addr) (c0 : Nat) (l0 : List Int) (r : Bool) (w : World) (hr0 : Kd.C (Kd.int .i64) w A0 l0.length l0) (hc0 : l0.length ≤ c0) (h : impl_IsPattern.f k l0 = some r) :
  Calls Tryd.prog 60 #[.slice A0 l0.length c0] w fun e w' => e = .returned (.bool r) ∧ Drawn0 w w' := by
 have HR0 := QX hr0
 have HC0 := QX hc0
 clear hr0 hc0
 have H : (impl_IsPattern.l0 k l0 0 l0 (l0.length : Int) 0) = some r := h
 clear h
 have H' := QX H
 clear H
 go_enter Tryd.func60,Tryd.ntmps60
 go_wp2
 go_loopg [3,8] k (fun kq v3 v8 w' => ∃ (x3_1 : Int) (x8_1 : Int),v3 = .int .i64 x3_1 ∧ v8 = .int .i64 x8_1 ∧ Aside0 (impl_IsPattern.l0 kq l0 x3_1 l0 (l0.length : Int) x8_1 = some r) ∧ Aside0 (kq ≤ k) ∧ Drawn0 w w')
 case atStart => exact ⟨(0),(0),(by first | rfl | (simp; done) | (simp [*]; done)),(by first | rfl | (simp; done) | (simp [*]; done)),H',⟨Nat.le_refl _⟩,by repeat (first | exact Drawn0.refl _ | apply Drawn0.step)⟩
 case round =>
  clear H'
  obtain ⟨x3_1,x8_1,rfl,rfl,HA,HK1,⟨m1,rfl⟩⟩ := hrel
  cases gk with
  | zero => exact absurd HA.out (by simp [impl_IsPattern.l0])
  | succ k1 =>
   have H := HA.out
   clear HA
   simp only [impl_IsPattern.l0] at H
   by_cases c2 : x8_1 < (l0.length : Int)
   ·rw [if_pos c2] at H
    have c2b0 : decide (x8_1 < (l0.length : Int)) = true := decide_eq_true c2
    clear c2
    by_cases c3 : 0 ≤ x8_1
    ·rw [if_pos c3] at H
     have c3b0 : decide (0 ≤ x8_1) = true := decide_eq_true c3
     clear c3
     by_cases c4 : x8_1 < (l0.length : Int)
     ·rw [if_pos c4] at H
      have c4b0 : decide (x8_1 < (l0.length : Int)) = true := decide_eq_true c4
      clear c4
      replace H := QY.mp H
      obtain ⟨t317,A50,H⟩ := H
      have A5 := QX A50
      clear A50
      by_cases c6 : t317 = true
      ·subst c6
       rw [if_pos rfl] at H
       have H' := QX H
       clear H
       have p316 : 0 ≤ (x8_1 : Int) := of_decide_eq_true (by first | (with_reducible assumption) | assumption)
       have q316 : x8_1 < (l0.length : Int) := of_decide_eq_true (by first | (with_reducible assumption) | assumption)
       obtain ⟨ad316,e316,hx316_0⟩ := Kd.at_int HR0.out x8_1 p316 q316
       cases e316
       replace p316 := eq_true p316
       replace q316 := eq_true q316
       go_wp2_with (first | ((with_reducible refine QU (f := 79) rfl ?_); refine goesL_ (some 14) rfl rfl Tryd.func79 (by kernel_rfl) rfl #[.int .i64 (rd l0 x8_1)] rfl (by (try simp only [List.map_toArray,List.map_cons,List.map_nil]); first | done | rfl | (simp only [List.length_drop,List.length_take]; rfl)) ?_; (with_reducible refine (impl_isTest.calls (rd l0 x8_1) true _ A5.out).mono ?_); rintro e w' ⟨rfl,⟨nd,rfl⟩⟩; refine ⟨_,rfl,?_⟩))
       go_roundg k1
       case measure => have := HK1.out; omega
       case rel => exact ⟨(wrap64 (x3_1 + 1)),(wrap64 (x8_1 + 1)),(by first | rfl | (simp; done) | (simp [*]; done)),(by first | rfl | (simp; done) | (simp [*]; done)),H',⟨by have := HK1.out; omega⟩,by repeat (first | exact Drawn0.refl _ | apply Drawn0.step)⟩
      ·replace c6 := Bool.eq_false_iff.mpr c6
       subst c6
       rw [if_neg (show ¬ (false = true) by decide)] at H
       have HC7 := QX H
       clear H
       have p316 : 0 ≤ (x8_1 : Int) := of_decide_eq_true (by first | (with_reducible assumption) | assumption)
       have q316 : x8_1 < (l0.length : Int) := of_decide_eq_true (by first | (with_reducible assumption) | assumption)
       obtain ⟨ad316,e316,hx316_0⟩ := Kd.at_int HR0.out x8_1 p316 q316
       cases e316
       replace p316 := eq_true p316
       replace q316 := eq_true q316
       go_upto_region 8 with (first | ((with_reducible refine QU (f := 79) rfl ?_); refine goesL_ (some 14) rfl rfl Tryd.func79 (by kernel_rfl) rfl #[.int .i64 (rd l0 x8_1)] rfl (by (try simp only [List.map_toArray,List.map_cons,List.map_nil]); first | done | rfl | (simp only [List.length_drop,List.length_take]; rfl)) ?_; (with_reducible refine (impl_isTest.calls (rd l0 x8_1) false _ A5.out).mono ?_); rintro e w' ⟨rfl,⟨nd,rfl⟩⟩; refine ⟨_,rfl,?_⟩))
       (try simp only [Act.put,List.setIfInBounds_toArray,List.set_cons_zero,List.set_cons_succ])
       go_cut [17] (fun v17 wc => ∃ (kq : Nat) (x17_6 : Bool),v17 = .bool x17_6 ∧ Aside0 (impl_IsPattern.j1 kq l0 x3_1 (rd l0 x8_1) l0 (l0.length : Int) x8_1 x17_6 = some r) ∧ Aside0 (kq ≤ k1) ∧ Drawn0 w wc)
       case first =>
        have H := HC7.out
        clear HC7
        by_cases c8 : (rd l0 x8_1) = (-1)
        ·rw [if_pos c8] at H
         have c8b0 : ((rd l0 x8_1) == (-1)) = true := beq_iff_eq.mpr c8
         have c8b1 : ((rd l0 x8_1) != (-1)) = false := bne_eq_false_iff_eq.mpr c8
         clear c8
         (first | rw [c8b0] | (simp only [i64_w,i32_w]; rw [c8b0]) | skip)
         have H' := QX H
         clear H
         go_wp2
         go_meet
         case rel => exact ⟨_,(decide (x3_1 ≥ 1)),(by first | rfl | (simp; done) | (simp [*]; done)),H',⟨by have := HK1.out; first | omega | exact Nat.le_refl _⟩,by repeat (first | exact Drawn0.refl _ | apply Drawn0.step)⟩
        ·rw [if_neg c8] at H
         have c8b0 : ((rd l0 x8_1) == (-1)) = false := beq_eq_false_iff_ne.mpr c8
         have c8b1 : ((rd l0 x8_1) != (-1)) = true := bne_iff_ne.mpr c8
         (first | rw [c8b0] | (simp only [i64_w,i32_w]; rw [c8b0]) | skip)
         have H' := QX H
         clear H
         go_wp2
         go_meet
         case rel => exact ⟨_,(false),(by first | rfl | (simp; done) | (simp [*]; done)),H',⟨by have := HK1.out; first | omega | exact Nat.le_refl _⟩,by repeat (first | exact Drawn0.refl _ | apply Drawn0.step)⟩
       case rest =>
        clear HC7
        try clear c2
        try clear c2b0
        try clear c3
        try clear c3b0
        try clear c4
        try clear c4b0
        try clear c6
        try clear c8
        try clear c8b0
        try clear c8b1
        try clear hx316_0
        try clear p316
        try clear q316
        obtain ⟨kq,x17_6,rfl,HA,HJ6,⟨mc6,rfl⟩⟩ := hcut
        cases kq with
        | zero => exact absurd HA.out (by simp [impl_IsPattern.j1])
        | succ kj6 =>
         have H := HA.out
         clear HA
         simp only [impl_IsPattern.j1] at H
         by_cases c9 : x17_6 = true
         ·subst c9
          rw [if_pos rfl] at H
          have H' := QX H
          clear H
          go_wp2
          go_roundg kj6
          case measure => have := HK1.out; have := HJ6.out; omega
          case rel => exact ⟨(x3_1),(wrap64 (x8_1 + 1)),(by first | rfl | (simp; done) | (simp [*]; done)),(by first | rfl | (simp; done) | (simp [*]; done)),H',⟨by have := HK1.out; have := HJ6.out; omega⟩,by repeat (first | exact Drawn0.refl _ | apply Drawn0.step)⟩
         ·replace c9 := Bool.eq_false_iff.mpr c9
          subst c9
          rw [if_neg (show ¬ (false = true) by decide)] at H
          by_cases c10 : (rd l0 x8_1) = (-2)
          ·rw [if_pos c10] at H
           have c10b0 : ((rd l0 x8_1) == (-2)) = true := beq_iff_eq.mpr c10
           have c10b1 : ((rd l0 x8_1) != (-2)) = false := bne_eq_false_iff_eq.mpr c10
           clear c10
           by_cases c11 : x3_1 ≥ 2
           ·rw [if_pos c11] at H
            have c11b0 : decide (2 ≤ x3_1) = true := decide_eq_true c11
            clear c11
            have H' := QX H
            clear H
            go_wp2
            go_roundg kj6
            case measure => have := HK1.out; have := HJ6.out; omega
            case rel => exact ⟨(wrap64 (x3_1 - 1)),(wrap64 (x8_1 + 1)),(by first | rfl | (simp; done) | (simp [*]; done)),(by first | rfl | (simp; done) | (simp [*]; done)),H',⟨by have := HK1.out; have := HJ6.out; omega⟩,by repeat (first | exact Drawn0.refl _ | apply Drawn0.step)⟩
           ·rw [if_neg c11] at H
            have c11b0 : decide (2 ≤ x3_1) = false := decide_eq_false c11
            clear c11
            obtain rfl := Option.some.inj H
            go_wp2
            go_ret
            exact ⟨by first | rfl | (simp; done) | (simp [*]; done),by repeat (first | exact Drawn0.refl _ | apply Drawn0.step)⟩
          ·rw [if_neg c10] at H
           have c10b0 : ((rd l0 x8_1) == (-2)) = false := beq_eq_false_iff_ne.mpr c10
           have c10b1 : ((rd l0 x8_1) != (-2)) = true := bne_iff_ne.mpr c10
           by_cases c12 : (rd l0 x8_1) = (-3)
           ·rw [if_pos c12] at H
            have c12b0 : ((rd l0 x8_1) == (-3)) = true := beq_iff_eq.mpr c12
            have c12b1 : ((rd l0 x8_1) != (-3)) = false := bne_eq_false_iff_eq.mpr c12
            clear c12
            by_cases c11 : x3_1 ≥ 2
            ·rw [if_pos c11] at H
             have c11b0 : decide (2 ≤ x3_1) = true := decide_eq_true c11
             clear c11
             have H' := QX H
             clear H
             go_wp2
             go_roundg kj6
             case measure => have := HK1.out; have := HJ6.out; omega
             case rel => exact ⟨(wrap64 (x3_1 - 1)),(wrap64 (x8_1 + 1)),(by first | rfl | (simp; done) | (simp [*]; done)),(by first | rfl | (simp; done) | (simp [*]; done)),H',⟨by have := HK1.out; have := HJ6.out; omega⟩,by repeat (first | exact Drawn0.refl _ | apply Drawn0.step)⟩
            ·rw [if_neg c11] at H
             have c11b0 : decide (2 ≤ x3_1) = false := decide_eq_false c11
             clear c11
             obtain rfl := Option.some.inj H
             go_wp2
             go_ret
             exact ⟨by first | rfl | (simp; done) | (simp [*]; done),by repeat (first | exact Drawn0.refl _ | apply Drawn0.step)⟩
           ·rw [if_neg c12] at H
            have c12b0 : ((rd l0 x8_1) == (-3)) = false := beq_eq_false_iff_ne.mpr c12
            have c12b1 : ((rd l0 x8_1) != (-3)) = true := bne_iff_ne.mpr c12
            obtain rfl := Option.some.inj H
            go_wp2
            go_ret
            exact ⟨by first | rfl | (simp; done) | (simp [*]; done),by repeat (first | exact Drawn0.refl _ | apply Drawn0.step)⟩
     ·rw [if_neg c4] at H
      exact absurd H (by simp)
    ·rw [if_neg c3] at H
     exact absurd H (by simp)
   ·rw [if_neg c2] at H
    have c2b0 : decide (x8_1 < (l0.length : Int)) = false := decide_eq_false c2
    clear c2
    replace H := QY.mp H
    obtain ⟨t315,A140,H⟩ := H
    have A14 := QX A140
    clear A140
    by_cases c15 : t315 = true
    ·subst c15
     rw [if_pos rfl] at H
     obtain rfl := Option.some.inj H
     go_wp2_with (first | ((with_reducible refine QU (f := 31) rfl ?_); refine goesL_ (some 40) rfl rfl Tryd.func31 (by kernel_rfl) rfl #[.int .i64 (l0.length : Int),.int .i64 1,.int .i64 20] rfl (by (try simp only [List.map_toArray,List.map_cons,List.map_nil]); first | done | rfl | (simp only [List.length_drop,List.length_take]; rfl)) ?_; (with_reducible refine (impl_InRange.calls (l0.length : Int) 1 20 true _ A14.out).mono ?_); rintro e w' ⟨rfl,⟨nd,rfl⟩⟩; refine ⟨_,rfl,?_⟩))
     go_ret
     exact ⟨by first | rfl | (simp; done) | (simp [*]; done),by repeat (first | exact Drawn0.refl _ | apply Drawn0.step)⟩
    ·replace c15 := Bool.eq_false_iff.mpr c15
     subst c15
     rw [if_neg (show ¬ (false = true) by decide)] at H
     obtain rfl := Option.some.inj H
     go_wp2_with (first | ((with_reducible refine QU (f := 31) rfl ?_); refine goesL_ (some 40) rfl rfl Tryd.func31 (by kernel_rfl) rfl #[.int .i64 (l0.length : Int),.int .i64 1,.int .i64 20] rfl (by (try simp only [List.map_toArray,List.map_cons,List.map_nil]); first | done | rfl | (simp only [List.length_drop,List.length_take]; rfl)) ?_; (with_reducible refine (impl_InRange.calls (l0.length : Int) 1 20 false _ A14.out).mono ?_); rintro e w' ⟨rfl,⟨nd,rfl⟩⟩; refine ⟨_,rfl,?_⟩))
     go_ret
     exact ⟨by first | rfl | (simp; done) | (simp [*]; done),by repeat (first | exact Drawn0.refl _ | apply Drawn0.step)⟩

/-! ### impl_isMaybe: function 32 -/
def impl_isMaybe.f (k : Nat) (l0 : List Int) : Option (Bool) := if (l0.length : Int) = 0 then (some true) else ((impl_IsPattern.f k l0).bind fun t318 => (some t318))
theorem impl_isMaybe.mono : ∀ a0 k, LeO (impl_isMaybe.f k a0) (impl_isMaybe.f (k + 1) a0) := by
 intro a0 k
 unfold impl_isMaybe.f
 repeat' first
   | (with_reducible exact impl_IsPattern.mono _ _)
   | (with_reducible exact LeO.refl _)
   | (with_reducible exact LeO.none _)
   | (with_reducible refine LeO.ite ?_ ?_)
   | (with_reducible refine LeO.bind ?_ (fun _ => ?_))
   | exact impl_IsPattern.mono _ _
   | exact LeO.none _
   | refine LeO.ite ?_ ?_
   | refine LeO.bind ?_ (fun _ => ?_)
set_option maxHeartbeats 8000000 in
set_option maxRecDepth 100000 in
theorem impl_isMaybe.calls (k : Nat) (A0 : Option Addr) (c0 : Nat) (l0 : List Int) (r : Bool) (w : World) (hr0 : Kd.C (Kd.int .i64) w A0 l0.length l0) (hc0 : l0.length ≤ c0) (h : impl_isMaybe.f k l0 = some r) :
  Calls Tryd.prog 32 #[.slice A0 l0.length c0] w fun e w' => e = .returned (.bool r) ∧ Drawn0 w w' := by
 have HR0 := QX hr0
 have HC0 := QX hc0
 clear hr0 hc0
 have H : (if (l0.length : Int) = 0 then (some true) else ((impl_IsPattern.f k l0).bind fun t318 => (some t318))) = some r := h
 clear h
 by_cases c2 : (l0.length : Int) = 0
 ·rw [if_pos c2] at H
  have c2b0 : ((l0.length : Int) == 0) = true := beq_iff_eq.mpr c2
  have c2b1 : ((l0.length : Int) != 0) = false := bne_eq_false_iff_eq.mpr c2
  clear c2
  obtain rfl := Option.some.inj H
  go_enter Tryd.func32,Tryd.ntmps32
  go_wp2
  go_ret
  exact ⟨by first | rfl | (simp; done) | (simp [*]; done),by repeat (first | exact Drawn0.refl _ | apply Drawn0.step)⟩
 ·rw [if_neg c2] at H
  have c2b0 : ((l0.length : Int) == 0) = false := beq_eq_false_iff_ne.mpr c2
  have c2b1 : ((l0.length : Int) != 0) = true := bne_iff_ne.mpr c2
  have c2b2 : ¬ (l0 = []) := fun h_ => c2 (by rw [h_]; rfl)
  replace H := QY.mp H
  obtain ⟨t318,A30,H⟩ := H
  have A3 := QX A30
  clear A30
  obtain rfl := Option.some.inj H
  go_enter Tryd.func32,Tryd.ntmps32
  go_wp2_with (first | (go_at_call 60; (with_reducible refine (impl_IsPattern.calls k _ _ l0 t318 _ ?side1 ?side2 A3.out).mono ?_); (case side1 => repeat (first | exact HR0.out | (with_reducible refine Kd.C_alloc ?_ _) | (with_reducible refine Kd.C_drewN ?_ _) | (with_reducible refine Kd.C_drew ?_))); (case side2 => exact HC0.out); rintro e w' ⟨rfl,⟨nd,rfl⟩⟩))
  go_ret
  exact ⟨by first | rfl | (simp; done) | (simp [*]; done),by repeat (first | exact Drawn0.refl _ | apply Drawn0.step)⟩

/-! ### impl_IsRules: function 10 -/
def impl_IsRules.f (k : Nat) (a0_0 : Int) (a0_1 : Int) (a0_2 : Bool) (a0_3 : Bool) (l0_4 : List Int) (l0_5 : List Int) (a0_6 : Int) (a0_7 : Int) : Option (Bool) := (impl_InRange.f a0_0 2 6).bind fun t320 => (if t320 = true then ((impl_InRange.f a0_1 1 8).bind fun t321 => (if t321 = true then (if a0_2 = true then ((impl_isMaybe.f k l0_4).bind fun t322 => (if t322 = true then ((impl_isMaybe.f k l0_5).bind fun t323 => (if t323 = true then ((impl_InRange.f a0_6 1 4).bind fun t324 => (if t324 = true then ((impl_InRange.f a0_7 1 400).bind fun t325 => (some t325)) else (some false))) else (some false))) else (some false))) else (if a0_3 = true then ((impl_isMaybe.f k l0_4).bind fun t326 => (if t326 = true then ((impl_isMaybe.f k l0_5).bind fun t327 => (if t327 = true then ((impl_InRange.f a0_6 1 4).bind fun t328 => (if t328 = true then ((impl_InRange.f a0_7 1 400).bind fun t329 => (some t329)) else (some false))) else (some false))) else (some false))) else (some false))) else (some false))) else (some false))
theorem impl_IsRules.mono : ∀ a0 a1 a2 a3 a4 a5 a6 a7 k, LeO (impl_IsRules.f k a0 a1 a2 a3 a4 a5 a6 a7) (impl_IsRules.f (k + 1) a0 a1 a2 a3 a4 a5 a6 a7) := by
 intro a0 a1 a2 a3 a4 a5 a6 a7 k
 unfold impl_IsRules.f
 repeat' first
   | (with_reducible exact impl_isMaybe.mono _ _)
   | (with_reducible exact LeO.refl _)
   | (with_reducible exact LeO.none _)
   | (with_reducible refine LeO.ite ?_ ?_)
   | (with_reducible refine LeO.bind ?_ (fun _ => ?_))
   | exact impl_isMaybe.mono _ _
   | exact LeO.none _
   | refine LeO.ite ?_ ?_
   | refine LeO.bind ?_ (fun _ => ?_)
set_option maxHeartbeats 8000000 in
set_option maxRecDepth 100000 in
theorem impl_IsRules.calls (k : Nat) (a0_0 : Int) (a0_1 : Int) (a0_2 : Bool) (a0_3 : Bool) (A0_4 : Option Addr) (c0_4 : Nat) (l0_4 : List Int) (A0_5 : Option Addr) (c0_5 : Nat) (l0_5 : List Int) (a0_6 : Int) (a0_7 : Int) (r : Bool) (w : World) (hr0_4 : Kd.C (Kd.int .i64) w A0_4 l0_4.length l0_4) (hc0_4 : l0_4.length ≤ c0_4) (hr0_5 : Kd.C (Kd.int .i64) w A0_5 l0_5.length l0_5) (hc0_5 : l0_5.length ≤ c0_5) (h : impl_IsRules.f k a0_0 a0_1 a0_2 a0_3 l0_4 l0_5 a0_6 a0_7 = some r) :
  Calls Tryd.prog 10 #[.agg #[.int .i64 a0_0,.int .i64 a0_1,.bool a0_2,.bool a0_3,.slice A0_4 l0_4.length c0_4,.slice A0_5 l0_5.length c0_5,.int .i64 a0_6,.int .i64 a0_7]] w fun e w' => e = .returned (.bool r) ∧ Below w.heap.size w w' := by
 have hu26 := Tryd.underlying26
 have HR0_4 := QX hr0_4
 have HC0_4 := QX hc0_4
 clear hr0_4 hc0_4
 have HR0_5 := QX hr0_5
 have HC0_5 := QX hc0_5
 clear hr0_5 hc0_5
 have HB := QX (Below.refl w.heap.size w)
 have H : ((impl_InRange.f a0_0 2 6).bind fun t320 => (if t320 = true then ((impl_InRange.f a0_1 1 8).bind fun t321 => (if t321 = true then (if a0_2 = true then ((impl_isMaybe.f k l0_4).bind fun t322 => (if t322 = true then ((impl_isMaybe.f k l0_5).bind fun t323 => (if t323 = true then ((impl_InRange.f a0_6 1 4).bind fun t324 => (if t324 = true then ((impl_InRange.f a0_7 1 400).bind fun t325 => (some t325)) else (some false))) else (some false))) else (some false))) else (if a0_3 = true then ((impl_isMaybe.f k l0_4).bind fun t326 => (if t326 = true then ((impl_isMaybe.f k l0_5).bind fun t327 => (if t327 = true then ((impl_InRange.f a0_6 1 4).bind fun t328 => (if t328 = true then ((impl_InRange.f a0_7 1 400).bind fun t329 => (some t329)) else (some false))) else (some false))) else (some false))) else (some false))) else (some false))) else (some false))) = some r := h
 clear h
 replace H := QY.mp H
 obtain ⟨t320,A20,H⟩ := H
 have A2 := QX A20
 clear A20
 by_cases c3 : t320 = true
 rotate_left
 replace c3 := Bool.eq_false_iff.mpr c3
 subst c3
 rw [if_neg (show ¬ (false = true) by decide)] at H
 obtain rfl := Option.some.inj H
 rotate_right
 subst c3
 rw [if_pos rfl] at H
 replace H := QY.mp H
 obtain ⟨t321,A40,H⟩ := H
 have A4 := QX A40
 clear A40
 by_cases c5 : t321 = true
 rotate_left
 replace c5 := Bool.eq_false_iff.mpr c5
 subst c5
 rw [if_neg (show ¬ (false = true) by decide)] at H
 obtain rfl := Option.some.inj H
 rotate_right
 subst c5
 rw [if_pos rfl] at H
 by_cases c6 : a0_2 = true
 rotate_left
 replace c6 := Bool.eq_false_iff.mpr c6
 subst c6
 rw [if_neg (show ¬ (false = true) by decide)] at H
 by_cases c22 : a0_3 = true
 rotate_left
 replace c22 := Bool.eq_false_iff.mpr c22
 subst c22
 rw [if_neg (show ¬ (false = true) by decide)] at H
 obtain rfl := Option.some.inj H
 rotate_right
 subst c22
 rw [if_pos rfl] at H
 replace H := QY.mp H
 obtain ⟨t322,A70,H⟩ := H
 have A7 := QX A70
 clear A70
 try (obtain rfl := Option.some.inj (A7.out.symm.trans A7.out))
 by_cases c8 : t322 = true
 rotate_left
 replace c8 := Bool.eq_false_iff.mpr c8
 subst c8
 rw [if_neg (show ¬ (false = true) by decide)] at H
 obtain rfl := Option.some.inj H
 rotate_right
 subst c8
 rw [if_pos rfl] at H
 replace H := QY.mp H
 obtain ⟨t323,A90,H⟩ := H
 have A9 := QX A90
 clear A90
 try (obtain rfl := Option.some.inj (A9.out.symm.trans A9.out))
 by_cases c10 : t323 = true
 rotate_left
 replace c10 := Bool.eq_false_iff.mpr c10
 subst c10
 rw [if_neg (show ¬ (false = true) by decide)] at H
 obtain rfl := Option.some.inj H
 rotate_right
 subst c10
 rw [if_pos rfl] at H
 replace H := QY.mp H
 obtain ⟨t324,A110,H⟩ := H
 have A11 := QX A110
 clear A110
 try (obtain rfl := Option.some.inj (A11.out.symm.trans A11.out))
 by_cases c12 : t324 = true
 rotate_left
 replace c12 := Bool.eq_false_iff.mpr c12
 subst c12
 rw [if_neg (show ¬ (false = true) by decide)] at H
 obtain rfl := Option.some.inj H
 rotate_right
 subst c12
 rw [if_pos rfl] at H
 replace H := QY.mp H
 obtain ⟨t325,A130,H⟩ := H
 have A13 := QX A130
 clear A130
 try (obtain rfl := Option.some.inj (A13.out.symm.trans A13.out))
 obtain rfl := Option.some.inj H
 rotate_right
 subst c6
 rw [if_pos rfl] at H
 replace H := QY.mp H
 obtain ⟨t322,A70,H⟩ := H
 have A7 := QX A70
 clear A70
 by_cases c8 : t322 = true
 rotate_left
 replace c8 := Bool.eq_false_iff.mpr c8
 subst c8
 rw [if_neg (show ¬ (false = true) by decide)] at H
 obtain rfl := Option.some.inj H
 rotate_right
 subst c8
 rw [if_pos rfl] at H
 replace H := QY.mp H
 obtain ⟨t323,A90,H⟩ := H
 have A9 := QX A90
 clear A90
 by_cases c10 : t323 = true
 rotate_left
 replace c10 := Bool.eq_false_iff.mpr c10
 subst c10
 rw [if_neg (show ¬ (false = true) by decide)] at H
 obtain rfl := Option.some.inj H
 rotate_right
 subst c10
 rw [if_pos rfl] at H
 replace H := QY.mp H
 obtain ⟨t324,A110,H⟩ := H
 have A11 := QX A110
 clear A110
 by_cases c12 : t324 = true
 rotate_left
 replace c12 := Bool.eq_false_iff.mpr c12
 subst c12
 rw [if_neg (show ¬ (false = true) by decide)] at H
 obtain rfl := Option.some.inj H
 rotate_right
 subst c12
 rw [if_pos rfl] at H
 replace H := QY.mp H
 obtain ⟨t325,A130,H⟩ := H
 have A13 := QX A130
 clear A130
 obtain rfl := Option.some.inj H
 all_goals
  go_enter Tryd.func10,Tryd.ntmps10
  go_wp2_with (first | ((with_reducible refine gate_dst (N := 1) rfl ?_); refine box_event ?hg (N := 1) ?hd (cs := #[.int .i64 a0_0,.int .i64 a0_1,.bool _,.bool _,.slice A0_4 l0_4.length c0_4,.slice A0_5 l0_5.length c0_5,.int .i64 a0_6,.int .i64 a0_7]) (t := 26) ?hr ?_; (case hd => rfl); (case hg => rfl); (case hr => first | (go_simp; done) | (go_simp; rfl)); intro gb319 hg w30 hbox hb; have n0_ := QX (below_step (by repeat (first | (with_reducible first | exact HB.out | apply QG | apply QE | apply QH) | exact HB.out)) hb); have n1_ := QX (hbox); have n2_ := QX ((by rw [hg]; exact (below_size (by repeat (first | (with_reducible first | exact HB.out | apply QG | apply QE | apply QH) | exact HB.out))) : w.heap.size ≤ gb319)); have n3_ := QX ((by rw [hg]; exact (below_size (by repeat (first | (with_reducible first | exact HB.out | apply QG | apply QE | apply QH) | exact HB.out))) : w.heap.size ≤ gb319)); clear HB; revert n0_ n1_ n2_ n3_; intro HB BK319 GW319 GE319; clear hb hbox hg; have hcz31 := fun i => blk_cell BK319.out i; have hfz31 := fun i => QV BK319.out i) | ((with_reducible refine QU (f := 31) rfl ?_); refine goesL_ (some 5) rfl rfl Tryd.func31 (by kernel_rfl) rfl #[.int .i64 a0_0,.int .i64 2,.int .i64 6] rfl (by (try simp only [List.map_toArray,List.map_cons,List.map_nil]); first | done | rfl | (simp only [List.length_drop,List.length_take]; rfl)) ?_; (with_reducible refine (impl_InRange.calls a0_0 2 6 _ _ A2.out).mono ?_); rintro e w' ⟨rfl,⟨nd,rfl⟩⟩; refine ⟨_,rfl,?_⟩) | (go_at_call 31; (with_reducible refine (impl_InRange.calls a0_1 1 8 _ _ A4.out).mono ?_); rintro e w' ⟨rfl,⟨nd,rfl⟩⟩) | (go_at_call 32; (with_reducible refine (impl_isMaybe.calls k _ _ l0_4 _ _ ?side1 ?side2 A7.out).mono ?_); (case side1 => repeat (first | exact (Kd.C_below HR0_4.out (by repeat (first | (with_reducible first | exact HB.out | apply QG | apply QE | apply QH | refine QF ?_ GE319.out) | exact HB.out))) | (with_reducible refine Kd.C_alloc ?_ _) | (with_reducible refine Kd.C_drewN ?_ _) | (with_reducible refine Kd.C_drew ?_))); (case side2 => exact HC0_4.out); rintro e w' ⟨rfl,⟨nd,rfl⟩⟩) | (go_at_call 32; (with_reducible refine (impl_isMaybe.calls k _ _ l0_5 _ _ ?side1 ?side2 A9.out).mono ?_); (case side1 => repeat (first | exact (Kd.C_below HR0_5.out (by repeat (first | (with_reducible first | exact HB.out | apply QG | apply QE | apply QH | refine QF ?_ GE319.out) | exact HB.out))) | (with_reducible refine Kd.C_alloc ?_ _) | (with_reducible refine Kd.C_drewN ?_ _) | (with_reducible refine Kd.C_drew ?_))); (case side2 => exact HC0_5.out); rintro e w' ⟨rfl,⟨nd,rfl⟩⟩) | (go_at_call 31; (with_reducible refine (impl_InRange.calls a0_6 1 4 _ _ A11.out).mono ?_); rintro e w' ⟨rfl,⟨nd,rfl⟩⟩) | (go_at_call 31; (with_reducible refine (impl_InRange.calls a0_7 1 400 t325 _ A13.out).mono ?_); rintro e w' ⟨rfl,⟨nd,rfl⟩⟩))
  go_ret
  exact ⟨by first | rfl | (simp [errW_none,errW_some] <;> rfl) | (simp [*,errW_none,errW_some] <;> rfl),by repeat (first | (with_reducible first | exact HB.out | apply QG | apply QE | apply QH | refine QF ?_ GE319.out) | exact HB.out)⟩

/-! ### impl_RulesWord: function 12 -/
def impl_RulesWord.j0 : Nat → Bool → Int → Int → Bool → Bool → List Int → List Int → Int → Int → Option (ByteArray)
 | 0,_,_,_,_,_,_,_,_,_ => none
 | k + 1,x3,x331000,x331001,x331002,x331003,x331004,x331005,x331006,x331007 => if x3 = true then (some (⟨#[98,111,116,104]⟩ : ByteArray)) else (if x331002 = true then (some (⟨#[115,117,105,116]⟩ : ByteArray)) else (if x331003 = true then (some (⟨#[114,97,110,107]⟩ : ByteArray)) else (some (⟨#[]⟩ : ByteArray))))
def impl_RulesWord.f (k : Nat) (a0_0 : Int) (a0_1 : Int) (a0_2 : Bool) (a0_3 : Bool) (l0_4 : List Int) (l0_5 : List Int) (a0_6 : Int) (a0_7 : Int) : Option (ByteArray) := if a0_2 = true then (impl_RulesWord.j0 k a0_3 a0_0 a0_1 a0_2 a0_3 l0_4 l0_5 a0_6 a0_7) else (impl_RulesWord.j0 k false a0_0 a0_1 a0_2 a0_3 l0_4 l0_5 a0_6 a0_7)
theorem impl_RulesWord.mono_l : ∀ k, (∀ y0 y1 y2 y3 y4 y5 y6 y7 y8, LeO (impl_RulesWord.j0 k y0 y1 y2 y3 y4 y5 y6 y7 y8) (impl_RulesWord.j0 (k + 1) y0 y1 y2 y3 y4 y5 y6 y7 y8))
 | 0 => fun _ _ _ _ _ _ _ _ _ r h => by simp [impl_RulesWord.j0] at h
 | k + 1 => by
  have ih0 := impl_RulesWord.mono_l k
  ·intro y0 y1 y2 y3 y4 y5 y6 y7 y8
   unfold impl_RulesWord.j0
   repeat' first
   | (with_reducible exact ih0 _ _ _ _ _ _ _ _ _)
   | (with_reducible exact LeO.refl _)
   | (with_reducible exact LeO.none _)
   | (with_reducible refine LeO.ite ?_ ?_)
   | (with_reducible refine LeO.bind ?_ (fun _ => ?_))
   | exact ih0 _ _ _ _ _ _ _ _ _
   | exact LeO.none _
   | refine LeO.ite ?_ ?_
   | refine LeO.bind ?_ (fun _ => ?_)
theorem impl_RulesWord.mono : ∀ a0 a1 a2 a3 a4 a5 a6 a7 k, LeO (impl_RulesWord.f k a0 a1 a2 a3 a4 a5 a6 a7) (impl_RulesWord.f (k + 1) a0 a1 a2 a3 a4 a5 a6 a7) := by
 intro a0 a1 a2 a3 a4 a5 a6 a7 k
 have ih0 := impl_RulesWord.mono_l k
 unfold impl_RulesWord.f
 repeat' first
   | (with_reducible exact ih0 _ _ _ _ _ _ _ _ _)
   | (with_reducible exact LeO.refl _)
   | (with_reducible exact LeO.none _)
   | (with_reducible refine LeO.ite ?_ ?_)
   | (with_reducible refine LeO.bind ?_ (fun _ => ?_))
   | exact ih0 _ _ _ _ _ _ _ _ _
   | exact LeO.none _
   | refine LeO.ite ?_ ?_
   | refine LeO.bind ?_ (fun _ => ?_)
set_option maxHeartbeats 8000000 in
set_option maxRecDepth 100000 in
theorem impl_RulesWord.calls (k : Nat) (a0_0 : Int) (a0_1 : Int) (a0_2 : Bool) (a0_3 : Bool) (A0_4 : Option Addr) (c0_4 : Nat) (l0_4 : List Int) (A0_5 : Option Addr) (c0_5 : Nat) (l0_5 : List Int) (a0_6 : Int) (a0_7 : Int) (r : ByteArray) (w : World) (hr0_4 : Kd.C (Kd.int .i64) w A0_4 l0_4.length l0_4) (hc0_4 : l0_4.length ≤ c0_4) (hr0_5 : Kd.C (Kd.int .i64) w A0_5 l0_5.length l0_5) (hc0_5 : l0_5.length ≤ c0_5) (h : impl_RulesWord.f k a0_0 a0_1 a0_2 a0_3 l0_4 l0_5 a0_6 a0_7 = some r) :
  Calls Tryd.prog 12 #[.agg #[.int .i64 a0_0,.int .i64 a0_1,.bool a0_2,.bool a0_3,.slice A0_4 l0_4.length c0_4,.slice A0_5 l0_5.length c0_5,.int .i64 a0_6,.int .i64 a0_7]] w fun e w' => e = .returned (.string r) ∧ Below w.heap.size w w' := by
 have hu26 := Tryd.underlying26
 have HR0_4 := QX hr0_4
 have HC0_4 := QX hc0_4
 clear hr0_4 hc0_4
 have HR0_5 := QX hr0_5
 have HC0_5 := QX hc0_5
 clear hr0_5 hc0_5
 have HB := QX (Below.refl w.heap.size w)
 have H : (if a0_2 = true then (impl_RulesWord.j0 k a0_3 a0_0 a0_1 a0_2 a0_3 l0_4 l0_5 a0_6 a0_7) else (impl_RulesWord.j0 k false a0_0 a0_1 a0_2 a0_3 l0_4 l0_5 a0_6 a0_7)) = some r := h
 clear h
 have HC2 := QX H
 clear H
 go_enter Tryd.func12,Tryd.ntmps12
 go_upto_region 1 with (first | ((with_reducible refine gate_dst (N := 1) rfl ?_); refine box_event ?hg (N := 1) ?hd (cs := #[.int .i64 a0_0,.int .i64 a0_1,.bool a0_2,.bool a0_3,.slice A0_4 l0_4.length c0_4,.slice A0_5 l0_5.length c0_5,.int .i64 a0_6,.int .i64 a0_7]) (t := 26) ?hr ?_; (case hd => rfl); (case hg => rfl); (case hr => first | (go_simp; done) | (go_simp; rfl)); intro gb330 hg w3 hbox hb; have n0_ := QX (below_step (by repeat (first | (with_reducible first | exact HB.out | apply QG | apply QE | apply QH) | exact HB.out)) hb); have n1_ := QX (hbox); have n2_ := QX ((by rw [hg]; exact (below_size (by repeat (first | (with_reducible first | exact HB.out | apply QG | apply QE | apply QH) | exact HB.out))) : w.heap.size ≤ gb330)); have n3_ := QX ((by rw [hg]; exact (below_size (by repeat (first | (with_reducible first | exact HB.out | apply QG | apply QE | apply QH) | exact HB.out))) : w.heap.size ≤ gb330)); clear HB; revert n0_ n1_ n2_ n3_; intro HB BK330 GW330 GE330; clear hb hbox hg))
 (try simp only [Act.put,List.setIfInBounds_toArray,List.set_cons_zero,List.set_cons_succ])
 go_cut [3] (fun v3 wc => ∃ (kq : Nat) (x3_1 : Bool),v3 = .bool x3_1 ∧ Aside0 (impl_RulesWord.j0 kq x3_1 a0_0 a0_1 a0_2 a0_3 l0_4 l0_5 a0_6 a0_7 = some r) ∧ Aside0 (kq ≤ k) ∧ Aside0 (wc.heap[gb330]? = some (.cells #[.int .i64 a0_0,.int .i64 a0_1,.bool a0_2,.bool a0_3,(.slice A0_4 l0_4.length c0_4),(.slice A0_5 l0_5.length c0_5),.int .i64 a0_6,.int .i64 a0_7] 26 (0,0))) ∧ Aside0 (Below w.heap.size w wc))
 case first =>
  have H := HC2.out
  clear HC2
  by_cases c4 : a0_2 = true
  ·subst c4
   rw [if_pos rfl] at H
   have H' := QX H
   clear H
   have hcz5 := fun i => blk_cell BK330.out i
   have hfz5 := fun i => QV BK330.out i
   go_wp2
   go_meet
   case rel => exact ⟨_,(a0_3),(by first | rfl | (simp; done) | (simp [*]; done)),H',⟨by first | omega | exact Nat.le_refl _⟩,⟨by (with_reducible repeat (first | refine QB ?_ _ | refine QD ?_ | refine QC ?_ _)); exact BK330.out⟩,⟨by repeat (first | (with_reducible first | exact HB.out | apply QG | apply QE | apply QH | refine QF ?_ GE330.out) | exact HB.out)⟩⟩
  ·replace c4 := Bool.eq_false_iff.mpr c4
   subst c4
   rw [if_neg (show ¬ (false = true) by decide)] at H
   have H' := QX H
   clear H
   have hcz6 := fun i => blk_cell BK330.out i
   have hfz6 := fun i => QV BK330.out i
   go_wp2
   go_meet
   case rel => exact ⟨_,(false),(by first | rfl | (simp; done) | (simp [*]; done)),H',⟨by first | omega | exact Nat.le_refl _⟩,⟨by (with_reducible repeat (first | refine QB ?_ _ | refine QD ?_ | refine QC ?_ _)); exact BK330.out⟩,⟨by repeat (first | (with_reducible first | exact HB.out | apply QG | apply QE | apply QH | refine QF ?_ GE330.out) | exact HB.out)⟩⟩
 case rest =>
  clear HC2
  try clear c4
  try clear hcz5
  try clear hcz6
  try clear hfz5
  try clear hfz6
  obtain ⟨kq,x3_1,rfl,HA,HJ1,BK330,HB⟩ := hcut
  cases kq with
  | zero => exact absurd HA.out (by simp [impl_RulesWord.j0])
  | succ kj1 =>
   have H := HA.out
   clear HA
   simp only [impl_RulesWord.j0] at H
   by_cases c7 : x3_1 = true
   rotate_left
   replace c7 := Bool.eq_false_iff.mpr c7
   subst c7
   rw [if_neg (show ¬ (false = true) by decide)] at H
   by_cases c8 : a0_2 = true
   rotate_left
   replace c8 := Bool.eq_false_iff.mpr c8
   subst c8
   rw [if_neg (show ¬ (false = true) by decide)] at H
   by_cases c10 : a0_3 = true
   rotate_left
   replace c10 := Bool.eq_false_iff.mpr c10
   subst c10
   rw [if_neg (show ¬ (false = true) by decide)] at H
   obtain rfl := Option.some.inj H
   rotate_right
   subst c10
   rw [if_pos rfl] at H
   obtain rfl := Option.some.inj H
   rotate_right
   subst c8
   rw [if_pos rfl] at H
   obtain rfl := Option.some.inj H
   rotate_right
   ·subst c7
    rw [if_pos rfl] at H
    obtain rfl := Option.some.inj H
    go_wp2
    go_ret
    exact ⟨by first | rfl | (simp [errW_none,errW_some] <;> rfl) | (simp [*,errW_none,errW_some] <;> rfl),by repeat (first | (with_reducible first | exact HB.out | apply QG | apply QE | apply QH | refine QF ?_ GE330.out) | exact HB.out)⟩
   all_goals
    have hcz12 := fun i => blk_cell BK330.out i
    have hfz12 := fun i => QV BK330.out i
    go_wp2
    go_ret
    exact ⟨by first | rfl | (simp [errW_none,errW_some] <;> rfl) | (simp [*,errW_none,errW_some] <;> rfl),by repeat (first | (with_reducible first | exact HB.out | apply QG | apply QE | apply QH | refine QF ?_ GE330.out) | exact HB.out)⟩

-- NOT PRINTED: function 92 (abi_NoEscape)

-- NOT PRINTED: function 76 (strings_Builder_copyCheck)

-- NOT PRINTED: function 93 (bytealg_MakeNoZero)

-- NOT PRINTED: function 77 (strings_Builder_grow)

-- NOT PRINTED: function 56 (strings_Builder_Grow)

-- NOT PRINTED: function 57 (strings_Builder_WriteString)

-- NOT PRINTED: function 58 (strings_Builder_String)

/-! ### strings_Join: function 28 -/
def strings_Join.f (l0 : List ByteArray) (a1 : ByteArray) : Option (ByteArray) :=
 if l0.length ≤ 140737488355328 ∧ (Go.Lib.join (l0.map (·.data.toList)) a1.data.toList).length ≤ 140737488355328 then some ⟨(Go.Lib.join (l0.map (·.data.toList)) a1.data.toList).toArray⟩ else none
theorem strings_Join.calls (A0 : Option Addr) (c0 : Nat) (l0 : List ByteArray) (a1 : ByteArray) (r : ByteArray) (w : World) (ho : ∃ e base ok, Kd.R Kd.string e w base ok (.slice A0 l0.length c0) l0) (hc0 : l0.length ≤ c0) (h : strings_Join.f l0 a1 = some r) :
  Calls Tryd.prog 28 #[.slice A0 l0.length c0, .string a1] w fun e w' => e = .returned (.string r) ∧ Below w.heap.size w w' := by
 unfold strings_Join.f at h
 split at h
 case isFalse => exact absurd h (by simp)
 case isTrue hr =>
 obtain rfl := Option.some.inj h
 obtain ⟨e, base, ok, ho⟩ := ho
 cases l0 with
 | nil => exact (Go.Proofs.Tryd.strings_Join_none A0 c0 a1 w).mono fun e w' ⟨he, hw⟩ => ⟨he, hw ▸ Below.refl _ _⟩
 | cons x t =>
  obtain ⟨g, cap, hv, hg1, hg2, cells, hg3⟩ := Kd.R_form ho (by simp)
  have hA : A0 = some ⟨g, 0, none⟩ := by injection hv
  subst hA
  refine Go.Proofs.Tryd.strings_Join g 0 c0 (x :: t) a1 w (fun j y hj => ?_) hg2 hr.1 hc0 hr.2
  have hlt : j < (x :: t).length := (List.getElem?_eq_some_iff.1 hj).1
  have hc := (Kd.R_cell (h1 := fun _ => rfl) ByteArray.empty ho (j : Int) (by omega) (by exact_mod_cast hlt)).1
  have hy : rdOf ByteArray.empty (x :: t) (j : Int) = y := by
   unfold rdOf
   rw [Int.toNat_natCast, List.getD_eq_getElem?_getD, hj]
   rfl
  rw [hy, Int.toNat_natCast] at hc
  rw [Nat.zero_add]
  exact hc

/-! ### impl_FormatInt: function 29 -/
/-- The library's table of powers of ten, as the start-up lays it. -/
def Laid (w : World) : Prop := Go.Lib.TabIs Tryd.prog w "internal/strconv.uint64pow10" .u64 Go.Lib.pow10Tab
theorem Laid.at {w w' : World} (h : Laid w) (hb : Below w.heap.size w w') : Laid w' := by
 unfold Laid Go.Lib.TabIs World.var? at h ⊢
 cases hg : Tryd.prog.globalNamed "internal/strconv.uint64pow10" with
 | none => rw [hg] at h; exact absurd h (by simp)
 | some g =>
  rw [hg] at h
  simp only [Option.bind_some] at h ⊢
  have hl : g < w.heap.size := by
   refine Nat.lt_of_not_le fun hle => ?_
   rw [Array.getElem?_eq_none hle] at h
   exact absurd h (by simp)
  rw [hb.block g hl]
  exact h
def impl_FormatInt.f (a0 : Int) : Option (ByteArray) := if -9223372036854775808 ≤ a0 ∧ a0 ≤ 9223372036854775807 then some ⟨(Go.Lib.itoa a0).toArray⟩ else none
set_option maxHeartbeats 8000000 in
set_option maxRecDepth 100000 in
theorem impl_FormatInt.calls (a0 : Int) (r : ByteArray) (w : World) (ht : Laid w) (h : impl_FormatInt.f a0 = some r) :
  Calls Tryd.prog 29 #[.int .i64 a0] w fun e w' => e = .returned (.string r) ∧ Below w.heap.size w w' := by
 unfold impl_FormatInt.f at h
 split at h
 case isFalse => exact absurd h (by simp)
 case isTrue hr =>
 obtain rfl := Option.some.inj h
 have HR := QX hr
 have HT := QX ht
 clear hr ht h
 go_enter Tryd.func29, Tryd.ntmps29
 go_wp2_with (fail)
 refine (Go.Proofs.Tryd.strconv_Itoa a0 HR.out.1 HR.out.2 _ HT.out).mono ?_
 rintro e w' ⟨rfl, k, os, rfl⟩
 go_wp2
 go_ret
 exact ⟨rfl, Go.Lib.below_grow _ w (Nat.le_refl _) k os⟩

/-! ### impl_signText: function 75 -/
def impl_signText.f (a0 : Int) : Option (ByteArray) := if a0 = 400 then (some (⟨#[114]⟩ : ByteArray)) else (if a0 ≥ 300 then (if 0 ≤ (wrap64 (a0 - 300)) then (if (wrap64 (a0 - 300)) ≤ (wrap64 ((wrap64 (a0 - 300)) + 1)) then (if (wrap64 ((wrap64 (a0 - 300)) + 1)) ≤ 13 then (if ((⟨#[50, 51, 52, 53, 54, 55, 56, 57, 84, 74, 81, 75, 65]⟩ : ByteArray).extract ((wrap64 (a0 - 300)) : Int).toNat ((wrap64 ((wrap64 (a0 - 300)) + 1)) : Int).toNat).size + 1 ≤ 9223372036854775807 then (some (((⟨#[50, 51, 52, 53, 54, 55, 56, 57, 84, 74, 81, 75, 65]⟩ : ByteArray).extract ((wrap64 (a0 - 300)) : Int).toNat ((wrap64 ((wrap64 (a0 - 300)) + 1)) : Int).toNat) ++ (⟨#[43]⟩ : ByteArray))) else (none)) else (none)) else (none)) else (none)) else (if a0 ≥ 200 then (if 0 ≤ (wrap64 (a0 - 200)) then (if (wrap64 (a0 - 200)) ≤ (wrap64 ((wrap64 (a0 - 200)) + 1)) then (if (wrap64 ((wrap64 (a0 - 200)) + 1)) ≤ 13 then (some ((⟨#[50, 51, 52, 53, 54, 55, 56, 57, 84, 74, 81, 75, 65]⟩ : ByteArray).extract ((wrap64 (a0 - 200)) : Int).toNat ((wrap64 ((wrap64 (a0 - 200)) + 1)) : Int).toNat)) else (none)) else (none)) else (none)) else (if 0 ≤ (wrap64 (a0 - 100)) then (if (wrap64 (a0 - 100)) ≤ (wrap64 ((wrap64 (a0 - 100)) + 1)) then (if (wrap64 ((wrap64 (a0 - 100)) + 1)) ≤ 4 then (some ((⟨#[99, 100, 104, 115]⟩ : ByteArray).extract ((wrap64 (a0 - 100)) : Int).toNat ((wrap64 ((wrap64 (a0 - 100)) + 1)) : Int).toNat)) else (none)) else (none)) else (none))))
set_option maxHeartbeats 8000000 in
set_option maxRecDepth 100000 in
theorem impl_signText.calls (a0 : Int) (r : ByteArray) (w : World) (h : impl_signText.f a0 = some r) :
  Calls Tryd.prog 75 #[.int .i64 a0] w fun e w' => e = .returned (.string r) ∧ Drawn0 w w' := by
 have H : (if a0 = 400 then (some (⟨#[114]⟩ : ByteArray)) else (if a0 ≥ 300 then (if 0 ≤ (wrap64 (a0 - 300)) then (if (wrap64 (a0 - 300)) ≤ (wrap64 ((wrap64 (a0 - 300)) + 1)) then (if (wrap64 ((wrap64 (a0 - 300)) + 1)) ≤ 13 then (if ((⟨#[50,51,52,53,54,55,56,57,84,74,81,75,65]⟩ : ByteArray).extract ((wrap64 (a0 - 300)) : Int).toNat ((wrap64 ((wrap64 (a0 - 300)) + 1)) : Int).toNat).size + 1 ≤ 9223372036854775807 then (some (((⟨#[50,51,52,53,54,55,56,57,84,74,81,75,65]⟩ : ByteArray).extract ((wrap64 (a0 - 300)) : Int).toNat ((wrap64 ((wrap64 (a0 - 300)) + 1)) : Int).toNat) ++ (⟨#[43]⟩ : ByteArray))) else (none)) else (none)) else (none)) else (none)) else (if a0 ≥ 200 then (if 0 ≤ (wrap64 (a0 - 200)) then (if (wrap64 (a0 - 200)) ≤ (wrap64 ((wrap64 (a0 - 200)) + 1)) then (if (wrap64 ((wrap64 (a0 - 200)) + 1)) ≤ 13 then (some ((⟨#[50,51,52,53,54,55,56,57,84,74,81,75,65]⟩ : ByteArray).extract ((wrap64 (a0 - 200)) : Int).toNat ((wrap64 ((wrap64 (a0 - 200)) + 1)) : Int).toNat)) else (none)) else (none)) else (none)) else (if 0 ≤ (wrap64 (a0 - 100)) then (if (wrap64 (a0 - 100)) ≤ (wrap64 ((wrap64 (a0 - 100)) + 1)) then (if (wrap64 ((wrap64 (a0 - 100)) + 1)) ≤ 4 then (some ((⟨#[99,100,104,115]⟩ : ByteArray).extract ((wrap64 (a0 - 100)) : Int).toNat ((wrap64 ((wrap64 (a0 - 100)) + 1)) : Int).toNat)) else (none)) else (none)) else (none))))) = some r := h
 clear h
 by_cases c2 : a0 = 400
 ·rw [if_pos c2] at H
  have c2b0 : (a0 == 400) = true := beq_iff_eq.mpr c2
  have c2b1 : (a0 != 400) = false := bne_eq_false_iff_eq.mpr c2
  clear c2
  obtain rfl := Option.some.inj H
  go_enter Tryd.func75,Tryd.ntmps75
  go_wp2
  go_ret
  exact ⟨by first | rfl | (simp; done) | (simp [*]; done),by repeat (first | exact Drawn0.refl _ | apply Drawn0.step)⟩
 ·rw [if_neg c2] at H
  have c2b0 : (a0 == 400) = false := beq_eq_false_iff_ne.mpr c2
  have c2b1 : (a0 != 400) = true := bne_iff_ne.mpr c2
  by_cases c3 : a0 ≥ 300
  ·rw [if_pos c3] at H
   have c3b0 : decide (300 ≤ a0) = true := decide_eq_true c3
   clear c3
   obtain ⟨ji4,hji4⟩ : ∃ j_ : Int,(wrap64 (a0 - 300)) = j_ := ⟨_,rfl⟩
   replace H : (if 0 ≤ (ji4) then (if (ji4) ≤ (wrap64 ((ji4) + 1)) then (if (wrap64 ((ji4) + 1)) ≤ 13 then (if ((⟨#[50,51,52,53,54,55,56,57,84,74,81,75,65]⟩ : ByteArray).extract ((ji4) : Int).toNat ((wrap64 ((ji4) + 1)) : Int).toNat).size + 1 ≤ 9223372036854775807 then (some (((⟨#[50,51,52,53,54,55,56,57,84,74,81,75,65]⟩ : ByteArray).extract ((ji4) : Int).toNat ((wrap64 ((ji4) + 1)) : Int).toNat) ++ (⟨#[43]⟩ : ByteArray))) else (none)) else (none)) else (none)) else (none)) = some r := by first | (rw [hji4] at H; exact H) | (simp only [hji4] at H ⊢; exact H)
   have hji4w : (IntKind.i64.wrap (a0 - 300)) = ji4 := (i64_w _).trans hji4
   by_cases c5 : 0 ≤ (ji4)
   ·rw [if_pos c5] at H
    have c5b0 := eq_true c5
    have c5b1 : decide (0 ≤ (ji4)) = true := decide_eq_true c5
    clear c5
    by_cases c6 : (ji4) ≤ (wrap64 ((ji4) + 1))
    ·rw [if_pos c6] at H
     have c6b0 := eq_true c6
     have c6b1 : decide ((ji4) ≤ (wrap64 ((ji4) + 1))) = true := decide_eq_true c6
     by_cases c7 : (wrap64 ((ji4) + 1)) ≤ 13
     ·rw [if_pos c7] at H
      have c7b0 := eq_true c7
      have c7b1 : decide ((wrap64 ((ji4) + 1)) ≤ 13) = true := decide_eq_true c7
      by_cases c8 : ((⟨#[50,51,52,53,54,55,56,57,84,74,81,75,65]⟩ : ByteArray).extract ((ji4) : Int).toNat ((wrap64 ((ji4) + 1)) : Int).toNat).size + 1 ≤ 9223372036854775807
      ·rw [if_pos c8] at H
       have c8b0 := eq_true c8
       have c8b1 : decide (((⟨#[50,51,52,53,54,55,56,57,84,74,81,75,65]⟩ : ByteArray).extract ((ji4) : Int).toNat ((wrap64 ((ji4) + 1)) : Int).toNat).size + 1 ≤ 9223372036854775807) = true := decide_eq_true c8
       try have c8b2 : (9223372036854775807 < ((⟨#[50,51,52,53,54,55,56,57,84,74,81,75,65]⟩ : ByteArray).extract ((ji4) : Int).toNat ((wrap64 ((ji4) + 1)) : Int).toNat).size + 1) = False := eq_false (Nat.not_lt.2 c8)
       obtain rfl := Option.some.inj H
       go_enter Tryd.func75,Tryd.ntmps75
       go_wp2
       go_ret
       exact ⟨by first | rfl | (simp; done) | (simp only [← hji4] <;> (first | rfl | simp)) | (simp [*]; done),by repeat (first | exact Drawn0.refl _ | apply Drawn0.step)⟩
      ·rw [if_neg c8] at H
       exact absurd H (by simp)
     ·rw [if_neg c7] at H
      exact absurd H (by simp)
    ·rw [if_neg c6] at H
     exact absurd H (by simp)
   ·rw [if_neg c5] at H
    exact absurd H (by simp)
  ·rw [if_neg c3] at H
   have c3b0 : decide (300 ≤ a0) = false := decide_eq_false c3
   clear c3
   by_cases c9 : a0 ≥ 200
   ·rw [if_pos c9] at H
    have c9b0 : decide (200 ≤ a0) = true := decide_eq_true c9
    clear c9
    obtain ⟨ji10,hji10⟩ : ∃ j_ : Int,(wrap64 (a0 - 200)) = j_ := ⟨_,rfl⟩
    replace H : (if 0 ≤ (ji10) then (if (ji10) ≤ (wrap64 ((ji10) + 1)) then (if (wrap64 ((ji10) + 1)) ≤ 13 then (some ((⟨#[50,51,52,53,54,55,56,57,84,74,81,75,65]⟩ : ByteArray).extract ((ji10) : Int).toNat ((wrap64 ((ji10) + 1)) : Int).toNat)) else (none)) else (none)) else (none)) = some r := by first | (rw [hji10] at H; exact H) | (simp only [hji10] at H ⊢; exact H)
    have hji10w : (IntKind.i64.wrap (a0 - 200)) = ji10 := (i64_w _).trans hji10
    by_cases c11 : 0 ≤ (ji10)
    ·rw [if_pos c11] at H
     have c11b0 := eq_true c11
     have c11b1 : decide (0 ≤ (ji10)) = true := decide_eq_true c11
     clear c11
     by_cases c12 : (ji10) ≤ (wrap64 ((ji10) + 1))
     ·rw [if_pos c12] at H
      have c12b0 := eq_true c12
      have c12b1 : decide ((ji10) ≤ (wrap64 ((ji10) + 1))) = true := decide_eq_true c12
      by_cases c13 : (wrap64 ((ji10) + 1)) ≤ 13
      ·rw [if_pos c13] at H
       have c13b0 := eq_true c13
       have c13b1 : decide ((wrap64 ((ji10) + 1)) ≤ 13) = true := decide_eq_true c13
       obtain rfl := Option.some.inj H
       go_enter Tryd.func75,Tryd.ntmps75
       go_wp2
       go_ret
       exact ⟨by first | rfl | (simp; done) | (simp only [← hji10] <;> (first | rfl | simp)) | (simp [*]; done),by repeat (first | exact Drawn0.refl _ | apply Drawn0.step)⟩
      ·rw [if_neg c13] at H
       exact absurd H (by simp)
     ·rw [if_neg c12] at H
      exact absurd H (by simp)
    ·rw [if_neg c11] at H
     exact absurd H (by simp)
   ·rw [if_neg c9] at H
    have c9b0 : decide (200 ≤ a0) = false := decide_eq_false c9
    clear c9
    obtain ⟨ji14,hji14⟩ : ∃ j_ : Int,(wrap64 (a0 - 100)) = j_ := ⟨_,rfl⟩
    replace H : (if 0 ≤ (ji14) then (if (ji14) ≤ (wrap64 ((ji14) + 1)) then (if (wrap64 ((ji14) + 1)) ≤ 4 then (some ((⟨#[99,100,104,115]⟩ : ByteArray).extract ((ji14) : Int).toNat ((wrap64 ((ji14) + 1)) : Int).toNat)) else (none)) else (none)) else (none)) = some r := by first | (rw [hji14] at H; exact H) | (simp only [hji14] at H ⊢; exact H)
    have hji14w : (IntKind.i64.wrap (a0 - 100)) = ji14 := (i64_w _).trans hji14
    by_cases c15 : 0 ≤ (ji14)
    ·rw [if_pos c15] at H
     have c15b0 := eq_true c15
     have c15b1 : decide (0 ≤ (ji14)) = true := decide_eq_true c15
     clear c15
     by_cases c16 : (ji14) ≤ (wrap64 ((ji14) + 1))
     ·rw [if_pos c16] at H
      have c16b0 := eq_true c16
      have c16b1 : decide ((ji14) ≤ (wrap64 ((ji14) + 1))) = true := decide_eq_true c16
      by_cases c17 : (wrap64 ((ji14) + 1)) ≤ 4
      ·rw [if_pos c17] at H
       have c17b0 := eq_true c17
       have c17b1 : decide ((wrap64 ((ji14) + 1)) ≤ 4) = true := decide_eq_true c17
       obtain rfl := Option.some.inj H
       go_enter Tryd.func75,Tryd.ntmps75
       go_wp2
       go_ret
       exact ⟨by first | rfl | (simp; done) | (simp only [← hji14] <;> (first | rfl | simp)) | (simp [*]; done),by repeat (first | exact Drawn0.refl _ | apply Drawn0.step)⟩
      ·rw [if_neg c17] at H
       exact absurd H (by simp)
     ·rw [if_neg c16] at H
      exact absurd H (by simp)
    ·rw [if_neg c15] at H
     exact absurd H (by simp)

end Go.Proofs.YtdfmobcocaijpaaDoor.QFnScripts
