/- What a call of each Go function that FnExactParseRules reaches comes to, as a Lean function: texts of the kit's print, turned by wip/remake.py. No condition beyond what each names. -/
import Derived.Test.YtdfmobcocaijpaaDoorQFnExactParseRulesx4
namespace Go.Proofs.YtdfmobcocaijpaaDoor.QFnExactParseRules
open Go.RowKit Go.Proofs.YtdfmobcocaijpaaDoorW.PrintWords Go.Proofs.YtdfmobcocaijpaaDoorW.PrintLast Go.Proofs.YtdfmobcocaijpaaDoorW.PrintMore
open Go.Proofs.YtdfmobcocaijpaaDoorW.PrintWords renaming pw_below_drewN → QB, below_alloc → QC, below_drew1 → QD, below_size → QH, gate_callee → QI, below_step → QJ
open Go.Proofs.YtdfmobcocaijpaaDoorW.PrintWords.Kd renaming R_alloc → QE, R_drewN → QF, R_drew → QG
open Go.Proofs.YtdfmobcocaijpaaDoorW.PrintWords.Aside0 renaming mk → QK
attribute [local go_sem] max2_int min2_int max_two min_two max_three min_three max_four min_four   -- for this text's walks alone
set_option linter.unusedVariables false
set_option linter.unusedSimpArgs false

/-! ### spec_SplitWords: function 40 -/
def spec_SplitWords.l0 : Nat → ByteArray → Int → List ByteArray → Int → Int → Option (List ByteArray)
 | 0,_,_,_,_,_ => none
 | k + 1,x0,x1,x5,x6,x7 => if x7 ≤ (x0.size : Int) then (if x7 = (x0.size : Int) then (if 0 ≤ x6 then (if x6 ≤ x7 then (if x5.length < 8796093022208 then (spec_SplitWords.l0 k x0 x1 (x5 ++ [x0.extract (x6 : Int).toNat (x7 : Int).toNat]) (wrap64 (x7 + 1)) (wrap64 (x7 + 1))) else (none)) else (none)) else (none)) else (if 0 ≤ x7 then (if x7 < (x0.size : Int) then (if (bt x0 x7) = x1 then (if 0 ≤ x6 then (if x6 ≤ x7 then (if x5.length < 8796093022208 then (spec_SplitWords.l0 k x0 x1 (x5 ++ [x0.extract (x6 : Int).toNat (x7 : Int).toNat]) (wrap64 (x7 + 1)) (wrap64 (x7 + 1))) else (none)) else (none)) else (none)) else (spec_SplitWords.l0 k x0 x1 x5 x6 (wrap64 (x7 + 1)))) else (none)) else (none))) else (some x5)
def spec_SplitWords.f (k : Nat) (a0 : ByteArray) (a1 : Int) : Option (List ByteArray) := spec_SplitWords.l0 k a0 a1 (([] : List ByteArray)) 0 0
theorem spec_SplitWords.mono_l : ∀ k, (∀ y0 y1 y2 y3 y4, LeO (spec_SplitWords.l0 k y0 y1 y2 y3 y4) (spec_SplitWords.l0 (k + 1) y0 y1 y2 y3 y4))
 | 0 => fun _ _ _ _ _ r h => by simp [spec_SplitWords.l0] at h
 | k + 1 => by
  have ih0 := spec_SplitWords.mono_l k
  ·intro y0 y1 y2 y3 y4
   unfold spec_SplitWords.l0
   repeat' first
   | (with_reducible exact ih0 _ _ _ _ _)
   | (with_reducible exact LeO.refl _)
   | (with_reducible exact LeO.none _)
   | (with_reducible refine LeO.ite ?_ ?_)
   | (with_reducible refine LeO.bind ?_ (fun _ => ?_))
   | exact ih0 _ _ _ _ _
   | exact LeO.none _
   | refine LeO.ite ?_ ?_
   | refine LeO.bind ?_ (fun _ => ?_)
theorem spec_SplitWords.mono : ∀ a0 a1 k, LeO (spec_SplitWords.f k a0 a1) (spec_SplitWords.f (k + 1) a0 a1) := by
 intro a0 a1 k
 have ih0 := spec_SplitWords.mono_l k
 unfold spec_SplitWords.f
 repeat' first
   | (with_reducible exact ih0 _ _ _ _ _)
   | (with_reducible exact LeO.refl _)
   | (with_reducible exact LeO.none _)
   | (with_reducible refine LeO.ite ?_ ?_)
   | (with_reducible refine LeO.bind ?_ (fun _ => ?_))
   | exact ih0 _ _ _ _ _
   | exact LeO.none _
   | refine LeO.ite ?_ ?_
   | refine LeO.bind ?_ (fun _ => ?_)
set_option maxHeartbeats 8000000 in
set_option maxRecDepth 100000 in
theorem spec_SplitWords.calls (k : Nat) (a0 : ByteArray) (a1 : Int) (r : List ByteArray) (w : World) (h : spec_SplitWords.f k a0 a1 = some r) :
  Calls Tryd.prog 40 #[.string a0,.int .u8 a1] w fun e w' => ∃ v0_ : Value,e = .returned (v0_) ∧ Kd.R Kd.string 9 w' w.heap.size (fun _ => True) v0_ r ∧ Below w.heap.size w w' := by
 have HB := QK (Below.refl w.heap.size w)
 have H : (spec_SplitWords.l0 k a0 a1 (([] : List ByteArray)) 0 0) = some r := h
 clear h
 obtain ⟨y341,hy341⟩ : ∃ y_ : List ByteArray,y_ = (([] : List ByteArray)) := ⟨_,rfl⟩
 replace H : (spec_SplitWords.l0 k a0 a1 y341 0 0) = some r := by first | (rw [hy341]; with_reducible exact H) | (have H2_ := (Option.bind_some _ _).symm.trans H; rw [hy341]; with_reducible exact H2_) | (have H2_ := (Option.bind_some _ _).symm.trans H; with_reducible exact H2_) | with_reducible exact H | (rw [hy341]; exact H) | exact H
 have Ny341 := QK hy341
 clear hy341
 have H' := QK H
 clear H
 go_enter Tryd.func40,Tryd.ntmps40
 go_wp2_with (first | ((with_reducible refine gate_dst (N := 8) rfl ?_); refine Kd.R_lit Kd.string _ 9 ?hg (N := 8) ?hd (xs := ([] : List ByteArray)) (inner := []) (ok := fun _ => True) (okp := fun _ => True) ?hr ?hp (fun _ hk => hk) trivial (Below.refl _ _) (Nat.le_refl _) (by simp) ?_; (case hd => rfl); (case hg => rfl); (case hr => first | (go_simp; done) | (go_simp; rfl)); (case hp => exact (Reps.none _ _)); intro v342 w3 ho4 hb hg_ hnew_; clear hg_ hnew_; (first | rw [← Ny341.out] at ho4 | (simp only [Int.reduceToNat] at ho4; rw [← Ny341.out] at ho4)); have n0_ := QK (Kd.R_lower ho4 (QH (by repeat (first | (with_reducible first | exact HB.out | apply QC | apply QB | apply QD) | exact HB.out)))); have n1_ := QK (QJ (by repeat (first | (with_reducible first | exact HB.out | apply QC | apply QB | apply QD) | exact HB.out)) hb); clear HB; revert n0_ n1_; intro HO343 HB; clear hb ho4))
 go_loopg [5,6,7] k (fun kq v5 v6 v7 w' => ∃ (x5_1 : List ByteArray) (x6_1 : Int) (x7_1 : Int),v6 = .int .i64 x6_1 ∧ v7 = .int .i64 x7_1 ∧ Aside0 (spec_SplitWords.l0 kq a0 a1 x5_1 x6_1 x7_1 = some r) ∧ Aside0 (kq ≤ k) ∧ Aside0 (Kd.R Kd.string 9 w' w.heap.size (fun _ => True) v5 x5_1) ∧ Aside0 (Below w.heap.size w w'))
 case atStart => exact ⟨(y341),(0),(0),(by first | rfl | (simp; done) | (simp [*]; done)),(by first | rfl | (simp; done) | (simp [*]; done)),H',⟨Nat.le_refl _⟩,⟨by (with_reducible repeat (first | apply QE | apply QF | apply QG)); exact HO343.out⟩,⟨by repeat (first | (with_reducible first | exact HB.out | apply QC | apply QB | apply QD) | exact HB.out)⟩⟩
 case round =>
  clear H'
  try clear p2
  try clear c4
  obtain ⟨x5_1,x6_1,x7_1,rfl,rfl,HA,HK1,HO_5,HB⟩ := hrel
  cases gk with
  | zero => exact absurd HA.out (by simp [spec_SplitWords.l0])
  | succ k1 =>
   have H := HA.out
   clear HA
   simp only [spec_SplitWords.l0] at H
   by_cases c5 : x7_1 ≤ (a0.size : Int)
   ·rw [if_pos c5] at H
    have c5b0 : decide (x7_1 ≤ (a0.size : Int)) = true := decide_eq_true c5
    clear c5
    by_cases c6 : x7_1 = (a0.size : Int)
    ·rw [if_pos c6] at H
     have c6b0 : (x7_1 == (a0.size : Int)) = true := beq_iff_eq.mpr c6
     have c6b1 : (x7_1 != (a0.size : Int)) = false := bne_eq_false_iff_eq.mpr c6
     clear c6
     by_cases c7 : 0 ≤ x6_1
     ·rw [if_pos c7] at H
      have c7b0 := eq_true c7
      have c7b1 : decide (0 ≤ x6_1) = true := decide_eq_true c7
      clear c7
      by_cases c8 : x6_1 ≤ x7_1
      ·rw [if_pos c8] at H
       have c8b0 := eq_true c8
       have c8b1 : decide (x6_1 ≤ x7_1) = true := decide_eq_true c8
       clear c8
       have c9b0 := eq_true (of_decide_eq_true (by first | (with_reducible assumption) | assumption) : x7_1 ≤ (a0.size : Int))
       by_cases c10 : x5_1.length < 8796093022208
       ·rw [if_pos c10] at H
        have LMc10 := QK c10
        clear c10
        obtain ⟨y344,hy344⟩ : ∃ y_ : List ByteArray,y_ = (x5_1 ++ [a0.extract (x6_1 : Int).toNat (x7_1 : Int).toNat]) := ⟨_,rfl⟩
        replace H : (spec_SplitWords.l0 k1 a0 a1 y344 (wrap64 (x7_1 + 1)) (wrap64 (x7_1 + 1))) = some r := by first | (rw [hy344]; with_reducible exact H) | (have H2_ := (Option.bind_some _ _).symm.trans H; rw [hy344]; with_reducible exact H2_) | (have H2_ := (Option.bind_some _ _).symm.trans H; with_reducible exact H2_) | with_reducible exact H | (rw [hy344]; exact H) | exact H
        have Ny344 := QK hy344
        clear hy344
        have H' := QK H
        clear H
        go_wp2_with (first | ((with_reducible refine gate_builtin (b := .append) (xs := #[.tmp 26,.tmp 31]) rfl ?_); at_builtin; refine Kd.R_append Kd.string (w0 := w) w.heap.size rfl (.tmp 26) (.tmp 31) 36 9 (.string ⟨#[]⟩) 16 rfl Tryd.underlying36 info9 rfl (by decide) (by omega) u5 x5_1 (a0.extract (x6_1 : Int).toNat (x7_1 : Int).toNat) [.string (a0.extract (x6_1 : Int).toNat (x7_1 : Int).toNat)] (fun _ => True) (fun _ => False) rfl rfl ?aP (fun _ hk => hk.elim) ?aF ?aO ?aB ?aS ?aL ?_; (case aP => exact rfl); (case aB => exact (by repeat (first | (with_reducible first | exact HB.out | apply QC | apply QB | apply QD) | exact HB.out))); (case aF => exact (fun _ _ => trivial)); (case aO => exact (by (with_reducible repeat (first | apply QE | apply QF | apply QG)); exact HO_5.out)); (case aS => exact (QH (by repeat (first | (with_reducible first | exact HB.out | apply QC | apply QB | apply QD) | exact HB.out)))); (case aL => have := LMc10.out; omega); intro v345 w11 ho hb hg hat; rw [← Ny344.out] at ho; have n0_ := QK (hb); have n1_ := QK (ho); clear HB; clear HO_5; revert n0_ n1_; intro HB HO346; clear ho hb hg hat))
        go_roundg k1
        case measure => have := HK1.out; omega
        case rel => exact ⟨(y344),(wrap64 (x7_1 + 1)),(wrap64 (x7_1 + 1)),(by first | rfl | (simp; done) | (simp [*]; done)),(by first | rfl | (simp; done) | (simp [*]; done)),H',⟨by have := HK1.out; omega⟩,⟨by (with_reducible repeat (first | apply QE | apply QF | apply QG)); exact HO346.out⟩,⟨by repeat (first | (with_reducible first | exact HB.out | apply QC | apply QB | apply QD) | exact HB.out)⟩⟩
       ·rw [if_neg c10] at H
        exact absurd H (by simp)
      ·rw [if_neg c8] at H
       exact absurd H (by simp)
     ·rw [if_neg c7] at H
      exact absurd H (by simp)
    ·rw [if_neg c6] at H
     have c6b0 : (x7_1 == (a0.size : Int)) = false := beq_eq_false_iff_ne.mpr c6
     have c6b1 : (x7_1 != (a0.size : Int)) = true := bne_iff_ne.mpr c6
     by_cases c12 : 0 ≤ x7_1
     ·rw [if_pos c12] at H
      have c12b0 : decide (0 ≤ x7_1) = true := decide_eq_true c12
      clear c12
      by_cases c13 : x7_1 < (a0.size : Int)
      ·rw [if_pos c13] at H
       have c13b0 : decide (x7_1 < (a0.size : Int)) = true := decide_eq_true c13
       clear c13
       by_cases c15 : (bt a0 x7_1) = a1
       ·rw [if_pos c15] at H
        have c15b0 : ((bt a0 x7_1) == a1) = true := beq_iff_eq.mpr c15
        have c15b1 : ((bt a0 x7_1) != a1) = false := bne_eq_false_iff_eq.mpr c15
        clear c15
        by_cases c7 : 0 ≤ x6_1
        ·rw [if_pos c7] at H
         have c7b0 := eq_true c7
         have c7b1 : decide (0 ≤ x6_1) = true := decide_eq_true c7
         clear c7
         by_cases c8 : x6_1 ≤ x7_1
         ·rw [if_pos c8] at H
          have c8b0 := eq_true c8
          have c8b1 : decide (x6_1 ≤ x7_1) = true := decide_eq_true c8
          clear c8
          have c18b0 := eq_true (of_decide_eq_true (by first | (with_reducible assumption) | assumption) : x7_1 ≤ (a0.size : Int))
          by_cases c10 : x5_1.length < 8796093022208
          ·rw [if_pos c10] at H
           have LMc10 := QK c10
           clear c10
           obtain ⟨y344,hy344⟩ : ∃ y_ : List ByteArray,y_ = (x5_1 ++ [a0.extract (x6_1 : Int).toNat (x7_1 : Int).toNat]) := ⟨_,rfl⟩
           replace H : (spec_SplitWords.l0 k1 a0 a1 y344 (wrap64 (x7_1 + 1)) (wrap64 (x7_1 + 1))) = some r := by first | (rw [hy344]; with_reducible exact H) | (have H2_ := (Option.bind_some _ _).symm.trans H; rw [hy344]; with_reducible exact H2_) | (have H2_ := (Option.bind_some _ _).symm.trans H; with_reducible exact H2_) | with_reducible exact H | (rw [hy344]; exact H) | exact H
           have Ny344 := QK hy344
           clear hy344
           have H' := QK H
           clear H
           have p14 : 0 ≤ (x7_1 : Int) := of_decide_eq_true (by first | (with_reducible assumption) | assumption)
           have q14 : x7_1 < (a0.size : Int) := of_decide_eq_true (by first | (with_reducible assumption) | assumption)
           have hx14 := bt_at a0 x7_1
           replace p14 := eq_true p14
           replace q14 := eq_true q14
           go_wp2_with (first | ((with_reducible refine gate_builtin (b := .append) (xs := #[.tmp 26,.tmp 31]) rfl ?_); at_builtin; refine Kd.R_append Kd.string (w0 := w) w.heap.size rfl (.tmp 26) (.tmp 31) 36 9 (.string ⟨#[]⟩) 16 rfl Tryd.underlying36 info9 rfl (by decide) (by omega) u5 x5_1 (a0.extract (x6_1 : Int).toNat (x7_1 : Int).toNat) [.string (a0.extract (x6_1 : Int).toNat (x7_1 : Int).toNat)] (fun _ => True) (fun _ => False) rfl rfl ?aP (fun _ hk => hk.elim) ?aF ?aO ?aB ?aS ?aL ?_; (case aP => exact rfl); (case aB => exact (by repeat (first | (with_reducible first | exact HB.out | apply QC | apply QB | apply QD) | exact HB.out))); (case aF => exact (fun _ _ => trivial)); (case aO => exact (by (with_reducible repeat (first | apply QE | apply QF | apply QG)); exact HO_5.out)); (case aS => exact (QH (by repeat (first | (with_reducible first | exact HB.out | apply QC | apply QB | apply QD) | exact HB.out)))); (case aL => have := LMc10.out; omega); intro v348 w20 ho hb hg hat; rw [← Ny344.out] at ho; have n0_ := QK (hb); have n1_ := QK (ho); clear HB; clear HO_5; revert n0_ n1_; intro HB HO349; clear ho hb hg hat))
           go_roundg k1
           case measure => have := HK1.out; omega
           case rel => exact ⟨(y344),(wrap64 (x7_1 + 1)),(wrap64 (x7_1 + 1)),(by first | rfl | (simp; done) | (simp [*]; done)),(by first | rfl | (simp; done) | (simp [*]; done)),H',⟨by have := HK1.out; omega⟩,⟨by (with_reducible repeat (first | apply QE | apply QF | apply QG)); exact HO349.out⟩,⟨by repeat (first | (with_reducible first | exact HB.out | apply QC | apply QB | apply QD) | exact HB.out)⟩⟩
          ·rw [if_neg c10] at H
           exact absurd H (by simp)
         ·rw [if_neg c8] at H
          exact absurd H (by simp)
        ·rw [if_neg c7] at H
         exact absurd H (by simp)
       ·rw [if_neg c15] at H
        have c15b0 : ((bt a0 x7_1) == a1) = false := beq_eq_false_iff_ne.mpr c15
        have c15b1 : ((bt a0 x7_1) != a1) = true := bne_iff_ne.mpr c15
        have H' := QK H
        clear H
        have p14 : 0 ≤ (x7_1 : Int) := of_decide_eq_true (by first | (with_reducible assumption) | assumption)
        have q14 : x7_1 < (a0.size : Int) := of_decide_eq_true (by first | (with_reducible assumption) | assumption)
        have hx14 := bt_at a0 x7_1
        replace p14 := eq_true p14
        replace q14 := eq_true q14
        go_wp2
        go_roundg k1
        case measure => have := HK1.out; omega
        case rel => exact ⟨(x5_1),(x6_1),(wrap64 (x7_1 + 1)),(by first | rfl | (simp; done) | (simp [*]; done)),(by first | rfl | (simp; done) | (simp [*]; done)),H',⟨by have := HK1.out; omega⟩,⟨by (with_reducible repeat (first | apply QE | apply QF | apply QG)); exact HO_5.out⟩,⟨by repeat (first | (with_reducible first | exact HB.out | apply QC | apply QB | apply QD) | exact HB.out)⟩⟩
      ·rw [if_neg c13] at H
       exact absurd H (by simp)
     ·rw [if_neg c12] at H
      exact absurd H (by simp)
   ·rw [if_neg c5] at H
    have c5b0 : decide (x7_1 ≤ (a0.size : Int)) = false := decide_eq_false c5
    clear c5
    obtain rfl := Option.some.inj H
    go_wp2
    go_ret
    exact ⟨_,by first | rfl | (simp [errW_none,errW_some] <;> rfl) | (simp [*,errW_none,errW_some] <;> rfl),by (with_reducible repeat (first | apply QE | apply QF | apply QG)); exact HO_5.out,by repeat (first | (with_reducible first | exact HB.out | apply QC | apply QB | apply QD) | exact HB.out)⟩

/-! ### spec_ValueAfter: function 41 -/
def spec_ValueAfter.f (a0 : ByteArray) (a1 : ByteArray) : Option (ByteArray × Bool) := if (a0.size : Int) ≤ (a1.size : Int) then (some ((⟨#[]⟩ : ByteArray), false)) else (if 0 ≤ (a1.size : Int) then (if (a1.size : Int) ≤ (a0.size : Int) then (if (a0.extract 0 ((a1.size : Int) : Int).toNat).toList = a1.toList then (if (a1.size : Int) < (a0.size : Int) then (if (bt a0 (a1.size : Int)) = 61 then (if 0 ≤ (wrap64 ((a1.size : Int) + 1)) then (if (wrap64 ((a1.size : Int) + 1)) ≤ (a0.size : Int) then (some (a0.extract ((wrap64 ((a1.size : Int) + 1)) : Int).toNat a0.size, true)) else (none)) else (none)) else (some ((⟨#[]⟩ : ByteArray), false))) else (none)) else (some ((⟨#[]⟩ : ByteArray), false))) else (none)) else (none))
set_option maxHeartbeats 8000000 in
set_option maxRecDepth 100000 in
theorem spec_ValueAfter.calls (a0 : ByteArray) (a1 : ByteArray) (r1 : ByteArray) (r2 : Bool) (w : World) (h : spec_ValueAfter.f a0 a1 = some (r1, r2)) :
  Calls Tryd.prog 41 #[.string a0,.string a1] w fun e w' => e = .returned (.tuple #[.string r1,.bool r2]) ∧ Drawn0 w w' := by
 have H : (if (a0.size : Int) ≤ (a1.size : Int) then (some ((⟨#[]⟩ : ByteArray),false)) else (if 0 ≤ (a1.size : Int) then (if (a1.size : Int) ≤ (a0.size : Int) then (if (a0.extract 0 ((a1.size : Int) : Int).toNat).toList = a1.toList then (if (a1.size : Int) < (a0.size : Int) then (if (bt a0 (a1.size : Int)) = 61 then (if 0 ≤ (wrap64 ((a1.size : Int) + 1)) then (if (wrap64 ((a1.size : Int) + 1)) ≤ (a0.size : Int) then (some (a0.extract ((wrap64 ((a1.size : Int) + 1)) : Int).toNat a0.size,true)) else (none)) else (none)) else (some ((⟨#[]⟩ : ByteArray),false))) else (none)) else (some ((⟨#[]⟩ : ByteArray),false))) else (none)) else (none))) = some (r1,r2) := h
 clear h
 by_cases c3 : (a0.size : Int) ≤ (a1.size : Int)
 ·rw [if_pos c3] at H
  have c3b0 : decide ((a0.size : Int) ≤ (a1.size : Int)) = true := decide_eq_true c3
  have c3b1 : decide (a0.size ≤ a1.size) = true := decide_eq_true (Int.ofNat_le.mp c3)
  clear c3
  simp only [Option.some.injEq,Prod.mk.injEq] at H
  obtain ⟨rfl,rfl⟩ := H
  go_enter Tryd.func41,Tryd.ntmps41
  go_wp2
  go_ret2
  exact ⟨by first | rfl | (simp; done) | (simp [*]; done),by repeat (first | exact Drawn0.refl _ | apply Drawn0.step)⟩
 ·rw [if_neg c3] at H
  have c3b0 : decide ((a0.size : Int) ≤ (a1.size : Int)) = false := decide_eq_false c3
  have c3b1 : decide (a0.size ≤ a1.size) = false := decide_eq_false (fun h => c3 (Int.ofNat_le.mpr h))
  clear c3
  by_cases c4 : 0 ≤ (a1.size : Int)
  ·rw [if_pos c4] at H
   have c4b0 := eq_true c4
   have c4b1 : decide (0 ≤ (a1.size : Int)) = true := decide_eq_true c4
   clear c4
   by_cases c5 : (a1.size : Int) ≤ (a0.size : Int)
   ·rw [if_pos c5] at H
    have c5b0 := eq_true c5
    have c5b1 : decide ((a1.size : Int) ≤ (a0.size : Int)) = true := decide_eq_true c5
    clear c5
    by_cases c6 : (a0.extract 0 ((a1.size : Int) : Int).toNat).toList = a1.toList
    ·rw [if_pos c6] at H
     have c6b0 : ((a0.extract 0 ((a1.size : Int) : Int).toNat).toList == a1.toList) = true := beq_iff_eq.mpr c6
     have c6b0_n : ((a0.extract 0 a1.size).toList == a1.toList) = true := c6b0
     have c6b1 : ((a0.extract 0 ((a1.size : Int) : Int).toNat).toList != a1.toList) = false := bne_eq_false_iff_eq.mpr c6
     have c6b1_n : ((a0.extract 0 a1.size).toList != a1.toList) = false := c6b1
     clear c6
     by_cases c7 : (a1.size : Int) < (a0.size : Int)
     ·rw [if_pos c7] at H
      have c7b0 : decide ((a1.size : Int) < (a0.size : Int)) = true := decide_eq_true c7
      have c7b1 : decide (a1.size < a0.size) = true := decide_eq_true (Int.ofNat_lt.mp c7)
      clear c7
      by_cases c9 : (bt a0 (a1.size : Int)) = 61
      ·rw [if_pos c9] at H
       have c9b0 : ((bt a0 (a1.size : Int)) == 61) = true := beq_iff_eq.mpr c9
       have c9b1 : ((bt a0 (a1.size : Int)) != 61) = false := bne_eq_false_iff_eq.mpr c9
       clear c9
       obtain ⟨ji10,hji10⟩ : ∃ j_ : Int,(wrap64 ((a1.size : Int) + 1)) = j_ := ⟨_,rfl⟩
       replace H : (if 0 ≤ (ji10) then (if (ji10) ≤ (a0.size : Int) then (some (a0.extract ((ji10) : Int).toNat a0.size,true)) else (none)) else (none)) = some (r1,r2) := by first | (rw [hji10] at H; exact H) | (simp only [hji10] at H ⊢; exact H)
       have hji10w : (IntKind.i64.wrap ((a1.size : Int) + 1)) = ji10 := (i64_w _).trans hji10
       by_cases c11 : 0 ≤ (ji10)
       ·rw [if_pos c11] at H
        have c11b0 := eq_true c11
        have c11b1 : decide (0 ≤ (ji10)) = true := decide_eq_true c11
        clear c11
        by_cases c12 : (ji10) ≤ (a0.size : Int)
        ·rw [if_pos c12] at H
         have c12b0 := eq_true c12
         have c12b1 : decide ((ji10) ≤ (a0.size : Int)) = true := decide_eq_true c12
         clear c12
         simp only [Option.some.injEq,Prod.mk.injEq] at H
         obtain ⟨rfl,rfl⟩ := H
         have p8 : 0 ≤ ((a1.size : Int) : Int) := of_decide_eq_true (by first | (with_reducible assumption) | assumption)
         have q8 : (a1.size : Int) < (a0.size : Int) := of_decide_eq_true (by first | (with_reducible assumption) | assumption)
         have hx8 := bt_at a0 (a1.size : Int)
         have hx8_n : ∀ h : a1.size < a0.size,((a0[a1.size]'h).toNat : Int) = bt a0 (a1.size : Int) := fun h => bt_at a0 (a1.size : Int) h
         replace p8 := eq_true p8
         replace q8 := eq_true q8
         go_enter Tryd.func41,Tryd.ntmps41
         go_wp2
         go_ret2
         exact ⟨by first | rfl | (simp; done) | (simp only [← hji10] <;> (first | rfl | simp)) | (simp [*]; done),by repeat (first | exact Drawn0.refl _ | apply Drawn0.step)⟩
        ·rw [if_neg c12] at H
         exact absurd H (by simp)
       ·rw [if_neg c11] at H
        exact absurd H (by simp)
      ·rw [if_neg c9] at H
       have c9b0 : ((bt a0 (a1.size : Int)) == 61) = false := beq_eq_false_iff_ne.mpr c9
       have c9b1 : ((bt a0 (a1.size : Int)) != 61) = true := bne_iff_ne.mpr c9
       simp only [Option.some.injEq,Prod.mk.injEq] at H
       obtain ⟨rfl,rfl⟩ := H
       have p8 : 0 ≤ ((a1.size : Int) : Int) := of_decide_eq_true (by first | (with_reducible assumption) | assumption)
       have q8 : (a1.size : Int) < (a0.size : Int) := of_decide_eq_true (by first | (with_reducible assumption) | assumption)
       have hx8 := bt_at a0 (a1.size : Int)
       have hx8_n : ∀ h : a1.size < a0.size,((a0[a1.size]'h).toNat : Int) = bt a0 (a1.size : Int) := fun h => bt_at a0 (a1.size : Int) h
       replace p8 := eq_true p8
       replace q8 := eq_true q8
       go_enter Tryd.func41,Tryd.ntmps41
       go_wp2
       go_ret2
       exact ⟨by first | rfl | (simp; done) | (simp [*]; done),by repeat (first | exact Drawn0.refl _ | apply Drawn0.step)⟩
     ·rw [if_neg c7] at H
      exact absurd H (by simp)
    ·rw [if_neg c6] at H
     have c6b0 : ((a0.extract 0 ((a1.size : Int) : Int).toNat).toList == a1.toList) = false := beq_eq_false_iff_ne.mpr c6
     have c6b0_n : ((a0.extract 0 a1.size).toList == a1.toList) = false := c6b0
     have c6b1 : ((a0.extract 0 ((a1.size : Int) : Int).toNat).toList != a1.toList) = true := bne_iff_ne.mpr c6
     have c6b1_n : ((a0.extract 0 a1.size).toList != a1.toList) = true := c6b1
     simp only [Option.some.injEq,Prod.mk.injEq] at H
     obtain ⟨rfl,rfl⟩ := H
     go_enter Tryd.func41,Tryd.ntmps41
     go_wp2
     go_ret2
     exact ⟨by first | rfl | (simp; done) | (simp [*]; done),by repeat (first | exact Drawn0.refl _ | apply Drawn0.step)⟩
   ·rw [if_neg c5] at H
    exact absurd H (by simp)
  ·rw [if_neg c4] at H
   exact absurd H (by simp)

/-! ### spec_ParseInt: function 42 -/
def spec_ParseInt.l0 : Nat → ByteArray → Int → Int → Option (Int × Bool)
 | 0,_,_,_ => none
 | k + 1,x0,x4,x5 => if x5 < (x0.size : Int) then (if 0 ≤ x5 then ((spec_l1In.f (wrap64 (bt x0 x5)) 48 57).bind fun t351 => (if t351 = true then (spec_ParseInt.l0 k x0 (wrap64 ((wrap64 (10 * x4)) + (((bt x0 x5) - 48) % 256))) (wrap64 (x5 + 1))) else (some (0,false)))) else (none)) else (if x4 > 1000000000000 then (some (0,false)) else ((spec_FormatInt.f k x4).bind fun t352 => (if t352.toList = x0.toList then (some (x4,true)) else (some (0,false)))))
def spec_ParseInt.f (k : Nat) (a0 : ByteArray) : Option (Int × Bool) := (spec_l1In.f (a0.size : Int) 1 13).bind fun t350 => (if t350 = true then (spec_ParseInt.l0 k a0 0 0) else (some (0, false)))
theorem spec_ParseInt.mono_l : ∀ k, (∀ y0 y1 y2, LeO (spec_ParseInt.l0 k y0 y1 y2) (spec_ParseInt.l0 (k + 1) y0 y1 y2))
 | 0 => fun _ _ _ r h => by simp [spec_ParseInt.l0] at h
 | k + 1 => by
  have ih0 := spec_ParseInt.mono_l k
  ·intro y0 y1 y2
   unfold spec_ParseInt.l0
   repeat' first
   | (with_reducible exact ih0 _ _ _)
   | (with_reducible exact spec_FormatInt.mono _ _)
   | (with_reducible exact LeO.refl _)
   | (with_reducible exact LeO.none _)
   | (with_reducible refine LeO.ite ?_ ?_)
   | (with_reducible refine LeO.bind ?_ (fun _ => ?_))
   | exact ih0 _ _ _
   | exact spec_FormatInt.mono _ _
   | exact LeO.none _
   | refine LeO.ite ?_ ?_
   | refine LeO.bind ?_ (fun _ => ?_)
theorem spec_ParseInt.mono : ∀ a0 k, LeO (spec_ParseInt.f k a0) (spec_ParseInt.f (k + 1) a0) := by
 intro a0 k
 have ih0 := spec_ParseInt.mono_l k
 unfold spec_ParseInt.f
 repeat' first
   | (with_reducible exact ih0 _ _ _)
   | (with_reducible exact spec_FormatInt.mono _ _)
   | (with_reducible exact LeO.refl _)
   | (with_reducible exact LeO.none _)
   | (with_reducible refine LeO.ite ?_ ?_)
   | (with_reducible refine LeO.bind ?_ (fun _ => ?_))
   | exact ih0 _ _ _
   | exact spec_FormatInt.mono _ _
   | exact LeO.none _
   | refine LeO.ite ?_ ?_
   | refine LeO.bind ?_ (fun _ => ?_)
set_option maxHeartbeats 8000000 in
set_option maxRecDepth 100000 in
theorem spec_ParseInt.calls (k : Nat) (a0 : ByteArray) (r1 : Int) (r2 : Bool) (w : World) (h : spec_ParseInt.f k a0 = some (r1, r2)) :
  Calls Tryd.prog 42 #[.string a0] w fun e w' => e = .returned (.tuple #[.int .i64 r1,.bool r2]) ∧ Below w.heap.size w w' := by
 have HB := QK (Below.refl w.heap.size w)
 have H : ((spec_l1In.f (a0.size : Int) 1 13).bind fun t350 => (if t350 = true then (spec_ParseInt.l0 k a0 0 0) else (some (0,false)))) = some (r1,r2) := h
 clear h
 replace H := Option.bind_eq_some_iff.mp H
 obtain ⟨t350,A20,H⟩ := H
 replace H : (if t350 = true then (spec_ParseInt.l0 k a0 0 0) else (some (0,false))) = some (r1,r2) := H
 have A2 := QK A20
 clear A20
 by_cases c3 : t350 = true
 ·subst c3
  have H1 : (spec_ParseInt.l0 k a0 0 0) = some (r1,r2) := by rw [if_pos rfl] at H; exact H
  clear H
  have H := H1
  clear H1
  have H' := QK H
  clear H
  go_enter Tryd.func42,Tryd.ntmps42
  go_wp2_with (first | ((with_reducible refine QI (f := 66) rfl ?_); refine goesL_ (some 8) rfl rfl Tryd.func66 (by kernel_rfl) rfl #[.int .i64 (a0.size : Int),.int .i64 1,.int .i64 13] rfl (by (try simp only [List.map_toArray,List.map_cons,List.map_nil]); first | done | rfl | (simp only [List.length_drop,List.length_take]; rfl)) ?_; (with_reducible refine (spec_l1In.calls (a0.size : Int) 1 13 true _ A2.out).mono ?_); rintro e w' ⟨rfl,⟨nd,rfl⟩⟩; refine ⟨_,rfl,?_⟩))
  go_loopg [4,5] k (fun kq v4 v5 w' => ∃ (x4_1 : Int) (x5_1 : Int),v4 = .int .i64 x4_1 ∧ v5 = .int .i64 x5_1 ∧ Aside0 (spec_ParseInt.l0 kq a0 x4_1 x5_1 = some (r1,r2)) ∧ Aside0 (kq ≤ k) ∧ Aside0 (Below w.heap.size w w'))
  case atStart => exact ⟨(0),(0),(by first | rfl | (simp; done) | (simp [*]; done)),(by first | rfl | (simp; done) | (simp [*]; done)),H',⟨Nat.le_refl _⟩,⟨by repeat (first | (with_reducible first | exact HB.out | apply QC | apply QB | apply QD) | exact HB.out)⟩⟩
  case round =>
   clear H'
   try clear p2
   try clear c3
   obtain ⟨x4_1,x5_1,rfl,rfl,HA,HK1,HB⟩ := hrel
   cases gk with
   | zero => exact absurd HA.out (by simp [spec_ParseInt.l0])
   | succ k1 =>
    have H := HA.out
    clear HA
    simp only [spec_ParseInt.l0] at H
    by_cases c4 : x5_1 < (a0.size : Int)
    ·rw [if_pos c4] at H
     have c4b0 : decide (x5_1 < (a0.size : Int)) = true := decide_eq_true c4
     clear c4
     by_cases c5 : 0 ≤ x5_1
     ·rw [if_pos c5] at H
      have c5b0 : decide (0 ≤ x5_1) = true := decide_eq_true c5
      clear c5
      replace H := Option.bind_eq_some_iff.mp H
      obtain ⟨t351,A70,H⟩ := H
      replace H : (if t351 = true then (spec_ParseInt.l0 k1 a0 (wrap64 ((wrap64 (10 * x4_1)) + (((bt a0 x5_1) - 48) % 256))) (wrap64 (x5_1 + 1))) else (some (0,false))) = some (r1,r2) := H
      have A7 := QK A70
      clear A70
      by_cases c8 : t351 = true
      ·subst c8
       have H1 : (spec_ParseInt.l0 k1 a0 (wrap64 ((wrap64 (10 * x4_1)) + (((bt a0 x5_1) - 48) % 256))) (wrap64 (x5_1 + 1))) = some (r1,r2) := by rw [if_pos rfl] at H; exact H
       clear H
       have H := H1
       clear H1
       have H' := QK H
       clear H
       have p6 : 0 ≤ (x5_1 : Int) := of_decide_eq_true (by first | (with_reducible assumption) | assumption)
       have q6 : x5_1 < (a0.size : Int) := of_decide_eq_true (by first | (with_reducible assumption) | assumption)
       have hx6 := bt_at a0 x5_1
       replace p6 := eq_true p6
       replace q6 := eq_true q6
       go_wp2_with (first | ((with_reducible refine QI (f := 66) rfl ?_); refine goesL_ (some 20) rfl rfl Tryd.func66 (by kernel_rfl) rfl #[.int .i64 (wrap64 (bt a0 x5_1)),.int .i64 48,.int .i64 57] rfl (by (try simp only [List.map_toArray,List.map_cons,List.map_nil]); first | done | rfl | (simp only [List.length_drop,List.length_take]; rfl)) ?_; (with_reducible refine (spec_l1In.calls (wrap64 (bt a0 x5_1)) 48 57 true _ A7.out).mono ?_); rintro e w' ⟨rfl,⟨nd,rfl⟩⟩; refine ⟨_,rfl,?_⟩; have p9 : 0 ≤ (x5_1 : Int) := of_decide_eq_true (by first | (with_reducible assumption) | assumption); have q9 : x5_1 < (a0.size : Int) := of_decide_eq_true (by first | (with_reducible assumption) | assumption); have hx9 := bt_at a0 x5_1; replace p9 := eq_true p9; replace q9 := eq_true q9))
       go_roundg k1
       case measure => have := HK1.out; omega
       case rel => exact ⟨(wrap64 ((wrap64 (10 * x4_1)) + (((bt a0 x5_1) - 48) % 256))),(wrap64 (x5_1 + 1)),(by first | rfl | (simp; done) | (simp [*]; done)),(by first | rfl | (simp; done) | (simp [*]; done)),H',⟨by have := HK1.out; omega⟩,⟨by repeat (first | (with_reducible first | exact HB.out | apply QC | apply QB | apply QD) | exact HB.out)⟩⟩
      ·replace c8 := Bool.eq_false_iff.mpr c8
       subst c8
       have H1 : (some (0,false)) = some (r1,r2) := by rw [if_neg (show ¬ (false = true) by decide)] at H; exact H
       clear H
       have H := H1
       clear H1
       simp only [Option.some.injEq,Prod.mk.injEq] at H
       obtain ⟨rfl,rfl⟩ := H
       have p6 : 0 ≤ (x5_1 : Int) := of_decide_eq_true (by first | (with_reducible assumption) | assumption)
       have q6 : x5_1 < (a0.size : Int) := of_decide_eq_true (by first | (with_reducible assumption) | assumption)
       have hx6 := bt_at a0 x5_1
       replace p6 := eq_true p6
       replace q6 := eq_true q6
       go_wp2_with (first | ((with_reducible refine QI (f := 66) rfl ?_); refine goesL_ (some 20) rfl rfl Tryd.func66 (by kernel_rfl) rfl #[.int .i64 (wrap64 (bt a0 x5_1)),.int .i64 48,.int .i64 57] rfl (by (try simp only [List.map_toArray,List.map_cons,List.map_nil]); first | done | rfl | (simp only [List.length_drop,List.length_take]; rfl)) ?_; (with_reducible refine (spec_l1In.calls (wrap64 (bt a0 x5_1)) 48 57 false _ A7.out).mono ?_); rintro e w' ⟨rfl,⟨nd,rfl⟩⟩; refine ⟨_,rfl,?_⟩))
       go_ret2
       exact ⟨by first | rfl | (simp [errW_none,errW_some] <;> rfl) | (simp [*,errW_none,errW_some] <;> rfl),by repeat (first | (with_reducible first | exact HB.out | apply QC | apply QB | apply QD) | exact HB.out)⟩
     ·rw [if_neg c5] at H
      exact absurd H (by simp)
    ·rw [if_neg c4] at H
     have c4b0 : decide (x5_1 < (a0.size : Int)) = false := decide_eq_false c4
     clear c4
     by_cases c10 : x4_1 > 1000000000000
     ·rw [if_pos c10] at H
      have c10b0 : decide (1000000000000 < x4_1) = true := decide_eq_true c10
      clear c10
      simp only [Option.some.injEq,Prod.mk.injEq] at H
      obtain ⟨rfl,rfl⟩ := H
      go_wp2
      go_ret2
      exact ⟨by first | rfl | (simp [errW_none,errW_some] <;> rfl) | (simp [*,errW_none,errW_some] <;> rfl),by repeat (first | (with_reducible first | exact HB.out | apply QC | apply QB | apply QD) | exact HB.out)⟩
     ·rw [if_neg c10] at H
      have c10b0 : decide (1000000000000 < x4_1) = false := decide_eq_false c10
      clear c10
      replace H := Option.bind_eq_some_iff.mp H
      obtain ⟨t352,A110,H⟩ := H
      replace H : (if t352.toList = a0.toList then (some (x4_1,true)) else (some (0,false))) = some (r1,r2) := H
      have A11 := QK A110
      clear A110
      by_cases c12 : t352.toList = a0.toList
      ·rw [if_pos c12] at H
       have c12b0 : (t352.toList == a0.toList) = true := beq_iff_eq.mpr c12
       have c12b1 : (t352.toList != a0.toList) = false := bne_eq_false_iff_eq.mpr c12
       clear c12
       simp only [Option.some.injEq,Prod.mk.injEq] at H
       obtain ⟨rfl,rfl⟩ := H
       go_wp2_with (first | (go_at_call 49; (with_reducible refine (spec_FormatInt.calls k1 x4_1 t352 _ A11.out).mono ?_); rintro e w13 ⟨rfl,hb⟩; have n0_ := QK (QJ (by repeat (first | (with_reducible first | exact HB.out | apply QC | apply QB | apply QD) | exact HB.out)) hb); clear HB; revert n0_; intro HB; (try clear hb); (try clear hb2); (try clear hk); (try clear hi)))
       go_ret2
       exact ⟨by first | rfl | (simp [errW_none,errW_some] <;> rfl) | (simp [*,errW_none,errW_some] <;> rfl),by repeat (first | (with_reducible first | exact HB.out | apply QC | apply QB | apply QD) | exact HB.out)⟩
      ·rw [if_neg c12] at H
       have c12b0 : (t352.toList == a0.toList) = false := beq_eq_false_iff_ne.mpr c12
       have c12b1 : (t352.toList != a0.toList) = true := bne_iff_ne.mpr c12
       simp only [Option.some.injEq,Prod.mk.injEq] at H
       obtain ⟨rfl,rfl⟩ := H
       go_wp2_with (first | (go_at_call 49; (with_reducible refine (spec_FormatInt.calls k1 x4_1 t352 _ A11.out).mono ?_); rintro e w14 ⟨rfl,hb⟩; have n0_ := QK (QJ (by repeat (first | (with_reducible first | exact HB.out | apply QC | apply QB | apply QD) | exact HB.out)) hb); clear HB; revert n0_; intro HB; (try clear hb); (try clear hb2); (try clear hk); (try clear hi)))
       go_ret2
       exact ⟨by first | rfl | (simp [errW_none,errW_some] <;> rfl) | (simp [*,errW_none,errW_some] <;> rfl),by repeat (first | (with_reducible first | exact HB.out | apply QC | apply QB | apply QD) | exact HB.out)⟩
 ·replace c3 := Bool.eq_false_iff.mpr c3
  subst c3
  have H1 : (some (0,false)) = some (r1,r2) := by rw [if_neg (show ¬ (false = true) by decide)] at H; exact H
  clear H
  have H := H1
  clear H1
  simp only [Option.some.injEq,Prod.mk.injEq] at H
  obtain ⟨rfl,rfl⟩ := H
  go_enter Tryd.func42,Tryd.ntmps42
  go_wp2_with (first | ((with_reducible refine QI (f := 66) rfl ?_); refine goesL_ (some 8) rfl rfl Tryd.func66 (by kernel_rfl) rfl #[.int .i64 (a0.size : Int),.int .i64 1,.int .i64 13] rfl (by (try simp only [List.map_toArray,List.map_cons,List.map_nil]); first | done | rfl | (simp only [List.length_drop,List.length_take]; rfl)) ?_; (with_reducible refine (spec_l1In.calls (a0.size : Int) 1 13 false _ A2.out).mono ?_); rintro e w' ⟨rfl,⟨nd,rfl⟩⟩; refine ⟨_,rfl,?_⟩))
  go_ret2
  exact ⟨by first | rfl | (simp [errW_none,errW_some] <;> rfl) | (simp [*,errW_none,errW_some] <;> rfl),by repeat (first | (with_reducible first | exact HB.out | apply QC | apply QB | apply QD) | exact HB.out)⟩

/-! ### spec_l9At: function 83 -/
def spec_l9At.l0 : Nat → ByteArray → Int → Int → Option (Int)
 | 0,_,_,_ => none
 | k + 1,x0,x1,x5 => if x5 < (x0.size : Int) then (if 0 ≤ x5 then (if (bt x0 x5) = x1 then (some x5) else (spec_l9At.l0 k x0 x1 (wrap64 (x5 + 1)))) else (none)) else (some (-1))
def spec_l9At.f (k : Nat) (a0 : ByteArray) (a1 : Int) : Option (Int) := spec_l9At.l0 k a0 a1 0
theorem spec_l9At.mono_l : ∀ k, (∀ y0 y1 y2, LeO (spec_l9At.l0 k y0 y1 y2) (spec_l9At.l0 (k + 1) y0 y1 y2))
 | 0 => fun _ _ _ r h => by simp [spec_l9At.l0] at h
 | k + 1 => by
  have ih0 := spec_l9At.mono_l k
  ·intro y0 y1 y2
   unfold spec_l9At.l0
   repeat' first
   | (with_reducible exact ih0 _ _ _)
   | (with_reducible exact LeO.refl _)
   | (with_reducible exact LeO.none _)
   | (with_reducible refine LeO.ite ?_ ?_)
   | (with_reducible refine LeO.bind ?_ (fun _ => ?_))
   | exact ih0 _ _ _
   | exact LeO.none _
   | refine LeO.ite ?_ ?_
   | refine LeO.bind ?_ (fun _ => ?_)
theorem spec_l9At.mono : ∀ a0 a1 k, LeO (spec_l9At.f k a0 a1) (spec_l9At.f (k + 1) a0 a1) := by
 intro a0 a1 k
 have ih0 := spec_l9At.mono_l k
 unfold spec_l9At.f
 repeat' first
   | (with_reducible exact ih0 _ _ _)
   | (with_reducible exact LeO.refl _)
   | (with_reducible exact LeO.none _)
   | (with_reducible refine LeO.ite ?_ ?_)
   | (with_reducible refine LeO.bind ?_ (fun _ => ?_))
   | exact ih0 _ _ _
   | exact LeO.none _
   | refine LeO.ite ?_ ?_
   | refine LeO.bind ?_ (fun _ => ?_)
set_option maxHeartbeats 8000000 in
set_option maxRecDepth 100000 in
theorem spec_l9At.calls (k : Nat) (a0 : ByteArray) (a1 : Int) (r : Int) (w : World) (h : spec_l9At.f k a0 a1 = some r) :
  Calls Tryd.prog 83 #[.string a0,.int .u8 a1] w fun e w' => e = .returned (.int .i64 r) ∧ Drawn0 w w' := by
 have H : (spec_l9At.l0 k a0 a1 0) = some r := h
 clear h
 have H' := QK H
 clear H
 go_enter Tryd.func83,Tryd.ntmps83
 go_wp2
 go_loopg [5] k (fun kq v5 w' => ∃ (x5_1 : Int),v5 = .int .i64 x5_1 ∧ Aside0 (spec_l9At.l0 kq a0 a1 x5_1 = some r) ∧ Aside0 (kq ≤ k) ∧ Drawn0 w w')
 case atStart => exact ⟨(0),(by first | rfl | (simp; done) | (simp [*]; done)),H',⟨Nat.le_refl _⟩,by repeat (first | exact Drawn0.refl _ | apply Drawn0.step)⟩
 case round =>
  clear H'
  try clear p2
  obtain ⟨x5_1,rfl,HA,HK1,⟨m1,rfl⟩⟩ := hrel
  cases gk with
  | zero => exact absurd HA.out (by simp [spec_l9At.l0])
  | succ k1 =>
   have H := HA.out
   clear HA
   simp only [spec_l9At.l0] at H
   by_cases c3 : x5_1 < (a0.size : Int)
   ·rw [if_pos c3] at H
    have c3b0 : decide (x5_1 < (a0.size : Int)) = true := decide_eq_true c3
    clear c3
    by_cases c4 : 0 ≤ x5_1
    ·rw [if_pos c4] at H
     have c4b0 : decide (0 ≤ x5_1) = true := decide_eq_true c4
     clear c4
     by_cases c6 : (bt a0 x5_1) = a1
     ·rw [if_pos c6] at H
      have c6b0 : ((bt a0 x5_1) == a1) = true := beq_iff_eq.mpr c6
      have c6b1 : ((bt a0 x5_1) != a1) = false := bne_eq_false_iff_eq.mpr c6
      clear c6
      obtain rfl := Option.some.inj H
      have p5 : 0 ≤ (x5_1 : Int) := of_decide_eq_true (by first | (with_reducible assumption) | assumption)
      have q5 : x5_1 < (a0.size : Int) := of_decide_eq_true (by first | (with_reducible assumption) | assumption)
      have hx5 := bt_at a0 x5_1
      replace p5 := eq_true p5
      replace q5 := eq_true q5
      go_wp2
      go_ret
      exact ⟨by first | rfl | (simp; done) | (simp [*]; done),by repeat (first | exact Drawn0.refl _ | apply Drawn0.step)⟩
     ·rw [if_neg c6] at H
      have c6b0 : ((bt a0 x5_1) == a1) = false := beq_eq_false_iff_ne.mpr c6
      have c6b1 : ((bt a0 x5_1) != a1) = true := bne_iff_ne.mpr c6
      have H' := QK H
      clear H
      have p5 : 0 ≤ (x5_1 : Int) := of_decide_eq_true (by first | (with_reducible assumption) | assumption)
      have q5 : x5_1 < (a0.size : Int) := of_decide_eq_true (by first | (with_reducible assumption) | assumption)
      have hx5 := bt_at a0 x5_1
      replace p5 := eq_true p5
      replace q5 := eq_true q5
      go_wp2
      go_roundg k1
      case measure => have := HK1.out; omega
      case rel => exact ⟨(wrap64 (x5_1 + 1)),(by first | rfl | (simp; done) | (simp [*]; done)),H',⟨by have := HK1.out; omega⟩,by repeat (first | exact Drawn0.refl _ | apply Drawn0.step)⟩
    ·rw [if_neg c4] at H
     exact absurd H (by simp)
   ·rw [if_neg c3] at H
    have c3b0 : decide (x5_1 < (a0.size : Int)) = false := decide_eq_false c3
    clear c3
    obtain rfl := Option.some.inj H
    go_wp2
    go_ret
    exact ⟨by first | rfl | (simp; done) | (simp [*]; done),by repeat (first | exact Drawn0.refl _ | apply Drawn0.step)⟩

/-! ### spec_l9Read: function 67 -/
mutual
def spec_l9Read.j0 : Nat → ByteArray → List Int → Int → Bool → Option (List Int × Int)
 | 0,_,_,_,_ => none
 | k + 1,x0,x8,x9,x64 => if x64 = true then (some (([] : List Int),(-1))) else ((spec_l9Read.f k x0 (wrap64 (x9 + 1))).bind fun bt364 => (if bt364.2 < 0 then (spec_l9Read.j1 k x0 x8 x9 bt364.1 bt364.2 true) else (if bt364.2 ≥ (x0.size : Int) then (spec_l9Read.j1 k x0 x8 x9 bt364.1 bt364.2 true) else (if 0 ≤ bt364.2 then (if bt364.2 < (x0.size : Int) then (spec_l9Read.j1 k x0 x8 x9 bt364.1 bt364.2 ((bt x0 bt364.2) != 41)) else (none)) else (none)))))
def spec_l9Read.j1 : Nat → ByteArray → List Int → Int → List Int → Int → Bool → Option (List Int × Int)
 | 0,_,_,_,_,_,_ => none
 | k + 1,x0,x8,x9,x10,x11,x85 => if x85 = true then (some (([] : List Int),(-1))) else (if 0 ≤ x9 then (if x9 < (x0.size : Int) then (if (bt x0 x9) = 124 then (if x8.length + x10.length < 17592186044416 then ((some (x8 ++ x10 : List Int)).bind fun y368 => (if y368.length < 17592186044416 then (some ((y368 ++ [(-3)]),wrap64 (x11 + 1))) else (none))) else (none)) else (if x8.length + x10.length < 17592186044416 then ((some (x8 ++ x10 : List Int)).bind fun y374 => (if y374.length < 17592186044416 then (some ((y374 ++ [(-2)]),wrap64 (x11 + 1))) else (none))) else (none))) else (none)) else (none))
def spec_l9Read.f : Nat → ByteArray → Int → Option (List Int × Int)
 | 0,_,_ => none
 | k + 1,a0,a1 => if a1 ≥ (a0.size : Int) then (some (([] : List Int),(-1))) else (if 0 ≤ a1 then (if a1 < (a0.size : Int) then (if (bt a0 a1) = 33 then ((spec_l9Read.f k a0 (wrap64 (a1 + 1))).bind fun bt353 => (if bt353.1.length < 17592186044416 then (some ((bt353.1 ++ [(-1)]),bt353.2)) else (none))) else (if (bt a0 a1) = 40 then ((spec_l9Read.f k a0 (wrap64 (a1 + 1))).bind fun bt360 => (if bt360.2 < 0 then (spec_l9Read.j0 k a0 bt360.1 bt360.2 true) else (if bt360.2 ≥ (a0.size : Int) then (spec_l9Read.j0 k a0 bt360.1 bt360.2 true) else (if 0 ≤ bt360.2 then (if bt360.2 < (a0.size : Int) then (if (bt a0 bt360.2) = 38 then (spec_l9Read.j0 k a0 bt360.1 bt360.2 false) else (spec_l9Read.j0 k a0 bt360.1 bt360.2 ((bt a0 bt360.2) != 124))) else (none)) else (none))))) else (if (bt a0 a1) = 114 then (some ((([400] : List Int)),wrap64 (a1 + 1))) else ((spec_l9At.f k (⟨#[99,100,104,115]⟩ : ByteArray) (bt a0 a1)).bind fun t383 => (if t383 ≥ 0 then (some ((([wrap64 (100 + t383)] : List Int)),wrap64 (a1 + 1))) else ((spec_l9At.f k (⟨#[50,51,52,53,54,55,56,57,84,74,81,75,65]⟩ : ByteArray) (bt a0 a1)).bind fun t387 => (if t387 < 0 then (some (([] : List Int),(-1))) else (if (wrap64 (a1 + 1)) < (a0.size : Int) then (if 0 ≤ (wrap64 (a1 + 1)) then (if (bt a0 (wrap64 (a1 + 1))) = 43 then (some ((([wrap64 (300 + t387)] : List Int)),wrap64 (a1 + 2))) else (some ((([wrap64 (200 + t387)] : List Int)),wrap64 (a1 + 1)))) else (none)) else (some ((([wrap64 (200 + t387)] : List Int)),wrap64 (a1 + 1))))))))))) else (none)) else (none))
end
theorem spec_l9Read.mono_l : ∀ k, (∀ y0 y1, LeO (spec_l9Read.f k y0 y1) (spec_l9Read.f (k + 1) y0 y1)) ∧ (∀ y0 y1 y2 y3, LeO (spec_l9Read.j0 k y0 y1 y2 y3) (spec_l9Read.j0 (k + 1) y0 y1 y2 y3)) ∧ (∀ y0 y1 y2 y3 y4 y5, LeO (spec_l9Read.j1 k y0 y1 y2 y3 y4 y5) (spec_l9Read.j1 (k + 1) y0 y1 y2 y3 y4 y5))
 | 0 => ⟨fun _ _ r h => by simp [spec_l9Read.f] at h,fun _ _ _ _ r h => by simp [spec_l9Read.j0] at h,fun _ _ _ _ _ _ r h => by simp [spec_l9Read.j1] at h⟩
 | k + 1 => by
  obtain ⟨ih0,ih1,ih2⟩ := spec_l9Read.mono_l k
  refine ⟨?_,?_,?_⟩
  ·intro y0 y1
   unfold spec_l9Read.f
   repeat' first
   | (with_reducible exact ih0 _ _)
   | (with_reducible exact ih1 _ _ _ _)
   | (with_reducible exact ih2 _ _ _ _ _ _)
   | (with_reducible exact spec_l9At.mono _ _ _)
   | (with_reducible exact LeO.refl _)
   | (with_reducible exact LeO.none _)
   | (with_reducible refine LeO.ite ?_ ?_)
   | (with_reducible refine LeO.bind ?_ (fun _ => ?_))
   | exact ih0 _ _
   | exact ih1 _ _ _ _
   | exact ih2 _ _ _ _ _ _
   | exact spec_l9At.mono _ _ _
   | exact LeO.none _
   | refine LeO.ite ?_ ?_
   | refine LeO.bind ?_ (fun _ => ?_)
  ·intro y0 y1 y2 y3
   unfold spec_l9Read.j0
   repeat' first
   | (with_reducible exact ih0 _ _)
   | (with_reducible exact ih1 _ _ _ _)
   | (with_reducible exact ih2 _ _ _ _ _ _)
   | (with_reducible exact spec_l9At.mono _ _ _)
   | (with_reducible exact LeO.refl _)
   | (with_reducible exact LeO.none _)
   | (with_reducible refine LeO.ite ?_ ?_)
   | (with_reducible refine LeO.bind ?_ (fun _ => ?_))
   | exact ih0 _ _
   | exact ih1 _ _ _ _
   | exact ih2 _ _ _ _ _ _
   | exact spec_l9At.mono _ _ _
   | exact LeO.none _
   | refine LeO.ite ?_ ?_
   | refine LeO.bind ?_ (fun _ => ?_)
  ·intro y0 y1 y2 y3 y4 y5
   unfold spec_l9Read.j1
   repeat' first
   | (with_reducible exact ih0 _ _)
   | (with_reducible exact ih1 _ _ _ _)
   | (with_reducible exact ih2 _ _ _ _ _ _)
   | (with_reducible exact spec_l9At.mono _ _ _)
   | (with_reducible exact LeO.refl _)
   | (with_reducible exact LeO.none _)
   | (with_reducible refine LeO.ite ?_ ?_)
   | (with_reducible refine LeO.bind ?_ (fun _ => ?_))
   | exact ih0 _ _
   | exact ih1 _ _ _ _
   | exact ih2 _ _ _ _ _ _
   | exact spec_l9At.mono _ _ _
   | exact LeO.none _
   | refine LeO.ite ?_ ?_
   | refine LeO.bind ?_ (fun _ => ?_)
theorem spec_l9Read.mono : ∀ a0 a1 k, LeO (spec_l9Read.f k a0 a1) (spec_l9Read.f (k + 1) a0 a1) := by
 intro a0 a1 k
 obtain ⟨ih0,ih1,ih2⟩ := spec_l9Read.mono_l k
 exact ih0 a0 a1
set_option maxHeartbeats 8000000 in
set_option maxRecDepth 100000 in
theorem spec_l9Read.calls (k : Nat) : ∀ (a0 : ByteArray) (a1 : Int) (r1 : List Int) (r2 : Int) (w : World) (h : spec_l9Read.f k a0 a1 = some (r1, r2)),
  Calls Tryd.prog 67 #[.string a0,.int .i64 a1] w fun e w' => ∃ v0_ : Value,e = .returned (.tuple #[v0_,.int .i64 r2]) ∧ Kd.R (Kd.int .i64) 3 w' w.heap.size (fun _ => True) v0_ r1 ∧ Below w.heap.size w w' := by
 induction k using Nat.strongRecOn with
 | _ k ih =>
 intro a0 a1 r1 r2 w h
 cases k with
 | zero => exact absurd h (by simp [spec_l9Read.f])
 | succ k =>
 simp only [spec_l9Read.f] at h
 have HB := QK (Below.refl w.heap.size w)
 have H : (if a1 ≥ (a0.size : Int) then (some (([] : List Int),(-1))) else (if 0 ≤ a1 then (if a1 < (a0.size : Int) then (if (bt a0 a1) = 33 then ((spec_l9Read.f k a0 (wrap64 (a1 + 1))).bind fun bt353 => (if bt353.1.length < 17592186044416 then (some ((bt353.1 ++ [(-1)]),bt353.2)) else (none))) else (if (bt a0 a1) = 40 then ((spec_l9Read.f k a0 (wrap64 (a1 + 1))).bind fun bt360 => (if bt360.2 < 0 then (spec_l9Read.j0 k a0 bt360.1 bt360.2 true) else (if bt360.2 ≥ (a0.size : Int) then (spec_l9Read.j0 k a0 bt360.1 bt360.2 true) else (if 0 ≤ bt360.2 then (if bt360.2 < (a0.size : Int) then (if (bt a0 bt360.2) = 38 then (spec_l9Read.j0 k a0 bt360.1 bt360.2 false) else (spec_l9Read.j0 k a0 bt360.1 bt360.2 ((bt a0 bt360.2) != 124))) else (none)) else (none))))) else (if (bt a0 a1) = 114 then (some ((([400] : List Int)),wrap64 (a1 + 1))) else ((spec_l9At.f k (⟨#[99,100,104,115]⟩ : ByteArray) (bt a0 a1)).bind fun t383 => (if t383 ≥ 0 then (some ((([wrap64 (100 + t383)] : List Int)),wrap64 (a1 + 1))) else ((spec_l9At.f k (⟨#[50,51,52,53,54,55,56,57,84,74,81,75,65]⟩ : ByteArray) (bt a0 a1)).bind fun t387 => (if t387 < 0 then (some (([] : List Int),(-1))) else (if (wrap64 (a1 + 1)) < (a0.size : Int) then (if 0 ≤ (wrap64 (a1 + 1)) then (if (bt a0 (wrap64 (a1 + 1))) = 43 then (some ((([wrap64 (300 + t387)] : List Int)),wrap64 (a1 + 2))) else (some ((([wrap64 (200 + t387)] : List Int)),wrap64 (a1 + 1)))) else (none)) else (some ((([wrap64 (200 + t387)] : List Int)),wrap64 (a1 + 1))))))))))) else (none)) else (none))) = some (r1,r2) := h
 clear h
 by_cases c3 : a1 ≥ (a0.size : Int)
 ·rw [if_pos c3] at H
  have c3b0 : decide ((a0.size : Int) ≤ a1) = true := decide_eq_true c3
  clear c3
  simp only [Option.some.injEq,Prod.mk.injEq] at H
  obtain ⟨rfl,rfl⟩ := H
  go_enter Tryd.func67,Tryd.ntmps67
  go_wp2
  go_ret2
  exact ⟨_,by first | rfl | (simp [errW_none,errW_some] <;> rfl) | (simp [*,errW_none,errW_some] <;> rfl),by first | exact Kd.R_nil _ _ _ _ _ | exact Kd.N_nil _ _ _ _ _ | exact Kd.V_nil _ _ _ _ _ | exact Kd.Q_nil _ _ _ _ _ | exact Kd.S_nil _ _ _ _ _,by repeat (first | (with_reducible first | exact HB.out | apply QC | apply QB | apply QD) | exact HB.out)⟩
 ·rw [if_neg c3] at H
  have c3b0 : decide ((a0.size : Int) ≤ a1) = false := decide_eq_false c3
  clear c3
  by_cases c4 : 0 ≤ a1
  ·rw [if_pos c4] at H
   have c4b0 : decide (0 ≤ a1) = true := decide_eq_true c4
   clear c4
   by_cases c5 : a1 < (a0.size : Int)
   ·rw [if_pos c5] at H
    have c5b0 : decide (a1 < (a0.size : Int)) = true := decide_eq_true c5
    clear c5
    by_cases c7 : (bt a0 a1) = 33
    ·rw [if_pos c7] at H
     have c7b0 : ((bt a0 a1) == 33) = true := beq_iff_eq.mpr c7
     have c7b1 : ((bt a0 a1) != 33) = false := bne_eq_false_iff_eq.mpr c7
     clear c7
     replace H := Option.bind_eq_some_iff.mp H
     obtain ⟨⟨t353,t354⟩,A80,H⟩ := H
     replace H : (if t353.length < 17592186044416 then (some ((t353 ++ [(-1)]),t354)) else (none)) = some (r1,r2) := H
     have A8 := QK A80
     clear A80
     by_cases c9 : t353.length < 17592186044416
     ·rw [if_pos c9] at H
      have LMc9 := QK c9
      clear c9
      obtain ⟨y357,hy357⟩ : ∃ y_ : List Int,y_ = (t353 ++ [(-1)]) := ⟨_,rfl⟩
      replace H : (some (y357,t354)) = some (r1,r2) := by first | (rw [hy357]; with_reducible exact H) | (have H2_ := (Option.bind_some _ _).symm.trans H; rw [hy357]; with_reducible exact H2_) | (have H2_ := (Option.bind_some _ _).symm.trans H; with_reducible exact H2_) | with_reducible exact H | (rw [hy357]; exact H) | exact H
      have Ny357 := QK hy357
      clear hy357
      simp only [Option.some.injEq,Prod.mk.injEq] at H
      obtain ⟨rfl,rfl⟩ := H
      have p6 : 0 ≤ (a1 : Int) := of_decide_eq_true (by first | (with_reducible assumption) | assumption)
      have q6 : a1 < (a0.size : Int) := of_decide_eq_true (by first | (with_reducible assumption) | assumption)
      have hx6 := bt_at a0 a1
      replace p6 := eq_true p6
      replace q6 := eq_true q6
      go_enter Tryd.func67,Tryd.ntmps67
      go_wp2_with (first | ((with_reducible refine QI (f := 67) rfl ?_); refine goesL_ (some 27) rfl rfl Tryd.func67 (by kernel_rfl) rfl #[.string a0,.int .i64 (wrap64 (a1 + 1))] rfl (by (try simp only [List.map_toArray,List.map_cons,List.map_nil]); first | done | rfl | (simp only [List.length_drop,List.length_take]; rfl)) ?_; (with_reducible refine (ih k (by omega) a0 (wrap64 (a1 + 1)) t353 t354 _ A8.out).mono ?_); rintro e w10 ⟨v355,rfl,ho0,hb⟩; refine ⟨_,rfl,?_⟩; have n0_ := QK (Kd.R_lower ho0 (QH (by repeat (first | (with_reducible first | exact HB.out | apply QC | apply QB | apply QD) | exact HB.out)))); have n1_ := QK (QJ (by repeat (first | (with_reducible first | exact HB.out | apply QC | apply QB | apply QD) | exact HB.out)) hb); clear HB; revert n0_ n1_; intro HO356 HB; (try clear hb); (try clear hb2); (try clear hk); (try clear hi); (try clear ho0)) | ((with_reducible refine gate_builtin (b := .append) (xs := #[.tmp 30,.tmp 31]) rfl ?_); (try (refine gate_guard (by rfl) ?_; dsimp only)); at_builtin; refine Kd.R_append (Kd.int .i64) (w0 := w) w.heap.size rfl (.tmp 30) (.tmp 31) 24 3 (.int .i64 0) 8 rfl Tryd.underlying24 info3 rfl (by decide) (by omega) v355 t353 (-1) [.int .i64 (-1)] (fun _ => True) (fun _ => False) rfl rfl ?aP (fun _ hk => hk.elim) ?aF ?aO ?aB ?aS ?aL ?_; (case aP => exact rfl); (case aB => exact (by repeat (first | (with_reducible first | exact HB.out | apply QC | apply QB | apply QD) | exact HB.out))); (case aF => exact (fun _ _ => trivial)); (case aO => exact (by (with_reducible repeat (first | apply QE | apply QF | apply QG)); exact HO356.out)); (case aS => exact (QH (by repeat (first | (with_reducible first | exact HB.out | apply QC | apply QB | apply QD) | exact HB.out)))); (case aL => have := LMc9.out; omega); intro v358 w11 ho hb hg hat; rw [← Ny357.out] at ho; have n0_ := QK (hb); have n1_ := QK (ho); clear HB; clear HO356; revert n0_ n1_; intro HB HO359; clear ho hb hg hat))
      go_ret2
      exact ⟨_,by first | rfl | (simp [errW_none,errW_some] <;> rfl) | (simp [*,errW_none,errW_some] <;> rfl),by (with_reducible repeat (first | apply QE | apply QF | apply QG)); exact HO359.out,by repeat (first | (with_reducible first | exact HB.out | apply QC | apply QB | apply QD) | exact HB.out)⟩
     ·rw [if_neg c9] at H
      exact absurd H (by simp)
    ·rw [if_neg c7] at H
     have c7b0 : ((bt a0 a1) == 33) = false := beq_eq_false_iff_ne.mpr c7
     have c7b1 : ((bt a0 a1) != 33) = true := bne_iff_ne.mpr c7
     by_cases c13 : (bt a0 a1) = 40
     ·rw [if_pos c13] at H
      have c13b0 : ((bt a0 a1) == 40) = true := beq_iff_eq.mpr c13
      have c13b1 : ((bt a0 a1) != 40) = false := bne_eq_false_iff_eq.mpr c13
      clear c13
      replace H := Option.bind_eq_some_iff.mp H
      obtain ⟨⟨t360,t361⟩,A140,H⟩ := H
      replace H : (if t361 < 0 then (spec_l9Read.j0 k a0 t360 t361 true) else (if t361 ≥ (a0.size : Int) then (spec_l9Read.j0 k a0 t360 t361 true) else (if 0 ≤ t361 then (if t361 < (a0.size : Int) then (if (bt a0 t361) = 38 then (spec_l9Read.j0 k a0 t360 t361 false) else (spec_l9Read.j0 k a0 t360 t361 ((bt a0 t361) != 124))) else (none)) else (none)))) = some (r1,r2) := H
      have A14 := QK A140
      clear A140
      have HC15 := QK H
      clear H
      have p6 : 0 ≤ (a1 : Int) := of_decide_eq_true (by first | (with_reducible assumption) | assumption)
      have q6 : a1 < (a0.size : Int) := of_decide_eq_true (by first | (with_reducible assumption) | assumption)
      have hx6 := bt_at a0 a1
      replace p6 := eq_true p6
      replace q6 := eq_true q6
      have p12 : 0 ≤ (a1 : Int) := of_decide_eq_true (by first | (with_reducible assumption) | assumption)
      have q12 : a1 < (a0.size : Int) := of_decide_eq_true (by first | (with_reducible assumption) | assumption)
      have hx12 := bt_at a0 a1
      replace p12 := eq_true p12
      replace q12 := eq_true q12
      go_enter Tryd.func67,Tryd.ntmps67
      go_upto_region 8 with (first | ((with_reducible refine QI (f := 67) rfl ?_); refine goesL_ (some 42) rfl rfl Tryd.func67 (by kernel_rfl) rfl #[.string a0,.int .i64 (wrap64 (a1 + 1))] rfl (by (try simp only [List.map_toArray,List.map_cons,List.map_nil]); first | done | rfl | (simp only [List.length_drop,List.length_take]; rfl)) ?_; (with_reducible refine (ih k (by omega) a0 (wrap64 (a1 + 1)) t360 t361 _ A14.out).mono ?_); rintro e w16 ⟨v362,rfl,ho0,hb⟩; refine ⟨_,rfl,?_⟩; have n0_ := QK (Kd.R_lower ho0 (QH (by repeat (first | (with_reducible first | exact HB.out | apply QC | apply QB | apply QD) | exact HB.out)))); have n1_ := QK (QJ (by repeat (first | (with_reducible first | exact HB.out | apply QC | apply QB | apply QD) | exact HB.out)) hb); clear HB; revert n0_ n1_; intro HO363 HB; (try clear hb); (try clear hb2); (try clear hk); (try clear hi); (try clear ho0)))
      (try simp only [Act.put,List.setIfInBounds_toArray,List.set_cons_zero,List.set_cons_succ])
      go_cut [64] (fun v64 wc => ∃ (kq : Nat) (x64_14 : Bool),v64 = .bool x64_14 ∧ Aside0 (spec_l9Read.j0 kq a0 t360 t361 x64_14 = some (r1,r2)) ∧ Aside0 (kq ≤ k) ∧ Aside0 (Kd.R (Kd.int .i64) 3 wc w.heap.size (fun _ => True) v362 t360) ∧ Aside0 (Below w.heap.size w wc))
      case first =>
       have H := HC15.out
       clear HC15
       by_cases c17 : t361 < 0
       ·rw [if_pos c17] at H
        have c17b0 : decide (t361 < 0) = true := decide_eq_true c17
        clear c17
        (first | rw [c17b0] | (simp only [i64_w,i32_w]; rw [c17b0]) | skip)
        have H' := QK H
        clear H
        go_wp2
        go_meet
        case rel => exact ⟨_,(true),(by first | rfl | (simp; done) | (simp [*]; done)),H',⟨by first | omega | exact Nat.le_refl _⟩,⟨by (with_reducible repeat (first | apply QE | apply QF | apply QG)); exact HO363.out⟩,⟨by repeat (first | (with_reducible first | exact HB.out | apply QC | apply QB | apply QD) | exact HB.out)⟩⟩
       ·rw [if_neg c17] at H
        have c17b0 : decide (t361 < 0) = false := decide_eq_false c17
        clear c17
        (first | rw [c17b0] | (simp only [i64_w,i32_w]; rw [c17b0]) | skip)
        by_cases c18 : t361 ≥ (a0.size : Int)
        ·rw [if_pos c18] at H
         have c18b0 : decide ((a0.size : Int) ≤ t361) = true := decide_eq_true c18
         clear c18
         have H' := QK H
         clear H
         go_wp2
         go_meet
         case rel => exact ⟨_,(true),(by first | rfl | (simp; done) | (simp [*]; done)),H',⟨by first | omega | exact Nat.le_refl _⟩,⟨by (with_reducible repeat (first | apply QE | apply QF | apply QG)); exact HO363.out⟩,⟨by repeat (first | (with_reducible first | exact HB.out | apply QC | apply QB | apply QD) | exact HB.out)⟩⟩
        ·rw [if_neg c18] at H
         have c18b0 : decide ((a0.size : Int) ≤ t361) = false := decide_eq_false c18
         clear c18
         by_cases c19 : 0 ≤ t361
         ·rw [if_pos c19] at H
          have c19b0 : decide (0 ≤ t361) = true := decide_eq_true c19
          clear c19
          by_cases c20 : t361 < (a0.size : Int)
          ·rw [if_pos c20] at H
           have c20b0 : decide (t361 < (a0.size : Int)) = true := decide_eq_true c20
           clear c20
           have p21 : 0 ≤ (t361 : Int) := of_decide_eq_true (by first | (with_reducible assumption) | assumption)
           have q21 : t361 < (a0.size : Int) := of_decide_eq_true (by first | (with_reducible assumption) | assumption)
           have hx21 := bt_at a0 t361
           replace p21 := eq_true p21
           replace q21 := eq_true q21
           by_cases c22 : (bt a0 t361) = 38
           ·rw [if_pos c22] at H
            have c22b0 : ((bt a0 t361) == 38) = true := beq_iff_eq.mpr c22
            have c22b1 : ((bt a0 t361) != 38) = false := bne_eq_false_iff_eq.mpr c22
            clear c22
            have H' := QK H
            clear H
            (try simp only [c22b0,c22b1])
            go_wp2
            go_meet
            case rel => exact ⟨_,(false),(by first | rfl | (simp; done) | (simp [*]; done)),H',⟨by first | omega | exact Nat.le_refl _⟩,⟨by (with_reducible repeat (first | apply QE | apply QF | apply QG)); exact HO363.out⟩,⟨by repeat (first | (with_reducible first | exact HB.out | apply QC | apply QB | apply QD) | exact HB.out)⟩⟩
           ·rw [if_neg c22] at H
            have c22b0 : ((bt a0 t361) == 38) = false := beq_eq_false_iff_ne.mpr c22
            have c22b1 : ((bt a0 t361) != 38) = true := bne_iff_ne.mpr c22
            have H' := QK H
            clear H
            (try simp only [c22b0,c22b1])
            have p23 : 0 ≤ (t361 : Int) := of_decide_eq_true (by first | (with_reducible assumption) | assumption)
            have q23 : t361 < (a0.size : Int) := of_decide_eq_true (by first | (with_reducible assumption) | assumption)
            have hx23 := bt_at a0 t361
            replace p23 := eq_true p23
            replace q23 := eq_true q23
            go_wp2
            go_meet
            case rel => exact ⟨_,(((bt a0 t361) != 124)),(by first | rfl | (simp; done) | (simp [*]; done)),H',⟨by first | omega | exact Nat.le_refl _⟩,⟨by (with_reducible repeat (first | apply QE | apply QF | apply QG)); exact HO363.out⟩,⟨by repeat (first | (with_reducible first | exact HB.out | apply QC | apply QB | apply QD) | exact HB.out)⟩⟩
          ·rw [if_neg c20] at H
           exact absurd H (by simp)
         ·rw [if_neg c19] at H
          exact absurd H (by simp)
      case rest =>
       clear HC15
       try clear c1
       try clear p1
       try clear q1
       try clear hx1
       try clear c2
       try clear p2
       try clear q2
       try clear hx2
       try clear c3
       try clear c3b0
       try clear c4
       try clear c4b0
       try clear c5
       try clear c5b0
       try clear c6
       try clear p6
       try clear q6
       try clear hx6
       try clear c7
       try clear c7b0
       try clear c7b1
       try clear c9
       try clear p12
       try clear q12
       try clear hx12
       try clear c13
       try clear c13b0
       try clear c13b1
       try clear c17
       try clear c17b0
       try clear c18
       try clear c18b0
       try clear c19
       try clear c19b0
       try clear c20
       try clear c20b0
       try clear p21
       try clear q21
       try clear hx21
       try clear c22
       try clear c22b0
       try clear c22b1
       try clear p23
       try clear q23
       try clear hx23
       try clear p12
       try clear p21
       try clear p23
       try clear p6
       try clear q12
       try clear q21
       try clear q23
       try clear q6
       obtain ⟨kq,x64_14,rfl,HA,HJ14,HO_8,HB⟩ := hcut
       cases kq with
       | zero => exact absurd HA.out (by simp [spec_l9Read.j0])
       | succ kj14 =>
        have H := HA.out
        clear HA
        simp only [spec_l9Read.j0] at H
        by_cases c24 : x64_14 = true
        ·subst c24
         have H1 : (some (([] : List Int),(-1))) = some (r1,r2) := by rw [if_pos rfl] at H; exact H
         clear H
         have H := H1
         clear H1
         simp only [Option.some.injEq,Prod.mk.injEq] at H
         obtain ⟨rfl,rfl⟩ := H
         go_wp2
         go_ret2
         exact ⟨_,by first | rfl | (simp [errW_none,errW_some] <;> rfl) | (simp [*,errW_none,errW_some] <;> rfl),by first | exact Kd.R_nil _ _ _ _ _ | exact Kd.N_nil _ _ _ _ _ | exact Kd.V_nil _ _ _ _ _ | exact Kd.Q_nil _ _ _ _ _ | exact Kd.S_nil _ _ _ _ _,by repeat (first | (with_reducible first | exact HB.out | apply QC | apply QB | apply QD) | exact HB.out)⟩
        ·replace c24 := Bool.eq_false_iff.mpr c24
         subst c24
         have H1 : ((spec_l9Read.f kj14 a0 (wrap64 (t361 + 1))).bind fun bt364 => (if bt364.2 < 0 then (spec_l9Read.j1 kj14 a0 t360 t361 bt364.1 bt364.2 true) else (if bt364.2 ≥ (a0.size : Int) then (spec_l9Read.j1 kj14 a0 t360 t361 bt364.1 bt364.2 true) else (if 0 ≤ bt364.2 then (if bt364.2 < (a0.size : Int) then (spec_l9Read.j1 kj14 a0 t360 t361 bt364.1 bt364.2 ((bt a0 bt364.2) != 41)) else (none)) else (none))))) = some (r1,r2) := by rw [if_neg (show ¬ (false = true) by decide)] at H; exact H
         clear H
         have H := H1
         clear H1
         replace H := Option.bind_eq_some_iff.mp H
         obtain ⟨⟨t364,t365⟩,A250,H⟩ := H
         replace H : (if t365 < 0 then (spec_l9Read.j1 kj14 a0 t360 t361 t364 t365 true) else (if t365 ≥ (a0.size : Int) then (spec_l9Read.j1 kj14 a0 t360 t361 t364 t365 true) else (if 0 ≤ t365 then (if t365 < (a0.size : Int) then (spec_l9Read.j1 kj14 a0 t360 t361 t364 t365 ((bt a0 t365) != 41)) else (none)) else (none)))) = some (r1,r2) := H
         have A25 := QK A250
         clear A250
         have HC26 := QK H
         clear H
         go_upto_region 11 with (first | ((with_reducible refine QI (f := 67) rfl ?_); refine goesL_ (some 69) rfl rfl Tryd.func67 (by kernel_rfl) rfl #[.string a0,.int .i64 (wrap64 (t361 + 1))] rfl (by (try simp only [List.map_toArray,List.map_cons,List.map_nil]); first | done | rfl | (simp only [List.length_drop,List.length_take]; rfl)) ?_; (with_reducible refine (ih kj14 (by have := HJ14.out; omega) a0 (wrap64 (t361 + 1)) t364 t365 _ A25.out).mono ?_); rintro e w27 ⟨v366,rfl,ho0,hb⟩; refine ⟨_,rfl,?_⟩; have n0_ := QK (Kd.R_elder' (by (with_reducible repeat (first | apply QE | apply QF | apply QG)); exact HO_8.out) (Kd.R_base ho0) hb); have n1_ := QK (Kd.R_lower (Kd.R_new' ho0 (Kd.R_lt (by (with_reducible repeat (first | apply QE | apply QF | apply QG)); exact HO_8.out))) (QH (by repeat (first | (with_reducible first | exact HB.out | apply QC | apply QB | apply QD) | exact HB.out)))); have n2_ := QK (QJ (by repeat (first | (with_reducible first | exact HB.out | apply QC | apply QB | apply QD) | exact HB.out)) hb); clear HO_8; clear HB; revert n0_ n1_ n2_; intro HO_8 HO367 HB; (try clear hb); (try clear hb2); (try clear hk); (try clear hi); (try clear ho0)))
         (try simp only [Act.put,List.setIfInBounds_toArray,List.set_cons_zero,List.set_cons_succ])
         go_cut [85] (fun v85 wc => ∃ (kq : Nat) (x85_25 : Bool),v85 = .bool x85_25 ∧ Aside0 (spec_l9Read.j1 kq a0 t360 t361 t364 t365 x85_25 = some (r1,r2)) ∧ Aside0 (kq ≤ kj14) ∧ Aside0 (Kd.R (Kd.int .i64) 3 wc w.heap.size (fun k_ => some k_ ≠ (v366 : Value).ownBlock) v362 t360) ∧ Aside0 (Kd.R (Kd.int .i64) 3 wc w.heap.size (fun k_ => some k_ ≠ (v362 : Value).ownBlock) v366 t364) ∧ Aside0 (Below w.heap.size w wc))
         case first =>
          have H := HC26.out
          clear HC26
          by_cases c28 : t365 < 0
          ·rw [if_pos c28] at H
           have c28b0 : decide (t365 < 0) = true := decide_eq_true c28
           clear c28
           (first | rw [c28b0] | (simp only [i64_w,i32_w]; rw [c28b0]) | skip)
           have H' := QK H
           clear H
           go_wp2
           go_meet
           case rel => exact ⟨_,(true),(by first | rfl | (simp; done) | (simp [*]; done)),H',⟨by have := HJ14.out; first | omega | exact Nat.le_refl _⟩,⟨by (with_reducible repeat (first | apply QE | apply QF | apply QG)); exact Kd.R_mono HO_8.out (by first | exact fun k_ hk => hk.2 | exact fun k_ hk => hk)⟩,⟨by (with_reducible repeat (first | apply QE | apply QF | apply QG)); exact Kd.R_mono HO367.out (by first | exact fun k_ hk => hk.2 | exact fun k_ hk => hk)⟩,⟨by repeat (first | (with_reducible first | exact HB.out | apply QC | apply QB | apply QD) | exact HB.out)⟩⟩
          ·rw [if_neg c28] at H
           have c28b0 : decide (t365 < 0) = false := decide_eq_false c28
           clear c28
           (first | rw [c28b0] | (simp only [i64_w,i32_w]; rw [c28b0]) | skip)
           by_cases c29 : t365 ≥ (a0.size : Int)
           ·rw [if_pos c29] at H
            have c29b0 : decide ((a0.size : Int) ≤ t365) = true := decide_eq_true c29
            clear c29
            have H' := QK H
            clear H
            go_wp2
            go_meet
            case rel => exact ⟨_,(true),(by first | rfl | (simp; done) | (simp [*]; done)),H',⟨by have := HJ14.out; first | omega | exact Nat.le_refl _⟩,⟨by (with_reducible repeat (first | apply QE | apply QF | apply QG)); exact Kd.R_mono HO_8.out (by first | exact fun k_ hk => hk.2 | exact fun k_ hk => hk)⟩,⟨by (with_reducible repeat (first | apply QE | apply QF | apply QG)); exact Kd.R_mono HO367.out (by first | exact fun k_ hk => hk.2 | exact fun k_ hk => hk)⟩,⟨by repeat (first | (with_reducible first | exact HB.out | apply QC | apply QB | apply QD) | exact HB.out)⟩⟩
           ·rw [if_neg c29] at H
            have c29b0 : decide ((a0.size : Int) ≤ t365) = false := decide_eq_false c29
            clear c29
            by_cases c30 : 0 ≤ t365
            ·rw [if_pos c30] at H
             have c30b0 : decide (0 ≤ t365) = true := decide_eq_true c30
             clear c30
             by_cases c31 : t365 < (a0.size : Int)
             ·rw [if_pos c31] at H
              have c31b0 : decide (t365 < (a0.size : Int)) = true := decide_eq_true c31
              clear c31
              have H' := QK H
              clear H
              have p32 : 0 ≤ (t365 : Int) := of_decide_eq_true (by first | (with_reducible assumption) | assumption)
              have q32 : t365 < (a0.size : Int) := of_decide_eq_true (by first | (with_reducible assumption) | assumption)
              have hx32 := bt_at a0 t365
              replace p32 := eq_true p32
              replace q32 := eq_true q32
              go_wp2
              go_meet
              case rel => exact ⟨_,(((bt a0 t365) != 41)),(by first | rfl | (simp; done) | (simp [*]; done)),H',⟨by have := HJ14.out; first | omega | exact Nat.le_refl _⟩,⟨by (with_reducible repeat (first | apply QE | apply QF | apply QG)); exact Kd.R_mono HO_8.out (by first | exact fun k_ hk => hk.2 | exact fun k_ hk => hk)⟩,⟨by (with_reducible repeat (first | apply QE | apply QF | apply QG)); exact Kd.R_mono HO367.out (by first | exact fun k_ hk => hk.2 | exact fun k_ hk => hk)⟩,⟨by repeat (first | (with_reducible first | exact HB.out | apply QC | apply QB | apply QD) | exact HB.out)⟩⟩
             ·rw [if_neg c31] at H
              exact absurd H (by simp)
            ·rw [if_neg c30] at H
             exact absurd H (by simp)
         case rest =>
          clear HC26
          try clear c1
          try clear p1
          try clear q1
          try clear hx1
          try clear c2
          try clear p2
          try clear q2
          try clear hx2
          try clear c3
          try clear c3b0
          try clear p3
          try clear q3
          try clear hx3
          try clear c4
          try clear c4b0
          try clear c5
          try clear c5b0
          try clear c6
          try clear p6
          try clear q6
          try clear hx6
          try clear c7
          try clear c7b0
          try clear c7b1
          try clear c9
          try clear p12
          try clear q12
          try clear hx12
          try clear c13
          try clear c13b0
          try clear c13b1
          try clear c17
          try clear c17b0
          try clear c18
          try clear c18b0
          try clear c19
          try clear c19b0
          try clear c20
          try clear c20b0
          try clear p21
          try clear q21
          try clear hx21
          try clear c22
          try clear c22b0
          try clear c22b1
          try clear p23
          try clear q23
          try clear hx23
          try clear c24
          try clear c28
          try clear c28b0
          try clear c29
          try clear c29b0
          try clear c30
          try clear c30b0
          try clear c31
          try clear c31b0
          try clear p32
          try clear q32
          try clear hx32
          try clear p1
          try clear p12
          try clear p2
          try clear p21
          try clear p23
          try clear p32
          try clear p6
          try clear q1
          try clear q12
          try clear q2
          try clear q21
          try clear q23
          try clear q32
          try clear q6
          obtain ⟨kq,x85_25,rfl,HA,HJ25,HO_8,HO_10,HB⟩ := hcut
          cases kq with
          | zero => exact absurd HA.out (by simp [spec_l9Read.j1])
          | succ kj25 =>
           have H := HA.out
           clear HA
           simp only [spec_l9Read.j1] at H
           by_cases c33 : x85_25 = true
           ·subst c33
            have H1 : (some (([] : List Int),(-1))) = some (r1,r2) := by rw [if_pos rfl] at H; exact H
            clear H
            have H := H1
            clear H1
            simp only [Option.some.injEq,Prod.mk.injEq] at H
            obtain ⟨rfl,rfl⟩ := H
            go_wp2
            go_ret2
            exact ⟨_,by first | rfl | (simp [errW_none,errW_some] <;> rfl) | (simp [*,errW_none,errW_some] <;> rfl),by first | exact Kd.R_nil _ _ _ _ _ | exact Kd.N_nil _ _ _ _ _ | exact Kd.V_nil _ _ _ _ _ | exact Kd.Q_nil _ _ _ _ _ | exact Kd.S_nil _ _ _ _ _,by repeat (first | (with_reducible first | exact HB.out | apply QC | apply QB | apply QD) | exact HB.out)⟩
           ·replace c33 := Bool.eq_false_iff.mpr c33
            subst c33
            have H1 : (if 0 ≤ t361 then (if t361 < (a0.size : Int) then (if (bt a0 t361) = 124 then (if t360.length + t364.length < 17592186044416 then ((some (t360 ++ t364 : List Int)).bind fun y368 => (if y368.length < 17592186044416 then (some ((y368 ++ [(-3)]),wrap64 (t365 + 1))) else (none))) else (none)) else (if t360.length + t364.length < 17592186044416 then ((some (t360 ++ t364 : List Int)).bind fun y374 => (if y374.length < 17592186044416 then (some ((y374 ++ [(-2)]),wrap64 (t365 + 1))) else (none))) else (none))) else (none)) else (none)) = some (r1,r2) := by rw [if_neg (show ¬ (false = true) by decide)] at H; exact H
            clear H
            have H := H1
            clear H1
            by_cases c34 : 0 ≤ t361
            ·rw [if_pos c34] at H
             have c34b0 : decide (0 ≤ t361) = true := decide_eq_true c34
             clear c34
             by_cases c35 : t361 < (a0.size : Int)
             ·rw [if_pos c35] at H
              have c35b0 : decide (t361 < (a0.size : Int)) = true := decide_eq_true c35
              clear c35
              have p36 : 0 ≤ (t361 : Int) := of_decide_eq_true (by first | (with_reducible assumption) | assumption)
              have q36 : t361 < (a0.size : Int) := of_decide_eq_true (by first | (with_reducible assumption) | assumption)
              have hx36 := bt_at a0 t361
              replace p36 := eq_true p36
              replace q36 := eq_true q36
              obtain ⟨Ao41,co41,eo41⟩ := Kd.R_slice HO_10.out
              subst eo41
              by_cases c37 : (bt a0 t361) = 124
              ·rw [if_pos c37] at H
               have c37b0 : ((bt a0 t361) == 124) = true := beq_iff_eq.mpr c37
               have c37b1 : ((bt a0 t361) != 124) = false := bne_eq_false_iff_eq.mpr c37
               clear c37
               (try simp only [c37b0,c37b1])
               by_cases c38 : t360.length + t364.length < 17592186044416
               ·rw [if_pos c38] at H
                have LMc38 := QK c38
                clear c38
                obtain ⟨y368,hy368⟩ : ∃ y_ : List Int,y_ = (t360 ++ t364) := ⟨_,rfl⟩
                replace H : (if y368.length < 17592186044416 then (some ((y368 ++ [(-3)]),wrap64 (t365 + 1))) else (none)) = some (r1,r2) := by first | (rw [hy368]; with_reducible exact H) | (have H2_ := (Option.bind_some _ _).symm.trans H; rw [hy368]; with_reducible exact H2_) | (have H2_ := (Option.bind_some _ _).symm.trans H; with_reducible exact H2_) | with_reducible exact H | (rw [hy368]; exact H) | exact H
                have Ny368 := QK hy368
                clear hy368
                by_cases c39 : y368.length < 17592186044416
                ·rw [if_pos c39] at H
                 have LMc39 := QK c39
                 clear c39
                 obtain ⟨y371,hy371⟩ : ∃ y_ : List Int,y_ = (y368 ++ [(-3)]) := ⟨_,rfl⟩
                 replace H : (some (y371,wrap64 (t365 + 1))) = some (r1,r2) := by first | (rw [hy371]; with_reducible exact H) | (have H2_ := (Option.bind_some _ _).symm.trans H; rw [hy371]; with_reducible exact H2_) | (have H2_ := (Option.bind_some _ _).symm.trans H; with_reducible exact H2_) | with_reducible exact H | (rw [hy371]; exact H) | exact H
                 have Ny371 := QK hy371
                 clear hy371
                 simp only [Option.some.injEq,Prod.mk.injEq] at H
                 obtain ⟨rfl,rfl⟩ := H
                 go_wp2_with (first | ((with_reducible refine gate_builtin (b := .append) (xs := #[.tmp 90,.tmp 91]) rfl ?_); (try (refine gate_guard (by rfl) ?_; dsimp only)); at_builtin; refine Kd.R_append_rows (Kd.int .i64) (w0 := w) w.heap.size rfl (.tmp 90) (.tmp 91) 24 3 (.int .i64 0) 8 rfl Tryd.underlying24 info3 rfl (by decide) (by omega) v362 t360 t364 _ _ _ (fun k_ => some k_ ≠ (.slice Ao41 t364.length co41 : Value).ownBlock) (fun _ => False) rfl rfl ?aO ?aR (fun _ _ h => h) (fun _ h => h.elim) ?aF ?aB ?aS ?aL ?_; (case aR => repeat (first | exact (Kd.R_reads' HO_10.out).2.2 | (with_reducible refine Kd.C_alloc ?_ _) | (with_reducible refine Kd.C_drewN ?_ _) | (with_reducible refine Kd.C_drew ?_))); (case aB => exact (by repeat (first | (with_reducible first | exact HB.out | apply QC | apply QB | apply QD) | exact HB.out))); (case aF => exact (fun k_ hk => Kd.fresh' (Kd.R_lt (by (with_reducible repeat (first | apply QE | apply QF | apply QG)); exact HO_10.out)) k_ hk)); (case aO => exact (by (with_reducible repeat (first | apply QE | apply QF | apply QG)); exact HO_8.out)); (case aS => exact (QH (by repeat (first | (with_reducible first | exact HB.out | apply QC | apply QB | apply QD) | exact HB.out)))); (case aL => have := LMc38.out; omega); intro v369 w40 ho hb hg hat; rw [← Ny368.out] at ho; have n0_ := QK (Kd.R_after (ok := (fun _ => True)) (by (with_reducible repeat (first | apply QE | apply QF | apply QG)); exact Kd.R_mono HO_10.out (fun _ hk => ⟨trivial,hk⟩)) hg hat); have n1_ := QK (hb); have n2_ := QK (ho); clear HO_10; clear HB; clear HO_8; revert n0_ n1_ n2_; intro HO_10 HB HO370; clear ho hb hg hat) | ((with_reducible refine gate_builtin (b := .append) (xs := #[.tmp 92,.tmp 94]) rfl ?_); (try (refine gate_guard (by rfl) ?_; dsimp only)); at_builtin; refine Kd.R_append (Kd.int .i64) (w0 := w) w.heap.size rfl (.tmp 92) (.tmp 94) 24 3 (.int .i64 0) 8 rfl Tryd.underlying24 info3 rfl (by decide) (by omega) v369 y368 (-3) [.int .i64 (-3)] (fun k_ => some k_ ≠ (.slice Ao41 t364.length co41 : Value).ownBlock) (fun _ => False) rfl rfl ?aP (fun _ hk => hk.elim) ?aF ?aO ?aB ?aS ?aL ?_; (case aP => exact rfl); (case aB => exact (by repeat (first | (with_reducible first | exact HB.out | apply QC | apply QB | apply QD) | exact HB.out))); (case aF => exact (fun k_ hk => Kd.fresh' (Kd.R_lt (by (with_reducible repeat (first | apply QE | apply QF | apply QG)); exact HO_10.out)) k_ hk)); (case aO => exact (by (with_reducible repeat (first | apply QE | apply QF | apply QG)); exact HO370.out)); (case aS => exact (QH (by repeat (first | (with_reducible first | exact HB.out | apply QC | apply QB | apply QD) | exact HB.out)))); (case aL => have := LMc39.out; omega); intro v372 w42 ho hb hg hat; rw [← Ny371.out] at ho; have n0_ := QK (Kd.R_after (ok := (fun _ => True)) (by (with_reducible repeat (first | apply QE | apply QF | apply QG)); exact HO_10.out) hg hat); have n1_ := QK (hb); have n2_ := QK (ho); clear HO_10; clear HB; clear HO370; revert n0_ n1_ n2_; intro HO_10 HB HO373; clear ho hb hg hat))
                 go_ret2
                 exact ⟨_,by first | rfl | (simp [errW_none,errW_some] <;> rfl) | (simp [*,errW_none,errW_some] <;> rfl),by (with_reducible repeat (first | apply QE | apply QF | apply QG)); exact Kd.R_mono HO373.out (fun _ hk => trivial),by repeat (first | (with_reducible first | exact HB.out | apply QC | apply QB | apply QD) | exact HB.out)⟩
                ·rw [if_neg c39] at H
                 exact absurd H (by simp)
               ·rw [if_neg c38] at H
                exact absurd H (by simp)
              ·rw [if_neg c37] at H
               have c37b0 : ((bt a0 t361) == 124) = false := beq_eq_false_iff_ne.mpr c37
               have c37b1 : ((bt a0 t361) != 124) = true := bne_iff_ne.mpr c37
               (try simp only [c37b0,c37b1])
               by_cases c38 : t360.length + t364.length < 17592186044416
               ·rw [if_pos c38] at H
                have LMc38 := QK c38
                clear c38
                obtain ⟨y368,hy368⟩ : ∃ y_ : List Int,y_ = (t360 ++ t364) := ⟨_,rfl⟩
                replace H : (if y368.length < 17592186044416 then (some ((y368 ++ [(-2)]),wrap64 (t365 + 1))) else (none)) = some (r1,r2) := by first | (rw [hy368]; with_reducible exact H) | (have H2_ := (Option.bind_some _ _).symm.trans H; rw [hy368]; with_reducible exact H2_) | (have H2_ := (Option.bind_some _ _).symm.trans H; with_reducible exact H2_) | with_reducible exact H | (rw [hy368]; exact H) | exact H
                have Ny368 := QK hy368
                clear hy368
                by_cases c39 : y368.length < 17592186044416
                ·rw [if_pos c39] at H
                 have LMc39 := QK c39
                 clear c39
                 obtain ⟨y377,hy377⟩ : ∃ y_ : List Int,y_ = (y368 ++ [(-2)]) := ⟨_,rfl⟩
                 replace H : (some (y377,wrap64 (t365 + 1))) = some (r1,r2) := by first | (rw [hy377]; with_reducible exact H) | (have H2_ := (Option.bind_some _ _).symm.trans H; rw [hy377]; with_reducible exact H2_) | (have H2_ := (Option.bind_some _ _).symm.trans H; with_reducible exact H2_) | with_reducible exact H | (rw [hy377]; exact H) | exact H
                 have Ny377 := QK hy377
                 clear hy377
                 simp only [Option.some.injEq,Prod.mk.injEq] at H
                 obtain ⟨rfl,rfl⟩ := H
                 go_wp2_with (first | ((with_reducible refine gate_builtin (b := .append) (xs := #[.tmp 90,.tmp 91]) rfl ?_); (try (refine gate_guard (by rfl) ?_; dsimp only)); at_builtin; refine Kd.R_append_rows (Kd.int .i64) (w0 := w) w.heap.size rfl (.tmp 90) (.tmp 91) 24 3 (.int .i64 0) 8 rfl Tryd.underlying24 info3 rfl (by decide) (by omega) v362 t360 t364 _ _ _ (fun k_ => some k_ ≠ (.slice Ao41 t364.length co41 : Value).ownBlock) (fun _ => False) rfl rfl ?aO ?aR (fun _ _ h => h) (fun _ h => h.elim) ?aF ?aB ?aS ?aL ?_; (case aR => repeat (first | exact (Kd.R_reads' HO_10.out).2.2 | (with_reducible refine Kd.C_alloc ?_ _) | (with_reducible refine Kd.C_drewN ?_ _) | (with_reducible refine Kd.C_drew ?_))); (case aB => exact (by repeat (first | (with_reducible first | exact HB.out | apply QC | apply QB | apply QD) | exact HB.out))); (case aF => exact (fun k_ hk => Kd.fresh' (Kd.R_lt (by (with_reducible repeat (first | apply QE | apply QF | apply QG)); exact HO_10.out)) k_ hk)); (case aO => exact (by (with_reducible repeat (first | apply QE | apply QF | apply QG)); exact HO_8.out)); (case aS => exact (QH (by repeat (first | (with_reducible first | exact HB.out | apply QC | apply QB | apply QD) | exact HB.out)))); (case aL => have := LMc38.out; omega); intro v375 w45 ho hb hg hat; rw [← Ny368.out] at ho; have n0_ := QK (Kd.R_after (ok := (fun _ => True)) (by (with_reducible repeat (first | apply QE | apply QF | apply QG)); exact Kd.R_mono HO_10.out (fun _ hk => ⟨trivial,hk⟩)) hg hat); have n1_ := QK (hb); have n2_ := QK (ho); clear HO_10; clear HB; clear HO_8; revert n0_ n1_ n2_; intro HO_10 HB HO376; clear ho hb hg hat) | ((with_reducible refine gate_builtin (b := .append) (xs := #[.tmp 92,.tmp 94]) rfl ?_); (try (refine gate_guard (by rfl) ?_; dsimp only)); at_builtin; refine Kd.R_append (Kd.int .i64) (w0 := w) w.heap.size rfl (.tmp 92) (.tmp 94) 24 3 (.int .i64 0) 8 rfl Tryd.underlying24 info3 rfl (by decide) (by omega) v375 y368 (-2) [.int .i64 (-2)] (fun k_ => some k_ ≠ (.slice Ao41 t364.length co41 : Value).ownBlock) (fun _ => False) rfl rfl ?aP (fun _ hk => hk.elim) ?aF ?aO ?aB ?aS ?aL ?_; (case aP => exact rfl); (case aB => exact (by repeat (first | (with_reducible first | exact HB.out | apply QC | apply QB | apply QD) | exact HB.out))); (case aF => exact (fun k_ hk => Kd.fresh' (Kd.R_lt (by (with_reducible repeat (first | apply QE | apply QF | apply QG)); exact HO_10.out)) k_ hk)); (case aO => exact (by (with_reducible repeat (first | apply QE | apply QF | apply QG)); exact HO376.out)); (case aS => exact (QH (by repeat (first | (with_reducible first | exact HB.out | apply QC | apply QB | apply QD) | exact HB.out)))); (case aL => have := LMc39.out; omega); intro v378 w47 ho hb hg hat; rw [← Ny377.out] at ho; have n0_ := QK (Kd.R_after (ok := (fun _ => True)) (by (with_reducible repeat (first | apply QE | apply QF | apply QG)); exact HO_10.out) hg hat); have n1_ := QK (hb); have n2_ := QK (ho); clear HO_10; clear HB; clear HO376; revert n0_ n1_ n2_; intro HO_10 HB HO379; clear ho hb hg hat))
                 go_ret2
                 exact ⟨_,by first | rfl | (simp [errW_none,errW_some] <;> rfl) | (simp [*,errW_none,errW_some] <;> rfl),by (with_reducible repeat (first | apply QE | apply QF | apply QG)); exact Kd.R_mono HO379.out (fun _ hk => trivial),by repeat (first | (with_reducible first | exact HB.out | apply QC | apply QB | apply QD) | exact HB.out)⟩
                ·rw [if_neg c39] at H
                 exact absurd H (by simp)
               ·rw [if_neg c38] at H
                exact absurd H (by simp)
             ·rw [if_neg c35] at H
              exact absurd H (by simp)
            ·rw [if_neg c34] at H
             exact absurd H (by simp)
     ·rw [if_neg c13] at H
      have c13b0 : ((bt a0 a1) == 40) = false := beq_eq_false_iff_ne.mpr c13
      have c13b1 : ((bt a0 a1) != 40) = true := bne_iff_ne.mpr c13
      by_cases c49 : (bt a0 a1) = 114
      ·rw [if_pos c49] at H
       have c49b0 : ((bt a0 a1) == 114) = true := beq_iff_eq.mpr c49
       have c49b1 : ((bt a0 a1) != 114) = false := bne_eq_false_iff_eq.mpr c49
       clear c49
       obtain ⟨y380,hy380⟩ : ∃ y_ : List Int,y_ = (([400] : List Int)) := ⟨_,rfl⟩
       replace H : (some (y380,wrap64 (a1 + 1))) = some (r1,r2) := by first | (rw [hy380]; with_reducible exact H) | (have H2_ := (Option.bind_some _ _).symm.trans H; rw [hy380]; with_reducible exact H2_) | (have H2_ := (Option.bind_some _ _).symm.trans H; with_reducible exact H2_) | with_reducible exact H | (rw [hy380]; exact H) | exact H
       have Ny380 := QK hy380
       clear hy380
       simp only [Option.some.injEq,Prod.mk.injEq] at H
       obtain ⟨rfl,rfl⟩ := H
       have p6 : 0 ≤ (a1 : Int) := of_decide_eq_true (by first | (with_reducible assumption) | assumption)
       have q6 : a1 < (a0.size : Int) := of_decide_eq_true (by first | (with_reducible assumption) | assumption)
       have hx6 := bt_at a0 a1
       replace p6 := eq_true p6
       replace q6 := eq_true q6
       have p12 : 0 ≤ (a1 : Int) := of_decide_eq_true (by first | (with_reducible assumption) | assumption)
       have q12 : a1 < (a0.size : Int) := of_decide_eq_true (by first | (with_reducible assumption) | assumption)
       have hx12 := bt_at a0 a1
       replace p12 := eq_true p12
       replace q12 := eq_true q12
       have p48 : 0 ≤ (a1 : Int) := of_decide_eq_true (by first | (with_reducible assumption) | assumption)
       have q48 : a1 < (a0.size : Int) := of_decide_eq_true (by first | (with_reducible assumption) | assumption)
       have hx48 := bt_at a0 a1
       replace p48 := eq_true p48
       replace q48 := eq_true q48
       go_enter Tryd.func67,Tryd.ntmps67
       go_wp2_with (first | ((with_reducible refine gate_dst (N := 102) rfl ?_); (try (refine gate_guard (by rfl) ?_; dsimp only)); refine Kd.R_lit (Kd.int .i64) _ 3 ?hg (N := 102) ?hd (xs := ([400] : List Int)) (inner := [.int .i64 400]) (ok := fun _ => True) (okp := fun _ => True) ?hr ?hp (fun _ hk => hk) trivial (Below.refl _ _) (Nat.le_refl _) (by simp) ?_; (case hd => rfl); (case hg => rfl); (case hr => first | (go_simp; done) | (go_simp; rfl)); (case hp => exact (Reps.one (show Kd.M (Kd.int .i64) _ _ _ 400 [.int .i64 400] from rfl) (Reps.none _ _))); intro v381 w50 ho51 hb hg_ hnew_; clear hg_ hnew_; (first | rw [← Ny380.out] at ho51 | (simp only [Int.reduceToNat] at ho51; rw [← Ny380.out] at ho51)); have n0_ := QK (Kd.R_lower ho51 (QH (by repeat (first | (with_reducible first | exact HB.out | apply QC | apply QB | apply QD) | exact HB.out)))); have n1_ := QK (QJ (by repeat (first | (with_reducible first | exact HB.out | apply QC | apply QB | apply QD) | exact HB.out)) hb); clear HB; revert n0_ n1_; intro HO382 HB; clear hb ho51))
       go_ret2
       exact ⟨_,by first | rfl | (simp [errW_none,errW_some] <;> rfl) | (simp [*,errW_none,errW_some] <;> rfl),by (with_reducible repeat (first | apply QE | apply QF | apply QG)); exact HO382.out,by repeat (first | (with_reducible first | exact HB.out | apply QC | apply QB | apply QD) | exact HB.out)⟩
      ·rw [if_neg c49] at H
       have c49b0 : ((bt a0 a1) == 114) = false := beq_eq_false_iff_ne.mpr c49
       have c49b1 : ((bt a0 a1) != 114) = true := bne_iff_ne.mpr c49
       replace H := Option.bind_eq_some_iff.mp H
       obtain ⟨t383,A530,H⟩ := H
       replace H : (if t383 ≥ 0 then (some ((([wrap64 (100 + t383)] : List Int)),wrap64 (a1 + 1))) else ((spec_l9At.f k (⟨#[50,51,52,53,54,55,56,57,84,74,81,75,65]⟩ : ByteArray) (bt a0 a1)).bind fun t387 => (if t387 < 0 then (some (([] : List Int),(-1))) else (if (wrap64 (a1 + 1)) < (a0.size : Int) then (if 0 ≤ (wrap64 (a1 + 1)) then (if (bt a0 (wrap64 (a1 + 1))) = 43 then (some ((([wrap64 (300 + t387)] : List Int)),wrap64 (a1 + 2))) else (some ((([wrap64 (200 + t387)] : List Int)),wrap64 (a1 + 1)))) else (none)) else (some ((([wrap64 (200 + t387)] : List Int)),wrap64 (a1 + 1))))))) = some (r1,r2) := H
       have A53 := QK A530
       clear A530
       by_cases c54 : t383 ≥ 0
       ·rw [if_pos c54] at H
        have c54b0 : decide (0 ≤ t383) = true := decide_eq_true c54
        clear c54
        obtain ⟨y384,hy384⟩ : ∃ y_ : List Int,y_ = (([wrap64 (100 + t383)] : List Int)) := ⟨_,rfl⟩
        replace H : (some (y384,wrap64 (a1 + 1))) = some (r1,r2) := by first | (rw [hy384]; with_reducible exact H) | (have H2_ := (Option.bind_some _ _).symm.trans H; rw [hy384]; with_reducible exact H2_) | (have H2_ := (Option.bind_some _ _).symm.trans H; with_reducible exact H2_) | with_reducible exact H | (rw [hy384]; exact H) | exact H
        have Ny384 := QK hy384
        clear hy384
        simp only [Option.some.injEq,Prod.mk.injEq] at H
        obtain ⟨rfl,rfl⟩ := H
        have p6 : 0 ≤ (a1 : Int) := of_decide_eq_true (by first | (with_reducible assumption) | assumption)
        have q6 : a1 < (a0.size : Int) := of_decide_eq_true (by first | (with_reducible assumption) | assumption)
        have hx6 := bt_at a0 a1
        replace p6 := eq_true p6
        replace q6 := eq_true q6
        have p12 : 0 ≤ (a1 : Int) := of_decide_eq_true (by first | (with_reducible assumption) | assumption)
        have q12 : a1 < (a0.size : Int) := of_decide_eq_true (by first | (with_reducible assumption) | assumption)
        have hx12 := bt_at a0 a1
        replace p12 := eq_true p12
        replace q12 := eq_true q12
        have p48 : 0 ≤ (a1 : Int) := of_decide_eq_true (by first | (with_reducible assumption) | assumption)
        have q48 : a1 < (a0.size : Int) := of_decide_eq_true (by first | (with_reducible assumption) | assumption)
        have hx48 := bt_at a0 a1
        replace p48 := eq_true p48
        replace q48 := eq_true q48
        have p52 : 0 ≤ (a1 : Int) := of_decide_eq_true (by first | (with_reducible assumption) | assumption)
        have q52 : a1 < (a0.size : Int) := of_decide_eq_true (by first | (with_reducible assumption) | assumption)
        have hx52 := bt_at a0 a1
        replace p52 := eq_true p52
        replace q52 := eq_true q52
        go_enter Tryd.func67,Tryd.ntmps67
        go_wp2_with (first | ((with_reducible refine QI (f := 83) rfl ?_); refine goesL_ (some 108) rfl rfl Tryd.func83 (by kernel_rfl) rfl #[.string (⟨#[99,100,104,115]⟩ : ByteArray),.int .u8 (bt a0 a1)] rfl (by (try simp only [List.map_toArray,List.map_cons,List.map_nil]); first | done | rfl | (simp only [List.length_drop,List.length_take]; rfl)) ?_; (with_reducible refine (spec_l9At.calls k (⟨#[99,100,104,115]⟩ : ByteArray) (bt a0 a1) t383 _ A53.out).mono ?_); rintro e w' ⟨rfl,⟨nd,rfl⟩⟩; refine ⟨_,rfl,?_⟩) | ((with_reducible refine gate_dst (N := 113) rfl ?_); (try (refine gate_guard (by rfl) ?_; dsimp only)); refine Kd.R_lit (Kd.int .i64) _ 3 ?hg (N := 113) ?hd (xs := ([wrap64 (100 + t383)] : List Int)) (inner := [.int .i64 (wrap64 (100 + t383))]) (ok := fun _ => True) (okp := fun _ => True) ?hr ?hp (fun _ hk => hk) trivial (Below.refl _ _) (Nat.le_refl _) (by simp) ?_; (case hd => rfl); (case hg => rfl); (case hr => first | (go_simp; done) | (go_simp; rfl)); (case hp => exact (Reps.one (show Kd.M (Kd.int .i64) _ _ _ (wrap64 (100 + t383)) [.int .i64 (wrap64 (100 + t383))] from rfl) (Reps.none _ _))); intro v385 w55 ho56 hb hg_ hnew_; clear hg_ hnew_; (first | rw [← Ny384.out] at ho56 | (simp only [Int.reduceToNat] at ho56; rw [← Ny384.out] at ho56)); have n0_ := QK (Kd.R_lower ho56 (QH (by repeat (first | (with_reducible first | exact HB.out | apply QC | apply QB | apply QD) | exact HB.out)))); have n1_ := QK (QJ (by repeat (first | (with_reducible first | exact HB.out | apply QC | apply QB | apply QD) | exact HB.out)) hb); clear HB; revert n0_ n1_; intro HO386 HB; clear hb ho56))
        go_ret2
        exact ⟨_,by first | rfl | (simp [errW_none,errW_some] <;> rfl) | (simp [*,errW_none,errW_some] <;> rfl),by (with_reducible repeat (first | apply QE | apply QF | apply QG)); exact HO386.out,by repeat (first | (with_reducible first | exact HB.out | apply QC | apply QB | apply QD) | exact HB.out)⟩
       ·rw [if_neg c54] at H
        have c54b0 : decide (0 ≤ t383) = false := decide_eq_false c54
        clear c54
        replace H := Option.bind_eq_some_iff.mp H
        obtain ⟨t387,A580,H⟩ := H
        replace H : (if t387 < 0 then (some (([] : List Int),(-1))) else (if (wrap64 (a1 + 1)) < (a0.size : Int) then (if 0 ≤ (wrap64 (a1 + 1)) then (if (bt a0 (wrap64 (a1 + 1))) = 43 then (some ((([wrap64 (300 + t387)] : List Int)),wrap64 (a1 + 2))) else (some ((([wrap64 (200 + t387)] : List Int)),wrap64 (a1 + 1)))) else (none)) else (some ((([wrap64 (200 + t387)] : List Int)),wrap64 (a1 + 1))))) = some (r1,r2) := H
        have A58 := QK A580
        clear A580
        by_cases c59 : t387 < 0
        ·rw [if_pos c59] at H
         have c59b0 : decide (t387 < 0) = true := decide_eq_true c59
         clear c59
         simp only [Option.some.injEq,Prod.mk.injEq] at H
         obtain ⟨rfl,rfl⟩ := H
         have p6 : 0 ≤ (a1 : Int) := of_decide_eq_true (by first | (with_reducible assumption) | assumption)
         have q6 : a1 < (a0.size : Int) := of_decide_eq_true (by first | (with_reducible assumption) | assumption)
         have hx6 := bt_at a0 a1
         replace p6 := eq_true p6
         replace q6 := eq_true q6
         have p12 : 0 ≤ (a1 : Int) := of_decide_eq_true (by first | (with_reducible assumption) | assumption)
         have q12 : a1 < (a0.size : Int) := of_decide_eq_true (by first | (with_reducible assumption) | assumption)
         have hx12 := bt_at a0 a1
         replace p12 := eq_true p12
         replace q12 := eq_true q12
         have p48 : 0 ≤ (a1 : Int) := of_decide_eq_true (by first | (with_reducible assumption) | assumption)
         have q48 : a1 < (a0.size : Int) := of_decide_eq_true (by first | (with_reducible assumption) | assumption)
         have hx48 := bt_at a0 a1
         replace p48 := eq_true p48
         replace q48 := eq_true q48
         have p52 : 0 ≤ (a1 : Int) := of_decide_eq_true (by first | (with_reducible assumption) | assumption)
         have q52 : a1 < (a0.size : Int) := of_decide_eq_true (by first | (with_reducible assumption) | assumption)
         have hx52 := bt_at a0 a1
         replace p52 := eq_true p52
         replace q52 := eq_true q52
         go_enter Tryd.func67,Tryd.ntmps67
         go_wp2_with (first | ((with_reducible refine QI (f := 83) rfl ?_); refine goesL_ (some 108) rfl rfl Tryd.func83 (by kernel_rfl) rfl #[.string (⟨#[99,100,104,115]⟩ : ByteArray),.int .u8 (bt a0 a1)] rfl (by (try simp only [List.map_toArray,List.map_cons,List.map_nil]); first | done | rfl | (simp only [List.length_drop,List.length_take]; rfl)) ?_; (with_reducible refine (spec_l9At.calls k (⟨#[99,100,104,115]⟩ : ByteArray) (bt a0 a1) t383 _ A53.out).mono ?_); rintro e w' ⟨rfl,⟨nd,rfl⟩⟩; refine ⟨_,rfl,?_⟩; have p57 : 0 ≤ (a1 : Int) := of_decide_eq_true (by first | (with_reducible assumption) | assumption); have q57 : a1 < (a0.size : Int) := of_decide_eq_true (by first | (with_reducible assumption) | assumption); have hx57 := bt_at a0 a1; replace p57 := eq_true p57; replace q57 := eq_true q57) | ((with_reducible refine QI (f := 83) rfl ?_); refine goesL_ (some 119) rfl rfl Tryd.func83 (by kernel_rfl) rfl #[.string (⟨#[50,51,52,53,54,55,56,57,84,74,81,75,65]⟩ : ByteArray),.int .u8 (bt a0 a1)] rfl (by (try simp only [List.map_toArray,List.map_cons,List.map_nil]); first | done | rfl | (simp only [List.length_drop,List.length_take]; rfl)) ?_; (with_reducible refine (spec_l9At.calls k (⟨#[50,51,52,53,54,55,56,57,84,74,81,75,65]⟩ : ByteArray) (bt a0 a1) t387 _ A58.out).mono ?_); rintro e w' ⟨rfl,⟨nd,rfl⟩⟩; refine ⟨_,rfl,?_⟩))
         go_ret2
         exact ⟨_,by first | rfl | (simp [errW_none,errW_some] <;> rfl) | (simp [*,errW_none,errW_some] <;> rfl),by first | exact Kd.R_nil _ _ _ _ _ | exact Kd.N_nil _ _ _ _ _ | exact Kd.V_nil _ _ _ _ _ | exact Kd.Q_nil _ _ _ _ _ | exact Kd.S_nil _ _ _ _ _,by repeat (first | (with_reducible first | exact HB.out | apply QC | apply QB | apply QD) | exact HB.out)⟩
        ·rw [if_neg c59] at H
         have c59b0 : decide (t387 < 0) = false := decide_eq_false c59
         clear c59
         by_cases c60 : (wrap64 (a1 + 1)) < (a0.size : Int)
         ·rw [if_pos c60] at H
          have c60b0 : decide ((wrap64 (a1 + 1)) < (a0.size : Int)) = true := decide_eq_true c60
          clear c60
          obtain ⟨ji61,hji61⟩ : ∃ j_ : Int,(wrap64 (a1 + 1)) = j_ := ⟨_,rfl⟩
          replace H : (if 0 ≤ (ji61) then (if (bt a0 (ji61)) = 43 then (some ((([wrap64 (300 + t387)] : List Int)),wrap64 (a1 + 2))) else (some ((([wrap64 (200 + t387)] : List Int)),ji61))) else (none)) = some (r1,r2) := by first | (rw [hji61] at H; exact H) | (simp only [hji61] at H ⊢; exact H)
          (try rw [hji61] at c60b0)
          (try rw [hji61] at A53)
          (try rw [hji61] at A58)
          have hji61w : (IntKind.i64.wrap (a1 + 1)) = ji61 := (i64_w _).trans hji61
          by_cases c62 : 0 ≤ (ji61)
          ·rw [if_pos c62] at H
           have c62b0 : decide (0 ≤ (ji61)) = true := decide_eq_true c62
           clear c62
           have p6 : 0 ≤ (a1 : Int) := of_decide_eq_true (by first | (with_reducible assumption) | assumption)
           have q6 : a1 < (a0.size : Int) := of_decide_eq_true (by first | (with_reducible assumption) | assumption)
           have hx6 := bt_at a0 a1
           replace p6 := eq_true p6
           replace q6 := eq_true q6
           have p12 : 0 ≤ (a1 : Int) := of_decide_eq_true (by first | (with_reducible assumption) | assumption)
           have q12 : a1 < (a0.size : Int) := of_decide_eq_true (by first | (with_reducible assumption) | assumption)
           have hx12 := bt_at a0 a1
           replace p12 := eq_true p12
           replace q12 := eq_true q12
           have p48 : 0 ≤ (a1 : Int) := of_decide_eq_true (by first | (with_reducible assumption) | assumption)
           have q48 : a1 < (a0.size : Int) := of_decide_eq_true (by first | (with_reducible assumption) | assumption)
           have hx48 := bt_at a0 a1
           replace p48 := eq_true p48
           replace q48 := eq_true q48
           have p52 : 0 ≤ (a1 : Int) := of_decide_eq_true (by first | (with_reducible assumption) | assumption)
           have q52 : a1 < (a0.size : Int) := of_decide_eq_true (by first | (with_reducible assumption) | assumption)
           have hx52 := bt_at a0 a1
           replace p52 := eq_true p52
           replace q52 := eq_true q52
           by_cases c64 : (bt a0 (ji61)) = 43
           ·rw [if_pos c64] at H
            have c64b0 : ((bt a0 (ji61)) == 43) = true := beq_iff_eq.mpr c64
            have c64b1 : ((bt a0 (ji61)) != 43) = false := bne_eq_false_iff_eq.mpr c64
            clear c64
            obtain ⟨y388,hy388⟩ : ∃ y_ : List Int,y_ = (([wrap64 (300 + t387)] : List Int)) := ⟨_,rfl⟩
            replace H : (some (y388,wrap64 (a1 + 2))) = some (r1,r2) := by first | (rw [hy388]; with_reducible exact H) | (have H2_ := (Option.bind_some _ _).symm.trans H; rw [hy388]; with_reducible exact H2_) | (have H2_ := (Option.bind_some _ _).symm.trans H; with_reducible exact H2_) | with_reducible exact H | (rw [hy388]; exact H) | exact H
            have Ny388 := QK hy388
            clear hy388
            simp only [Option.some.injEq,Prod.mk.injEq] at H
            obtain ⟨rfl,rfl⟩ := H
            (try simp only [c64b0,c64b1])
            go_enter Tryd.func67,Tryd.ntmps67
            go_wp2_with (first | ((with_reducible refine QI (f := 83) rfl ?_); refine goesL_ (some 108) rfl rfl Tryd.func83 (by kernel_rfl) rfl #[.string (⟨#[99,100,104,115]⟩ : ByteArray),.int .u8 (bt a0 a1)] rfl (by (try simp only [List.map_toArray,List.map_cons,List.map_nil]); first | done | rfl | (simp only [List.length_drop,List.length_take]; rfl)) ?_; (with_reducible refine (spec_l9At.calls k (⟨#[99,100,104,115]⟩ : ByteArray) (bt a0 a1) t383 _ A53.out).mono ?_); rintro e w' ⟨rfl,⟨nd,rfl⟩⟩; refine ⟨_,rfl,?_⟩; have p57 : 0 ≤ (a1 : Int) := of_decide_eq_true (by first | (with_reducible assumption) | assumption); have q57 : a1 < (a0.size : Int) := of_decide_eq_true (by first | (with_reducible assumption) | assumption); have hx57 := bt_at a0 a1; replace p57 := eq_true p57; replace q57 := eq_true q57) | ((with_reducible refine QI (f := 83) rfl ?_); refine goesL_ (some 119) rfl rfl Tryd.func83 (by kernel_rfl) rfl #[.string (⟨#[50,51,52,53,54,55,56,57,84,74,81,75,65]⟩ : ByteArray),.int .u8 (bt a0 a1)] rfl (by (try simp only [List.map_toArray,List.map_cons,List.map_nil]); first | done | rfl | (simp only [List.length_drop,List.length_take]; rfl)) ?_; (with_reducible refine (spec_l9At.calls k (⟨#[50,51,52,53,54,55,56,57,84,74,81,75,65]⟩ : ByteArray) (bt a0 a1) t387 _ A58.out).mono ?_); rintro e w' ⟨rfl,⟨nd,rfl⟩⟩; refine ⟨_,rfl,?_⟩; have p63 : 0 ≤ ((ji61) : Int) := of_decide_eq_true (by first | (with_reducible assumption) | assumption); have q63 : (ji61) < (a0.size : Int) := of_decide_eq_true (by first | (with_reducible assumption) | assumption); have hx63 := bt_at a0 (ji61); replace p63 := eq_true p63; replace q63 := eq_true q63) | ((with_reducible refine gate_dst (N := 138) rfl ?_); (try (refine gate_guard (by rfl) ?_; dsimp only)); refine Kd.R_lit (Kd.int .i64) _ 3 ?hg (N := 138) ?hd (xs := ([wrap64 (300 + t387)] : List Int)) (inner := [.int .i64 (wrap64 (300 + t387))]) (ok := fun _ => True) (okp := fun _ => True) ?hr ?hp (fun _ hk => hk) trivial (Below.refl _ _) (Nat.le_refl _) (by simp) ?_; (case hd => rfl); (case hg => rfl); (case hr => first | (go_simp; done) | (go_simp; rfl)); (case hp => exact (Reps.one (show Kd.M (Kd.int .i64) _ _ _ (wrap64 (300 + t387)) [.int .i64 (wrap64 (300 + t387))] from rfl) (Reps.none _ _))); intro v389 w65 ho66 hb hg_ hnew_; clear hg_ hnew_; (first | rw [← Ny388.out] at ho66 | (simp only [Int.reduceToNat] at ho66; rw [← Ny388.out] at ho66)); have n0_ := QK (Kd.R_lower ho66 (QH (by repeat (first | (with_reducible first | exact HB.out | apply QC | apply QB | apply QD) | exact HB.out)))); have n1_ := QK (QJ (by repeat (first | (with_reducible first | exact HB.out | apply QC | apply QB | apply QD) | exact HB.out)) hb); clear HB; revert n0_ n1_; intro HO390 HB; clear hb ho66))
            go_ret2
            exact ⟨_,by first | rfl | (simp [errW_none,errW_some] <;> rfl) | (simp only [← hji61]; first | rfl | (simp [errW_none,errW_some] <;> rfl)) | (simp [*,errW_none,errW_some] <;> rfl),by (with_reducible repeat (first | apply QE | apply QF | apply QG)); exact HO390.out,by repeat (first | (with_reducible first | exact HB.out | apply QC | apply QB | apply QD) | exact HB.out)⟩
           ·rw [if_neg c64] at H
            have c64b0 : ((bt a0 (ji61)) == 43) = false := beq_eq_false_iff_ne.mpr c64
            have c64b1 : ((bt a0 (ji61)) != 43) = true := bne_iff_ne.mpr c64
            obtain ⟨y391,hy391⟩ : ∃ y_ : List Int,y_ = (([wrap64 (200 + t387)] : List Int)) := ⟨_,rfl⟩
            replace H : (some (y391,ji61)) = some (r1,r2) := by first | (rw [hy391]; with_reducible exact H) | (have H2_ := (Option.bind_some _ _).symm.trans H; rw [hy391]; with_reducible exact H2_) | (have H2_ := (Option.bind_some _ _).symm.trans H; with_reducible exact H2_) | with_reducible exact H | (rw [hy391]; exact H) | exact H
            have Ny391 := QK hy391
            clear hy391
            simp only [Option.some.injEq,Prod.mk.injEq] at H
            obtain ⟨rfl,rfl⟩ := H
            (try simp only [c64b0,c64b1])
            go_enter Tryd.func67,Tryd.ntmps67
            go_wp2_with (first | ((with_reducible refine QI (f := 83) rfl ?_); refine goesL_ (some 108) rfl rfl Tryd.func83 (by kernel_rfl) rfl #[.string (⟨#[99,100,104,115]⟩ : ByteArray),.int .u8 (bt a0 a1)] rfl (by (try simp only [List.map_toArray,List.map_cons,List.map_nil]); first | done | rfl | (simp only [List.length_drop,List.length_take]; rfl)) ?_; (with_reducible refine (spec_l9At.calls k (⟨#[99,100,104,115]⟩ : ByteArray) (bt a0 a1) t383 _ A53.out).mono ?_); rintro e w' ⟨rfl,⟨nd,rfl⟩⟩; refine ⟨_,rfl,?_⟩; have p57 : 0 ≤ (a1 : Int) := of_decide_eq_true (by first | (with_reducible assumption) | assumption); have q57 : a1 < (a0.size : Int) := of_decide_eq_true (by first | (with_reducible assumption) | assumption); have hx57 := bt_at a0 a1; replace p57 := eq_true p57; replace q57 := eq_true q57) | ((with_reducible refine QI (f := 83) rfl ?_); refine goesL_ (some 119) rfl rfl Tryd.func83 (by kernel_rfl) rfl #[.string (⟨#[50,51,52,53,54,55,56,57,84,74,81,75,65]⟩ : ByteArray),.int .u8 (bt a0 a1)] rfl (by (try simp only [List.map_toArray,List.map_cons,List.map_nil]); first | done | rfl | (simp only [List.length_drop,List.length_take]; rfl)) ?_; (with_reducible refine (spec_l9At.calls k (⟨#[50,51,52,53,54,55,56,57,84,74,81,75,65]⟩ : ByteArray) (bt a0 a1) t387 _ A58.out).mono ?_); rintro e w' ⟨rfl,⟨nd,rfl⟩⟩; refine ⟨_,rfl,?_⟩; have p63 : 0 ≤ ((ji61) : Int) := of_decide_eq_true (by first | (with_reducible assumption) | assumption); have q63 : (ji61) < (a0.size : Int) := of_decide_eq_true (by first | (with_reducible assumption) | assumption); have hx63 := bt_at a0 (ji61); replace p63 := eq_true p63; replace q63 := eq_true q63) | ((with_reducible refine gate_dst (N := 143) rfl ?_); (try (refine gate_guard (by rfl) ?_; dsimp only)); refine Kd.R_lit (Kd.int .i64) _ 3 ?hg (N := 143) ?hd (xs := ([wrap64 (200 + t387)] : List Int)) (inner := [.int .i64 (wrap64 (200 + t387))]) (ok := fun _ => True) (okp := fun _ => True) ?hr ?hp (fun _ hk => hk) trivial (Below.refl _ _) (Nat.le_refl _) (by simp) ?_; (case hd => rfl); (case hg => rfl); (case hr => first | (go_simp; done) | (go_simp; rfl)); (case hp => exact (Reps.one (show Kd.M (Kd.int .i64) _ _ _ (wrap64 (200 + t387)) [.int .i64 (wrap64 (200 + t387))] from rfl) (Reps.none _ _))); intro v392 w67 ho68 hb hg_ hnew_; clear hg_ hnew_; (first | rw [← Ny391.out] at ho68 | (simp only [Int.reduceToNat] at ho68; rw [← Ny391.out] at ho68)); have n0_ := QK (Kd.R_lower ho68 (QH (by repeat (first | (with_reducible first | exact HB.out | apply QC | apply QB | apply QD) | exact HB.out)))); have n1_ := QK (QJ (by repeat (first | (with_reducible first | exact HB.out | apply QC | apply QB | apply QD) | exact HB.out)) hb); clear HB; revert n0_ n1_; intro HO393 HB; clear hb ho68))
            go_ret2
            exact ⟨_,by first | rfl | (simp [errW_none,errW_some] <;> rfl) | (simp only [← hji61]; first | rfl | (simp [errW_none,errW_some] <;> rfl)) | (simp [*,errW_none,errW_some] <;> rfl),by (with_reducible repeat (first | apply QE | apply QF | apply QG)); exact HO393.out,by repeat (first | (with_reducible first | exact HB.out | apply QC | apply QB | apply QD) | exact HB.out)⟩
          ·rw [if_neg c62] at H
           exact absurd H (by simp)
         ·rw [if_neg c60] at H
          have c60b0 : decide ((wrap64 (a1 + 1)) < (a0.size : Int)) = false := decide_eq_false c60
          clear c60
          obtain ⟨y394,hy394⟩ : ∃ y_ : List Int,y_ = (([wrap64 (200 + t387)] : List Int)) := ⟨_,rfl⟩
          replace H : (some (y394,wrap64 (a1 + 1))) = some (r1,r2) := by first | (rw [hy394]; with_reducible exact H) | (have H2_ := (Option.bind_some _ _).symm.trans H; rw [hy394]; with_reducible exact H2_) | (have H2_ := (Option.bind_some _ _).symm.trans H; with_reducible exact H2_) | with_reducible exact H | (rw [hy394]; exact H) | exact H
          have Ny394 := QK hy394
          clear hy394
          simp only [Option.some.injEq,Prod.mk.injEq] at H
          obtain ⟨rfl,rfl⟩ := H
          have p6 : 0 ≤ (a1 : Int) := of_decide_eq_true (by first | (with_reducible assumption) | assumption)
          have q6 : a1 < (a0.size : Int) := of_decide_eq_true (by first | (with_reducible assumption) | assumption)
          have hx6 := bt_at a0 a1
          replace p6 := eq_true p6
          replace q6 := eq_true q6
          have p12 : 0 ≤ (a1 : Int) := of_decide_eq_true (by first | (with_reducible assumption) | assumption)
          have q12 : a1 < (a0.size : Int) := of_decide_eq_true (by first | (with_reducible assumption) | assumption)
          have hx12 := bt_at a0 a1
          replace p12 := eq_true p12
          replace q12 := eq_true q12
          have p48 : 0 ≤ (a1 : Int) := of_decide_eq_true (by first | (with_reducible assumption) | assumption)
          have q48 : a1 < (a0.size : Int) := of_decide_eq_true (by first | (with_reducible assumption) | assumption)
          have hx48 := bt_at a0 a1
          replace p48 := eq_true p48
          replace q48 := eq_true q48
          have p52 : 0 ≤ (a1 : Int) := of_decide_eq_true (by first | (with_reducible assumption) | assumption)
          have q52 : a1 < (a0.size : Int) := of_decide_eq_true (by first | (with_reducible assumption) | assumption)
          have hx52 := bt_at a0 a1
          replace p52 := eq_true p52
          replace q52 := eq_true q52
          go_enter Tryd.func67,Tryd.ntmps67
          go_wp2_with (first | ((with_reducible refine QI (f := 83) rfl ?_); refine goesL_ (some 108) rfl rfl Tryd.func83 (by kernel_rfl) rfl #[.string (⟨#[99,100,104,115]⟩ : ByteArray),.int .u8 (bt a0 a1)] rfl (by (try simp only [List.map_toArray,List.map_cons,List.map_nil]); first | done | rfl | (simp only [List.length_drop,List.length_take]; rfl)) ?_; (with_reducible refine (spec_l9At.calls k (⟨#[99,100,104,115]⟩ : ByteArray) (bt a0 a1) t383 _ A53.out).mono ?_); rintro e w' ⟨rfl,⟨nd,rfl⟩⟩; refine ⟨_,rfl,?_⟩; have p57 : 0 ≤ (a1 : Int) := of_decide_eq_true (by first | (with_reducible assumption) | assumption); have q57 : a1 < (a0.size : Int) := of_decide_eq_true (by first | (with_reducible assumption) | assumption); have hx57 := bt_at a0 a1; replace p57 := eq_true p57; replace q57 := eq_true q57) | ((with_reducible refine QI (f := 83) rfl ?_); refine goesL_ (some 119) rfl rfl Tryd.func83 (by kernel_rfl) rfl #[.string (⟨#[50,51,52,53,54,55,56,57,84,74,81,75,65]⟩ : ByteArray),.int .u8 (bt a0 a1)] rfl (by (try simp only [List.map_toArray,List.map_cons,List.map_nil]); first | done | rfl | (simp only [List.length_drop,List.length_take]; rfl)) ?_; (with_reducible refine (spec_l9At.calls k (⟨#[50,51,52,53,54,55,56,57,84,74,81,75,65]⟩ : ByteArray) (bt a0 a1) t387 _ A58.out).mono ?_); rintro e w' ⟨rfl,⟨nd,rfl⟩⟩; refine ⟨_,rfl,?_⟩) | ((with_reducible refine gate_dst (N := 143) rfl ?_); (try (refine gate_guard (by rfl) ?_; dsimp only)); refine Kd.R_lit (Kd.int .i64) _ 3 ?hg (N := 143) ?hd (xs := ([wrap64 (200 + t387)] : List Int)) (inner := [.int .i64 (wrap64 (200 + t387))]) (ok := fun _ => True) (okp := fun _ => True) ?hr ?hp (fun _ hk => hk) trivial (Below.refl _ _) (Nat.le_refl _) (by simp) ?_; (case hd => rfl); (case hg => rfl); (case hr => first | (go_simp; done) | (go_simp; rfl)); (case hp => exact (Reps.one (show Kd.M (Kd.int .i64) _ _ _ (wrap64 (200 + t387)) [.int .i64 (wrap64 (200 + t387))] from rfl) (Reps.none _ _))); intro v395 w69 ho70 hb hg_ hnew_; clear hg_ hnew_; (first | rw [← Ny394.out] at ho70 | (simp only [Int.reduceToNat] at ho70; rw [← Ny394.out] at ho70)); have n0_ := QK (Kd.R_lower ho70 (QH (by repeat (first | (with_reducible first | exact HB.out | apply QC | apply QB | apply QD) | exact HB.out)))); have n1_ := QK (QJ (by repeat (first | (with_reducible first | exact HB.out | apply QC | apply QB | apply QD) | exact HB.out)) hb); clear HB; revert n0_ n1_; intro HO396 HB; clear hb ho70))
          go_ret2
          exact ⟨_,by first | rfl | (simp [errW_none,errW_some] <;> rfl) | (simp [*,errW_none,errW_some] <;> rfl),by (with_reducible repeat (first | apply QE | apply QF | apply QG)); exact HO396.out,by repeat (first | (with_reducible first | exact HB.out | apply QC | apply QB | apply QD) | exact HB.out)⟩
   ·rw [if_neg c5] at H
    exact absurd H (by simp)
  ·rw [if_neg c4] at H
   exact absurd H (by simp)

/-! ### spec_ParsePattern: function 43 -/
def spec_ParsePattern.f (k : Nat) (a0 : ByteArray) : Option (List Int × Bool) := if (a0.size : Int) > 200 then (some ((([] : List Int)), false)) else ((spec_l9Read.f k a0 0).bind fun bt400 => (if a0.toList = ([] : List UInt8) then (some ((([] : List Int)), false)) else (if bt400.2 = (a0.size : Int) then ((spec_PatternText.f k bt400.1).bind fun t407 => (if t407.toList = a0.toList then (some (bt400.1, true)) else (some ((([] : List Int)), false)))) else (some ((([] : List Int)), false)))))
theorem spec_ParsePattern.mono : ∀ a0 k, LeO (spec_ParsePattern.f k a0) (spec_ParsePattern.f (k + 1) a0) := by
 intro a0 k
 unfold spec_ParsePattern.f
 repeat' first
   | (with_reducible exact spec_PatternText.mono _ _)
   | (with_reducible exact spec_l9Read.mono _ _ _)
   | (with_reducible exact LeO.refl _)
   | (with_reducible exact LeO.none _)
   | (with_reducible refine LeO.ite ?_ ?_)
   | (with_reducible refine LeO.bind ?_ (fun _ => ?_))
   | exact spec_PatternText.mono _ _
   | exact spec_l9Read.mono _ _ _
   | exact LeO.none _
   | refine LeO.ite ?_ ?_
   | refine LeO.bind ?_ (fun _ => ?_)
set_option maxHeartbeats 8000000 in
set_option maxRecDepth 100000 in
theorem spec_ParsePattern.calls (k : Nat) (a0 : ByteArray) (r1 : List Int) (r2 : Bool) (w : World) (h : spec_ParsePattern.f k a0 = some (r1, r2)) :
  Calls Tryd.prog 43 #[.string a0] w fun e w' => ∃ v0_ : Value,e = .returned (.tuple #[v0_,.bool r2]) ∧ Kd.R (Kd.int .i64) 3 w' w.heap.size (fun _ => True) v0_ r1 ∧ Below w.heap.size w w' := by
 have HB := QK (Below.refl w.heap.size w)
 have H : (if (a0.size : Int) > 200 then (some ((([] : List Int)),false)) else ((spec_l9Read.f k a0 0).bind fun bt400 => (if a0.toList = ([] : List UInt8) then (some ((([] : List Int)),false)) else (if bt400.2 = (a0.size : Int) then ((spec_PatternText.f k bt400.1).bind fun t407 => (if t407.toList = a0.toList then (some (bt400.1,true)) else (some ((([] : List Int)),false)))) else (some ((([] : List Int)),false)))))) = some (r1,r2) := h
 clear h
 by_cases c2 : (a0.size : Int) > 200
 ·rw [if_pos c2] at H
  have c2b0 : decide (200 < (a0.size : Int)) = true := decide_eq_true c2
  have c2b1 : decide (200 < a0.size) = true := decide_eq_true (by omega)
  clear c2
  obtain ⟨y397,hy397⟩ : ∃ y_ : List Int,y_ = (([] : List Int)) := ⟨_,rfl⟩
  replace H : (some (y397,false)) = some (r1,r2) := by first | (rw [hy397]; with_reducible exact H) | (have H2_ := (Option.bind_some _ _).symm.trans H; rw [hy397]; with_reducible exact H2_) | (have H2_ := (Option.bind_some _ _).symm.trans H; with_reducible exact H2_) | with_reducible exact H | (rw [hy397]; exact H) | exact H
  have Ny397 := QK hy397
  clear hy397
  simp only [Option.some.injEq,Prod.mk.injEq] at H
  obtain ⟨rfl,rfl⟩ := H
  go_enter Tryd.func43,Tryd.ntmps43
  go_wp2_with (first | ((with_reducible refine gate_dst (N := 9) rfl ?_); (try (refine gate_guard (by rfl) ?_; dsimp only)); refine Kd.R_lit (Kd.int .i64) _ 3 ?hg (N := 9) ?hd (xs := ([] : List Int)) (inner := []) (ok := fun _ => True) (okp := fun _ => True) ?hr ?hp (fun _ hk => hk) trivial (Below.refl _ _) (Nat.le_refl _) (by simp) ?_; (case hd => rfl); (case hg => rfl); (case hr => first | (go_simp; done) | (go_simp; rfl)); (case hp => exact (Reps.none _ _)); intro v398 w3 ho4 hb hg_ hnew_; clear hg_ hnew_; (first | rw [← Ny397.out] at ho4 | (simp only [Int.reduceToNat] at ho4; rw [← Ny397.out] at ho4)); have n0_ := QK (Kd.R_lower ho4 (QH (by repeat (first | (with_reducible first | exact HB.out | apply QC | apply QB | apply QD) | exact HB.out)))); have n1_ := QK (QJ (by repeat (first | (with_reducible first | exact HB.out | apply QC | apply QB | apply QD) | exact HB.out)) hb); clear HB; revert n0_ n1_; intro HO399 HB; clear hb ho4))
  go_ret2
  exact ⟨_,by first | rfl | (simp [errW_none,errW_some] <;> rfl) | (simp [*,errW_none,errW_some] <;> rfl),by (with_reducible repeat (first | apply QE | apply QF | apply QG)); exact HO399.out,by repeat (first | (with_reducible first | exact HB.out | apply QC | apply QB | apply QD) | exact HB.out)⟩
 ·rw [if_neg c2] at H
  have c2b0 : decide (200 < (a0.size : Int)) = false := decide_eq_false c2
  have c2b1 : decide (200 < a0.size) = false := decide_eq_false (by omega)
  clear c2
  replace H := Option.bind_eq_some_iff.mp H
  obtain ⟨⟨t400,t401⟩,A50,H⟩ := H
  replace H : (if a0.toList = ([] : List UInt8) then (some ((([] : List Int)),false)) else (if t401 = (a0.size : Int) then ((spec_PatternText.f k t400).bind fun t407 => (if t407.toList = a0.toList then (some (t400,true)) else (some ((([] : List Int)),false)))) else (some ((([] : List Int)),false)))) = some (r1,r2) := H
  have A5 := QK A50
  clear A50
  by_cases c6 : a0.toList = ([] : List UInt8)
  ·rw [if_pos c6] at H
   have c6b0 : (a0.toList == ([] : List UInt8)) = true := beq_iff_eq.mpr c6
   have c6b1 : (a0.toList != ([] : List UInt8)) = false := bne_eq_false_iff_eq.mpr c6
   clear c6
   obtain ⟨y397,hy397⟩ : ∃ y_ : List Int,y_ = (([] : List Int)) := ⟨_,rfl⟩
   replace H : (some (y397,false)) = some (r1,r2) := by first | (rw [hy397]; with_reducible exact H) | (have H2_ := (Option.bind_some _ _).symm.trans H; rw [hy397]; with_reducible exact H2_) | (have H2_ := (Option.bind_some _ _).symm.trans H; with_reducible exact H2_) | with_reducible exact H | (rw [hy397]; exact H) | exact H
   have Ny397 := QK hy397
   clear hy397
   simp only [Option.some.injEq,Prod.mk.injEq] at H
   obtain ⟨rfl,rfl⟩ := H
   go_enter Tryd.func43,Tryd.ntmps43
   go_wp2_with (first | ((with_reducible refine QI (f := 67) rfl ?_); refine goesL_ (some 12) rfl rfl Tryd.func67 (by kernel_rfl) rfl #[.string a0,.int .i64 0] rfl (by (try simp only [List.map_toArray,List.map_cons,List.map_nil]); first | done | rfl | (simp only [List.length_drop,List.length_take]; rfl)) ?_; (with_reducible refine (spec_l9Read.calls k a0 0 t400 t401 _ A5.out).mono ?_); rintro e w7 ⟨v402,rfl,ho0,hb⟩; refine ⟨_,rfl,?_⟩; have n0_ := QK (Kd.R_lower ho0 (QH (by repeat (first | (with_reducible first | exact HB.out | apply QC | apply QB | apply QD) | exact HB.out)))); have n1_ := QK (QJ (by repeat (first | (with_reducible first | exact HB.out | apply QC | apply QB | apply QD) | exact HB.out)) hb); clear HB; revert n0_ n1_; intro HO403 HB; (try clear hb); (try clear hb2); (try clear hk); (try clear hi); (try clear ho0)) | ((with_reducible refine gate_dst (N := 29) rfl ?_); (try (refine gate_guard (by rfl) ?_; dsimp only)); refine Kd.R_lit (Kd.int .i64) _ 3 ?hg (N := 29) ?hd (xs := ([] : List Int)) (inner := []) (ok := fun _ => True) (okp := fun _ => True) ?hr ?hp (fun _ hk => hk) trivial (Below.refl _ _) (Nat.le_refl _) (by simp) ?_; (case hd => rfl); (case hg => rfl); (case hr => first | (go_simp; done) | (go_simp; rfl)); (case hp => exact (Reps.none _ _)); intro v405 w8 ho9 hb hg_ hnew_; clear hg_ hnew_; (first | rw [← Ny397.out] at ho9 | (simp only [Int.reduceToNat] at ho9; rw [← Ny397.out] at ho9)); have n0_ := QK (Kd.R_elder' (by (with_reducible repeat (first | apply QE | apply QF | apply QG)); exact HO403.out) (Kd.R_base ho9) hb); have n1_ := QK (Kd.R_lower (Kd.R_new' ho9 (Kd.R_lt (by (with_reducible repeat (first | apply QE | apply QF | apply QG)); exact HO403.out))) (QH (by repeat (first | (with_reducible first | exact HB.out | apply QC | apply QB | apply QD) | exact HB.out)))); have n2_ := QK (QJ (by repeat (first | (with_reducible first | exact HB.out | apply QC | apply QB | apply QD) | exact HB.out)) hb); clear HO403; clear HB; revert n0_ n1_ n2_; intro HO403 HO406 HB; clear hb ho9))
   go_ret2
   exact ⟨_,by first | rfl | (simp [errW_none,errW_some] <;> rfl) | (simp [*,errW_none,errW_some] <;> rfl),by (with_reducible repeat (first | apply QE | apply QF | apply QG)); exact Kd.R_mono HO406.out (fun _ hk => trivial),by repeat (first | (with_reducible first | exact HB.out | apply QC | apply QB | apply QD) | exact HB.out)⟩
  ·rw [if_neg c6] at H
   have c6b0 : (a0.toList == ([] : List UInt8)) = false := beq_eq_false_iff_ne.mpr c6
   have c6b1 : (a0.toList != ([] : List UInt8)) = true := bne_iff_ne.mpr c6
   by_cases c10 : t401 = (a0.size : Int)
   ·rw [if_pos c10] at H
    have c10b0 : (t401 == (a0.size : Int)) = true := beq_iff_eq.mpr c10
    have c10b1 : (t401 != (a0.size : Int)) = false := bne_eq_false_iff_eq.mpr c10
    clear c10
    replace H := Option.bind_eq_some_iff.mp H
    obtain ⟨t407,A110,H⟩ := H
    replace H : (if t407.toList = a0.toList then (some (t400,true)) else (some ((([] : List Int)),false))) = some (r1,r2) := H
    have A11 := QK A110
    clear A110
    by_cases c12 : t407.toList = a0.toList
    ·rw [if_pos c12] at H
     have c12b0 : (t407.toList == a0.toList) = true := beq_iff_eq.mpr c12
     have c12b1 : (t407.toList != a0.toList) = false := bne_eq_false_iff_eq.mpr c12
     clear c12
     simp only [Option.some.injEq,Prod.mk.injEq] at H
     obtain ⟨rfl,rfl⟩ := H
     go_enter Tryd.func43,Tryd.ntmps43
     go_wp2_with (first | ((with_reducible refine QI (f := 67) rfl ?_); refine goesL_ (some 12) rfl rfl Tryd.func67 (by kernel_rfl) rfl #[.string a0,.int .i64 0] rfl (by (try simp only [List.map_toArray,List.map_cons,List.map_nil]); first | done | rfl | (simp only [List.length_drop,List.length_take]; rfl)) ?_; (with_reducible refine (spec_l9Read.calls k a0 0 t400 t401 _ A5.out).mono ?_); rintro e w13 ⟨v402,rfl,ho0,hb⟩; refine ⟨_,rfl,?_⟩; have n0_ := QK (Kd.R_lower ho0 (QH (by repeat (first | (with_reducible first | exact HB.out | apply QC | apply QB | apply QD) | exact HB.out)))); have n1_ := QK (QJ (by repeat (first | (with_reducible first | exact HB.out | apply QC | apply QB | apply QD) | exact HB.out)) hb); clear HB; revert n0_ n1_; intro HO403 HB; (try clear hb); (try clear hb2); (try clear hk); (try clear hi); (try clear ho0); obtain ⟨Ao14,co14,eo14⟩ := Kd.R_slice HO403.out; subst eo14) | (go_at_call 68; (with_reducible refine (spec_PatternText.calls k _ _ t400 t407 _ ?side1 ?side2 A11.out).mono ?_); (case side1 => repeat (first | exact (Kd.R_reads' HO403.out).2.2 | (with_reducible refine Kd.C_alloc ?_ _) | (with_reducible refine Kd.C_drewN ?_ _) | (with_reducible refine Kd.C_drew ?_))); (case side2 => exact (Kd.R_reads' HO403.out).2.1); rintro e w15 ⟨rfl,hb⟩; have n0_ := QK (Kd.R_below (by (with_reducible repeat (first | apply QE | apply QF | apply QG)); exact HO403.out) hb); have n1_ := QK (QJ (by repeat (first | (with_reducible first | exact HB.out | apply QC | apply QB | apply QD) | exact HB.out)) hb); clear HO403; clear HB; revert n0_ n1_; intro HO403 HB; (try clear hb); (try clear hb2); (try clear hk); (try clear hi)))
     go_ret2
     exact ⟨_,by first | rfl | (simp [errW_none,errW_some] <;> rfl) | (simp [*,errW_none,errW_some] <;> rfl),by (with_reducible repeat (first | apply QE | apply QF | apply QG)); exact HO403.out,by repeat (first | (with_reducible first | exact HB.out | apply QC | apply QB | apply QD) | exact HB.out)⟩
    ·rw [if_neg c12] at H
     have c12b0 : (t407.toList == a0.toList) = false := beq_eq_false_iff_ne.mpr c12
     have c12b1 : (t407.toList != a0.toList) = true := bne_iff_ne.mpr c12
     obtain ⟨y397,hy397⟩ : ∃ y_ : List Int,y_ = (([] : List Int)) := ⟨_,rfl⟩
     replace H : (some (y397,false)) = some (r1,r2) := by first | (rw [hy397]; with_reducible exact H) | (have H2_ := (Option.bind_some _ _).symm.trans H; rw [hy397]; with_reducible exact H2_) | (have H2_ := (Option.bind_some _ _).symm.trans H; with_reducible exact H2_) | with_reducible exact H | (rw [hy397]; exact H) | exact H
     have Ny397 := QK hy397
     clear hy397
     simp only [Option.some.injEq,Prod.mk.injEq] at H
     obtain ⟨rfl,rfl⟩ := H
     go_enter Tryd.func43,Tryd.ntmps43
     go_wp2_with (first | ((with_reducible refine QI (f := 67) rfl ?_); refine goesL_ (some 12) rfl rfl Tryd.func67 (by kernel_rfl) rfl #[.string a0,.int .i64 0] rfl (by (try simp only [List.map_toArray,List.map_cons,List.map_nil]); first | done | rfl | (simp only [List.length_drop,List.length_take]; rfl)) ?_; (with_reducible refine (spec_l9Read.calls k a0 0 t400 t401 _ A5.out).mono ?_); rintro e w16 ⟨v402,rfl,ho0,hb⟩; refine ⟨_,rfl,?_⟩; have n0_ := QK (Kd.R_lower ho0 (QH (by repeat (first | (with_reducible first | exact HB.out | apply QC | apply QB | apply QD) | exact HB.out)))); have n1_ := QK (QJ (by repeat (first | (with_reducible first | exact HB.out | apply QC | apply QB | apply QD) | exact HB.out)) hb); clear HB; revert n0_ n1_; intro HO403 HB; (try clear hb); (try clear hb2); (try clear hk); (try clear hi); (try clear ho0); obtain ⟨Ao17,co17,eo17⟩ := Kd.R_slice HO403.out; subst eo17) | (go_at_call 68; (with_reducible refine (spec_PatternText.calls k _ _ t400 t407 _ ?side1 ?side2 A11.out).mono ?_); (case side1 => repeat (first | exact (Kd.R_reads' HO403.out).2.2 | (with_reducible refine Kd.C_alloc ?_ _) | (with_reducible refine Kd.C_drewN ?_ _) | (with_reducible refine Kd.C_drew ?_))); (case side2 => exact (Kd.R_reads' HO403.out).2.1); rintro e w18 ⟨rfl,hb⟩; have n0_ := QK (Kd.R_below (by (with_reducible repeat (first | apply QE | apply QF | apply QG)); exact HO403.out) hb); have n1_ := QK (QJ (by repeat (first | (with_reducible first | exact HB.out | apply QC | apply QB | apply QD) | exact HB.out)) hb); clear HO403; clear HB; revert n0_ n1_; intro HO403 HB; (try clear hb); (try clear hb2); (try clear hk); (try clear hi)) | ((with_reducible refine gate_dst (N := 29) rfl ?_); (try (refine gate_guard (by rfl) ?_; dsimp only)); refine Kd.R_lit (Kd.int .i64) _ 3 ?hg (N := 29) ?hd (xs := ([] : List Int)) (inner := []) (ok := fun _ => True) (okp := fun _ => True) ?hr ?hp (fun _ hk => hk) trivial (Below.refl _ _) (Nat.le_refl _) (by simp) ?_; (case hd => rfl); (case hg => rfl); (case hr => first | (go_simp; done) | (go_simp; rfl)); (case hp => exact (Reps.none _ _)); intro v409 w19 ho20 hb hg_ hnew_; clear hg_ hnew_; (first | rw [← Ny397.out] at ho20 | (simp only [Int.reduceToNat] at ho20; rw [← Ny397.out] at ho20)); have n0_ := QK (Kd.R_elder' (by (with_reducible repeat (first | apply QE | apply QF | apply QG)); exact HO403.out) (Kd.R_base ho20) hb); have n1_ := QK (Kd.R_lower (Kd.R_new' ho20 (Kd.R_lt (by (with_reducible repeat (first | apply QE | apply QF | apply QG)); exact HO403.out))) (QH (by repeat (first | (with_reducible first | exact HB.out | apply QC | apply QB | apply QD) | exact HB.out)))); have n2_ := QK (QJ (by repeat (first | (with_reducible first | exact HB.out | apply QC | apply QB | apply QD) | exact HB.out)) hb); clear HO403; clear HB; revert n0_ n1_ n2_; intro HO403 HO410 HB; clear hb ho20))
     go_ret2
     exact ⟨_,by first | rfl | (simp [errW_none,errW_some] <;> rfl) | (simp [*,errW_none,errW_some] <;> rfl),by (with_reducible repeat (first | apply QE | apply QF | apply QG)); exact Kd.R_mono HO410.out (fun _ hk => trivial),by repeat (first | (with_reducible first | exact HB.out | apply QC | apply QB | apply QD) | exact HB.out)⟩
   ·rw [if_neg c10] at H
    have c10b0 : (t401 == (a0.size : Int)) = false := beq_eq_false_iff_ne.mpr c10
    have c10b1 : (t401 != (a0.size : Int)) = true := bne_iff_ne.mpr c10
    obtain ⟨y397,hy397⟩ : ∃ y_ : List Int,y_ = (([] : List Int)) := ⟨_,rfl⟩
    replace H : (some (y397,false)) = some (r1,r2) := by first | (rw [hy397]; with_reducible exact H) | (have H2_ := (Option.bind_some _ _).symm.trans H; rw [hy397]; with_reducible exact H2_) | (have H2_ := (Option.bind_some _ _).symm.trans H; with_reducible exact H2_) | with_reducible exact H | (rw [hy397]; exact H) | exact H
    have Ny397 := QK hy397
    clear hy397
    simp only [Option.some.injEq,Prod.mk.injEq] at H
    obtain ⟨rfl,rfl⟩ := H
    go_enter Tryd.func43,Tryd.ntmps43
    go_wp2_with (first | ((with_reducible refine QI (f := 67) rfl ?_); refine goesL_ (some 12) rfl rfl Tryd.func67 (by kernel_rfl) rfl #[.string a0,.int .i64 0] rfl (by (try simp only [List.map_toArray,List.map_cons,List.map_nil]); first | done | rfl | (simp only [List.length_drop,List.length_take]; rfl)) ?_; (with_reducible refine (spec_l9Read.calls k a0 0 t400 t401 _ A5.out).mono ?_); rintro e w21 ⟨v402,rfl,ho0,hb⟩; refine ⟨_,rfl,?_⟩; have n0_ := QK (Kd.R_lower ho0 (QH (by repeat (first | (with_reducible first | exact HB.out | apply QC | apply QB | apply QD) | exact HB.out)))); have n1_ := QK (QJ (by repeat (first | (with_reducible first | exact HB.out | apply QC | apply QB | apply QD) | exact HB.out)) hb); clear HB; revert n0_ n1_; intro HO403 HB; (try clear hb); (try clear hb2); (try clear hk); (try clear hi); (try clear ho0)) | ((with_reducible refine gate_dst (N := 29) rfl ?_); (try (refine gate_guard (by rfl) ?_; dsimp only)); refine Kd.R_lit (Kd.int .i64) _ 3 ?hg (N := 29) ?hd (xs := ([] : List Int)) (inner := []) (ok := fun _ => True) (okp := fun _ => True) ?hr ?hp (fun _ hk => hk) trivial (Below.refl _ _) (Nat.le_refl _) (by simp) ?_; (case hd => rfl); (case hg => rfl); (case hr => first | (go_simp; done) | (go_simp; rfl)); (case hp => exact (Reps.none _ _)); intro v412 w22 ho23 hb hg_ hnew_; clear hg_ hnew_; (first | rw [← Ny397.out] at ho23 | (simp only [Int.reduceToNat] at ho23; rw [← Ny397.out] at ho23)); have n0_ := QK (Kd.R_elder' (by (with_reducible repeat (first | apply QE | apply QF | apply QG)); exact HO403.out) (Kd.R_base ho23) hb); have n1_ := QK (Kd.R_lower (Kd.R_new' ho23 (Kd.R_lt (by (with_reducible repeat (first | apply QE | apply QF | apply QG)); exact HO403.out))) (QH (by repeat (first | (with_reducible first | exact HB.out | apply QC | apply QB | apply QD) | exact HB.out)))); have n2_ := QK (QJ (by repeat (first | (with_reducible first | exact HB.out | apply QC | apply QB | apply QD) | exact HB.out)) hb); clear HO403; clear HB; revert n0_ n1_ n2_; intro HO403 HO413 HB; clear hb ho23))
    go_ret2
    exact ⟨_,by first | rfl | (simp [errW_none,errW_some] <;> rfl) | (simp [*,errW_none,errW_some] <;> rfl),by (with_reducible repeat (first | apply QE | apply QF | apply QG)); exact Kd.R_mono HO413.out (fun _ hk => trivial),by repeat (first | (with_reducible first | exact HB.out | apply QC | apply QB | apply QD) | exact HB.out)⟩

end Go.Proofs.YtdfmobcocaijpaaDoor.QFnExactParseRules
